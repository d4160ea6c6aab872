/- Lemmas and contracts (AmDl Grp Bas Arm Lst Exa); conditions: none. -/
import Derived.Test.YtpilblmncpeelaaK04
import Derived.Test.YtpilblmncpeelaaK05
import Derived.Test.YtpilblmncpeelaaK07
set_option linter.unusedVariables false
set_option linter.unusedSimpArgs false
set_option linter.unusedVariables false
set_option linter.unusedSimpArgs false
namespace Go.Proofs.Ytpilblmncpeelaa.AM
section
variable {C : Cx} {n0 : Nat}
end
/-- The slots l alone. -/
def flt (l : List Nat) : Env → Env
  | [] => []
  | (t, x) :: e => bif l.any (Nat.beq t) then (t, x) :: flt l e else flt l e
/-- A loop, only the slots 'keep' kept. -/
theorem loop_c {P : Program} {Γ : Cons} {τ : Tab} {X : Ctx} {rs : List ResultVar} {As : Nat → St → Prop} (hB : Base P Γ τ) (hD : DrawOk P Γ τ) {c : Code} {k : List KI} {ctx : List (List KI)} {s : St} {N n0 : Nat} (hN : X.N = N) (h0 : X.n0 = n0) {H : Hold} (hH : H = stdH) (keep : List Nat) {ι : Type} (n : Nat) (at' : ι → List Atom) (μ : ι → Nat) (i0 : ι) (hi : AllG (matchSt H n0 (mkI n0 true c (k :: ctx) rs ⟨flt keep s.env, s.heap, s.next⟩ (at' i0)) s))
    {n1 : Nat} {r : AV} {nw : List Blk} {u : Heap} (round : ∀ (I : ι → St), (∀ i, I i = mkI n0 true c (k :: ctx) rs ⟨flt keep s.env, s.heap, s.next⟩ (at' i)) → ∀ i, ((finish H Γ τ N n rs (k :: ctx) (arun H Γ τ N n [.code c] (mkI n0 true c (k :: ctx) rs ⟨flt keep s.env, s.heap, s.next⟩ (at' i)))).chk (matchEx H n1 r nw u)).satC P X τ rs (fun x hp => ∃ π, Exp π n1 r nw u x hp) (upd As (ctx.length + 1) (fun s' => ∃ j, μ j < μ i ∧ AllG (matchSt H n0 (I j) s')))) : (Fin.loop c (k :: ctx) s).satC P X τ rs (fun x hp => ∃ π, Exp π n1 r nw u x hp) As :=
  loop_m hB hD hN h0 hH n (fun i => mkI n0 true c (k :: ctx) rs ⟨flt keep s.env, s.heap, s.next⟩ (at' i)) μ i0 hi (round _ fun _ => rfl)
end Go.Proofs.Ytpilblmncpeelaa.AM

set_option linter.unusedVariables false
set_option linter.unusedSimpArgs false
set_option maxRecDepth 100000
set_option maxHeartbeats 4000000
set_option cbv.maxSteps 3000000
namespace Go.Proofs.Ytpilblmncpeelaa.AM
/- Groups of charges: their draws, and small functions; conditions: none. -/
structure Grp where
  c : Int
  k : Int
  a : Int
  t : Int
deriving Inhabited
def inB (x a b : Int) : Bool := decide (a ≤ x ∧ x ≤ b)
theorem c_l4Beast (k : Int)  : Con Try.prog 85 [.lit (.int .i64 k)] [] (.lit (.bool (decide (k ≤ 3)))) [] := by
  have hB : Base Try.prog (tabΓ []) tab := base_of tabOk (ents_nil)
  refine con_eq (N := 5) hB (draw_ok hB mixed) Try.func85 rfl rfl _ _ 50 (by simp) (by intro x hx; simp only [List.mem_cons, List.not_mem_nil, or_false] at hx; rcases hx with rfl <;> (first | (first | exact .lit | exact blq_ok 4 rfl) | exact .vec (fun j hj x hx => by simp [vrow] at hx; subst hx; exact .lit))) (by (first | exact .lit | exact blq_ok 4 rfl)) ?_
  intro H hH
  conv in finish _ _ _ _ _ _ _ _ => cbv
  subst hH
  simp only [Fin.sat0, Fin.sat1, stdH, Option.some.injEq, AV.lit.injEq, AV.agg.injEq, AV.tup.injEq, List.cons.injEq, Value.bool.injEq, Value.int.injEq, AllP, and_true, true_and, eq_self, decide_eq_true_eq, decide_eq_false_iff_not, Bool.not_eq_true', Bool.not_eq_false', peta, ncast]
noncomputable def e_l4Beast : Entry := pureE 85 fun H a => match a with
  | [.lit (.int .i64 k)] => some (.lit (.bool (H Bool fun _ => (decide (k ≤ 3)))), [])
  | _ => none
theorem eok_l4Beast : EntryOk Try.prog e_l4Beast := pureE_ok (by unfold isBody; kernel_rfl) (by
  intro a r ob e hob
  split at e
  · simp only [Option.some.injEq, Prod.mk.injEq] at e
    obtain ⟨rfl, rfl⟩ := e
    exact c_l4Beast _
  · simp at e)
theorem c_l1In (x : Int) (a : Int) (b : Int)  : Con Try.prog 27 [.lit (.int .i64 x), .lit (.int .i64 a), .lit (.int .i64 b)] [] (.lit (.bool (inB x a b))) [] := by
  have hB : Base Try.prog (tabΓ []) tab := base_of tabOk (ents_nil)
  refine con_eq (N := 15) hB (draw_ok hB mixed) Try.func27 rfl rfl _ _ 50 (by simp) (by intro x hx; simp only [List.mem_cons, List.not_mem_nil, or_false] at hx; rcases hx with rfl | rfl | rfl <;> (first | (first | exact .lit | exact blq_ok 4 rfl) | exact .vec (fun j hj x hx => by simp [vrow] at hx; subst hx; exact .lit))) (by (first | exact .lit | exact blq_ok 4 rfl)) ?_
  intro H hH
  conv in finish _ _ _ _ _ _ _ _ => cbv
  subst hH
  simp only [Fin.sat0, Fin.sat1, stdH, Option.some.injEq, AV.lit.injEq, AV.agg.injEq, AV.tup.injEq, List.cons.injEq, Value.bool.injEq, Value.int.injEq, AllP, and_true, true_and, eq_self, decide_eq_true_eq, decide_eq_false_iff_not, Bool.not_eq_true', Bool.not_eq_false', peta, ncast]
  have e : (bif decide (a ≤ x) then decide (x ≤ b) else false) = inB x a b := by unfold inB; cases h1 : decide (a ≤ x) <;> simp_all <;> omega
  exact e
noncomputable def e_l1In : Entry := pureE 27 fun H a => match a with
  | [.lit (.int .i64 x), .lit (.int .i64 a), .lit (.int .i64 b)] => some (.lit (.bool (H Bool fun _ => (inB x a b))), [])
  | _ => none
theorem eok_l1In : EntryOk Try.prog e_l1In := pureE_ok (by unfold isBody; kernel_rfl) (by
  intro a r ob e hob
  split at e
  · simp only [Option.some.injEq, Prod.mk.injEq] at e
    obtain ⟨rfl, rfl⟩ := e
    exact c_l1In _ _ _
  · simp at e)
def enc_group (H : Hold) (y : Unit → Grp) : AV := .agg [.lit (.int .i64 (H Int fun _ => ((y ()).c))), .lit (.int .i64 (H Int fun _ => ((y ()).k))), .lit (.int .i64 (H Int fun _ => ((y ()).a))), .lit (.int .i64 (H Int fun _ => ((y ()).t)))]
theorem x_group (c : Cd)  (st : DS) (h : Bd 8 st)  : ∃ y, Drw Try.prog 56 73 8 enc_group (fun g => (1 ≤ g.c ∧ g.c ≤ 6) ∧ (1 ≤ g.k ∧ g.k ≤ 8) ∧ (if g.k ≤ 3 then 1 ≤ g.a ∧ g.a ≤ 2 else g.a = 0) ∧ (1 ≤ g.t ∧ g.t ≤ 9)) c [] st y := by
  have hB : Base Try.prog (tabΓ [e_among c, e_pick c, e_tincture c, e_l4Beast]) tab := base_of tabOk (ents_cons (eok_among c) <| ents_cons (eok_pick c) <| ents_cons (eok_tincture c) <| ents_cons eok_l4Beast <| ents_nil)
  refine drw_ok (N := 21) hB (draw_ok hB mixed) Try.func73 rfl rfl _ _ _ _ _ _ _ 100 (by simp) (by intro x hx; simp at hx; (first | done | (subst hx; first | (first | exact .lit | exact blq_ok 4 rfl) | exact .vec (fun j hj x hx => by simp [vrow] at hx; subst hx; exact .lit)) | (rcases hx with rfl | rfl <;> (first | exact .lit | exact blq_ok 4 rfl)) | (rcases hx with rfl | rfl | rfl <;> (first | exact .lit | exact blq_ok 4 rfl)))) ?_
  intro H hH
  conv in finish _ _ _ _ _ _ _ _ => cbv
  subst hH
  simp only [Fin.sat0, Fin.sat1, stdH, Option.some.injEq, AV.lit.injEq, AV.agg.injEq, AV.tup.injEq, List.cons.injEq, Value.bool.injEq, Value.int.injEq, AllP, and_true, true_and, eq_self, decide_eq_true_eq, decide_eq_false_iff_not, Bool.not_eq_true', Bool.not_eq_false', peta, ncast]
  refine ⟨⟨h.mono, vrow_ok _ rfl (by decide), by decide, by decide⟩, ?_⟩
  have h2 : Bd 2 st := h.mono
  have q1 := p_amongL c [.lit (.int .i64 1), .lit (.int .i64 1), .lit (.int .i64 2), .lit (.int .i64 3), .lit (.int .i64 3), .lit (.int .i64 4), .lit (.int .i64 5), .lit (.int .i64 6)] 8 st (by first | assumption | exact Bd.mono (by assumption)) rfl (by decide) (by decide); generalize F_among c 8 (ints (rowsOf 1 [.lit (.int .i64 1), .lit (.int .i64 1), .lit (.int .i64 2), .lit (.int .i64 3), .lit (.int .i64 3), .lit (.int .i64 4), .lit (.int .i64 5), .lit (.int .i64 6)])) st = y1 at *; simp only [List.map_cons, List.map_nil, intOf, List.mem_cons, List.not_mem_nil, or_false] at q1; obtain ⟨a1, q1⟩ := q1
  have b1 : Bd 6 y1.2 := a1.bd h
  obtain ⟨a2, m2, n2⟩ := p_pick c 8 y1.2 b1.mono
  generalize F_pick c 8 y1.2 = y2 at *
  have b2 : Bd 4 y2.2 := a2.bd b1
  obtain ⟨a3, m3, n3⟩ := p_tincture c y2.2 b2.mono
  generalize F_tincture c y2.2 = y3 at *
  have b3 : Bd 2 y3.2 := a3.bd b2
  obtain ⟨a4, m4, n4⟩ := p_pick c 2 y3.2 b3.mono
  generalize F_pick c 2 y3.2 = y4 at *
  have w2 : IntKind.i64.wrap (1 + y2.1) = 1 + y2.1 := wi (by omega) (by omega)
  have w4 : IntKind.i64.wrap (1 + y4.1) = 1 + y4.1 := wi (by omega) (by omega)
  simp only [w2, w4]
  refine ⟨b1.mono, b2.mono, fun hk => ⟨b3, (⟨y1.1, 1 + y2.1, 1 + y4.1, y3.1⟩, y4.2), .refl, ?_, rfl, (((a1.t a2).t a3).t a4).le (by decide), ?_⟩, fun hk => ⟨(⟨y1.1, 1 + y2.1, 0, y3.1⟩, y3.2), .refl, ?_, rfl, ((a1.t a2).t a3).le (by decide), ?_⟩⟩
  · unfold enc_group; (first | exact .lit | exact blq_ok 4 rfl)
  · simp only; rw [if_pos hk]; omega
  · unfold enc_group; (first | exact .lit | exact blq_ok 4 rfl)
  · dsimp only
    refine ⟨⟨by omega, by omega⟩, ⟨by omega, by omega⟩, ?_, by omega, by omega⟩
    rw [if_neg hk]
noncomputable def F_group (c : Cd)  (st : DS) : Grp × DS := drw Try.prog 56 73 8 enc_group (fun g => (1 ≤ g.c ∧ g.c ≤ 6) ∧ (1 ≤ g.k ∧ g.k ≤ 8) ∧ (if g.k ≤ 3 then 1 ≤ g.a ∧ g.a ≤ 2 else g.a = 0) ∧ (1 ≤ g.t ∧ g.t ≤ 9)) c [] st
noncomputable def e_group (c : Cd) : Entry := curE 56 73 8 c fun H st a => match a with
  | [] => some (enc_group H (fun _ => (F_group c  st).1), (fun _ => (F_group c  st).2), [])
  | _ => none
theorem eok_group (c : Cd) : EntryOk Try.prog (e_group c) := curE_ok (by unfold isBody; kernel_rfl) (by
  intro st a r y ob e hb hob
  split at e
  · simp only [Option.some.injEq, Prod.mk.injEq] at e
    obtain ⟨rfl, rfl, rfl⟩ := e
    exact ⟨(drw_spec (x_group c  st hb)).1, (by intro x hx; cases hx), (by unfold enc_group; (first | exact .lit | exact blq_ok 4 rfl))⟩
  · simp at e)
theorem p_group (c : Cd)  (st : DS) (h : Bd 8 st)  : Adv 8 st (F_group c  st).2 ∧ (fun g => (1 ≤ g.c ∧ g.c ≤ 6) ∧ (1 ≤ g.k ∧ g.k ≤ 8) ∧ (if g.k ≤ 3 then 1 ≤ g.a ∧ g.a ≤ 2 else g.a = 0) ∧ (1 ≤ g.t ∧ g.t ≤ 9)) (F_group c  st).1 := (drw_spec (x_group c  st h )).2
end Go.Proofs.Ytpilblmncpeelaa.AM

set_option linter.unusedVariables false
set_option linter.unusedSimpArgs false
set_option maxRecDepth 100000
set_option maxHeartbeats 4000000
set_option cbv.maxSteps 3000000
namespace Go.Proofs.Ytpilblmncpeelaa.AM
/- Small functions; conditions: none. -/
theorem c_l1Most (a : Int) (b : Int)  : Con Try.prog 102 [.lit (.int .i64 a), .lit (.int .i64 b)] [] (.lit (.int .i64 (max a b))) [] := by
  have hB : Base Try.prog (tabΓ []) tab := base_of tabOk (ents_nil)
  refine con_eq (N := 10) hB (draw_ok hB mixed) Try.func102 rfl rfl _ _ 50 (by simp) (by intro x hx; simp only [List.mem_cons, List.not_mem_nil, or_false] at hx; rcases hx with rfl | rfl <;> (first | (first | exact .lit | exact blq_ok 4 rfl) | exact .vec (fun j hj x hx => by simp [vrow] at hx; subst hx; exact .lit))) (by (first | exact .lit | exact blq_ok 4 rfl)) ?_
  intro H hH
  conv in finish _ _ _ _ _ _ _ _ => cbv
  subst hH
  simp only [Fin.sat0, Fin.sat1, stdH, Option.some.injEq, AV.lit.injEq, AV.agg.injEq, AV.tup.injEq, List.cons.injEq, Value.bool.injEq, Value.int.injEq, AllP, and_true, true_and, eq_self, decide_eq_true_eq, decide_eq_false_iff_not, Bool.not_eq_true', Bool.not_eq_false', peta, ncast]
  omega
noncomputable def e_l1Most : Entry := pureE 102 fun H a => match a with
  | [.lit (.int .i64 a), .lit (.int .i64 b)] => some (.lit (.int .i64 (H Int fun _ => (max a b))), [])
  | _ => none
theorem eok_l1Most : EntryOk Try.prog e_l1Most := pureE_ok (by unfold isBody; kernel_rfl) (by
  intro a r ob e hob
  split at e
  · simp only [Option.some.injEq, Prod.mk.injEq] at e
    obtain ⟨rfl, rfl⟩ := e
    exact c_l1Most _ _
  · simp at e)
theorem c_inside (x : Int) (a : Int) (b : Int)  : Con Try.prog 24 [.lit (.int .i64 x), .lit (.int .i64 a), .lit (.int .i64 b)] [] (.lit (.bool (inB x a b))) [] := by
  have hB : Base Try.prog (tabΓ []) tab := base_of tabOk (ents_nil)
  refine con_eq (N := 15) hB (draw_ok hB mixed) Try.func24 rfl rfl _ _ 50 (by simp) (by intro x hx; simp only [List.mem_cons, List.not_mem_nil, or_false] at hx; rcases hx with rfl | rfl | rfl <;> (first | (first | exact .lit | exact blq_ok 4 rfl) | exact .vec (fun j hj x hx => by simp [vrow] at hx; subst hx; exact .lit))) (by (first | exact .lit | exact blq_ok 4 rfl)) ?_
  intro H hH
  conv in finish _ _ _ _ _ _ _ _ => cbv
  subst hH
  simp only [Fin.sat0, Fin.sat1, stdH, Option.some.injEq, AV.lit.injEq, AV.agg.injEq, AV.tup.injEq, List.cons.injEq, Value.bool.injEq, Value.int.injEq, AllP, and_true, true_and, eq_self, decide_eq_true_eq, decide_eq_false_iff_not, Bool.not_eq_true', Bool.not_eq_false', peta, ncast]
  have e : (bif decide (a ≤ x) then decide (x ≤ b) else false) = inB x a b := by unfold inB; cases h1 : decide (a ≤ x) <;> simp_all <;> omega
  exact e
noncomputable def e_inside : Entry := pureE 24 fun H a => match a with
  | [.lit (.int .i64 x), .lit (.int .i64 a), .lit (.int .i64 b)] => some (.lit (.bool (H Bool fun _ => (inB x a b))), [])
  | _ => none
theorem eok_inside : EntryOk Try.prog e_inside := pureE_ok (by unfold isBody; kernel_rfl) (by
  intro a r ob e hob
  split at e
  · simp only [Option.some.injEq, Prod.mk.injEq] at e
    obtain ⟨rfl, rfl⟩ := e
    exact c_inside _ _ _
  · simp at e)
end Go.Proofs.Ytpilblmncpeelaa.AM

set_option linter.unusedVariables false
set_option linter.unusedSimpArgs false
set_option maxRecDepth 100000
set_option maxHeartbeats 4000000
set_option cbv.maxSteps 3000000
namespace Go.Proofs.Ytpilblmncpeelaa.AM
/- Fields, groups and arms: when they are valid; conditions: none. -/
structure Fld where
  d : Int
  l : Int
  p : Int
  q : Int
deriving Inhabited
structure Arm where
  f : Fld
  o : Int
  l : Int
  t : Int
  n : Grp
  r : Grp
deriving Inhabited
end Go.Proofs.Ytpilblmncpeelaa.AM

set_option linter.unusedVariables false
set_option linter.unusedSimpArgs false
set_option maxRecDepth 100000
set_option maxHeartbeats 4000000
set_option cbv.maxSteps 3000000
namespace Go.Proofs.Ytpilblmncpeelaa.AM
/- Lists of numbers and of arms; conditions: none. -/
def rowsA (H : Hold) (L : Unit → List Arm) (j : Nat) : List AV := [.lit (.int .i64 (H Int fun _ => ((L ()).getD j default).f.d)), .lit (.int .i64 (H Int fun _ => ((L ()).getD j default).f.l)), .lit (.int .i64 (H Int fun _ => ((L ()).getD j default).f.p)), .lit (.int .i64 (H Int fun _ => ((L ()).getD j default).f.q)), .lit (.int .i64 (H Int fun _ => ((L ()).getD j default).o)), .lit (.int .i64 (H Int fun _ => ((L ()).getD j default).l)), .lit (.int .i64 (H Int fun _ => ((L ()).getD j default).t)), .lit (.int .i64 (H Int fun _ => ((L ()).getD j default).n.c)), .lit (.int .i64 (H Int fun _ => ((L ()).getD j default).n.k)), .lit (.int .i64 (H Int fun _ => ((L ()).getD j default).n.a)), .lit (.int .i64 (H Int fun _ => ((L ()).getD j default).n.t)), .lit (.int .i64 (H Int fun _ => ((L ()).getD j default).r.c)), .lit (.int .i64 (H Int fun _ => ((L ()).getD j default).r.k)), .lit (.int .i64 (H Int fun _ => ((L ()).getD j default).r.a)), .lit (.int .i64 (H Int fun _ => ((L ()).getD j default).r.t))]
def rowA : RowD Arm := ⟨15, default, fun H x => [.lit (.int .i64 (H Int fun _ => (x ()).f.d)), .lit (.int .i64 (H Int fun _ => (x ()).f.l)), .lit (.int .i64 (H Int fun _ => (x ()).f.p)), .lit (.int .i64 (H Int fun _ => (x ()).f.q)), .lit (.int .i64 (H Int fun _ => (x ()).o)), .lit (.int .i64 (H Int fun _ => (x ()).l)), .lit (.int .i64 (H Int fun _ => (x ()).t)), .lit (.int .i64 (H Int fun _ => (x ()).n.c)), .lit (.int .i64 (H Int fun _ => (x ()).n.k)), .lit (.int .i64 (H Int fun _ => (x ()).n.a)), .lit (.int .i64 (H Int fun _ => (x ()).n.t)), .lit (.int .i64 (H Int fun _ => (x ()).r.c)), .lit (.int .i64 (H Int fun _ => (x ()).r.k)), .lit (.int .i64 (H Int fun _ => (x ()).r.a)), .lit (.int .i64 (H Int fun _ => (x ()).r.t))], fun l => match l with
  | [.lit (.int _ x0), .lit (.int _ x1), .lit (.int _ x2), .lit (.int _ x3), .lit (.int _ x4), .lit (.int _ x5), .lit (.int _ x6), .lit (.int _ x7), .lit (.int _ x8), .lit (.int _ x9), .lit (.int _ x10), .lit (.int _ x11), .lit (.int _ x12), .lit (.int _ x13), .lit (.int _ x14)] => ⟨⟨x0, x1, x2, x3⟩, x4, x5, x6, ⟨x7, x8, x9, x10⟩, ⟨x11, x12, x13, x14⟩⟩
  | _ => default, rowsA⟩
theorem okRA : RowOk rowA := ⟨fun _ => rfl, fun x c hc => by simp [rowA] at hc; rcases hc with rfl | rfl | rfl | rfl | rfl | rfl | rfl | rfl | rfl | rfl | rfl | rfl | rfl | rfl | rfl <;> exact .lit, fun _ => rfl, fun _ _ => rfl⟩
theorem Arm.eta (a : Arm) : (⟨⟨a.f.d, a.f.l, a.f.p, a.f.q⟩, a.o, a.l, a.t, ⟨a.n.c, a.n.k, a.n.a, a.n.t⟩, ⟨a.r.c, a.r.k, a.r.a, a.r.t⟩⟩ : Arm) = a := rfl
theorem Plain_rowsA (n : Nat) (H : Hold) (L : Unit → List Arm) : Plain n (rowsA H L) = True := eq_true ⟨fun j _ x hx => by simp [rowsA] at hx; rcases hx with rfl | rfl | rfl | rfl | rfl | rfl | rfl | rfl | rfl | rfl | rfl | rfl | rfl | rfl | rfl <;> rfl⟩

def rowsG (H : Hold) (L : Unit → List Grp) (j : Nat) : List AV := [.lit (.int .i64 (H Int fun _ => ((L ()).getD j default).c)), .lit (.int .i64 (H Int fun _ => ((L ()).getD j default).k)), .lit (.int .i64 (H Int fun _ => ((L ()).getD j default).a)), .lit (.int .i64 (H Int fun _ => ((L ()).getD j default).t))]
theorem Grp.eta (a : Grp) : (⟨a.c, a.k, a.a, a.t⟩ : Grp) = a := rfl
theorem Plain_rowsG (n : Nat) (H : Hold) (L : Unit → List Grp) : Plain n (rowsG H L) = True := eq_true ⟨fun j _ x hx => by simp [rowsG] at hx; rcases hx with rfl | rfl | rfl | rfl <;> rfl⟩
def eqrG (a b : Grp) : Bool := allT [fun _ => a.c == b.c, fun _ => a.k == b.k, fun _ => a.a == b.a, fun _ => a.t == b.t]
theorem eqrG_iff {a b : Grp} : eqrG a b = true ↔ a = b := by
  obtain ⟨a0, a1, a2, a3⟩ := a; obtain ⟨b0, b1, b2, b3⟩ := b
  simp [eqrG, allT, and_assoc]
instance : DecidableEq Grp := fun a b => decidable_of_iff (eqrG a b = true) eqrG_iff
def rowsF (H : Hold) (L : Unit → List Fld) (j : Nat) : List AV := [.lit (.int .i64 (H Int fun _ => ((L ()).getD j default).d)), .lit (.int .i64 (H Int fun _ => ((L ()).getD j default).l)), .lit (.int .i64 (H Int fun _ => ((L ()).getD j default).p)), .lit (.int .i64 (H Int fun _ => ((L ()).getD j default).q))]
theorem Fld.eta (a : Fld) : (⟨a.d, a.l, a.p, a.q⟩ : Fld) = a := rfl
theorem Plain_rowsF (n : Nat) (H : Hold) (L : Unit → List Fld) : Plain n (rowsF H L) = True := eq_true ⟨fun j _ x hx => by simp [rowsF] at hx; rcases hx with rfl | rfl | rfl | rfl <;> rfl⟩
def eqrF (a b : Fld) : Bool := allT [fun _ => a.d == b.d, fun _ => a.l == b.l, fun _ => a.p == b.p, fun _ => a.q == b.q]
theorem eqrF_iff {a b : Fld} : eqrF a b = true ↔ a = b := by
  obtain ⟨a0, a1, a2, a3⟩ := a; obtain ⟨b0, b1, b2, b3⟩ := b
  simp [eqrF, allT, and_assoc]
instance : DecidableEq Fld := fun a b => decidable_of_iff (eqrF a b = true) eqrF_iff
theorem Arm.eta2 (a : Arm) : (⟨a.f, a.o, a.l, a.t, a.n, a.r⟩ : Arm) = a := rfl
theorem vrow_I (l : List Int) : vrow (lget l) = rowsI stdH fun _ => l := rfl
def eqA (a b : Arm) : Bool := allT [fun _ => a.f.d == b.f.d, fun _ => a.f.l == b.f.l, fun _ => a.f.p == b.f.p, fun _ => a.f.q == b.f.q, fun _ => a.o == b.o, fun _ => a.l == b.l, fun _ => a.t == b.t, fun _ => a.n.c == b.n.c, fun _ => a.n.k == b.n.k, fun _ => a.n.a == b.n.a, fun _ => a.n.t == b.n.t, fun _ => a.r.c == b.r.c, fun _ => a.r.k == b.r.k, fun _ => a.r.a == b.r.a, fun _ => a.r.t == b.r.t]
theorem eqA_iff {a b : Arm} : eqA a b = true ↔ a = b := by
  obtain ⟨⟨a0, a1, a2, a3⟩, a4, a5, a6, ⟨a7, a8, a9, a10⟩, ⟨a11, a12, a13, a14⟩⟩ := a
  obtain ⟨⟨b0, b1, b2, b3⟩, b4, b5, b6, ⟨b7, b8, b9, b10⟩, ⟨b11, b12, b13, b14⟩⟩ := b
  simp [eqA, allT, and_assoc]
instance : DecidableEq Arm := fun a b => decidable_of_iff (eqA a b = true) eqA_iff
theorem w1 {n : Nat} (h : n < 1000000000) : IntKind.i64.wrap ((n : Int) + 1) = ((n + 1 : Nat) : Int) := by rw [wi] <;> omega
theorem Tl_I (L : List Int) : Tl rowI L.length (rowsI stdH fun _ => L) = L := Tl_rowsT okI L
theorem Shp_I (n : Nat) (L : List Int) : Shp rowI n (rowsI stdH fun _ => L) := Shp_rowsT okI n (fun _ => L)

end Go.Proofs.Ytpilblmncpeelaa.AM

set_option linter.unusedVariables false
set_option linter.unusedSimpArgs false
set_option maxRecDepth 100000
set_option maxHeartbeats 4000000
set_option cbv.maxSteps 3000000
namespace Go.Proofs.Ytpilblmncpeelaa.AM
/- Copies, comparisons and marks of lists of arms; conditions: none. -/
theorem RowsEq.put {D : RowD Arm} (ok : RowOk D) {L : List Arm} {j : Nat} {x : Arm} {M : List Arm} (e : L.set j x = M) : RowsEq D.k M.length (rowsT D stdH fun _ => M) L.length (put1 j (D.cells stdH fun _ => x) (rowsT D stdH fun _ => L)) :=
  .ofT ok rfl (Shp_put1 (Shp_rowsT ok _ _) (by rw [ok.of_cells])) (by rw [Tl_put1, Tl_rowsT ok, ok.of_cells, e])

end Go.Proofs.Ytpilblmncpeelaa.AM

