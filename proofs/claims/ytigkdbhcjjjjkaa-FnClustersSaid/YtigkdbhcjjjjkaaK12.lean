/- Lemmas and contracts (DrL Lst Exa Idx); conditions: none. -/
import Derived.Test.YtigkdbhcjjjjkaaK04
import Derived.Test.YtigkdbhcjjjjkaaK05
import Derived.Test.YtigkdbhcjjjjkaaK10
import Derived.Test.YtigkdbhcjjjjkaaK11
set_option linter.unusedVariables false
set_option linter.unusedSimpArgs false
set_option linter.unusedVariables false
set_option linter.unusedSimpArgs false
set_option maxRecDepth 100000
set_option maxHeartbeats 4000000
set_option cbv.maxSteps 3000000
namespace Go.Proofs.Ytigkdbhcjjjjkaa.AM
/- Arms like others are drawn; conditions: none. -/
def enc_like (H : Hold) (y : Unit → Arm) : AV := .agg [.lit (.int .i64 (H Int fun _ => (((y ())).f.d))), .lit (.int .i64 (H Int fun _ => (((y ())).f.l))), .lit (.int .i64 (H Int fun _ => (((y ())).f.p))), .lit (.int .i64 (H Int fun _ => (((y ())).f.q))), .lit (.int .i64 (H Int fun _ => (((y ())).o))), .lit (.int .i64 (H Int fun _ => (((y ())).l))), .lit (.int .i64 (H Int fun _ => (((y ())).t))), .lit (.int .i64 (H Int fun _ => (((y ())).n.c))), .lit (.int .i64 (H Int fun _ => (((y ())).n.k))), .lit (.int .i64 (H Int fun _ => (((y ())).n.a))), .lit (.int .i64 (H Int fun _ => (((y ())).n.t))), .lit (.int .i64 (H Int fun _ => (((y ())).r.c))), .lit (.int .i64 (H Int fun _ => (((y ())).r.k))), .lit (.int .i64 (H Int fun _ => (((y ())).r.a))), .lit (.int .i64 (H Int fun _ => (((y ())).r.t)))]
theorem x_like (c : Cd) (x : Arm) (st : DS) (h : Bd 40 st)  : ∃ y, Drw Try.prog 55 53 40 enc_like (fun _ => True) c [.agg [.lit (.int .i64 (x).f.d), .lit (.int .i64 (x).f.l), .lit (.int .i64 (x).f.p), .lit (.int .i64 (x).f.q), .lit (.int .i64 (x).o), .lit (.int .i64 (x).l), .lit (.int .i64 (x).t), .lit (.int .i64 (x).n.c), .lit (.int .i64 (x).n.k), .lit (.int .i64 (x).n.a), .lit (.int .i64 (x).n.t), .lit (.int .i64 (x).r.c), .lit (.int .i64 (x).r.k), .lit (.int .i64 (x).r.a), .lit (.int .i64 (x).r.t)]] st y := by
  obtain ⟨⟨x0, x1, x2, x3⟩, x4, x5, x6, ⟨x7, x8, x9, x10⟩, ⟨x11, x12, x13, x14⟩⟩ := x
  have hB : Base Try.prog (tabΓ [e_pick c, e_field c, e_tincture c, e_group c, e_arms c, e_l4None]) tab := base_of tabOk (ents_cons (eok_pick c) <| ents_cons (eok_field c) <| ents_cons (eok_tincture c) <| ents_cons (eok_group c) <| ents_cons (eok_arms c) <| ents_cons eok_l4None <| ents_nil)
  refine drw_ok (N := 52) hB (draw_ok hB mixed) Try.func53 rfl rfl _ _ _ _ _ _ _ 200 (by simp) (by intro x hx; simp at hx; (first | done | (subst hx; first | (first | exact .lit | exact blq_ok 4 rfl) | exact .vec (fun j hj x hx => by simp [vrow] at hx; subst hx; exact .lit)) | (rcases hx with rfl | rfl <;> (first | exact .lit | exact blq_ok 4 rfl)) | (rcases hx with rfl | rfl | rfl <;> (first | exact .lit | exact blq_ok 4 rfl)))) ?_
  intro H hH
  conv in finish _ _ _ _ _ _ _ _ => cbv
  subst hH
  simp only [Fin.sat0, Fin.sat1, stdH, Option.some.injEq, AV.lit.injEq, AV.agg.injEq, AV.tup.injEq, List.cons.injEq, Value.bool.injEq, Value.int.injEq, AllP, and_true, true_and, eq_self, decide_eq_true_eq, decide_eq_false_iff_not, Bool.not_eq_true', Bool.not_eq_false', peta, ncast]
  have a1 := (p_pick c 7 st (Bd.mono (by assumption))).1; generalize F_pick c 7 st = y1 at *; have b1 : Bd 38 y1.2 := a1.bd (by assumption)
  have a2 := (p_field c y1.2 (Bd.mono (by assumption))).1; generalize F_field c y1.2 = y2 at *; have b2 : Bd 28 y2.2 := a2.bd (by assumption)
  have a3 := (p_tincture c y1.2 (Bd.mono (by assumption))).1; generalize F_tincture c y1.2 = y3 at *; have b3 : Bd 36 y3.2 := a3.bd (by assumption)
  have a4 := (p_group c y1.2 (Bd.mono (by assumption))).1; generalize F_group c y1.2 = y4 at *; have b4 : Bd 30 y4.2 := a4.bd (by assumption)
  obtain ⟨a5, m5, n5⟩ := p_pick c (7) y1.2 (Bd.mono (by assumption)); generalize F_pick c (7) y1.2 = y5 at *; have b5 : Bd 36 y5.2 := Adv.bd a5 (by assumption)
  have a6 := (p_arms c y1.2 (Bd.mono (by assumption))).1; generalize F_arms c y1.2 = y6 at *; have b6 : Bd 0 y6.2 := a6.bd (by assumption)
  obtain ⟨a7, m7, n7⟩ := p_pick c (6) y1.2 (Bd.mono (by assumption)); generalize F_pick c (6) y1.2 = y7 at *; have b7 : Bd 36 y7.2 := Adv.bd a7 (by assumption)
  have w5 : IntKind.i64.wrap (1 + y5.1) = 1 + y5.1 := wi (by omega) (by omega)
  have w7 : IntKind.i64.wrap (1 + y7.1) = 1 + y7.1 := wi (by omega) (by omega)
  have q0 : Adv 40 st y1.2 := a1.le (by omega)
  simp only [w5, w7]
  exact ⟨h.mono, fun _ => ⟨b1.mono, (⟨y2.1, x4, x5, x6, ⟨x7, x8, x9, x10⟩, ⟨x11, x12, x13, x14⟩⟩, y2.2), .refl, blq_ok 4 rfl, rfl, a1.trans a2⟩, fun _ => ⟨fun _ => ⟨fun _ => ⟨b1.mono, (⟨⟨x0, x1, x2, x3⟩, x4, x5, y3.1, ⟨x7, x8, x9, x10⟩, ⟨x11, x12, x13, x14⟩⟩, y3.2), .refl, blq_ok 4 rfl, rfl, a1.trans a3⟩, fun _ => ⟨(⟨⟨x0, x1, x2, x3⟩, x4, x5, x6, ⟨x7, x8, x9, x10⟩, ⟨x11, x12, x13, x14⟩⟩, y1.2), .refl, blq_ok 4 rfl, rfl, q0⟩⟩, fun _ => ⟨fun _ => ⟨b1.mono, (⟨⟨x0, x1, x2, x3⟩, x4, x5, x6, ⟨x7, x8, x9, x10⟩, y4.1⟩, y4.2), .refl, blq_ok 4 rfl, rfl, a1.trans a4⟩, fun _ => ⟨fun _ => ⟨fun _ => ⟨b1.mono, (⟨⟨x0, x1, x2, x3⟩, 1 + y5.1, x5, x6, ⟨x7, x8, x9, x10⟩, ⟨x11, x12, x13, x14⟩⟩, y5.2), .refl, blq_ok 4 rfl, rfl, a1.trans a5⟩, fun _ => ⟨(⟨⟨x0, x1, x2, x3⟩, x4, x5, x6, ⟨x7, x8, x9, x10⟩, ⟨x11, x12, x13, x14⟩⟩, y1.2), .refl, blq_ok 4 rfl, rfl, q0⟩⟩, fun _ => ⟨fun _ => ⟨b1.mono, (y6.1, y6.2), .refl, blq_ok 4 rfl, rfl, a1.trans a6⟩, fun _ => ⟨fun _ => ⟨fun _ => ⟨b1.mono, (⟨⟨x0, x1, x2, x3⟩, x4, x5, x6, ⟨x7, x8, x9, x10⟩, ⟨1 + y7.1, x12, x13, x14⟩⟩, y7.2), .refl, blq_ok 4 rfl, rfl, a1.trans a7⟩, fun _ => ⟨(⟨⟨x0, x1, x2, x3⟩, x4, x5, x6, ⟨x7, x8, x9, x10⟩, ⟨x11, x12, x13, x14⟩⟩, y1.2), .refl, blq_ok 4 rfl, rfl, q0⟩⟩, fun _ => ⟨(⟨⟨x0, x1, x2, x3⟩, x4, x5, x6, ⟨x7, x8, x9, x10⟩, ⟨x11, x12, x13, x14⟩⟩, y1.2), .refl, blq_ok 4 rfl, rfl, q0⟩⟩⟩⟩⟩⟩⟩
noncomputable def F_like (c : Cd) (x : Arm) (st : DS) : Arm × DS := drw Try.prog 55 53 40 enc_like (fun _ => True) c [.agg [.lit (.int .i64 (x).f.d), .lit (.int .i64 (x).f.l), .lit (.int .i64 (x).f.p), .lit (.int .i64 (x).f.q), .lit (.int .i64 (x).o), .lit (.int .i64 (x).l), .lit (.int .i64 (x).t), .lit (.int .i64 (x).n.c), .lit (.int .i64 (x).n.k), .lit (.int .i64 (x).n.a), .lit (.int .i64 (x).n.t), .lit (.int .i64 (x).r.c), .lit (.int .i64 (x).r.k), .lit (.int .i64 (x).r.a), .lit (.int .i64 (x).r.t)]] st
noncomputable def e_like (c : Cd) : Entry := curE 55 53 40 c fun H st a => match a with
  | [.agg [.lit (.int .i64 x0), .lit (.int .i64 x1), .lit (.int .i64 x2), .lit (.int .i64 x3), .lit (.int .i64 x4), .lit (.int .i64 x5), .lit (.int .i64 x6), .lit (.int .i64 x7), .lit (.int .i64 x8), .lit (.int .i64 x9), .lit (.int .i64 x10), .lit (.int .i64 x11), .lit (.int .i64 x12), .lit (.int .i64 x13), .lit (.int .i64 x14)]] => some (enc_like H (fun _ => (F_like c (⟨⟨x0, x1, x2, x3⟩, x4, x5, x6, ⟨x7, x8, x9, x10⟩, ⟨x11, x12, x13, x14⟩⟩ : Arm) st).1), (fun _ => (F_like c (⟨⟨x0, x1, x2, x3⟩, x4, x5, x6, ⟨x7, x8, x9, x10⟩, ⟨x11, x12, x13, x14⟩⟩ : Arm) st).2), [])
  | _ => none
theorem eok_like (c : Cd) : EntryOk Try.prog (e_like c) := curE_ok (by unfold isBody; kernel_rfl) (by
  intro st a r y ob e hb hob
  split at e
  · rename_i x0 x1 x2 x3 x4 x5 x6 x7 x8 x9 x10 x11 x12 x13 x14
    simp only [Option.some.injEq, Prod.mk.injEq] at e
    obtain ⟨rfl, rfl, rfl⟩ := e
    exact ⟨(drw_spec (x_like c (⟨⟨x0, x1, x2, x3⟩, x4, x5, x6, ⟨x7, x8, x9, x10⟩, ⟨x11, x12, x13, x14⟩⟩ : Arm) st hb)).1, (by intro x hx; simp only [List.mem_cons, List.not_mem_nil, or_false] at hx; rcases hx with rfl <;> (first | (first | exact .lit | exact blq_ok 4 rfl) | exact .vec (fun j hj x hx => by rw [hob.1 j hj] at hx; simp [vrow] at hx; subst hx; exact .lit))), (by unfold enc_like; (first | exact .lit | exact blq_ok 4 rfl))⟩
  · simp at e)
theorem p_like (c : Cd) (x : Arm) (st : DS) (h : Bd 40 st)  : Adv 40 st (F_like c x st).2 ∧ (fun _ => True) (F_like c x st).1 := (drw_spec (x_like c x st h )).2
end Go.Proofs.Ytigkdbhcjjjjkaa.AM

set_option linter.unusedVariables false
set_option linter.unusedSimpArgs false
set_option maxRecDepth 100000
set_option maxHeartbeats 4000000
set_option cbv.maxSteps 3000000
namespace Go.Proofs.Ytigkdbhcjjjjkaa.AM
/- Lists of numbers and of arms; conditions: none. -/
def rowsA (H : Hold) (L : Unit → List Arm) (j : Nat) : List AV := [.lit (.int .i64 (H Int fun _ => ((L ()).getD j default).f.d)), .lit (.int .i64 (H Int fun _ => ((L ()).getD j default).f.l)), .lit (.int .i64 (H Int fun _ => ((L ()).getD j default).f.p)), .lit (.int .i64 (H Int fun _ => ((L ()).getD j default).f.q)), .lit (.int .i64 (H Int fun _ => ((L ()).getD j default).o)), .lit (.int .i64 (H Int fun _ => ((L ()).getD j default).l)), .lit (.int .i64 (H Int fun _ => ((L ()).getD j default).t)), .lit (.int .i64 (H Int fun _ => ((L ()).getD j default).n.c)), .lit (.int .i64 (H Int fun _ => ((L ()).getD j default).n.k)), .lit (.int .i64 (H Int fun _ => ((L ()).getD j default).n.a)), .lit (.int .i64 (H Int fun _ => ((L ()).getD j default).n.t)), .lit (.int .i64 (H Int fun _ => ((L ()).getD j default).r.c)), .lit (.int .i64 (H Int fun _ => ((L ()).getD j default).r.k)), .lit (.int .i64 (H Int fun _ => ((L ()).getD j default).r.a)), .lit (.int .i64 (H Int fun _ => ((L ()).getD j default).r.t))]
def rowA : RowD Arm := ⟨15, default, fun H x => [.lit (.int .i64 (H Int fun _ => (x ()).f.d)), .lit (.int .i64 (H Int fun _ => (x ()).f.l)), .lit (.int .i64 (H Int fun _ => (x ()).f.p)), .lit (.int .i64 (H Int fun _ => (x ()).f.q)), .lit (.int .i64 (H Int fun _ => (x ()).o)), .lit (.int .i64 (H Int fun _ => (x ()).l)), .lit (.int .i64 (H Int fun _ => (x ()).t)), .lit (.int .i64 (H Int fun _ => (x ()).n.c)), .lit (.int .i64 (H Int fun _ => (x ()).n.k)), .lit (.int .i64 (H Int fun _ => (x ()).n.a)), .lit (.int .i64 (H Int fun _ => (x ()).n.t)), .lit (.int .i64 (H Int fun _ => (x ()).r.c)), .lit (.int .i64 (H Int fun _ => (x ()).r.k)), .lit (.int .i64 (H Int fun _ => (x ()).r.a)), .lit (.int .i64 (H Int fun _ => (x ()).r.t))], fun l => match l with
  | [.lit (.int _ x0), .lit (.int _ x1), .lit (.int _ x2), .lit (.int _ x3), .lit (.int _ x4), .lit (.int _ x5), .lit (.int _ x6), .lit (.int _ x7), .lit (.int _ x8), .lit (.int _ x9), .lit (.int _ x10), .lit (.int _ x11), .lit (.int _ x12), .lit (.int _ x13), .lit (.int _ x14)] => ⟨⟨x0, x1, x2, x3⟩, x4, x5, x6, ⟨x7, x8, x9, x10⟩, ⟨x11, x12, x13, x14⟩⟩
  | _ => default, rowsA⟩
theorem okRA : RowOk rowA := ⟨fun _ => rfl, fun x c hc => by simp [rowA] at hc; rcases hc with rfl | rfl | rfl | rfl | rfl | rfl | rfl | rfl | rfl | rfl | rfl | rfl | rfl | rfl | rfl <;> exact .lit, fun _ => rfl, fun _ _ => rfl⟩
theorem Arm.eta (a : Arm) : (⟨⟨a.f.d, a.f.l, a.f.p, a.f.q⟩, a.o, a.l, a.t, ⟨a.n.c, a.n.k, a.n.a, a.n.t⟩, ⟨a.r.c, a.r.k, a.r.a, a.r.t⟩⟩ : Arm) = a := rfl
theorem Tl_A (L : List Arm) : Tl rowA L.length (rowsA stdH fun _ => L) = L := Tl_rowsT okRA L
theorem Shp_A (n : Nat) (L : List Arm) : Shp rowA n (rowsA stdH fun _ => L) := Shp_rowsT okRA n (fun _ => L)
theorem Plain_rowsA (n : Nat) (H : Hold) (L : Unit → List Arm) : Plain n (rowsA H L) = True := eq_true ⟨fun j _ x hx => by simp [rowsA] at hx; rcases hx with rfl | rfl | rfl | rfl | rfl | rfl | rfl | rfl | rfl | rfl | rfl | rfl | rfl | rfl | rfl <;> rfl⟩

def rowsG (H : Hold) (L : Unit → List Grp) (j : Nat) : List AV := [.lit (.int .i64 (H Int fun _ => ((L ()).getD j default).c)), .lit (.int .i64 (H Int fun _ => ((L ()).getD j default).k)), .lit (.int .i64 (H Int fun _ => ((L ()).getD j default).a)), .lit (.int .i64 (H Int fun _ => ((L ()).getD j default).t))]
theorem Grp.eta (a : Grp) : (⟨a.c, a.k, a.a, a.t⟩ : Grp) = a := rfl
theorem Plain_rowsG (n : Nat) (H : Hold) (L : Unit → List Grp) : Plain n (rowsG H L) = True := eq_true ⟨fun j _ x hx => by simp [rowsG] at hx; rcases hx with rfl | rfl | rfl | rfl <;> rfl⟩
def eqrG (a b : Grp) : Bool := allT [fun _ => a.c == b.c, fun _ => a.k == b.k, fun _ => a.a == b.a, fun _ => a.t == b.t]
theorem eqrG_iff {a b : Grp} : eqrG a b = true ↔ a = b := by
  obtain ⟨a0, a1, a2, a3⟩ := a; obtain ⟨b0, b1, b2, b3⟩ := b
  simp [eqrG, allT, and_assoc]
instance : DecidableEq Grp := fun a b => decidable_of_iff (eqrG a b = true) eqrG_iff
def rowsF (H : Hold) (L : Unit → List Fld) (j : Nat) : List AV := [.lit (.int .i64 (H Int fun _ => ((L ()).getD j default).d)), .lit (.int .i64 (H Int fun _ => ((L ()).getD j default).l)), .lit (.int .i64 (H Int fun _ => ((L ()).getD j default).p)), .lit (.int .i64 (H Int fun _ => ((L ()).getD j default).q))]
theorem Fld.eta (a : Fld) : (⟨a.d, a.l, a.p, a.q⟩ : Fld) = a := rfl
theorem Plain_rowsF (n : Nat) (H : Hold) (L : Unit → List Fld) : Plain n (rowsF H L) = True := eq_true ⟨fun j _ x hx => by simp [rowsF] at hx; rcases hx with rfl | rfl | rfl | rfl <;> rfl⟩
def eqrF (a b : Fld) : Bool := allT [fun _ => a.d == b.d, fun _ => a.l == b.l, fun _ => a.p == b.p, fun _ => a.q == b.q]
theorem eqrF_iff {a b : Fld} : eqrF a b = true ↔ a = b := by
  obtain ⟨a0, a1, a2, a3⟩ := a; obtain ⟨b0, b1, b2, b3⟩ := b
  simp [eqrF, allT, and_assoc]
instance : DecidableEq Fld := fun a b => decidable_of_iff (eqrF a b = true) eqrF_iff
theorem Arm.eta2 (a : Arm) : (⟨a.f, a.o, a.l, a.t, a.n, a.r⟩ : Arm) = a := rfl
theorem vrow_I (l : List Int) : vrow (lget l) = rowsI stdH fun _ => l := rfl
def eqA (a b : Arm) : Bool := allT [fun _ => a.f.d == b.f.d, fun _ => a.f.l == b.f.l, fun _ => a.f.p == b.f.p, fun _ => a.f.q == b.f.q, fun _ => a.o == b.o, fun _ => a.l == b.l, fun _ => a.t == b.t, fun _ => a.n.c == b.n.c, fun _ => a.n.k == b.n.k, fun _ => a.n.a == b.n.a, fun _ => a.n.t == b.n.t, fun _ => a.r.c == b.r.c, fun _ => a.r.k == b.r.k, fun _ => a.r.a == b.r.a, fun _ => a.r.t == b.r.t]
theorem eqA_iff {a b : Arm} : eqA a b = true ↔ a = b := by
  obtain ⟨⟨a0, a1, a2, a3⟩, a4, a5, a6, ⟨a7, a8, a9, a10⟩, ⟨a11, a12, a13, a14⟩⟩ := a
  obtain ⟨⟨b0, b1, b2, b3⟩, b4, b5, b6, ⟨b7, b8, b9, b10⟩, ⟨b11, b12, b13, b14⟩⟩ := b
  simp [eqA, allT, and_assoc]
instance : DecidableEq Arm := fun a b => decidable_of_iff (eqA a b = true) eqA_iff
theorem w1 {n : Nat} (h : n < 1000000000) : IntKind.i64.wrap ((n : Int) + 1) = ((n + 1 : Nat) : Int) := by rw [wi] <;> omega
theorem getD_mem {α : Type} {l : List α} {i : Nat} {d : α} (h : i < l.length) : l.getD i d ∈ l := by rw [List.getD_eq_getElem?_getD, List.getElem?_eq_getElem h]; exact List.getElem_mem h
theorem not_mem_getD {l : List Int} {x : Int} (h : ∀ j, j < l.length → l.getD j 0 ≠ x) : ¬ x ∈ l := fun hm => by
  obtain ⟨i, hi, e⟩ := List.getElem_of_mem hm
  refine h i hi ?_
  rw [List.getD_eq_getElem?_getD, List.getElem?_eq_getElem hi]; exact e
theorem Tl_I (L : List Int) : Tl rowI L.length (rowsI stdH fun _ => L) = L := Tl_rowsT okI L
theorem Shp_I (n : Nat) (L : List Int) : Shp rowI n (rowsI stdH fun _ => L) := Shp_rowsT okI n (fun _ => L)

end Go.Proofs.Ytigkdbhcjjjjkaa.AM

set_option linter.unusedVariables false
set_option linter.unusedSimpArgs false
set_option maxRecDepth 100000
set_option maxHeartbeats 4000000
set_option cbv.maxSteps 3000000
namespace Go.Proofs.Ytigkdbhcjjjjkaa.AM
/- Copies, comparisons and marks of lists of arms; conditions: none. -/
theorem RowsEq.put {D : RowD Arm} (ok : RowOk D) {L : List Arm} {j : Nat} {x : Arm} {M : List Arm} (e : L.set j x = M) : RowsEq D.k M.length (rowsT D stdH fun _ => M) L.length (put1 j (D.cells stdH fun _ => x) (rowsT D stdH fun _ => L)) :=
  .ofT ok rfl (Shp_put1 (Shp_rowsT ok _ _) (by rw [ok.of_cells])) (by rw [Tl_put1, Tl_rowsT ok, ok.of_cells, e])
end Go.Proofs.Ytigkdbhcjjjjkaa.AM

set_option linter.unusedVariables false
set_option linter.unusedSimpArgs false
set_option maxRecDepth 100000
set_option maxHeartbeats 4000000
set_option cbv.maxSteps 3000000
namespace Go.Proofs.Ytigkdbhcjjjjkaa.AM
/- Where something stands in a list; conditions: none. -/
def idxF {α : Type} (p : α → Bool) (l : List α) : Int := if l.any p then ((l.findIdx p : Nat) : Int) else -1
theorem idxF_at {α : Type} {p : α → Bool} {l : List α} {i : Nat} (d : α) (hi : i < l.length) (h : p (l.getD i d) = true) (hj : ∀ j, j < i → p (l.getD j d) = false) : idxF p l = (i : Nat) := by
  have e : ∀ j, (q : j < l.length) → l.getD j d = l[j] := fun j q => by rw [List.getD_eq_getElem?_getD, List.getElem?_eq_getElem q]; rfl
  have h1 : l.findIdx p = i := by
    rw [List.findIdx_eq hi]
    exact ⟨by rw [← e i hi]; exact h, fun j hji => by rw [← e j (by omega)]; exact hj j hji⟩
  unfold idxF
  rw [if_pos (List.any_eq_true.2 ⟨_, List.getElem_mem hi, by rw [← e i hi]; exact h⟩), h1]
theorem none_any {α : Type} {p : α → Bool} {l : List α} (d : α) (hj : ∀ j, j < l.length → p (l.getD j d) = false) : l.any p = false := by
  rw [List.any_eq_false]
  intro x hx
  obtain ⟨i, hi, e⟩ := List.getElem_of_mem hx
  have := hj i hi
  rw [List.getD_eq_getElem?_getD, List.getElem?_eq_getElem hi] at this
  rw [← e]; simpa using this
theorem idxF_no {α : Type} {p : α → Bool} {l : List α} (d : α) (hj : ∀ j, j < l.length → p (l.getD j d) = false) : idxF p l = -1 := by
  unfold idxF; rw [none_any d hj]; rfl
theorem idxF_ge {α : Type} (p : α → Bool) (l : List α) : decide (idxF p l ≥ 0) = l.any p := by
  unfold idxF
  cases l.any p
  · rfl
  · simp
end Go.Proofs.Ytigkdbhcjjjjkaa.AM

