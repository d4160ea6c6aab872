/- Lemmas and contracts (AmDl ADrP Grp Bas); conditions: none. -/
import Derived.Test.YtmkniipdkanbbaaGreatDoorK04
import Derived.Test.YtmkniipdkanbbaaGreatDoorK05
import Derived.Laws.BitsLemmas
import Derived.Laws.Bits64
set_option linter.unusedVariables false
set_option linter.unusedSimpArgs false
set_option linter.unusedVariables false
set_option linter.unusedSimpArgs false
namespace Go.Proofs.YtmkniipdkanbbaaGreatDoor.AM
section
variable {C : Cx} {n0 : Nat}
end
def flt (l : List Nat) : Env → Env
  | [] => []
  | (t, x) :: e => bif l.any (Nat.beq t) then (t, x) :: flt l e else flt l e
theorem loop_c {P : Program} {Γ : Cons} {τ : Tab} {X : Ctx} {rs : List ResultVar} {As : Nat → St → Prop} (hB : Base P Γ τ) (hD : DrawOk P Γ τ) {c : Code} {k : List KI} {ctx : List (List KI)} {s : St} {N n0 : Nat} (hN : X.N = N) (h0 : X.n0 = n0) {H : Hold} (hH : H = stdH) (keep : List Nat) {ι : Type} (n : Nat) (at' : ι → List Atom) (μ : ι → Nat) (i0 : ι) (hi : AllG (matchSt H n0 (mkI n0 true c (k :: ctx) rs ⟨flt keep s.env, s.heap, s.next⟩ (at' i0)) s))
    {n1 : Nat} {r : AV} {nw : List Blk} {u : Heap} (round : ∀ (I : ι → St), (∀ i, I i = mkI n0 true c (k :: ctx) rs ⟨flt keep s.env, s.heap, s.next⟩ (at' i)) → ∀ i, ((finish H Γ τ N n rs (k :: ctx) (arun H Γ τ N n [.code c] (mkI n0 true c (k :: ctx) rs ⟨flt keep s.env, s.heap, s.next⟩ (at' i)))).chk (matchEx H n1 r nw u)).satC P X τ rs (fun x hp => ∃ π, Exp π n1 r nw u x hp) (upd As (ctx.length + 1) (fun s' => ∃ j, μ j < μ i ∧ AllG (matchSt H n0 (I j) s')))) : (Fin.loop c (k :: ctx) s).satC P X τ rs (fun x hp => ∃ π, Exp π n1 r nw u x hp) As :=
  loop_m hB hD hN h0 hH n (fun i => mkI n0 true c (k :: ctx) rs ⟨flt keep s.env, s.heap, s.next⟩ (at' i)) μ i0 hi (round _ fun _ => rfl)
end Go.Proofs.YtmkniipdkanbbaaGreatDoor.AM

set_option maxRecDepth 100000
set_option maxHeartbeats 4000000
set_option cbv.maxSteps 3000000
namespace Go.Proofs.YtmkniipdkanbbaaGreatDoor.AM
/- The cursor's simple draws; conditions: none. -/
theorem wi {x : Int} (h : -9223372036854775808 ≤ x) (h' : x ≤ 9223372036854775807) : IntKind.i64.wrap x = x := by rw [IntKind.wrap_i64]; omega
end Go.Proofs.YtmkniipdkanbbaaGreatDoor.AM

set_option maxRecDepth 100000
set_option maxHeartbeats 4000000
set_option cbv.maxSteps 3000000
namespace Go.Proofs.YtmkniipdkanbbaaGreatDoor.AM
/- Groups of charges: their draws, and small functions; conditions: none. -/
structure Grp where
  c : Int
  k : Int
  a : Int
  t : Int
deriving Inhabited
def inB (x a b : Int) : Bool := decide (a ≤ x ∧ x ≤ b)
theorem c_l4Beast (k : Int)  : Con Tryz.prog 150 [.lit (.int .i64 k)] [] (.lit (.bool (decide (k ≤ 3)))) [] := by
  have hB : Base Tryz.prog (tabΓ []) tab := base_of tabOk (ents_nil)
  refine con_eq (N := 5) hB (draw_ok hB mixed) Tryz.func150 rfl rfl _ _ 50 (by simp) (by intro x hx; simp only [zqu] at hx; rcases hx with rfl <;> (first | (first | exact .lit | exact blq_ok 4 rfl) | exact .vec (fun j hj x hx => by simp [vrow] at hx; subst hx; exact .lit))) (by (first | exact .lit | exact blq_ok 4 rfl)) ?_
  intro H hH
  conv in finish _ _ _ _ _ _ _ _ => cbv
  subst hH
  simp only [Fin.sat0, Fin.sat1, stdH, Option.some.injEq, AV.lit.injEq, AV.agg.injEq, AV.tup.injEq, List.cons.injEq, Value.bool.injEq, Value.int.injEq, AllP, and_true, true_and, eq_self, zqa, zqb, zqc, zqd, peta, ncast]
noncomputable def e_l4Beast : Entry := pureE 150 fun H a => match a with
  | [.lit (.int .i64 k)] => some (.lit (.bool (H Bool fun _ => (decide (k ≤ 3)))), [])
  | _ => none
theorem eok_l4Beast : EntryOk Tryz.prog e_l4Beast := pureE_ok (by unfold isBody; kernel_rfl) (by
  intro a r ob e hob
  split at e
  · simp only [zqt] at e
    obtain ⟨rfl, rfl⟩ := e
    exact c_l4Beast _
  · simp at e)
theorem c_l1In (x : Int) (a : Int) (b : Int)  : Con Tryz.prog 100 [.lit (.int .i64 x), .lit (.int .i64 a), .lit (.int .i64 b)] [] (.lit (.bool (inB x a b))) [] := by
  have hB : Base Tryz.prog (tabΓ []) tab := base_of tabOk (ents_nil)
  refine con_eq (N := 15) hB (draw_ok hB mixed) Tryz.func100 rfl rfl _ _ 50 (by simp) (by intro x hx; simp only [zqu] at hx; rcases hx with rfl | rfl | rfl <;> (first | (first | exact .lit | exact blq_ok 4 rfl) | exact .vec (fun j hj x hx => by simp [vrow] at hx; subst hx; exact .lit))) (by (first | exact .lit | exact blq_ok 4 rfl)) ?_
  intro H hH
  conv in finish _ _ _ _ _ _ _ _ => cbv
  subst hH
  simp only [Fin.sat0, Fin.sat1, stdH, Option.some.injEq, AV.lit.injEq, AV.agg.injEq, AV.tup.injEq, List.cons.injEq, Value.bool.injEq, Value.int.injEq, AllP, and_true, true_and, eq_self, zqa, zqb, zqc, zqd, peta, ncast]
  have e : (bif decide (a ≤ x) then decide (x ≤ b) else false) = inB x a b := by unfold inB; cases h1 : decide (a ≤ x) <;> simp_all <;> omega
  exact e
noncomputable def e_l1In : Entry := pureE 100 fun H a => match a with
  | [.lit (.int .i64 x), .lit (.int .i64 a), .lit (.int .i64 b)] => some (.lit (.bool (H Bool fun _ => (inB x a b))), [])
  | _ => none
theorem eok_l1In : EntryOk Tryz.prog e_l1In := pureE_ok (by unfold isBody; kernel_rfl) (by
  intro a r ob e hob
  split at e
  · simp only [zqt] at e
    obtain ⟨rfl, rfl⟩ := e
    exact c_l1In _ _ _
  · simp at e)
end Go.Proofs.YtmkniipdkanbbaaGreatDoor.AM

set_option maxRecDepth 100000
set_option maxHeartbeats 4000000
set_option cbv.maxSteps 3000000
namespace Go.Proofs.YtmkniipdkanbbaaGreatDoor.AM
/- Small functions; conditions: none. -/
theorem c_inside (x : Int) (a : Int) (b : Int)  : Con Tryz.prog 84 [.lit (.int .i64 x), .lit (.int .i64 a), .lit (.int .i64 b)] [] (.lit (.bool (inB x a b))) [] := by
  have hB : Base Tryz.prog (tabΓ []) tab := base_of tabOk (ents_nil)
  refine con_eq (N := 15) hB (draw_ok hB mixed) Tryz.func84 rfl rfl _ _ 50 (by simp) (by intro x hx; simp only [zqu] at hx; rcases hx with rfl | rfl | rfl <;> (first | (first | exact .lit | exact blq_ok 4 rfl) | exact .vec (fun j hj x hx => by simp [vrow] at hx; subst hx; exact .lit))) (by (first | exact .lit | exact blq_ok 4 rfl)) ?_
  intro H hH
  conv in finish _ _ _ _ _ _ _ _ => cbv
  subst hH
  simp only [Fin.sat0, Fin.sat1, stdH, Option.some.injEq, AV.lit.injEq, AV.agg.injEq, AV.tup.injEq, List.cons.injEq, Value.bool.injEq, Value.int.injEq, AllP, and_true, true_and, eq_self, zqa, zqb, zqc, zqd, peta, ncast]
  have e : (bif decide (a ≤ x) then decide (x ≤ b) else false) = inB x a b := by unfold inB; cases h1 : decide (a ≤ x) <;> simp_all <;> omega
  exact e
noncomputable def e_inside : Entry := pureE 84 fun H a => match a with
  | [.lit (.int .i64 x), .lit (.int .i64 a), .lit (.int .i64 b)] => some (.lit (.bool (H Bool fun _ => (inB x a b))), [])
  | _ => none
theorem eok_inside : EntryOk Tryz.prog e_inside := pureE_ok (by unfold isBody; kernel_rfl) (by
  intro a r ob e hob
  split at e
  · simp only [zqt] at e
    obtain ⟨rfl, rfl⟩ := e
    exact c_inside _ _ _
  · simp at e)
def attF (k a : Int) : Bool := inB k 1 8 && (if k ≤ 3 then inB a 1 2 else decide (a = 0))
theorem c_isKind (k : Int)  : Con Tryz.prog 162 [.lit (.int .i64 k)] [] (.lit (.bool (inB k 1 8))) [] := by
  have hB : Base Tryz.prog (tabΓ [e_inside]) tab := base_of tabOk (ents_cons eok_inside <| ents_nil)
  refine con_eq (N := 5) hB (draw_ok hB mixed) Tryz.func162 rfl rfl _ _ 50 (by simp) (by intro x hx; simp only [zqu] at hx; rcases hx with rfl <;> (first | (first | exact .lit | exact blq_ok 4 rfl) | exact .vec (fun j hj x hx => by simp [vrow] at hx; subst hx; exact .lit))) (by (first | exact .lit | exact blq_ok 4 rfl)) ?_
  intro H hH
  conv in finish _ _ _ _ _ _ _ _ => cbv
  subst hH
  simp only [Fin.sat0, Fin.sat1, stdH, Option.some.injEq, AV.lit.injEq, AV.agg.injEq, AV.tup.injEq, List.cons.injEq, Value.bool.injEq, Value.int.injEq, AllP, and_true, true_and, eq_self, zqa, zqb, zqc, zqd, peta, ncast]
noncomputable def e_isKind : Entry := pureE 162 fun H a => match a with
  | [.lit (.int .i64 k)] => some (.lit (.bool (H Bool fun _ => (inB k 1 8))), [])
  | _ => none
theorem eok_isKind : EntryOk Tryz.prog e_isKind := pureE_ok (by unfold isBody; kernel_rfl) (by
  intro a r ob e hob
  split at e
  · simp only [zqt] at e
    obtain ⟨rfl, rfl⟩ := e
    exact c_isKind _
  · simp at e)
theorem c_l4Kind (k : Int)  : Con Tryz.prog 149 [.lit (.int .i64 k)] [] (.lit (.bool (inB k 1 8))) [] := by
  have hB : Base Tryz.prog (tabΓ [e_l1In]) tab := base_of tabOk (ents_cons eok_l1In <| ents_nil)
  refine con_eq (N := 5) hB (draw_ok hB mixed) Tryz.func149 rfl rfl _ _ 50 (by simp) (by intro x hx; simp only [zqu] at hx; rcases hx with rfl <;> (first | (first | exact .lit | exact blq_ok 4 rfl) | exact .vec (fun j hj x hx => by simp [vrow] at hx; subst hx; exact .lit))) (by (first | exact .lit | exact blq_ok 4 rfl)) ?_
  intro H hH
  conv in finish _ _ _ _ _ _ _ _ => cbv
  subst hH
  simp only [Fin.sat0, Fin.sat1, stdH, Option.some.injEq, AV.lit.injEq, AV.agg.injEq, AV.tup.injEq, List.cons.injEq, Value.bool.injEq, Value.int.injEq, AllP, and_true, true_and, eq_self, zqa, zqb, zqc, zqd, peta, ncast]
noncomputable def e_l4Kind : Entry := pureE 149 fun H a => match a with
  | [.lit (.int .i64 k)] => some (.lit (.bool (H Bool fun _ => (inB k 1 8))), [])
  | _ => none
theorem eok_l4Kind : EntryOk Tryz.prog e_l4Kind := pureE_ok (by unfold isBody; kernel_rfl) (by
  intro a r ob e hob
  split at e
  · simp only [zqt] at e
    obtain ⟨rfl, rfl⟩ := e
    exact c_l4Kind _
  · simp at e)
theorem c_l2Good (x : Int)  : Con Tryz.prog 103 [.lit (.int .i64 x)] [] (.lit (.bool (inB x 1 9))) [] := by
  have hB : Base Tryz.prog (tabΓ [e_l1In]) tab := base_of tabOk (ents_cons eok_l1In <| ents_nil)
  refine con_eq (N := 5) hB (draw_ok hB mixed) Tryz.func103 rfl rfl _ _ 50 (by simp) (by intro x hx; simp only [zqu] at hx; rcases hx with rfl <;> (first | (first | exact .lit | exact blq_ok 4 rfl) | exact .vec (fun j hj x hx => by simp [vrow] at hx; subst hx; exact .lit))) (by (first | exact .lit | exact blq_ok 4 rfl)) ?_
  intro H hH
  conv in finish _ _ _ _ _ _ _ _ => cbv
  subst hH
  simp only [Fin.sat0, Fin.sat1, stdH, Option.some.injEq, AV.lit.injEq, AV.agg.injEq, AV.tup.injEq, List.cons.injEq, Value.bool.injEq, Value.int.injEq, AllP, and_true, true_and, eq_self, zqa, zqb, zqc, zqd, peta, ncast]
noncomputable def e_l2Good : Entry := pureE 103 fun H a => match a with
  | [.lit (.int .i64 x)] => some (.lit (.bool (H Bool fun _ => (inB x 1 9))), [])
  | _ => none
theorem eok_l2Good : EntryOk Tryz.prog e_l2Good := pureE_ok (by unfold isBody; kernel_rfl) (by
  intro a r ob e hob
  split at e
  · simp only [zqt] at e
    obtain ⟨rfl, rfl⟩ := e
    exact c_l2Good _
  · simp at e)
theorem c_l4Group (g0 g1 g2 g3 : Int)  : Con Tryz.prog 101 [.agg [.lit (.int .i64 g0), .lit (.int .i64 g1), .lit (.int .i64 g2), .lit (.int .i64 g3)]] [] (.lit (.bool (inB g0 1 6 && attF g1 g2 && inB g3 1 9))) [] := by
  have hB : Base Tryz.prog (tabΓ [e_l1In, e_l4Kind, e_l2Good, e_l4Beast]) tab := base_of tabOk (ents_cons eok_l1In <| ents_cons eok_l4Kind <| ents_cons eok_l2Good <| ents_cons eok_l4Beast <| ents_nil)
  refine con_eq (N := 28) hB (draw_ok hB mixed) Tryz.func101 rfl rfl _ _ 60 (by simp) (by intro x hx; simp only [zqu] at hx; rcases hx with rfl <;> (first | (first | exact .lit | exact blq_ok 4 rfl) | exact .vec (fun j hj x hx => by simp [vrow] at hx; subst hx; exact .lit))) (by (first | exact .lit | exact blq_ok 4 rfl)) ?_
  intro H hH
  conv in finish _ _ _ _ _ _ _ _ => cbv
  subst hH
  simp only [Fin.sat0, Fin.sat1, stdH, Option.some.injEq, AV.lit.injEq, AV.agg.injEq, AV.tup.injEq, List.cons.injEq, Value.bool.injEq, Value.int.injEq, AllP, and_true, true_and, eq_self, zqa, zqb, zqc, zqd, peta, ncast]
  unfold attF
  generalize inB g0 1 6 = b0
  generalize inB g1 1 8 = b1
  generalize inB g3 1 9 = b3
  refine ⟨fun h => ?_, fun h => ⟨fun hk => ?_, fun hk => ?_⟩⟩
  · cases b0 <;> cases b1 <;> cases b3 <;> simp_all
  · rw [if_pos hk]; cases b0 <;> cases b1 <;> cases b3 <;> simp_all
  · rw [if_neg hk]
    have e5 : (g2 == 0) = decide (g2 = 0) := by by_cases h5 : g2 = 0 <;> simp [h5]
    rw [e5]; cases b0 <;> cases b1 <;> cases b3 <;> simp_all
noncomputable def e_l4Group : Entry := pureE 101 fun H a => match a with
  | [.agg [.lit (.int .i64 g0), .lit (.int .i64 g1), .lit (.int .i64 g2), .lit (.int .i64 g3)]] => some (.lit (.bool (H Bool fun _ => (inB g0 1 6 && attF g1 g2 && inB g3 1 9))), [])
  | _ => none
theorem eok_l4Group : EntryOk Tryz.prog e_l4Group := pureE_ok (by unfold isBody; kernel_rfl) (by
  intro a r ob e hob
  split at e
  · simp only [zqt] at e
    obtain ⟨rfl, rfl⟩ := e
    exact c_l4Group _ _ _ _
  · simp at e)
def attN (k : Int) : Nat := if 1 ≤ k ∧ k ≤ 3 then 2 else 0
theorem x_attitudes (k : Int) : ∃ f, Con Tryz.prog 127 [.lit (.int .i64 k)] [] (.vec 1 (attN k) f) [] := by
  have hB : Base Tryz.prog (tabΓ []) tab := base_of tabOk (ents_nil)
  have main : ∃ r u, Con Tryz.prog 127 [.lit (.int .i64 k)] [] r u ∧ u = [] ∧ ∃ f, r = .vec 1 (attN k) f := by
    refine con_ex (N := 14) hB (draw_ok hB mixed) Tryz.func127 rfl rfl _ [] 0 _ 60 (by simp) (by intro x hx; simp only [zqu] at hx; subst hx; exact .lit) (by simp [lk]) ?_
    intro H hH
    conv in finish _ _ _ _ _ _ _ _ => cbv
    subst hH
    simp only [Fin.sat0, stdH, beq_iff_eq, beq_eq_false_iff_ne, ne_eq]
    have e2 : ∀ j, 1 ≤ j ∧ j ≤ 3 → attN j = 2 := fun j hj => if_pos hj
    have e0 : ∀ j, ¬ j = 1 → ¬ j = 2 → ¬ j = 3 → attN j = 0 := fun j h1 h2 h3 => if_neg (by omega)
    have bl : ∀ L : List ByteArray, Bl 0 (.vec 1 2 (rowsS stdH fun _ => L)) := fun L => .vec fun j _ x hx => by simp [rowsS] at hx; subst hx; exact .lit
    refine ⟨fun h => ⟨_, [], .ful (fun _ _ => rfl), bl _, by simp, by simp [lk], rfl, _, by rw [e2 k (by omega)]⟩, fun h1 => ⟨fun h => ⟨_, [], .ful (fun _ _ => rfl), bl _, by simp, by simp [lk], rfl, _, by rw [e2 k (by omega)]⟩, fun h2 => ⟨fun h => ⟨_, [], .ful (fun _ _ => rfl), bl _, by simp, by simp [lk], rfl, _, by rw [e2 k (by omega)]⟩, fun h3 => ?_⟩⟩⟩
    exact ⟨.vec 1 0 fun _ => [], [], .ful0, .vec (by omega), by simp, by simp [lk], rfl, _, by rw [e0 k h1 h2 h3]⟩
  obtain ⟨r, u, h, rfl, f, rfl⟩ := main
  exact ⟨f, h⟩
noncomputable def F_attitudes (k : Int) : Nat → List AV := Classical.epsilon fun f => Con Tryz.prog 127 [.lit (.int .i64 k)] [] (.vec 1 (attN k) f) []
noncomputable def e_attitudes : Entry := pureE 127 fun H a => match a with
  | [.lit (.int .i64 k)] => some (.vec 1 (H Nat fun _ => attN k) (H (Nat → List AV) fun _ => F_attitudes k), [])
  | _ => none
theorem eok_attitudes : EntryOk Tryz.prog e_attitudes := pureE_ok (by unfold isBody; kernel_rfl) (by
  intro a r ob e hob
  split at e
  · simp only [zqt] at e
    obtain ⟨rfl, rfl⟩ := e
    exact Classical.epsilon_spec (x_attitudes _)
  · simp at e)

end Go.Proofs.YtmkniipdkanbbaaGreatDoor.AM

