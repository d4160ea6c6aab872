/- Lemmas and contracts (ADrP Grp); conditions: none. -/
import Derived.Test.YtbnohmfapmeaaaaGreatDoorK03
import Derived.Laws.BitsLemmas
import Derived.Laws.Bits64
set_option linter.unusedVariables false
set_option linter.unusedSimpArgs false
set_option maxRecDepth 100000
set_option maxHeartbeats 4000000
set_option cbv.maxSteps 3000000
namespace Go.Proofs.YtbnohmfapmeaaaaGreatDoor.AM
/- The cursor's simple draws; conditions: none. -/
theorem wi {x : Int} (h : -9223372036854775808 ≤ x) (h' : x ≤ 9223372036854775807) : IntKind.i64.wrap x = x := by rw [IntKind.wrap_i64]; omega
end Go.Proofs.YtbnohmfapmeaaaaGreatDoor.AM

set_option linter.unusedVariables false
set_option linter.unusedSimpArgs false
set_option maxRecDepth 100000
set_option maxHeartbeats 4000000
set_option cbv.maxSteps 3000000
namespace Go.Proofs.YtbnohmfapmeaaaaGreatDoor.AM
/- Groups of charges: their draws, and small functions; conditions: none. -/
structure Grp where
  c : Int
  k : Int
  a : Int
  t : Int
deriving Inhabited
def inB (x a b : Int) : Bool := decide (a ≤ x ∧ x ≤ b)
theorem c_l4Beast (k : Int)  : Con Tryz.prog 239 [.lit (.int .i64 k)] [] (.lit (.bool (decide (k ≤ 3)))) [] := by
  have hB : Base Tryz.prog (tabΓ []) tab := base_of tabOk (ents_nil)
  refine con_eq (N := 5) hB (draw_ok hB mixed) Tryz.func239 rfl rfl _ _ 50 (by simp) (by intro x hx; simp only [List.mem_cons, List.not_mem_nil, or_false] at hx; rcases hx with rfl <;> (first | (first | exact .lit | exact blq_ok 4 rfl) | exact .vec (fun j hj x hx => by simp [vrow] at hx; subst hx; exact .lit))) (by (first | exact .lit | exact blq_ok 4 rfl)) ?_
  intro H hH
  conv in finish _ _ _ _ _ _ _ _ => cbv
  subst hH
  simp only [Fin.sat0, Fin.sat1, stdH, Option.some.injEq, AV.lit.injEq, AV.agg.injEq, AV.tup.injEq, List.cons.injEq, Value.bool.injEq, Value.int.injEq, AllP, and_true, true_and, eq_self, decide_eq_true_eq, decide_eq_false_iff_not, Bool.not_eq_true', Bool.not_eq_false', peta, ncast]
noncomputable def e_l4Beast : Entry := pureE 239 fun H a => match a with
  | [.lit (.int .i64 k)] => some (.lit (.bool (H Bool fun _ => (decide (k ≤ 3)))), [])
  | _ => none
theorem eok_l4Beast : EntryOk Tryz.prog e_l4Beast := pureE_ok (by unfold isBody; kernel_rfl) (by
  intro a r ob e hob
  split at e
  · simp only [Option.some.injEq, Prod.mk.injEq] at e
    obtain ⟨rfl, rfl⟩ := e
    exact c_l4Beast _
  · simp at e)
theorem c_l1In (x : Int) (a : Int) (b : Int)  : Con Tryz.prog 110 [.lit (.int .i64 x), .lit (.int .i64 a), .lit (.int .i64 b)] [] (.lit (.bool (inB x a b))) [] := by
  have hB : Base Tryz.prog (tabΓ []) tab := base_of tabOk (ents_nil)
  refine con_eq (N := 15) hB (draw_ok hB mixed) Tryz.func110 rfl rfl _ _ 50 (by simp) (by intro x hx; simp only [List.mem_cons, List.not_mem_nil, or_false] at hx; rcases hx with rfl | rfl | rfl <;> (first | (first | exact .lit | exact blq_ok 4 rfl) | exact .vec (fun j hj x hx => by simp [vrow] at hx; subst hx; exact .lit))) (by (first | exact .lit | exact blq_ok 4 rfl)) ?_
  intro H hH
  conv in finish _ _ _ _ _ _ _ _ => cbv
  subst hH
  simp only [Fin.sat0, Fin.sat1, stdH, Option.some.injEq, AV.lit.injEq, AV.agg.injEq, AV.tup.injEq, List.cons.injEq, Value.bool.injEq, Value.int.injEq, AllP, and_true, true_and, eq_self, decide_eq_true_eq, decide_eq_false_iff_not, Bool.not_eq_true', Bool.not_eq_false', peta, ncast]
  have e : (bif decide (a ≤ x) then decide (x ≤ b) else false) = inB x a b := by unfold inB; cases h1 : decide (a ≤ x) <;> simp_all <;> omega
  exact e
noncomputable def e_l1In : Entry := pureE 110 fun H a => match a with
  | [.lit (.int .i64 x), .lit (.int .i64 a), .lit (.int .i64 b)] => some (.lit (.bool (H Bool fun _ => (inB x a b))), [])
  | _ => none
theorem eok_l1In : EntryOk Tryz.prog e_l1In := pureE_ok (by unfold isBody; kernel_rfl) (by
  intro a r ob e hob
  split at e
  · simp only [Option.some.injEq, Prod.mk.injEq] at e
    obtain ⟨rfl, rfl⟩ := e
    exact c_l1In _ _ _
  · simp at e)
end Go.Proofs.YtbnohmfapmeaaaaGreatDoor.AM

