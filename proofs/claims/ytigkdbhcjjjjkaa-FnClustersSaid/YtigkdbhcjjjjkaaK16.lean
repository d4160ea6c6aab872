/- Lemmas and contracts (Tin VB); conditions: none. -/
import Derived.Test.YtigkdbhcjjjjkaaK09
import Derived.Test.YtigkdbhcjjjjkaaK10
set_option linter.unusedVariables false
set_option linter.unusedSimpArgs false
set_option linter.unusedVariables false
set_option linter.unusedSimpArgs false
set_option maxRecDepth 100000
set_option maxHeartbeats 4000000
set_option cbv.maxSteps 3000000
namespace Go.Proofs.Ytigkdbhcjjjjkaa.AM
/- The tinctures of arms; conditions: none. -/
def tinF (f : Fld) : List Int := if f.d = 0 then [f.p] else [f.p, f.q]
theorem c_tinF (f : Fld) : Con Try.prog 88 [.agg [.lit (.int .i64 f.d), .lit (.int .i64 f.l), .lit (.int .i64 f.p), .lit (.int .i64 f.q)]] [] (LF (tinF f)) [] := by
  obtain ⟨f0, f1, f2, f3⟩ := f
  have hB : Base Try.prog (tabΓ []) tab := base_of tabOk (ents_nil)
  refine con_eqF (N := 14) hB (draw_ok hB mixed) Try.func88 rfl rfl _ _ 60 (by simp) (by intro x hx; simp only [List.mem_cons, List.not_mem_nil, or_false] at hx; subst hx; exact blq_ok 4 rfl) (vrow_blf _ _ _ _) ?_
  intro H hH
  conv in finish _ _ _ _ _ _ _ _ => cbv
  subst hH
  simp only [Fin.satF, stdH, beq_iff_eq, beq_eq_false_iff_ne, ne_eq, tinF]
  exact ⟨fun h => ⟨_, rfl, by rw [if_pos h]; exact frz_lit1 _⟩, fun h => ⟨_, rfl, by rw [if_neg h]; exact frz_lit2 _ _⟩⟩
def e_tinF : Entry := pureE 88 fun H a => match a with
  | [.agg [.lit (.int .i64 f0), .lit (.int .i64 f1), .lit (.int .i64 f2), .lit (.int .i64 f3)]] => some (.ful 1 (H Nat fun _ => (tinF ⟨f0, f1, f2, f3⟩).length) (H (Nat → List AV) fun _ => vrow (lget (tinF ⟨f0, f1, f2, f3⟩))), [])
  | _ => none
theorem eok_tinF : EntryOk Try.prog e_tinF := pureE_ok (by unfold isBody; kernel_rfl) (by
  intro a r ob e hob
  split at e
  · rename_i f0 f1 f2 f3
    simp only [Option.some.injEq, Prod.mk.injEq] at e
    obtain ⟨rfl, rfl⟩ := e
    exact c_tinF ⟨f0, f1, f2, f3⟩
  · simp at e)
end Go.Proofs.Ytigkdbhcjjjjkaa.AM

set_option linter.unusedVariables false
set_option linter.unusedSimpArgs false
set_option maxRecDepth 100000
set_option maxHeartbeats 4000000
set_option cbv.maxSteps 3000000
namespace Go.Proofs.Ytigkdbhcjjjjkaa.AM
/- Long codes; conditions: none. -/
def enc_vBig (H : Hold) (y : Unit → Bool) : AV := .lit (.bool (H Bool fun _ => ((y ()))))
theorem x_vBig (c : Cd) : ∃ y : Bool, Con Try.prog 5 [codeAV c] [] (enc_vBig stdH fun _ => y) [] ∧ Bl 0 (enc_vBig stdH fun _ => y) ∧ (fun _ => True) y := by
  have hB : Base Try.prog (tabΓ []) tab := base_of tabOk (ents_nil)
  refine df_ok (N := 6) hB (draw_ok hB mixed) Try.func5 rfl rfl _ _ _ 50 (by simp) ?_
  intro H hH
  conv in finish _ _ _ _ _ _ _ _ => cbv
  subst hH
  simp only [Fin.sat0, Fin.sat1, stdH, Option.some.injEq, AV.lit.injEq, AV.agg.injEq, AV.tup.injEq, List.cons.injEq, Value.bool.injEq, Value.int.injEq, AllP, and_true, true_and, eq_self, decide_eq_true_eq, decide_eq_false_iff_not, Bool.not_eq_true', Bool.not_eq_false', peta, ncast]
  exact ⟨_, .refl, .lit⟩
noncomputable def F_vBig (c : Cd) : Bool := dfw Try.prog 5 enc_vBig (fun _ => True) c
noncomputable def e_vBig (c : Cd) : Entry := codeE 5 c fun H => enc_vBig H fun _ => F_vBig c
theorem eok_vBig (c : Cd) : EntryOk Try.prog (e_vBig c) := codeE_ok (by unfold isBody; kernel_rfl) (dfw_spec (x_vBig c)).1
end Go.Proofs.Ytigkdbhcjjjjkaa.AM

