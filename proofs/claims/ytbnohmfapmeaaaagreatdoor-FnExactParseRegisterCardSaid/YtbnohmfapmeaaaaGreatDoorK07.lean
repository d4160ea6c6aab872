/- Lemmas and contracts (Tin); conditions: none. -/
import Derived.Test.YtbnohmfapmeaaaaGreatDoorK06
set_option linter.unusedVariables false
set_option linter.unusedSimpArgs false
set_option maxRecDepth 100000
set_option maxHeartbeats 4000000
set_option cbv.maxSteps 3000000
namespace Go.Proofs.YtbnohmfapmeaaaaGreatDoor.AM
/- The tinctures of arms; conditions: none. -/
def tinF (f : Fld) : List Int := if f.d = 0 then [f.p] else [f.p, f.q]
theorem c_tinF (f : Fld) : Con Tryz.prog 237 [.agg [.lit (.int .i64 f.d), .lit (.int .i64 f.l), .lit (.int .i64 f.p), .lit (.int .i64 f.q)]] [] (LF (tinF f)) [] := by
  obtain ⟨f0, f1, f2, f3⟩ := f
  have hB : Base Tryz.prog (tabΓ []) tab := base_of tabOk (ents_nil)
  refine con_eqF (N := 14) hB (draw_ok hB mixed) Tryz.func237 rfl rfl _ _ 60 (by simp) (by intro x hx; simp only [List.mem_cons, List.not_mem_nil, or_false] at hx; subst hx; exact blq_ok 4 rfl) (vrow_blf _ _ _ _) ?_
  intro H hH
  conv in finish _ _ _ _ _ _ _ _ => cbv
  subst hH
  simp only [Fin.satF, stdH, beq_iff_eq, beq_eq_false_iff_ne, ne_eq, tinF]
  exact ⟨fun h => ⟨_, rfl, by rw [if_pos h]; exact frz_lit1 _⟩, fun h => ⟨_, rfl, by rw [if_neg h]; exact frz_lit2 _ _⟩⟩
def e_tinF : Entry := pureE 237 fun H a => match a with
  | [.agg [.lit (.int .i64 f0), .lit (.int .i64 f1), .lit (.int .i64 f2), .lit (.int .i64 f3)]] => some (.ful 1 (H Nat fun _ => (tinF ⟨f0, f1, f2, f3⟩).length) (H (Nat → List AV) fun _ => vrow (lget (tinF ⟨f0, f1, f2, f3⟩))), [])
  | _ => none
theorem eok_tinF : EntryOk Tryz.prog e_tinF := pureE_ok (by unfold isBody; kernel_rfl) (by
  intro a r ob e hob
  split at e
  · rename_i f0 f1 f2 f3
    simp only [Option.some.injEq, Prod.mk.injEq] at e
    obtain ⟨rfl, rfl⟩ := e
    exact c_tinF ⟨f0, f1, f2, f3⟩
  · simp at e)
end Go.Proofs.YtbnohmfapmeaaaaGreatDoor.AM

