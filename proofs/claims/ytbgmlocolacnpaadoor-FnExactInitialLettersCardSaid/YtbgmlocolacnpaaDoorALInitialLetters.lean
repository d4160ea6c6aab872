import Derived.Test.YtbgmlocolacnpaaDoorAmT
import Derived.Test.YtbgmlocolacnpaaDoorLet
set_option linter.unusedVariables false
set_option linter.unusedSimpArgs false
set_option maxRecDepth 100000
set_option maxHeartbeats 4000000
set_option cbv.maxSteps 3000000
namespace Go.Proofs.YtbgmlocolacnpaaDoor.AM
/- The law FnExactInitialLetters holds; conditions: none. -/
theorem c_lawInitialLetters (s : ByteArray)  : ConN Tryd.prog 4 [.lit (.string s)] [] 0 (.lit (.bool (stdH Bool fun _ => true))) [] [] := by
  have hB : Base Tryd.prog (tabΓ [e_lets, e_letsS]) tab := base_of tabOk (ents_cons eok_lets <| ents_cons eok_letsS <| ents_nil)
  refine con_m (N := 28) hB (draw_ok hB mixed) Tryd.func4 rfl rfl (fun H => [.lit (.string s)]) (fun _ => []) 0 (fun H => .lit (.bool (H Bool fun _ => true))) (fun H => []) (fun _ => []) 200 (by simp) (fun x hx => ?_) (by simp [lk]) (by omega) (by simp) ?_
  · simp only [List.mem_cons, List.not_mem_nil, or_false] at hx
    rcases hx with rfl
    · exact .lit
  intro X hX hX0 H hH
  conv in Fin.chk _ _ => cbv
  try simp only [Plain_rowsA, Plain_rowsB, Plain_rowsF, Plain_rowsG, Plain_rowsI, Plain_rowsS, Plain_rowsU, Fin.satC_ret, Fin.satC_br, Fin.satC_need, Fin.satC_again, AllP, and_true, true_and, upd, List.length_nil, List.length_cons, Nat.zero_add, if_true, ncast, Int.ofNat_eq_natCast]
  subst hH
  simp only [stdH]
  exact ⟨fun _ => trivial, fun _ => ⟨fun h => by simp at h, fun _ => trivial⟩⟩
noncomputable def e_lawInitialLetters : Entry := pureE 4 fun H a => match a with
  | [.lit (.string s)] => some (.lit (.bool (H Bool fun _ => true)), [])
  | _ => none
theorem eok_lawInitialLetters : EntryOk Tryd.prog e_lawInitialLetters := pureM_ok (by unfold isBody; kernel_rfl) (by
  intro a r ob e hob
  split at e
  · rename_i s
    simp only [Option.some.injEq, Prod.mk.injEq] at e
    obtain ⟨rfl, rfl⟩ := e
    exact ConN.args (.cons .rfl .nil) (c_lawInitialLetters s )
  · simp at e)
theorem law_InitialLetters (s : ByteArray) : ConN Tryd.prog 4 [.lit (.string s)] [] 0 (.lit (.bool true)) [] [] := c_lawInitialLetters s

end Go.Proofs.YtbgmlocolacnpaaDoor.AM
