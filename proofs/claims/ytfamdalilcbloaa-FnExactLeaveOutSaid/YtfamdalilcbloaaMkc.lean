import Derived.Test.YtfamdalilcbloaaAmT
import Derived.Test.YtfamdalilcbloaaQtr
import Derived.Test.YtfamdalilcbloaaExm
set_option linter.unusedVariables false
set_option linter.unusedSimpArgs false
set_option maxRecDepth 100000
set_option maxHeartbeats 4000000
set_option cbv.maxSteps 3000000
namespace Go.Proofs.Ytfamdalilcbloaa.AM
/- Small facts for laws that mark lists of arms; conditions: none. -/
theorem c_markArmsN  (k : Int)  : ConN Try.prog 14 [.lit (.slice none 0 0), .lit (.int .i64 k)] [] 0 (.lit (.int .i64 (stdH Int fun _ => k))) [] [] := by
  have hB : Base Try.prog (tabΓ []) tabU := base_of tabOkU (ents_nil)
  refine con_m (N := 130) hB (draw_ok hB mixed) Try.func14 rfl rfl (fun H => [.lit (.slice none 0 0), .lit (.int .i64 k)]) (fun _ => []) 0 (fun H => .lit (.int .i64 (H Int fun _ => k))) (fun H => []) (fun _ => []) 3000 (by simp) (fun x hx => ?_) (by simp [lk]) (by omega) (by simp) ?_
  · simp only [List.mem_cons, List.not_mem_nil, or_false] at hx
    rcases hx with rfl | rfl
    · exact .lit
    · exact .lit
  intro X hX hX0 H hH
  conv in Fin.chk _ _ => cbv
  try simp only [Plain_rowsA, Plain_rowsB, Plain_rowsF, Plain_rowsG, Plain_rowsI, Plain_rowsS, Plain_rowsU, Fin.satC_ret, Fin.satC_br, Fin.satC_need, Fin.satC_again, AllP, and_true, true_and, upd, List.length_nil, List.length_cons, Nat.zero_add, if_true, ncast, Int.ofNat_eq_natCast]
  subst hH
  exact ⟨fun h => by simp [stdH] at h, fun _ => rfl⟩
noncomputable def e_markArmsN : Entry := pureE 14 fun H a => match a with
  | [.lit (.slice none 0 0), .lit (.int .i64 k)] => some (.lit (.int .i64 (H Int fun _ => k)), [])
  | _ => none
theorem eok_markArmsN : EntryOk Try.prog e_markArmsN := pureM_ok (by unfold isBody; kernel_rfl) (by
  intro a r ob e hob
  split at e
  · rename_i k
    simp only [Option.some.injEq, Prod.mk.injEq] at e
    obtain ⟨rfl, rfl⟩ := e
    exact ConN.args (.cons .rfl (.cons .rfl .nil)) (c_markArmsN k )
  · simp at e)
theorem sz_yes {x y : Int} (h : x - y < 0) : (if x - y < 0 then -1 else x - y) = -1 := if_pos h
theorem sz_no {x y : Int} (h : ¬ x - y < 0) : (if x - y < 0 then -1 else x - y) = x - y := if_neg h
theorem dlt (n : Nat) : decide (1 + 15 * (n : Int) < 0) = false := decide_eq_false (by omega)
theorem dec_false : decide False = false := rfl
theorem dec_true : decide True = true := rfl
theorem Tl_mkL (n : Nat) (k : Int) : Tl rowA n (rowsA stdH fun _ => mkL n k) = mkL n k := by
  have := Tl_A (mkL n k); rwa [mkL_len] at this

end Go.Proofs.Ytfamdalilcbloaa.AM
