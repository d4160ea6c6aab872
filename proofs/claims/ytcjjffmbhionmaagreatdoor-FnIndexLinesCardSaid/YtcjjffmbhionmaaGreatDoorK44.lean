/- Lemmas and contracts (Ffo); conditions: none. -/
import Derived.Test.YtcjjffmbhionmaaGreatDoorK03
import Derived.Test.YtcjjffmbhionmaaGreatDoorK18
set_option linter.unusedVariables false
set_option linter.unusedSimpArgs false
set_option maxRecDepth 100000
set_option maxHeartbeats 4000000
set_option cbv.maxSteps 3000000
namespace Go.Proofs.YtcjjffmbhionmaaGreatDoor.AM
/- The features of arms, asked for; conditions: none. -/
def foL (a : Arm) : List ByteArray := if okA a = true then ftP a else []
theorem foL_y {a : Arm} (h : okA a = true) : foL a = ftP a := if_pos h
theorem foL_n {a : Arm} (h : okA a = false) : foL a = [] := if_neg (by rw [h]; simp)
theorem c_featOf (a : Arm)  : ConN Tryz.prog 13 [aT rowA stdH fun _ => a] [] 0 (.tup [.vec 1 (stdH Nat fun _ => (foL a).length) (rowsS stdH fun _ => foL a), .lit (.bool (stdH Bool fun _ => okA a))]) [] [] := by
  have hB : Base Tryz.prog (tabΓ [e_IsValidArms, e_featuresA]) tab := base_of tabOk (ents_cons eok_IsValidArms <| ents_cons eok_featuresA <| ents_nil)
  refine con_m (N := 9) hB (draw_ok hB mixed) Tryz.func13 rfl rfl (fun H => [aT rowA H fun _ => a]) (fun _ => []) 0 (fun H => .tup [.vec 1 (H Nat fun _ => (foL a).length) (rowsS H fun _ => foL a), .lit (.bool (H Bool fun _ => okA a))]) (fun H => []) (fun _ => []) 300 (by simp) (fun x hx => ?_) (by simp [lk]) (by omega) (by simp) ?_
  · simp only [List.mem_cons, List.not_mem_nil, or_false] at hx
    rcases hx with rfl
    · exact aT_bl okRA _ _
  intro X hX hX0 H hH
  conv in Fin.chk _ _ => cbv
  try simp only [Plain_rowsA, Plain_rowsB, Plain_rowsC, Plain_rowsF, Plain_rowsG, Plain_rowsI, Plain_rowsS, Plain_rowsU, Fin.satC_ret, Fin.satC_br, Fin.satC_need, Fin.satC_again, AllP, and_true, true_and, upd, List.length_nil, List.length_cons, Nat.zero_add, if_true, ncast, Int.ofNat_eq_natCast]
  simp only [hetaA hH]
  subst hH
  simp only [stdH]
  cases h : okA a with
  | false =>
    rw [foL_n h]
    exact ⟨fun _ => ⟨rfl, by first | rfl | exact RowsEq.self okS⟩, fun q => by cases q⟩
  | true =>
    rw [foL_y h]
    exact ⟨(fun q => by cases q), fun _ => ⟨rfl, rfl, RowsEq.self okS⟩⟩
noncomputable def e_featOf : Entry := pureE 13 fun H a => match a with
  | [.agg [.lit (.int .i64 a0), .lit (.int .i64 a1), .lit (.int .i64 a2), .lit (.int .i64 a3), .lit (.int .i64 a4), .lit (.int .i64 a5), .lit (.int .i64 a6), .lit (.int .i64 a7), .lit (.int .i64 a8), .lit (.int .i64 a9), .lit (.int .i64 a10), .lit (.int .i64 a11), .lit (.int .i64 a12), .lit (.int .i64 a13), .lit (.int .i64 a14)]] => some (.tup [.vec 1 (H Nat fun _ => (foL (⟨⟨a0, a1, a2, a3⟩, a4, a5, a6, ⟨a7, a8, a9, a10⟩, ⟨a11, a12, a13, a14⟩⟩ : Arm)).length) (rowsS H fun _ => foL (⟨⟨a0, a1, a2, a3⟩, a4, a5, a6, ⟨a7, a8, a9, a10⟩, ⟨a11, a12, a13, a14⟩⟩ : Arm)), .lit (.bool (H Bool fun _ => okA (⟨⟨a0, a1, a2, a3⟩, a4, a5, a6, ⟨a7, a8, a9, a10⟩, ⟨a11, a12, a13, a14⟩⟩ : Arm)))], [])
  | _ => none
theorem eok_featOf : EntryOk Tryz.prog e_featOf := pureM_ok (by unfold isBody; kernel_rfl) (by
  intro a r ob e hob
  split at e
  · rename_i a0 a1 a2 a3 a4 a5 a6 a7 a8 a9 a10 a11 a12 a13 a14
    simp only [Option.some.injEq, Prod.mk.injEq] at e
    obtain ⟨rfl, rfl⟩ := e
    exact ConN.args (.cons .rfl .nil) (c_featOf (⟨⟨a0, a1, a2, a3⟩, a4, a5, a6, ⟨a7, a8, a9, a10⟩, ⟨a11, a12, a13, a14⟩⟩ : Arm) )
  · simp at e)
theorem c_featOfS (a : Arm)  : ConN Tryz.prog 14 [aT rowA stdH fun _ => a] [] 0 (.tup [.vec 1 (stdH Nat fun _ => (foL a).length) (rowsS stdH fun _ => foL a), .lit (.bool (stdH Bool fun _ => okA a))]) [] [] := by
  have hB : Base Tryz.prog (tabΓ [e_l5Good, e_l17Features]) tab := base_of tabOk (ents_cons eok_l5Good <| ents_cons eok_l17Features <| ents_nil)
  refine con_m (N := 10) hB (draw_ok hB mixed) Tryz.func14 rfl rfl (fun H => [aT rowA H fun _ => a]) (fun _ => []) 0 (fun H => .tup [.vec 1 (H Nat fun _ => (foL a).length) (rowsS H fun _ => foL a), .lit (.bool (H Bool fun _ => okA a))]) (fun H => []) (fun _ => []) 300 (by simp) (fun x hx => ?_) (by simp [lk]) (by omega) (by simp) ?_
  · simp only [List.mem_cons, List.not_mem_nil, or_false] at hx
    rcases hx with rfl
    · exact aT_bl okRA _ _
  intro X hX hX0 H hH
  conv in Fin.chk _ _ => cbv
  try simp only [Plain_rowsA, Plain_rowsB, Plain_rowsC, Plain_rowsF, Plain_rowsG, Plain_rowsI, Plain_rowsS, Plain_rowsU, Fin.satC_ret, Fin.satC_br, Fin.satC_need, Fin.satC_again, AllP, and_true, true_and, upd, List.length_nil, List.length_cons, Nat.zero_add, if_true, ncast, Int.ofNat_eq_natCast]
  simp only [hetaA hH]
  subst hH
  simp only [stdH]
  cases h : okA a with
  | false =>
    rw [foL_n h]
    exact ⟨fun _ => ⟨rfl, by first | rfl | exact RowsEq.self okS⟩, fun q => by cases q⟩
  | true =>
    rw [foL_y h]
    exact ⟨(fun q => by cases q), fun _ => ⟨rfl, rfl, RowsEq.self okS⟩⟩
noncomputable def e_featOfS : Entry := pureE 14 fun H a => match a with
  | [.agg [.lit (.int .i64 a0), .lit (.int .i64 a1), .lit (.int .i64 a2), .lit (.int .i64 a3), .lit (.int .i64 a4), .lit (.int .i64 a5), .lit (.int .i64 a6), .lit (.int .i64 a7), .lit (.int .i64 a8), .lit (.int .i64 a9), .lit (.int .i64 a10), .lit (.int .i64 a11), .lit (.int .i64 a12), .lit (.int .i64 a13), .lit (.int .i64 a14)]] => some (.tup [.vec 1 (H Nat fun _ => (foL (⟨⟨a0, a1, a2, a3⟩, a4, a5, a6, ⟨a7, a8, a9, a10⟩, ⟨a11, a12, a13, a14⟩⟩ : Arm)).length) (rowsS H fun _ => foL (⟨⟨a0, a1, a2, a3⟩, a4, a5, a6, ⟨a7, a8, a9, a10⟩, ⟨a11, a12, a13, a14⟩⟩ : Arm)), .lit (.bool (H Bool fun _ => okA (⟨⟨a0, a1, a2, a3⟩, a4, a5, a6, ⟨a7, a8, a9, a10⟩, ⟨a11, a12, a13, a14⟩⟩ : Arm)))], [])
  | _ => none
theorem eok_featOfS : EntryOk Tryz.prog e_featOfS := pureM_ok (by unfold isBody; kernel_rfl) (by
  intro a r ob e hob
  split at e
  · rename_i a0 a1 a2 a3 a4 a5 a6 a7 a8 a9 a10 a11 a12 a13 a14
    simp only [Option.some.injEq, Prod.mk.injEq] at e
    obtain ⟨rfl, rfl⟩ := e
    exact ConN.args (.cons .rfl .nil) (c_featOfS (⟨⟨a0, a1, a2, a3⟩, a4, a5, a6, ⟨a7, a8, a9, a10⟩, ⟨a11, a12, a13, a14⟩⟩ : Arm) )
  · simp at e)

end Go.Proofs.YtcjjffmbhionmaaGreatDoor.AM

