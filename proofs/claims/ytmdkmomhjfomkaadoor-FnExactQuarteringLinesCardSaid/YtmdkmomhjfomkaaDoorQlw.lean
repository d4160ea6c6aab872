import Derived.Test.YtmdkmomhjfomkaaDoorAmT
import Derived.Test.YtmdkmomhjfomkaaDoorQln
import Derived.Test.YtmdkmomhjfomkaaDoorExm
set_option linter.unusedVariables false
set_option linter.unusedSimpArgs false
set_option maxRecDepth 100000
set_option maxHeartbeats 4000000
set_option cbv.maxSteps 3000000
namespace Go.Proofs.YtmdkmomhjfomkaaDoor.AM
/- The law FnExactQuarteringLines holds; conditions: none. -/
theorem szq_yes {x y : Int} (h : x - y < 0) : (if x - y < 0 then -1 else x - y) = -1 := if_pos h
theorem szq_no {x y : Int} (h : ¬ x - y < 0) : (if x - y < 0 then -1 else x - y) = x - y := if_neg h
theorem Tl_mkQ (n : Nat) (k : Int) : Tl rowA n (rowsA stdH fun _ => mkL n k) = mkL n k := by
  have := Tl_A (mkL n k); rwa [mkL_len] at this
theorem decF : decide False = false := rfl
theorem decT : decide True = true := rfl
theorem dl1 (n : Nat) : decide (1 + (n : Int) < 0) = false := decide_eq_false (by omega)
theorem dl15 (n : Nat) : decide (1 + 15 * (n : Int) < 0) = false := decide_eq_false (by omega)
theorem qlT_len (l : List Arm) : (qlT l).length = l.length := by simp [qlT]
theorem c_qlLawY (list : List Arm) (h0 : list.length ≤ 9223372036854775807) (h1 : okQ list = true) : ConN Tryd.prog 3 [.vec 15 (stdH Nat fun _ => (list).length) (rowsA stdH fun _ => list)] [] 0 (.lit (.bool (stdH Bool fun _ => true))) [] [] := by
  have hB : Base Tryd.prog (tabΓ [e_szArmsS, e_toArmsS, e_QLinesS, e_QLinesY, e_eqArmsS, e_eqStringS, e_markArmsS, e_markStringS, e_heldStringS]) tabO := base_of tabOkO (ents_cons eok_szArmsS <| ents_cons eok_toArmsS <| ents_cons eok_QLinesS <| ents_cons eok_QLinesY <| ents_cons eok_eqArmsS <| ents_cons eok_eqStringS <| ents_cons eok_markArmsS <| ents_cons eok_markStringS <| ents_cons eok_heldStringS <| ents_nil)
  refine con_m (N := 96) hB (draw_ok hB mixed) Tryd.func3 rfl rfl (fun H => [.vec 15 (H Nat fun _ => (list).length) (rowsA H fun _ => list)]) (fun _ => []) 0 (fun H => .lit (.bool (H Bool fun _ => true))) (fun H => []) (fun _ => []) 600 (by simp) (fun x hx => ?_) (by simp [lk]) (by omega) (by simp) ?_
  · simp only [List.mem_cons, List.not_mem_nil, or_false] at hx
    rcases hx with rfl
    · exact vl_bl okRA list _
  intro X hX hX0 H hH
  conv in Fin.chk _ _ => cbv
  try simp only [Plain_rowsA, Plain_rowsB, Plain_rowsC, Plain_rowsF, Plain_rowsG, Plain_rowsI, Plain_rowsS, Plain_rowsU, Fin.satC_ret, Fin.satC_br, Fin.satC_need, Fin.satC_again, AllP, and_true, true_and, upd, List.length_nil, List.length_cons, Nat.zero_add, if_true, ncast, Int.ofNat_eq_natCast]
  subst hH
  have hl := okQ_len h1
  have hq := qlT_len list
  simp only [stdH, Tl_A, Shp_A, Tl_S, Shp_S, h1, rowsA_len, implies_true, and_true, true_and, Bool.and_self, if_true, decT, Bool.not_true, eq_self, mkL_len]
  by_cases e1 : 1048576 - (list.length : Int) < 0
  · simp only [szq_yes e1]
    repeat' (first | exact trivial | rfl | omega | refine And.intro ?_ ?_ | (intro h; first | (simp at h; done) | skip))
  simp only [szq_no e1]
  simp only [dl1, dl15, Tl_mkQ, mkL_len, mkS_len, sts_len, Tl_zero, Shp_zero, eq_self, decT, Bool.not_true, Bool.not_false, cond_false, cond_true, beq_self_eq_true, bne_self_eq_false, List.length_nil]
  repeat' (first | exact trivial | rfl | omega | refine And.intro ?_ ?_ | (intro h; first | (simp at h; done) | (exfalso; simp at h; omega) | skip))
noncomputable def e_qlLawY : Entry := pureE 3 fun H a => match a with
  | [.vec 15 listn listf] => some (.lit (.bool (H Bool fun _ => true)), [H Prop fun _ => Shp rowA listn listf, H Prop fun _ => (Tl rowA listn listf).length ≤ 9223372036854775807, H Prop fun _ => okQ (Tl rowA listn listf) = true])
  | _ => none
theorem eok_qlLawY : EntryOk Tryd.prog e_qlLawY := pureM_ok (by unfold isBody; kernel_rfl) (by
  intro a r ob e hob
  split at e
  · rename_i listn listf
    simp only [Option.some.injEq, Prod.mk.injEq] at e
    obtain ⟨rfl, rfl⟩ := e
    exact ConN.args (.cons (.toT okRA rfl hob.1) .nil) (c_qlLawY (Tl rowA listn listf) hob.2.1 hob.2.2.1)
  · simp at e)
theorem c_qlLawN (list : List Arm) (h0 : list.length ≤ 9223372036854775807) (h1 : okQ list = false) : ConN Tryd.prog 3 [.vec 15 (stdH Nat fun _ => (list).length) (rowsA stdH fun _ => list)] [] 0 (.lit (.bool (stdH Bool fun _ => true))) [] [] := by
  have hB : Base Tryd.prog (tabΓ [e_szArmsS, e_toArmsS, e_QLinesSN, e_QLinesN, e_eqArmsS, e_eqStringS, nilE [1, 1] e_eqStringS, e_markArmsS, e_markStringS, e_markStringN, e_heldStringS, nilE [1, 0] e_heldStringS]) tabO := base_of tabOkO (ents_cons eok_szArmsS <| ents_cons eok_toArmsS <| ents_cons eok_QLinesSN <| ents_cons eok_QLinesN <| ents_cons eok_eqArmsS <| ents_cons eok_eqStringS <| ents_cons (nilE_ok eok_eqStringS) <| ents_cons eok_markArmsS <| ents_cons eok_markStringS <| ents_cons eok_markStringN <| ents_cons eok_heldStringS <| ents_cons (nilE_ok eok_heldStringS) <| ents_nil)
  refine con_m (N := 96) hB (draw_ok hB mixed) Tryd.func3 rfl rfl (fun H => [.vec 15 (H Nat fun _ => (list).length) (rowsA H fun _ => list)]) (fun _ => []) 0 (fun H => .lit (.bool (H Bool fun _ => true))) (fun H => []) (fun _ => []) 600 (by simp) (fun x hx => ?_) (by simp [lk]) (by omega) (by simp) ?_
  · simp only [List.mem_cons, List.not_mem_nil, or_false] at hx
    rcases hx with rfl
    · exact vl_bl okRA list _
  intro X hX hX0 H hH
  conv in Fin.chk _ _ => cbv
  try simp only [Plain_rowsA, Plain_rowsB, Plain_rowsC, Plain_rowsF, Plain_rowsG, Plain_rowsI, Plain_rowsS, Plain_rowsU, Fin.satC_ret, Fin.satC_br, Fin.satC_need, Fin.satC_again, AllP, and_true, true_and, upd, List.length_nil, List.length_cons, Nat.zero_add, if_true, ncast, Int.ofNat_eq_natCast]
  subst hH
  simp only [stdH, Tl_A, Shp_A, Tl_S, Shp_S, h1, rowsA_len, implies_true, and_true, true_and, Bool.and_self, if_true, decT, Bool.not_true, eq_self, mkL_len]
  have en : noTx.length = 0 := rfl
  by_cases e1 : 1048576 - (list.length : Int) < 0
  · simp only [szq_yes e1]
    repeat' (first | exact trivial | rfl | omega | refine And.intro ?_ ?_ | (intro h; first | (simp at h; done) | skip))
  simp only [szq_no e1]
  have et : Tl rowS 0 (rowsS stdH fun _ => noTx) = [] := rfl
  have eq : decide (([] : List ByteArray) = noTx) = true := rfl
  simp only [dl15, en, et, eq, Tl_zero, Shp_zero, Tl_mkQ, mkL_len, mkS_len, eq_self, decT, Bool.not_true, Bool.not_false, cond_false, cond_true, beq_self_eq_true, bne_self_eq_false, List.length_nil]
  repeat' (first | exact trivial | rfl | omega | refine And.intro ?_ ?_ | (intro h; first | (simp at h; done) | (simp [noTx] at h; done) | (exfalso; simp at h; omega) | skip))
noncomputable def e_qlLawN : Entry := pureE 3 fun H a => match a with
  | [.vec 15 listn listf] => some (.lit (.bool (H Bool fun _ => true)), [H Prop fun _ => Shp rowA listn listf, H Prop fun _ => (Tl rowA listn listf).length ≤ 9223372036854775807, H Prop fun _ => okQ (Tl rowA listn listf) = false])
  | _ => none
theorem eok_qlLawN : EntryOk Tryd.prog e_qlLawN := pureM_ok (by unfold isBody; kernel_rfl) (by
  intro a r ob e hob
  split at e
  · rename_i listn listf
    simp only [Option.some.injEq, Prod.mk.injEq] at e
    obtain ⟨rfl, rfl⟩ := e
    exact ConN.args (.cons (.toT okRA rfl hob.1) .nil) (c_qlLawN (Tl rowA listn listf) hob.2.1 hob.2.2.1)
  · simp at e)
theorem law_QuarteringLines (l : List Arm) (h : l.length ≤ 9223372036854775807) : ConN Tryd.prog 3 [.vec 15 l.length (rowsA stdH fun _ => l)] [] 0 (.lit (.bool true)) [] [] := by
  cases e : okQ l with
  | false => exact c_qlLawN l h e
  | true => exact c_qlLawY l h e

end Go.Proofs.YtmdkmomhjfomkaaDoor.AM
