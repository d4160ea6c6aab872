import Derived.Test.YtfamdalilcbloaaAmT
import Derived.Test.YtfamdalilcbloaaDel
import Derived.Test.YtfamdalilcbloaaQtr
import Derived.Test.YtfamdalilcbloaaLvo
set_option linter.unusedVariables false
set_option linter.unusedSimpArgs false
set_option maxRecDepth 100000
set_option maxHeartbeats 4000000
set_option cbv.maxSteps 3000000
namespace Go.Proofs.Ytfamdalilcbloaa.AM
/- Arms left out, handed out to be read; conditions: none. -/
theorem c_leaveH (l : List Arm) (i : Int) (h0 : l.length ≤ 1048576) : ConN Try.prog 12 [.vec 15 (stdH Nat fun _ => (l).length) (rowsA stdH fun _ => l), .lit (.int .i64 i)] [] 0 (.tup [.vec 15 (stdH Nat fun _ => (if okL2 l i then lvo l i else []).length) (rowsA stdH fun _ => if okL2 l i then lvo l i else []), .lit (.bool (stdH Bool fun _ => okL2 l i))]) [] [] := by
  have hB : Base Try.prog (tabΓ [e_validQ, e_inside, e_Delete]) tabO := base_of tabOkO (ents_cons eok_validQ <| ents_cons eok_inside <| ents_cons eok_Delete <| ents_nil)
  refine con_m (N := 24) hB (draw_ok hB mixed) Try.func12 rfl rfl (fun H => [.vec 15 (H Nat fun _ => (l).length) (rowsA H fun _ => l), .lit (.int .i64 i)]) (fun _ => []) 0 (fun H => .tup [.vec 15 (H Nat fun _ => (if okL2 l i then lvo l i else []).length) (rowsA H fun _ => if okL2 l i then lvo l i else []), .lit (.bool (H Bool fun _ => okL2 l i))]) (fun H => []) (fun _ => []) 200 (by simp) (fun x hx => ?_) (by simp [lk]) (by omega) (by simp) ?_
  · simp only [List.mem_cons, List.not_mem_nil, or_false] at hx
    rcases hx with rfl | rfl
    · exact vl_bl okRA l _
    · exact .lit
  intro X hX hX0 H hH
  conv in Fin.chk _ _ => cbv
  try simp only [Plain_rowsA, Plain_rowsB, Plain_rowsF, Plain_rowsG, Plain_rowsI, Plain_rowsS, Plain_rowsU, Fin.satC_ret, Fin.satC_br, Fin.satC_need, Fin.satC_again, AllP, and_true, true_and, upd, List.length_nil, List.length_cons, Nat.zero_add, if_true, ncast, Int.ofNat_eq_natCast]
  refine ⟨?_, fun h => ?_, fun h => ?_⟩
  · try simp only [hH, stdH, decide_eq_true_eq, decide_eq_false_iff_not, Bool.not_eq_true', Bool.not_eq_false', peta, ncast, Int.ofNat_eq_natCast, beq_iff_eq, bne_iff_ne, beq_eq_false_iff_ne, bne_eq_false_iff_eq, ne_eq, Classical.not_not, Int.toNat_natCast, vrow_I, Arm.eta2, Fld.eta, Grp.eta]
    exact ⟨Shp_A _ _, by simp only [Tl_A]; omega⟩
  · have hn : okL2 l i = false := by
      simp only [hH, stdH, Tl_A, lv_cond l i h0] at h
      simpa using h
    rw [hn]
    try simp only [hH, stdH, decide_eq_true_eq, decide_eq_false_iff_not, Bool.not_eq_true', Bool.not_eq_false', peta, ncast, Int.ofNat_eq_natCast, beq_iff_eq, bne_iff_ne, beq_eq_false_iff_ne, bne_eq_false_iff_eq, ne_eq, Classical.not_not, Int.toNat_natCast, vrow_I, Arm.eta2, Fld.eta, Grp.eta]
    try exact ⟨trivial, rfl⟩
  · have hy : okL2 l i = true := by
      simp only [hH, stdH, Tl_A, lv_cond l i h0] at h
      simpa using h
    obtain ⟨q1, q2, q3, q4⟩ := okL2_in hy
    rw [hy]
    simp only [hH, stdH, app_zero, Int.toNat_natCast, if_true]
    have e : IntKind.i64.wrap (i + 1) = i + 1 := wi (by omega) (by omega)
    rw [e]
    trace_state
    exact ⟨⟨trivial, by omega, by omega⟩, ⟨by omega, by omega, rfl, fun j _ => rfl⟩, trivial, rows_del hy⟩
noncomputable def e_leaveH : Entry := pureE 12 fun H a => match a with
  | [.vec 15 ln lf, .lit (.int .i64 i)] => some (.tup [.vec 15 (H Nat fun _ => (if okL2 (Tl rowA ln lf) i then lvo (Tl rowA ln lf) i else []).length) (rowsA H fun _ => if okL2 (Tl rowA ln lf) i then lvo (Tl rowA ln lf) i else []), .lit (.bool (H Bool fun _ => okL2 (Tl rowA ln lf) i))], [H Prop fun _ => Shp rowA ln lf, H Prop fun _ => (Tl rowA ln lf).length ≤ 1048576])
  | _ => none
theorem eok_leaveH : EntryOk Try.prog e_leaveH := pureM_ok (by unfold isBody; kernel_rfl) (by
  intro a r ob e hob
  split at e
  · rename_i ln lf i
    simp only [Option.some.injEq, Prod.mk.injEq] at e
    obtain ⟨rfl, rfl⟩ := e
    exact ConN.args (.cons (.toT okRA rfl hob.1) (.cons .rfl .nil)) (c_leaveH (Tl rowA ln lf) i hob.2.1)
  · simp at e)
theorem c_leaveHS (l : List Arm) (i : Int) (h0 : l.length ≤ 1048576) : ConN Try.prog 10 [.vec 15 (stdH Nat fun _ => (l).length) (rowsA stdH fun _ => l), .lit (.int .i64 i)] [] 0 (.tup [.vec 15 (stdH Nat fun _ => (if okL2 l i then lvo l i else []).length) (rowsA stdH fun _ => if okL2 l i then lvo l i else []), .lit (.bool (stdH Bool fun _ => okL2 l i))]) [] [] := by
  have hB : Base Try.prog (tabΓ [e_l21Good, e_l1In]) tabO := base_of tabOkO (ents_cons eok_l21Good <| ents_cons eok_l1In <| ents_nil)
  refine con_m (N := 28) hB (draw_ok hB mixed) Try.func10 rfl rfl (fun H => [.vec 15 (H Nat fun _ => (l).length) (rowsA H fun _ => l), .lit (.int .i64 i)]) (fun _ => []) 0 (fun H => .tup [.vec 15 (H Nat fun _ => (if okL2 l i then lvo l i else []).length) (rowsA H fun _ => if okL2 l i then lvo l i else []), .lit (.bool (H Bool fun _ => okL2 l i))]) (fun H => []) (fun _ => []) 200 (by simp) (fun x hx => ?_) (by simp [lk]) (by omega) (by simp) ?_
  · simp only [List.mem_cons, List.not_mem_nil, or_false] at hx
    rcases hx with rfl | rfl
    · exact vl_bl okRA l _
    · exact .lit
  intro X hX hX0 H hH
  conv in Fin.chk _ _ => cbv
  try simp only [Plain_rowsA, Plain_rowsB, Plain_rowsF, Plain_rowsG, Plain_rowsI, Plain_rowsS, Plain_rowsU, Fin.satC_ret, Fin.satC_br, Fin.satC_need, Fin.satC_again, AllP, and_true, true_and, upd, List.length_nil, List.length_cons, Nat.zero_add, if_true, ncast, Int.ofNat_eq_natCast]
  refine ⟨?_, fun h => ?_, fun h => ?_⟩
  · try simp only [hH, stdH, decide_eq_true_eq, decide_eq_false_iff_not, Bool.not_eq_true', Bool.not_eq_false', peta, ncast, Int.ofNat_eq_natCast, beq_iff_eq, bne_iff_ne, beq_eq_false_iff_ne, bne_eq_false_iff_eq, ne_eq, Classical.not_not, Int.toNat_natCast, vrow_I, Arm.eta2, Fld.eta, Grp.eta]
    exact ⟨Shp_A _ _, by simp only [Tl_A]; omega⟩
  · have hn : okL2 l i = false := by
      simp only [hH, stdH, Tl_A, lv_cond l i h0] at h
      simpa using h
    simp only [hH, stdH, hn, Bool.false_eq_true, if_false]
    trace_state
    exact ⟨trivial, RowsEq.ofT okRA rfl (Shp_zero _) rfl⟩
  · have hy : okL2 l i = true := by
      simp only [hH, stdH, Tl_A, lv_cond l i h0] at h
      simpa using h
    obtain ⟨q1, q2, q3, q4⟩ := okL2_in hy
    have e : IntKind.i64.wrap (i + 1) = i + 1 := wi (by omega) (by omega)
    have e2 : (i + 1).toNat = i.toNat + 1 := by omega
    simp only [hH, stdH, hy, if_true, app_zero, e, hiOf, loOf, Nat.sub_zero, e2]
    have hp := RowsEq.parts (L := l) (a := i.toNat) (by omega)
    trace_state
    refine ⟨⟨trivial, by omega, by simp only [hiOf, loOf]; omega, by simp only [hiOf]; omega⟩, ⟨trivial, by omega, by omega⟩, ⟨by omega, trivial, by simp only [hiOf, loOf]; omega, by simp only [hiOf]; omega⟩, ⟨trivial, by omega, by omega⟩, trivial, hp⟩
noncomputable def e_leaveHS : Entry := pureE 10 fun H a => match a with
  | [.vec 15 ln lf, .lit (.int .i64 i)] => some (.tup [.vec 15 (H Nat fun _ => (if okL2 (Tl rowA ln lf) i then lvo (Tl rowA ln lf) i else []).length) (rowsA H fun _ => if okL2 (Tl rowA ln lf) i then lvo (Tl rowA ln lf) i else []), .lit (.bool (H Bool fun _ => okL2 (Tl rowA ln lf) i))], [H Prop fun _ => Shp rowA ln lf, H Prop fun _ => (Tl rowA ln lf).length ≤ 1048576])
  | _ => none
theorem eok_leaveHS : EntryOk Try.prog e_leaveHS := pureM_ok (by unfold isBody; kernel_rfl) (by
  intro a r ob e hob
  split at e
  · rename_i ln lf i
    simp only [Option.some.injEq, Prod.mk.injEq] at e
    obtain ⟨rfl, rfl⟩ := e
    exact ConN.args (.cons (.toT okRA rfl hob.1) (.cons .rfl .nil)) (c_leaveHS (Tl rowA ln lf) i hob.2.1)
  · simp at e)

end Go.Proofs.Ytfamdalilcbloaa.AM
