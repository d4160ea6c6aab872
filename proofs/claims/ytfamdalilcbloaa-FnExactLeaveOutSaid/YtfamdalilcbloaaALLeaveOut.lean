import Derived.Test.YtfamdalilcbloaaAmT
import Derived.Test.YtfamdalilcbloaaQtr
import Derived.Test.YtfamdalilcbloaaExm
import Derived.Test.YtfamdalilcbloaaMkc
import Derived.Test.YtfamdalilcbloaaDel
import Derived.Test.YtfamdalilcbloaaLvo
set_option linter.unusedVariables false
set_option linter.unusedSimpArgs false
set_option maxRecDepth 100000
set_option maxHeartbeats 4000000
set_option cbv.maxSteps 3000000
namespace Go.Proofs.Ytfamdalilcbloaa.AM
/- The law FnExactLeaveOut holds; conditions: none. -/
theorem c_leaveY (l : List Arm) (i : Int) (h0 : l.length ≤ 1048576) (h1 : okL2 l i = true) : ConN Try.prog 12 [.vec 15 (stdH Nat fun _ => (l).length) (rowsA stdH fun _ => l), .lit (.int .i64 i)] [] 0 (.tup [.slc 0 0 15 (stdH Nat fun _ => (lvo l i).length), .lit (.bool (stdH Bool fun _ => true))]) [.rows 15 (stdH Nat fun _ => (lvo l i).length) (rowsA stdH fun _ => lvo l i) 60] [] := by
  have hB : Base Try.prog (tabΓ [e_validQ, e_inside, e_Delete]) tabO := base_of tabOkO (ents_cons eok_validQ <| ents_cons eok_inside <| ents_cons eok_Delete <| ents_nil)
  refine con_m (N := 24) hB (draw_ok hB mixed) Try.func12 rfl rfl (fun H => [.vec 15 (H Nat fun _ => (l).length) (rowsA H fun _ => l), .lit (.int .i64 i)]) (fun _ => []) 0 (fun H => .tup [.slc 0 0 15 (H Nat fun _ => (lvo l i).length), .lit (.bool (H Bool fun _ => true))]) (fun H => [.rows 15 (H Nat fun _ => (lvo l i).length) (rowsA H fun _ => lvo l i) 60]) (fun _ => []) 200 (by simp) (fun x hx => ?_) (by simp [lk]) (by omega) (by simp) ?_
  · simp only [List.mem_cons, List.not_mem_nil, or_false] at hx
    rcases hx with rfl | rfl
    · exact vl_bl okRA l _
    · exact .lit
  intro X hX hX0 H hH
  conv in Fin.chk _ _ => cbv
  try simp only [Plain_rowsA, Plain_rowsB, Plain_rowsF, Plain_rowsG, Plain_rowsI, Plain_rowsS, Plain_rowsU, Fin.satC_ret, Fin.satC_br, Fin.satC_need, Fin.satC_again, AllP, and_true, true_and, upd, List.length_nil, List.length_cons, Nat.zero_add, if_true, ncast, Int.ofNat_eq_natCast]
  obtain ⟨q1, q2, q3, q4⟩ := okL2_in h1
  refine ⟨?_, fun h => ?_, fun h => ?_⟩
  · try simp only [hH, stdH, decide_eq_true_eq, decide_eq_false_iff_not, Bool.not_eq_true', Bool.not_eq_false', peta, ncast, Int.ofNat_eq_natCast, beq_iff_eq, bne_iff_ne, beq_eq_false_iff_ne, bne_eq_false_iff_eq, ne_eq, Classical.not_not, Int.toNat_natCast, vrow_I, Arm.eta2, Fld.eta, Grp.eta]
    exact ⟨Shp_A _ _, by simp only [Tl_A]; omega⟩
  · simp only [hH, stdH, Tl_A, lv_cond l i h0, h1] at h
    cases h
  · simp only [hH, stdH, app_zero, Int.toNat_natCast]
    have e : IntKind.i64.wrap (i + 1) = i + 1 := wi (by omega) (by omega)
    rw [e]
    exact ⟨⟨trivial, by omega, by omega⟩, ⟨by omega, by omega, rfl, fun j _ => rfl⟩, rows_del h1, trivial, lvo_len h1⟩
noncomputable def e_leaveY : Entry := pureN 12 fun H a => match a with
  | [.vec 15 ln lf, .lit (.int .i64 i)] => some (fun nx => .tup [.slc nx 0 15 (H Nat fun _ => (lvo (Tl rowA ln lf) i).length), .lit (.bool (H Bool fun _ => true))], [.rows 15 (H Nat fun _ => (lvo (Tl rowA ln lf) i).length) (rowsA H fun _ => lvo (Tl rowA ln lf) i) 60], [H Prop fun _ => Shp rowA ln lf, H Prop fun _ => (Tl rowA ln lf).length ≤ 1048576, H Prop fun _ => okL2 (Tl rowA ln lf) i = true])
  | _ => none
theorem eok_leaveY : EntryOk Try.prog e_leaveY := pureN_ok (by unfold isBody; kernel_rfl) (by
  intro a r nb ob e hob
  split at e
  · rename_i ln lf i
    simp only [Option.some.injEq, Prod.mk.injEq] at e
    obtain ⟨rfl, rfl, rfl⟩ := e
    refine ⟨ConN.args (.cons (.toT okRA rfl hob.1) (.cons .rfl .nil)) (c_leaveY (Tl rowA ln lf) i hob.2.1 hob.2.2.1), fun x hx => ?_, fun nx => ?_, fun b hb => ?_⟩
    · simp only [List.mem_cons, List.not_mem_nil, or_false] at hx
      rcases hx with rfl | rfl
      · exact (hob.1).bl okRA _
      · exact .lit
    · (first | exact .slc ⟨by omega, by simp⟩ (by omega) | (refine .tup rfl (fun c x y hx hy => ?_); rcases c with _ | _ | _ | c <;> simp at hx hy <;> (subst hx; subst hy; first | exact .slc ⟨by omega, by simp⟩ (by omega) | exact .pl .lit | exact .pl (blq_ok 4 rfl))))
    · simp only [List.mem_cons, List.not_mem_nil, or_false] at hb; subst hb; exact bT_bl okRA _ (fun _ => lvo (Tl rowA ln lf) i) _
  · simp at e)
theorem c_leaveN (l : List Arm) (i : Int) (h0 : l.length ≤ 1048576) (h1 : okL2 l i = false) : ConN Try.prog 12 [.vec 15 (stdH Nat fun _ => (l).length) (rowsA stdH fun _ => l), .lit (.int .i64 i)] [] 0 (.tup [.lit (.slice none 0 0), .lit (.bool (stdH Bool fun _ => false))]) [] [] := by
  have hB : Base Try.prog (tabΓ [e_validQ, e_inside, e_Delete]) tabO := base_of tabOkO (ents_cons eok_validQ <| ents_cons eok_inside <| ents_cons eok_Delete <| ents_nil)
  refine con_m (N := 24) hB (draw_ok hB mixed) Try.func12 rfl rfl (fun H => [.vec 15 (H Nat fun _ => (l).length) (rowsA H fun _ => l), .lit (.int .i64 i)]) (fun _ => []) 0 (fun H => .tup [.lit (.slice none 0 0), .lit (.bool (H Bool fun _ => false))]) (fun H => []) (fun _ => []) 200 (by simp) (fun x hx => ?_) (by simp [lk]) (by omega) (by simp) ?_
  · simp only [List.mem_cons, List.not_mem_nil, or_false] at hx
    rcases hx with rfl | rfl
    · exact vl_bl okRA l _
    · exact .lit
  intro X hX hX0 H hH
  conv in Fin.chk _ _ => cbv
  try simp only [Plain_rowsA, Plain_rowsB, Plain_rowsF, Plain_rowsG, Plain_rowsI, Plain_rowsS, Plain_rowsU, Fin.satC_ret, Fin.satC_br, Fin.satC_need, Fin.satC_again, AllP, and_true, true_and, upd, List.length_nil, List.length_cons, Nat.zero_add, if_true, ncast, Int.ofNat_eq_natCast]
  refine ⟨?_, fun h => ?_, fun h => ?_⟩
  · try simp only [hH, stdH, decide_eq_true_eq, decide_eq_false_iff_not, Bool.not_eq_true', Bool.not_eq_false', peta, ncast, Int.ofNat_eq_natCast, beq_iff_eq, bne_iff_ne, beq_eq_false_iff_ne, bne_eq_false_iff_eq, ne_eq, Classical.not_not, Int.toNat_natCast, vrow_I, Arm.eta2, Fld.eta, Grp.eta]
    exact ⟨Shp_A _ _, by simp only [Tl_A]; omega⟩
  · try simp only [hH, stdH, decide_eq_true_eq, decide_eq_false_iff_not, Bool.not_eq_true', Bool.not_eq_false', peta, ncast, Int.ofNat_eq_natCast, beq_iff_eq, bne_iff_ne, beq_eq_false_iff_ne, bne_eq_false_iff_eq, ne_eq, Classical.not_not, Int.toNat_natCast, vrow_I, Arm.eta2, Fld.eta, Grp.eta]
  · exfalso
    simp only [hH, stdH, Tl_A, lv_cond l i h0, h1] at h
    cases h
noncomputable def e_leaveN : Entry := pureE 12 fun H a => match a with
  | [.vec 15 ln lf, .lit (.int .i64 i)] => some (.tup [.lit (.slice none 0 0), .lit (.bool (H Bool fun _ => false))], [H Prop fun _ => Shp rowA ln lf, H Prop fun _ => (Tl rowA ln lf).length ≤ 1048576, H Prop fun _ => okL2 (Tl rowA ln lf) i = false])
  | _ => none
theorem eok_leaveN : EntryOk Try.prog e_leaveN := pureM_ok (by unfold isBody; kernel_rfl) (by
  intro a r ob e hob
  split at e
  · rename_i ln lf i
    simp only [Option.some.injEq, Prod.mk.injEq] at e
    obtain ⟨rfl, rfl⟩ := e
    exact ConN.args (.cons (.toT okRA rfl hob.1) (.cons .rfl .nil)) (c_leaveN (Tl rowA ln lf) i hob.2.1 hob.2.2.1)
  · simp at e)
theorem c_leaveS (l : List Arm) (i : Int) (h0 : l.length ≤ 1048576) : ConN Try.prog 10 [.vec 15 (stdH Nat fun _ => (l).length) (rowsA stdH fun _ => l), .lit (.int .i64 i)] [] 0 (.tup [.slc 0 0 15 (stdH Nat fun _ => (if okL2 l i then lvo l i else []).length), .lit (.bool (stdH Bool fun _ => okL2 l i))]) [.rows 15 (stdH Nat fun _ => (if okL2 l i then lvo l i else []).length) (rowsA stdH fun _ => if okL2 l i then lvo l i else []) 60] [] := by
  have hB : Base Try.prog (tabΓ [e_l21Good, e_l1In]) tabO := base_of tabOkO (ents_cons eok_l21Good <| ents_cons eok_l1In <| ents_nil)
  refine con_m (N := 28) hB (draw_ok hB mixed) Try.func10 rfl rfl (fun H => [.vec 15 (H Nat fun _ => (l).length) (rowsA H fun _ => l), .lit (.int .i64 i)]) (fun _ => []) 0 (fun H => .tup [.slc 0 0 15 (H Nat fun _ => (if okL2 l i then lvo l i else []).length), .lit (.bool (H Bool fun _ => okL2 l i))]) (fun H => [.rows 15 (H Nat fun _ => (if okL2 l i then lvo l i else []).length) (rowsA H fun _ => if okL2 l i then lvo l i else []) 60]) (fun _ => []) 200 (by simp) (fun x hx => ?_) (by simp [lk]) (by omega) (by simp) ?_
  · simp only [List.mem_cons, List.not_mem_nil, or_false] at hx
    rcases hx with rfl | rfl
    · exact vl_bl okRA l _
    · exact .lit
  intro X hX hX0 H hH
  conv in Fin.chk _ _ => cbv
  try simp only [Plain_rowsA, Plain_rowsB, Plain_rowsF, Plain_rowsG, Plain_rowsI, Plain_rowsS, Plain_rowsU, Fin.satC_ret, Fin.satC_br, Fin.satC_need, Fin.satC_again, AllP, and_true, true_and, upd, List.length_nil, List.length_cons, Nat.zero_add, if_true, ncast, Int.ofNat_eq_natCast]
  refine ⟨?_, fun h => ?_, fun h => ?_⟩
  · try simp only [hH, stdH, decide_eq_true_eq, decide_eq_false_iff_not, Bool.not_eq_true', Bool.not_eq_false', peta, ncast, Int.ofNat_eq_natCast, beq_iff_eq, bne_iff_ne, beq_eq_false_iff_ne, bne_eq_false_iff_eq, ne_eq, Classical.not_not, Int.toNat_natCast, vrow_I, Arm.eta2, Fld.eta, Grp.eta]
    exact ⟨Shp_A _ _, by simp only [Tl_A]; omega⟩
  · have hn : okL2 l i = false := by
      simp only [hH, stdH, Tl_A, lv_cond l i h0] at h
      simpa using h
    simp only [hH, stdH, hn, Bool.false_eq_true, if_false]
    exact ⟨RowsEq.ofT okRA rfl (Shp_zero _) rfl, trivial, rfl⟩
  · have hy : okL2 l i = true := by
      simp only [hH, stdH, Tl_A, lv_cond l i h0] at h
      simpa using h
    obtain ⟨q1, q2, q3, q4⟩ := okL2_in hy
    have e : IntKind.i64.wrap (i + 1) = i + 1 := wi (by omega) (by omega)
    have e2 : (i + 1).toNat = i.toNat + 1 := by omega
    simp only [hH, stdH, hy, if_true, app_zero, e, hiOf, loOf, Nat.sub_zero, e2]
    have hp := RowsEq.parts (L := l) (a := i.toNat) (by omega)
    refine ⟨⟨trivial, by omega, by simp only [hiOf, loOf]; omega, by simp only [hiOf]; omega⟩, ⟨trivial, by omega, by omega⟩, ⟨by omega, trivial, by simp only [hiOf, loOf]; omega, by simp only [hiOf]; omega⟩, ⟨trivial, by omega, by omega⟩, hp, trivial, hp.1⟩
noncomputable def e_leaveS : Entry := pureN 10 fun H a => match a with
  | [.vec 15 ln lf, .lit (.int .i64 i)] => some (fun nx => .tup [.slc nx 0 15 (H Nat fun _ => (if okL2 (Tl rowA ln lf) i then lvo (Tl rowA ln lf) i else []).length), .lit (.bool (H Bool fun _ => okL2 (Tl rowA ln lf) i))], [.rows 15 (H Nat fun _ => (if okL2 (Tl rowA ln lf) i then lvo (Tl rowA ln lf) i else []).length) (rowsA H fun _ => if okL2 (Tl rowA ln lf) i then lvo (Tl rowA ln lf) i else []) 60], [H Prop fun _ => Shp rowA ln lf, H Prop fun _ => (Tl rowA ln lf).length ≤ 1048576])
  | _ => none
theorem eok_leaveS : EntryOk Try.prog e_leaveS := pureN_ok (by unfold isBody; kernel_rfl) (by
  intro a r nb ob e hob
  split at e
  · rename_i ln lf i
    simp only [Option.some.injEq, Prod.mk.injEq] at e
    obtain ⟨rfl, rfl, rfl⟩ := e
    refine ⟨ConN.args (.cons (.toT okRA rfl hob.1) (.cons .rfl .nil)) (c_leaveS (Tl rowA ln lf) i hob.2.1), fun x hx => ?_, fun nx => ?_, fun b hb => ?_⟩
    · simp only [List.mem_cons, List.not_mem_nil, or_false] at hx
      rcases hx with rfl | rfl
      · exact (hob.1).bl okRA _
      · exact .lit
    · (first | exact .slc ⟨by omega, by simp⟩ (by omega) | (refine .tup rfl (fun c x y hx hy => ?_); rcases c with _ | _ | _ | c <;> simp at hx hy <;> (subst hx; subst hy; first | exact .slc ⟨by omega, by simp⟩ (by omega) | exact .pl .lit | exact .pl (blq_ok 4 rfl))))
    · simp only [List.mem_cons, List.not_mem_nil, or_false] at hb; subst hb; exact bT_bl okRA _ (fun _ => if okL2 (Tl rowA ln lf) i then lvo (Tl rowA ln lf) i else []) _
  · simp at e)
theorem lvo_24 {l : List Arm} {i : Int} (h : okL2 l i = true) : (lvo l i).length ≤ 24 := by
  have := okQ_len (okL2_in h).1
  rw [lvo_len h]; omega
theorem c_lvLawY (a : List Arm) (i : Int) (h0 : a.length ≤ 9223372036854775807) (h1 : okL2 a i = true) : ConN Try.prog 3 [.vec 15 (stdH Nat fun _ => (a).length) (rowsA stdH fun _ => a), .lit (.int .i64 i)] [] 0 (.lit (.bool (stdH Bool fun _ => true))) [] [] := by
  have hB : Base Try.prog (tabΓ [e_szArmsS, e_toArmsS, e_leaveS, e_leaveY, e_eqArmsS, e_markArmsS, e_heldArmsS]) tabO := base_of tabOkO (ents_cons eok_szArmsS <| ents_cons eok_toArmsS <| ents_cons eok_leaveS <| ents_cons eok_leaveY <| ents_cons eok_eqArmsS <| ents_cons eok_markArmsS <| ents_cons eok_heldArmsS <| ents_nil)
  refine con_m (N := 101) hB (draw_ok hB mixed) Try.func3 rfl rfl (fun H => [.vec 15 (H Nat fun _ => (a).length) (rowsA H fun _ => a), .lit (.int .i64 i)]) (fun _ => []) 0 (fun H => .lit (.bool (H Bool fun _ => true))) (fun H => []) (fun _ => []) 600 (by simp) (fun x hx => ?_) (by simp [lk]) (by omega) (by simp) ?_
  · simp only [List.mem_cons, List.not_mem_nil, or_false] at hx
    rcases hx with rfl | rfl
    · exact vl_bl okRA a _
    · exact .lit
  intro X hX hX0 H hH
  conv in Fin.chk _ _ => cbv
  try simp only [Plain_rowsA, Plain_rowsB, Plain_rowsF, Plain_rowsG, Plain_rowsI, Plain_rowsS, Plain_rowsU, Fin.satC_ret, Fin.satC_br, Fin.satC_need, Fin.satC_again, AllP, and_true, true_and, upd, List.length_nil, List.length_cons, Nat.zero_add, if_true, ncast, Int.ofNat_eq_natCast]
  subst hH
  simp only [stdH, Tl_A, Shp_A, h1, rowsA_len, implies_true, and_true, true_and, if_true, dec_true, Bool.not_true, eq_self, mkL_len]
  by_cases e1 : 1048576 - (a.length : Int) < 0
  · simp only [sz_yes e1]
    repeat' (first | exact trivial | rfl | omega | refine And.intro ?_ ?_ | (intro h; first | (simp at h; done) | skip))
  simp only [sz_no e1]
  have e3 : decide (1 + 15 * (a.length : Int) < 0) = false := decide_eq_false (by omega)
  have hl := lvo_24 h1
  simp only [e3, dlt, Tl_mkL, mkL_len, Tl_zero, Shp_zero, eq_self, dec_true, Bool.not_true, Bool.not_false, cond_false, cond_true, beq_self_eq_true, bne_self_eq_false, List.length_nil]
  repeat' (first | exact trivial | rfl | omega | refine And.intro ?_ ?_ | (intro h; first | (simp at h; done) | skip))
noncomputable def e_lvLawY : Entry := pureE 3 fun H a => match a with
  | [.vec 15 an af, .lit (.int .i64 i)] => some (.lit (.bool (H Bool fun _ => true)), [H Prop fun _ => Shp rowA an af, H Prop fun _ => (Tl rowA an af).length ≤ 9223372036854775807, H Prop fun _ => okL2 (Tl rowA an af) i = true])
  | _ => none
theorem eok_lvLawY : EntryOk Try.prog e_lvLawY := pureM_ok (by unfold isBody; kernel_rfl) (by
  intro a r ob e hob
  split at e
  · rename_i an af i
    simp only [Option.some.injEq, Prod.mk.injEq] at e
    obtain ⟨rfl, rfl⟩ := e
    exact ConN.args (.cons (.toT okRA rfl hob.1) (.cons .rfl .nil)) (c_lvLawY (Tl rowA an af) i hob.2.1 hob.2.2.1)
  · simp at e)
theorem c_lvLawN (a : List Arm) (i : Int) (h0 : a.length ≤ 9223372036854775807) (h1 : okL2 a i = false) : ConN Try.prog 3 [.vec 15 (stdH Nat fun _ => (a).length) (rowsA stdH fun _ => a), .lit (.int .i64 i)] [] 0 (.lit (.bool (stdH Bool fun _ => true))) [] [] := by
  have hB : Base Try.prog (tabΓ [e_szArmsS, e_toArmsS, e_leaveS, e_leaveN, e_eqArmsS, nilE [15, 15] e_eqArmsS, e_markArmsS, e_markArmsN, nilE [15, 0] e_heldArmsS]) tabO := base_of tabOkO (ents_cons eok_szArmsS <| ents_cons eok_toArmsS <| ents_cons eok_leaveS <| ents_cons eok_leaveN <| ents_cons eok_eqArmsS <| ents_cons (nilE_ok eok_eqArmsS) <| ents_cons eok_markArmsS <| ents_cons eok_markArmsN <| ents_cons (nilE_ok eok_heldArmsS) <| ents_nil)
  refine con_m (N := 101) hB (draw_ok hB mixed) Try.func3 rfl rfl (fun H => [.vec 15 (H Nat fun _ => (a).length) (rowsA H fun _ => a), .lit (.int .i64 i)]) (fun _ => []) 0 (fun H => .lit (.bool (H Bool fun _ => true))) (fun H => []) (fun _ => []) 600 (by simp) (fun x hx => ?_) (by simp [lk]) (by omega) (by simp) ?_
  · simp only [List.mem_cons, List.not_mem_nil, or_false] at hx
    rcases hx with rfl | rfl
    · exact vl_bl okRA a _
    · exact .lit
  intro X hX hX0 H hH
  conv in Fin.chk _ _ => cbv
  try simp only [Plain_rowsA, Plain_rowsB, Plain_rowsF, Plain_rowsG, Plain_rowsI, Plain_rowsS, Plain_rowsU, Fin.satC_ret, Fin.satC_br, Fin.satC_need, Fin.satC_again, AllP, and_true, true_and, upd, List.length_nil, List.length_cons, Nat.zero_add, if_true, ncast, Int.ofNat_eq_natCast]
  subst hH
  simp only [stdH, Tl_A, Shp_A, h1, rowsA_len, implies_true, and_true, true_and, if_true, dec_true, Bool.not_true, eq_self, mkL_len, Bool.false_eq_true, if_false, List.length_nil]
  by_cases e1 : 1048576 - (a.length : Int) < 0
  · simp only [sz_yes e1]
    repeat' (first | exact trivial | rfl | omega | refine And.intro ?_ ?_ | (intro h; first | (simp at h; done) | skip))
  simp only [sz_no e1]
  have e3 : decide (1 + 15 * (a.length : Int) < 0) = false := decide_eq_false (by omega)
  have hl := trivial
  simp only [e3, dlt, Tl_mkL, mkL_len, Tl_zero, Shp_zero, eq_self, dec_true, Bool.not_true, Bool.not_false, cond_false, cond_true, beq_self_eq_true, bne_self_eq_false, List.length_nil]
  repeat' (first | exact trivial | rfl | omega | refine And.intro ?_ ?_ | (intro h; first | (simp at h; done) | skip))
noncomputable def e_lvLawN : Entry := pureE 3 fun H a => match a with
  | [.vec 15 an af, .lit (.int .i64 i)] => some (.lit (.bool (H Bool fun _ => true)), [H Prop fun _ => Shp rowA an af, H Prop fun _ => (Tl rowA an af).length ≤ 9223372036854775807, H Prop fun _ => okL2 (Tl rowA an af) i = false])
  | _ => none
theorem eok_lvLawN : EntryOk Try.prog e_lvLawN := pureM_ok (by unfold isBody; kernel_rfl) (by
  intro a r ob e hob
  split at e
  · rename_i an af i
    simp only [Option.some.injEq, Prod.mk.injEq] at e
    obtain ⟨rfl, rfl⟩ := e
    exact ConN.args (.cons (.toT okRA rfl hob.1) (.cons .rfl .nil)) (c_lvLawN (Tl rowA an af) i hob.2.1 hob.2.2.1)
  · simp at e)
theorem law_LeaveOut (a : List Arm) (i : Int) (h0 : a.length ≤ 9223372036854775807) : ConN Try.prog 3 [.vec 15 a.length (rowsA stdH fun _ => a), .lit (.int .i64 i)] [] 0 (.lit (.bool true)) [] [] := by
  cases h : okL2 a i with
  | false => exact c_lvLawN a i h0 h
  | true => exact c_lvLawY a i h0 h

end Go.Proofs.Ytfamdalilcbloaa.AM
