import Derived.Test.YtocekpklffdjgaaAmT
import Derived.Test.YtocekpklffdjgaaQtr
import Derived.Test.YtocekpklffdjgaaExm
set_option linter.unusedVariables false
set_option linter.unusedSimpArgs false
set_option maxRecDepth 100000
set_option maxHeartbeats 4000000
set_option cbv.maxSteps 3000000
namespace Go.Proofs.Ytocekpklffdjgaa.AM
/- The law FnExactMergeQuarterings holds; conditions: none. -/
theorem c_mergeQY (a : List Arm) (b : List Arm) (h0 : a.length ≤ 1048576) (h1 : b.length ≤ 1048576) (h2 : okQ a = true) (h3 : okQ b = true) : ConN Try.prog 68 [.vec 15 (stdH Nat fun _ => (a).length) (rowsA stdH fun _ => a), .vec 15 (stdH Nat fun _ => (b).length) (rowsA stdH fun _ => b)] [] 0 (.tup [.slc 0 0 15 (stdH Nat fun _ => (mrg a b).length), .lit (.bool (stdH Bool fun _ => true))]) [.rows 15 (stdH Nat fun _ => (mrg a b).length) (rowsA stdH fun _ => mrg a b) 29] [] := by
  have hB : Base Try.prog (tabΓ [e_validQ, e_merged]) tabO := base_of tabOkO (ents_cons eok_validQ <| ents_cons eok_merged <| ents_nil)
  refine con_m (N := 17) hB (draw_ok hB mixed) Try.func68 rfl rfl (fun H => [.vec 15 (H Nat fun _ => (a).length) (rowsA H fun _ => a), .vec 15 (H Nat fun _ => (b).length) (rowsA H fun _ => b)]) (fun _ => []) 0 (fun H => .tup [.slc 0 0 15 (H Nat fun _ => (mrg a b).length), .lit (.bool (H Bool fun _ => true))]) (fun H => [.rows 15 (H Nat fun _ => (mrg a b).length) (rowsA H fun _ => mrg a b) 29]) (fun _ => []) 100 (by simp) (fun x hx => ?_) (by simp [lk]) (by omega) (by simp) ?_
  · simp only [List.mem_cons, List.not_mem_nil, or_false] at hx
    rcases hx with rfl | rfl
    · exact vl_bl okRA a _
    · exact vl_bl okRA b _
  intro X hX hX0 H hH
  conv in Fin.chk _ _ => cbv
  try simp only [Plain_rowsA, Plain_rowsB, Plain_rowsF, Plain_rowsG, Plain_rowsI, Plain_rowsS, Plain_rowsU, Fin.satC_ret, Fin.satC_br, Fin.satC_need, Fin.satC_again, AllP, and_true, true_and, upd, List.length_nil, List.length_cons, Nat.zero_add, if_true, ncast, Int.ofNat_eq_natCast]
  subst hH
  simp only [stdH, Tl_A, Shp_A, h2, h3]
  repeat' (first | exact trivial | rfl | exact RowsEq.self okRA | refine And.intro ?_ ?_ | (intro h; first | (simp at h; done) | skip))
  all_goals omega
noncomputable def e_mergeQY : Entry := pureN 68 fun H a => match a with
  | [.vec 15 an af, .vec 15 bn bf] => some (fun nx => .tup [.slc nx 0 15 (H Nat fun _ => (mrg (Tl rowA an af) (Tl rowA bn bf)).length), .lit (.bool (H Bool fun _ => true))], [.rows 15 (H Nat fun _ => (mrg (Tl rowA an af) (Tl rowA bn bf)).length) (rowsA H fun _ => mrg (Tl rowA an af) (Tl rowA bn bf)) 29], [H Prop fun _ => Shp rowA an af, H Prop fun _ => Shp rowA bn bf, H Prop fun _ => (Tl rowA an af).length ≤ 1048576, H Prop fun _ => (Tl rowA bn bf).length ≤ 1048576, H Prop fun _ => okQ (Tl rowA an af) = true, H Prop fun _ => okQ (Tl rowA bn bf) = true])
  | _ => none
theorem eok_mergeQY : EntryOk Try.prog e_mergeQY := pureN_ok (by unfold isBody; kernel_rfl) (by
  intro a r nb ob e hob
  split at e
  · rename_i an af bn bf
    simp only [Option.some.injEq, Prod.mk.injEq] at e
    obtain ⟨rfl, rfl, rfl⟩ := e
    refine ⟨ConN.args (.cons (.toT okRA rfl hob.1) (.cons (.toT okRA rfl hob.2.1) .nil)) (c_mergeQY (Tl rowA an af) (Tl rowA bn bf) hob.2.2.1 hob.2.2.2.1 hob.2.2.2.2.1 hob.2.2.2.2.2.1), fun x hx => ?_, fun nx => ?_, fun b hb => ?_⟩
    · simp only [List.mem_cons, List.not_mem_nil, or_false] at hx
      rcases hx with rfl | rfl
      · exact (hob.1).bl okRA _
      · exact (hob.2.1).bl okRA _
    · (first | exact .slc ⟨by omega, by simp⟩ (by omega) | (refine .tup rfl (fun c x y hx hy => ?_); rcases c with _ | _ | _ | c <;> simp at hx hy <;> (subst hx; subst hy; first | exact .slc ⟨by omega, by simp⟩ (by omega) | exact .pl .lit | exact .pl (blq_ok 4 rfl))))
    · simp only [List.mem_cons, List.not_mem_nil, or_false] at hb; subst hb; exact bT_bl okRA _ (fun _ => mrg (Tl rowA an af) (Tl rowA bn bf)) _
  · simp at e)
theorem c_mergeQN (a : List Arm) (b : List Arm) (h0 : a.length ≤ 1048576) (h1 : b.length ≤ 1048576) (h2 : (okQ a && okQ b) = false) : ConN Try.prog 68 [.vec 15 (stdH Nat fun _ => (a).length) (rowsA stdH fun _ => a), .vec 15 (stdH Nat fun _ => (b).length) (rowsA stdH fun _ => b)] [] 0 (.tup [.lit (.slice none 0 0), .lit (.bool (stdH Bool fun _ => false))]) [] [] := by
  have hB : Base Try.prog (tabΓ [e_validQ, e_merged]) tabO := base_of tabOkO (ents_cons eok_validQ <| ents_cons eok_merged <| ents_nil)
  refine con_m (N := 17) hB (draw_ok hB mixed) Try.func68 rfl rfl (fun H => [.vec 15 (H Nat fun _ => (a).length) (rowsA H fun _ => a), .vec 15 (H Nat fun _ => (b).length) (rowsA H fun _ => b)]) (fun _ => []) 0 (fun H => .tup [.lit (.slice none 0 0), .lit (.bool (H Bool fun _ => false))]) (fun H => []) (fun _ => []) 100 (by simp) (fun x hx => ?_) (by simp [lk]) (by omega) (by simp) ?_
  · simp only [List.mem_cons, List.not_mem_nil, or_false] at hx
    rcases hx with rfl | rfl
    · exact vl_bl okRA a _
    · exact vl_bl okRA b _
  intro X hX hX0 H hH
  conv in Fin.chk _ _ => cbv
  try simp only [Plain_rowsA, Plain_rowsB, Plain_rowsF, Plain_rowsG, Plain_rowsI, Plain_rowsS, Plain_rowsU, Fin.satC_ret, Fin.satC_br, Fin.satC_need, Fin.satC_again, AllP, and_true, true_and, upd, List.length_nil, List.length_cons, Nat.zero_add, if_true, ncast, Int.ofNat_eq_natCast]
  subst hH
  simp only [stdH, Tl_A, Shp_A]
  generalize okQ a = x at *
  generalize okQ b = y at *
  cases x <;> cases y <;> simp at h2 ⊢ <;> omega
noncomputable def e_mergeQN : Entry := pureE 68 fun H a => match a with
  | [.vec 15 an af, .vec 15 bn bf] => some (.tup [.lit (.slice none 0 0), .lit (.bool (H Bool fun _ => false))], [H Prop fun _ => Shp rowA an af, H Prop fun _ => Shp rowA bn bf, H Prop fun _ => (Tl rowA an af).length ≤ 1048576, H Prop fun _ => (Tl rowA bn bf).length ≤ 1048576, H Prop fun _ => (okQ (Tl rowA an af) && okQ (Tl rowA bn bf)) = false])
  | _ => none
theorem eok_mergeQN : EntryOk Try.prog e_mergeQN := pureM_ok (by unfold isBody; kernel_rfl) (by
  intro a r ob e hob
  split at e
  · rename_i an af bn bf
    simp only [Option.some.injEq, Prod.mk.injEq] at e
    obtain ⟨rfl, rfl⟩ := e
    exact ConN.args (.cons (.toT okRA rfl hob.1) (.cons (.toT okRA rfl hob.2.1) .nil)) (c_mergeQN (Tl rowA an af) (Tl rowA bn bf) hob.2.2.1 hob.2.2.2.1 hob.2.2.2.2.1)
  · simp at e)
theorem c_mergeQS (a : List Arm) (b : List Arm) (h0 : a.length ≤ 1048576) (h1 : b.length ≤ 1048576) : ConN Try.prog 67 [.vec 15 (stdH Nat fun _ => (a).length) (rowsA stdH fun _ => a), .vec 15 (stdH Nat fun _ => (b).length) (rowsA stdH fun _ => b)] [] 0 (.tup [.slc 0 0 15 (stdH Nat fun _ => (if okQ a && okQ b then mrg a b else []).length), .lit (.bool (stdH Bool fun _ => okQ a && okQ b))]) [.rows 15 (stdH Nat fun _ => (if okQ a && okQ b then mrg a b else []).length) (rowsA stdH fun _ => if okQ a && okQ b then mrg a b else []) 29] [] := by
  have hB : Base Try.prog (tabΓ [e_l21Good, e_l21Merge]) tabO := base_of tabOkO (ents_cons eok_l21Good <| ents_cons eok_l21Merge <| ents_nil)
  refine con_m (N := 18) hB (draw_ok hB mixed) Try.func67 rfl rfl (fun H => [.vec 15 (H Nat fun _ => (a).length) (rowsA H fun _ => a), .vec 15 (H Nat fun _ => (b).length) (rowsA H fun _ => b)]) (fun _ => []) 0 (fun H => .tup [.slc 0 0 15 (H Nat fun _ => (if okQ a && okQ b then mrg a b else []).length), .lit (.bool (H Bool fun _ => okQ a && okQ b))]) (fun H => [.rows 15 (H Nat fun _ => (if okQ a && okQ b then mrg a b else []).length) (rowsA H fun _ => if okQ a && okQ b then mrg a b else []) 29]) (fun _ => []) 100 (by simp) (fun x hx => ?_) (by simp [lk]) (by omega) (by simp) ?_
  · simp only [List.mem_cons, List.not_mem_nil, or_false] at hx
    rcases hx with rfl | rfl
    · exact vl_bl okRA a _
    · exact vl_bl okRA b _
  intro X hX hX0 H hH
  conv in Fin.chk _ _ => cbv
  try simp only [Plain_rowsA, Plain_rowsB, Plain_rowsF, Plain_rowsG, Plain_rowsI, Plain_rowsS, Plain_rowsU, Fin.satC_ret, Fin.satC_br, Fin.satC_need, Fin.satC_again, AllP, and_true, true_and, upd, List.length_nil, List.length_cons, Nat.zero_add, if_true, ncast, Int.ofNat_eq_natCast]
  subst hH
  simp only [stdH, Tl_A, Shp_A]
  generalize okQ a = x at *
  generalize okQ b = y at *
  cases x <;> cases y <;> simp only [Bool.not_true, Bool.not_false, Bool.and_self, Bool.and_true, Bool.and_false, cond_true, cond_false, if_true, Bool.false_eq_true, if_false]
  all_goals
    repeat' (first | exact trivial | rfl | omega | exact RowsEq.self okRA | exact RowsEq.ofT okRA rfl (Shp_zero _) rfl | refine And.intro ?_ ?_ | (intro h; first | (cases h; done) | skip))
noncomputable def e_mergeQS : Entry := pureN 67 fun H a => match a with
  | [.vec 15 an af, .vec 15 bn bf] => some (fun nx => .tup [.slc nx 0 15 (H Nat fun _ => (if okQ (Tl rowA an af) && okQ (Tl rowA bn bf) then mrg (Tl rowA an af) (Tl rowA bn bf) else []).length), .lit (.bool (H Bool fun _ => okQ (Tl rowA an af) && okQ (Tl rowA bn bf)))], [.rows 15 (H Nat fun _ => (if okQ (Tl rowA an af) && okQ (Tl rowA bn bf) then mrg (Tl rowA an af) (Tl rowA bn bf) else []).length) (rowsA H fun _ => if okQ (Tl rowA an af) && okQ (Tl rowA bn bf) then mrg (Tl rowA an af) (Tl rowA bn bf) else []) 29], [H Prop fun _ => Shp rowA an af, H Prop fun _ => Shp rowA bn bf, H Prop fun _ => (Tl rowA an af).length ≤ 1048576, H Prop fun _ => (Tl rowA bn bf).length ≤ 1048576])
  | _ => none
theorem eok_mergeQS : EntryOk Try.prog e_mergeQS := pureN_ok (by unfold isBody; kernel_rfl) (by
  intro a r nb ob e hob
  split at e
  · rename_i an af bn bf
    simp only [Option.some.injEq, Prod.mk.injEq] at e
    obtain ⟨rfl, rfl, rfl⟩ := e
    refine ⟨ConN.args (.cons (.toT okRA rfl hob.1) (.cons (.toT okRA rfl hob.2.1) .nil)) (c_mergeQS (Tl rowA an af) (Tl rowA bn bf) hob.2.2.1 hob.2.2.2.1), fun x hx => ?_, fun nx => ?_, fun b hb => ?_⟩
    · simp only [List.mem_cons, List.not_mem_nil, or_false] at hx
      rcases hx with rfl | rfl
      · exact (hob.1).bl okRA _
      · exact (hob.2.1).bl okRA _
    · (first | exact .slc ⟨by omega, by simp⟩ (by omega) | (refine .tup rfl (fun c x y hx hy => ?_); rcases c with _ | _ | _ | c <;> simp at hx hy <;> (subst hx; subst hy; first | exact .slc ⟨by omega, by simp⟩ (by omega) | exact .pl .lit | exact .pl (blq_ok 4 rfl))))
    · simp only [List.mem_cons, List.not_mem_nil, or_false] at hb; subst hb; exact bT_bl okRA _ (fun _ => if okQ (Tl rowA an af) && okQ (Tl rowA bn bf) then mrg (Tl rowA an af) (Tl rowA bn bf) else []) _
  · simp at e)
theorem c_markArmsN  (k : Int)  : ConN Try.prog 65 [.lit (.slice none 0 0), .lit (.int .i64 k)] [] 0 (.lit (.int .i64 (stdH Int fun _ => k))) [] [] := by
  have hB : Base Try.prog (tabΓ []) tabU := base_of tabOkU (ents_nil)
  refine con_m (N := 130) hB (draw_ok hB mixed) Try.func65 rfl rfl (fun H => [.lit (.slice none 0 0), .lit (.int .i64 k)]) (fun _ => []) 0 (fun H => .lit (.int .i64 (H Int fun _ => k))) (fun H => []) (fun _ => []) 3000 (by simp) (fun x hx => ?_) (by simp [lk]) (by omega) (by simp) ?_
  · simp only [List.mem_cons, List.not_mem_nil, or_false] at hx
    rcases hx with rfl | rfl
    · exact .lit
    · exact .lit
  intro X hX hX0 H hH
  conv in Fin.chk _ _ => cbv
  try simp only [Plain_rowsA, Plain_rowsB, Plain_rowsF, Plain_rowsG, Plain_rowsI, Plain_rowsS, Plain_rowsU, Fin.satC_ret, Fin.satC_br, Fin.satC_need, Fin.satC_again, AllP, and_true, true_and, upd, List.length_nil, List.length_cons, Nat.zero_add, if_true, ncast, Int.ofNat_eq_natCast]
  subst hH
  exact ⟨fun h => by simp [stdH] at h, fun _ => rfl⟩
noncomputable def e_markArmsN : Entry := pureE 65 fun H a => match a with
  | [.lit (.slice none 0 0), .lit (.int .i64 k)] => some (.lit (.int .i64 (H Int fun _ => k)), [])
  | _ => none
theorem eok_markArmsN : EntryOk Try.prog e_markArmsN := pureM_ok (by unfold isBody; kernel_rfl) (by
  intro a r ob e hob
  split at e
  · rename_i k
    simp only [Option.some.injEq, Prod.mk.injEq] at e
    obtain ⟨rfl, rfl⟩ := e
    exact ConN.args (.cons .rfl (.cons .rfl .nil)) (c_markArmsN k )
  · simp at e)
theorem sz_yes {x y : Int} (h : x - y < 0) : (if x - y < 0 then -1 else x - y) = -1 := if_pos h
theorem sz_no {x y : Int} (h : ¬ x - y < 0) : (if x - y < 0 then -1 else x - y) = x - y := if_neg h
theorem mrg_24 {a b : List Arm} (h : okQ a = true) (h' : okQ b = true) : (mrg a b).length ≤ 24 := by
  have := mrg_len a b; have := okQ_len h; have := okQ_len h'; omega
theorem dlt (n : Nat) : decide (1 + 15 * (n : Int) < 0) = false := decide_eq_false (by omega)
theorem dec_false : decide False = false := rfl
theorem dec_true : decide True = true := rfl
theorem Tl_mkL (n : Nat) (k : Int) : Tl rowA n (rowsA stdH fun _ => mkL n k) = mkL n k := by
  have := Tl_A (mkL n k); rwa [mkL_len] at this
theorem c_mrgLawY (a : List Arm) (b : List Arm) (h0 : a.length ≤ 9223372036854775807) (h1 : b.length ≤ 9223372036854775807) (h2 : okQ a = true) (h3 : okQ b = true) : ConN Try.prog 9 [.vec 15 (stdH Nat fun _ => (a).length) (rowsA stdH fun _ => a), .vec 15 (stdH Nat fun _ => (b).length) (rowsA stdH fun _ => b)] [] 0 (.lit (.bool (stdH Bool fun _ => true))) [] [] := by
  have hB : Base Try.prog (tabΓ [e_szArmsS, e_toArmsS, e_mergeQS, e_mergeQY, e_eqArmsS, e_markArmsS, e_heldArmsS]) tabO := base_of tabOkO (ents_cons eok_szArmsS <| ents_cons eok_toArmsS <| ents_cons eok_mergeQS <| ents_cons eok_mergeQY <| ents_cons eok_eqArmsS <| ents_cons eok_markArmsS <| ents_cons eok_heldArmsS <| ents_nil)
  refine con_m (N := 119) hB (draw_ok hB mixed) Try.func9 rfl rfl (fun H => [.vec 15 (H Nat fun _ => (a).length) (rowsA H fun _ => a), .vec 15 (H Nat fun _ => (b).length) (rowsA H fun _ => b)]) (fun _ => []) 0 (fun H => .lit (.bool (H Bool fun _ => true))) (fun H => []) (fun _ => []) 600 (by simp) (fun x hx => ?_) (by simp [lk]) (by omega) (by simp) ?_
  · simp only [List.mem_cons, List.not_mem_nil, or_false] at hx
    rcases hx with rfl | rfl
    · exact vl_bl okRA a _
    · exact vl_bl okRA b _
  intro X hX hX0 H hH
  conv in Fin.chk _ _ => cbv
  try simp only [Plain_rowsA, Plain_rowsB, Plain_rowsF, Plain_rowsG, Plain_rowsI, Plain_rowsS, Plain_rowsU, Fin.satC_ret, Fin.satC_br, Fin.satC_need, Fin.satC_again, AllP, and_true, true_and, upd, List.length_nil, List.length_cons, Nat.zero_add, if_true, ncast, Int.ofNat_eq_natCast]
  subst hH
  simp only [stdH, Tl_A, Shp_A, h2, h3, rowsA_len, implies_true, and_true, true_and, Bool.and_self, if_true, dec_true, Bool.not_true, eq_self, mkL_len]
  by_cases e1 : 1048576 - (a.length : Int) < 0
  · simp only [sz_yes e1]
    repeat' (first | exact trivial | rfl | omega | refine And.intro ?_ ?_ | (intro h; first | (simp at h; done) | skip))
  by_cases e2 : 1048576 - (a.length : Int) - (b.length : Int) < 0
  · simp only [sz_no e1, sz_yes e2]
    repeat' (first | exact trivial | rfl | omega | refine And.intro ?_ ?_ | (intro h; first | (simp at h; omega) | (simp at h; done) | skip))
  simp only [sz_no e1, sz_no e2]
  have e3 : decide (1 + 15 * (a.length : Int) + 15 * (b.length : Int) < 0) = false := decide_eq_false (by omega)
  have hl := mrg_24 h2 h3
  simp only [e3, dlt, Tl_mkL, mkL_len, Tl_zero, Shp_zero, eq_self, dec_true, Bool.not_true, Bool.not_false, cond_false, cond_true, beq_self_eq_true, bne_self_eq_false, List.length_nil]
  repeat' (first | exact trivial | rfl | omega | refine And.intro ?_ ?_ | (intro h; first | (simp at h; done) | skip))
noncomputable def e_mrgLawY : Entry := pureE 9 fun H a => match a with
  | [.vec 15 an af, .vec 15 bn bf] => some (.lit (.bool (H Bool fun _ => true)), [H Prop fun _ => Shp rowA an af, H Prop fun _ => Shp rowA bn bf, H Prop fun _ => (Tl rowA an af).length ≤ 9223372036854775807, H Prop fun _ => (Tl rowA bn bf).length ≤ 9223372036854775807, H Prop fun _ => okQ (Tl rowA an af) = true, H Prop fun _ => okQ (Tl rowA bn bf) = true])
  | _ => none
theorem eok_mrgLawY : EntryOk Try.prog e_mrgLawY := pureM_ok (by unfold isBody; kernel_rfl) (by
  intro a r ob e hob
  split at e
  · rename_i an af bn bf
    simp only [Option.some.injEq, Prod.mk.injEq] at e
    obtain ⟨rfl, rfl⟩ := e
    exact ConN.args (.cons (.toT okRA rfl hob.1) (.cons (.toT okRA rfl hob.2.1) .nil)) (c_mrgLawY (Tl rowA an af) (Tl rowA bn bf) hob.2.2.1 hob.2.2.2.1 hob.2.2.2.2.1 hob.2.2.2.2.2.1)
  · simp at e)
theorem c_mrgLawN (a : List Arm) (b : List Arm) (h0 : a.length ≤ 9223372036854775807) (h1 : b.length ≤ 9223372036854775807) (h2 : (okQ a && okQ b) = false) : ConN Try.prog 9 [.vec 15 (stdH Nat fun _ => (a).length) (rowsA stdH fun _ => a), .vec 15 (stdH Nat fun _ => (b).length) (rowsA stdH fun _ => b)] [] 0 (.lit (.bool (stdH Bool fun _ => true))) [] [] := by
  have hB : Base Try.prog (tabΓ [e_szArmsS, e_toArmsS, e_mergeQS, e_mergeQN, e_eqArmsS, nilE [15, 15] e_eqArmsS, e_markArmsS, e_markArmsN, nilE [15, 0] e_heldArmsS]) tabO := base_of tabOkO (ents_cons eok_szArmsS <| ents_cons eok_toArmsS <| ents_cons eok_mergeQS <| ents_cons eok_mergeQN <| ents_cons eok_eqArmsS <| ents_cons (nilE_ok eok_eqArmsS) <| ents_cons eok_markArmsS <| ents_cons eok_markArmsN <| ents_cons (nilE_ok eok_heldArmsS) <| ents_nil)
  refine con_m (N := 119) hB (draw_ok hB mixed) Try.func9 rfl rfl (fun H => [.vec 15 (H Nat fun _ => (a).length) (rowsA H fun _ => a), .vec 15 (H Nat fun _ => (b).length) (rowsA H fun _ => b)]) (fun _ => []) 0 (fun H => .lit (.bool (H Bool fun _ => true))) (fun H => []) (fun _ => []) 600 (by simp) (fun x hx => ?_) (by simp [lk]) (by omega) (by simp) ?_
  · simp only [List.mem_cons, List.not_mem_nil, or_false] at hx
    rcases hx with rfl | rfl
    · exact vl_bl okRA a _
    · exact vl_bl okRA b _
  intro X hX hX0 H hH
  conv in Fin.chk _ _ => cbv
  try simp only [Plain_rowsA, Plain_rowsB, Plain_rowsF, Plain_rowsG, Plain_rowsI, Plain_rowsS, Plain_rowsU, Fin.satC_ret, Fin.satC_br, Fin.satC_need, Fin.satC_again, AllP, and_true, true_and, upd, List.length_nil, List.length_cons, Nat.zero_add, if_true, ncast, Int.ofNat_eq_natCast]
  subst hH
  simp only [stdH, Tl_A, Shp_A, h2, rowsA_len, implies_true, and_true, true_and, Bool.and_self, if_true, dec_true, Bool.not_true, eq_self, Bool.false_eq_true, if_false, List.length_nil]
  by_cases e1 : 1048576 - (a.length : Int) < 0
  · simp only [sz_yes e1]
    repeat' (first | exact trivial | rfl | omega | refine And.intro ?_ ?_ | (intro h; first | (simp at h; done) | skip))
  by_cases e2 : 1048576 - (a.length : Int) - (b.length : Int) < 0
  · simp only [sz_no e1, sz_yes e2]
    repeat' (first | exact trivial | rfl | omega | refine And.intro ?_ ?_ | (intro h; first | (simp at h; omega) | (simp at h; done) | skip))
  simp only [sz_no e1, sz_no e2]
  have e3 : decide (1 + 15 * (a.length : Int) + 15 * (b.length : Int) < 0) = false := decide_eq_false (by omega)
  have hl := trivial
  simp only [e3, dlt, Tl_mkL, mkL_len, Tl_zero, Shp_zero, eq_self, dec_true, Bool.not_true, Bool.not_false, cond_false, cond_true, beq_self_eq_true, bne_self_eq_false, List.length_nil]
  repeat' (first | exact trivial | rfl | omega | refine And.intro ?_ ?_ | (intro h; first | (simp at h; done) | skip))
noncomputable def e_mrgLawN : Entry := pureE 9 fun H a => match a with
  | [.vec 15 an af, .vec 15 bn bf] => some (.lit (.bool (H Bool fun _ => true)), [H Prop fun _ => Shp rowA an af, H Prop fun _ => Shp rowA bn bf, H Prop fun _ => (Tl rowA an af).length ≤ 9223372036854775807, H Prop fun _ => (Tl rowA bn bf).length ≤ 9223372036854775807, H Prop fun _ => (okQ (Tl rowA an af) && okQ (Tl rowA bn bf)) = false])
  | _ => none
theorem eok_mrgLawN : EntryOk Try.prog e_mrgLawN := pureM_ok (by unfold isBody; kernel_rfl) (by
  intro a r ob e hob
  split at e
  · rename_i an af bn bf
    simp only [Option.some.injEq, Prod.mk.injEq] at e
    obtain ⟨rfl, rfl⟩ := e
    exact ConN.args (.cons (.toT okRA rfl hob.1) (.cons (.toT okRA rfl hob.2.1) .nil)) (c_mrgLawN (Tl rowA an af) (Tl rowA bn bf) hob.2.2.1 hob.2.2.2.1 hob.2.2.2.2.1)
  · simp at e)
theorem law_MergeQuarterings (a b : List Arm) (h0 : a.length ≤ 9223372036854775807) (h1 : b.length ≤ 9223372036854775807) : ConN Try.prog 9 [.vec 15 a.length (rowsA stdH fun _ => a), .vec 15 b.length (rowsA stdH fun _ => b)] [] 0 (.lit (.bool true)) [] [] := by
  cases h : okQ a && okQ b with
  | false => exact c_mrgLawN a b h0 h1 h
  | true => rw [Bool.and_eq_true] at h; exact c_mrgLawY a b h0 h1 h.1 h.2

end Go.Proofs.Ytocekpklffdjgaa.AM
