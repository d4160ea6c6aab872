import Derived.Test.YtdicfibonfjalaaGreatDoorAmT
import Derived.Test.YtdicfibonfjalaaGreatDoorWrp
import Derived.Test.YtdicfibonfjalaaGreatDoorAtx
import Derived.Test.YtdicfibonfjalaaGreatDoorExa
import Derived.Test.YtdicfibonfjalaaGreatDoorNum
set_option linter.unusedVariables false
set_option linter.unusedSimpArgs false
set_option maxRecDepth 100000
set_option maxHeartbeats 4000000
set_option cbv.maxSteps 3000000
namespace Go.Proofs.YtdicfibonfjalaaGreatDoor.AM
/- Arms wrapped; conditions: none. -/
theorem Tl_S (L : List ByteArray) : Tl rowS L.length (rowsS stdH fun _ => L) = L := Tl_rowsT okS L
theorem Shp_S (n : Nat) (L : List ByteArray) : Shp rowS n (rowsS stdH fun _ => L) := Shp_rowsT okS n (fun _ => L)
theorem c_WrapArmsY (a : Arm) (width : Int) (h0 : okA a = true) (h1 : inB width 12 80 = true) : ConN Tryz.prog 11 [aT rowA stdH fun _ => a, .lit (.int .i64 width)] [] 0 (.tup [.slc 0 0 1 (stdH Nat fun _ => (wrapT (armT a) width).length), .lit (.bool (stdH Bool fun _ => true))]) [.rows 1 (stdH Nat fun _ => (wrapT (armT a) width).length) (rowsS stdH fun _ => wrapT (armT a) width) 9] [] := by
  have hB : Base Tryz.prog (tabΓ [e_IsValidArms, e_inside, e_armText, e_wrapped]) tabO := base_of tabOkO (ents_cons eok_IsValidArms <| ents_cons eok_inside <| ents_cons eok_armText <| ents_cons eok_wrapped <| ents_nil)
  refine con_m (N := 18) hB (draw_ok hB mixed) Tryz.func11 rfl rfl (fun H => [aT rowA H fun _ => a, .lit (.int .i64 width)]) (fun _ => []) 0 (fun H => .tup [.slc 0 0 1 (H Nat fun _ => (wrapT (armT a) width).length), .lit (.bool (H Bool fun _ => true))]) (fun H => [.rows 1 (H Nat fun _ => (wrapT (armT a) width).length) (rowsS H fun _ => wrapT (armT a) width) 9]) (fun _ => []) 200 (by simp) (fun x hx => ?_) (by simp [lk]) (by omega) (by simp) ?_
  · simp only [List.mem_cons, List.not_mem_nil, or_false] at hx
    rcases hx with rfl | rfl
    · exact aT_bl okRA _ _
    · exact .lit
  intro X hX hX0 H hH
  conv in Fin.chk _ _ => cbv
  try simp only [Plain_rowsA, Plain_rowsB, Plain_rowsC, Plain_rowsF, Plain_rowsG, Plain_rowsI, Plain_rowsS, Plain_rowsU, Fin.satC_ret, Fin.satC_br, Fin.satC_need, Fin.satC_again, AllP, and_true, true_and, upd, List.length_nil, List.length_cons, Nat.zero_add, if_true, ncast, Int.ofNat_eq_natCast]
  subst hH
  simp only [stdH, Arm.eta2, Fld.eta, Grp.eta, h0, h1]
  have hz := armT_sz a
  have hw : 12 ≤ width ∧ width ≤ 80 := by unfold inB at h1; simpa using h1
  repeat' (first | exact trivial | rfl | omega | exact RowsEq.self okS | refine And.intro ?_ ?_ | (intro h; first | (simp at h; done) | skip))
noncomputable def e_WrapArmsY : Entry := pureN 11 fun H a => match a with
  | [.agg [.lit (.int .i64 a0), .lit (.int .i64 a1), .lit (.int .i64 a2), .lit (.int .i64 a3), .lit (.int .i64 a4), .lit (.int .i64 a5), .lit (.int .i64 a6), .lit (.int .i64 a7), .lit (.int .i64 a8), .lit (.int .i64 a9), .lit (.int .i64 a10), .lit (.int .i64 a11), .lit (.int .i64 a12), .lit (.int .i64 a13), .lit (.int .i64 a14)], .lit (.int .i64 width)] => some (fun nx => .tup [.slc nx 0 1 (H Nat fun _ => (wrapT (armT (⟨⟨a0, a1, a2, a3⟩, a4, a5, a6, ⟨a7, a8, a9, a10⟩, ⟨a11, a12, a13, a14⟩⟩ : Arm)) width).length), .lit (.bool (H Bool fun _ => true))], [.rows 1 (H Nat fun _ => (wrapT (armT (⟨⟨a0, a1, a2, a3⟩, a4, a5, a6, ⟨a7, a8, a9, a10⟩, ⟨a11, a12, a13, a14⟩⟩ : Arm)) width).length) (rowsS H fun _ => wrapT (armT (⟨⟨a0, a1, a2, a3⟩, a4, a5, a6, ⟨a7, a8, a9, a10⟩, ⟨a11, a12, a13, a14⟩⟩ : Arm)) width) 9], [H Prop fun _ => okA (⟨⟨a0, a1, a2, a3⟩, a4, a5, a6, ⟨a7, a8, a9, a10⟩, ⟨a11, a12, a13, a14⟩⟩ : Arm) = true, H Prop fun _ => inB width 12 80 = true])
  | _ => none
theorem eok_WrapArmsY : EntryOk Tryz.prog e_WrapArmsY := pureN_ok (by unfold isBody; kernel_rfl) (by
  intro a r nb ob e hob
  split at e
  · rename_i a0 a1 a2 a3 a4 a5 a6 a7 a8 a9 a10 a11 a12 a13 a14 width
    simp only [Option.some.injEq, Prod.mk.injEq] at e
    obtain ⟨rfl, rfl, rfl⟩ := e
    refine ⟨ConN.args (.cons .rfl (.cons .rfl .nil)) (c_WrapArmsY (⟨⟨a0, a1, a2, a3⟩, a4, a5, a6, ⟨a7, a8, a9, a10⟩, ⟨a11, a12, a13, a14⟩⟩ : Arm) width hob.1 hob.2.1), fun x hx => ?_, fun nx => ?_, fun b hb => ?_⟩
    · simp only [List.mem_cons, List.not_mem_nil, or_false] at hx
      rcases hx with rfl | rfl
      · exact blq_ok 4 rfl
      · exact .lit
    · (first | exact .slc ⟨by omega, by simp⟩ (by omega) | (refine .tup rfl (fun c x y hx hy => ?_); rcases c with _ | _ | _ | c <;> simp at hx hy <;> (subst hx; subst hy; first | exact .slc ⟨by omega, by simp⟩ (by omega) | exact .pl .lit | exact .pl (blq_ok 4 rfl))))
    · simp only [List.mem_cons, List.not_mem_nil, or_false] at hb; subst hb; exact bT_bl okS _ (fun _ => wrapT (armT (⟨⟨a0, a1, a2, a3⟩, a4, a5, a6, ⟨a7, a8, a9, a10⟩, ⟨a11, a12, a13, a14⟩⟩ : Arm)) width) _
  · simp at e)
theorem c_WrapArmsN (a : Arm) (width : Int) (h0 : (okA a && inB width 12 80) = false) : ConN Tryz.prog 11 [aT rowA stdH fun _ => a, .lit (.int .i64 width)] [] 0 (.tup [.lit (.slice none 0 0), .lit (.bool (stdH Bool fun _ => false))]) [] [] := by
  have hB : Base Tryz.prog (tabΓ [e_IsValidArms, e_inside, e_armText, e_wrapped]) tabO := base_of tabOkO (ents_cons eok_IsValidArms <| ents_cons eok_inside <| ents_cons eok_armText <| ents_cons eok_wrapped <| ents_nil)
  refine con_m (N := 18) hB (draw_ok hB mixed) Tryz.func11 rfl rfl (fun H => [aT rowA H fun _ => a, .lit (.int .i64 width)]) (fun _ => []) 0 (fun H => .tup [.lit (.slice none 0 0), .lit (.bool (H Bool fun _ => false))]) (fun H => []) (fun _ => []) 200 (by simp) (fun x hx => ?_) (by simp [lk]) (by omega) (by simp) ?_
  · simp only [List.mem_cons, List.not_mem_nil, or_false] at hx
    rcases hx with rfl | rfl
    · exact aT_bl okRA _ _
    · exact .lit
  intro X hX hX0 H hH
  conv in Fin.chk _ _ => cbv
  try simp only [Plain_rowsA, Plain_rowsB, Plain_rowsC, Plain_rowsF, Plain_rowsG, Plain_rowsI, Plain_rowsS, Plain_rowsU, Fin.satC_ret, Fin.satC_br, Fin.satC_need, Fin.satC_again, AllP, and_true, true_and, upd, List.length_nil, List.length_cons, Nat.zero_add, if_true, ncast, Int.ofNat_eq_natCast]
  subst hH
  simp only [stdH, Arm.eta2, Fld.eta, Grp.eta]
  generalize okA a = x at *
  generalize inB width 12 80 = y at *
  cases x <;> cases y <;> simp at h0 ⊢
noncomputable def e_WrapArmsN : Entry := pureE 11 fun H a => match a with
  | [.agg [.lit (.int .i64 a0), .lit (.int .i64 a1), .lit (.int .i64 a2), .lit (.int .i64 a3), .lit (.int .i64 a4), .lit (.int .i64 a5), .lit (.int .i64 a6), .lit (.int .i64 a7), .lit (.int .i64 a8), .lit (.int .i64 a9), .lit (.int .i64 a10), .lit (.int .i64 a11), .lit (.int .i64 a12), .lit (.int .i64 a13), .lit (.int .i64 a14)], .lit (.int .i64 width)] => some (.tup [.lit (.slice none 0 0), .lit (.bool (H Bool fun _ => false))], [H Prop fun _ => (okA (⟨⟨a0, a1, a2, a3⟩, a4, a5, a6, ⟨a7, a8, a9, a10⟩, ⟨a11, a12, a13, a14⟩⟩ : Arm) && inB width 12 80) = false])
  | _ => none
theorem eok_WrapArmsN : EntryOk Tryz.prog e_WrapArmsN := pureM_ok (by unfold isBody; kernel_rfl) (by
  intro a r ob e hob
  split at e
  · rename_i a0 a1 a2 a3 a4 a5 a6 a7 a8 a9 a10 a11 a12 a13 a14 width
    simp only [Option.some.injEq, Prod.mk.injEq] at e
    obtain ⟨rfl, rfl⟩ := e
    exact ConN.args (.cons .rfl (.cons .rfl .nil)) (c_WrapArmsN (⟨⟨a0, a1, a2, a3⟩, a4, a5, a6, ⟨a7, a8, a9, a10⟩, ⟨a11, a12, a13, a14⟩⟩ : Arm) width hob.1)
  · simp at e)
theorem c_WrapArmsS (a : Arm) (width : Int)  : ConN Tryz.prog 12 [aT rowA stdH fun _ => a, .lit (.int .i64 width)] [] 0 (.tup [.vec 1 (stdH Nat fun _ => (if okA a && inB width 12 80 then wrapT (armT a) width else []).length) (rowsS stdH fun _ => if okA a && inB width 12 80 then wrapT (armT a) width else []), .lit (.bool (stdH Bool fun _ => okA a && inB width 12 80))]) [] [] := by
  have hB : Base Tryz.prog (tabΓ [e_l5Good, e_l1In, e_l6Text, e_l6Wrap]) tabO := base_of tabOkO (ents_cons eok_l5Good <| ents_cons eok_l1In <| ents_cons eok_l6Text <| ents_cons eok_l6Wrap <| ents_nil)
  refine con_m (N := 19) hB (draw_ok hB mixed) Tryz.func12 rfl rfl (fun H => [aT rowA H fun _ => a, .lit (.int .i64 width)]) (fun _ => []) 0 (fun H => .tup [.vec 1 (H Nat fun _ => (if okA a && inB width 12 80 then wrapT (armT a) width else []).length) (rowsS H fun _ => if okA a && inB width 12 80 then wrapT (armT a) width else []), .lit (.bool (H Bool fun _ => okA a && inB width 12 80))]) (fun H => []) (fun _ => []) 200 (by simp) (fun x hx => ?_) (by simp [lk]) (by omega) (by simp) ?_
  · simp only [List.mem_cons, List.not_mem_nil, or_false] at hx
    rcases hx with rfl | rfl
    · exact aT_bl okRA _ _
    · exact .lit
  intro X hX hX0 H hH
  conv in Fin.chk _ _ => cbv
  try simp only [Plain_rowsA, Plain_rowsB, Plain_rowsC, Plain_rowsF, Plain_rowsG, Plain_rowsI, Plain_rowsS, Plain_rowsU, Fin.satC_ret, Fin.satC_br, Fin.satC_need, Fin.satC_again, AllP, and_true, true_and, upd, List.length_nil, List.length_cons, Nat.zero_add, if_true, ncast, Int.ofNat_eq_natCast]
  subst hH
  simp only [stdH, Arm.eta2, Fld.eta, Grp.eta]
  have hz := armT_sz a
  cases hx : okA a <;> cases hy : inB width 12 80
  all_goals simp only [Bool.and_self, Bool.and_true, Bool.and_false, Bool.not_true, Bool.not_false, cond_true, cond_false, if_true, Bool.false_eq_true, if_false]
  all_goals repeat' (first | exact trivial | rfl | exact hx | exact RowsEq.self okS | exact RowsEq.ofT okS rfl (Shp_zero _) rfl | refine And.intro ?_ ?_ | (intro h; first | (cases h; done) | skip) | omega | (unfold inB at hy; simp at hy; omega))
noncomputable def e_WrapArmsS : Entry := pureE 12 fun H a => match a with
  | [.agg [.lit (.int .i64 a0), .lit (.int .i64 a1), .lit (.int .i64 a2), .lit (.int .i64 a3), .lit (.int .i64 a4), .lit (.int .i64 a5), .lit (.int .i64 a6), .lit (.int .i64 a7), .lit (.int .i64 a8), .lit (.int .i64 a9), .lit (.int .i64 a10), .lit (.int .i64 a11), .lit (.int .i64 a12), .lit (.int .i64 a13), .lit (.int .i64 a14)], .lit (.int .i64 width)] => some (.tup [.vec 1 (H Nat fun _ => (if okA (⟨⟨a0, a1, a2, a3⟩, a4, a5, a6, ⟨a7, a8, a9, a10⟩, ⟨a11, a12, a13, a14⟩⟩ : Arm) && inB width 12 80 then wrapT (armT (⟨⟨a0, a1, a2, a3⟩, a4, a5, a6, ⟨a7, a8, a9, a10⟩, ⟨a11, a12, a13, a14⟩⟩ : Arm)) width else []).length) (rowsS H fun _ => if okA (⟨⟨a0, a1, a2, a3⟩, a4, a5, a6, ⟨a7, a8, a9, a10⟩, ⟨a11, a12, a13, a14⟩⟩ : Arm) && inB width 12 80 then wrapT (armT (⟨⟨a0, a1, a2, a3⟩, a4, a5, a6, ⟨a7, a8, a9, a10⟩, ⟨a11, a12, a13, a14⟩⟩ : Arm)) width else []), .lit (.bool (H Bool fun _ => okA (⟨⟨a0, a1, a2, a3⟩, a4, a5, a6, ⟨a7, a8, a9, a10⟩, ⟨a11, a12, a13, a14⟩⟩ : Arm) && inB width 12 80))], [])
  | _ => none
theorem eok_WrapArmsS : EntryOk Tryz.prog e_WrapArmsS := pureM_ok (by unfold isBody; kernel_rfl) (by
  intro a r ob e hob
  split at e
  · rename_i a0 a1 a2 a3 a4 a5 a6 a7 a8 a9 a10 a11 a12 a13 a14 width
    simp only [Option.some.injEq, Prod.mk.injEq] at e
    obtain ⟨rfl, rfl⟩ := e
    exact ConN.args (.cons .rfl (.cons .rfl .nil)) (c_WrapArmsS (⟨⟨a0, a1, a2, a3⟩, a4, a5, a6, ⟨a7, a8, a9, a10⟩, ⟨a11, a12, a13, a14⟩⟩ : Arm) width )
  · simp at e)
theorem wrap2_len (width : Int) : ∀ (ws d : List ByteArray) (n : ByteArray), (wrap2 width d n ws).length ≤ d.length + 1 + ws.length
  | [], d, n => by unfold wrap2; simp
  | w :: ws, d, n => by
    unfold wrap2
    split
    · have := wrap2_len width ws d (n ++ (spB ++ w)); simp at this ⊢; omega
    · have := wrap2_len width ws (d ++ [n]) w; simp at this ⊢; omega
theorem wrapT_len (s : ByteArray) (width : Int) : (wrapT s width).length ≤ s.size + 1 := by
  have h := words_len s
  unfold wrapT
  cases e : wordsB s with
  | nil => exact Nat.zero_le _
  | cons w ws =>
    rw [e] at h
    have := wrap2_len width ws [] w
    simp at this h
    show (wrap2 width [] w ws).length ≤ _
    omega
end Go.Proofs.YtdicfibonfjalaaGreatDoor.AM
