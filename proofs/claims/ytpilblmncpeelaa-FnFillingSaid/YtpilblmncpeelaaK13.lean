/- Lemmas and contracts (Rbm); conditions: none. -/
import Derived.Test.YtpilblmncpeelaaK04
import Derived.Test.YtpilblmncpeelaaK12
set_option linter.unusedVariables false
set_option linter.unusedSimpArgs false
set_option linter.unusedVariables false
set_option linter.unusedSimpArgs false
set_option maxRecDepth 100000
set_option maxHeartbeats 4000000
set_option cbv.maxSteps 3000000
namespace Go.Proofs.Ytpilblmncpeelaa.AM
/- Regions filled, the largest boxes, by the program; conditions: none. -/
def okFi (L : List Int) (s m : Int) : Bool := okRg L && (inB s 1 8 && inB m 0 40)
theorem c_FillRg (r : Rgn) (size : Int) (most : Int) (h0 : rgWB r.rows) : ConN Try.prog 7 [aT rowZ stdH fun _ => r, .lit (.int .i64 size), .lit (.int .i64 most)] [] 0 (.tup [.vec 3 (stdH Nat fun _ => (if okFi r.rows size most = true then fillP r.rows size most else []).length) (rowsQ stdH fun _ => if okFi r.rows size most = true then fillP r.rows size most else []), .lit (.bool (stdH Bool fun _ => okFi r.rows size most))]) [] [] := by
  have hB : Base Try.prog (tabΓ [e_vldRg, e_inside, e_fillR]) tabG := base_of tabOkG (ents_cons eok_vldRg <| ents_cons eok_inside <| ents_cons eok_fillR <| ents_nil)
  refine con_m (N := 25) hB (draw_ok hB mixed) Try.func7 rfl rfl (fun H => [aT rowZ H fun _ => r, .lit (.int .i64 size), .lit (.int .i64 most)]) (fun _ => []) 0 (fun H => .tup [.vec 3 (H Nat fun _ => (if okFi r.rows size most = true then fillP r.rows size most else []).length) (rowsQ H fun _ => if okFi r.rows size most = true then fillP r.rows size most else []), .lit (.bool (H Bool fun _ => okFi r.rows size most))]) (fun H => []) (fun _ => []) 300 (by simp) (fun x hx => ?_) (by simp [lk]) (by omega) (by simp) ?_
  · simp only [List.mem_cons, List.not_mem_nil, or_false] at hx
    rcases hx with rfl | rfl | rfl
    · exact aT_bl okRZ _ _
    · exact .lit
    · exact .lit
  intro X hX hX0 H hH
  conv in Fin.chk _ _ => cbv
  try simp only [Plain_rowsA, Plain_rowsB, Plain_rowsF, Plain_rowsG, Plain_rowsI, Plain_rowsQ, Plain_rowsS, Plain_rowsU, Fin.satC_ret, Fin.satC_br, Fin.satC_need, Fin.satC_again, AllP, and_true, true_and, upd, List.length_nil, List.length_cons, Nat.zero_add, if_true, ncast, Int.ofNat_eq_natCast]
  subst hH
  simp only [stdH, Tl_I]
  unfold okFi
  cases hr : okRg r.rows
  · (repeat' (first | exact trivial | rfl | exact h0 | assumption | omega | exact Shp_I _ _ | exact RowsEq.self okRQ | refine And.intro ?_ ?_ | (intro h; first | (cases h; done) | skip)))
  · have hw := okRg_rw hr
    cases hs : inB size 1 8
    · (repeat' (first | exact trivial | rfl | exact h0 | assumption | omega | exact Shp_I _ _ | exact RowsEq.self okRQ | refine And.intro ?_ ?_ | (intro h; first | (cases h; done) | skip)))
    · have h1 := inB_iff.1 hs
      cases hm : inB most 0 40
      · (repeat' (first | exact trivial | rfl | exact h0 | assumption | omega | exact Shp_I _ _ | exact RowsEq.self okRQ | refine And.intro ?_ ?_ | (intro h; first | (cases h; done) | skip)))
      · have h2 := inB_iff.1 hm
        simp only [Bool.and_self, if_true]
        (repeat' (first | exact trivial | rfl | exact h0 | assumption | omega | exact Shp_I _ _ | exact RowsEq.self okRQ | refine And.intro ?_ ?_ | (intro h; first | (cases h; done) | skip)))
noncomputable def e_FillRg : Entry := pureE 7 fun H a => match a with
  | [.agg [.vec 1 r0n r0f], .lit (.int .i64 size), .lit (.int .i64 most)] => some (.tup [.vec 3 (H Nat fun _ => (if okFi (⟨(Tl rowI r0n r0f)⟩ : Rgn).rows size most = true then fillP (⟨(Tl rowI r0n r0f)⟩ : Rgn).rows size most else []).length) (rowsQ H fun _ => if okFi (⟨(Tl rowI r0n r0f)⟩ : Rgn).rows size most = true then fillP (⟨(Tl rowI r0n r0f)⟩ : Rgn).rows size most else []), .lit (.bool (H Bool fun _ => okFi (⟨(Tl rowI r0n r0f)⟩ : Rgn).rows size most))], [H Prop fun _ => Shp rowI r0n r0f, H Prop fun _ => rgWB (⟨(Tl rowI r0n r0f)⟩ : Rgn).rows])
  | _ => none
theorem eok_FillRg : EntryOk Try.prog e_FillRg := pureM_ok (by unfold isBody; kernel_rfl) (by
  intro a r ob e hob
  split at e
  · rename_i r0n r0f size most
    simp only [Option.some.injEq, Prod.mk.injEq] at e
    obtain ⟨rfl, rfl⟩ := e
    exact ConN.args (.cons (.agg (.cons (.toT okI rfl hob.1) .nil)) (.cons .rfl (.cons .rfl .nil))) (c_FillRg (⟨(Tl rowI r0n r0f)⟩ : Rgn) size most hob.2.1)
  · simp at e)
/-- Of the greatest size, from s down, of which so many fill a region. -/
def lgS (L : List Int) (c : Int) : Nat → Option (List Box)
  | 0 => none
  | s + 1 => if ((fillP L ((s + 1 : Nat) : Int) c).length : Int) = c then some (fillP L ((s + 1 : Nat) : Int) c) else lgS L c s
theorem c_largeR (r : Rgn) (count : Int) (h0 : okRw r.rows) (h1 : 0 ≤ count ∧ count ≤ 100) : ConN Try.prog 33 [aT rowZ stdH fun _ => r, .lit (.int .i64 count)] [] 0 (.tup [.vec 3 (stdH Nat fun _ => ((lgS r.rows count 8).getD []).length) (rowsQ stdH fun _ => (lgS r.rows count 8).getD []), .lit (.bool (stdH Bool fun _ => (lgS r.rows count 8).isSome))]) [] [] := by
  have hB : Base Try.prog (tabΓ [e_fillR]) tab := base_of tabOk (ents_cons eok_fillR <| ents_nil)
  refine con_m (N := 21) hB (draw_ok hB mixed) Try.func33 rfl rfl (fun H => [aT rowZ H fun _ => r, .lit (.int .i64 count)]) (fun _ => []) 0 (fun H => .tup [.vec 3 (H Nat fun _ => ((lgS r.rows count 8).getD []).length) (rowsQ H fun _ => (lgS r.rows count 8).getD []), .lit (.bool (H Bool fun _ => (lgS r.rows count 8).isSome))]) (fun H => []) (fun _ => []) 300 (by simp) (fun x hx => ?_) (by simp [lk]) (by omega) (by simp) ?_
  · simp only [List.mem_cons, List.not_mem_nil, or_false] at hx
    rcases hx with rfl | rfl
    · exact aT_bl okRZ _ _
    · exact .lit
  intro X hX hX0 H hH
  conv in Fin.chk _ _ => cbv
  try simp only [Plain_rowsA, Plain_rowsB, Plain_rowsF, Plain_rowsG, Plain_rowsI, Plain_rowsQ, Plain_rowsS, Plain_rowsU, Fin.satC_ret, Fin.satC_br, Fin.satC_need, Fin.satC_again, AllP, and_true, true_and, upd, List.length_nil, List.length_cons, Nat.zero_add, if_true, ncast, Int.ofNat_eq_natCast]
  refine loop_c hB (draw_ok hB mixed) hX hX0 hH [0, 1, 2, 3, 4, 5, 6] (ι := { s : Nat // s ≤ 8 ∧ lgS r.rows count s = lgS r.rows count 8 }) 300 (fun s => [.i (H Int fun _ => (s.1 : Nat))]) (fun s => s.1) (⟨8, Nat.le_refl _, rfl⟩) ?_ ?_
  · (conv in matchSt _ _ _ _ => cbv); simp only [AllG, AllP, and_true, hH, stdH, Nat.le_refl, ncast, Int.ofNat_eq_natCast, vrow_I, Arm.eta2, Fld.eta, Grp.eta]
    (repeat' (with_reducible refine And.intro ?_ ?_)) <;> (first | exact True.intro | exact RowsEq.self okI | exact Eq.refl _)
  · intro I hI s
    conv in Fin.chk _ _ => cbv
    try simp only [Plain_rowsA, Plain_rowsB, Plain_rowsF, Plain_rowsG, Plain_rowsI, Plain_rowsQ, Plain_rowsS, Plain_rowsU, Fin.satC_ret, Fin.satC_br, Fin.satC_need, Fin.satC_again, AllP, and_true, true_and, upd, List.length_nil, List.length_cons, Nat.zero_add, if_true, ncast, Int.ofNat_eq_natCast]
    obtain ⟨s, hs, he⟩ := s
    refine ⟨fun k1 => ⟨?_, fun k2 => ?_, fun k2 => ?_⟩, fun k1 => ?_⟩
    · simp only [hH, stdH, decide_eq_true_eq, Tl_I] at k1 ⊢
      exact ⟨Shp_I _ _, h0, by omega, h1⟩
    · simp only [hH, stdH, decide_eq_true_eq, beq_iff_eq, Tl_I] at k1 k2 ⊢
      obtain ⟨m, rfl⟩ : ∃ m, s = m + 1 := ⟨s - 1, by omega⟩
      have e : lgS r.rows count 8 = some (fillP r.rows ((m + 1 : Nat) : Int) count) := by
        rw [← he]
        exact if_pos k2
      rw [e]
      exact ⟨rfl, RowsEq.self okRQ⟩
    · simp only [hH, stdH, decide_eq_true_eq, beq_eq_false_iff_ne, ne_eq, Tl_I] at k1 k2
      obtain ⟨m, rfl⟩ : ∃ m, s = m + 1 := ⟨s - 1, by omega⟩
      refine ⟨⟨m, by omega, ?_⟩, by simp only; omega, ?_⟩
      · rw [← he]
        exact (if_neg k2).symm
      · rw [hI]
        (conv in matchSt _ _ _ _ => cbv); simp only [AllG, AllP, and_true, hH, stdH, Nat.le_refl, ncast, Int.ofNat_eq_natCast, vrow_I, Arm.eta2, Fld.eta, Grp.eta]
        rw [show IntKind.i64.wrap (((m + 1 : Nat) : Int) - 1) = (m : Int) by rw [wi] <;> omega]
        (repeat' (with_reducible refine And.intro ?_ ?_)) <;> (first | exact True.intro | exact RowsEq.self okI | exact Eq.refl _)
    · simp only [hH, stdH, decide_eq_false_iff_not] at k1 ⊢
      obtain rfl : s = 0 := by omega
      rw [← he]
      exact ⟨rfl, rfl⟩
noncomputable def e_largeR : Entry := pureE 33 fun H a => match a with
  | [.agg [.vec 1 r0n r0f], .lit (.int .i64 count)] => some (.tup [.vec 3 (H Nat fun _ => ((lgS (⟨(Tl rowI r0n r0f)⟩ : Rgn).rows count 8).getD []).length) (rowsQ H fun _ => (lgS (⟨(Tl rowI r0n r0f)⟩ : Rgn).rows count 8).getD []), .lit (.bool (H Bool fun _ => (lgS (⟨(Tl rowI r0n r0f)⟩ : Rgn).rows count 8).isSome))], [H Prop fun _ => Shp rowI r0n r0f, H Prop fun _ => okRw (⟨(Tl rowI r0n r0f)⟩ : Rgn).rows, H Prop fun _ => 0 ≤ count ∧ count ≤ 100])
  | _ => none
theorem eok_largeR : EntryOk Try.prog e_largeR := pureM_ok (by unfold isBody; kernel_rfl) (by
  intro a r ob e hob
  split at e
  · rename_i r0n r0f count
    simp only [Option.some.injEq, Prod.mk.injEq] at e
    obtain ⟨rfl, rfl⟩ := e
    exact ConN.args (.cons (.agg (.cons (.toT okI rfl hob.1) .nil)) (.cons .rfl .nil)) (c_largeR (⟨(Tl rowI r0n r0f)⟩ : Rgn) count hob.2.1 hob.2.2.1)
  · simp at e)
def okLg (L : List Int) (c : Int) : Bool := okRg L && inB c 1 6
theorem c_LargeBx (r : Rgn) (count : Int) (h0 : rgWB r.rows) : ConN Try.prog 13 [aT rowZ stdH fun _ => r, .lit (.int .i64 count)] [] 0 (.tup [.vec 3 (stdH Nat fun _ => (if okLg r.rows count = true then (lgS r.rows count 8).getD [] else []).length) (rowsQ stdH fun _ => if okLg r.rows count = true then (lgS r.rows count 8).getD [] else []), .lit (.bool (stdH Bool fun _ => okLg r.rows count && (lgS r.rows count 8).isSome))]) [] [] := by
  have hB : Base Try.prog (tabΓ [e_vldRg, e_inside, e_largeR]) tabG := base_of tabOkG (ents_cons eok_vldRg <| ents_cons eok_inside <| ents_cons eok_largeR <| ents_nil)
  refine con_m (N := 19) hB (draw_ok hB mixed) Try.func13 rfl rfl (fun H => [aT rowZ H fun _ => r, .lit (.int .i64 count)]) (fun _ => []) 0 (fun H => .tup [.vec 3 (H Nat fun _ => (if okLg r.rows count = true then (lgS r.rows count 8).getD [] else []).length) (rowsQ H fun _ => if okLg r.rows count = true then (lgS r.rows count 8).getD [] else []), .lit (.bool (H Bool fun _ => okLg r.rows count && (lgS r.rows count 8).isSome))]) (fun H => []) (fun _ => []) 300 (by simp) (fun x hx => ?_) (by simp [lk]) (by omega) (by simp) ?_
  · simp only [List.mem_cons, List.not_mem_nil, or_false] at hx
    rcases hx with rfl | rfl
    · exact aT_bl okRZ _ _
    · exact .lit
  intro X hX hX0 H hH
  conv in Fin.chk _ _ => cbv
  try simp only [Plain_rowsA, Plain_rowsB, Plain_rowsF, Plain_rowsG, Plain_rowsI, Plain_rowsQ, Plain_rowsS, Plain_rowsU, Fin.satC_ret, Fin.satC_br, Fin.satC_need, Fin.satC_again, AllP, and_true, true_and, upd, List.length_nil, List.length_cons, Nat.zero_add, if_true, ncast, Int.ofNat_eq_natCast]
  subst hH
  simp only [stdH, Tl_I]
  unfold okLg
  cases hr : okRg r.rows
  · (repeat' (first | exact trivial | rfl | exact h0 | assumption | omega | exact Shp_I _ _ | exact RowsEq.self okRQ | refine And.intro ?_ ?_ | (intro h; first | (cases h; done) | skip)))
  · have hw := okRg_rw hr
    cases hs : inB count 1 6
    · (repeat' (first | exact trivial | rfl | exact h0 | assumption | omega | exact Shp_I _ _ | exact RowsEq.self okRQ | refine And.intro ?_ ?_ | (intro h; first | (cases h; done) | skip)))
    · have h1 := inB_iff.1 hs
      simp only [Bool.and_self, Bool.true_and, if_true]
      (repeat' (first | exact trivial | rfl | exact h0 | assumption | omega | exact Shp_I _ _ | exact RowsEq.self okRQ | refine And.intro ?_ ?_ | (intro h; first | (cases h; done) | skip)))
noncomputable def e_LargeBx : Entry := pureE 13 fun H a => match a with
  | [.agg [.vec 1 r0n r0f], .lit (.int .i64 count)] => some (.tup [.vec 3 (H Nat fun _ => (if okLg (⟨(Tl rowI r0n r0f)⟩ : Rgn).rows count = true then (lgS (⟨(Tl rowI r0n r0f)⟩ : Rgn).rows count 8).getD [] else []).length) (rowsQ H fun _ => if okLg (⟨(Tl rowI r0n r0f)⟩ : Rgn).rows count = true then (lgS (⟨(Tl rowI r0n r0f)⟩ : Rgn).rows count 8).getD [] else []), .lit (.bool (H Bool fun _ => okLg (⟨(Tl rowI r0n r0f)⟩ : Rgn).rows count && (lgS (⟨(Tl rowI r0n r0f)⟩ : Rgn).rows count 8).isSome))], [H Prop fun _ => Shp rowI r0n r0f, H Prop fun _ => rgWB (⟨(Tl rowI r0n r0f)⟩ : Rgn).rows])
  | _ => none
theorem eok_LargeBx : EntryOk Try.prog e_LargeBx := pureM_ok (by unfold isBody; kernel_rfl) (by
  intro a r ob e hob
  split at e
  · rename_i r0n r0f count
    simp only [Option.some.injEq, Prod.mk.injEq] at e
    obtain ⟨rfl, rfl⟩ := e
    exact ConN.args (.cons (.agg (.cons (.toT okI rfl hob.1) .nil)) (.cons .rfl .nil)) (c_LargeBx (⟨(Tl rowI r0n r0f)⟩ : Rgn) count hob.2.1)
  · simp at e)
theorem extQ {l l' : List Box} (h : l.length = l'.length) (he : ∀ j, j < l.length → l.getD j default = l'.getD j default) : l = l' := by
  refine List.ext_getElem h fun j h1 h2 => ?_
  have := he j h1
  rwa [List.getD_eq_getElem?_getD, List.getD_eq_getElem?_getD, List.getElem?_eq_getElem h1, List.getElem?_eq_getElem h2] at this
theorem c_vBoxes (a : List Box) (b : List Box) (h0 : a.length ≤ 1000000) : ConN Try.prog 9 [.vec 3 (stdH Nat fun _ => (a).length) (rowsQ stdH fun _ => a), .vec 3 (stdH Nat fun _ => (b).length) (rowsQ stdH fun _ => b)] [] 0 (.lit (.bool (stdH Bool fun _ => decide (a = b)))) [] [] := by
  have hB : Base Try.prog (tabΓ []) tab := base_of tabOk (ents_nil)
  refine con_m (N := 26) hB (draw_ok hB mixed) Try.func9 rfl rfl (fun H => [.vec 3 (H Nat fun _ => (a).length) (rowsQ H fun _ => a), .vec 3 (H Nat fun _ => (b).length) (rowsQ H fun _ => b)]) (fun _ => []) 0 (fun H => .lit (.bool (H Bool fun _ => decide (a = b)))) (fun H => []) (fun _ => []) 100 (by simp) (fun x hx => ?_) (by simp [lk]) (by omega) (by simp) ?_
  · simp only [List.mem_cons, List.not_mem_nil, or_false] at hx
    rcases hx with rfl | rfl
    · exact vl_bl okRQ a _
    · exact vl_bl okRQ b _
  intro X hX hX0 H hH
  conv in Fin.chk _ _ => cbv
  try simp only [Plain_rowsA, Plain_rowsB, Plain_rowsF, Plain_rowsG, Plain_rowsI, Plain_rowsQ, Plain_rowsS, Plain_rowsU, Fin.satC_ret, Fin.satC_br, Fin.satC_need, Fin.satC_again, AllP, and_true, true_and, upd, List.length_nil, List.length_cons, Nat.zero_add, if_true, ncast, Int.ofNat_eq_natCast]
  refine ⟨fun h => ?_, fun h => ?_⟩
  · simp only [hH, stdH, bne_iff_ne, ne_eq] at h ⊢
    refine decide_eq_false ?_
    rintro rfl
    exact h rfl
  · simp only [hH, stdH, bne_eq_false_iff_eq] at h
    refine loop_a hB (draw_ok hB mixed) hX hX0 hH false (ι := { i : Nat // i ≤ a.length ∧ ∀ j, j < i → a.getD j default = b.getD j default }) 100 (fun i => [.i (H Int fun _ => (i.1 : Nat))]) (fun i => a.length - i.1) (⟨0, by omega, by omega⟩) ?_ ?_
    · (conv in matchSt _ _ _ _ => cbv); simp only [AllG, AllP, and_true, hH, stdH, Nat.le_refl, ncast, Int.ofNat_eq_natCast, vrow_I, Arm.eta2, Fld.eta, Grp.eta]
      (repeat' (with_reducible refine And.intro ?_ ?_)) <;> (first | exact True.intro | exact Eq.refl _ | exact RowsEq.self okRQ)
    · intro I hI i
      conv in Fin.chk _ _ => cbv
      try simp only [Plain_rowsA, Plain_rowsB, Plain_rowsF, Plain_rowsG, Plain_rowsI, Plain_rowsQ, Plain_rowsS, Plain_rowsU, Fin.satC_ret, Fin.satC_br, Fin.satC_need, Fin.satC_again, AllP, and_true, true_and, upd, List.length_nil, List.length_cons, Nat.zero_add, if_true, ncast, Int.ofNat_eq_natCast]
      obtain ⟨i, hi, hj⟩ := i
      (repeat' (with_reducible first | refine And.intro ?_ ?_ | intro hh))
      all_goals try (clear hI hX hX0 hB I X; subst hH; simp only [stdH, Int.toNat_natCast, decide_eq_true_eq, decide_eq_false_iff_not] at *; (repeat' refine And.intro ?_ ?_) <;> first | exact trivial | omega)
      · rename_i h2
        simp only [hH, stdH, Int.toNat_natCast, decide_eq_true_eq, Bool.not_eq_true', eqQE] at h2 hh ⊢
        refine decide_eq_false fun q => ?_
        rw [q] at hh
        simp at hh
      · rename_i h2
        simp only [hH, stdH, Int.toNat_natCast, decide_eq_true_eq, Bool.not_eq_false', eqQE] at h2 hh
        refine ⟨⟨i + 1, by omega, fun j hj' => ?_⟩, by simp only; omega, ?_⟩
        · rcases Nat.lt_succ_iff_lt_or_eq.1 hj' with h | rfl
          · exact hj j h
          · exact hh
        · rw [hI]
          (conv in matchSt _ _ _ _ => cbv); simp only [AllG, AllP, and_true, hH, stdH, Nat.le_refl, ncast, Int.ofNat_eq_natCast, vrow_I, Arm.eta2, Fld.eta, Grp.eta]
          rw [w1 (by omega)]
          (repeat' (with_reducible refine And.intro ?_ ?_)) <;> (first | exact True.intro | exact RowsEq.self okRQ | exact Eq.refl _)
      · simp only [hH, stdH, decide_eq_false_iff_not] at hh ⊢
        exact decide_eq_true (extQ (by omega) fun j hj' => hj j (by omega))
noncomputable def e_vBoxes : Entry := pureE 9 fun H a => match a with
  | [.vec 3 an af, .vec 3 bn bf] => some (.lit (.bool (H Bool fun _ => decide ((Tl rowQ an af) = (Tl rowQ bn bf)))), [H Prop fun _ => Shp rowQ an af, H Prop fun _ => Shp rowQ bn bf, H Prop fun _ => (Tl rowQ an af).length ≤ 1000000])
  | _ => none
theorem eok_vBoxes : EntryOk Try.prog e_vBoxes := pureM_ok (by unfold isBody; kernel_rfl) (by
  intro a r ob e hob
  split at e
  · rename_i an af bn bf
    simp only [Option.some.injEq, Prod.mk.injEq] at e
    obtain ⟨rfl, rfl⟩ := e
    exact ConN.args (.cons (.toT okRQ rfl hob.1) (.cons (.toT okRQ rfl hob.2.1) .nil)) (c_vBoxes (Tl rowQ an af) (Tl rowQ bn bf) hob.2.2.1)
  · simp at e)

end Go.Proofs.Ytpilblmncpeelaa.AM

