/- Lemmas and contracts (Rbr); conditions: none. -/
import Derived.Test.YtpilblmncpeelaaK04
import Derived.Test.YtpilblmncpeelaaK15
set_option linter.unusedVariables false
set_option linter.unusedSimpArgs false
set_option linter.unusedVariables false
set_option linter.unusedSimpArgs false
set_option maxRecDepth 100000
set_option maxHeartbeats 4000000
set_option cbv.maxSteps 3000000
namespace Go.Proofs.Ytpilblmncpeelaa.AM
/- Regions filled, the largest boxes, by the reference; boxes fit; conditions: none. -/
theorem c_FillRgS (r : Rgn) (size : Int) (most : Int)  : ConN Try.prog 8 [aT rowZ stdH fun _ => r, .lit (.int .i64 size), .lit (.int .i64 most)] [] 0 (.tup [.vec 3 (stdH Nat fun _ => (if okFi r.rows size most = true then fillP r.rows size most else []).length) (rowsQ stdH fun _ => if okFi r.rows size most = true then fillP r.rows size most else []), .lit (.bool (stdH Bool fun _ => okFi r.rows size most))]) [] [] := by
  have hB : Base Try.prog (tabΓ [e_l9Good, e_l1In, e_fillZ]) tabG := base_of tabOkG (ents_cons eok_l9Good <| ents_cons eok_l1In <| ents_cons eok_fillZ <| ents_nil)
  refine con_m (N := 26) hB (draw_ok hB mixed) Try.func8 rfl rfl (fun H => [aT rowZ H fun _ => r, .lit (.int .i64 size), .lit (.int .i64 most)]) (fun _ => []) 0 (fun H => .tup [.vec 3 (H Nat fun _ => (if okFi r.rows size most = true then fillP r.rows size most else []).length) (rowsQ H fun _ => if okFi r.rows size most = true then fillP r.rows size most else []), .lit (.bool (H Bool fun _ => okFi r.rows size most))]) (fun H => []) (fun _ => []) 300 (by simp) (fun x hx => ?_) (by simp [lk]) (by omega) (by simp) ?_
  · simp only [List.mem_cons, List.not_mem_nil, or_false] at hx
    rcases hx with rfl | rfl | rfl
    · exact aT_bl okRZ _ _
    · exact .lit
    · exact .lit
  intro X hX hX0 H hH
  conv in Fin.chk _ _ => cbv
  try simp only [Plain_rowsA, Plain_rowsB, Plain_rowsF, Plain_rowsG, Plain_rowsI, Plain_rowsQ, Plain_rowsS, Plain_rowsU, Fin.satC_ret, Fin.satC_br, Fin.satC_need, Fin.satC_again, AllP, and_true, true_and, upd, List.length_nil, List.length_cons, Nat.zero_add, if_true, ncast, Int.ofNat_eq_natCast]
  subst hH
  simp only [stdH, Tl_I]
  unfold okFi
  have h0 := True.intro
  cases hr : okRg r.rows
  · (repeat' (first | exact trivial | rfl | exact h0 | assumption | omega | exact Shp_I _ _ | exact RowsEq.self okRQ | exact RowsEq.ofT okRQ rfl (Shp_zero _) rfl | refine And.intro ?_ ?_ | (intro h; first | (cases h; done) | skip)))
  · have hw := okRg_rw hr
    have hb := okRg_sub hr
    cases hs : inB size 1 8
    · (repeat' (first | exact trivial | rfl | exact h0 | assumption | omega | exact Shp_I _ _ | exact RowsEq.self okRQ | exact RowsEq.ofT okRQ rfl (Shp_zero _) rfl | refine And.intro ?_ ?_ | (intro h; first | (cases h; done) | skip)))
    · have h1 := inB_iff.1 hs
      cases hm : inB most 0 40
      · (repeat' (first | exact trivial | rfl | exact h0 | assumption | omega | exact Shp_I _ _ | exact RowsEq.self okRQ | exact RowsEq.ofT okRQ rfl (Shp_zero _) rfl | refine And.intro ?_ ?_ | (intro h; first | (cases h; done) | skip)))
      · have h2 := inB_iff.1 hm
        simp only [Bool.and_self, if_true]
        (repeat' (first | exact trivial | rfl | exact h0 | assumption | omega | exact Shp_I _ _ | exact RowsEq.self okRQ | exact RowsEq.ofT okRQ rfl (Shp_zero _) rfl | refine And.intro ?_ ?_ | (intro h; first | (cases h; done) | skip)))
noncomputable def e_FillRgS : Entry := pureE 8 fun H a => match a with
  | [.agg [.vec 1 r0n r0f], .lit (.int .i64 size), .lit (.int .i64 most)] => some (.tup [.vec 3 (H Nat fun _ => (if okFi (⟨(Tl rowI r0n r0f)⟩ : Rgn).rows size most = true then fillP (⟨(Tl rowI r0n r0f)⟩ : Rgn).rows size most else []).length) (rowsQ H fun _ => if okFi (⟨(Tl rowI r0n r0f)⟩ : Rgn).rows size most = true then fillP (⟨(Tl rowI r0n r0f)⟩ : Rgn).rows size most else []), .lit (.bool (H Bool fun _ => okFi (⟨(Tl rowI r0n r0f)⟩ : Rgn).rows size most))], [H Prop fun _ => Shp rowI r0n r0f])
  | _ => none
theorem eok_FillRgS : EntryOk Try.prog e_FillRgS := pureM_ok (by unfold isBody; kernel_rfl) (by
  intro a r ob e hob
  split at e
  · rename_i r0n r0f size most
    simp only [Option.some.injEq, Prod.mk.injEq] at e
    obtain ⟨rfl, rfl⟩ := e
    exact ConN.args (.cons (.agg (.cons (.toT okI rfl hob.1) .nil)) (.cons .rfl (.cons .rfl .nil))) (c_FillRgS (⟨(Tl rowI r0n r0f)⟩ : Rgn) size most )
  · simp at e)
theorem c_largeZ (r : Rgn) (count : Int) (h0 : okRw r.rows) (h1 : subB r.rows) (h2 : 0 ≤ count ∧ count ≤ 100) : ConN Try.prog 34 [aT rowZ stdH fun _ => r, .lit (.int .i64 count)] [] 0 (.tup [.vec 3 (stdH Nat fun _ => ((lgS r.rows count 8).getD []).length) (rowsQ stdH fun _ => (lgS r.rows count 8).getD []), .lit (.bool (stdH Bool fun _ => (lgS r.rows count 8).isSome))]) [] [] := by
  have hB : Base Try.prog (tabΓ [e_fillZ]) tab := base_of tabOk (ents_cons eok_fillZ <| ents_nil)
  refine con_m (N := 22) hB (draw_ok hB mixed) Try.func34 rfl rfl (fun H => [aT rowZ H fun _ => r, .lit (.int .i64 count)]) (fun _ => []) 0 (fun H => .tup [.vec 3 (H Nat fun _ => ((lgS r.rows count 8).getD []).length) (rowsQ H fun _ => (lgS r.rows count 8).getD []), .lit (.bool (H Bool fun _ => (lgS r.rows count 8).isSome))]) (fun H => []) (fun _ => []) 300 (by simp) (fun x hx => ?_) (by simp [lk]) (by omega) (by simp) ?_
  · simp only [List.mem_cons, List.not_mem_nil, or_false] at hx
    rcases hx with rfl | rfl
    · exact aT_bl okRZ _ _
    · exact .lit
  intro X hX hX0 H hH
  conv in Fin.chk _ _ => cbv
  try simp only [Plain_rowsA, Plain_rowsB, Plain_rowsF, Plain_rowsG, Plain_rowsI, Plain_rowsQ, Plain_rowsS, Plain_rowsU, Fin.satC_ret, Fin.satC_br, Fin.satC_need, Fin.satC_again, AllP, and_true, true_and, upd, List.length_nil, List.length_cons, Nat.zero_add, if_true, ncast, Int.ofNat_eq_natCast]
  refine loop_c hB (draw_ok hB mixed) hX hX0 hH [0, 1, 2, 3, 4, 5, 6] (ι := { s : Nat // s ≤ 8 ∧ lgS r.rows count s = lgS r.rows count 8 }) 300 (fun s => [.i (H Int fun _ => (s.1 : Nat))]) (fun s => s.1) (⟨8, Nat.le_refl _, rfl⟩) ?_ ?_
  · (conv in matchSt _ _ _ _ => cbv); simp only [AllG, AllP, and_true, hH, stdH, Nat.le_refl, ncast, Int.ofNat_eq_natCast, vrow_I, Arm.eta2, Fld.eta, Grp.eta]
    (repeat' (with_reducible refine And.intro ?_ ?_)) <;> (first | exact True.intro | exact RowsEq.self okI | exact Eq.refl _)
  · intro I hI s
    conv in Fin.chk _ _ => cbv
    try simp only [Plain_rowsA, Plain_rowsB, Plain_rowsF, Plain_rowsG, Plain_rowsI, Plain_rowsQ, Plain_rowsS, Plain_rowsU, Fin.satC_ret, Fin.satC_br, Fin.satC_need, Fin.satC_again, AllP, and_true, true_and, upd, List.length_nil, List.length_cons, Nat.zero_add, if_true, ncast, Int.ofNat_eq_natCast]
    obtain ⟨s, hs, he⟩ := s
    refine ⟨fun k1 => ⟨?_, fun k2 => ?_, fun k2 => ?_⟩, fun k1 => ?_⟩
    · simp only [hH, stdH, decide_eq_true_eq, Tl_I] at k1 ⊢
      exact ⟨Shp_I _ _, h0, h1, by omega, h2⟩
    · simp only [hH, stdH, decide_eq_true_eq, beq_iff_eq, Tl_I] at k1 k2 ⊢
      obtain ⟨m, rfl⟩ : ∃ m, s = m + 1 := ⟨s - 1, by omega⟩
      have e : lgS r.rows count 8 = some (fillP r.rows ((m + 1 : Nat) : Int) count) := by
        rw [← he]
        exact if_pos k2
      rw [e]
      exact ⟨rfl, RowsEq.self okRQ⟩
    · simp only [hH, stdH, decide_eq_true_eq, beq_eq_false_iff_ne, ne_eq, Tl_I] at k1 k2
      obtain ⟨m, rfl⟩ : ∃ m, s = m + 1 := ⟨s - 1, by omega⟩
      refine ⟨⟨m, by omega, ?_⟩, by simp only; omega, ?_⟩
      · rw [← he]
        exact (if_neg k2).symm
      · rw [hI]
        (conv in matchSt _ _ _ _ => cbv); simp only [AllG, AllP, and_true, hH, stdH, Nat.le_refl, ncast, Int.ofNat_eq_natCast, vrow_I, Arm.eta2, Fld.eta, Grp.eta]
        rw [show IntKind.i64.wrap (((m + 1 : Nat) : Int) - 1) = (m : Int) by rw [wi] <;> omega]
        (repeat' (with_reducible refine And.intro ?_ ?_)) <;> (first | exact True.intro | exact RowsEq.self okI | exact Eq.refl _)
    · simp only [hH, stdH, decide_eq_false_iff_not] at k1 ⊢
      obtain rfl : s = 0 := by omega
      rw [← he]
      (repeat' (first | exact trivial | rfl | exact RowsEq.ofT okRQ rfl (Shp_zero _) rfl | refine And.intro ?_ ?_))
noncomputable def e_largeZ : Entry := pureE 34 fun H a => match a with
  | [.agg [.vec 1 r0n r0f], .lit (.int .i64 count)] => some (.tup [.vec 3 (H Nat fun _ => ((lgS (⟨(Tl rowI r0n r0f)⟩ : Rgn).rows count 8).getD []).length) (rowsQ H fun _ => (lgS (⟨(Tl rowI r0n r0f)⟩ : Rgn).rows count 8).getD []), .lit (.bool (H Bool fun _ => (lgS (⟨(Tl rowI r0n r0f)⟩ : Rgn).rows count 8).isSome))], [H Prop fun _ => Shp rowI r0n r0f, H Prop fun _ => okRw (⟨(Tl rowI r0n r0f)⟩ : Rgn).rows, H Prop fun _ => subB (⟨(Tl rowI r0n r0f)⟩ : Rgn).rows, H Prop fun _ => 0 ≤ count ∧ count ≤ 100])
  | _ => none
theorem eok_largeZ : EntryOk Try.prog e_largeZ := pureM_ok (by unfold isBody; kernel_rfl) (by
  intro a r ob e hob
  split at e
  · rename_i r0n r0f count
    simp only [Option.some.injEq, Prod.mk.injEq] at e
    obtain ⟨rfl, rfl⟩ := e
    exact ConN.args (.cons (.agg (.cons (.toT okI rfl hob.1) .nil)) (.cons .rfl .nil)) (c_largeZ (⟨(Tl rowI r0n r0f)⟩ : Rgn) count hob.2.1 hob.2.2.1 hob.2.2.2.1)
  · simp at e)
theorem c_LargeBxS (r : Rgn) (count : Int)  : ConN Try.prog 14 [aT rowZ stdH fun _ => r, .lit (.int .i64 count)] [] 0 (.tup [.vec 3 (stdH Nat fun _ => (if okLg r.rows count = true then (lgS r.rows count 8).getD [] else []).length) (rowsQ stdH fun _ => if okLg r.rows count = true then (lgS r.rows count 8).getD [] else []), .lit (.bool (stdH Bool fun _ => okLg r.rows count && (lgS r.rows count 8).isSome))]) [] [] := by
  have hB : Base Try.prog (tabΓ [e_l9Good, e_l1In, e_largeZ]) tabG := base_of tabOkG (ents_cons eok_l9Good <| ents_cons eok_l1In <| ents_cons eok_largeZ <| ents_nil)
  refine con_m (N := 20) hB (draw_ok hB mixed) Try.func14 rfl rfl (fun H => [aT rowZ H fun _ => r, .lit (.int .i64 count)]) (fun _ => []) 0 (fun H => .tup [.vec 3 (H Nat fun _ => (if okLg r.rows count = true then (lgS r.rows count 8).getD [] else []).length) (rowsQ H fun _ => if okLg r.rows count = true then (lgS r.rows count 8).getD [] else []), .lit (.bool (H Bool fun _ => okLg r.rows count && (lgS r.rows count 8).isSome))]) (fun H => []) (fun _ => []) 300 (by simp) (fun x hx => ?_) (by simp [lk]) (by omega) (by simp) ?_
  · simp only [List.mem_cons, List.not_mem_nil, or_false] at hx
    rcases hx with rfl | rfl
    · exact aT_bl okRZ _ _
    · exact .lit
  intro X hX hX0 H hH
  conv in Fin.chk _ _ => cbv
  try simp only [Plain_rowsA, Plain_rowsB, Plain_rowsF, Plain_rowsG, Plain_rowsI, Plain_rowsQ, Plain_rowsS, Plain_rowsU, Fin.satC_ret, Fin.satC_br, Fin.satC_need, Fin.satC_again, AllP, and_true, true_and, upd, List.length_nil, List.length_cons, Nat.zero_add, if_true, ncast, Int.ofNat_eq_natCast]
  subst hH
  simp only [stdH, Tl_I]
  unfold okLg
  have h0 := True.intro
  cases hr : okRg r.rows
  · (repeat' (first | exact trivial | rfl | exact h0 | assumption | omega | exact Shp_I _ _ | exact RowsEq.self okRQ | exact RowsEq.ofT okRQ rfl (Shp_zero _) rfl | refine And.intro ?_ ?_ | (intro h; first | (cases h; done) | skip)))
  · have hw := okRg_rw hr
    have hb := okRg_sub hr
    cases hs : inB count 1 6
    · (repeat' (first | exact trivial | rfl | exact h0 | assumption | omega | exact Shp_I _ _ | exact RowsEq.self okRQ | exact RowsEq.ofT okRQ rfl (Shp_zero _) rfl | refine And.intro ?_ ?_ | (intro h; first | (cases h; done) | skip)))
    · have h1 := inB_iff.1 hs
      simp only [Bool.and_self, Bool.true_and, if_true]
      (repeat' (first | exact trivial | rfl | exact h0 | assumption | omega | exact Shp_I _ _ | exact RowsEq.self okRQ | exact RowsEq.ofT okRQ rfl (Shp_zero _) rfl | refine And.intro ?_ ?_ | (intro h; first | (cases h; done) | skip)))
noncomputable def e_LargeBxS : Entry := pureE 14 fun H a => match a with
  | [.agg [.vec 1 r0n r0f], .lit (.int .i64 count)] => some (.tup [.vec 3 (H Nat fun _ => (if okLg (⟨(Tl rowI r0n r0f)⟩ : Rgn).rows count = true then (lgS (⟨(Tl rowI r0n r0f)⟩ : Rgn).rows count 8).getD [] else []).length) (rowsQ H fun _ => if okLg (⟨(Tl rowI r0n r0f)⟩ : Rgn).rows count = true then (lgS (⟨(Tl rowI r0n r0f)⟩ : Rgn).rows count 8).getD [] else []), .lit (.bool (H Bool fun _ => okLg (⟨(Tl rowI r0n r0f)⟩ : Rgn).rows count && (lgS (⟨(Tl rowI r0n r0f)⟩ : Rgn).rows count 8).isSome))], [H Prop fun _ => Shp rowI r0n r0f])
  | _ => none
theorem eok_LargeBxS : EntryOk Try.prog e_LargeBxS := pureM_ok (by unfold isBody; kernel_rfl) (by
  intro a r ob e hob
  split at e
  · rename_i r0n r0f count
    simp only [Option.some.injEq, Prod.mk.injEq] at e
    obtain ⟨rfl, rfl⟩ := e
    exact ConN.args (.cons (.agg (.cons (.toT okI rfl hob.1) .nil)) (.cons .rfl .nil)) (c_LargeBxS (⟨(Tl rowI r0n r0f)⟩ : Rgn) count )
  · simp at e)
/-- Fewer cells. -/
def leB (M L : List Int) : Prop := ∀ y x, y < 24 → x < 20 → (M.getD y 0).toNat.testBit x = true → (L.getD y 0).toNat.testBit x = true
theorem leB_has {M L : List Int} (h : leB M L) {x y : Int} (q : hasZ M x y = true) : hasZ L x y = true := by
  have hi := hasZ_in q
  unfold hasZ at q ⊢
  simp only [Bool.and_eq_true] at q ⊢
  exact ⟨q.1, q.2.1, h _ _ (by omega) (by omega) q.2.2⟩
theorem leB_all {M L : List Int} (h : leB M L) {x y s : Int} (q : allC x y s (hasZ M) = true) : allC x y s (hasZ L) = true := by
  unfold allC at q ⊢
  exact all_yes fun j hj => all_yes fun i hi => leB_has h (List.all_eq_true.1 (List.all_eq_true.1 q j (List.mem_range.2 hj)) i (List.mem_range.2 hi))
theorem allC_sh {L : List Int} (hs : subB L) {x y s : Int} (q : allC x y s (hasZ L) = true) : allC x y s shI = true := by
  unfold allC at q ⊢
  refine all_yes fun j hj => all_yes fun i hi => ?_
  have := List.all_eq_true.1 (List.all_eq_true.1 q j (List.mem_range.2 hj)) i (List.mem_range.2 hi)
  have hin := hasZ_in this
  unfold hasZ at this
  simp only [Bool.and_eq_true] at this
  have e := shI_N (y + (j : Nat)).toNat (x + (i : Nat)).toNat (by omega) (by omega)
  rw [show (((x + (i : Nat)).toNat : Nat) : Int) = x + (i : Nat) by omega, show (((y + (j : Nat)).toNat : Nat) : Int) = y + (j : Nat) by omega] at e
  rw [e]
  exact hs _ _ (by omega) (by omega) this.2.2
structure goodF (L : List Int) (s : Int) (σ : List Box × List Int) : Prop where
  ok : okRw σ.2
  le : leB σ.2 L
  bx : ∀ b ∈ σ.1, b.s = s ∧ allC b.x b.y b.s (hasZ L) = true
theorem stP_good {L : List Int} {s most : Int} {σ : List Box × List Int} {y x : Nat} (h1 : 1 ≤ s) (h : goodF L s σ) : goodF L s (stP s most σ y x) := by
  unfold stP
  split
  · exact h
  · split
    · rename_i hq
      have q := allC_in h1 hq
      refine ⟨okRw_clrN h.ok _, fun j i hj hi hb => ?_, fun b hb => ?_⟩
      · rw [clrN_bit h.ok (by omega) j i s.toNat q.2.1 (by omega), Bool.and_eq_true] at hb
        exact h.le j i hj hi hb.1
      · rcases List.mem_append.1 hb with hb | hb
        · exact h.bx b hb
        · rw [List.mem_singleton] at hb
          subst hb
          exact ⟨rfl, leB_all h.le hq⟩
    · exact h
theorem rwK_good {L : List Int} {s most : Int} {σ : List Box × List Int} {y : Nat} (h1 : 1 ≤ s) (h : goodF L s σ) : ∀ x, goodF L s (rwK s most σ y x)
  | 0 => h
  | x + 1 => stP_good h1 (rwK_good h1 h x)
theorem fiK_good {L : List Int} {s most : Int} (h1 : 1 ≤ s) (h : okRw L) : ∀ y, goodF L s (fiK s most L y)
  | 0 => ⟨h, fun _ _ _ _ q => q, fun b hb => by cases hb⟩
  | y + 1 => rwK_good h1 (fiK_good h1 h y) 20
/-- The boxes that fill a valid region are valid, and fit. -/
theorem fill_fit {L : List Int} {s most : Int} (h : okFi L s most = true) {b : Box} (hb : b ∈ fillP L s most) : b.s = s ∧ okBx b = true ∧ allC b.x b.y b.s (hasZ L) = true := by
  unfold okFi at h
  simp only [Bool.and_eq_true, inB_iff] at h
  have g := (fiK_good (most := most) h.2.1.1 (okRg_rw h.1) 24).bx b hb
  have q := allC_in (by omega) g.2
  refine ⟨g.1, ?_, g.2⟩
  unfold okBx
  simp only [Bool.and_eq_true, inB_iff]
  exact ⟨by omega, by omega, by omega, allC_sh (okRg_sub h.1) g.2⟩
theorem fill_le {L : List Int} {s most : Int} (h : 0 ≤ most) : ((fillP L s most).length : Int) ≤ most := fiK_le h 24

end Go.Proofs.Ytpilblmncpeelaa.AM

