/- Lemmas and contracts (Rbn Rbp); conditions: none. -/
import Derived.Test.YtpilblmncpeelaaK04
import Derived.Test.YtpilblmncpeelaaK13
set_option linter.unusedVariables false
set_option linter.unusedSimpArgs false
set_option linter.unusedVariables false
set_option linter.unusedSimpArgs false
set_option maxRecDepth 100000
set_option maxHeartbeats 4000000
set_option cbv.maxSteps 3000000
namespace Go.Proofs.Ytpilblmncpeelaa.AM
/- Regions by the reference: valid ones, boxes looked at; conditions: none. -/
theorem u64x {x : Nat} (h : x < 100) : IntKind.u64.wrap (x : Int) = x := Int.emod_eq_of_lt (by omega) (by show (x : Int) < 2 ^ 64; omega)
theorem c_l9In (x : Int) (y : Int)  : ConN Try.prog 52 [.lit (.int .i64 x), .lit (.int .i64 y)] [] 0 (.lit (.bool (stdH Bool fun _ => shI x y))) [] [] := by
  have hB : Base Try.prog (tabΓ [e_l1In]) tab := base_of tabOk (ents_cons eok_l1In <| ents_nil)
  refine con_m (N := 35) hB (draw_ok hB mixed) Try.func52 rfl rfl (fun H => [.lit (.int .i64 x), .lit (.int .i64 y)]) (fun _ => []) 0 (fun H => .lit (.bool (H Bool fun _ => shI x y))) (fun H => []) (fun _ => []) 200 (by simp) (fun x hx => ?_) (by simp [lk]) (by omega) (by simp) ?_
  · simp only [List.mem_cons, List.not_mem_nil, or_false] at hx
    rcases hx with rfl | rfl
    · exact .lit
    · exact .lit
  intro X hX hX0 H hH
  conv in Fin.chk _ _ => cbv
  try simp only [Plain_rowsA, Plain_rowsB, Plain_rowsF, Plain_rowsG, Plain_rowsI, Plain_rowsQ, Plain_rowsS, Plain_rowsU, Fin.satC_ret, Fin.satC_br, Fin.satC_need, Fin.satC_again, AllP, and_true, true_and, upd, List.length_nil, List.length_cons, Nat.zero_add, if_true, ncast, Int.ofNat_eq_natCast]
  subst hH
  simp only [stdH]
  rw [shI_eq]
  cases inB x 0 19
  · (repeat' (first | exact trivial | rfl | refine And.intro ?_ ?_ | (intro h; first | (cases h; done) | skip)))
  · cases inB y 0 23
    · (repeat' (first | exact trivial | rfl | refine And.intro ?_ ?_ | (intro h; first | (cases h; done) | skip)))
    · (repeat' (first | exact trivial | rfl | refine And.intro ?_ ?_ | (intro h; first | (cases h; done) | skip)))
noncomputable def e_l9In : Entry := pureE 52 fun H a => match a with
  | [.lit (.int .i64 x), .lit (.int .i64 y)] => some (.lit (.bool (H Bool fun _ => shI x y)), [])
  | _ => none
theorem eok_l9In : EntryOk Try.prog e_l9In := pureM_ok (by unfold isBody; kernel_rfl) (by
  intro a r ob e hob
  split at e
  · rename_i x y
    simp only [Option.some.injEq, Prod.mk.injEq] at e
    obtain ⟨rfl, rfl⟩ := e
    exact ConN.args (.cons .rfl (.cons .rfl .nil)) (c_l9In x y )
  · simp at e)
def rwAt (L : List Int) (y : Int) : Prop := L.length = 24 ∧ (0 ≤ L.getD y.toNat 0 ∧ L.getD y.toNat 0 ≤ 1048576)
theorem has_eq {L : List Int} {x y : Int} (h0 : rwAt L y) (hx : inB x 0 19 = true) (hy : inB y 0 23 = true) : IntKind.i64.wrap ↑(BitVec.ofInt IntKind.i64.bits ((L.getD y.toNat 0).fdiv (2 ^ min (IntKind.u64.wrap x).toNat IntKind.i64.bits)) &&& BitVec.ofInt IntKind.i64.bits 1).toNat = if (L.getD y.toNat 0).toNat.testBit x.toNat then 1 else 0 := by
  have hx2 := inB_iff.1 hx
  have hy2 := inB_iff.1 hy
  have hr := h0.2
  obtain ⟨n, hn⟩ : ∃ n : Nat, L.getD y.toNat 0 = n := ⟨(L.getD y.toNat 0).toNat, by omega⟩
  obtain ⟨m, rfl⟩ : ∃ m : Nat, x = m := ⟨x.toNat, by omega⟩
  have e := hasI (n := n) (x := m) (Nat.lt_of_le_of_lt (show n ≤ 1048576 by omega) (by decide)) (by omega)
  rw [u64x (by omega), hn]
  exact e
theorem c_l9Has (r : Rgn) (x : Int) (y : Int) (h0 : rwAt r.rows y) : ConN Try.prog 51 [aT rowZ stdH fun _ => r, .lit (.int .i64 x), .lit (.int .i64 y)] [] 0 (.lit (.bool (stdH Bool fun _ => hasZ r.rows x y))) [] [] := by
  have hB : Base Try.prog (tabΓ [e_l1In]) tabG := base_of tabOkG (ents_cons eok_l1In <| ents_nil)
  refine con_m (N := 25) hB (draw_ok hB mixed) Try.func51 rfl rfl (fun H => [aT rowZ H fun _ => r, .lit (.int .i64 x), .lit (.int .i64 y)]) (fun _ => []) 0 (fun H => .lit (.bool (H Bool fun _ => hasZ r.rows x y))) (fun H => []) (fun _ => []) 200 (by simp) (fun x hx => ?_) (by simp [lk]) (by omega) (by simp) ?_
  · simp only [List.mem_cons, List.not_mem_nil, or_false] at hx
    rcases hx with rfl | rfl | rfl
    · exact aT_bl okRZ _ _
    · exact .lit
    · exact .lit
  intro X hX hX0 H hH
  conv in Fin.chk _ _ => cbv
  try simp only [Plain_rowsA, Plain_rowsB, Plain_rowsF, Plain_rowsG, Plain_rowsI, Plain_rowsQ, Plain_rowsS, Plain_rowsU, Fin.satC_ret, Fin.satC_br, Fin.satC_need, Fin.satC_again, AllP, and_true, true_and, upd, List.length_nil, List.length_cons, Nat.zero_add, if_true, ncast, Int.ofNat_eq_natCast]
  subst hH
  simp only [stdH]
  unfold hasZ
  cases hx : inB x 0 19
  · (repeat' (first | exact trivial | rfl | refine And.intro ?_ ?_ | (intro h; cases h; done)))
  · cases hy : inB y 0 23
    · (repeat' (first | exact trivial | rfl | refine And.intro ?_ ?_ | (intro h; cases h; done)))
    · have hx2 := inB_iff.1 hx
      have hy2 := inB_iff.1 hy
      have hl := h0.1
      have e2 := has_eq h0 hx hy
      simp only [cond_true, Bool.true_and, e2]
      refine ⟨fun _ => ⟨by omega, by omega⟩, fun _ => ?_, ?_⟩
      · obtain ⟨m, rfl⟩ : ∃ m : Nat, x = m := ⟨x.toNat, by omega⟩
        rw [u64x (by omega)]
        omega
      · cases (r.rows.getD y.toNat 0).toNat.testBit x.toNat <;> rfl
noncomputable def e_l9Has : Entry := pureE 51 fun H a => match a with
  | [.agg [.vec 1 r0n r0f], .lit (.int .i64 x), .lit (.int .i64 y)] => some (.lit (.bool (H Bool fun _ => hasZ (⟨(Tl rowI r0n r0f)⟩ : Rgn).rows x y)), [H Prop fun _ => Shp rowI r0n r0f, H Prop fun _ => rwAt (⟨(Tl rowI r0n r0f)⟩ : Rgn).rows y])
  | _ => none
theorem eok_l9Has : EntryOk Try.prog e_l9Has := pureM_ok (by unfold isBody; kernel_rfl) (by
  intro a r ob e hob
  split at e
  · rename_i r0n r0f x y
    simp only [Option.some.injEq, Prod.mk.injEq] at e
    obtain ⟨rfl, rfl⟩ := e
    exact ConN.args (.cons (.agg (.cons (.toT okI rfl hob.1) .nil)) (.cons .rfl (.cons .rfl .nil))) (c_l9Has (⟨(Tl rowI r0n r0f)⟩ : Rgn) x y hob.2.1)
  · simp at e)
theorem c_l9Good (r : Rgn)  : ConN Try.prog 26 [aT rowZ stdH fun _ => r] [] 0 (.lit (.bool (stdH Bool fun _ => okRg r.rows))) [] [] := by
  have hB : Base Try.prog (tabΓ [e_l1In, e_l9Has, e_l9In]) tab := base_of tabOk (ents_cons eok_l1In <| ents_cons eok_l9Has <| ents_cons eok_l9In <| ents_nil)
  refine con_m (N := 34) hB (draw_ok hB mixed) Try.func26 rfl rfl (fun H => [aT rowZ H fun _ => r]) (fun _ => []) 0 (fun H => .lit (.bool (H Bool fun _ => okRg r.rows))) (fun H => []) (fun _ => []) 400 (by simp) (fun x hx => ?_) (by simp [lk]) (by omega) (by simp) ?_
  · simp only [List.mem_cons, List.not_mem_nil, or_false] at hx
    rcases hx with rfl
    · exact aT_bl okRZ _ _
  intro X hX hX0 H hH
  conv in Fin.chk _ _ => cbv
  try simp only [Plain_rowsA, Plain_rowsB, Plain_rowsF, Plain_rowsG, Plain_rowsI, Plain_rowsQ, Plain_rowsS, Plain_rowsU, Fin.satC_ret, Fin.satC_br, Fin.satC_need, Fin.satC_again, AllP, and_true, true_and, upd, List.length_nil, List.length_cons, Nat.zero_add, if_true, ncast, Int.ofNat_eq_natCast]
  refine ⟨fun h => ?_, fun h => ?_⟩
  · simp only [hH, stdH, bne_iff_ne, ne_eq] at h ⊢
    unfold okRg
    rw [decide_eq_false (by omega)]; rfl
  · simp only [hH, stdH, bne_eq_false_iff_eq] at h
    have hl : r.rows.length = 24 := by omega
    refine loop_c hB (draw_ok hB mixed) hX hX0 hH [0, 1, 2, 3] (ι := { y : Nat // y ≤ 24 ∧ ∀ k, k < y → rO r.rows k = true }) 400 (fun y => [.i (H Int fun _ => (y.1 : Nat))]) (fun y => 24 - y.1) (⟨0, by omega, by omega⟩) ?_ ?_
    · (conv in matchSt _ _ _ _ => cbv); simp only [AllG, AllP, and_true, hH, stdH, Nat.le_refl, ncast, Int.ofNat_eq_natCast, vrow_I, Arm.eta2, Fld.eta, Grp.eta]
      (repeat' (with_reducible refine And.intro ?_ ?_)) <;> (first | exact True.intro | exact RowsEq.self okI | exact Eq.refl _)
    · intro I hI y
      conv in Fin.chk _ _ => cbv
      try simp only [Plain_rowsA, Plain_rowsB, Plain_rowsF, Plain_rowsG, Plain_rowsI, Plain_rowsQ, Plain_rowsS, Plain_rowsU, Fin.satC_ret, Fin.satC_br, Fin.satC_need, Fin.satC_again, AllP, and_true, true_and, upd, List.length_nil, List.length_cons, Nat.zero_add, if_true, ncast, Int.ofNat_eq_natCast]
      obtain ⟨y, hy, ha⟩ := y
      refine ⟨fun h1 => ⟨?_, fun h2 => ?_, fun h2 => ?_⟩, fun h1 => ?_⟩
      · simp only [hH, stdH, decide_eq_true_eq] at h1 ⊢
        omega
      · simp only [hH, stdH, decide_eq_true_eq, Int.toNat_natCast, Bool.not_eq_true'] at h1 h2 ⊢
        have : rO r.rows y = false := by
          unfold rO
          have h3 : ¬ (0 ≤ r.rows.getD y 0 ∧ r.rows.getD y 0 ≤ 1048575) := fun q => by
            rw [inB_iff.2 q] at h2; cases h2
          by_cases q : 0 ≤ r.rows.getD y 0
          · rw [decide_eq_true q, decide_eq_false (by omega)]; rfl
          · rw [decide_eq_false q]; rfl
        unfold okRg
        rw [all_no (k := y) (by omega) this]
        simp
      · have k1 := h1
        have k2 := h2
        simp only [hH, stdH, decide_eq_true_eq, Int.toNat_natCast, Bool.not_eq_false', inB_iff] at k1 k2
        have hat : rwAt r.rows (y : Int) := ⟨hl, by rw [Int.toNat_natCast]; omega⟩
        refine loop_c hB (draw_ok hB mixed) hX hX0 hH [0, 1, 2, 3, 4] (ι := { x : Nat // x ≤ 20 ∧ ∀ k, k < x → (!(r.rows.getD y 0).toNat.testBit k || shN y k) = true }) 400 (fun x => [.i (H Int fun _ => (x.1 : Nat))]) (fun x => 20 - x.1) (⟨0, by omega, by omega⟩) ?_ ?_
        · (conv in matchSt _ _ _ _ => cbv); simp only [AllG, AllP, and_true, hH, stdH, Nat.le_refl, ncast, Int.ofNat_eq_natCast, vrow_I, Arm.eta2, Fld.eta, Grp.eta]
          (repeat' (with_reducible refine And.intro ?_ ?_)) <;> (first | exact True.intro | exact RowsEq.self okI | exact Eq.refl _)
        · intro J hJ x
          conv in Fin.chk _ _ => cbv
          try simp only [Plain_rowsA, Plain_rowsB, Plain_rowsF, Plain_rowsG, Plain_rowsI, Plain_rowsQ, Plain_rowsS, Plain_rowsU, Fin.satC_ret, Fin.satC_br, Fin.satC_need, Fin.satC_again, AllP, and_true, true_and, upd, List.length_nil, List.length_cons, Nat.zero_add, if_true, ncast, Int.ofNat_eq_natCast]
          obtain ⟨x, hx, hb⟩ := x
          have key : x < 20 → (bif hasZ r.rows (x : Int) (y : Int) then !shI (x : Int) (y : Int) else false) = !(!(r.rows.getD y 0).toNat.testBit x || shN y x) := fun h => by
            unfold hasZ
            rw [inB_iff.2 (by omega), inB_iff.2 (by omega), shI_N y x (by omega) h, Int.toNat_natCast, Int.toNat_natCast]
            cases (r.rows.getD y 0).toNat.testBit x <;> cases shN y x <;> rfl
          (repeat' (with_reducible first | refine And.intro ?_ ?_ | intro hh))
          all_goals try (simp only [hH, stdH, Tl_I]; first | exact trivial | exact Shp_I _ _ | exact hat | exact ⟨Shp_I _ _, hat⟩)
          · rename_i h3
            simp only [hH, stdH, decide_eq_true_eq, Tl_I] at h3 hh ⊢
            rw [key (by omega)] at hh
            have h5 : (!(r.rows.getD y 0).toNat.testBit x || shN y x) = false := by rw [Bool.not_eq_true'] at hh; exact hh
            have : rO r.rows y = false := by
              unfold rO
              rw [all_no (k := x) (by omega) h5]
              simp
            unfold okRg
            rw [all_no (k := y) (by omega) this]
            simp
          · rename_i h3
            simp only [hH, stdH, decide_eq_true_eq, Tl_I] at h3 hh
            rw [key (by omega)] at hh
            have h5 : (!(r.rows.getD y 0).toNat.testBit x || shN y x) = true := by rw [Bool.not_eq_false'] at hh; exact hh
            refine ⟨⟨x + 1, by omega, fun k hk => ?_⟩, by simp only; omega, ?_⟩
            · rcases Nat.lt_succ_iff_lt_or_eq.1 hk with h | rfl
              · exact hb k h
              · exact h5
            · rw [hJ]
              (conv in matchSt _ _ _ _ => cbv); simp only [AllG, AllP, and_true, hH, stdH, Nat.le_refl, ncast, Int.ofNat_eq_natCast, vrow_I, Arm.eta2, Fld.eta, Grp.eta]
              rw [w1 (by omega)]
              (repeat' (with_reducible refine And.intro ?_ ?_)) <;> (first | exact True.intro | exact RowsEq.self okI | exact Eq.refl _)
          · simp only [hH, stdH, decide_eq_false_iff_not] at hh
            rw [if_neg (by decide)]
            refine ⟨⟨y + 1, by omega, fun k hk => ?_⟩, by simp only; omega, ?_⟩
            · rcases Nat.lt_succ_iff_lt_or_eq.1 hk with h | rfl
              · exact ha k h
              · unfold rO
                rw [decide_eq_true k2.1, decide_eq_true (by omega), Bool.true_and, Bool.true_and]
                exact all_yes fun q hq => hb q (by omega)
            · rw [hI]
              (conv in matchSt _ _ _ _ => cbv); simp only [AllG, AllP, and_true, hH, stdH, Nat.le_refl, ncast, Int.ofNat_eq_natCast, vrow_I, Arm.eta2, Fld.eta, Grp.eta]
              rw [w1 (by omega)]
              (repeat' (with_reducible refine And.intro ?_ ?_)) <;> (first | exact True.intro | exact RowsEq.self okI | exact Eq.refl _)
      · simp only [hH, stdH, decide_eq_false_iff_not] at h1 ⊢
        unfold okRg
        rw [decide_eq_true hl, Bool.true_and]
        exact all_yes fun k hk => ha k (by omega)
noncomputable def e_l9Good : Entry := pureE 26 fun H a => match a with
  | [.agg [.vec 1 r0n r0f]] => some (.lit (.bool (H Bool fun _ => okRg (⟨(Tl rowI r0n r0f)⟩ : Rgn).rows)), [H Prop fun _ => Shp rowI r0n r0f])
  | _ => none
theorem eok_l9Good : EntryOk Try.prog e_l9Good := pureM_ok (by unfold isBody; kernel_rfl) (by
  intro a r ob e hob
  split at e
  · rename_i r0n r0f
    simp only [Option.some.injEq, Prod.mk.injEq] at e
    obtain ⟨rfl, rfl⟩ := e
    exact ConN.args (.cons (.agg (.cons (.toT okI rfl hob.1) .nil)) .nil) (c_l9Good (⟨(Tl rowI r0n r0f)⟩ : Rgn) )
  · simp at e)

end Go.Proofs.Ytpilblmncpeelaa.AM

set_option linter.unusedVariables false
set_option linter.unusedSimpArgs false
set_option maxRecDepth 100000
set_option maxHeartbeats 4000000
set_option cbv.maxSteps 3000000
namespace Go.Proofs.Ytpilblmncpeelaa.AM
/- A region filled by the reference: plain laws; conditions: none. -/
/-- Bits within the shield alone. -/
def subB (L : List Int) : Prop := ∀ y x, y < 24 → x < 20 → (L.getD y 0).toNat.testBit x = true → shN y x = true
theorem okRg_sub {L : List Int} (h : okRg L = true) : subB L := by
  unfold okRg at h
  rw [Bool.and_eq_true] at h
  intro y x hy hx hb
  have := List.all_eq_true.1 h.2 y (List.mem_range.2 hy)
  unfold rO at this
  simp only [Bool.and_eq_true] at this
  have := List.all_eq_true.1 this.2.2 x (List.mem_range.2 hx)
  rw [hb] at this
  simpa using this
/-- The same cells. -/
structure eqB (L M : List Int) : Prop where
  l : okRw L
  m : okRw M
  b : ∀ y x, y < 24 → x < 20 → (L.getD y 0).toNat.testBit x = (M.getD y 0).toNat.testBit x
theorem eqB.refl {L : List Int} (h : okRw L) : eqB L L := ⟨h, h, fun _ _ _ _ => rfl⟩
def whZ (L : List Int) (x y : Int) : Bool := shI x y && (L.getD y.toNat 0).toNat.testBit x.toNat
theorem wh_has {L M : List Int} (h : eqB L M) (hs : subB M) (x y : Int) : whZ L x y = hasZ M x y := by
  unfold whZ hasZ
  cases hx : inB x 0 19
  · have : shI x y = false := by unfold shI; rw [hx]; rfl
    rw [this]; rfl
  · cases hy : inB y 0 23
    · have : shI x y = false := by unfold shI; rw [hx, hy]; rfl
      rw [this]; rfl
    · have hx2 := inB_iff.1 hx
      have hy2 := inB_iff.1 hy
      have e := h.b y.toNat x.toNat (by omega) (by omega)
      rw [e, Bool.true_and, Bool.true_and]
      have e2 := shI_N y.toNat x.toNat (by omega) (by omega)
      rw [show ((x.toNat : Nat) : Int) = x by omega, show ((y.toNat : Nat) : Int) = y by omega] at e2
      rw [e2]
      cases q : (M.getD y.toNat 0).toNat.testBit x.toNat
      · simp
      · rw [hs _ _ (by omega) (by omega) q]; rfl
theorem allC_eq {p q : Int → Int → Bool} (h : ∀ x y, p x y = q x y) (x y s : Int) : allC x y s p = allC x y s q := by
  unfold allC
  simp only [h]
theorem clrN_sub {L : List Int} {x y : Int} {s : Nat} (h : okRw L) (hs : subB L) (hx : 0 ≤ x ∧ x + (s : Nat) ≤ 20) (hy : 0 ≤ y ∧ y + (s : Nat) ≤ 24) : subB (clrN L x y s s) := fun j i hj hi hb => by
  rw [clrN_bit h hx j i s hy.1 hy.2, Bool.and_eq_true] at hb
  exact hs j i hj hi hb.1
theorem stP_sub {s most : Int} {σ : List Box × List Int} {y x : Nat} (h1 : 1 ≤ s) (h : okRw σ.2) (hs : subB σ.2) : subB (stP s most σ y x).2 := by
  unfold stP
  split
  · exact hs
  · split
    · rename_i hq
      have q := allC_in h1 hq
      exact clrN_sub h hs (by omega) (by omega)
    · exact hs
theorem rwK_sub {s most : Int} {σ : List Box × List Int} {y : Nat} (h1 : 1 ≤ s) (h : okRw σ.2) (hs : subB σ.2) : ∀ x, subB (rwK s most σ y x).2
  | 0 => hs
  | x + 1 => stP_sub h1 (rwK_ok h x) (rwK_sub h1 h hs x)
theorem fiK_sub {s most : Int} {L : List Int} (h1 : 1 ≤ s) (h : okRw L) (hs : subB L) : ∀ y, subB (fiK s most L y).2
  | 0 => hs
  | y + 1 => rwK_sub h1 (fiK_ok h y) (fiK_sub h1 h hs y) 20
/-- A cell at which no box fits. -/
theorem stP_no {s most : Int} {σ : List Box × List Int} {y x : Nat} (h : allC x y s (hasZ σ.2) = false) : stP s most σ y x = σ := by
  unfold stP
  split
  · rfl
  · rw [h]; rfl
theorem stP_out {s most : Int} {σ : List Box × List Int} {y x : Nat} (h1 : 1 ≤ s) (h : 20 < (x : Int) + s ∨ 24 < (y : Int) + s) : stP s most σ y x = σ := by
  refine stP_no ?_
  rw [← Bool.not_eq_true]
  intro q
  have := allC_in h1 q
  omega
theorem rwK_tail {s most : Int} {σ : List Box × List Int} {y x : Nat} (h1 : 1 ≤ s) (h : 20 < (x : Int) + s ∨ 24 < (y : Int) + s ∨ ((rwK s most σ y x).1.length : Int) = most) : ∀ k, rwK s most σ y (x + k) = rwK s most σ y x
  | 0 => rfl
  | k + 1 => by
    show stP s most (rwK s most σ y (x + k)) y (x + k) = _
    rw [rwK_tail h1 h k]
    rcases h with h | h | h
    · exact stP_out h1 (.inl (by omega))
    · exact stP_out h1 (.inr h)
    · exact stP_full h
theorem fiK_tail {s most : Int} {L : List Int} {y : Nat} (h1 : 1 ≤ s) (h : 24 < (y : Int) + s) : ∀ k, fiK s most L (y + k) = fiK s most L y
  | 0 => rfl
  | k + 1 => by
    show rwK s most (fiK s most L (y + k)) (y + k) 20 = _
    rw [fiK_tail h1 h k]
    have := rwK_tail (s := s) (most := most) (σ := fiK s most L y) (y := y + k) (x := 0) h1 (.inr (.inl (by omega))) 20
    rw [Nat.zero_add] at this
    exact this
/-- Rows cleared by a run of bits. -/
def clrM (L : List Int) (x : Nat) (y s : Nat) : Nat → List Int
  | 0 => L
  | j + 1 => (clrM L x y s j).set (y + j) ((noB ((clrM L x y s j).getD (y + j) 0).toNat ((2 ^ s - 1) * 2 ^ x) : Nat) : Int)
theorem clrM_len (L : List Int) (x y s : Nat) : ∀ j, (clrM L x y s j).length = L.length
  | 0 => rfl
  | j + 1 => (List.length_set).trans (clrM_len L x y s j)
theorem clrM_ok {L : List Int} {x y s : Nat} (h : okRw L) : ∀ j, okRw (clrM L x y s j)
  | 0 => h
  | j + 1 => by
    have ih := clrM_ok (x := x) (y := y) (s := s) h j
    refine ⟨(clrM_len L x y s (j + 1)).trans h.1, fun q hq => ?_⟩
    show 0 ≤ ((clrM L x y s j).set (y + j) _).getD q 0 ∧ _
    rw [clrM, getD_setZ]
    split
    · rename_i r
      obtain ⟨rfl, _⟩ := r
      have := ih.2 _ hq
      have h3 := noB_le (n := ((clrM L x y s j).getD (y + j) 0).toNat) (m := (2 ^ s - 1) * 2 ^ x) (Nat.lt_of_le_of_lt (show _ ≤ 1048576 by omega) (by decide))
      omega
    · exact ih.2 q hq
theorem clrM_bit {L : List Int} {x y s : Nat} (h : okRw L) (q i : Nat) (hq : q < 24) : ∀ j, ((clrM L x y s j).getD q 0).toNat.testBit i = ((L.getD q 0).toNat.testBit i && !decide ((y ≤ q ∧ q < y + j) ∧ x ≤ i ∧ i < x + s))
  | 0 => by rw [decide_eq_false (by omega)]; simp [clrM]
  | j + 1 => by
    have ih := clrM_bit (x := x) (y := y) (s := s) h q i hq j
    have ok := clrM_ok (x := x) (y := y) (s := s) h j
    show (((clrM L x y s j).set (y + j) _).getD q 0).toNat.testBit i = _
    rw [getD_setZ]
    by_cases e : y + j = q
    · subst e
      rw [if_pos ⟨rfl, by rw [ok.1]; exact hq⟩, Int.toNat_natCast]
      have := ok.2 _ hq
      rw [noB_bit (Nat.lt_of_le_of_lt (show _ ≤ 1048576 by omega) (by decide)), ih, run_bit, Bool.and_assoc]
      congr 1
      rw [Bool.eq_iff_iff]
      simp only [Bool.and_eq_true, Bool.not_eq_true', decide_eq_false_iff_not]
      omega
    · rw [if_neg (fun r => e r.1), ih]
      congr 2
      rw [decide_eq_decide]
      omega
theorem clr_eq {L M : List Int} {x y s : Nat} (h : eqB L M) (hx : x + s ≤ 20) (hy : y + s ≤ 24) : eqB (clrM L x y s s) (clrN M (x : Int) (y : Int) s s) := by
  refine ⟨clrM_ok h.l s, okRw_clrN h.m s, fun q i hq hi => ?_⟩
  rw [clrM_bit h.l q i hq, clrN_bit h.m (by omega) q i s (by omega) (by omega), h.b q i hq hi]
  congr 2
  rw [decide_eq_decide]
  omega

end Go.Proofs.Ytpilblmncpeelaa.AM

