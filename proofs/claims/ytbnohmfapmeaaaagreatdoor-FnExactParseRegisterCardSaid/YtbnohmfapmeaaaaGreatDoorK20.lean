/- Lemmas and contracts (Let); conditions: none. -/
import Derived.Test.YtbnohmfapmeaaaaGreatDoorK03
import Derived.Test.YtbnohmfapmeaaaaGreatDoorK19
set_option linter.unusedVariables false
set_option linter.unusedSimpArgs false
set_option maxRecDepth 100000
set_option maxHeartbeats 4000000
set_option cbv.maxSteps 3000000
namespace Go.Proofs.YtbnohmfapmeaaaaGreatDoor.AM
/- Texts parted by the reference; initial letters; conditions: none. -/
theorem ofL_ext {s : ByteArray} {i j : Nat} : ofL ((s.data.toList.drop i).take (j - i)) = s.extract i j := by
  apply ByteArray.ext; apply Array.ext'; simp [ofL]
theorem ofL_end (s : ByteArray) (i : Nat) : ofL (s.data.toList.drop i) = s.extract i s.size := by
  have : s.data.toList.length = s.size := rfl
  rw [← ofL_ext, List.take_of_length_le (by simp)]
theorem spl_from {s : ByteArray} {f i : Nat} (hf : f ≤ i) (hi : i < s.size) (h : sByte s i = 32) (hj : ∀ j, f ≤ j → j < i → sByte s j ≠ 32) : (spl (s.data.toList.drop f)).map ofL = s.extract f i :: (spl (s.data.toList.drop (i + 1))).map ofL := by
  have h1 : (s.data.toList.drop f)[i - f]? = some 32 := by
    rw [List.getElem?_drop, show f + (i - f) = i by omega]; exact (sByte_32 hi).1 h
  have h2 : ∀ j, j < i - f → (s.data.toList.drop f)[j]? ≠ some 32 := fun j hq e => by
    rw [List.getElem?_drop] at e
    exact hj (f + j) (by omega) (by omega) ((sByte_32 (by omega)).2 e)
  rw [spl_at h1 h2, List.map_cons, ofL_ext, List.drop_drop, show f + (i - f + 1) = i + 1 by omega]
theorem spl_last {s : ByteArray} {f : Nat} (hj : ∀ j, f ≤ j → j < s.size → sByte s j ≠ 32) : (spl (s.data.toList.drop f)).map ofL = [s.extract f s.size] := by
  have hl : s.data.toList.length = s.size := rfl
  have h2 : ∀ b ∈ s.data.toList.drop f, b ≠ 32 := fun b hb e => by
    subst e
    obtain ⟨j, hj1, e⟩ := List.getElem_of_mem hb
    have h3 : (s.data.toList.drop f)[j]? = some 32 := by rw [List.getElem?_eq_getElem hj1, e]
    rw [List.getElem?_drop] at h3
    rw [List.length_drop] at hj1
    exact hj (f + j) (by omega) (by omega) ((sByte_32 (by omega)).2 h3)
  rw [spl_no h2, List.map_cons, List.map_nil, ofL_end]
theorem c_l1Split (s : ByteArray) (b : Int) (h0 : s.size ≤ 1000000) (h1 : b = 32) : ConN Tryz.prog 90 [.lit (.string s), .lit (.int .u8 b)] [] 0 (.vec 1 (stdH Nat fun _ => (wordsB s).length) (rowsS stdH fun _ => wordsB s)) [] [] := by
  have hB : Base Tryz.prog (tabΓ []) tabO := base_of tabOkO (ents_nil)
  refine con_m (N := 35) hB (draw_ok hB mixed) Tryz.func90 rfl rfl (fun H => [.lit (.string s), .lit (.int .u8 b)]) (fun _ => []) 0 (fun H => .vec 1 (H Nat fun _ => (wordsB s).length) (rowsS H fun _ => wordsB s)) (fun H => []) (fun _ => []) 200 (by simp) (fun x hx => ?_) (by simp [lk]) (by omega) (by simp) ?_
  · simp only [List.mem_cons, List.not_mem_nil, or_false] at hx
    rcases hx with rfl | rfl
    · exact .lit
    · exact .lit
  intro X hX hX0 H hH
  conv in Fin.chk _ _ => cbv
  try simp only [Plain_rowsA, Plain_rowsB, Plain_rowsF, Plain_rowsG, Plain_rowsI, Plain_rowsS, Plain_rowsU, Fin.satC_ret, Fin.satC_br, Fin.satC_need, Fin.satC_again, AllP, and_true, true_and, upd, List.length_nil, List.length_cons, Nat.zero_add, if_true, ncast, Int.ofNat_eq_natCast]
  subst h1
  have hl := words_len s
  refine loop_a hB (draw_ok hB mixed) hX hX0 hH false (ι := { x : Nat × Nat × List ByteArray // x.1 ≤ x.2.1 ∧ x.2.1 ≤ s.size ∧ (∀ j, x.1 ≤ j → j < x.2.1 → sByte s j ≠ 32) ∧ wordsB s = x.2.2 ++ (spl (s.data.toList.drop x.1)).map ofL }) 200 (fun x => [.r (H Nat fun _ => (x.1.2.2).length) (rowsS H fun _ => x.1.2.2), .i (H Int fun _ => (x.1.1 : Nat)), .i (H Int fun _ => (x.1.2.1 : Nat))]) (fun x => s.size - x.1.2.1) (⟨(0, 0, []), Nat.le_refl _, Nat.zero_le _, fun j _ h => absurd h (Nat.not_lt_zero j), by simp [wordsB]⟩) ?_ ?_
  · (conv in matchSt _ _ _ _ => cbv); simp only [AllG, AllP, and_true, hH, stdH, Nat.le_refl, ncast, Int.ofNat_eq_natCast, vrow_I, Arm.eta2, Fld.eta, Grp.eta]
    (repeat' (first | with_reducible exact True.intro | rfl | exact Nat.le_refl _ | exact RowsEq.self okS | exact RowsEq.ofT okS rfl (Shp_zero _) rfl | exact RowsEq.snoc okS rfl | exact RowsEq.more okS (Shp_S _ _) (Tl_S _) | exact RowsEq.self okI | exact RowsEq.self okRA | exact List.length_append | refine And.intro ?_ ?_ | trivial))
  · intro I hI i
    conv in Fin.chk _ _ => cbv
    try simp only [Plain_rowsA, Plain_rowsB, Plain_rowsF, Plain_rowsG, Plain_rowsI, Plain_rowsS, Plain_rowsU, Fin.satC_ret, Fin.satC_br, Fin.satC_need, Fin.satC_again, AllP, and_true, true_and, upd, List.length_nil, List.length_cons, Nat.zero_add, if_true, ncast, Int.ofNat_eq_natCast]
    obtain ⟨⟨f, i, out⟩, hf, hi, hj, hw⟩ := i
    dsimp only at hf hi hj hw
    have ho : out.length ≤ s.size + 1 := by rw [hw, List.length_append] at hl; omega
    refine ⟨fun h1 => ⟨?_, fun h2 => ⟨?_, ⟨?_, ?_⟩, ?_⟩, fun h2 => ?_⟩, fun h1 => ⟨?_, ⟨?_, ?_⟩, ?_⟩⟩
    · simp only [hH, stdH, Nat.le_refl, decide_eq_true_eq, decide_eq_false_iff_not, Bool.not_eq_true', Bool.not_eq_false', peta, ncast, Int.ofNat_eq_natCast, beq_iff_eq, bne_iff_ne, beq_eq_false_iff_ne, bne_eq_false_iff_eq, ne_eq, Classical.not_not, Int.toNat_natCast, vrow_I, Arm.eta2, Fld.eta, Grp.eta] at h1 ⊢
      omega
    · simp only [hH, stdH, Nat.le_refl, decide_eq_true_eq, decide_eq_false_iff_not, Bool.not_eq_true', Bool.not_eq_false', peta, ncast, Int.ofNat_eq_natCast, beq_iff_eq, bne_iff_ne, beq_eq_false_iff_ne, bne_eq_false_iff_eq, ne_eq, Classical.not_not, Int.toNat_natCast, vrow_I, Arm.eta2, Fld.eta, Grp.eta] at h1
      try simp only [hH, stdH, Nat.le_refl, decide_eq_true_eq, decide_eq_false_iff_not, Bool.not_eq_true', Bool.not_eq_false', peta, ncast, Int.ofNat_eq_natCast, beq_iff_eq, bne_iff_ne, beq_eq_false_iff_ne, bne_eq_false_iff_eq, ne_eq, Classical.not_not, Int.toNat_natCast, vrow_I, Arm.eta2, Fld.eta, Grp.eta]
      exact ⟨by show (0 : Int) ≤ (f : Nat); omega, by show (0 : Int) ≤ (i : Nat); omega, by show ((f : Nat) : Int).toNat ≤ ((i : Nat) : Int).toNat; omega, by show ((i : Nat) : Int).toNat ≤ s.size; omega⟩
    · try simp only [hH, stdH, Nat.le_refl, decide_eq_true_eq, decide_eq_false_iff_not, Bool.not_eq_true', Bool.not_eq_false', peta, ncast, Int.ofNat_eq_natCast, beq_iff_eq, bne_iff_ne, beq_eq_false_iff_ne, bne_eq_false_iff_eq, ne_eq, Classical.not_not, Int.toNat_natCast, vrow_I, Arm.eta2, Fld.eta, Grp.eta]
      (repeat' (first | exact trivial | rfl | omega | refine And.intro ?_ ?_))
    · try simp only [hH, stdH, Nat.le_refl, decide_eq_true_eq, decide_eq_false_iff_not, Bool.not_eq_true', Bool.not_eq_false', peta, ncast, Int.ofNat_eq_natCast, beq_iff_eq, bne_iff_ne, beq_eq_false_iff_ne, bne_eq_false_iff_eq, ne_eq, Classical.not_not, Int.toNat_natCast, vrow_I, Arm.eta2, Fld.eta, Grp.eta]
      (repeat' (first | exact trivial | rfl | omega | refine And.intro ?_ ?_))
    · simp only [hH, stdH, Nat.le_refl, decide_eq_true_eq, decide_eq_false_iff_not, Bool.not_eq_true', Bool.not_eq_false', peta, ncast, Int.ofNat_eq_natCast, beq_iff_eq, bne_iff_ne, beq_eq_false_iff_ne, bne_eq_false_iff_eq, ne_eq, Classical.not_not, Int.toNat_natCast, vrow_I, Arm.eta2, Fld.eta, Grp.eta] at h1
      simp only [hH, stdH, Nat.le_refl, decide_eq_true_eq, decide_eq_false_iff_not, Bool.not_eq_true', Bool.not_eq_false', peta, ncast, Int.ofNat_eq_natCast, beq_iff_eq, bne_iff_ne, beq_eq_false_iff_ne, bne_eq_false_iff_eq, ne_eq, Classical.not_not, Int.toNat_natCast, vrow_I, Arm.eta2, Fld.eta, Grp.eta] at h2
      refine ⟨⟨(i + 1, i + 1, out ++ [s.extract f i]), Nat.le_refl _, by show i + 1 ≤ s.size; omega, fun j h3 h4 => by simp only at h3 h4; omega, ?_⟩, by simp only; omega, ?_⟩
      · simp only
        rw [hw, spl_from hf (by omega) h2 hj, List.append_assoc]; rfl
      · rw [hI]
        (conv in matchSt _ _ _ _ => cbv); simp only [AllG, AllP, and_true, hH, stdH, Nat.le_refl, ncast, Int.ofNat_eq_natCast, vrow_I, Arm.eta2, Fld.eta, Grp.eta]
        rw [w1 (by omega)]
        (repeat' (first | with_reducible exact True.intro | rfl | exact RowsEq.self okS | exact RowsEq.snocS rfl | exact List.length_append | refine And.intro ?_ ?_ | trivial))
    · simp only [hH, stdH, Nat.le_refl, decide_eq_true_eq, decide_eq_false_iff_not, Bool.not_eq_true', Bool.not_eq_false', peta, ncast, Int.ofNat_eq_natCast, beq_iff_eq, bne_iff_ne, beq_eq_false_iff_ne, bne_eq_false_iff_eq, ne_eq, Classical.not_not, Int.toNat_natCast, vrow_I, Arm.eta2, Fld.eta, Grp.eta] at h1
      simp only [hH, stdH, Nat.le_refl, decide_eq_true_eq, decide_eq_false_iff_not, Bool.not_eq_true', Bool.not_eq_false', peta, ncast, Int.ofNat_eq_natCast, beq_iff_eq, bne_iff_ne, beq_eq_false_iff_ne, bne_eq_false_iff_eq, ne_eq, Classical.not_not, Int.toNat_natCast, vrow_I, Arm.eta2, Fld.eta, Grp.eta] at h2
      refine ⟨⟨(f, i + 1, out), by show f ≤ i + 1; omega, by show i + 1 ≤ s.size; omega, fun j h3 h4 => ?_, hw⟩, by simp only; omega, ?_⟩
      · simp only at h3 h4
        rcases Nat.lt_succ_iff_lt_or_eq.1 h4 with h | rfl
        · exact hj j h3 h
        · exact h2
      · rw [hI]
        (conv in matchSt _ _ _ _ => cbv); simp only [AllG, AllP, and_true, hH, stdH, Nat.le_refl, ncast, Int.ofNat_eq_natCast, vrow_I, Arm.eta2, Fld.eta, Grp.eta]
        rw [w1 (by omega)]
        (repeat' (first | with_reducible exact True.intro | rfl | exact Nat.le_refl _ | exact RowsEq.self okS | exact RowsEq.ofT okS rfl (Shp_zero _) rfl | exact RowsEq.snoc okS rfl | exact RowsEq.more okS (Shp_S _ _) (Tl_S _) | exact RowsEq.self okI | exact RowsEq.self okRA | exact List.length_append | refine And.intro ?_ ?_ | trivial))
    · simp only [hH, stdH, Nat.le_refl, decide_eq_true_eq, decide_eq_false_iff_not, Bool.not_eq_true', Bool.not_eq_false', peta, ncast, Int.ofNat_eq_natCast, beq_iff_eq, bne_iff_ne, beq_eq_false_iff_ne, bne_eq_false_iff_eq, ne_eq, Classical.not_not, Int.toNat_natCast, vrow_I, Arm.eta2, Fld.eta, Grp.eta] at h1
      try simp only [hH, stdH, Nat.le_refl, decide_eq_true_eq, decide_eq_false_iff_not, Bool.not_eq_true', Bool.not_eq_false', peta, ncast, Int.ofNat_eq_natCast, beq_iff_eq, bne_iff_ne, beq_eq_false_iff_ne, bne_eq_false_iff_eq, ne_eq, Classical.not_not, Int.toNat_natCast, vrow_I, Arm.eta2, Fld.eta, Grp.eta]
      exact ⟨by show (0 : Int) ≤ (f : Nat); omega, trivial, by show ((f : Nat) : Int).toNat ≤ s.size; omega, Nat.le_refl _⟩
    · try simp only [hH, stdH, Nat.le_refl, decide_eq_true_eq, decide_eq_false_iff_not, Bool.not_eq_true', Bool.not_eq_false', peta, ncast, Int.ofNat_eq_natCast, beq_iff_eq, bne_iff_ne, beq_eq_false_iff_ne, bne_eq_false_iff_eq, ne_eq, Classical.not_not, Int.toNat_natCast, vrow_I, Arm.eta2, Fld.eta, Grp.eta]
      (repeat' (first | exact trivial | rfl | omega | refine And.intro ?_ ?_))
    · try simp only [hH, stdH, Nat.le_refl, decide_eq_true_eq, decide_eq_false_iff_not, Bool.not_eq_true', Bool.not_eq_false', peta, ncast, Int.ofNat_eq_natCast, beq_iff_eq, bne_iff_ne, beq_eq_false_iff_ne, bne_eq_false_iff_eq, ne_eq, Classical.not_not, Int.toNat_natCast, vrow_I, Arm.eta2, Fld.eta, Grp.eta]
      (repeat' (first | exact trivial | rfl | omega | refine And.intro ?_ ?_))
    · simp only [hH, stdH, Nat.le_refl, decide_eq_true_eq, decide_eq_false_iff_not, Bool.not_eq_true', Bool.not_eq_false', peta, ncast, Int.ofNat_eq_natCast, beq_iff_eq, bne_iff_ne, beq_eq_false_iff_ne, bne_eq_false_iff_eq, ne_eq, Classical.not_not, Int.toNat_natCast, vrow_I, Arm.eta2, Fld.eta, Grp.eta] at h1
      obtain rfl : i = s.size := by omega
      have e : wordsB s = out ++ [s.extract f s.size] := by rw [hw, spl_last hj]
      try simp only [hH, stdH, Nat.le_refl, decide_eq_true_eq, decide_eq_false_iff_not, Bool.not_eq_true', Bool.not_eq_false', peta, ncast, Int.ofNat_eq_natCast, beq_iff_eq, bne_iff_ne, beq_eq_false_iff_ne, bne_eq_false_iff_eq, ne_eq, Classical.not_not, Int.toNat_natCast, vrow_I, Arm.eta2, Fld.eta, Grp.eta]
      rw [e]
      (repeat' (first | with_reducible exact True.intro | rfl | exact RowsEq.self okS | exact RowsEq.snocS rfl | exact List.length_append | refine And.intro ?_ ?_ | trivial))
noncomputable def e_l1Split : Entry := pureE 90 fun H a => match a with
  | [.lit (.string s), .lit (.int .u8 b)] => some (.vec 1 (H Nat fun _ => (wordsB s).length) (rowsS H fun _ => wordsB s), [H Prop fun _ => s.size ≤ 1000000, H Prop fun _ => b = 32])
  | _ => none
theorem eok_l1Split : EntryOk Tryz.prog e_l1Split := pureM_ok (by unfold isBody; kernel_rfl) (by
  intro a r ob e hob
  split at e
  · rename_i s b
    simp only [Option.some.injEq, Prod.mk.injEq] at e
    obtain ⟨rfl, rfl⟩ := e
    exact ConN.args (.cons .rfl (.cons .rfl .nil)) (c_l1Split s b hob.1 hob.2.1)
  · simp at e)
theorem bszM (l : List UInt8) : (ByteArray.mk (Array.mk l)).size = l.length := rfl
end Go.Proofs.YtbnohmfapmeaaaaGreatDoor.AM

