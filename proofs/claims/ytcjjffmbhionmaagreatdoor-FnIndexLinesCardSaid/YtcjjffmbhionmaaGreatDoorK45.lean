/- Lemmas and contracts (Rtx); conditions: none. -/
import Derived.Test.YtcjjffmbhionmaaGreatDoorK03
import Derived.Test.YtcjjffmbhionmaaGreatDoorK04
import Derived.Test.YtcjjffmbhionmaaGreatDoorK11
import Derived.Test.YtcjjffmbhionmaaGreatDoorK14
import Derived.Test.YtcjjffmbhionmaaGreatDoorK15
import Derived.Test.YtcjjffmbhionmaaGreatDoorK19
set_option linter.unusedVariables false
set_option linter.unusedSimpArgs false
set_option maxRecDepth 100000
set_option maxHeartbeats 4000000
set_option cbv.maxSteps 3000000
namespace Go.Proofs.YtcjjffmbhionmaaGreatDoor.AM
/- Lists of texts compared; conditions: none. -/
theorem c_rTexts (a : List ByteArray) (b : List ByteArray) (h0 : a.length ≤ 100000000) : ConN Tryz.prog 15 [.vec 1 (stdH Nat fun _ => (a).length) (rowsS stdH fun _ => a), .vec 1 (stdH Nat fun _ => (b).length) (rowsS stdH fun _ => b)] [] 0 (.lit (.bool (stdH Bool fun _ => decide (a = b)))) [] [] := by
  have hB : Base Tryz.prog (tabΓ []) tab := base_of tabOk (ents_nil)
  refine con_m (N := 26) hB (draw_ok hB mixed) Tryz.func15 rfl rfl (fun H => [.vec 1 (H Nat fun _ => (a).length) (rowsS H fun _ => a), .vec 1 (H Nat fun _ => (b).length) (rowsS H fun _ => b)]) (fun _ => []) 0 (fun H => .lit (.bool (H Bool fun _ => decide (a = b)))) (fun H => []) (fun _ => []) 100 (by simp) (fun x hx => ?_) (by simp [lk]) (by omega) (by simp) ?_
  · simp only [List.mem_cons, List.not_mem_nil, or_false] at hx
    rcases hx with rfl | rfl
    · exact vl_bl okS a _
    · exact vl_bl okS b _
  intro X hX hX0 H hH
  conv in Fin.chk _ _ => cbv
  try simp only [Plain_rowsA, Plain_rowsB, Plain_rowsC, Plain_rowsF, Plain_rowsG, Plain_rowsI, Plain_rowsS, Plain_rowsU, Fin.satC_ret, Fin.satC_br, Fin.satC_need, Fin.satC_again, AllP, and_true, true_and, upd, List.length_nil, List.length_cons, Nat.zero_add, if_true, ncast, Int.ofNat_eq_natCast]
  refine ⟨fun h => ?_, fun h => ?_⟩
  · simp only [hH, stdH, Nat.le_refl, decide_eq_true_eq, decide_eq_false_iff_not, Bool.not_eq_true', Bool.not_eq_false', peta, ncast, Int.ofNat_eq_natCast, beq_iff_eq, bne_iff_ne, beq_eq_false_iff_ne, bne_eq_false_iff_eq, ne_eq, Classical.not_not, Int.toNat_natCast, vrow_I, Arm.eta2, Fld.eta, Grp.eta] at h ⊢
    rintro rfl; exact h rfl
  simp only [hH, stdH, Nat.le_refl, decide_eq_true_eq, decide_eq_false_iff_not, Bool.not_eq_true', Bool.not_eq_false', peta, ncast, Int.ofNat_eq_natCast, beq_iff_eq, bne_iff_ne, beq_eq_false_iff_ne, bne_eq_false_iff_eq, ne_eq, Classical.not_not, Int.toNat_natCast, vrow_I, Arm.eta2, Fld.eta, Grp.eta] at h
  refine loop_a hB (draw_ok hB mixed) hX hX0 hH false (ι := { i : Nat // i ≤ a.length ∧ ∀ j, j < i → a.getD j ByteArray.empty = b.getD j ByteArray.empty }) 100 (fun i => [.i (H Int fun _ => (i.1 : Nat))]) (fun i => a.length - i.1) (⟨0, by omega, by omega⟩) ?_ ?_
  · (conv in matchSt _ _ _ _ => cbv); simp only [AllG, AllP, and_true, hH, stdH, Nat.le_refl, ncast, Int.ofNat_eq_natCast, vrow_I, Arm.eta2, Fld.eta, Grp.eta]
    (repeat' (first | with_reducible exact True.intro | rfl | exact Nat.le_refl _ | exact RowsEq.self okS | exact RowsEq.ofT okS rfl (Shp_zero _) rfl | exact RowsEq.snoc okS rfl | exact RowsEq.more okS (Shp_S _ _) (Tl_S _) | exact RowsEq.self okI | exact RowsEq.self okRA | exact List.length_append | refine And.intro ?_ ?_ | trivial))
  · intro I hI i
    conv in Fin.chk _ _ => cbv
    try simp only [Plain_rowsA, Plain_rowsB, Plain_rowsC, Plain_rowsF, Plain_rowsG, Plain_rowsI, Plain_rowsS, Plain_rowsU, Fin.satC_ret, Fin.satC_br, Fin.satC_need, Fin.satC_again, AllP, and_true, true_and, upd, List.length_nil, List.length_cons, Nat.zero_add, if_true, ncast, Int.ofNat_eq_natCast]
    obtain ⟨i, hi, hj⟩ := i
    refine ⟨fun h1 => ⟨?_, ?_, fun h2 => ?_, fun h2 => ?_⟩, fun h1 => ?_⟩
    · simp only [hH, stdH, Nat.le_refl, decide_eq_true_eq, decide_eq_false_iff_not, Bool.not_eq_true', Bool.not_eq_false', peta, ncast, Int.ofNat_eq_natCast, beq_iff_eq, bne_iff_ne, beq_eq_false_iff_ne, bne_eq_false_iff_eq, ne_eq, Classical.not_not, Int.toNat_natCast, vrow_I, Arm.eta2, Fld.eta, Grp.eta] at h1 ⊢
      omega
    · simp only [hH, stdH, Nat.le_refl, decide_eq_true_eq, decide_eq_false_iff_not, Bool.not_eq_true', Bool.not_eq_false', peta, ncast, Int.ofNat_eq_natCast, beq_iff_eq, bne_iff_ne, beq_eq_false_iff_ne, bne_eq_false_iff_eq, ne_eq, Classical.not_not, Int.toNat_natCast, vrow_I, Arm.eta2, Fld.eta, Grp.eta] at h1 ⊢
      omega
    · simp only [hH, stdH, Int.toNat_natCast, beqT, Bool.not_eq_true', decide_eq_false_iff_not] at h2 ⊢
      rintro rfl; exact h2 rfl
    · simp only [hH, stdH, Nat.le_refl, decide_eq_true_eq, decide_eq_false_iff_not, Bool.not_eq_true', Bool.not_eq_false', peta, ncast, Int.ofNat_eq_natCast, beq_iff_eq, bne_iff_ne, beq_eq_false_iff_ne, bne_eq_false_iff_eq, ne_eq, Classical.not_not, Int.toNat_natCast, vrow_I, Arm.eta2, Fld.eta, Grp.eta] at h1
      simp only [hH, stdH, Int.toNat_natCast, beqT, Bool.not_eq_false', decide_eq_true_eq] at h2
      refine ⟨⟨i + 1, by omega, fun j hj' => ?_⟩, by simp only; omega, ?_⟩
      · rcases Nat.lt_succ_iff_lt_or_eq.1 hj' with h | rfl
        · exact hj j h
        · exact h2
      · rw [hI]
        (conv in matchSt _ _ _ _ => cbv); simp only [AllG, AllP, and_true, hH, stdH, Nat.le_refl, ncast, Int.ofNat_eq_natCast, vrow_I, Arm.eta2, Fld.eta, Grp.eta]
        rw [w1 (by omega)]
        (repeat' (first | with_reducible exact True.intro | rfl | exact Nat.le_refl _ | exact RowsEq.self okS | exact RowsEq.ofT okS rfl (Shp_zero _) rfl | exact RowsEq.snoc okS rfl | exact RowsEq.more okS (Shp_S _ _) (Tl_S _) | exact RowsEq.self okI | exact RowsEq.self okRA | exact List.length_append | refine And.intro ?_ ?_ | trivial))
    · simp only [hH, stdH, Nat.le_refl, decide_eq_true_eq, decide_eq_false_iff_not, Bool.not_eq_true', Bool.not_eq_false', peta, ncast, Int.ofNat_eq_natCast, beq_iff_eq, bne_iff_ne, beq_eq_false_iff_ne, bne_eq_false_iff_eq, ne_eq, Classical.not_not, Int.toNat_natCast, vrow_I, Arm.eta2, Fld.eta, Grp.eta] at h1 ⊢
      obtain rfl : i = a.length := by omega
      exact list_extS (by omega) hj
noncomputable def e_rTexts : Entry := pureE 15 fun H a => match a with
  | [.vec 1 an af, .vec 1 bn bf] => some (.lit (.bool (H Bool fun _ => decide ((Tl rowS an af) = (Tl rowS bn bf)))), [H Prop fun _ => Shp rowS an af, H Prop fun _ => Shp rowS bn bf, H Prop fun _ => (Tl rowS an af).length ≤ 100000000])
  | _ => none
theorem eok_rTexts : EntryOk Tryz.prog e_rTexts := pureM_ok (by unfold isBody; kernel_rfl) (by
  intro a r ob e hob
  split at e
  · rename_i an af bn bf
    simp only [Option.some.injEq, Prod.mk.injEq] at e
    obtain ⟨rfl, rfl⟩ := e
    exact ConN.args (.cons (.toT okS rfl hob.1) (.cons (.toT okS rfl hob.2.1) .nil)) (c_rTexts (Tl rowS an af) (Tl rowS bn bf) hob.2.2.1)
  · simp at e)
theorem c_rIntsX (s : List Int) (t : List Int) (h0 : s.length ≤ 2000000) : ConN Tryz.prog 10 [.vec 1 (stdH Nat fun _ => (s).length) (rowsI stdH fun _ => s), .vec 1 (stdH Nat fun _ => (t).length) (rowsI stdH fun _ => t)] [] 0 (.lit (.bool (stdH Bool fun _ => decide (s = t)))) [] [] := by
  have hB : Base Tryz.prog (tabΓ []) tab := base_of tabOk (ents_nil)
  refine con_m (N := 26) hB (draw_ok hB mixed) Tryz.func10 rfl rfl (fun H => [.vec 1 (H Nat fun _ => (s).length) (rowsI H fun _ => s), .vec 1 (H Nat fun _ => (t).length) (rowsI H fun _ => t)]) (fun _ => []) 0 (fun H => .lit (.bool (H Bool fun _ => decide (s = t)))) (fun H => []) (fun _ => []) 100 (by simp) (fun x hx => ?_) (by simp [lk]) (by omega) (by simp) ?_
  · simp only [List.mem_cons, List.not_mem_nil, or_false] at hx
    rcases hx with rfl | rfl
    · exact vl_bl okI s _
    · exact vl_bl okI t _
  intro X hX hX0 H hH
  conv in Fin.chk _ _ => cbv
  try simp only [Plain_rowsA, Plain_rowsB, Plain_rowsC, Plain_rowsF, Plain_rowsG, Plain_rowsI, Plain_rowsS, Plain_rowsU, Fin.satC_ret, Fin.satC_br, Fin.satC_need, Fin.satC_again, AllP, and_true, true_and, upd, List.length_nil, List.length_cons, Nat.zero_add, if_true, ncast, Int.ofNat_eq_natCast]
  refine ⟨fun h => ?_, fun h => ?_⟩
  · simp only [hH, stdH, Nat.le_refl, decide_eq_true_eq, decide_eq_false_iff_not, Bool.not_eq_true', Bool.not_eq_false', peta, ncast, Int.ofNat_eq_natCast, beq_iff_eq, bne_iff_ne, beq_eq_false_iff_ne, bne_eq_false_iff_eq, ne_eq, Classical.not_not, Int.toNat_natCast, vrow_I, Arm.eta2, Fld.eta, Grp.eta] at h
    try simp only [hH, stdH, Nat.le_refl, decide_eq_true_eq, decide_eq_false_iff_not, Bool.not_eq_true', Bool.not_eq_false', peta, ncast, Int.ofNat_eq_natCast, beq_iff_eq, bne_iff_ne, beq_eq_false_iff_ne, bne_eq_false_iff_eq, ne_eq, Classical.not_not, Int.toNat_natCast, vrow_I, Arm.eta2, Fld.eta, Grp.eta]
    intro e
    exact h (by rw [e])
  · simp only [hH, stdH, Nat.le_refl, decide_eq_true_eq, decide_eq_false_iff_not, Bool.not_eq_true', Bool.not_eq_false', peta, ncast, Int.ofNat_eq_natCast, beq_iff_eq, bne_iff_ne, beq_eq_false_iff_ne, bne_eq_false_iff_eq, ne_eq, Classical.not_not, Int.toNat_natCast, vrow_I, Arm.eta2, Fld.eta, Grp.eta] at h
    have hl : s.length = t.length := by omega
    refine loop_a hB (draw_ok hB mixed) hX hX0 hH false (ι := { i : Nat // i ≤ s.length ∧ ∀ j, j < i → s.getD j 0 = t.getD j 0 }) 100 (fun i => [.i (H Int fun _ => (i.1 : Nat))]) (fun i => s.length - i.1) (⟨0, by omega, by omega⟩) ?_ ?_
    · (conv in matchSt _ _ _ _ => cbv); simp only [AllG, AllP, and_true, hH, stdH, Nat.le_refl, ncast, Int.ofNat_eq_natCast, vrow_I, Arm.eta2, Fld.eta, Grp.eta]
      (repeat' (first | with_reducible exact True.intro | rfl | exact Nat.le_refl _ | exact RowsEq.self okI | exact RowsEq.ofT okI rfl (Shp_zero _) rfl | exact RowsEq.snoc okI rfl | exact RowsEq.more okI (Shp_I _ _) (Tl_I _) | exact RowsEq.self okI | exact RowsEq.self okRA | exact List.length_append | refine And.intro ?_ ?_ | trivial))
    · intro I hI i
      conv in Fin.chk _ _ => cbv
      try simp only [Plain_rowsA, Plain_rowsB, Plain_rowsC, Plain_rowsF, Plain_rowsG, Plain_rowsI, Plain_rowsS, Plain_rowsU, Fin.satC_ret, Fin.satC_br, Fin.satC_need, Fin.satC_again, AllP, and_true, true_and, upd, List.length_nil, List.length_cons, Nat.zero_add, if_true, ncast, Int.ofNat_eq_natCast]
      obtain ⟨i, hi, hj⟩ := i
      refine ⟨fun h1 => ⟨?_, ?_, fun h2 => ?_, fun h2 => ?_⟩, fun h1 => ?_⟩
      · simp only [hH, stdH, Nat.le_refl, decide_eq_true_eq, decide_eq_false_iff_not, Bool.not_eq_true', Bool.not_eq_false', peta, ncast, Int.ofNat_eq_natCast, beq_iff_eq, bne_iff_ne, beq_eq_false_iff_ne, bne_eq_false_iff_eq, ne_eq, Classical.not_not, Int.toNat_natCast, vrow_I, Arm.eta2, Fld.eta, Grp.eta] at h1 ⊢
        omega
      · simp only [hH, stdH, Nat.le_refl, decide_eq_true_eq, decide_eq_false_iff_not, Bool.not_eq_true', Bool.not_eq_false', peta, ncast, Int.ofNat_eq_natCast, beq_iff_eq, bne_iff_ne, beq_eq_false_iff_ne, bne_eq_false_iff_eq, ne_eq, Classical.not_not, Int.toNat_natCast, vrow_I, Arm.eta2, Fld.eta, Grp.eta] at h1 ⊢
        omega
      · simp only [hH, stdH, Nat.le_refl, decide_eq_true_eq, decide_eq_false_iff_not, Bool.not_eq_true', Bool.not_eq_false', peta, ncast, Int.ofNat_eq_natCast, beq_iff_eq, bne_iff_ne, beq_eq_false_iff_ne, bne_eq_false_iff_eq, ne_eq, Classical.not_not, Int.toNat_natCast, vrow_I, Arm.eta2, Fld.eta, Grp.eta] at h2
        try simp only [hH, stdH, Nat.le_refl, decide_eq_true_eq, decide_eq_false_iff_not, Bool.not_eq_true', Bool.not_eq_false', peta, ncast, Int.ofNat_eq_natCast, beq_iff_eq, bne_iff_ne, beq_eq_false_iff_ne, bne_eq_false_iff_eq, ne_eq, Classical.not_not, Int.toNat_natCast, vrow_I, Arm.eta2, Fld.eta, Grp.eta]
        intro e
        exact h2 (by rw [e])
      · simp only [hH, stdH, Nat.le_refl, decide_eq_true_eq, decide_eq_false_iff_not, Bool.not_eq_true', Bool.not_eq_false', peta, ncast, Int.ofNat_eq_natCast, beq_iff_eq, bne_iff_ne, beq_eq_false_iff_ne, bne_eq_false_iff_eq, ne_eq, Classical.not_not, Int.toNat_natCast, vrow_I, Arm.eta2, Fld.eta, Grp.eta] at h1
        simp only [hH, stdH, Nat.le_refl, decide_eq_true_eq, decide_eq_false_iff_not, Bool.not_eq_true', Bool.not_eq_false', peta, ncast, Int.ofNat_eq_natCast, beq_iff_eq, bne_iff_ne, beq_eq_false_iff_ne, bne_eq_false_iff_eq, ne_eq, Classical.not_not, Int.toNat_natCast, vrow_I, Arm.eta2, Fld.eta, Grp.eta] at h2
        refine ⟨⟨i + 1, by omega, fun j hj' => ?_⟩, by simp only; omega, ?_⟩
        · rcases Nat.lt_succ_iff_lt_or_eq.1 hj' with h | rfl
          · exact hj j h
          · exact h2
        · rw [hI]
          (conv in matchSt _ _ _ _ => cbv); simp only [AllG, AllP, and_true, hH, stdH, Nat.le_refl, ncast, Int.ofNat_eq_natCast, vrow_I, Arm.eta2, Fld.eta, Grp.eta]
          rw [w1 (by omega)]
          (repeat' (first | with_reducible exact True.intro | rfl | exact Nat.le_refl _ | exact RowsEq.self okI | exact RowsEq.ofT okI rfl (Shp_zero _) rfl | exact RowsEq.snoc okI rfl | exact RowsEq.more okI (Shp_I _ _) (Tl_I _) | exact RowsEq.self okI | exact RowsEq.self okRA | exact List.length_append | refine And.intro ?_ ?_ | trivial))
      · simp only [hH, stdH, Nat.le_refl, decide_eq_true_eq, decide_eq_false_iff_not, Bool.not_eq_true', Bool.not_eq_false', peta, ncast, Int.ofNat_eq_natCast, beq_iff_eq, bne_iff_ne, beq_eq_false_iff_ne, bne_eq_false_iff_eq, ne_eq, Classical.not_not, Int.toNat_natCast, vrow_I, Arm.eta2, Fld.eta, Grp.eta] at h1 ⊢
        obtain rfl : i = s.length := by omega
        refine List.ext_getElem hl fun j h1 h2 => ?_
        have := hj j h1
        simpa [List.getD_eq_getElem?_getD, h1, h2] using this
noncomputable def e_rIntsX : Entry := pureE 10 fun H a => match a with
  | [.vec 1 sn sf, .vec 1 tn tf] => some (.lit (.bool (H Bool fun _ => decide ((Tl rowI sn sf) = (Tl rowI tn tf)))), [H Prop fun _ => Shp rowI sn sf, H Prop fun _ => Shp rowI tn tf, H Prop fun _ => (Tl rowI sn sf).length ≤ 2000000])
  | _ => none
theorem eok_rIntsX : EntryOk Tryz.prog e_rIntsX := pureM_ok (by unfold isBody; kernel_rfl) (by
  intro a r ob e hob
  split at e
  · rename_i sn sf tn tf
    simp only [Option.some.injEq, Prod.mk.injEq] at e
    obtain ⟨rfl, rfl⟩ := e
    exact ConN.args (.cons (.toT okI rfl hob.1) (.cons (.toT okI rfl hob.2.1) .nil)) (c_rIntsX (Tl rowI sn sf) (Tl rowI tn tf) hob.2.2.1)
  · simp at e)
def enc_rBigX (H : Hold) (y : Unit → Bool) : AV := .lit (.bool (H Bool fun _ => ((y ()))))
theorem x_rBigX (c : Cd) : ∃ y : Bool, Con Tryz.prog 5 [codeAV c] [] (enc_rBigX stdH fun _ => y) [] ∧ Bl 0 (enc_rBigX stdH fun _ => y) ∧ (fun _ => True) y := by
  have hB : Base Tryz.prog (tabΓ []) tab := base_of tabOk (ents_nil)
  refine df_ok (N := 6) hB (draw_ok hB mixed) Tryz.func5 rfl rfl _ _ _ 50 (by simp) ?_
  intro H hH
  conv in finish _ _ _ _ _ _ _ _ => cbv
  subst hH
  simp only [Fin.sat0, Fin.sat1, stdH, Option.some.injEq, AV.lit.injEq, AV.agg.injEq, AV.tup.injEq, List.cons.injEq, Value.bool.injEq, Value.int.injEq, AllP, and_true, true_and, eq_self, decide_eq_true_eq, decide_eq_false_iff_not, Bool.not_eq_true', Bool.not_eq_false', peta, ncast]
  exact ⟨_, .refl, .lit⟩
noncomputable def F_rBigX (c : Cd) : Bool := dfw Tryz.prog 5 enc_rBigX (fun _ => True) c
noncomputable def e_rBigX (c : Cd) : Entry := codeE 5 c fun H => enc_rBigX H fun _ => F_rBigX c
theorem eok_rBigX (c : Cd) : EntryOk Tryz.prog (e_rBigX c) := codeE_ok (by unfold isBody; kernel_rfl) (dfw_spec (x_rBigX c)).1
end Go.Proofs.YtcjjffmbhionmaaGreatDoor.AM

