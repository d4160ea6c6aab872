/- Lemmas and contracts (ALIndexLines); conditions: none. -/
import Derived.Test.YtcjjffmbhionmaaGreatDoorK03
import Derived.Test.YtcjjffmbhionmaaGreatDoorK40
import Derived.Test.YtcjjffmbhionmaaGreatDoorK43
import Derived.Test.YtcjjffmbhionmaaGreatDoorK44
import Derived.Test.YtcjjffmbhionmaaGreatDoorK45
set_option linter.unusedVariables false
set_option linter.unusedSimpArgs false
set_option maxRecDepth 100000
set_option maxHeartbeats 4000000
set_option cbv.maxSteps 3000000
namespace Go.Proofs.YtcjjffmbhionmaaGreatDoor.AM
/- The law FnIndexLines holds; conditions: none. -/
def ixA (l : List Grt) : List Ixl := if okRg l = true then bxL l allF.length else []
theorem ixA_len (l : List Grt) : (ixA l).length ≤ 78 := by
  unfold ixA
  split
  · exact bxL_len l _
  · exact Nat.zero_le _
theorem ixA_at {l : List Grt} {i : Nat} (h : i < (ixA l).length) : okRg l = true ∧ isF ((ixA l).getD i default).ft = true ∧ ((ixA l).getD i default).ns = nmb (luE [((ixA l).getD i default).ft]) l l.length := by
  have hm : (ixA l).getD i default ∈ ixA l := by
    rw [List.getD_eq_getElem?_getD, List.getElem?_eq_getElem h, Option.getD_some]
    exact List.getElem_mem h
  generalize (ixA l).getD i default = x at hm
  unfold ixA at hm
  split at hm
  · rename_i hk
    unfold bxL at hm
    rw [List.take_length, List.mem_filter, List.mem_map] at hm
    obtain ⟨⟨s, hs, rfl⟩, _⟩ := hm
    exact ⟨hk, mem_allF.1 hs, rfl⟩
  · cases hm
theorem okFl_one {s : ByteArray} (h : isF s = true) : okFl [s] = true := by
  unfold okFl okFi
  simp [h]
theorem law_IndexLines (c : Cd) : Con Tryz.prog 3 [codeAV c] [] (.lit (.bool true)) [] := by
  have hB : Base Tryz.prog (tabΓ [e_rBigX c, e_DrawBuildIndex c, e_buildI, e_buildIS, e_lookUp, e_isFeat, e_rIntsX, e_DrawFeaturesOf c, e_featOf, e_featOfS, e_rTexts, e_DrawIsFeature c, e_isFeatS]) tab := base_of tabOk (ents_cons (eok_rBigX c) <| ents_cons (eok_DrawBuildIndex c) <| ents_cons eok_buildI <| ents_cons eok_buildIS <| ents_cons eok_lookUp <| ents_cons eok_isFeat <| ents_cons eok_rIntsX <| ents_cons (eok_DrawFeaturesOf c) <| ents_cons eok_featOf <| ents_cons eok_featOfS <| ents_cons eok_rTexts <| ents_cons (eok_DrawIsFeature c) <| ents_cons eok_isFeatS <| ents_nil)
  refine ConN.con (n := 0) (con_m (N := 134) hB (draw_ok hB mixed) Tryz.func3 rfl rfl (fun _ => [codeAV c]) (fun _ => []) 0 (fun H => .lit (.bool (H Bool fun _ => true))) (fun _ => []) (fun _ => []) 600 (by simp) (codeAV_bl c) (by simp [lk]) (by omega) (by simp) ?_)
  intro X hX hX0 H hH
  conv in Fin.chk _ _ => cbv
  try simp only [Plain_rowsA, Plain_rowsB, Plain_rowsC, Plain_rowsD, Plain_rowsF, Plain_rowsG, Plain_rowsI, Plain_rowsS, Plain_rowsU, Plain_rowsW, Fin.satC_ret, Fin.satC_br, Fin.satC_need, Fin.satC_again, AllP, and_true, true_and, upd, List.length_nil, List.length_cons, Nat.zero_add, if_true, ncast, Int.ofNat_eq_natCast]
  simp only [hetaA hH, TlW_H hH]
  have hd := p_DrawBuildIndex c
  have hs := p_DrawIsFeature c
  simp only at hd hs
  generalize F_DrawBuildIndex c = l at *
  obtain ⟨d1, d2⟩ := hd
  have hX1 : (if okRg l = true then bxL l allF.length else []) = ixA l := rfl
  have hl := ixA_len l
  have hn : Nsz l := ⟨fun g hg => Nat.le_trans (d2 g hg) (by decide)⟩
  simp only [hX1]
  refine ⟨(by rw [hH]; trivial), fun _ => ?_, fun _ => ⟨(by rw [hH]; trivial), ⟨?_, ?_, ?_⟩, ⟨?_, ?_, ?_⟩, fun h1 => ?_, fun h1 => ?_⟩⟩
  · try simp only [hH, stdH, Nat.le_refl, decide_eq_true_eq, decide_eq_false_iff_not, Bool.not_eq_true', Bool.not_eq_false', peta, ncast, Int.ofNat_eq_natCast, beq_iff_eq, bne_iff_ne, beq_eq_false_iff_ne, bne_eq_false_iff_eq, ne_eq, Classical.not_not, Int.toNat_natCast, vrow_I, Arm.eta2, Fld.eta, Grp.eta]
  · try simp only [hH, stdH, Nat.le_refl, decide_eq_true_eq, decide_eq_false_iff_not, Bool.not_eq_true', Bool.not_eq_false', peta, ncast, Int.ofNat_eq_natCast, beq_iff_eq, bne_iff_ne, beq_eq_false_iff_ne, bne_eq_false_iff_eq, ne_eq, Classical.not_not, Int.toNat_natCast, vrow_I, Arm.eta2, Fld.eta, Grp.eta]
    exact Shp_W _ _
  · try simp only [hH, stdH, Nat.le_refl, decide_eq_true_eq, decide_eq_false_iff_not, Bool.not_eq_true', Bool.not_eq_false', peta, ncast, Int.ofNat_eq_natCast, beq_iff_eq, bne_iff_ne, beq_eq_false_iff_ne, bne_eq_false_iff_eq, ne_eq, Classical.not_not, Int.toNat_natCast, vrow_I, Arm.eta2, Fld.eta, Grp.eta]
    omega
  · try simp only [hH, stdH, Nat.le_refl, decide_eq_true_eq, decide_eq_false_iff_not, Bool.not_eq_true', Bool.not_eq_false', peta, ncast, Int.ofNat_eq_natCast, beq_iff_eq, bne_iff_ne, beq_eq_false_iff_ne, bne_eq_false_iff_eq, ne_eq, Classical.not_not, Int.toNat_natCast, vrow_I, Arm.eta2, Fld.eta, Grp.eta]
    exact hn
  · try simp only [hH, stdH, Nat.le_refl, decide_eq_true_eq, decide_eq_false_iff_not, Bool.not_eq_true', Bool.not_eq_false', peta, ncast, Int.ofNat_eq_natCast, beq_iff_eq, bne_iff_ne, beq_eq_false_iff_ne, bne_eq_false_iff_eq, ne_eq, Classical.not_not, Int.toNat_natCast, vrow_I, Arm.eta2, Fld.eta, Grp.eta]
    exact Shp_W _ _
  · try simp only [hH, stdH, Nat.le_refl, decide_eq_true_eq, decide_eq_false_iff_not, Bool.not_eq_true', Bool.not_eq_false', peta, ncast, Int.ofNat_eq_natCast, beq_iff_eq, bne_iff_ne, beq_eq_false_iff_ne, bne_eq_false_iff_eq, ne_eq, Classical.not_not, Int.toNat_natCast, vrow_I, Arm.eta2, Fld.eta, Grp.eta]
    omega
  · try simp only [hH, stdH, Nat.le_refl, decide_eq_true_eq, decide_eq_false_iff_not, Bool.not_eq_true', Bool.not_eq_false', peta, ncast, Int.ofNat_eq_natCast, beq_iff_eq, bne_iff_ne, beq_eq_false_iff_ne, bne_eq_false_iff_eq, ne_eq, Classical.not_not, Int.toNat_natCast, vrow_I, Arm.eta2, Fld.eta, Grp.eta]
    exact hn
  · simp only [hH, stdH, Int.toNat_natCast] at h1
    simp at h1
  · clear h1
    refine loop_a hB (draw_ok hB mixed) hX hX0 hH false (ι := { k : Nat // k ≤ (ixA l).length }) 600 (fun k => [.i (H Int fun _ => (k.1 : Nat))]) (fun k => (ixA l).length - k.1) (⟨0, Nat.zero_le _⟩) ?_ ?_
    · (conv in matchSt _ _ _ _ => cbv); simp only [AllG, AllP, and_true, hH, stdH, Nat.le_refl, ncast, Int.ofNat_eq_natCast, vrow_I, Arm.eta2, Fld.eta, Grp.eta]
      all_goals (repeat' (with_reducible refine And.intro ?_ ?_)) <;> (first | exact Eq.refl _ | exact True.intro | exact Nat.le_refl _ | exact RowsEq.self okRW | exact RowsEq.ofT okRW rfl (Shp_zero _) rfl | exact RowsEq.snoc okRW rfl | exact RowsEq.self okRX | exact RowsEq.ofT okRX rfl (Shp_zero _) rfl | exact RowsEq.snoc okRX rfl | exact List.length_append | exact c.rqN)
    · intro I hI k
      conv in Fin.chk _ _ => cbv
      try simp only [Plain_rowsA, Plain_rowsB, Plain_rowsC, Plain_rowsD, Plain_rowsF, Plain_rowsG, Plain_rowsI, Plain_rowsS, Plain_rowsU, Plain_rowsW, Fin.satC_ret, Fin.satC_br, Fin.satC_need, Fin.satC_again, AllP, and_true, true_and, upd, List.length_nil, List.length_cons, Nat.zero_add, if_true, ncast, Int.ofNat_eq_natCast]
      obtain ⟨k, hk⟩ := k
      simp only [hetaA hH, TlW_H hH]
      refine ⟨fun h1 => ?_, fun h1 => ?_⟩
      · simp only [hH, stdH, Nat.le_refl, decide_eq_true_eq, decide_eq_false_iff_not, Bool.not_eq_true', Bool.not_eq_false', peta, ncast, Int.ofNat_eq_natCast, beq_iff_eq, bne_iff_ne, beq_eq_false_iff_ne, bne_eq_false_iff_eq, ne_eq, Classical.not_not, Int.toNat_natCast, vrow_I, Arm.eta2, Fld.eta, Grp.eta] at h1
        have hk2 : k < (ixA l).length := by omega
        obtain ⟨f1, f2, f3⟩ := ixA_at hk2
        have f4 := okFl_one f2
        have f5 := nmb_le (luE [((ixA l).getD k default).ft]) l l.length
        have f6 : ((ixA l).getD k default).ns.length ≤ l.length := by rw [f3]; exact f5
        have e1 : ∀ x, Tl rowS 1 (rowsS stdH fun _ => [x]) = [x] := fun x => Tl_rowsT okS [x]
        (repeat' (first | with_reducible refine And.intro ?_ ?_ | intro h9))
        all_goals first
          | (refine ⟨⟨k + 1, by omega⟩, by simp only; omega, ?_⟩
             rw [hI]
             (conv in matchSt _ _ _ _ => cbv); simp only [AllG, AllP, and_true, hH, stdH, Nat.le_refl, ncast, Int.ofNat_eq_natCast, vrow_I, Arm.eta2, Fld.eta, Grp.eta]
             rw [w1 (by omega)]
             all_goals (repeat' (with_reducible refine And.intro ?_ ?_)) <;> (first | exact Eq.refl _ | exact True.intro | exact Nat.le_refl _ | exact RowsEq.self okRW | exact RowsEq.ofT okRW rfl (Shp_zero _) rfl | exact RowsEq.snoc okRW rfl | exact RowsEq.self okRX | exact RowsEq.ofT okRX rfl (Shp_zero _) rfl | exact RowsEq.snoc okRX rfl | exact List.length_append | exact c.rqN))
          | (simp only [hH, stdH, Int.toNat_natCast, e1, f1, f4, Bool.and_self, if_true, Tl_I]
             first | exact Shp_W _ _ | exact Shp_rowsT okS 1 (fun _ => [_]) | exact fun _ => Shp_I _ _ | exact Shp_I _ _ | (intro _; omega) | exact ⟨by omega, by omega⟩ | omega | exact hn | (simp only [List.length_cons, List.length_nil]; omega))
          | (exfalso
             simp only [hH, stdH, Int.toNat_natCast, e1, f1, f4, f2, f3, Bool.and_self, if_true, Tl_I] at h9
             simp at h9)
      · have q : ∀ a, (foL a).length ≤ 12 := fun a => by
          cases h : okA a with
          | true => rw [foL_y h]; exact ftP_len a
          | false => rw [foL_n h]; exact Nat.zero_le _
        have q2 := q (F_DrawFeaturesOf c)
        (repeat' (first | with_reducible refine And.intro ?_ ?_ | intro h9))
        all_goals first
          | (simp only [hH, stdH]; done)
          | (simp only [hH, stdH, TlS']
             first | exact fun _ => Shp_rowsT okS _ (fun _ => _) | omega | (intro _; omega) | (simp; done))
          | (exfalso
             simp only [hH, stdH] at h9
             simp at h9)

end Go.Proofs.YtcjjffmbhionmaaGreatDoor.AM

