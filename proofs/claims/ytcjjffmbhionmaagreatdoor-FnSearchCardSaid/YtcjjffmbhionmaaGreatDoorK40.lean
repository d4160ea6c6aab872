/- Lemmas and contracts (Rtx ALSearch Open Up M1 Data Brg LSearch); conditions: none. -/
import Derived.Test.YtcjjffmbhionmaaGreatDoorK03
import Derived.Test.YtcjjffmbhionmaaGreatDoorK04
import Derived.Test.YtcjjffmbhionmaaGreatDoorK09
import Derived.Test.YtcjjffmbhionmaaGreatDoorK12
import Derived.Test.YtcjjffmbhionmaaGreatDoorK13
import Derived.Test.YtcjjffmbhionmaaGreatDoorK17
import Derived.Test.YtcjjffmbhionmaaGreatDoorK35
import Derived.Test.YtcjjffmbhionmaaGreatDoorK39
import Derived.OpenShut
import Derived.WalkKit
import Derived.ProofKit
import Derived.WalkLawsBesides
import Derived.Lib.Hide
import Derived.Deep.QuietTactic
import Derived.BigQuiet
import Derived.Deep.Light
import Derived.Handy
import Derived.ChangeOld
import Derived.ShutString
import Derived.Deep.Slices
import Derived.Deep.MidRow
import Derived.Below
import Derived.Laws.CopyOwn
set_option linter.unusedVariables false
set_option linter.unusedSimpArgs false
set_option maxRecDepth 100000
set_option maxHeartbeats 4000000
set_option cbv.maxSteps 3000000
namespace Go.Proofs.YtcjjffmbhionmaaGreatDoor.AM
/- Lists of texts compared; conditions: none. -/
theorem c_rTexts (a : List ByteArray) (b : List ByteArray) (h0 : a.length ≤ 100000000) : ConN Tryz.prog 15 [.vec 1 (stdH Nat fun _ => (a).length) (rowsS stdH fun _ => a), .vec 1 (stdH Nat fun _ => (b).length) (rowsS stdH fun _ => b)] [] 0 (.lit (.bool (stdH Bool fun _ => decide (a = b)))) [] [] := by
  have hB : Base Tryz.prog (tabΓ []) tab := base_of tabOk (ents_nil)
  refine con_m (N := 26) hB (draw_ok hB mixed) Tryz.func15 rfl rfl (fun H => [.vec 1 (H Nat fun _ => (a).length) (rowsS H fun _ => a), .vec 1 (H Nat fun _ => (b).length) (rowsS H fun _ => b)]) (fun _ => []) 0 (fun H => .lit (.bool (H Bool fun _ => decide (a = b)))) (fun H => []) (fun _ => []) 100 (by simp) (fun x hx => ?_) (by simp [lk]) (by omega) (by simp) ?_
  · simp only [zqu] at hx
    rcases hx with rfl | rfl
    · exact vl_bl okS a _
    · exact vl_bl okS b _
  intro X hX hX0 H hH
  conv in Fin.chk _ _ => cbv
  try simp only [zqs, Plain_rowsC, zqx, AllP, zqw, upd, if_true]
  refine ⟨fun h => ?_, fun h => ?_⟩
  · simp only [hH, stdH, zqz, ne_eq, zqy] at h ⊢
    rintro rfl; exact h rfl
  simp only [hH, stdH, zqz, ne_eq, zqy] at h
  refine loop_a hB (draw_ok hB mixed) hX hX0 hH false (ι := { i : Nat // i ≤ a.length ∧ ∀ j, j < i → a.getD j ByteArray.empty = b.getD j ByteArray.empty }) 100 (fun i => [.i (H Int fun _ => (i.1 : Nat))]) (fun i => a.length - i.1) (⟨0, by omega, by omega⟩) ?_ ?_
  · (conv in matchSt _ _ _ _ => cbv); simp only [AllG, AllP, and_true, hH, stdH, zql, ncast, zqe, zqy]
    (repeat' (first | with_reducible exact True.intro | rfl | exact Nat.le_refl _ | exact RowsEq.self okS | exact RowsEq.ofT okS rfl (Shp_zero _) rfl | exact RowsEq.snoc okS rfl | exact RowsEq.more okS (Shp_S _ _) (Tl_S _) | exact RowsEq.self okI | exact RowsEq.self okRA | exact List.length_append | refine And.intro ?_ ?_ | trivial))
  · intro I hI i
    conv in Fin.chk _ _ => cbv
    try simp only [zqs, Plain_rowsC, zqx, AllP, zqw, upd, if_true]
    obtain ⟨i, hi, hj⟩ := i
    refine ⟨fun h1 => ⟨?_, ?_, fun h2 => ?_, fun h2 => ?_⟩, fun h1 => ?_⟩
    · simp only [hH, stdH, zqz, ne_eq, zqy] at h1 ⊢
      omega
    · simp only [hH, stdH, zqz, ne_eq, zqy] at h1 ⊢
      omega
    · simp only [hH, stdH, Int.toNat_natCast, beqT, Bool.not_eq_true', decide_eq_false_iff_not] at h2 ⊢
      rintro rfl; exact h2 rfl
    · simp only [hH, stdH, zqz, ne_eq, zqy] at h1
      simp only [hH, stdH, Int.toNat_natCast, beqT, Bool.not_eq_false', decide_eq_true_eq] at h2
      refine ⟨⟨i + 1, by omega, fun j hj' => ?_⟩, by simp only; omega, ?_⟩
      · rcases Nat.lt_succ_iff_lt_or_eq.1 hj' with h | rfl
        · exact hj j h
        · exact h2
      · rw [hI]
        (conv in matchSt _ _ _ _ => cbv); simp only [AllG, AllP, and_true, hH, stdH, zql, ncast, zqe, zqy]
        rw [w1 (by omega)]
        (repeat' (first | with_reducible exact True.intro | rfl | exact Nat.le_refl _ | exact RowsEq.self okS | exact RowsEq.ofT okS rfl (Shp_zero _) rfl | exact RowsEq.snoc okS rfl | exact RowsEq.more okS (Shp_S _ _) (Tl_S _) | exact RowsEq.self okI | exact RowsEq.self okRA | exact List.length_append | refine And.intro ?_ ?_ | trivial))
    · simp only [hH, stdH, zqz, ne_eq, zqy] at h1 ⊢
      obtain rfl : i = a.length := by omega
      exact list_extS (by omega) hj
noncomputable def e_rTexts : Entry := pureE 15 fun H a => match a with
  | [.vec 1 an af, .vec 1 bn bf] => some (.lit (.bool (H Bool fun _ => decide ((Tl rowS an af) = (Tl rowS bn bf)))), [H Prop fun _ => Shp rowS an af, H Prop fun _ => Shp rowS bn bf, H Prop fun _ => (Tl rowS an af).length ≤ 100000000])
  | _ => none
theorem eok_rTexts : EntryOk Tryz.prog e_rTexts := pureM_ok (by unfold isBody; kernel_rfl) (by
  intro a r ob e hob
  split at e
  · rename_i an af bn bf
    simp only [zqt] at e
    obtain ⟨rfl, rfl⟩ := e
    exact ConN.args (.cons (.toT okS rfl hob.1) (.cons (.toT okS rfl hob.2.1) .nil)) (c_rTexts (Tl rowS an af) (Tl rowS bn bf) hob.2.2.1)
  · simp at e)
theorem c_rIntsX (s : List Int) (t : List Int) (h0 : s.length ≤ 2000000) : ConN Tryz.prog 10 [.vec 1 (stdH Nat fun _ => (s).length) (rowsI stdH fun _ => s), .vec 1 (stdH Nat fun _ => (t).length) (rowsI stdH fun _ => t)] [] 0 (.lit (.bool (stdH Bool fun _ => decide (s = t)))) [] [] := by
  have hB : Base Tryz.prog (tabΓ []) tab := base_of tabOk (ents_nil)
  refine con_m (N := 26) hB (draw_ok hB mixed) Tryz.func10 rfl rfl (fun H => [.vec 1 (H Nat fun _ => (s).length) (rowsI H fun _ => s), .vec 1 (H Nat fun _ => (t).length) (rowsI H fun _ => t)]) (fun _ => []) 0 (fun H => .lit (.bool (H Bool fun _ => decide (s = t)))) (fun H => []) (fun _ => []) 100 (by simp) (fun x hx => ?_) (by simp [lk]) (by omega) (by simp) ?_
  · simp only [zqu] at hx
    rcases hx with rfl | rfl
    · exact vl_bl okI s _
    · exact vl_bl okI t _
  intro X hX hX0 H hH
  conv in Fin.chk _ _ => cbv
  try simp only [zqs, Plain_rowsC, zqx, AllP, zqw, upd, if_true]
  refine ⟨fun h => ?_, fun h => ?_⟩
  · simp only [hH, stdH, zqz, ne_eq, zqy] at h
    try simp only [hH, stdH, zqz, ne_eq, zqy]
    intro e
    exact h (by rw [e])
  · simp only [hH, stdH, zqz, ne_eq, zqy] at h
    have hl : s.length = t.length := by omega
    refine loop_a hB (draw_ok hB mixed) hX hX0 hH false (ι := { i : Nat // i ≤ s.length ∧ ∀ j, j < i → s.getD j 0 = t.getD j 0 }) 100 (fun i => [.i (H Int fun _ => (i.1 : Nat))]) (fun i => s.length - i.1) (⟨0, by omega, by omega⟩) ?_ ?_
    · (conv in matchSt _ _ _ _ => cbv); simp only [AllG, AllP, and_true, hH, stdH, zql, ncast, zqe, zqy]
      (repeat' (first | with_reducible exact True.intro | rfl | exact Nat.le_refl _ | exact RowsEq.self okI | exact RowsEq.ofT okI rfl (Shp_zero _) rfl | exact RowsEq.snoc okI rfl | exact RowsEq.more okI (Shp_I _ _) (Tl_I _) | exact RowsEq.self okI | exact RowsEq.self okRA | exact List.length_append | refine And.intro ?_ ?_ | trivial))
    · intro I hI i
      conv in Fin.chk _ _ => cbv
      try simp only [zqs, Plain_rowsC, zqx, AllP, zqw, upd, if_true]
      obtain ⟨i, hi, hj⟩ := i
      refine ⟨fun h1 => ⟨?_, ?_, fun h2 => ?_, fun h2 => ?_⟩, fun h1 => ?_⟩
      · simp only [hH, stdH, zqz, ne_eq, zqy] at h1 ⊢
        omega
      · simp only [hH, stdH, zqz, ne_eq, zqy] at h1 ⊢
        omega
      · simp only [hH, stdH, zqz, ne_eq, zqy] at h2
        try simp only [hH, stdH, zqz, ne_eq, zqy]
        intro e
        exact h2 (by rw [e])
      · simp only [hH, stdH, zqz, ne_eq, zqy] at h1
        simp only [hH, stdH, zqz, ne_eq, zqy] at h2
        refine ⟨⟨i + 1, by omega, fun j hj' => ?_⟩, by simp only; omega, ?_⟩
        · rcases Nat.lt_succ_iff_lt_or_eq.1 hj' with h | rfl
          · exact hj j h
          · exact h2
        · rw [hI]
          (conv in matchSt _ _ _ _ => cbv); simp only [AllG, AllP, and_true, hH, stdH, zql, ncast, zqe, zqy]
          rw [w1 (by omega)]
          (repeat' (first | with_reducible exact True.intro | rfl | exact Nat.le_refl _ | exact RowsEq.self okI | exact RowsEq.ofT okI rfl (Shp_zero _) rfl | exact RowsEq.snoc okI rfl | exact RowsEq.more okI (Shp_I _ _) (Tl_I _) | exact RowsEq.self okI | exact RowsEq.self okRA | exact List.length_append | refine And.intro ?_ ?_ | trivial))
      · simp only [hH, stdH, zqz, ne_eq, zqy] at h1 ⊢
        obtain rfl : i = s.length := by omega
        refine List.ext_getElem hl fun j h1 h2 => ?_
        have := hj j h1
        simpa [List.getD_eq_getElem?_getD, h1, h2] using this
noncomputable def e_rIntsX : Entry := pureE 10 fun H a => match a with
  | [.vec 1 sn sf, .vec 1 tn tf] => some (.lit (.bool (H Bool fun _ => decide ((Tl rowI sn sf) = (Tl rowI tn tf)))), [H Prop fun _ => Shp rowI sn sf, H Prop fun _ => Shp rowI tn tf, H Prop fun _ => (Tl rowI sn sf).length ≤ 2000000])
  | _ => none
theorem eok_rIntsX : EntryOk Tryz.prog e_rIntsX := pureM_ok (by unfold isBody; kernel_rfl) (by
  intro a r ob e hob
  split at e
  · rename_i sn sf tn tf
    simp only [zqt] at e
    obtain ⟨rfl, rfl⟩ := e
    exact ConN.args (.cons (.toT okI rfl hob.1) (.cons (.toT okI rfl hob.2.1) .nil)) (c_rIntsX (Tl rowI sn sf) (Tl rowI tn tf) hob.2.2.1)
  · simp at e)
def enc_rBigX (H : Hold) (y : Unit → Bool) : AV := .lit (.bool (H Bool fun _ => ((y ()))))
theorem x_rBigX (c : Cd) : ∃ y : Bool, Con Tryz.prog 5 [codeAV c] [] (enc_rBigX stdH fun _ => y) [] ∧ Bl 0 (enc_rBigX stdH fun _ => y) ∧ (fun _ => True) y := by
  have hB : Base Tryz.prog (tabΓ []) tab := base_of tabOk (ents_nil)
  refine df_ok (N := 6) hB (draw_ok hB mixed) Tryz.func5 rfl rfl _ _ _ 50 (by simp) ?_
  intro H hH
  conv in finish _ _ _ _ _ _ _ _ => cbv
  subst hH
  simp only [Fin.sat0, Fin.sat1, stdH, Option.some.injEq, AV.lit.injEq, AV.agg.injEq, AV.tup.injEq, List.cons.injEq, Value.bool.injEq, Value.int.injEq, AllP, and_true, true_and, eq_self, zqa, zqb, zqc, zqd, peta, ncast]
  exact ⟨_, .refl, .lit⟩
noncomputable def F_rBigX (c : Cd) : Bool := dfw Tryz.prog 5 enc_rBigX (fun _ => True) c
noncomputable def e_rBigX (c : Cd) : Entry := codeE 5 c fun H => enc_rBigX H fun _ => F_rBigX c
theorem eok_rBigX (c : Cd) : EntryOk Tryz.prog (e_rBigX c) := codeE_ok (by unfold isBody; kernel_rfl) (dfw_spec (x_rBigX c)).1
end Go.Proofs.YtcjjffmbhionmaaGreatDoor.AM

set_option maxRecDepth 100000
set_option maxHeartbeats 4000000
set_option cbv.maxSteps 3000000
namespace Go.Proofs.YtcjjffmbhionmaaGreatDoor.AM
/- The law FnSearch holds; conditions: none. -/
theorem okFl_1 {s : ByteArray} (h : isF s = true) : okFl [s] = true := by
  unfold okFl okFi
  simp [h]
theorem law_Search (c : Cd) : Con Tryz.prog 4 [codeAV c] [] (.lit (.bool true)) [] := by
  have hB : Base Tryz.prog (tabΓ [e_rBigX c, e_DrawSearchAny c, e_searchI, e_searchS, e_rIntsX, e_lookUp, e_rHas, e_rarI, e_rarS, e_DrawMissingFeatures c, e_missI, e_missS, e_rTexts, e_DrawSimilarGrants c, e_simI, e_simS]) tab := base_of tabOk (ents_cons (eok_rBigX c) <| ents_cons (eok_DrawSearchAny c) <| ents_cons eok_searchI <| ents_cons eok_searchS <| ents_cons eok_rIntsX <| ents_cons eok_lookUp <| ents_cons eok_rHas <| ents_cons eok_rarI <| ents_cons eok_rarS <| ents_cons (eok_DrawMissingFeatures c) <| ents_cons eok_missI <| ents_cons eok_missS <| ents_cons eok_rTexts <| ents_cons (eok_DrawSimilarGrants c) <| ents_cons eok_simI <| ents_cons eok_simS <| ents_nil)
  refine ConN.con (n := 0) (con_m (N := 233) hB (draw_ok hB mixed) Tryz.func4 rfl rfl (fun _ => [codeAV c]) (fun _ => []) 0 (fun H => .lit (.bool (H Bool fun _ => true))) (fun _ => []) (fun _ => []) 600 (by simp) (codeAV_bl c) (by simp [lk]) (by omega) (by simp) ?_)
  intro X hX hX0 H hH
  conv in Fin.chk _ _ => cbv
  try simp only [zqs, Plain_rowsC, Plain_rowsD, Plain_rowsW, zqx, AllP, zqw, upd, if_true]
  have hd := p_DrawSearchAny c
  have hm := p_DrawMissingFeatures c
  have hs := p_DrawSimilarGrants c
  generalize F_DrawSearchAny c = y1 at *
  obtain ⟨gs, f⟩ := y1
  simp only at hd hm hs
  obtain ⟨⟨hl, hg⟩, hf, hz0⟩ := hd
  have hn : Nsz gs := ⟨fun g h => Nat.le_trans (hg g h) (by decide)⟩
  have hz : Sz 2000000 f := ⟨fun s h => Nat.le_trans (hz0.le s h) (by decide)⟩
  have x0 : (okRg gs && okFl f) = okLu gs f := rfl
  have x1 : (if okLu gs f = true then saN f gs else []) = srN gs f := rfl
  have x2 : (if okLu gs f = true then saK f gs else []) = srK gs f := rfl
  have x3 : (if okLu gs f = true then nmb (luE f) gs gs.length else []) = luL gs f := rfl
  obtain ⟨q1, q2, q3⟩ := sr_len gs f
  simp only [hetaA hH, TlW_H hH, TlSg_H hH, x0, x1, x2, x3, TlIg_H hH]
  refine ⟨(by rw [hH]; trivial), fun _ => ?_, fun _ => ?_⟩
  · try simp only [hH, stdH, zqz, ne_eq, zqy]
  (repeat' (with_reducible refine And.intro ?_ ?_))
  all_goals first
    | (simp only [hH, stdH, TlS', Tl_W, Tl_I]; done)
    | (simp only [hH, stdH, TlS', Tl_W, Tl_I]
       first | exact Shp_W _ _ | exact Shp_rowsT okS _ (fun _ => _) | exact Shp_I _ _ | exact hn | exact hz | omega | exact fun _ => Shp_I _ _ | exact fun _ => Shp_rowsT okS _ (fun _ => _) | exact fun _ => by omega)
    | (intro h9
       exfalso
       simp only [hH, stdH] at h9
       simp at h9
       done)
    | skip
  intro _
  (repeat' (with_reducible refine And.intro ?_ ?_))
  all_goals first
    | (simp only [hH, stdH, TlS', Tl_W, Tl_I]; done)
    | (simp only [hH, stdH, TlS', Tl_W, Tl_I]
       first | exact Shp_W _ _ | exact Shp_rowsT okS _ (fun _ => _) | exact Shp_I _ _ | exact hn | exact hz | omega | exact fun _ => Shp_I _ _ | exact fun _ => Shp_rowsT okS _ (fun _ => _) | exact fun _ => by omega)
    | (intro h9
       exfalso
       simp only [hH, stdH] at h9
       simp at h9
       done)
    | skip
  intro _
  refine loop_a hB (draw_ok hB mixed) hX hX0 hH false (ι := { k : Nat // k ≤ (srN gs f).length }) 600 (fun k => [.i (H Int fun _ => (k.1 : Nat))]) (fun k => (srN gs f).length - k.1) (⟨0, Nat.zero_le _⟩) ?_ ?_
  · (conv in matchSt _ _ _ _ => cbv); simp only [AllG, AllP, and_true, hH, stdH, zql, ncast, zqe, zqy]
    (repeat' (with_reducible refine And.intro ?_ ?_)) <;> (first | exact Eq.refl _ | exact True.intro | exact RowsEq.self okRW | exact RowsEq.self okS | exact RowsEq.self okI | exact c.rqN)
  · intro I hI k
    conv in Fin.chk _ _ => cbv
    try simp only [zqs, Plain_rowsC, Plain_rowsD, Plain_rowsW, zqx, AllP, zqw, upd, if_true]
    obtain ⟨k, hk⟩ := k
    generalize F_DrawMissingFeatures c = y2 at *
    generalize F_DrawSimilarGrants c = y3 at *
    obtain ⟨am, fm⟩ := y2
    obtain ⟨g3, a3, n3⟩ := y3
    simp only at hm hs
    obtain ⟨hfm, hzm0⟩ := hm
    obtain ⟨hl3, hg3⟩ := hs
    have hn3 : Nsz g3 := ⟨fun g h => Nat.le_trans (hg3 g h) (by decide)⟩
    have hzm : Sz 2000000 fm := ⟨fun s h => Nat.le_trans (hzm0.le s h) (by decide)⟩
    simp only [hetaA hH, TlW_H hH, TlSg_H hH, x0, x1, x2, x3, TlIg_H hH]
    refine ⟨fun k1 => ?_, fun k1 => ?_⟩
    · simp only [hH, stdH, zqz, ne_eq, zqy] at k1
      obtain ⟨s1, s2, s3⟩ := sr_at (by omega : k < (srN gs f).length)
      have c1 : (((srK gs f).getD k 0 == ((f.length : Nat) : Int)) == List.elem ((srN gs f).getD k 0) (luL gs f)) = true := beq_iff_eq.2 s1
      have c2 : decide ((srK gs f).getD k 0 < 1) = false := decide_eq_false (by omega)
      have c3 : (bif decide ((0 : Int) < (k : Nat)) then decide ((srK gs f).getD (IntKind.i64.wrap (((k : Nat) : Int) - 1)).toNat 0 < (srK gs f).getD k 0) else false) = false := by
        by_cases h0 : 0 < k
        · have e : (IntKind.i64.wrap (((k : Nat) : Int) - 1)).toNat = k - 1 := by rw [wi (by omega) (by omega)]; omega
          rw [decide_eq_true (show (0 : Int) < (k : Nat) by omega), cond_true, e]
          have := s3 h0
          exact decide_eq_false (by omega)
        · rw [decide_eq_false (show ¬ (0 : Int) < (k : Nat) by omega), cond_false]
      (repeat' (first | with_reducible refine And.intro ?_ ?_ | intro h9))
      all_goals first
        | (refine ⟨⟨k + 1, by omega⟩, by simp only; omega, ?_⟩
           rw [hI]
           (conv in matchSt _ _ _ _ => cbv); simp only [AllG, AllP, and_true, hH, stdH, zql, ncast, zqe, zqy]
           rw [w1 (by omega)]
           (repeat' (with_reducible refine And.intro ?_ ?_)) <;> (first | exact Eq.refl _ | exact True.intro | exact RowsEq.self okRW | exact RowsEq.self okS | exact RowsEq.self okI | exact c.rqN))
        | (simp only [hH, stdH, Int.toNat_natCast]; done)
        | (simp only [hH, stdH, Int.toNat_natCast]
           first | exact Shp_I _ _ | omega | exact ⟨by omega, by omega⟩)
        | (simp only [hH, stdH, Int.toNat_natCast, decide_eq_true_eq]
           intro h
           first | omega | exact ⟨by omega, by omega⟩ | (rw [wi (by omega) (by omega)]; omega) | (rw [wi (by omega) (by omega)]; exact ⟨by omega, by omega⟩))
        | (exfalso
           simp only [hH, stdH, Int.toNat_natCast, c1, c2, c3, Bool.not_true, cond_false] at h9
           cases h9)
    · clear k1
      have hfin : (bif !(okRg g3 && okA a3 && inB n3 1 12) then true else decide ((((if (okRg g3 && okA a3 && inB n3 1 12) = true then (rkN (ftP a3) g3).take n3.toNat else []).length : Nat) : Int) ≤ n3)) = true := by
        cases e : (okRg g3 && okA a3 && inB n3 1 12) with
        | false => rfl
        | true =>
          rw [Bool.and_eq_true] at e
          have hb : 1 ≤ n3 ∧ n3 ≤ 12 := by have := e.2; unfold inB at this; simpa using this
          rw [Bool.not_true, cond_false, decide_eq_true_eq, if_pos rfl, List.length_take]
          omega
      have hq : (if (okRg g3 && okA a3 && inB n3 1 12) = true then (rkN (ftP a3) g3).take n3.toNat else []).length ≤ 20 := by
        split
        · rw [List.length_take, rkN_len]; omega
        · exact Nat.zero_le _
      have hr : (if (okA am && okFl fm) = true then misF am fm else []).length ≤ 12 := by
        split
        · exact Nat.le_trans (List.length_filter_le _ _) hfm
        · exact Nat.zero_le _
      have e1 : ∀ x, Tl rowS 1 (rowsS stdH fun _ => [x]) = [x] := fun x => Tl_rowsT okS [x]
      have eb : ∀ x : Bool, (x == x) = true := fun x => by cases x <;> rfl
      refine ⟨?_, fun k2 => ?_, fun k2 => ?_⟩
      · try simp only [hH, stdH, zqz, ne_eq, zqy]
        exact ⟨Shp_W _ _, Shp_rowsT okS _ (fun _ => _), by omega, hn, by omega⟩
      · simp only [hH, stdH] at k2
        obtain ⟨r1, r2, r3, r4⟩ := rr_law k2
        have r5 := okFl_1 r3
        have r6 := nmb_le (luE [(rrB gs f 13 f.length).1]) gs gs.length
        (repeat' (first | with_reducible refine And.intro ?_ ?_ | intro h9))
        all_goals first
          | (simp only [hH, stdH, TlS', k2, r1.symm, r2, r4, r5, if_true, e1, Bool.and_self]; done)
          | (simp only [hH, stdH, TlS', k2, r1.symm, r2, r4, r5, if_true, e1, Bool.and_self]
             first | exact Shp_W _ _ | exact Shp_rowsT okS _ (fun _ => _) | exact Shp_rowsT okS 1 (fun _ => [_]) | exact Shp_I _ _ | exact hn | exact hz | exact hn3 | exact hzm | omega | exact fun _ => Shp_I _ _ | exact fun _ => Shp_rowsT okS _ (fun _ => _) | exact fun _ => by omega | (simp only [List.length_cons, List.length_nil]; omega))
          | (simp only [hH, stdH, eb, decide_true, cond_true]
             exact hfin.symm)
          | (exfalso
             simp only [hH, stdH, TlS', k2, r1.symm, r2, r4, r5, if_true, e1, Bool.and_self, eb, Bool.not_true, cond_false, cond_true, decide_true, beq_self_eq_true, bne_self_eq_false] at h9
             first | done | cases h9)
      · simp only [hH, stdH] at k2
        have k3 : (bif okLu gs f then decide ((0 : Int) < ((f.length : Nat) : Int)) else false) = false := by
          unfold okRr at k2
          cases e : okLu gs f with
          | false => rfl
          | true =>
            have e' : (okRg gs && okFl f) = true := e
            rw [e', Bool.true_and, decide_eq_false_iff_not] at k2
            rw [cond_true]
            exact decide_eq_false (by omega)
        (repeat' (first | with_reducible refine And.intro ?_ ?_ | intro h9))
        all_goals first
          | (simp only [hH, stdH, TlS', k2, k3]; done)
          | (simp only [hH, stdH, TlS', k2, k3]
             first | exact Shp_W _ _ | exact Shp_rowsT okS _ (fun _ => _) | exact Shp_rowsT okS 1 (fun _ => [_]) | exact Shp_I _ _ | exact hn | exact hz | exact hn3 | exact hzm | omega | exact fun _ => Shp_I _ _ | exact fun _ => Shp_rowsT okS _ (fun _ => _) | exact fun _ => by omega | (simp only [List.length_cons, List.length_nil]; omega))
          | (simp only [hH, stdH, eb, decide_true, cond_true]
             exact hfin.symm)
          | (exfalso
             simp only [hH, stdH, TlS', k2, k3, eb, Bool.not_true, cond_false, cond_true, decide_true, beq_self_eq_true, bne_self_eq_false] at h9
             first | done | cases h9)

end Go.Proofs.YtcjjffmbhionmaaGreatDoor.AM

namespace Go.Proofs.YtcjjffmbhionmaaGreatDoor
set_option maxRecDepth 100000
open Go.ChangeShapes Go.WideShapes Go.ChangeAt Go.RowKit
set_option linter.unusedVariables false
set_option linter.unusedSimpArgs false
open Go.Deep Go.ChangeShapes Go.WideShapes Go.ChangeAt Go.RowKit

def LeafAll (R : TypeId → Value → Prop) : List TypeId → List Value → Prop
  | [], [] => True
  | t :: ts, v :: vs => R t v ∧ LeafAll R ts vs
  | _, _ => False
theorem LeafAll.append {R : TypeId → Value → Prop} : ∀ {a : List TypeId} {c : List Value} {b : List TypeId} {d : List Value}, LeafAll R a c → LeafAll R b d → LeafAll R (a ++ b) (c ++ d)
  | [], [], _, _, _, h => h
  | _ :: _, _ :: _, _, _, h, k => ⟨h.1, LeafAll.append h.2 k⟩
section
variable {H : Type} {enc : TypeId × Value → H} {P : Program} {w : World} {base : Nat} {spare : Nat → Bool} {held : Bool}
end

structure Rd {α : Type} (w : World) (k : Nat) (enc : α → List Value) (A : Option Addr) (cap : Nat) (l : List α) : Prop where
  le : l.length ≤ cap
  max : cap ≤ maxLen
  cells : l ≠ [] → ∃ b o, A = some ⟨b, o, none⟩ ∧ ∀ i a, l[i]? = some a → w.rangeAt b (o + i * k) (enc a)
theorem Rd.nil_ {α : Type} (w : World) (k : Nat) (enc : α → List Value) : Rd w k enc none 0 [] := ⟨by simp, by simp [maxLen], fun h => absurd rfl h⟩

section
variable {H : Type} {enc : TypeId × Value → H} {P : Program} {w : World} {base : Nat} {spare : Nat → Bool} {held : Bool}
theorem open_rd {α : Type} [Inhabited α] {t e : TypeId} {fuel : Nat} {v : Value} {x : DataW H × List MemPlace} {k : Nat} {en : α → List Value} {good : α → Prop} (ht : P.underlying t = some (.slice e)) (hk : P.cellsOf e = k) (hpos : 0 < k) (hlen : ∀ a, (en a).length = k)
    (hel : ∀ m cs y, DataW.trod enc P w base spare held m e cs = some y → ∃ a, cs = en a ∧ good a) (h : DataW.trod enc P w base spare held fuel t v.cells.toList = some x) (hv : ∃ a len cap, v = .slice a len cap) :
    ∃ (A : Option Addr) (cap : Nat) (l : List α), v = .slice A l.length cap ∧ Rd w k en A cap l ∧ ∀ a ∈ l, good a := by
  obtain ⟨A, len, cap, rfl⟩ := hv
  rcases open_slice ht h with ⟨hc, _⟩ | ⟨a, len', cap', m, n, D, Pl, hc, hb, hl, hm, hmm, _, hi⟩
  · simp [Value.cells] at hc
    obtain ⟨rfl, rfl, rfl⟩ := hc
    exact ⟨none, 0, [], rfl, Rd.nil_ _ _ _, by simp⟩
  · simp [Value.cells] at hc
    obtain ⟨rfl, rfl, rfl⟩ := hc
    have hle : len ≤ m := by rw [hmm]; split <;> omega
    rw [hk] at hi
    have h1 : ∀ i, i < len → ∃ x : α, (w.cells? base (a.add (i * k)) k = some (en x)) ∧ good x := by
      intro i hil
      obtain ⟨cs', h1, h2⟩ := hi i (by omega)
      obtain ⟨x, rfl, hg⟩ := hel _ _ _ h2
      exact ⟨x, h1, hg⟩
    obtain ⟨f, hf⟩ := choose_lt h1
    refine ⟨some a, cap, (List.range len).map f, by simp, ⟨by simpa using hl, hm, fun hne => ?_⟩, ?_⟩
    · have hpos' : 0 < len := by
        rcases Nat.eq_zero_or_pos len with h0 | h0
        · subst h0; simp at hne
        · exact h0
      obtain ⟨b, o, sp⟩ := a
      have hsp : sp = none := by
        obtain ⟨h0, _⟩ := hf 0 hpos'
        obtain ⟨_, hcl, hat⟩ := World.cells?_some h0
        have h00 := hat 0 (by omega)
        rw [List.getElem?_eq_getElem (by rw [hlen]; omega)] at h00
        simpa [Addr.add] using World.cell?_spot h00
      subst hsp
      refine ⟨b, o, rfl, fun i x hx => ?_⟩
      have hil : i < len := by
        have := (List.getElem?_eq_some_iff.1 hx).1
        simpa using this
      have hxe : x = f i := by simp [hil] at hx; exact hx.symm
      subst hxe
      obtain ⟨h0, _⟩ := hf i hil
      obtain ⟨_, hcl, hat⟩ := World.cells?_some h0
      intro j u hu
      have hj : j < k := by rw [← hlen (f i)]; exact (List.getElem?_eq_some_iff.1 hu).1
      have := hat j hj
      rw [Addr.add_mid, Addr.add_mid] at this
      rw [this]; exact hu
    · intro x hx
      obtain ⟨i, hi', rfl⟩ := List.mem_map.1 hx
      exact (hf i (by simpa using hi')).2
end

end Go.Proofs.YtcjjffmbhionmaaGreatDoor

namespace Go.Proofs.YtcjjffmbhionmaaGreatDoor
set_option maxRecDepth 100000
open Go.ChangeShapes Go.WideShapes Go.ChangeAt Go.RowKit
set_option linter.unusedVariables false
set_option linter.unusedSimpArgs false
open Go.RowKit

def Up (w w' : World) : Prop := Below w.heap.size w w'
theorem Up.refl (w : World) : Up w w := Below.refl _ _
theorem Up.size {w w' : World} (h : Up w w') : w.heap.size ≤ w'.heap.size := Below.size h
theorem Up.trans {a b c : World} (h : Up a b) (k : Up b c) : Up a c := Below.trans h (Below.mono k h.size)
theorem Up.alloc {a w : World} (h : Up a w) (o : Obj) : Up a (w.alloc o) := Below.alloc h h.size o
theorem Up.drew {a w : World} (h : Up a w) : Up a w.drew := Below.drew h
theorem Up.drewN {a w : World} (h : Up a w) : ∀ n, Up a (w.drewN n)
  | 0 => h
  | n + 1 => ⟨h.os, h.tape, h.output, h.size, h.block⟩
theorem Up.setCell {a w : World} (h : Up a w) {p : Addr} (hp : a.heap.size ≤ p.block) (u : Value) : Up a (w.setCell p u) := Below.setCell h hp u
theorem Up.store {a w : World} (h : Up a w) {b o : Nat} (hp : a.heap.size ≤ b) (u : Value) : Up a (w.setCell ⟨b, o, none⟩ u) := Up.setCell h hp u
theorem Up.row {a w : World} (h : Up a w) {L : Nat} (hp : a.heap.size ≤ L) (cs : Array Value) : Up a (w.setRow L cs) := below_setRow h hp cs
theorem Up.grown {a w w' : World} {row : Option Nat} (h : Up a w) (hg : w.grownBy w' row) (hr : ∀ k, row = some k → a.heap.size ≤ k) : Up a w' := Below.grown h hg h.size hr
theorem Up.below {w w' : World} (h : Up w w') : Below w.heap.size w w' := h
theorem Up.block {w w' : World} (h : Up w w') {k : Nat} {o : Obj} (hk : w.heap[k]? = some o) : w'.heap[k]? = some o := by
  have hlt : k < w.heap.size := (Array.getElem?_eq_some_iff.1 hk).1
  exact (Below.block h k hlt).trans hk
theorem Up.cell {w w' : World} (h : Up w w') {p : Addr} {v : Value} (hv : w.cell? p = some v) : w'.cell? p = some v :=
  (Below.cell h (World.block_lt_of_cell? w p hv)).trans hv
theorem Up.box {w w' : World} {c : Array Value} {t : TypeId} (h : Up (w.alloc (.cells c t)) w') : ∀ o, w'.cell? ⟨w.heap.size, o, none⟩ = c[o]? := fun o => by
  have h1 : (w.alloc (.cells c t)).heap[w.heap.size]? = some (.cells c t) := heap_alloc_new w _
  have h2 := h.block h1
  exact cell_of_row w' w.heap.size o c t (0, 0) h2
end Go.Proofs.YtcjjffmbhionmaaGreatDoor

namespace Go.Proofs.YtcjjffmbhionmaaGreatDoor

def inB (x a b : Int) : Bool := decide (a ≤ x ∧ x ≤ b)
end Go.Proofs.YtcjjffmbhionmaaGreatDoor

namespace Go.Proofs.YtcjjffmbhionmaaGreatDoor
set_option maxRecDepth 100000
open Go.ChangeShapes Go.WideShapes Go.ChangeAt Go.RowKit
set_option linter.unusedVariables false
set_option linter.unusedSimpArgs false
open Go.Deep

structure Arms where
  (fd fl ff fs o l t c1 k1 a1 t1 c2 k2 a2 t2 : Int)
def Arms.list (A : Arms) : List Int := [A.fd, A.fl, A.ff, A.fs, A.o, A.l, A.t, A.c1, A.k1, A.a1, A.t1, A.c2, A.k2, A.a2, A.t2]
theorem Arms.list_inj {A B : Arms} (h : A.list = B.list) : A = B := by
  cases A; cases B; simp [Arms.list] at h; simp [h]
instance : DecidableEq Arms := fun A B => decidable_of_iff (A.list = B.list) ⟨Arms.list_inj, fun h => by rw [h]⟩
def Arms.arr (A : Arms) : Array Value := (A.list.map (Value.int .i64)).toArray
@[simp, go_sem] theorem Arms.arr_size (A : Arms) : A.arr.size = 15 := id rfl
@[simp, go_sem] theorem Arms.arr_0 (A : Arms) : A.arr[0]? = some (.int .i64 A.fd) := id rfl
@[simp, go_sem] theorem Arms.arr_1 (A : Arms) : A.arr[1]? = some (.int .i64 A.fl) := id rfl
@[simp, go_sem] theorem Arms.arr_2 (A : Arms) : A.arr[2]? = some (.int .i64 A.ff) := id rfl
@[simp, go_sem] theorem Arms.arr_3 (A : Arms) : A.arr[3]? = some (.int .i64 A.fs) := id rfl
@[simp, go_sem] theorem Arms.arr_4 (A : Arms) : A.arr[4]? = some (.int .i64 A.o) := id rfl
@[simp, go_sem] theorem Arms.arr_5 (A : Arms) : A.arr[5]? = some (.int .i64 A.l) := id rfl
@[simp, go_sem] theorem Arms.arr_6 (A : Arms) : A.arr[6]? = some (.int .i64 A.t) := id rfl
@[simp, go_sem] theorem Arms.arr_7 (A : Arms) : A.arr[7]? = some (.int .i64 A.c1) := id rfl
@[simp, go_sem] theorem Arms.arr_8 (A : Arms) : A.arr[8]? = some (.int .i64 A.k1) := id rfl
@[simp, go_sem] theorem Arms.arr_9 (A : Arms) : A.arr[9]? = some (.int .i64 A.a1) := id rfl
@[simp, go_sem] theorem Arms.arr_10 (A : Arms) : A.arr[10]? = some (.int .i64 A.t1) := id rfl
@[simp, go_sem] theorem Arms.arr_11 (A : Arms) : A.arr[11]? = some (.int .i64 A.c2) := id rfl
@[simp, go_sem] theorem Arms.arr_12 (A : Arms) : A.arr[12]? = some (.int .i64 A.k2) := id rfl
@[simp, go_sem] theorem Arms.arr_13 (A : Arms) : A.arr[13]? = some (.int .i64 A.a2) := id rfl
@[simp, go_sem] theorem Arms.arr_14 (A : Arms) : A.arr[14]? = some (.int .i64 A.t2) := id rfl
@[simp, go_sem] theorem Arms.arr_g0 (A : Arms) (h : 0 < A.arr.size) : A.arr[0] = .int .i64 A.fd := id rfl
@[simp, go_sem] theorem Arms.arr_g1 (A : Arms) (h : 1 < A.arr.size) : A.arr[1] = .int .i64 A.fl := id rfl
@[simp, go_sem] theorem Arms.arr_g2 (A : Arms) (h : 2 < A.arr.size) : A.arr[2] = .int .i64 A.ff := id rfl
@[simp, go_sem] theorem Arms.arr_g3 (A : Arms) (h : 3 < A.arr.size) : A.arr[3] = .int .i64 A.fs := id rfl
@[simp, go_sem] theorem Arms.arr_g4 (A : Arms) (h : 4 < A.arr.size) : A.arr[4] = .int .i64 A.o := id rfl
@[simp, go_sem] theorem Arms.arr_g5 (A : Arms) (h : 5 < A.arr.size) : A.arr[5] = .int .i64 A.l := id rfl
@[simp, go_sem] theorem Arms.arr_g6 (A : Arms) (h : 6 < A.arr.size) : A.arr[6] = .int .i64 A.t := id rfl
@[simp, go_sem] theorem Arms.arr_g7 (A : Arms) (h : 7 < A.arr.size) : A.arr[7] = .int .i64 A.c1 := id rfl
@[simp, go_sem] theorem Arms.arr_g8 (A : Arms) (h : 8 < A.arr.size) : A.arr[8] = .int .i64 A.k1 := id rfl
@[simp, go_sem] theorem Arms.arr_g9 (A : Arms) (h : 9 < A.arr.size) : A.arr[9] = .int .i64 A.a1 := id rfl
@[simp, go_sem] theorem Arms.arr_g10 (A : Arms) (h : 10 < A.arr.size) : A.arr[10] = .int .i64 A.t1 := id rfl
@[simp, go_sem] theorem Arms.arr_g11 (A : Arms) (h : 11 < A.arr.size) : A.arr[11] = .int .i64 A.c2 := id rfl
@[simp, go_sem] theorem Arms.arr_g12 (A : Arms) (h : 12 < A.arr.size) : A.arr[12] = .int .i64 A.k2 := id rfl
@[simp, go_sem] theorem Arms.arr_g13 (A : Arms) (h : 13 < A.arr.size) : A.arr[13] = .int .i64 A.a2 := id rfl
@[simp, go_sem] theorem Arms.arr_g14 (A : Arms) (h : 14 < A.arr.size) : A.arr[14] = .int .i64 A.t2 := id rfl
def Arms.cells (A : Arms) : List Value := A.arr.toList
instance : Inhabited Arms := ⟨⟨0, 0, 0, 0, 0, 0, 0, 0, 0, 0, 0, 0, 0, 0, 0⟩⟩
theorem Arms.one (A : Arms) : A.arr.all (·.oneCell') = true := by simp [Arms.arr, Arms.list, Value.oneCell']

def encU8 (x : Int) : List Value := [.int .u8 x]
def isU8 (x : Int) : Prop := 0 ≤ x ∧ x ≤ 255
section
variable {H : Type} {enc : TypeId × Value → H} {P : Program} {w : World} {base : Nat} {spare : Nat → Bool} {held : Bool}
theorem rd_u8 {e : TypeId} (he : P.underlying e = some (.int .u8)) : ∀ m cs y, DataW.trod enc P w base spare held m e cs = some y → ∃ a : Int, cs = encU8 a ∧ isU8 a := by
  intro m cs y h
  obtain ⟨n, hc, _, hw⟩ := DataW.trod_int he h
  exact ⟨n, hc, bounds_u8 hw⟩
end

def goodG (c k a t : Int) : Bool := inB c 1 6 && inB k 1 8 && inB t 1 9 && (if k ≤ 3 then inB a 1 2 else decide (a = 0))
def noneG (c k a t : Int) : Bool := decide (c = 0 ∧ k = 0 ∧ a = 0 ∧ t = 0)
def okG (c k a t : Int) : Bool := noneG c k a t || goodG c k a t
end Go.Proofs.YtcjjffmbhionmaaGreatDoor

set_option maxRecDepth 100000
set_option maxHeartbeats 4000000
set_option cbv.maxSteps 3000000
namespace Go.Proofs.YtcjjffmbhionmaaGreatDoor.AM
/- From a law's contract to the walk that lift.py asks for; conditions: none. -/
theorem lowOk : Tryz.prog.globals.size < Tryz.prog.low := by decide +kernel
theorem law_of {f : FuncId} (h : ∀ c : Cd, Con Tryz.prog f [codeAV c] [] (.lit (.bool true)) []) (w : World) (A : Option Addr) (cap : Nat) (l : List Int) (hr : Rd w 1 encU8 A cap l) (hg : ∀ x ∈ l, isU8 x) (hsh : w.ShapedOpen Tryz.prog) (hld : Laid w := by exact ⟨fun x hx => (by cases hx), fun n hn => (by cases hn)⟩) : Calls Tryz.prog f #[.slice A l.length cap] w (fun e w' => e = .returned (.bool true) ∧ Up w w') := by
  let c : Cd := ⟨l.length, fun j => (l[j]?).getD 0, fun j => by
    cases hj : l[j]? with
    | none => simp
    | some x => have := hg x (List.mem_of_getElem? hj); unfold isU8 at this; simpa using this⟩
  let C : Cx := ⟨id, fun _ => False, fun _ => False, w⟩
  have hrel : Rel C (codeAV c) (.slice A l.length cap) := by
    refine .vec (fun j _ => .int .u8 ((l[j]?).getD 0)) hr.le hr.max (fun _ _ => rfl) (fun h0 => ?_) (fun _ _ _ _ => rfl) (fun j q x hj hx => ?_)
    · obtain ⟨b, o, hA, hc⟩ := hr.cells (by intro e; subst e; exact absurd h0 (Nat.lt_irrefl 0))
      have cell : ∀ j q, j < l.length → q < 1 → w.cell? ⟨b, o + j * 1 + q, none⟩ = some (.int .u8 ((l[j]?).getD 0)) := fun j q hj hq => by
        have hq0 : q = 0 := by omega
        subst hq0
        have h1 := hc j l[j] (List.getElem?_eq_getElem hj) 0 (.int .u8 l[j]) rfl
        rw [List.getElem?_eq_getElem hj]; exact h1
      refine ⟨b, o, hA, fun h => h, ?_, cell⟩
      exact World.block_lt_of_cell? w _ (cell 0 0 h0 (by omega))
    · cases q with
      | zero => simp [c, Cd.rows] at hx; subst hx; exact .lit rfl
      | succ q => simp [c, Cd.rows] at hx
  refine (h c C [.slice A l.length cap] (.cons hrel (.nil C)) (by simp [lk]) (by simp [lk]) (glo0 lowOk hsh hld)).mono fun e w' ⟨cv, he, C', ha⟩ => ?_
  have hv := ha.val _ rfl
  cases hv
  refine ⟨he, Up.grown (Up.refl w) (row := none) ⟨?_, ?_, ?_, ?_, fun k hk _ => ?_⟩ (by simp)⟩
  · have := ha.ext.wx.os; rw [ha.w] at this; exact this
  · have := ha.ext.wx.tape; rw [ha.w] at this; exact this
  · have := ha.ext.wx.output; rw [ha.w] at this; exact this
  · have := ha.ext.wx.size; rw [ha.w] at this; exact this
  · have := ha.ext.wx.same k hk (by simp); rw [ha.w] at this; exact this

end Go.Proofs.YtcjjffmbhionmaaGreatDoor.AM

namespace Go.Proofs.YtcjjffmbhionmaaGreatDoor
open Go AM
theorem w_Search (w : World) (A : Option Addr) (cap : Nat) (l : List Int) (hr : Rd w 1 encU8 A cap l) (hg : ∀ x ∈ l, isU8 x) (hsh : w.ShapedOpen Tryz.prog) (hld : AM.Laid w) : Calls Tryz.prog 4 #[.slice A l.length cap] w (fun e w' => e = .returned (.bool true) ∧ Up w w') := law_of law_Search w A cap l hr hg hsh hld
end Go.Proofs.YtcjjffmbhionmaaGreatDoor

