/- Lemmas and contracts (Sks); conditions: none. -/
import Derived.Test.YtmkniipdkanbbaaGreatDoorK04
import Derived.Test.YtmkniipdkanbbaaGreatDoorK20
import Derived.Test.YtmkniipdkanbbaaGreatDoorK24
import Derived.Test.YtmkniipdkanbbaaGreatDoorK34
set_option linter.unusedVariables false
set_option linter.unusedSimpArgs false
set_option maxRecDepth 100000
set_option maxHeartbeats 4000000
set_option cbv.maxSteps 3000000
namespace Go.Proofs.YtmkniipdkanbbaaGreatDoor.AM
/- Sketches by the reference: slots, groups; conditions: none. -/
theorem allS_a : ∀ i, i < 9 → allS.take (i + 1) = allS.take i ++ [(⟨1, ((i + 1 : Nat) : Int)⟩ : Slo)] := by decide
theorem allS_b : ∀ i, i < 3 → allS.take (10 + (i + 1)) = allS.take (10 + i) ++ [(⟨3, ((i + 1 : Nat) : Int)⟩ : Slo)] := by decide
theorem allS_n {i : Nat} (h : i ≤ 14) : (allS.take i).length = i := by rw [List.length_take]; show min i 14 = _; omega
theorem allS_c : allS.take 10 = allS.take 9 ++ [(⟨2, 0⟩ : Slo)] := by decide
theorem allS_d : allS = allS.take 13 ++ [(⟨4, 0⟩ : Slo)] := by decide
theorem RowsEq.moreY {L : List Slo} {x y : Int} : RowsEq 2 (L ++ [(⟨x, y⟩ : Slo)]).length (rowsY stdH fun _ => L ++ [(⟨x, y⟩ : Slo)]) (L.length + 1) (app L.length (rowsY stdH fun _ => L) (rowsOf 2 [.lit (.int .i64 x), .lit (.int .i64 y)])) :=
  RowsEq.snoc okRY (x := ⟨x, y⟩) (k' := 2) (cs := [.lit (.int .i64 x), .lit (.int .i64 y)]) rfl
theorem c_allSlS   : ConN Tryz.prog 112 [] [] 0 (.slc 0 0 2 (stdH Nat fun _ => (allS).length)) [.rows 2 (stdH Nat fun _ => (allS).length) (rowsY stdH fun _ => allS) 56] [] := by
  have hB : Base Tryz.prog (tabΓ []) tabO := base_of tabOkO (ents_nil)
  refine con_m (N := 31) hB (draw_ok hB mixed) Tryz.func112 rfl rfl (fun H => []) (fun _ => []) 0 (fun H => .slc 0 0 2 (H Nat fun _ => (allS).length)) (fun H => [.rows 2 (H Nat fun _ => (allS).length) (rowsY H fun _ => allS) 56]) (fun _ => []) 200 (by simp) (fun x hx => ?_) (by simp [lk]) (by omega) (by simp) ?_
  · cases hx
  intro X hX hX0 H hH
  conv in Fin.chk _ _ => cbv
  try simp only [zqs, Plain_rowsC, Plain_rowsY, zqx, AllP, zqw, upd, if_true]
  refine loop_a hB (draw_ok hB mixed) hX hX0 hH false (ι := { i : Nat // i ≤ 9 }) 200 (fun i => [.r (H Nat fun _ => (allS.take i.1).length) (rowsY H fun _ => allS.take i.1), .i (H Int fun _ => (i.1 + 1 : Nat))]) (fun i => 9 - i.1) (⟨0, by omega⟩) ?_ ?_
  · (conv in matchSt _ _ _ _ => cbv); simp only [AllG, AllP, and_true, hH, stdH, zql, ncast, zqe, zqy]
    (repeat' (with_reducible refine And.intro ?_ ?_)) <;> (first | exact True.intro | rfl | exact RowsEq.ofT okRY rfl (Shp_zero _) rfl)
  · intro I hI i
    conv in Fin.chk _ _ => cbv
    try simp only [zqs, Plain_rowsC, Plain_rowsY, zqx, AllP, zqw, upd, if_true]
    obtain ⟨i, hi⟩ := i
    have al := allS_n (i := i) (by omega)
    refine ⟨fun h1 => ⟨?_, ⟨i + 1, ?_⟩, ?_, ?_⟩, fun h1 => ?_⟩
    · try simp only [hH, stdH, zqz, ne_eq, zqy]
      (repeat' (with_reducible refine And.intro ?_ ?_)) <;> (first | exact True.intro | omega)
    · simp only [hH, stdH, zqz, ne_eq, zqy] at h1
      omega
    · simp only [hH, stdH, zqz, ne_eq, zqy] at h1
      simp only; omega
    · simp only [hH, stdH, zqz, ne_eq, zqy] at h1
      rw [hI]
      (conv in matchSt _ _ _ _ => cbv); simp only [AllG, AllP, and_true, hH, stdH, zql, ncast, zqe, zqy]
      rw [w1 (by omega), allS_a i (by omega)]
      (repeat' (with_reducible refine And.intro ?_ ?_)) <;> (first | exact True.intro | rfl | exact RowsEq.moreY | exact List.length_append)
    · simp only [hH, stdH, zqz, ne_eq, zqy] at h1
      obtain rfl : i = 9 := by omega
      have a10 := allS_n (i := 10) (by omega)
      have a13 := allS_n (i := 13) (by omega)
      refine ⟨?_, ?_⟩
      · try simp only [hH, stdH, zqz, ne_eq, zqy]
        (repeat' (with_reducible refine And.intro ?_ ?_)) <;> (first | exact True.intro | omega)
      · refine loop_a hB (draw_ok hB mixed) hX hX0 hH false (ι := { k : Nat // k ≤ 3 }) 200 (fun k => [.r (H Nat fun _ => (allS.take (10 + k.1)).length) (rowsY H fun _ => allS.take (10 + k.1)), .i (H Int fun _ => (k.1 + 1 : Nat))]) (fun k => 3 - k.1) (⟨0, by omega⟩) ?_ ?_
        · (conv in matchSt _ _ _ _ => cbv); simp only [AllG, AllP, and_true, hH, stdH, zql, ncast, zqe, zqy]
          rw [show 10 + 0 = 10 from rfl, allS_c]
          (repeat' (with_reducible refine And.intro ?_ ?_)) <;> (first | exact True.intro | rfl | exact RowsEq.moreY | exact List.length_append)
        · intro I2 hI2 k
          conv in Fin.chk _ _ => cbv
          try simp only [zqs, Plain_rowsC, Plain_rowsY, zqx, AllP, zqw, upd, if_true]
          obtain ⟨k, hk⟩ := k
          have al := allS_n (i := 10 + k) (by omega)
          refine ⟨fun h1 => ⟨?_, ⟨k + 1, ?_⟩, ?_, ?_⟩, fun h1 => ?_⟩
          · try simp only [hH, stdH, zqz, ne_eq, zqy]
            (repeat' (with_reducible refine And.intro ?_ ?_)) <;> (first | exact True.intro | omega)
          · simp only [hH, stdH, zqz, ne_eq, zqy] at h1
            omega
          · simp only [hH, stdH, zqz, ne_eq, zqy] at h1
            simp only; omega
          · simp only [hH, stdH, zqz, ne_eq, zqy] at h1
            rw [hI2]
            (conv in matchSt _ _ _ _ => cbv); simp only [AllG, AllP, and_true, hH, stdH, zql, ncast, zqe, zqy]
            rw [w1 (by omega), allS_b k (by omega)]
            (repeat' (with_reducible refine And.intro ?_ ?_)) <;> (first | exact True.intro | rfl | exact RowsEq.moreY | exact List.length_append)
          · simp only [hH, stdH, zqz, ne_eq, zqy] at h1
            obtain rfl : k = 3 := by omega
            have e := RowsEq.moreY (L := allS.take 13) (x := 4) (y := 0)
            rw [← allS_d] at e
            try simp only [hH, stdH, zqz, ne_eq, zqy]
            (repeat' (with_reducible refine And.intro ?_ ?_)) <;> (first | exact True.intro | exact e | (rw [show 10 + 3 = 13 from rfl, a13]; omega) | rfl)
noncomputable def e_allSlS : Entry := pureN 112 fun H a => match a with
  | [] => some (fun nx => .slc nx 0 2 (H Nat fun _ => (allS).length), [.rows 2 (H Nat fun _ => (allS).length) (rowsY H fun _ => allS) 56], [])
  | _ => none
theorem eok_allSlS : EntryOk Tryz.prog e_allSlS := pureN_ok (by unfold isBody; kernel_rfl) (by
  intro a r nb ob e hob
  split at e
  · simp only [zqt] at e
    obtain ⟨rfl, rfl, rfl⟩ := e
    refine ⟨ConN.args .nil (c_allSlS  ), fun x hx => ?_, fun nx => ?_, fun b hb => ?_⟩
    · cases hx
    · (first | exact .slc ⟨by omega, by simp⟩ (by omega) | (refine .tup rfl (fun c x y hx hy => ?_); rcases c with _ | _ | _ | c <;> simp at hx hy <;> (subst hx; subst hy; first | exact .slc ⟨by omega, by simp⟩ (by omega) | exact .pl .lit | exact .pl (blq_ok 4 rfl) | (refine .agg rfl (fun c x y hx hy => ?_); rcases c with _ | _ | _ | c <;> simp at hx hy <;> (subst hx; subst hy; first | exact .slc ⟨by omega, by simp⟩ (by omega) | exact .pl .lit | exact .pl (blq_ok 4 rfl))))) | (refine .agg rfl (fun c x y hx hy => ?_); rcases c with _ | _ | _ | c <;> simp at hx hy <;> (subst hx; subst hy; first | exact .slc ⟨by omega, by simp⟩ (by omega) | exact .pl .lit | exact .pl (blq_ok 4 rfl))))
    · simp only [zqu] at hb; subst hb; exact bT_bl okRY _ (fun _ => allS) _
  · simp at e)
theorem sufB {s w : ByteArray} : (bif decide (0 ≤ (s.size : Int) - (w.size : Int)) then (s.extract ((s.size : Int) - (w.size : Int)).toNat s.size).toList == w.toList else false) = isSuf s w := by
  by_cases h : w.size ≤ s.size
  · rw [decide_eq_true (by omega), cond_true, beqT]
    have e : ((s.size : Int) - (w.size : Int)).toNat = s.size - w.size := by omega
    have hs : s.size = s.data.toList.length := rfl
    have hw : w.size = w.data.toList.length := rfl
    rw [e, Bool.eq_iff_iff, decide_eq_true_eq, isSuf_iff]
    constructor
    · intro q
      refine ⟨s.extract 0 (s.size - w.size), ?_⟩
      have q2 : s.extract 0 (s.size - w.size) ++ s.extract (s.size - w.size) s.size = s := ext_both _
      rw [q] at q2
      exact q2.symm
    · rintro ⟨t, e⟩
      subst e
      rw [ByteArray.size_append, Nat.add_sub_cancel]
      have := ext_right t w
      rwa [ByteArray.size_append] at this
  · rw [decide_eq_false (by omega), cond_false]
    symm
    rw [← Bool.not_eq_true]
    intro q
    obtain ⟨t, e⟩ := isSuf_iff.1 q
    rw [e, ByteArray.size_append] at h
    omega
theorem allS_ok {i : Nat} (h : i < 14) : okY (allS.getD i default) = true := by
  have : ∀ i, i < 14 → okY (allS.getD i default) = true := by decide
  exact this i h
theorem allS_get {i : Nat} (h : i < 14) : allS.getD i default ∈ allY := (allS_mem _).1 (getD_mem (d := default) h)
theorem cutS_hit {s : ByteArray} {i : Nat} (hi : i < 14) (h : isSuf s (slW (allS.getD i default)) = true) : cutK s = (befS s (slW (allS.getD i default)), allS.getD i default) ∧ s.extract 0 (s.size - (slW (allS.getD i default)).size) = befS s (slW (allS.getD i default)) ∧ (slW (allS.getD i default)).size ≤ s.size := by
  obtain ⟨t, rfl⟩ := isSuf_iff.1 h
  rw [cutK_y (allS_get hi), befS_app, ByteArray.size_append, Nat.add_sub_cancel]
  exact ⟨rfl, ext_left _ _, by omega⟩
theorem cutS_miss {s : ByteArray} (h : ∀ j, j < 14 → isSuf s (slW (allS.getD j default)) = false) : cutK s = (s, nxY) := by
  refine cutL_no fun y hy => ?_
  obtain ⟨j, hj, rfl⟩ := List.getElem_of_mem ((allS_mem y).2 hy)
  have := h j hj
  rwa [List.getD_eq_getElem?_getD, List.getElem?_eq_getElem hj] at this
theorem c_splitS (s : ByteArray) (h0 : s.size ≤ 2000000) : ConN Tryz.prog 58 [.lit (.string s)] [] 0 (.tup [.lit (.string (stdH ByteArray fun _ => (cutK s).1)), aT rowY stdH fun _ => (cutK s).2]) [] [] := by
  have hB : Base Tryz.prog (tabΓ [e_allSlS, e_slotTxS]) tabO := base_of tabOkO (ents_cons eok_allSlS <| ents_cons eok_slotTxS <| ents_nil)
  refine con_m (N := 43) hB (draw_ok hB mixed) Tryz.func58 rfl rfl (fun H => [.lit (.string s)]) (fun _ => []) 0 (fun H => .tup [.lit (.string (H ByteArray fun _ => (cutK s).1)), aT rowY H fun _ => (cutK s).2]) (fun H => []) (fun _ => []) 300 (by simp) (fun x hx => ?_) (by simp [lk]) (by omega) (by simp) ?_
  · simp only [zqu] at hx
    rcases hx with rfl
    · exact .lit
  intro X hX hX0 H hH
  conv in Fin.chk _ _ => cbv
  try simp only [zqs, Plain_rowsC, Plain_rowsY, zqx, AllP, zqw, upd, if_true]
  refine loop_a hB (draw_ok hB mixed) hX hX0 hH false (ι := { i : Nat // i ≤ 14 ∧ ∀ j, j < i → isSuf s (slW (allS.getD j default)) = false }) 300 (fun i => [.s (H ByteArray fun _ => ByteArray.empty), .i (H Int fun _ => (i.1 : Nat)), .i (H Int fun _ => 0), .i (H Int fun _ => 0)]) (fun i => 14 - i.1) (⟨0, by omega, fun j hj => absurd hj (Nat.not_lt_zero j)⟩) ?_ ?_
  · (conv in matchSt _ _ _ _ => cbv); simp only [AllG, AllP, and_true, hH, stdH, zql, ncast, zqe, zqy]
    (repeat' (with_reducible refine And.intro ?_ ?_)) <;> (first | exact True.intro | rfl | exact RowsEq.self okRY)
  · intro I hI i
    conv in Fin.chk _ _ => cbv
    try simp only [zqs, Plain_rowsC, Plain_rowsY, zqx, AllP, zqw, upd, if_true]
    obtain ⟨i, hi, hj⟩ := i
    refine ⟨fun h1 => ?_, fun h1 => ?_⟩
    · simp only [hH, stdH, zqz, ne_eq, zqy] at h1
      have l14 : allS.length = 14 := rfl
      have h1 : i < 14 := by omega
      have hy := allS_ok h1
      have ws := slW_sz hy
      have ew : IntKind.i64.wrap ((s.size : Int) - ((slW (allS.getD i default)).size : Int)) = (s.size : Int) - ((slW (allS.getD i default)).size : Int) := wi (by omega) (by omega)
      have bs : (bif decide (0 ≤ (s.size : Int) - ((slW (allS.getD i default)).size : Int)) then (s.extract ((s.size : Int) - ((slW (allS.getD i default)).size : Int)).toNat s.size).toList == (slW (allS.getD i default)).toList else false) = isSuf s (slW (allS.getD i default)) := sufB
      refine ⟨?_, ?_, ?_, ?_, fun h2 => ⟨?_, ?_, ?_, ?_⟩, fun h2 => ?_⟩
      · try simp only [hH, stdH, zqz, ne_eq, zqy]
        omega
      · try simp only [hH, stdH, zqz, ne_eq, zqy]
        exact ⟨by omega, rfl⟩
      · try simp only [hH, stdH, zqz, ne_eq, zqy]
        exact hy
      · try simp only [hH, stdH, zqz, ne_eq, zqy]
        simp only [Slo.eta, ew]
        intro h2
        refine ⟨by omega, trivial, ?_, ?_⟩
        · simp only [loOf, hiOf]; omega
        · simp only [hiOf]; omega
      · simp only [hH, stdH, Int.toNat_natCast] at h2
        simp only [Slo.eta, Int.toNat_natCast, ew, loOf, hiOf] at h2
        rw [bs] at h2
        obtain ⟨c1, c2, c3⟩ := cutS_hit h1 h2
        try simp only [hH, stdH, zqz, ne_eq, zqy]
        simp only [Slo.eta, ew]
        refine ⟨trivial, by omega, ?_, ?_⟩
        · simp only [loOf, hiOf]; omega
        · simp only [hiOf]; omega
      · try simp only [hH, stdH, zqz, ne_eq, zqy]
        omega
      · try simp only [hH, stdH, zqz, ne_eq, zqy]
        exact ⟨by omega, rfl⟩
      · simp only [hH, stdH, Int.toNat_natCast] at h2
        simp only [Slo.eta, Int.toNat_natCast, ew, loOf, hiOf] at h2
        rw [bs] at h2
        obtain ⟨c1, c2, c3⟩ := cutS_hit h1 h2
        try simp only [hH, stdH, zqz, ne_eq, zqy]
        simp only [Slo.eta, ew, loOf, hiOf]
        rw [c1]
        have en : ((s.size : Int) - ((slW (allS.getD i default)).size : Int)).toNat = s.size - (slW (allS.getD i default)).size := by omega
        rw [en, c2]
        (repeat' (with_reducible refine And.intro ?_ ?_)) <;> (first | exact True.intro | rfl)
      · simp only [hH, stdH, Int.toNat_natCast] at h2
        simp only [Slo.eta, Int.toNat_natCast, ew, loOf, hiOf] at h2
        rw [bs] at h2
        refine ⟨⟨i + 1, by omega, fun j hj' => ?_⟩, by simp only; omega, ?_⟩
        · rcases Nat.lt_succ_iff_lt_or_eq.1 hj' with h | rfl
          · exact hj j h
          · exact h2
        · rw [hI]
          (conv in matchSt _ _ _ _ => cbv); simp only [AllG, AllP, and_true, hH, stdH, zql, ncast, zqe, zqy]
          rw [w1 (by omega)]
          (repeat' (with_reducible refine And.intro ?_ ?_)) <;> (first | exact True.intro | rfl | exact RowsEq.self okRY)
    · simp only [hH, stdH, zqz, ne_eq, zqy] at h1
      have l14 : allS.length = 14 := rfl
      rw [cutS_miss fun j hj' => hj j (by omega)]
      try simp only [hH, stdH, zqz, ne_eq, zqy]
      (repeat' (with_reducible refine And.intro ?_ ?_)) <;> (first | exact True.intro | rfl)
noncomputable def e_splitS : Entry := pureE 58 fun H a => match a with
  | [.lit (.string s)] => some (.tup [.lit (.string (H ByteArray fun _ => (cutK s).1)), aT rowY H fun _ => (cutK s).2], [H Prop fun _ => s.size ≤ 2000000])
  | _ => none
theorem eok_splitS : EntryOk Tryz.prog e_splitS := pureM_ok (by unfold isBody; kernel_rfl) (by
  intro a r ob e hob
  split at e
  · rename_i s
    simp only [zqt] at e
    obtain ⟨rfl, rfl⟩ := e
    exact ConN.args (.cons .rfl .nil) (c_splitS s hob.1)
  · simp at e)
theorem c_groupS (s : ByteArray) (h0 : s.size ≤ 1500000) : ConN Tryz.prog 57 [.lit (.string s)] [] 0 (.tup [aT rowG stdH fun _ => (uB (cutK s).1).getD zG, aT rowY stdH fun _ => (cutK s).2, .lit (.bool (stdH Bool fun _ => (uB (cutK s).1).isSome))]) [] [] := by
  have hB : Base Tryz.prog (tabΓ [e_splitS, e_l4Unbare]) tab := base_of tabOk (ents_cons eok_splitS <| ents_cons eok_l4Unbare <| ents_nil)
  refine con_m (N := 22) hB (draw_ok hB mixed) Tryz.func57 rfl rfl (fun H => [.lit (.string s)]) (fun _ => []) 0 (fun H => .tup [aT rowG H fun _ => (uB (cutK s).1).getD zG, aT rowY H fun _ => (cutK s).2, .lit (.bool (H Bool fun _ => (uB (cutK s).1).isSome))]) (fun H => []) (fun _ => []) 200 (by simp) (fun x hx => ?_) (by simp [lk]) (by omega) (by simp) ?_
  · simp only [zqu] at hx
    rcases hx with rfl
    · exact .lit
  intro X hX hX0 H hH
  conv in Fin.chk _ _ => cbv
  try simp only [zqs, Plain_rowsC, Plain_rowsY, zqx, AllP, zqw, upd, if_true]
  try simp only [hH, stdH, zqz, ne_eq, zqy]
  (repeat' (with_reducible refine And.intro ?_ ?_)) <;> (first | exact True.intro | omega | rfl)
noncomputable def e_groupS : Entry := pureE 57 fun H a => match a with
  | [.lit (.string s)] => some (.tup [aT rowG H fun _ => (uB (cutK s).1).getD zG, aT rowY H fun _ => (cutK s).2, .lit (.bool (H Bool fun _ => (uB (cutK s).1).isSome))], [H Prop fun _ => s.size ≤ 1500000])
  | _ => none
theorem eok_groupS : EntryOk Tryz.prog e_groupS := pureM_ok (by unfold isBody; kernel_rfl) (by
  intro a r ob e hob
  split at e
  · rename_i s
    simp only [zqt] at e
    obtain ⟨rfl, rfl⟩ := e
    exact ConN.args (.cons .rfl .nil) (c_groupS s hob.1)
  · simp at e)

end Go.Proofs.YtmkniipdkanbbaaGreatDoor.AM

