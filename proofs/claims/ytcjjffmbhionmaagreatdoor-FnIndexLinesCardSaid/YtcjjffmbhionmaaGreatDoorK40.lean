/- Lemmas and contracts (Fbs); conditions: none. -/
import Derived.Test.YtcjjffmbhionmaaGreatDoorK03
import Derived.Test.YtcjjffmbhionmaaGreatDoorK05
import Derived.Test.YtcjjffmbhionmaaGreatDoorK32
import Derived.Test.YtcjjffmbhionmaaGreatDoorK39
set_option linter.unusedVariables false
set_option linter.unusedSimpArgs false
set_option maxRecDepth 100000
set_option maxHeartbeats 4000000
set_option cbv.maxSteps 3000000
namespace Go.Proofs.YtcjjffmbhionmaaGreatDoor.AM
/- The index of a register by the reference; conditions: none. -/
def tabW : Tab := ⟨tabL, false, 10 + 9⟩
theorem tabOkW : TabOk Tryz.prog tabW := tabOk
theorem any_bad {l : List ByteArray} {s : ByteArray} (h : ∀ j, j < l.length → l.getD j ByteArray.empty ≠ s) : l.any (fun y => decide (y = s)) = false := by
  rw [← Bool.not_eq_true, List.any_eq_true]
  rintro ⟨y, hy, e⟩
  rw [decide_eq_true_eq] at e
  obtain ⟨j, hj, e2⟩ := List.getElem_of_mem hy
  exact h j hj (by rw [List.getD_eq_getElem?_getD, List.getElem?_eq_getElem hj, Option.getD_some, e2, e])
theorem any_at {l : List ByteArray} {s : ByteArray} {j : Nat} (hj : j < l.length) (h : l.getD j ByteArray.empty = s) : l.any (fun y => decide (y = s)) = true := by
  rw [List.getD_eq_getElem?_getD, List.getElem?_eq_getElem hj, Option.getD_some] at h
  exact List.any_eq_true.2 ⟨_, List.getElem_mem hj, decide_eq_true h⟩
theorem c_l17HasE (l : List ByteArray) (s : ByteArray) (h0 : l.length ≤ 100000) : ConN Tryz.prog 39 [.vec 1 (stdH Nat fun _ => (l).length) (rowsS stdH fun _ => l), .lit (.string s)] [] 0 (.lit (.bool (stdH Bool fun _ => l.any (fun y => decide (y = s))))) [] [] := by
  have hB : Base Tryz.prog (tabΓ []) tab := base_of tabOk (ents_nil)
  refine con_m (N := 18) hB (draw_ok hB mixed) Tryz.func39 rfl rfl (fun H => [.vec 1 (H Nat fun _ => (l).length) (rowsS H fun _ => l), .lit (.string s)]) (fun _ => []) 0 (fun H => .lit (.bool (H Bool fun _ => l.any (fun y => decide (y = s))))) (fun H => []) (fun _ => []) 300 (by simp) (fun x hx => ?_) (by simp [lk]) (by omega) (by simp) ?_
  · simp only [List.mem_cons, List.not_mem_nil, or_false] at hx
    rcases hx with rfl | rfl
    · exact vl_bl okS l _
    · exact .lit
  intro X hX hX0 H hH
  conv in Fin.chk _ _ => cbv
  try simp only [Plain_rowsA, Plain_rowsB, Plain_rowsC, Plain_rowsF, Plain_rowsG, Plain_rowsI, Plain_rowsS, Plain_rowsU, Plain_rowsW, Fin.satC_ret, Fin.satC_br, Fin.satC_need, Fin.satC_again, AllP, and_true, true_and, upd, List.length_nil, List.length_cons, Nat.zero_add, if_true, ncast, Int.ofNat_eq_natCast]
  refine loop_a hB (draw_ok hB mixed) hX hX0 hH false (ι := { i : Nat // i ≤ l.length ∧ ∀ j, j < i → l.getD j ByteArray.empty ≠ s }) 300 (fun i => [.i (H Int fun _ => (i.1 : Nat))]) (fun i => l.length - i.1) (⟨0, Nat.zero_le _, fun j h => absurd h (Nat.not_lt_zero j)⟩) ?_ ?_
  · (conv in matchSt _ _ _ _ => cbv); simp only [AllG, AllP, and_true, hH, stdH, Nat.le_refl, ncast, Int.ofNat_eq_natCast, vrow_I, Arm.eta2, Fld.eta, Grp.eta]
    (repeat' (with_reducible refine And.intro ?_ ?_)) <;> (first | exact True.intro | exact Eq.refl _ | exact RowsEq.self okS)
  · intro I hI i
    conv in Fin.chk _ _ => cbv
    try simp only [Plain_rowsA, Plain_rowsB, Plain_rowsC, Plain_rowsF, Plain_rowsG, Plain_rowsI, Plain_rowsS, Plain_rowsU, Plain_rowsW, Fin.satC_ret, Fin.satC_br, Fin.satC_need, Fin.satC_again, AllP, and_true, true_and, upd, List.length_nil, List.length_cons, Nat.zero_add, if_true, ncast, Int.ofNat_eq_natCast]
    obtain ⟨i, hi, hj⟩ := i
    refine ⟨fun h1 => ⟨?_, fun h2 => ?_, fun h2 => ?_⟩, fun h1 => ?_⟩
    · simp only [hH, stdH, Nat.le_refl, decide_eq_true_eq, decide_eq_false_iff_not, Bool.not_eq_true', Bool.not_eq_false', peta, ncast, Int.ofNat_eq_natCast, beq_iff_eq, bne_iff_ne, beq_eq_false_iff_ne, bne_eq_false_iff_eq, ne_eq, Classical.not_not, Int.toNat_natCast, vrow_I, Arm.eta2, Fld.eta, Grp.eta] at h1 ⊢
      omega
    · simp only [hH, stdH, Nat.le_refl, decide_eq_true_eq, decide_eq_false_iff_not, Bool.not_eq_true', Bool.not_eq_false', peta, ncast, Int.ofNat_eq_natCast, beq_iff_eq, bne_iff_ne, beq_eq_false_iff_ne, bne_eq_false_iff_eq, ne_eq, Classical.not_not, Int.toNat_natCast, vrow_I, Arm.eta2, Fld.eta, Grp.eta] at h1
      simp only [hH, stdH, Int.toNat_natCast, beqT, decide_eq_true_eq] at h2
      try simp only [hH, stdH, Nat.le_refl, decide_eq_true_eq, decide_eq_false_iff_not, Bool.not_eq_true', Bool.not_eq_false', peta, ncast, Int.ofNat_eq_natCast, beq_iff_eq, bne_iff_ne, beq_eq_false_iff_ne, bne_eq_false_iff_eq, ne_eq, Classical.not_not, Int.toNat_natCast, vrow_I, Arm.eta2, Fld.eta, Grp.eta]
      exact any_at (by omega) h2
    · simp only [hH, stdH, Nat.le_refl, decide_eq_true_eq, decide_eq_false_iff_not, Bool.not_eq_true', Bool.not_eq_false', peta, ncast, Int.ofNat_eq_natCast, beq_iff_eq, bne_iff_ne, beq_eq_false_iff_ne, bne_eq_false_iff_eq, ne_eq, Classical.not_not, Int.toNat_natCast, vrow_I, Arm.eta2, Fld.eta, Grp.eta] at h1
      simp only [hH, stdH, Int.toNat_natCast, beqT, decide_eq_false_iff_not] at h2
      refine ⟨⟨i + 1, by omega, fun j hj' => ?_⟩, by simp only; omega, ?_⟩
      · rcases Nat.lt_succ_iff_lt_or_eq.1 hj' with h | rfl
        · exact hj j h
        · exact h2
      · rw [hI]
        (conv in matchSt _ _ _ _ => cbv); simp only [AllG, AllP, and_true, hH, stdH, Nat.le_refl, ncast, Int.ofNat_eq_natCast, vrow_I, Arm.eta2, Fld.eta, Grp.eta]
        rw [w1 (by omega)]
        (repeat' (with_reducible refine And.intro ?_ ?_)) <;> (first | exact True.intro | exact Eq.refl _ | exact RowsEq.self okS)
    · simp only [hH, stdH, Nat.le_refl, decide_eq_true_eq, decide_eq_false_iff_not, Bool.not_eq_true', Bool.not_eq_false', peta, ncast, Int.ofNat_eq_natCast, beq_iff_eq, bne_iff_ne, beq_eq_false_iff_ne, bne_eq_false_iff_eq, ne_eq, Classical.not_not, Int.toNat_natCast, vrow_I, Arm.eta2, Fld.eta, Grp.eta] at h1
      try simp only [hH, stdH, Nat.le_refl, decide_eq_true_eq, decide_eq_false_iff_not, Bool.not_eq_true', Bool.not_eq_false', peta, ncast, Int.ofNat_eq_natCast, beq_iff_eq, bne_iff_ne, beq_eq_false_iff_ne, bne_eq_false_iff_eq, ne_eq, Classical.not_not, Int.toNat_natCast, vrow_I, Arm.eta2, Fld.eta, Grp.eta]
      exact any_bad fun j hj' => hj j (by omega)
noncomputable def e_l17HasE : Entry := pureE 39 fun H a => match a with
  | [.vec 1 ln lf, .lit (.string s)] => some (.lit (.bool (H Bool fun _ => (Tl rowS ln lf).any (fun y => decide (y = s)))), [H Prop fun _ => Shp rowS ln lf, H Prop fun _ => (Tl rowS ln lf).length ≤ 100000])
  | _ => none
theorem eok_l17HasE : EntryOk Tryz.prog e_l17HasE := pureM_ok (by unfold isBody; kernel_rfl) (by
  intro a r ob e hob
  split at e
  · rename_i ln lf s
    simp only [Option.some.injEq, Prod.mk.injEq] at e
    obtain ⟨rfl, rfl⟩ := e
    exact ConN.args (.cons (.toT okS rfl hob.1) (.cons .rfl .nil)) (c_l17HasE (Tl rowS ln lf) s hob.2.1)
  · simp at e)
theorem map_ixG {l : List Grt} {L : List ByteArray} {k : Nat} (h : k < L.length) : (L.take (k + 1)).map (ixG l) = (L.take k).map (ixG l) ++ [ixG l (L.getD k ByteArray.empty)] := by
  rw [List.take_succ_eq_append_getElem h, List.map_append, List.map_cons, List.map_nil, List.getD_eq_getElem?_getD, List.getElem?_eq_getElem h, Option.getD_some]
theorem c_buildIS (r : Rgr) (h0 : r.gs.length ≤ 8000) (h1 : Nsz r.gs) : ConN Tryz.prog 8 [aT rowJ stdH fun _ => r] [] 0 (.tup [.vec 2 (stdH Nat fun _ => (if okRg r.gs then bxL r.gs allF.length else []).length) (rowsX stdH fun _ => if okRg r.gs then bxL r.gs allF.length else []), .lit (.bool (stdH Bool fun _ => okRg r.gs))]) [] [] := by
  have hB : Base Tryz.prog (tabΓ [e_l16Good, e_l17Features, e_l17Put, e_l17HasE]) tabW := base_of tabOkW (ents_cons eok_l16Good <| ents_cons eok_l17Features <| ents_cons eok_l17Put <| ents_cons eok_l17HasE <| ents_nil)
  refine con_mN 35 (N := 91) hB (draw_ok hB mixed) Tryz.func8 rfl rfl (fun H => [aT rowJ H fun _ => r]) (fun _ => []) 0 (fun H => .tup [.vec 2 (H Nat fun _ => (if okRg r.gs then bxL r.gs allF.length else []).length) (rowsX H fun _ => if okRg r.gs then bxL r.gs allF.length else []), .lit (.bool (H Bool fun _ => okRg r.gs))]) (fun H => []) (fun _ => []) 300 (by simp) (fun x hx => ?_) (by simp [lk]) (by omega) (by simp) ?_
  · simp only [List.mem_cons, List.not_mem_nil, or_false] at hx
    rcases hx with rfl
    · exact aT_bl okRJ _ _
  intro X hX hX0 H hH
  conv in Fin.chk _ _ => cbv
  try simp only [Plain_rowsA, Plain_rowsB, Plain_rowsC, Plain_rowsF, Plain_rowsG, Plain_rowsI, Plain_rowsS, Plain_rowsU, Plain_rowsW, Fin.satC_ret, Fin.satC_br, Fin.satC_need, Fin.satC_again, AllP, and_true, true_and, upd, List.length_nil, List.length_cons, Nat.zero_add, if_true, ncast, Int.ofNat_eq_natCast]
  simp only [TlW_H hH]
  refine ⟨?_, fun h => ?_, fun h => ?_⟩
  · try simp only [hH, stdH, Nat.le_refl, decide_eq_true_eq, decide_eq_false_iff_not, Bool.not_eq_true', Bool.not_eq_false', peta, ncast, Int.ofNat_eq_natCast, beq_iff_eq, bne_iff_ne, beq_eq_false_iff_ne, bne_eq_false_iff_eq, ne_eq, Classical.not_not, Int.toNat_natCast, vrow_I, Arm.eta2, Fld.eta, Grp.eta]
    exact ⟨Shp_W _ _, by omega, h1⟩
  · have hR : okRg r.gs = false := by
      simp only [hH, stdH, Bool.not_eq_true'] at h
      exact h
    try simp only [hH, stdH, Nat.le_refl, decide_eq_true_eq, decide_eq_false_iff_not, Bool.not_eq_true', Bool.not_eq_false', peta, ncast, Int.ofNat_eq_natCast, beq_iff_eq, bne_iff_ne, beq_eq_false_iff_ne, bne_eq_false_iff_eq, ne_eq, Classical.not_not, Int.toNat_natCast, vrow_I, Arm.eta2, Fld.eta, Grp.eta]
    rw [hR]
    exact ⟨rfl, rfl, fun j hj => absurd hj (Nat.not_lt_zero j)⟩
  · have hR : okRg r.gs = true := by
      simp only [hH, stdH, Bool.not_eq_false'] at h
      exact h
    have hA := okRg_okA hR
    have hE := bxL_eq hA
    have hl := allS_len r.gs r.gs.length (Nat.le_refl _)
    clear h
    refine loop_cN hB (draw_ok hB mixed) hX hX0 hH [0, 1, 2, 3, 4, 5, 6] 35 (ι := { i : Nat // i ≤ r.gs.length }) 300 (fun i => [.r (H Nat fun _ => (allS r.gs i.1).length) (rowsS H fun _ => allS r.gs i.1), .i (H Int fun _ => (i.1 : Nat))]) (fun i => r.gs.length - i.1) (⟨0, Nat.zero_le _⟩) ?_ ?_
    · (conv in matchStN _ _ _ _ _ => cbv); simp only [AllG, AllP, and_true, hH, stdH, Nat.le_refl, ncast, Int.ofNat_eq_natCast, vrow_I, Arm.eta2, Fld.eta, Grp.eta]
      (repeat' (with_reducible refine And.intro ?_ ?_)) <;> (first | exact True.intro | exact Eq.refl _ | exact RowsEq.self okRW | exact RowsEq.self okS | exact ⟨rfl, fun j hj => absurd hj (Nat.not_lt_zero j)⟩)
    · intro I hI i
      conv in Fin.chk _ _ => cbv
      try simp only [Plain_rowsA, Plain_rowsB, Plain_rowsC, Plain_rowsF, Plain_rowsG, Plain_rowsI, Plain_rowsS, Plain_rowsU, Plain_rowsW, Fin.satC_ret, Fin.satC_br, Fin.satC_need, Fin.satC_again, AllP, and_true, true_and, upd, List.length_nil, List.length_cons, Nat.zero_add, if_true, ncast, Int.ofNat_eq_natCast]
      obtain ⟨i, hi⟩ := i
      refine ⟨fun h1 => ⟨?_, ?_, ?_⟩, fun h1 => ?_⟩
      · simp only [hH, stdH, Nat.le_refl, decide_eq_true_eq, decide_eq_false_iff_not, Bool.not_eq_true', Bool.not_eq_false', peta, ncast, Int.ofNat_eq_natCast, beq_iff_eq, bne_iff_ne, beq_eq_false_iff_ne, bne_eq_false_iff_eq, ne_eq, Classical.not_not, Int.toNat_natCast, vrow_I, Arm.eta2, Fld.eta, Grp.eta] at h1 ⊢
        omega
      · simp only [hH, stdH, Nat.le_refl, decide_eq_true_eq, decide_eq_false_iff_not, Bool.not_eq_true', Bool.not_eq_false', peta, ncast, Int.ofNat_eq_natCast, beq_iff_eq, bne_iff_ne, beq_eq_false_iff_ne, bne_eq_false_iff_eq, ne_eq, Classical.not_not, Int.toNat_natCast, vrow_I, Arm.eta2, Fld.eta, Grp.eta] at h1
        simp only [hetaA hH]
        simp only [hH, stdH, Int.toNat_natCast]
        exact okA_at hA (by omega)
      · simp only [hH, stdH, Nat.le_refl, decide_eq_true_eq, decide_eq_false_iff_not, Bool.not_eq_true', Bool.not_eq_false', peta, ncast, Int.ofNat_eq_natCast, beq_iff_eq, bne_iff_ne, beq_eq_false_iff_ne, bne_eq_false_iff_eq, ne_eq, Classical.not_not, Int.toNat_natCast, vrow_I, Arm.eta2, Fld.eta, Grp.eta] at h1
        have hq := allS_len r.gs i hi
        have hf := ftP_len (r.gs.getD i default).arms
        simp only [hetaA hH]
        refine loop_cN hB (draw_ok hB mixed) hX hX0 hH [0, 1, 2, 3, 4, 5, 6, 7, 8] 35 (ι := { k : Nat // k ≤ (ftP (r.gs.getD i default).arms).length }) 300 (fun k => [.r (H Nat fun _ => (putS (allS r.gs i) (ftP (r.gs.getD i default).arms) k.1).length) (rowsS H fun _ => putS (allS r.gs i) (ftP (r.gs.getD i default).arms) k.1), .i (H Int fun _ => (k.1 : Nat))]) (fun k => (ftP (r.gs.getD i default).arms).length - k.1) (⟨0, Nat.zero_le _⟩) ?_ ?_
        · (conv in matchStN _ _ _ _ _ => cbv); simp only [AllG, AllP, and_true, hH, stdH, Nat.le_refl, ncast, Int.ofNat_eq_natCast, vrow_I, Arm.eta2, Fld.eta, Grp.eta]
          (repeat' (with_reducible refine And.intro ?_ ?_)) <;> (first | exact True.intro | exact Eq.refl _ | exact RowsEq.self okRW | exact RowsEq.self okS | exact ⟨rfl, fun j hj => absurd hj (Nat.not_lt_zero j)⟩)
        · intro I2 hI2 k
          conv in Fin.chk _ _ => cbv
          try simp only [Plain_rowsA, Plain_rowsB, Plain_rowsC, Plain_rowsF, Plain_rowsG, Plain_rowsI, Plain_rowsS, Plain_rowsU, Plain_rowsW, Fin.satC_ret, Fin.satC_br, Fin.satC_need, Fin.satC_again, AllP, and_true, true_and, upd, List.length_nil, List.length_cons, Nat.zero_add, if_true, ncast, Int.ofNat_eq_natCast]
          obtain ⟨k, hk⟩ := k
          refine ⟨fun h2 => ⟨?_, ⟨?_, ?_⟩, ?_⟩, fun h2 => ?_⟩
          · simp only [hH, stdH, Nat.le_refl, decide_eq_true_eq, decide_eq_false_iff_not, Bool.not_eq_true', Bool.not_eq_false', peta, ncast, Int.ofNat_eq_natCast, beq_iff_eq, bne_iff_ne, beq_eq_false_iff_ne, bne_eq_false_iff_eq, ne_eq, Classical.not_not, Int.toNat_natCast, vrow_I, Arm.eta2, Fld.eta, Grp.eta] at h2 ⊢
            omega
          · try simp only [hH, stdH, Nat.le_refl, decide_eq_true_eq, decide_eq_false_iff_not, Bool.not_eq_true', Bool.not_eq_false', peta, ncast, Int.ofNat_eq_natCast, beq_iff_eq, bne_iff_ne, beq_eq_false_iff_ne, bne_eq_false_iff_eq, ne_eq, Classical.not_not, Int.toNat_natCast, vrow_I, Arm.eta2, Fld.eta, Grp.eta]
            exact Shp_rowsT okS _ (fun _ => _)
          · have := putS_len (allS r.gs i) (ftP (r.gs.getD i default).arms) k hk
            simp only [hH, stdH, TlS']
            omega
          · simp only [hH, stdH, Nat.le_refl, decide_eq_true_eq, decide_eq_false_iff_not, Bool.not_eq_true', Bool.not_eq_false', peta, ncast, Int.ofNat_eq_natCast, beq_iff_eq, bne_iff_ne, beq_eq_false_iff_ne, bne_eq_false_iff_eq, ne_eq, Classical.not_not, Int.toNat_natCast, vrow_I, Arm.eta2, Fld.eta, Grp.eta] at h2
            refine ⟨⟨k + 1, by omega⟩, by simp only; omega, ?_⟩
            rw [hI2]
            (conv in matchStN _ _ _ _ _ => cbv); simp only [AllG, AllP, and_true, hH, stdH, Nat.le_refl, ncast, Int.ofNat_eq_natCast, vrow_I, Arm.eta2, Fld.eta, Grp.eta]
            simp only [Int.toNat_natCast, TlS']
            rw [w1 (by omega), putS_s (by omega)]
            (repeat' (with_reducible refine And.intro ?_ ?_)) <;> (first | exact True.intro | exact Eq.refl _ | exact RowsEq.self okRW | exact RowsEq.self okS | exact ⟨rfl, fun j hj => absurd hj (Nat.not_lt_zero j)⟩)
          · simp only [hH, stdH, Nat.le_refl, decide_eq_true_eq, decide_eq_false_iff_not, Bool.not_eq_true', Bool.not_eq_false', peta, ncast, Int.ofNat_eq_natCast, beq_iff_eq, bne_iff_ne, beq_eq_false_iff_ne, bne_eq_false_iff_eq, ne_eq, Classical.not_not, Int.toNat_natCast, vrow_I, Arm.eta2, Fld.eta, Grp.eta] at h2
            obtain rfl : k = (ftP (r.gs.getD i default).arms).length := by omega
            rw [if_neg (by decide)]
            refine ⟨⟨i + 1, by omega⟩, by simp only; omega, ?_⟩
            rw [hI]
            (conv in matchStN _ _ _ _ _ => cbv); simp only [AllG, AllP, and_true, hH, stdH, Nat.le_refl, ncast, Int.ofNat_eq_natCast, vrow_I, Arm.eta2, Fld.eta, Grp.eta]
            rw [w1 (by omega), allS_s (by omega)]
            (repeat' (with_reducible refine And.intro ?_ ?_)) <;> (first | exact True.intro | exact Eq.refl _ | exact RowsEq.self okRW | exact RowsEq.self okS | exact ⟨rfl, fun j hj => absurd hj (Nat.not_lt_zero j)⟩)
      · simp only [hH, stdH, Nat.le_refl, decide_eq_true_eq, decide_eq_false_iff_not, Bool.not_eq_true', Bool.not_eq_false', peta, ncast, Int.ofNat_eq_natCast, beq_iff_eq, bne_iff_ne, beq_eq_false_iff_ne, bne_eq_false_iff_eq, ne_eq, Classical.not_not, Int.toNat_natCast, vrow_I, Arm.eta2, Fld.eta, Grp.eta] at h1
        obtain rfl : i = r.gs.length := by omega
        refine loop_cN hB (draw_ok hB mixed) hX hX0 hH [0, 1, 2, 3, 4, 5, 9] 35 (ι := { k : Nat // k ≤ (allS r.gs r.gs.length).length }) 300 (fun k => [.r (H Nat fun _ => (((allS r.gs r.gs.length).take k.1).map (ixG r.gs)).length) (rowsX H fun _ => ((allS r.gs r.gs.length).take k.1).map (ixG r.gs)), .i (H Int fun _ => (k.1 : Nat))]) (fun k => (allS r.gs r.gs.length).length - k.1) (⟨0, Nat.zero_le _⟩) ?_ ?_
        · (conv in matchStN _ _ _ _ _ => cbv); simp only [AllG, AllP, and_true, hH, stdH, Nat.le_refl, ncast, Int.ofNat_eq_natCast, vrow_I, Arm.eta2, Fld.eta, Grp.eta]
          (repeat' (with_reducible refine And.intro ?_ ?_)) <;> (first | exact True.intro | exact Eq.refl _ | exact RowsEq.self okRW | exact RowsEq.self okS | exact ⟨rfl, fun j hj => absurd hj (Nat.not_lt_zero j)⟩)
        · intro I2 hI2 k
          conv in Fin.chk _ _ => cbv
          try simp only [Plain_rowsA, Plain_rowsB, Plain_rowsC, Plain_rowsF, Plain_rowsG, Plain_rowsI, Plain_rowsS, Plain_rowsU, Plain_rowsW, Fin.satC_ret, Fin.satC_br, Fin.satC_need, Fin.satC_again, AllP, and_true, true_and, upd, List.length_nil, List.length_cons, Nat.zero_add, if_true, ncast, Int.ofNat_eq_natCast]
          obtain ⟨k, hk⟩ := k
          refine ⟨fun h2 => ⟨?_, ?_⟩, fun h2 => ⟨?_, ?_⟩⟩
          · simp only [hH, stdH, Nat.le_refl, decide_eq_true_eq, decide_eq_false_iff_not, Bool.not_eq_true', Bool.not_eq_false', peta, ncast, Int.ofNat_eq_natCast, beq_iff_eq, bne_iff_ne, beq_eq_false_iff_ne, bne_eq_false_iff_eq, ne_eq, Classical.not_not, Int.toNat_natCast, vrow_I, Arm.eta2, Fld.eta, Grp.eta] at h2 ⊢
            omega
          · simp only [hH, stdH, Nat.le_refl, decide_eq_true_eq, decide_eq_false_iff_not, Bool.not_eq_true', Bool.not_eq_false', peta, ncast, Int.ofNat_eq_natCast, beq_iff_eq, bne_iff_ne, beq_eq_false_iff_ne, bne_eq_false_iff_eq, ne_eq, Classical.not_not, Int.toNat_natCast, vrow_I, Arm.eta2, Fld.eta, Grp.eta] at h2
            refine loop_cN hB (draw_ok hB mixed) hX hX0 hH [0, 1, 2, 3, 4, 5, 9, 10, 11] 35 (ι := { i : Nat // i ≤ r.gs.length }) 300 (fun i => [.i (H Int fun _ => (i.1 : Nat)), .s (H ByteArray fun _ => (allS r.gs r.gs.length).getD k ByteArray.empty), .r (H Nat fun _ => (nmb (biE ((allS r.gs r.gs.length).getD k ByteArray.empty)) r.gs i.1).length) (rowsI H fun _ => nmb (biE ((allS r.gs r.gs.length).getD k ByteArray.empty)) r.gs i.1)]) (fun i => r.gs.length - i.1) (⟨0, Nat.zero_le _⟩) ?_ ?_
            · (conv in matchStN _ _ _ _ _ => cbv); simp only [AllG, AllP, and_true, hH, stdH, Nat.le_refl, ncast, Int.ofNat_eq_natCast, vrow_I, Arm.eta2, Fld.eta, Grp.eta]
              rw [nmb_0]
              (repeat' (with_reducible refine And.intro ?_ ?_)) <;> (first | exact True.intro | exact Eq.refl _ | exact RowsEq.self okRW | exact RowsEq.self okS | exact RowsFz.self okRX | exact RowsEq.ofT okI rfl (Shp_zero _) rfl)
            · intro I3 hI3 i
              conv in Fin.chk _ _ => cbv
              try simp only [Plain_rowsA, Plain_rowsB, Plain_rowsC, Plain_rowsF, Plain_rowsG, Plain_rowsI, Plain_rowsS, Plain_rowsU, Plain_rowsW, Fin.satC_ret, Fin.satC_br, Fin.satC_need, Fin.satC_again, AllP, and_true, true_and, upd, List.length_nil, List.length_cons, Nat.zero_add, if_true, ncast, Int.ofNat_eq_natCast]
              obtain ⟨i, hi3⟩ := i
              simp only [hetaA hH]
              have hn := nmb_le (biE ((allS r.gs r.gs.length).getD k ByteArray.empty)) r.gs i
              refine ⟨fun h3 => ⟨?_, ?_, ?_, ⟨?_, ?_⟩, fun h4 => ⟨?_, ?_, ?_⟩, fun h4 => ?_⟩, fun h3 => ⟨?_, ?_⟩⟩
              · simp only [hH, stdH, Nat.le_refl, decide_eq_true_eq, decide_eq_false_iff_not, Bool.not_eq_true', Bool.not_eq_false', peta, ncast, Int.ofNat_eq_natCast, beq_iff_eq, bne_iff_ne, beq_eq_false_iff_ne, bne_eq_false_iff_eq, ne_eq, Classical.not_not, Int.toNat_natCast, vrow_I, Arm.eta2, Fld.eta, Grp.eta] at h3 ⊢
                omega
              · simp only [hH, stdH, Nat.le_refl, decide_eq_true_eq, decide_eq_false_iff_not, Bool.not_eq_true', Bool.not_eq_false', peta, ncast, Int.ofNat_eq_natCast, beq_iff_eq, bne_iff_ne, beq_eq_false_iff_ne, bne_eq_false_iff_eq, ne_eq, Classical.not_not, Int.toNat_natCast, vrow_I, Arm.eta2, Fld.eta, Grp.eta] at h3
                simp only [hH, stdH, Int.toNat_natCast]
                exact okA_at hA (by omega)
              · try simp only [hH, stdH, Nat.le_refl, decide_eq_true_eq, decide_eq_false_iff_not, Bool.not_eq_true', Bool.not_eq_false', peta, ncast, Int.ofNat_eq_natCast, beq_iff_eq, bne_iff_ne, beq_eq_false_iff_ne, bne_eq_false_iff_eq, ne_eq, Classical.not_not, Int.toNat_natCast, vrow_I, Arm.eta2, Fld.eta, Grp.eta]
                omega
              · try simp only [hH, stdH, Nat.le_refl, decide_eq_true_eq, decide_eq_false_iff_not, Bool.not_eq_true', Bool.not_eq_false', peta, ncast, Int.ofNat_eq_natCast, beq_iff_eq, bne_iff_ne, beq_eq_false_iff_ne, bne_eq_false_iff_eq, ne_eq, Classical.not_not, Int.toNat_natCast, vrow_I, Arm.eta2, Fld.eta, Grp.eta]
                exact Shp_rowsT okS _ (fun _ => _)
              · have := ftP_len (r.gs.getD i default).arms
                simp only [hH, stdH, Int.toNat_natCast, TlS']
                omega
              · simp only [hH, stdH, Nat.le_refl, decide_eq_true_eq, decide_eq_false_iff_not, Bool.not_eq_true', Bool.not_eq_false', peta, ncast, Int.ofNat_eq_natCast, beq_iff_eq, bne_iff_ne, beq_eq_false_iff_ne, bne_eq_false_iff_eq, ne_eq, Classical.not_not, Int.toNat_natCast, vrow_I, Arm.eta2, Fld.eta, Grp.eta] at h3 ⊢
                omega
              · try simp only [hH, stdH, Nat.le_refl, decide_eq_true_eq, decide_eq_false_iff_not, Bool.not_eq_true', Bool.not_eq_false', peta, ncast, Int.ofNat_eq_natCast, beq_iff_eq, bne_iff_ne, beq_eq_false_iff_ne, bne_eq_false_iff_eq, ne_eq, Classical.not_not, Int.toNat_natCast, vrow_I, Arm.eta2, Fld.eta, Grp.eta]
                ((repeat' (with_reducible refine And.intro ?_ ?_)) <;> (first | exact True.intro | omega | exact Eq.refl _))
              · simp only [hH, stdH, Nat.le_refl, decide_eq_true_eq, decide_eq_false_iff_not, Bool.not_eq_true', Bool.not_eq_false', peta, ncast, Int.ofNat_eq_natCast, beq_iff_eq, bne_iff_ne, beq_eq_false_iff_ne, bne_eq_false_iff_eq, ne_eq, Classical.not_not, Int.toNat_natCast, vrow_I, Arm.eta2, Fld.eta, Grp.eta] at h3
                simp only [hH, stdH, Int.toNat_natCast, TlS'] at h4
                have h5 : biE ((allS r.gs r.gs.length).getD k ByteArray.empty) (r.gs.getD i default) = true := by rw [biE_iff]; exact h4
                refine ⟨⟨i + 1, by omega⟩, by simp only; omega, ?_⟩
                rw [hI3]
                (conv in matchStN _ _ _ _ _ => cbv); simp only [AllG, AllP, and_true, hH, stdH, Nat.le_refl, ncast, Int.ofNat_eq_natCast, vrow_I, Arm.eta2, Fld.eta, Grp.eta]
                rw [w1 (by omega), nmb_s (by omega), if_pos h5]
                (repeat' (with_reducible refine And.intro ?_ ?_)) <;> (first | exact True.intro | exact Eq.refl _ | exact RowsEq.self okRW | exact RowsEq.self okS | exact RowsFz.self okRX | exact RowsEq.snoc okI rfl | exact RowsEq.more okI (Shp_I _ _) (Tl_I _) | exact List.length_append)
              · simp only [hH, stdH, Nat.le_refl, decide_eq_true_eq, decide_eq_false_iff_not, Bool.not_eq_true', Bool.not_eq_false', peta, ncast, Int.ofNat_eq_natCast, beq_iff_eq, bne_iff_ne, beq_eq_false_iff_ne, bne_eq_false_iff_eq, ne_eq, Classical.not_not, Int.toNat_natCast, vrow_I, Arm.eta2, Fld.eta, Grp.eta] at h3
                simp only [hH, stdH, Int.toNat_natCast, TlS'] at h4
                have h5 : biE ((allS r.gs r.gs.length).getD k ByteArray.empty) (r.gs.getD i default) = false := by rw [biE_iff]; exact h4
                refine ⟨⟨i + 1, by omega⟩, by simp only; omega, ?_⟩
                rw [hI3]
                (conv in matchStN _ _ _ _ _ => cbv); simp only [AllG, AllP, and_true, hH, stdH, Nat.le_refl, ncast, Int.ofNat_eq_natCast, vrow_I, Arm.eta2, Fld.eta, Grp.eta]
                rw [w1 (by omega), nmb_s (by omega), if_neg (ne_true_of_eq_false h5)]
                (repeat' (with_reducible refine And.intro ?_ ?_)) <;> (first | exact True.intro | exact Eq.refl _ | exact RowsEq.self okRW | exact RowsEq.self okS | exact RowsFz.self okRX | exact RowsEq.self okI)
              · try simp only [hH, stdH, Nat.le_refl, decide_eq_true_eq, decide_eq_false_iff_not, Bool.not_eq_true', Bool.not_eq_false', peta, ncast, Int.ofNat_eq_natCast, beq_iff_eq, bne_iff_ne, beq_eq_false_iff_ne, bne_eq_false_iff_eq, ne_eq, Classical.not_not, Int.toNat_natCast, vrow_I, Arm.eta2, Fld.eta, Grp.eta]
                simp only [List.length_map, List.length_take]
                ((repeat' (with_reducible refine And.intro ?_ ?_)) <;> (first | exact True.intro | omega | exact Eq.refl _))
              · simp only [hH, stdH, Nat.le_refl, decide_eq_true_eq, decide_eq_false_iff_not, Bool.not_eq_true', Bool.not_eq_false', peta, ncast, Int.ofNat_eq_natCast, beq_iff_eq, bne_iff_ne, beq_eq_false_iff_ne, bne_eq_false_iff_eq, ne_eq, Classical.not_not, Int.toNat_natCast, vrow_I, Arm.eta2, Fld.eta, Grp.eta] at h3
                obtain rfl : i = r.gs.length := by omega
                rw [if_neg (by decide)]
                refine ⟨⟨k + 1, by omega⟩, by simp only; omega, ?_⟩
                rw [hI2]
                (conv in matchStN _ _ _ _ _ => cbv); simp only [AllG, AllP, and_true, hH, stdH, Nat.le_refl, ncast, Int.ofNat_eq_natCast, vrow_I, Arm.eta2, Fld.eta, Grp.eta]
                rw [w1 (by omega), map_ixG (by omega)]
                (repeat' (with_reducible refine And.intro ?_ ?_)) <;> (first | exact True.intro | exact Eq.refl _ | exact RowsEq.self okRW | exact RowsEq.self okS | exact RowsFz.snoc okRX rfl (.cons (.same .lit) (.cons (CellFz.own okI rfl (RowsEq.self okI)) .nil)) | exact List.length_append)
          · try simp only [hH, stdH, Nat.le_refl, decide_eq_true_eq, decide_eq_false_iff_not, Bool.not_eq_true', Bool.not_eq_false', peta, ncast, Int.ofNat_eq_natCast, beq_iff_eq, bne_iff_ne, beq_eq_false_iff_ne, bne_eq_false_iff_eq, ne_eq, Classical.not_not, Int.toNat_natCast, vrow_I, Arm.eta2, Fld.eta, Grp.eta]
            exact hR
          · simp only [hH, stdH, Nat.le_refl, decide_eq_true_eq, decide_eq_false_iff_not, Bool.not_eq_true', Bool.not_eq_false', peta, ncast, Int.ofNat_eq_natCast, beq_iff_eq, bne_iff_ne, beq_eq_false_iff_ne, bne_eq_false_iff_eq, ne_eq, Classical.not_not, Int.toNat_natCast, vrow_I, Arm.eta2, Fld.eta, Grp.eta] at h2
            obtain rfl : k = (allS r.gs r.gs.length).length := by omega
            try simp only [hH, stdH, Nat.le_refl, decide_eq_true_eq, decide_eq_false_iff_not, Bool.not_eq_true', Bool.not_eq_false', peta, ncast, Int.ofNat_eq_natCast, beq_iff_eq, bne_iff_ne, beq_eq_false_iff_ne, bne_eq_false_iff_eq, ne_eq, Classical.not_not, Int.toNat_natCast, vrow_I, Arm.eta2, Fld.eta, Grp.eta]
            rw [if_pos hR, hE, List.take_length]
            exact RowsFz.self okRX
noncomputable def e_buildIS : Entry := pureE 8 fun H a => match a with
  | [.agg [.vec 18 r0n r0f]] => some (.tup [.vec 2 (H Nat fun _ => (if okRg (⟨(Tl rowW r0n r0f)⟩ : Rgr).gs then bxL (⟨(Tl rowW r0n r0f)⟩ : Rgr).gs allF.length else []).length) (rowsX H fun _ => if okRg (⟨(Tl rowW r0n r0f)⟩ : Rgr).gs then bxL (⟨(Tl rowW r0n r0f)⟩ : Rgr).gs allF.length else []), .lit (.bool (H Bool fun _ => okRg (⟨(Tl rowW r0n r0f)⟩ : Rgr).gs))], [H Prop fun _ => Shp rowW r0n r0f, H Prop fun _ => (⟨(Tl rowW r0n r0f)⟩ : Rgr).gs.length ≤ 8000, H Prop fun _ => Nsz (⟨(Tl rowW r0n r0f)⟩ : Rgr).gs])
  | _ => none
theorem eok_buildIS : EntryOk Tryz.prog e_buildIS := pureM_ok (by unfold isBody; kernel_rfl) (by
  intro a r ob e hob
  split at e
  · rename_i r0n r0f
    simp only [Option.some.injEq, Prod.mk.injEq] at e
    obtain ⟨rfl, rfl⟩ := e
    exact ConN.args (.cons (.agg (.cons (.toT okRW rfl hob.1) .nil)) .nil) (c_buildIS (⟨(Tl rowW r0n r0f)⟩ : Rgr) hob.2.1 hob.2.2.1)
  · simp at e)

end Go.Proofs.YtcjjffmbhionmaaGreatDoor.AM

