/- Lemmas and contracts (Ffa); conditions: none. -/
import Derived.Test.YtcjjffmbhionmaaGreatDoorK03
import Derived.Test.YtcjjffmbhionmaaGreatDoorK18
import Derived.Test.YtcjjffmbhionmaaGreatDoorK19
import Derived.Test.YtcjjffmbhionmaaGreatDoorK23
set_option linter.unusedVariables false
set_option linter.unusedSimpArgs false
set_option maxRecDepth 100000
set_option maxHeartbeats 4000000
set_option cbv.maxSteps 3000000
namespace Go.Proofs.YtcjjffmbhionmaaGreatDoor.AM
/- All features; conditions: none. -/
def kL : List (ByteArray × Int × Int) := [(fcT, 1, 9), (fcD, 0, 7), (fcL, 1, 4), (fcO, 0, 7), (fcK, 1, 8), (fcN, 0, 12)]
def kG (j : Nat) : ByteArray × Int × Int := kL.getD j (ByteArray.empty, 0, 0)
def kN (x : ByteArray × Int × Int) : Nat := (x.2.2 - x.2.1 + 1).toNat
def rngF (p : ByteArray) (lo : Int) (m : Nat) : List ByteArray := (List.range m).map fun k => ftX p (lo + (k : Nat))
def allFg (i : Nat) : List ByteArray := (kL.take i).flatMap fun x => rngF x.1 x.2.1 (kN x)
/-- All features in ascending order. -/
def allF : List ByteArray := srt (allFg 6)
theorem rngF_s (p : ByteArray) (lo : Int) (m : Nat) : rngF p lo (m + 1) = rngF p lo m ++ [ftX p (lo + (m : Nat))] := by simp [rngF, List.range_succ]
theorem rngF_len (p : ByteArray) (lo : Int) (m : Nat) : (rngF p lo m).length = m := by simp [rngF]
theorem kG_bd {j : Nat} (h : j < 6) : 0 ≤ (kG j).2.1 ∧ (kG j).2.1 ≤ (kG j).2.2 ∧ (kG j).2.2 ≤ 12 ∧ (kG j).1.size = 1 := by
  rcases (show j = 0 ∨ j = 1 ∨ j = 2 ∨ j = 3 ∨ j = 4 ∨ j = 5 by omega) with rfl | rfl | rfl | rfl | rfl | rfl <;> decide
theorem allFg_s {j : Nat} (h : j < 6) : allFg (j + 1) = allFg j ++ rngF (kG j).1 (kG j).2.1 (kN (kG j)) := by
  rcases (show j = 0 ∨ j = 1 ∨ j = 2 ∨ j = 3 ∨ j = 4 ∨ j = 5 by omega) with rfl | rfl | rfl | rfl | rfl | rfl <;> simp [allFg, kL, kG]
theorem allFg_len {j : Nat} (h : j ≤ 6) : (allFg j).length ≤ 13 * j := by
  induction j with
  | zero => simp [allFg]
  | succ j ih =>
    have b := kG_bd (j := j) (by omega)
    have := ih (by omega)
    rw [allFg_s (by omega), List.length_append, rngF_len]
    unfold kN
    omega
def kRow (H : Hold) (j : Nat) : List AV := [.lit (.string (H ByteArray fun _ => (kG j).1)), .lit (.int .i64 (H Int fun _ => (kG j).2.1)), .lit (.int .i64 (H Int fun _ => (kG j).2.2))]
theorem kRow_lit (H : Hold) (hH : H = stdH) : RowsEq 3 6 (kRow H) 6 (rowsOf 3 [.lit (.string fcT), .lit (.int .i64 1), .lit (.int .i64 9), .lit (.string fcD), .lit (.int .i64 0), .lit (.int .i64 7), .lit (.string fcL), .lit (.int .i64 1), .lit (.int .i64 4), .lit (.string fcO), .lit (.int .i64 0), .lit (.int .i64 7), .lit (.string fcK), .lit (.int .i64 1), .lit (.int .i64 8), .lit (.string fcN), .lit (.int .i64 0), .lit (.int .i64 12)]) := ⟨rfl, fun j hj => by
  subst hH
  rcases (show j = 0 ∨ j = 1 ∨ j = 2 ∨ j = 3 ∨ j = 4 ∨ j = 5 by omega) with rfl | rfl | rfl | rfl | rfl | rfl <;> exact ⟨rfl, rfl, fun c hc => by simp [kRow] at hc; rcases hc with rfl | rfl | rfl <;> exact .lit⟩⟩
theorem RowsEq.selfK (n : Nat) : RowsEq 3 n (kRow stdH) n (kRow stdH) := ⟨rfl, fun j _ => ⟨rfl, rfl, fun c hc => by simp [kRow] at hc; rcases hc with rfl | rfl | rfl <;> exact .lit⟩⟩
theorem c_allFeat   : ConN Tryz.prog 32 [] [] 0 (.vec 1 (stdH Nat fun _ => (allF).length) (rowsS stdH fun _ => allF)) [] [] := by
  have hB : Base Tryz.prog (tabΓ [e_itoaN, e_sortS]) tabO := base_of tabOkO (ents_cons eok_itoaN <| ents_cons eok_sortS <| ents_nil)
  refine con_m (N := 38) hB (draw_ok hB mixed) Tryz.func32 rfl rfl (fun H => []) (fun _ => []) 0 (fun H => .vec 1 (H Nat fun _ => (allF).length) (rowsS H fun _ => allF)) (fun H => []) (fun _ => []) 600 (by simp) (fun x hx => ?_) (by simp [lk]) (by omega) (by simp) ?_
  · cases hx
  intro X hX hX0 H hH
  conv in Fin.chk _ _ => cbv
  try simp only [Plain_rowsA, Plain_rowsB, Plain_rowsC, Plain_rowsF, Plain_rowsG, Plain_rowsI, Plain_rowsS, Plain_rowsU, Plain_rowsW, Fin.satC_ret, Fin.satC_br, Fin.satC_need, Fin.satC_again, AllP, and_true, true_and, upd, List.length_nil, List.length_cons, Nat.zero_add, if_true, ncast, Int.ofNat_eq_natCast]
  refine loop_d hB (draw_ok hB mixed) hX hX0 hH [0, 1, 12, 13, 14] 12 (.vec 3 6 (kRow H)) (ι := { j : Nat // j ≤ 6 }) 600 (fun j => [.r (H Nat fun _ => (allFg j.1).length) (rowsS H fun _ => allFg j.1), .i (H Int fun _ => (j.1 : Nat))]) (fun j => 6 - j.1) (⟨0, Nat.zero_le _⟩) ?_ ?_
  · (conv in matchSt _ _ _ _ => cbv); simp only [AllG, AllP, and_true, hH, stdH, Nat.le_refl, ncast, Int.ofNat_eq_natCast, vrow_I, Arm.eta2, Fld.eta, Grp.eta]
    exact ⟨RowsEq.ofT okS rfl (Shp_zero _) rfl, rfl, trivial, kRow_lit stdH rfl, rfl⟩
  · intro I hI j
    conv in Fin.chk _ _ => cbv
    try simp only [Plain_rowsA, Plain_rowsB, Plain_rowsC, Plain_rowsF, Plain_rowsG, Plain_rowsI, Plain_rowsS, Plain_rowsU, Plain_rowsW, Fin.satC_ret, Fin.satC_br, Fin.satC_need, Fin.satC_again, AllP, and_true, true_and, upd, List.length_nil, List.length_cons, Nat.zero_add, if_true, ncast, Int.ofNat_eq_natCast]
    obtain ⟨j, hj⟩ := j
    have hl := allFg_len hj
    refine ⟨fun h1 => ⟨?_, ?_⟩, fun h1 => ?_⟩
    · simp only [hH, stdH, Nat.le_refl, decide_eq_true_eq, decide_eq_false_iff_not, Bool.not_eq_true', Bool.not_eq_false', peta, ncast, Int.ofNat_eq_natCast, beq_iff_eq, bne_iff_ne, beq_eq_false_iff_ne, bne_eq_false_iff_eq, ne_eq, Classical.not_not, Int.toNat_natCast, vrow_I, Arm.eta2, Fld.eta, Grp.eta] at h1 ⊢
      omega
    · simp only [hH, stdH, Nat.le_refl, decide_eq_true_eq, decide_eq_false_iff_not, Bool.not_eq_true', Bool.not_eq_false', peta, ncast, Int.ofNat_eq_natCast, beq_iff_eq, bne_iff_ne, beq_eq_false_iff_ne, bne_eq_false_iff_eq, ne_eq, Classical.not_not, Int.toNat_natCast, vrow_I, Arm.eta2, Fld.eta, Grp.eta] at h1
      have hj6 : j < 6 := by omega
      have kb := kG_bd hj6
      have g0 : 0 ≤ kN (kG j) := Nat.zero_le _
      refine loop_c hB (draw_ok hB mixed) hX hX0 hH [0, 1, 3, 4, 12, 13, 14] (ι := { m : Nat // m ≤ kN (kG j) }) 600 (fun m => [.r (H Nat fun _ => (allFg j ++ rngF (kG j).1 (kG j).2.1 m.1).length) (rowsS H fun _ => allFg j ++ rngF (kG j).1 (kG j).2.1 m.1), .i (H Int fun _ => (kG j).2.1 + (m.1 : Nat))]) (fun m => kN (kG j) - m.1) (⟨0, g0⟩) ?_ ?_
      · (conv in matchSt _ _ _ _ => cbv); simp only [AllG, AllP, and_true, hH, stdH, Nat.le_refl, ncast, Int.ofNat_eq_natCast, vrow_I, Arm.eta2, Fld.eta, Grp.eta]
        have e1 : allFg j ++ rngF (kG j).1 (kG j).2.1 0 = allFg j := List.append_nil _
        rw [e1]
        (repeat' (with_reducible refine And.intro ?_ ?_)) <;> (first | exact True.intro | exact Eq.refl _ | exact RowsEq.selfK _ | exact RowsEq.self okS | (rw [Int.toNat_natCast]; omega))
      · intro I2 hI2 m
        conv in Fin.chk _ _ => cbv
        try simp only [Plain_rowsA, Plain_rowsB, Plain_rowsC, Plain_rowsF, Plain_rowsG, Plain_rowsI, Plain_rowsS, Plain_rowsU, Plain_rowsW, Fin.satC_ret, Fin.satC_br, Fin.satC_need, Fin.satC_again, AllP, and_true, true_and, upd, List.length_nil, List.length_cons, Nat.zero_add, if_true, ncast, Int.ofNat_eq_natCast]
        obtain ⟨m, hm⟩ := m
        have hR := rngF_len (kG j).1 (kG j).2.1 m
        have hLm : (allFg j ++ rngF (kG j).1 (kG j).2.1 m).length = (allFg j).length + m := by rw [List.length_append, hR]
        have hkN : kN (kG j) = ((kG j).2.2 - (kG j).2.1 + 1).toNat := rfl
        refine ⟨fun h2 => ⟨?_, ?_, ⟨?_, ?_⟩, ?_⟩, fun h2 => ?_⟩
        · simp only [hH, stdH, Int.toNat_natCast, decide_eq_true_eq] at h2 ⊢
          omega
        · simp only [hH, stdH, Int.toNat_natCast, decide_eq_true_eq] at h2 ⊢
          have := numD_sz4 (i := ((kG j).2.1 + (m : Int)).toNat) (by omega)
          omega
        · try simp only [hH, stdH, Nat.le_refl, decide_eq_true_eq, decide_eq_false_iff_not, Bool.not_eq_true', Bool.not_eq_false', peta, ncast, Int.ofNat_eq_natCast, beq_iff_eq, bne_iff_ne, beq_eq_false_iff_ne, bne_eq_false_iff_eq, ne_eq, Classical.not_not, Int.toNat_natCast, vrow_I, Arm.eta2, Fld.eta, Grp.eta]
        · simp only [hH, stdH, hLm]
          omega
        · simp only [hH, stdH, Int.toNat_natCast, decide_eq_true_eq] at h2
          refine ⟨⟨m + 1, by omega⟩, by simp only; omega, ?_⟩
          rw [hI2]
          (conv in matchSt _ _ _ _ => cbv); simp only [AllG, AllP, and_true, hH, stdH, Nat.le_refl, ncast, Int.ofNat_eq_natCast, vrow_I, Arm.eta2, Fld.eta, Grp.eta]
          simp only [Int.toNat_natCast]
          rw [rngF_s, ← List.append_assoc, wi (x := (kG j).2.1 + (m : Int) + 1) (by omega) (by omega)]
          (repeat' (with_reducible refine And.intro ?_ ?_)) <;> (first | exact True.intro | exact Eq.refl _ | exact RowsEq.selfK _ | exact RowsEq.snocS rfl | exact List.length_append | omega)
        · simp only [hH, stdH, Int.toNat_natCast, decide_eq_false_iff_not] at h2
          obtain rfl : m = kN (kG j) := by omega
          rw [if_neg (by decide)]
          refine ⟨⟨j + 1, by omega⟩, by simp only; omega, ?_⟩
          rw [hI]
          (conv in matchSt _ _ _ _ => cbv); simp only [AllG, AllP, and_true, hH, stdH, Nat.le_refl, ncast, Int.ofNat_eq_natCast, vrow_I, Arm.eta2, Fld.eta, Grp.eta]
          rw [w1 (by omega), allFg_s hj6]
          (repeat' (with_reducible refine And.intro ?_ ?_)) <;> (first | exact True.intro | exact Eq.refl _ | exact RowsEq.selfK _ | exact RowsEq.self okS)
    · simp only [hH, stdH, Nat.le_refl, decide_eq_true_eq, decide_eq_false_iff_not, Bool.not_eq_true', Bool.not_eq_false', peta, ncast, Int.ofNat_eq_natCast, beq_iff_eq, bne_iff_ne, beq_eq_false_iff_ne, bne_eq_false_iff_eq, ne_eq, Classical.not_not, Int.toNat_natCast, vrow_I, Arm.eta2, Fld.eta, Grp.eta] at h1
      obtain rfl : j = 6 := by omega
      have hA : allF = srt (allFg 6) := rfl
      have hsl := srt_len (allFg 6)
      subst hH
      simp only [stdH, TlS', hA]
      (repeat' (with_reducible refine And.intro ?_ ?_)) <;> (first | exact True.intro | exact Shp_rowsT okS _ (fun _ => _) | omega | skip)
      rw [← hsl]
      exact RowsEq.self okS
noncomputable def e_allFeat : Entry := pureE 32 fun H a => match a with
  | [] => some (.vec 1 (H Nat fun _ => (allF).length) (rowsS H fun _ => allF), [])
  | _ => none
theorem eok_allFeat : EntryOk Tryz.prog e_allFeat := pureM_ok (by unfold isBody; kernel_rfl) (by
  intro a r ob e hob
  split at e
  · simp only [Option.some.injEq, Prod.mk.injEq] at e
    obtain ⟨rfl, rfl⟩ := e
    exact ConN.args .nil (c_allFeat  )
  · simp at e)

end Go.Proofs.YtcjjffmbhionmaaGreatDoor.AM

