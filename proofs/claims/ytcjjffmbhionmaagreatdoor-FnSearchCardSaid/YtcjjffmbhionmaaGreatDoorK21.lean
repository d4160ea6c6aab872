/- Lemmas and contracts (Rgc Ffa Ato); conditions: none. -/
import Derived.Test.YtcjjffmbhionmaaGreatDoorK03
import Derived.Test.YtcjjffmbhionmaaGreatDoorK09
import Derived.Test.YtcjjffmbhionmaaGreatDoorK13
import Derived.Test.YtcjjffmbhionmaaGreatDoorK16
import Derived.Test.YtcjjffmbhionmaaGreatDoorK17
import Derived.Test.YtcjjffmbhionmaaGreatDoorK20
import Derived.Lib.Atoi
import Derived.Lib.AtoiAll
import Derived.Lib.AtoiTie
set_option linter.unusedVariables false
set_option linter.unusedSimpArgs false
set_option maxRecDepth 100000
set_option maxHeartbeats 4000000
set_option cbv.maxSteps 3000000
namespace Go.Proofs.YtcjjffmbhionmaaGreatDoor.AM
/- Numbers of grants; conditions: none. -/
theorem hs2 {H : Hold} (hH : H = stdH) (x : ByteArray) : (H ByteArray fun _ => x) = x := by subst hH; rfl
def cnS (a : Arm) (y : Grt) : Bool := decide (dS y.arms a < 2)
def nmb (p : Grt → Bool) (l : List Grt) (i : Nat) : List Int := ((l.take i).filter p).map fun y => y.num
theorem nmb_0 (p : Grt → Bool) (l : List Grt) : nmb p l 0 = [] := by simp [nmb]
theorem nmb_s {p : Grt → Bool} {l : List Grt} {i : Nat} (h : i < l.length) : nmb p l (i + 1) = if p (l.getD i default) = true then nmb p l i ++ [(l.getD i default).num] else nmb p l i := by
  unfold nmb
  rw [List.take_succ_eq_append_getElem h, List.filter_append, List.map_append, List.getD_eq_getElem?_getD, List.getElem?_eq_getElem h, Option.getD_some]
  split <;> rename_i g <;> simp [g]
theorem nmb_le (p : Grt → Bool) (l : List Grt) (i : Nat) : (nmb p l i).length ≤ i := by
  unfold nmb
  rw [List.length_map]
  exact Nat.le_trans (List.length_filter_le _ _) (by rw [List.length_take]; omega)
theorem nmb_all (p : Grt → Bool) (l : List Grt) : nmb p l l.length = (l.filter p).map fun y => y.num := by unfold nmb; rw [List.take_length]
theorem c_l16Conflicts (r : Rgr) (a : Arm) (h0 : r.gs.length ≤ 2000000) : ConN Tryz.prog 101 [aT rowJ stdH fun _ => r, aT rowA stdH fun _ => a] [] 0 (.slc 0 0 1 (stdH Nat fun _ => (nmb (cnS a) r.gs r.gs.length).length)) [.rows 1 (stdH Nat fun _ => (nmb (cnS a) r.gs r.gs.length).length) (rowsI stdH fun _ => nmb (cnS a) r.gs r.gs.length) 3] [] := by
  have hB : Base Tryz.prog (tabΓ [e_l15Conflict]) tabO := base_of tabOkO (ents_cons eok_l15Conflict <| ents_nil)
  refine con_m (N := 33) hB (draw_ok hB mixed) Tryz.func101 rfl rfl (fun H => [aT rowJ H fun _ => r, aT rowA H fun _ => a]) (fun _ => []) 0 (fun H => .slc 0 0 1 (H Nat fun _ => (nmb (cnS a) r.gs r.gs.length).length)) (fun H => [.rows 1 (H Nat fun _ => (nmb (cnS a) r.gs r.gs.length).length) (rowsI H fun _ => nmb (cnS a) r.gs r.gs.length) 3]) (fun _ => []) 300 (by simp) (fun x hx => ?_) (by simp [lk]) (by omega) (by simp) ?_
  · simp only [zqu] at hx
    rcases hx with rfl | rfl
    · exact aT_bl okRJ _ _
    · exact aT_bl okRA _ _
  intro X hX hX0 H hH
  conv in Fin.chk _ _ => cbv
  try simp only [zqs, Plain_rowsW, zqx, AllP, zqw, upd, if_true]
  refine loop_a hB (draw_ok hB mixed) hX hX0 hH false (ι := { i : Nat // i ≤ r.gs.length }) 300 (fun i => [.r (H Nat fun _ => (nmb (cnS a) r.gs i.1).length) (rowsI H fun _ => nmb (cnS a) r.gs i.1), .i (H Int fun _ => (i.1 : Nat))]) (fun i => r.gs.length - i.1) (⟨0, by omega⟩) ?_ ?_
  · (conv in matchSt _ _ _ _ => cbv); simp only [AllG, AllP, and_true, hH, stdH, zql, ncast, zqe, zqy]
    rw [nmb_0]
    all_goals (repeat' (with_reducible refine And.intro ?_ ?_)) <;> (first | exact Eq.refl _ | exact True.intro | exact Nat.le_refl _ | exact RowsEq.self okRW | exact RowsEq.ofT okRW rfl (Shp_zero _) rfl | exact RowsEq.snoc okRW rfl | exact RowsEq.self okI | exact RowsEq.ofT okI rfl (Shp_zero _) rfl | exact RowsEq.snoc okI rfl | exact RowsEq.more okI (Shp_I _ _) (Tl_I _) | exact List.length_append | exact c.rqN)
  · intro I hI i
    conv in Fin.chk _ _ => cbv
    try simp only [zqs, Plain_rowsW, zqx, AllP, zqw, upd, if_true]
    obtain ⟨i, hi⟩ := i
    have hl := nmb_le (cnS a) r.gs i
    try simp only [hetaA hH, hs2 hH]
    refine ⟨fun h1 => ⟨?_, fun h2 => ⟨?_, ?_, ?_⟩, fun h2 => ?_⟩, fun h1 => ?_⟩
    · simp only [hH, stdH, zqz, ne_eq, zqy] at h1 ⊢
      omega
    · simp only [hH, stdH, zqz, ne_eq, zqy] at h1 ⊢
      omega
    · try simp only [hH, stdH, zqz, ne_eq, zqy]
      ((repeat' (with_reducible refine And.intro ?_ ?_)) <;> (first | exact True.intro | omega | exact Eq.refl _))
    · simp only [hH, stdH, zqz, ne_eq, zqy] at h1
      simp only [hH, stdH, Int.toNat_natCast] at h2
      have h3 : (cnS a) (r.gs.getD i default) = true := h2
      refine ⟨⟨i + 1, by omega⟩, by simp only; omega, ?_⟩
      rw [hI]
      (conv in matchSt _ _ _ _ => cbv); simp only [AllG, AllP, and_true, hH, stdH, zql, ncast, zqe, zqy]
      rw [w1 (by omega), nmb_s (by omega), if_pos h3]
      all_goals (repeat' (with_reducible refine And.intro ?_ ?_)) <;> (first | exact Eq.refl _ | exact True.intro | exact Nat.le_refl _ | exact RowsEq.self okRW | exact RowsEq.ofT okRW rfl (Shp_zero _) rfl | exact RowsEq.snoc okRW rfl | exact RowsEq.self okI | exact RowsEq.ofT okI rfl (Shp_zero _) rfl | exact RowsEq.snoc okI rfl | exact RowsEq.more okI (Shp_I _ _) (Tl_I _) | exact List.length_append | exact c.rqN)
    · simp only [hH, stdH, zqz, ne_eq, zqy] at h1
      simp only [hH, stdH, Int.toNat_natCast] at h2
      have h3 : (cnS a) (r.gs.getD i default) = false := h2
      refine ⟨⟨i + 1, by omega⟩, by simp only; omega, ?_⟩
      rw [hI]
      (conv in matchSt _ _ _ _ => cbv); simp only [AllG, AllP, and_true, hH, stdH, zql, ncast, zqe, zqy]
      rw [w1 (by omega), nmb_s (by omega), if_neg (ne_true_of_eq_false h3)]
      all_goals (repeat' (with_reducible refine And.intro ?_ ?_)) <;> (first | exact Eq.refl _ | exact True.intro | exact Nat.le_refl _ | exact RowsEq.self okRW | exact RowsEq.ofT okRW rfl (Shp_zero _) rfl | exact RowsEq.snoc okRW rfl | exact RowsEq.self okI | exact RowsEq.ofT okI rfl (Shp_zero _) rfl | exact RowsEq.snoc okI rfl | exact RowsEq.more okI (Shp_I _ _) (Tl_I _) | exact List.length_append | exact c.rqN)
    · simp only [hH, stdH, zqz, ne_eq, zqy] at h1
      obtain rfl : i = r.gs.length := by omega
      try simp only [hH, stdH, zqz, ne_eq, zqy]
      exact ⟨RowsEq.self okI, trivial⟩
noncomputable def e_l16Conflicts : Entry := pureN 101 fun H a => match a with
  | [.agg [.vec 18 r0n r0f], .agg [.lit (.int .i64 a0), .lit (.int .i64 a1), .lit (.int .i64 a2), .lit (.int .i64 a3), .lit (.int .i64 a4), .lit (.int .i64 a5), .lit (.int .i64 a6), .lit (.int .i64 a7), .lit (.int .i64 a8), .lit (.int .i64 a9), .lit (.int .i64 a10), .lit (.int .i64 a11), .lit (.int .i64 a12), .lit (.int .i64 a13), .lit (.int .i64 a14)]] => some (fun nx => .slc nx 0 1 (H Nat fun _ => (nmb (cnS (⟨⟨a0, a1, a2, a3⟩, a4, a5, a6, ⟨a7, a8, a9, a10⟩, ⟨a11, a12, a13, a14⟩⟩ : Arm)) (⟨(Tl rowW r0n r0f)⟩ : Rgr).gs (⟨(Tl rowW r0n r0f)⟩ : Rgr).gs.length).length), [.rows 1 (H Nat fun _ => (nmb (cnS (⟨⟨a0, a1, a2, a3⟩, a4, a5, a6, ⟨a7, a8, a9, a10⟩, ⟨a11, a12, a13, a14⟩⟩ : Arm)) (⟨(Tl rowW r0n r0f)⟩ : Rgr).gs (⟨(Tl rowW r0n r0f)⟩ : Rgr).gs.length).length) (rowsI H fun _ => nmb (cnS (⟨⟨a0, a1, a2, a3⟩, a4, a5, a6, ⟨a7, a8, a9, a10⟩, ⟨a11, a12, a13, a14⟩⟩ : Arm)) (⟨(Tl rowW r0n r0f)⟩ : Rgr).gs (⟨(Tl rowW r0n r0f)⟩ : Rgr).gs.length) 3], [H Prop fun _ => Shp rowW r0n r0f, H Prop fun _ => (⟨(Tl rowW r0n r0f)⟩ : Rgr).gs.length ≤ 2000000])
  | _ => none
theorem eok_l16Conflicts : EntryOk Tryz.prog e_l16Conflicts := pureN_ok (by unfold isBody; kernel_rfl) (by
  intro a r nb ob e hob
  split at e
  · rename_i r0n r0f a0 a1 a2 a3 a4 a5 a6 a7 a8 a9 a10 a11 a12 a13 a14
    simp only [zqt] at e
    obtain ⟨rfl, rfl, rfl⟩ := e
    refine ⟨ConN.args (.cons (.agg (.cons (.toT okRW rfl hob.1) .nil)) (.cons .rfl .nil)) (c_l16Conflicts (⟨(Tl rowW r0n r0f)⟩ : Rgr) (⟨⟨a0, a1, a2, a3⟩, a4, a5, a6, ⟨a7, a8, a9, a10⟩, ⟨a11, a12, a13, a14⟩⟩ : Arm) hob.2.1), fun x hx => ?_, fun nx => ?_, fun b hb => ?_⟩
    · simp only [zqu] at hx
      rcases hx with rfl | rfl
      · exact (.agg fun c hc => (by
        simp only [zqu] at hc
        rcases hc with rfl
        · exact (hob.1).bl okRW _))
      · exact blq_ok 4 rfl
    · (first | exact .slc ⟨by omega, by simp⟩ (by omega) | (refine .tup rfl (fun c x y hx hy => ?_); rcases c with _ | _ | _ | c <;> simp at hx hy <;> (subst hx; subst hy; first | exact .slc ⟨by omega, by simp⟩ (by omega) | exact .pl .lit | exact .pl (blq_ok 4 rfl) | (refine .agg rfl (fun c x y hx hy => ?_); rcases c with _ | _ | _ | c <;> simp at hx hy <;> (subst hx; subst hy; first | exact .slc ⟨by omega, by simp⟩ (by omega) | exact .pl .lit | exact .pl (blq_ok 4 rfl))))) | (refine .agg rfl (fun c x y hx hy => ?_); rcases c with _ | _ | _ | c <;> simp at hx hy <;> (subst hx; subst hy; first | exact .slc ⟨by omega, by simp⟩ (by omega) | exact .pl .lit | exact .pl (blq_ok 4 rfl))))
    · simp only [zqu] at hb; subst hb; exact bT_bl okI _ (fun _ => nmb (cnS (⟨⟨a0, a1, a2, a3⟩, a4, a5, a6, ⟨a7, a8, a9, a10⟩, ⟨a11, a12, a13, a14⟩⟩ : Arm)) (⟨(Tl rowW r0n r0f)⟩ : Rgr).gs (⟨(Tl rowW r0n r0f)⟩ : Rgr).gs.length) _
  · simp at e)

end Go.Proofs.YtcjjffmbhionmaaGreatDoor.AM

set_option maxRecDepth 100000
set_option maxHeartbeats 4000000
set_option cbv.maxSteps 3000000
namespace Go.Proofs.YtcjjffmbhionmaaGreatDoor.AM
/- All features; conditions: none. -/
def kL : List (ByteArray × Int × Int) := [(fcT, 1, 9), (fcD, 0, 7), (fcL, 1, 4), (fcO, 0, 7), (fcK, 1, 8), (fcN, 0, 12)]
def kG (j : Nat) : ByteArray × Int × Int := kL.getD j (ByteArray.empty, 0, 0)
def kN (x : ByteArray × Int × Int) : Nat := (x.2.2 - x.2.1 + 1).toNat
def rngF (p : ByteArray) (lo : Int) (m : Nat) : List ByteArray := (List.range m).map fun k => ftX p (lo + (k : Nat))
def allFg (i : Nat) : List ByteArray := (kL.take i).flatMap fun x => rngF x.1 x.2.1 (kN x)
def allF : List ByteArray := srt (allFg 6)
theorem rngF_s (p : ByteArray) (lo : Int) (m : Nat) : rngF p lo (m + 1) = rngF p lo m ++ [ftX p (lo + (m : Nat))] := by simp [rngF, List.range_succ]
theorem rngF_len (p : ByteArray) (lo : Int) (m : Nat) : (rngF p lo m).length = m := by simp [rngF]
theorem kG_bd {j : Nat} (h : j < 6) : 0 ≤ (kG j).2.1 ∧ (kG j).2.1 ≤ (kG j).2.2 ∧ (kG j).2.2 ≤ 12 ∧ (kG j).1.size = 1 := by
  rcases (show j = 0 ∨ j = 1 ∨ j = 2 ∨ j = 3 ∨ j = 4 ∨ j = 5 by omega) with rfl | rfl | rfl | rfl | rfl | rfl <;> decide
theorem allFg_s {j : Nat} (h : j < 6) : allFg (j + 1) = allFg j ++ rngF (kG j).1 (kG j).2.1 (kN (kG j)) := by
  rcases (show j = 0 ∨ j = 1 ∨ j = 2 ∨ j = 3 ∨ j = 4 ∨ j = 5 by omega) with rfl | rfl | rfl | rfl | rfl | rfl <;> simp [allFg, kL, kG]
theorem allFg_len {j : Nat} (h : j ≤ 6) : (allFg j).length ≤ 13 * j := by
  induction j with
  | zero => simp [allFg]
  | succ j ih =>
    have b := kG_bd (j := j) (by omega)
    have := ih (by omega)
    rw [allFg_s (by omega), List.length_append, rngF_len]
    unfold kN
    omega
def kRow (H : Hold) (j : Nat) : List AV := [.lit (.string (H ByteArray fun _ => (kG j).1)), .lit (.int .i64 (H Int fun _ => (kG j).2.1)), .lit (.int .i64 (H Int fun _ => (kG j).2.2))]
theorem kRow_lit (H : Hold) (hH : H = stdH) : RowsEq 3 6 (kRow H) 6 (rowsOf 3 [.lit (.string fcT), .lit (.int .i64 1), .lit (.int .i64 9), .lit (.string fcD), .lit (.int .i64 0), .lit (.int .i64 7), .lit (.string fcL), .lit (.int .i64 1), .lit (.int .i64 4), .lit (.string fcO), .lit (.int .i64 0), .lit (.int .i64 7), .lit (.string fcK), .lit (.int .i64 1), .lit (.int .i64 8), .lit (.string fcN), .lit (.int .i64 0), .lit (.int .i64 12)]) := ⟨rfl, fun j hj => by
  subst hH
  rcases (show j = 0 ∨ j = 1 ∨ j = 2 ∨ j = 3 ∨ j = 4 ∨ j = 5 by omega) with rfl | rfl | rfl | rfl | rfl | rfl <;> exact ⟨rfl, rfl, fun c hc => by simp [kRow] at hc; rcases hc with rfl | rfl | rfl <;> exact .lit⟩⟩
theorem RowsEq.selfK (n : Nat) : RowsEq 3 n (kRow stdH) n (kRow stdH) := ⟨rfl, fun j _ => ⟨rfl, rfl, fun c hc => by simp [kRow] at hc; rcases hc with rfl | rfl | rfl <;> exact .lit⟩⟩
theorem c_allFeat   : ConN Tryz.prog 32 [] [] 0 (.vec 1 (stdH Nat fun _ => (allF).length) (rowsS stdH fun _ => allF)) [] [] := by
  have hB : Base Tryz.prog (tabΓ [e_itoaN, e_sortS]) tabO := base_of tabOkO (ents_cons eok_itoaN <| ents_cons eok_sortS <| ents_nil)
  refine con_m (N := 38) hB (draw_ok hB mixed) Tryz.func32 rfl rfl (fun H => []) (fun _ => []) 0 (fun H => .vec 1 (H Nat fun _ => (allF).length) (rowsS H fun _ => allF)) (fun H => []) (fun _ => []) 600 (by simp) (fun x hx => ?_) (by simp [lk]) (by omega) (by simp) ?_
  · cases hx
  intro X hX hX0 H hH
  conv in Fin.chk _ _ => cbv
  try simp only [zqs, Plain_rowsC, Plain_rowsW, zqx, AllP, zqw, upd, if_true]
  refine loop_d hB (draw_ok hB mixed) hX hX0 hH [0, 1, 12, 13, 14] 12 (.vec 3 6 (kRow H)) (ι := { j : Nat // j ≤ 6 }) 600 (fun j => [.r (H Nat fun _ => (allFg j.1).length) (rowsS H fun _ => allFg j.1), .i (H Int fun _ => (j.1 : Nat))]) (fun j => 6 - j.1) (⟨0, Nat.zero_le _⟩) ?_ ?_
  · (conv in matchSt _ _ _ _ => cbv); simp only [AllG, AllP, and_true, hH, stdH, zql, ncast, zqe, zqy]
    exact ⟨RowsEq.ofT okS rfl (Shp_zero _) rfl, rfl, trivial, kRow_lit stdH rfl, rfl⟩
  · intro I hI j
    conv in Fin.chk _ _ => cbv
    try simp only [zqs, Plain_rowsC, Plain_rowsW, zqx, AllP, zqw, upd, if_true]
    obtain ⟨j, hj⟩ := j
    have hl := allFg_len hj
    refine ⟨fun h1 => ⟨?_, ?_⟩, fun h1 => ?_⟩
    · simp only [hH, stdH, zqz, ne_eq, zqy] at h1 ⊢
      omega
    · simp only [hH, stdH, zqz, ne_eq, zqy] at h1
      have hj6 : j < 6 := by omega
      have kb := kG_bd hj6
      have g0 : 0 ≤ kN (kG j) := Nat.zero_le _
      refine loop_c hB (draw_ok hB mixed) hX hX0 hH [0, 1, 3, 4, 12, 13, 14] (ι := { m : Nat // m ≤ kN (kG j) }) 600 (fun m => [.r (H Nat fun _ => (allFg j ++ rngF (kG j).1 (kG j).2.1 m.1).length) (rowsS H fun _ => allFg j ++ rngF (kG j).1 (kG j).2.1 m.1), .i (H Int fun _ => (kG j).2.1 + (m.1 : Nat))]) (fun m => kN (kG j) - m.1) (⟨0, g0⟩) ?_ ?_
      · (conv in matchSt _ _ _ _ => cbv); simp only [AllG, AllP, and_true, hH, stdH, zql, ncast, zqe, zqy]
        have e1 : allFg j ++ rngF (kG j).1 (kG j).2.1 0 = allFg j := List.append_nil _
        rw [e1]
        (repeat' (with_reducible refine And.intro ?_ ?_)) <;> (first | exact True.intro | exact Eq.refl _ | exact RowsEq.selfK _ | exact RowsEq.self okS | (rw [Int.toNat_natCast]; omega))
      · intro I2 hI2 m
        conv in Fin.chk _ _ => cbv
        try simp only [zqs, Plain_rowsC, Plain_rowsW, zqx, AllP, zqw, upd, if_true]
        obtain ⟨m, hm⟩ := m
        have hR := rngF_len (kG j).1 (kG j).2.1 m
        have hLm : (allFg j ++ rngF (kG j).1 (kG j).2.1 m).length = (allFg j).length + m := by rw [List.length_append, hR]
        have hkN : kN (kG j) = ((kG j).2.2 - (kG j).2.1 + 1).toNat := rfl
        refine ⟨fun h2 => ⟨?_, ?_, ⟨?_, ?_⟩, ?_⟩, fun h2 => ?_⟩
        · simp only [hH, stdH, Int.toNat_natCast, decide_eq_true_eq] at h2 ⊢
          omega
        · simp only [hH, stdH, Int.toNat_natCast, decide_eq_true_eq] at h2 ⊢
          have := numD_sz4 (i := ((kG j).2.1 + (m : Int)).toNat) (by omega)
          omega
        · try simp only [hH, stdH, zqz, ne_eq, zqy]
        · simp only [hH, stdH, hLm]
          omega
        · simp only [hH, stdH, Int.toNat_natCast, decide_eq_true_eq] at h2
          refine ⟨⟨m + 1, by omega⟩, by simp only; omega, ?_⟩
          rw [hI2]
          (conv in matchSt _ _ _ _ => cbv); simp only [AllG, AllP, and_true, hH, stdH, zql, ncast, zqe, zqy]
          simp only [Int.toNat_natCast]
          rw [rngF_s, ← List.append_assoc, wi (x := (kG j).2.1 + (m : Int) + 1) (by omega) (by omega)]
          (repeat' (with_reducible refine And.intro ?_ ?_)) <;> (first | exact True.intro | exact Eq.refl _ | exact RowsEq.selfK _ | exact RowsEq.snocS rfl | exact List.length_append | omega)
        · simp only [hH, stdH, Int.toNat_natCast, decide_eq_false_iff_not] at h2
          obtain rfl : m = kN (kG j) := by omega
          rw [if_neg (by decide)]
          refine ⟨⟨j + 1, by omega⟩, by simp only; omega, ?_⟩
          rw [hI]
          (conv in matchSt _ _ _ _ => cbv); simp only [AllG, AllP, and_true, hH, stdH, zql, ncast, zqe, zqy]
          rw [w1 (by omega), allFg_s hj6]
          (repeat' (with_reducible refine And.intro ?_ ?_)) <;> (first | exact True.intro | exact Eq.refl _ | exact RowsEq.selfK _ | exact RowsEq.self okS)
    · simp only [hH, stdH, zqz, ne_eq, zqy] at h1
      obtain rfl : j = 6 := by omega
      have hA : allF = srt (allFg 6) := rfl
      have hsl := srt_len (allFg 6)
      subst hH
      simp only [stdH, TlS', hA]
      (repeat' (with_reducible refine And.intro ?_ ?_)) <;> (first | exact True.intro | exact Shp_rowsT okS _ (fun _ => _) | omega | skip)
      rw [← hsl]
      exact RowsEq.self okS
noncomputable def e_allFeat : Entry := pureE 32 fun H a => match a with
  | [] => some (.vec 1 (H Nat fun _ => (allF).length) (rowsS H fun _ => allF), [])
  | _ => none
theorem eok_allFeat : EntryOk Tryz.prog e_allFeat := pureM_ok (by unfold isBody; kernel_rfl) (by
  intro a r ob e hob
  split at e
  · simp only [zqt] at e
    obtain ⟨rfl, rfl⟩ := e
    exact ConN.args .nil (c_allFeat  )
  · simp at e)

end Go.Proofs.YtcjjffmbhionmaaGreatDoor.AM

set_option maxRecDepth 100000
set_option maxHeartbeats 4000000
set_option cbv.maxSteps 3000000
namespace Go.Proofs.YtcjjffmbhionmaaGreatDoor.AM
/- Numbers out of texts, by the library; conditions: none. -/
/-! ### Numerals -/
theorem decFrom_snoc (b : UInt8) : ∀ (l : List UInt8) (acc : Nat), Lib.decFrom acc (l ++ [b]) = (Lib.decFrom acc l).bind fun n => (Lib.digitVal b).map fun d => n * 10 + d
  | [], acc => by
    simp only [List.nil_append, Lib.decFrom, Option.bind_some]
    cases Lib.digitVal b <;> rfl
  | c :: l, acc => by
    simp only [List.cons_append, Lib.decFrom]
    cases Lib.digitVal c with
    | none => rfl
    | some d => exact decFrom_snoc b l _
theorem digitVal_of {d : Nat} (h : d < 10) : Lib.digitVal (UInt8.ofNat (48 + d)) = some d := by
  have : ∀ d : Nat, d < 10 → Lib.digitVal (UInt8.ofNat (48 + d)) = some d := by decide
  exact this d h
theorem numD_l1 {i : Nat} (h : i < 10) : (numD i).data.toList = [UInt8.ofNat (48 + i)] := by rw [numD_one h]
theorem numD_ls {i : Nat} (h : ¬ i < 10) : (numD i).data.toList = (numD (i / 10)).data.toList ++ [UInt8.ofNat (48 + i % 10)] := by
  rw [numD_step h, ByteArray.toList_data_append]
theorem numD_dec (i : Nat) : Lib.decFrom 0 (numD i).data.toList = some i := by
  induction i using Nat.strongRecOn with
  | _ i ih =>
    by_cases h : i < 10
    · rw [numD_l1 h]
      simp only [Lib.decFrom, digitVal_of h]
      simp
    · rw [numD_ls h, decFrom_snoc, ih (i / 10) (by omega), digitVal_of (by omega)]
      simp only [Option.bind_some, Option.map_some, Option.some.injEq]
      omega
theorem numD_head (i : Nat) : ∃ (d : Nat) (r : List UInt8), d < 10 ∧ (numD i).data.toList = UInt8.ofNat (48 + d) :: r := by
  induction i using Nat.strongRecOn with
  | _ i ih =>
    by_cases h : i < 10
    · exact ⟨i, [], h, numD_l1 h⟩
    · obtain ⟨d, r, h1, h2⟩ := ih (i / 10) (by omega)
      exact ⟨d, r ++ [UInt8.ofNat (48 + i % 10)], h1, by rw [numD_ls h, h2]; rfl⟩
end Go.Proofs.YtcjjffmbhionmaaGreatDoor.AM

