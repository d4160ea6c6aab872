/- Lemmas and contracts (Rdn); conditions: none. -/
import Derived.Test.YtcjjffmbhionmaaGreatDoorK03
import Derived.Test.YtcjjffmbhionmaaGreatDoorK09
import Derived.Test.YtcjjffmbhionmaaGreatDoorK21
set_option linter.unusedVariables false
set_option linter.unusedSimpArgs false
set_option maxRecDepth 100000
set_option maxHeartbeats 4000000
set_option cbv.maxSteps 3000000
namespace Go.Proofs.YtcjjffmbhionmaaGreatDoor.AM
/- Numbers read by the reference; conditions: none. -/
theorem numD_sz5 {i : Nat} (h : i < 100000) : (numD i).size ≤ 5 := by
  by_cases h1 : i < 10000
  · exact Nat.le_trans (numD_sz4 h1) (by omega)
  · rw [numD_step (by omega), ByteArray.size_append]
    exact Nat.add_le_add_right (numD_sz4 (i := i / 10) (by omega)) 1
theorem numD_sz6 {i : Nat} (h : i < 1000000) : (numD i).size ≤ 6 := by
  by_cases h1 : i < 100000
  · exact Nat.le_trans (numD_sz5 h1) (by omega)
  · rw [numD_step (by omega), ByteArray.size_append]
    exact Nat.add_le_add_right (numD_sz5 (i := i / 10) (by omega)) 1
theorem c_l1NumE (x : Int) (h0 : 0 ≤ x ∧ x ≤ 99999) : ConN Tryz.prog 80 [.lit (.int .i64 x)] [] 0 (.lit (.string (stdH ByteArray fun _ => numD (x).toNat))) [] [] := by
  have hB : Base Tryz.prog (tabΓ [e_l1NumD]) tab := base_of tabOk (ents_cons eok_l1NumD <| ents_nil)
  refine con_m (N := 25) hB (draw_ok hB mixed) Tryz.func80 rfl rfl (fun H => [.lit (.int .i64 x)]) (fun _ => []) 0 (fun H => .lit (.string (H ByteArray fun _ => numD (x).toNat))) (fun H => []) (fun _ => []) 200 (by simp) (fun x hx => ?_) (by simp [lk]) (by omega) (by simp) ?_
  · simp only [zqu] at hx
    rcases hx with rfl
    · exact .lit
  intro X hX hX0 H hH
  conv in Fin.chk _ _ => cbv
  try simp only [zqs, Plain_rowsC, zqx, AllP, zqw, upd, if_true]
  subst hH
  simp only [stdH, decide_eq_true_eq, decide_eq_false_iff_not]
  have e1 : 0 ≤ x ∧ x ≤ 9 → IntKind.i64.wrap (x + 1) = x + 1 := fun h => wi (by omega) (by omega)
  have e2 : (x.tmod 10) = x % 10 := Int.tmod_eq_emod_of_nonneg (by omega)
  have e3 : (x.tdiv 10) = x / 10 := Int.tdiv_eq_ediv_of_nonneg (by omega)
  have e4 : IntKind.i64.wrap (x % 10 + 1) = x % 10 + 1 := wi (by omega) (by omega)
  have e5 : IntKind.i64.wrap (x / 10) = x / 10 := wi (by omega) (by omega)
  have e6 : ((⟨⟨[48, 49, 50, 51, 52, 53, 54, 55, 56, 57]⟩⟩ : ByteArray)).size = 10 := rfl
  have hx : (x % 10).toNat < 10 := by omega
  have e7 : (x % 10 + 1).toNat = (x % 10).toNat + 1 := by omega
  simp only [e2, e3, e4, e5, e6]
  simp only [loOf, hiOf, okB, e7, dig_at hx]
  refine ⟨fun h => ?_, fun h => ⟨fun h2 => ?_, fun h2 => ?_⟩⟩
  · omega
  · rw [e1 (by omega), show (x + 1).toNat = x.toNat + 1 by omega, dig_at (by omega), numD_one (by omega)]
    exact ⟨⟨by omega, by omega, by omega, by omega⟩, rfl⟩
  · have s1 := numD_sz4 (i := (x / 10).toNat) (by omega)
    refine ⟨by omega, by omega, by omega, by omega, ⟨by omega, by omega, by omega, by omega⟩, ?_, ?_⟩
    · show _ + 1 ≤ _
      omega
    · rw [numD_step (by omega), show (x / 10).toNat = x.toNat / 10 by omega, show (x % 10).toNat = x.toNat % 10 by omega]
noncomputable def e_l1NumE : Entry := pureE 80 fun H a => match a with
  | [.lit (.int .i64 x)] => some (.lit (.string (H ByteArray fun _ => numD (x).toNat)), [H Prop fun _ => 0 ≤ x ∧ x ≤ 99999])
  | _ => none
theorem eok_l1NumE : EntryOk Tryz.prog e_l1NumE := pureM_ok (by unfold isBody; kernel_rfl) (by
  intro a r ob e hob
  split at e
  · rename_i x
    simp only [zqt] at e
    obtain ⟨rfl, rfl⟩ := e
    exact ConN.args (.cons .rfl .nil) (c_l1NumE x hob.1)
  · simp at e)
theorem c_l1NumF (x : Int) (h0 : 0 ≤ x ∧ x ≤ 999999) : ConN Tryz.prog 80 [.lit (.int .i64 x)] [] 0 (.lit (.string (stdH ByteArray fun _ => numD (x).toNat))) [] [] := by
  have hB : Base Tryz.prog (tabΓ [e_l1NumE]) tab := base_of tabOk (ents_cons eok_l1NumE <| ents_nil)
  refine con_m (N := 25) hB (draw_ok hB mixed) Tryz.func80 rfl rfl (fun H => [.lit (.int .i64 x)]) (fun _ => []) 0 (fun H => .lit (.string (H ByteArray fun _ => numD (x).toNat))) (fun H => []) (fun _ => []) 200 (by simp) (fun x hx => ?_) (by simp [lk]) (by omega) (by simp) ?_
  · simp only [zqu] at hx
    rcases hx with rfl
    · exact .lit
  intro X hX hX0 H hH
  conv in Fin.chk _ _ => cbv
  try simp only [zqs, Plain_rowsC, zqx, AllP, zqw, upd, if_true]
  subst hH
  simp only [stdH, decide_eq_true_eq, decide_eq_false_iff_not]
  have e1 : 0 ≤ x ∧ x ≤ 9 → IntKind.i64.wrap (x + 1) = x + 1 := fun h => wi (by omega) (by omega)
  have e2 : (x.tmod 10) = x % 10 := Int.tmod_eq_emod_of_nonneg (by omega)
  have e3 : (x.tdiv 10) = x / 10 := Int.tdiv_eq_ediv_of_nonneg (by omega)
  have e4 : IntKind.i64.wrap (x % 10 + 1) = x % 10 + 1 := wi (by omega) (by omega)
  have e5 : IntKind.i64.wrap (x / 10) = x / 10 := wi (by omega) (by omega)
  have e6 : ((⟨⟨[48, 49, 50, 51, 52, 53, 54, 55, 56, 57]⟩⟩ : ByteArray)).size = 10 := rfl
  have hx : (x % 10).toNat < 10 := by omega
  have e7 : (x % 10 + 1).toNat = (x % 10).toNat + 1 := by omega
  simp only [e2, e3, e4, e5, e6]
  simp only [loOf, hiOf, okB, e7, dig_at hx]
  refine ⟨fun h => ?_, fun h => ⟨fun h2 => ?_, fun h2 => ?_⟩⟩
  · omega
  · rw [e1 (by omega), show (x + 1).toNat = x.toNat + 1 by omega, dig_at (by omega), numD_one (by omega)]
    exact ⟨⟨by omega, by omega, by omega, by omega⟩, rfl⟩
  · have s1 := numD_sz5 (i := (x / 10).toNat) (by omega)
    refine ⟨by omega, by omega, by omega, by omega, ⟨by omega, by omega, by omega, by omega⟩, ?_, ?_⟩
    · show _ + 1 ≤ _
      omega
    · rw [numD_step (by omega), show (x / 10).toNat = x.toNat / 10 by omega, show (x % 10).toNat = x.toNat % 10 by omega]
noncomputable def e_l1NumF : Entry := pureE 80 fun H a => match a with
  | [.lit (.int .i64 x)] => some (.lit (.string (H ByteArray fun _ => numD (x).toNat)), [H Prop fun _ => 0 ≤ x ∧ x ≤ 999999])
  | _ => none
theorem eok_l1NumF : EntryOk Tryz.prog e_l1NumF := pureM_ok (by unfold isBody; kernel_rfl) (by
  intro a r ob e hob
  split at e
  · rename_i x
    simp only [zqt] at e
    obtain ⟨rfl, rfl⟩ := e
    exact ConN.args (.cons .rfl .nil) (c_l1NumF x hob.1)
  · simp at e)
def numI (x : Int) : ByteArray := if x < 0 then (⟨⟨[45]⟩⟩ : ByteArray) ++ numD (-x).toNat else numD x.toNat
theorem numI_n {x : Int} (h : x < 0) : numI x = (⟨⟨[45]⟩⟩ : ByteArray) ++ numD (-x).toNat := if_pos h
theorem numI_p {x : Int} (h : ¬ x < 0) : numI x = numD x.toNat := if_neg h
theorem c_l1NumG (x : Int) (h0 : -999999 ≤ x ∧ x ≤ 999999) : ConN Tryz.prog 80 [.lit (.int .i64 x)] [] 0 (.lit (.string (stdH ByteArray fun _ => numI x))) [] [] := by
  have hB : Base Tryz.prog (tabΓ [e_l1NumF]) tab := base_of tabOk (ents_cons eok_l1NumF <| ents_nil)
  refine con_m (N := 25) hB (draw_ok hB mixed) Tryz.func80 rfl rfl (fun H => [.lit (.int .i64 x)]) (fun _ => []) 0 (fun H => .lit (.string (H ByteArray fun _ => numI x))) (fun H => []) (fun _ => []) 200 (by simp) (fun x hx => ?_) (by simp [lk]) (by omega) (by simp) ?_
  · simp only [zqu] at hx
    rcases hx with rfl
    · exact .lit
  intro X hX hX0 H hH
  conv in Fin.chk _ _ => cbv
  try simp only [zqs, Plain_rowsC, zqx, AllP, zqw, upd, if_true]
  subst hH
  simp only [stdH, decide_eq_true_eq, decide_eq_false_iff_not]
  refine ⟨fun h => ?_, fun h => ?_⟩
  · have e5 : IntKind.i64.wrap (0 - x) = -x := by rw [wi (by omega) (by omega)]; omega
    have s1 := numD_sz6 (i := (-x).toNat) (by omega)
    rw [e5, numI_n h]
    exact ⟨by omega, by show 1 + _ ≤ _; omega, rfl⟩
  · rw [numI_p h]
    have e1 : 0 ≤ x ∧ x ≤ 9 → IntKind.i64.wrap (x + 1) = x + 1 := fun h => wi (by omega) (by omega)
    have e2 : (x.tmod 10) = x % 10 := Int.tmod_eq_emod_of_nonneg (by omega)
    have e3 : (x.tdiv 10) = x / 10 := Int.tdiv_eq_ediv_of_nonneg (by omega)
    have e4 : IntKind.i64.wrap (x % 10 + 1) = x % 10 + 1 := wi (by omega) (by omega)
    have e5 : IntKind.i64.wrap (x / 10) = x / 10 := wi (by omega) (by omega)
    have e6 : ((⟨⟨[48, 49, 50, 51, 52, 53, 54, 55, 56, 57]⟩⟩ : ByteArray)).size = 10 := rfl
    have hx : (x % 10).toNat < 10 := by omega
    have e7 : (x % 10 + 1).toNat = (x % 10).toNat + 1 := by omega
    simp only [e2, e3, e4, e5, e6]
    simp only [loOf, hiOf, okB, e7, dig_at hx]
    refine ⟨fun h2 => ?_, fun h2 => ?_⟩
    · rw [e1 (by omega), show (x + 1).toNat = x.toNat + 1 by omega, dig_at (by omega), numD_one (by omega)]
      exact ⟨⟨by omega, by omega, by omega, by omega⟩, rfl⟩
    · have s1 := numD_sz5 (i := (x / 10).toNat) (by omega)
      refine ⟨by omega, by omega, by omega, by omega, ⟨by omega, by omega, by omega, by omega⟩, ?_, ?_⟩
      · show _ + 1 ≤ _
        omega
      · rw [numD_step (by omega), show (x / 10).toNat = x.toNat / 10 by omega, show (x % 10).toNat = x.toNat % 10 by omega]
noncomputable def e_l1NumG : Entry := pureE 80 fun H a => match a with
  | [.lit (.int .i64 x)] => some (.lit (.string (H ByteArray fun _ => numI x)), [H Prop fun _ => -999999 ≤ x ∧ x ≤ 999999])
  | _ => none
theorem eok_l1NumG : EntryOk Tryz.prog e_l1NumG := pureM_ok (by unfold isBody; kernel_rfl) (by
  intro a r ob e hob
  split at e
  · rename_i x
    simp only [zqt] at e
    obtain ⟨rfl, rfl⟩ := e
    exact ConN.args (.cons .rfl .nil) (c_l1NumG x hob.1)
  · simp at e)
def rdT (s : ByteArray) : ByteArray := if 1 < s.size ∧ sByte s 0 = 45 then s.extract 1 s.size else s
def rdD (s : ByteArray) : Nat := (Lib.decFrom 0 (rdT s).data.toList).getD 0
def rdM (s : ByteArray) : Int := if (rdT s).size < s.size then -((rdD s : Nat) : Int) else (rdD s : Nat)
def rdO (s : ByteArray) : Bool := decide (1 ≤ (rdT s).size ∧ (rdT s).size ≤ 6) && ((Lib.decFrom 0 (rdT s).data.toList).isSome && decide (numI (rdM s) = s))
def rdV (s : ByteArray) : Int := if rdO s = true then rdM s else 0
theorem rdV_no {s : ByteArray} (h : rdO s = false) : rdV s = 0 := if_neg (by rw [h]; simp)
theorem rdO_sz {s : ByteArray} (h : ¬ (1 ≤ (rdT s).size ∧ (rdT s).size ≤ 6)) : rdO s = false := by unfold rdO; rw [decide_eq_false h]; rfl
theorem rdO_dec {s : ByteArray} (h : Lib.decFrom 0 (rdT s).data.toList = none) : rdO s = false := by unfold rdO; rw [h]; simp
theorem rd_end {s : ByteArray} {n : Nat} {v : Int} (hs : 1 ≤ (rdT s).size ∧ (rdT s).size ≤ 6) (h : Lib.decFrom 0 (rdT s).data.toList = some n) (hv : v = if (rdT s).size < s.size then -(n : Int) else n) : rdO s = decide (numI v = s) ∧ (numI v = s → rdV s = v) := by
  have e1 : rdM s = v := by unfold rdM rdD; rw [h, hv]; rfl
  have e2 : rdO s = decide (numI v = s) := by unfold rdO; rw [h, e1, decide_eq_true hs]; rfl
  refine ⟨e2, fun q => ?_⟩
  unfold rdV
  rw [e2, decide_eq_true q, if_pos rfl, e1]
theorem dec_no {l : List UInt8} {k n : Nat} {b : UInt8} (h : Lib.decFrom 0 (l.take k) = some n) (hb : l[k]? = some b) (hd : Lib.digitVal b = none) : Lib.decFrom 0 l = none := by
  cases e : Lib.decFrom 0 l with
  | none => rfl
  | some m =>
    obtain ⟨q, hq⟩ := Lib.decFrom_prefix l 0 m e (k + 1)
    obtain ⟨hk, hb⟩ := List.getElem?_eq_some_iff.1 hb
    rw [List.take_succ_eq_append_getElem hk, decFrom_snoc, h, hb, hd] at hq
    cases hq
theorem dig_lo {b : UInt8} (h : b.toNat < 48 ∨ 57 < b.toNat) : Lib.digitVal b = none := if_neg (by omega)
theorem dig_in {b : UInt8} (h : 48 ≤ b.toNat ∧ b.toNat ≤ 57) : Lib.digitVal b = some (b.toNat - 48) := if_pos h
theorem tkAll (s : ByteArray) : s.data.toList.take s.size = s.data.toList := List.take_of_length_le (Nat.le_refl _)
theorem c_l1Read (s : ByteArray) (h0 : s.size ≤ 2000000) : ConN Tryz.prog 49 [.lit (.string s)] [] 0 (.tup [.lit (.int .i64 (stdH Int fun _ => rdV s)), .lit (.bool (stdH Bool fun _ => rdO s))]) [] [] := by
  have hB : Base Tryz.prog (tabΓ [e_l1NumG, e_l1In]) tab := base_of tabOk (ents_cons eok_l1NumG <| ents_cons eok_l1In <| ents_nil)
  refine con_m (N := 58) hB (draw_ok hB mixed) Tryz.func49 rfl rfl (fun H => [.lit (.string s)]) (fun _ => []) 0 (fun H => .tup [.lit (.int .i64 (H Int fun _ => rdV s)), .lit (.bool (H Bool fun _ => rdO s))]) (fun H => []) (fun _ => []) 300 (by simp) (fun x hx => ?_) (by simp [lk]) (by omega) (by simp) ?_
  · simp only [zqu] at hx
    rcases hx with rfl
    · exact .lit
  intro X hX hX0 H hH
  conv in Fin.chk _ _ => cbv
  try simp only [zqs, Plain_rowsC, zqx, AllP, zqw, upd, if_true]
  have hz : Int.toNat 0 = 0 := rfl
  refine ⟨?_, fun h1 => ⟨?_, fun h2 => ?_, fun h2 => ?_⟩, fun h1 => ⟨fun h2 => ?_, fun h2 => ?_⟩⟩
  · simp only [hH, stdH, decide_eq_true_eq]
    intro h
    omega
  · simp only [hH, stdH] at h1 ⊢
    by_cases q : (1 : Int) < s.size
    · exact ⟨by decide, trivial, by show 1 ≤ s.size; omega, Nat.le_refl _⟩
    · rw [decide_eq_false q] at h1; cases h1
  · obtain ⟨T, hT⟩ : ∃ T, s.extract (loOf (some 1)) (hiOf s.size none) = T := ⟨_, rfl⟩
    simp only [hH, stdH, hT] at h1 h2 ⊢
    have hr : rdT s = T := by
      rw [← hT]
      refine if_pos ?_
      by_cases q : (1 : Int) < s.size
      · rw [decide_eq_true q, cond_true, beq_iff_eq] at h1
        exact ⟨by omega, h1⟩
      · rw [decide_eq_false q] at h1; cases h1
    have h3 : rdO s = false := rdO_sz (by
      rw [hr]
      rw [Bool.not_eq_true', inB, decide_eq_false_iff_not] at h2
      omega)
    exact ⟨h3, rdV_no h3⟩
  · obtain ⟨T, hT⟩ : ∃ T, s.extract (loOf (some 1)) (hiOf s.size none) = T := ⟨_, rfl⟩
    simp only [hT] at h2 ⊢
    have hr : rdT s = T := by
      simp only [hH, stdH] at h1
      rw [← hT]
      refine if_pos ?_
      by_cases q : (1 : Int) < s.size
      · rw [decide_eq_true q, cond_true, beq_iff_eq] at h1
        exact ⟨by omega, h1⟩
      · rw [decide_eq_false q] at h1; cases h1
    have hz : 1 ≤ T.size ∧ T.size ≤ 6 := by
      simp only [hH, stdH] at h2
      rw [Bool.not_eq_false', inB, decide_eq_true_eq] at h2
      omega
    refine loop_a hB (draw_ok hB mixed) hX hX0 hH false (ι := { x : Nat × Nat // x.1 ≤ T.size ∧ Lib.decFrom 0 (T.data.toList.take x.1) = some x.2 }) 300 (fun x => [.i (H Int fun _ => 0), .b (H Bool fun _ => false), .i (H Int fun _ => (x.1.2 : Nat)), .i (H Int fun _ => (x.1.1 : Nat))]) (fun x => T.size - x.1.1) (⟨(0, 0), Nat.zero_le _, rfl⟩) ?_ ?_
    · (conv in matchSt _ _ _ _ => cbv); simp only [AllG, AllP, and_true, hH, stdH, zql, ncast, zqe, zqy]
      all_goals (repeat' (with_reducible refine And.intro ?_ ?_)) <;> (first | exact Eq.refl _ | exact True.intro | exact Nat.le_refl _ | exact RowsEq.self okS | exact RowsEq.ofT okS rfl (Shp_zero _) rfl | exact RowsEq.snoc okS rfl | exact RowsEq.more okS (Shp_S _ _) (Tl_S _) | exact List.length_append | exact c.rqN)
    · intro I hI i
      conv in Fin.chk _ _ => cbv
      try simp only [zqs, Plain_rowsC, zqx, AllP, zqw, upd, if_true]
      obtain ⟨⟨i, n⟩, hi, hn⟩ := i
      dsimp only at hi hn
      have hn6 : n < 1000000 := by
        have := Lib.decFrom_lt _ _ _ hn
        rw [List.length_take] at this
        have h6 : 10 ^ (min i T.data.toList.length) ≤ 10 ^ 6 := Nat.pow_le_pow_right (by omega) (by have : T.data.toList.length = T.size := rfl; omega)
        have e6 : 10 ^ 6 = 1000000 := rfl
        rw [e6] at h6
        omega
      refine ⟨fun h3 => ⟨?_, ?_, fun h4 => ?_, fun h4 => ⟨?_, ?_⟩⟩, fun h3 => ⟨fun h4 => ?_, fun h4 => ?_⟩⟩
      · simp only [hH, stdH, zqz, ne_eq, zqy] at h3 ⊢
        omega
      · try simp only [hH, stdH, zqz, ne_eq, zqy]
        intro _
        simp only [hH, stdH, zqz, ne_eq, zqy] at h3
        omega
      · simp only [hH, stdH, zqz, ne_eq, zqy] at h3
        obtain ⟨c, hc1, hc2⟩ := sByte_at (s := T) (i := i) (by omega)
        simp only [hH, stdH, Int.toNat_natCast] at h4
        simp only [Int.toNat_natCast, hc2] at h4
        have hd : Lib.digitVal c = none := dig_lo (by
          by_cases q : (c.toNat : Int) < 48
          · left; omega
          · rw [decide_eq_false q, cond_false, decide_eq_true_eq] at h4
            right; omega)
        have hd2 : rdO s = false := rdO_dec (by rw [hr]; exact dec_no hn hc1 hd)
        try simp only [hH, stdH, zqz, ne_eq, zqy]
        exact ⟨hd2, rdV_no hd2⟩
      · simp only [hH, stdH, zqz, ne_eq, zqy] at h3 ⊢
        omega
      · simp only [hH, stdH, zqz, ne_eq, zqy] at h3
        obtain ⟨c, hc1, hc2⟩ := sByte_at (s := T) (i := i) (by omega)
        simp only [hH, stdH, Int.toNat_natCast] at h4
        simp only [Int.toNat_natCast, hc2] at h4
        have hc3 : 48 ≤ c.toNat ∧ c.toNat ≤ 57 := by
          by_cases q : (c.toNat : Int) < 48
          · rw [decide_eq_true q] at h4; cases h4
          · rw [decide_eq_false q, cond_false, decide_eq_false_iff_not] at h4
            omega
        refine ⟨⟨(i + 1, n * 10 + (c.toNat - 48)), by show i + 1 ≤ _; omega, Lib.decFrom_take _ _ _ _ _ _ hn hc1 (dig_in hc3)⟩, by simp only; omega, ?_⟩
        rw [hI]
        (conv in matchSt _ _ _ _ => cbv); simp only [AllG, AllP, and_true, hH, stdH, zql, ncast, zqe, zqy]
        have hn5 : n < 100000 := by
          have := Lib.decFrom_lt _ _ _ hn
          rw [List.length_take] at this
          have h6 : 10 ^ (min i T.data.toList.length) ≤ 10 ^ 5 := Nat.pow_le_pow_right (by omega) (by omega)
          have e6 : 10 ^ 5 = 100000 := rfl
          rw [e6] at h6
          omega
        have e1 : IntKind.u8.wrap (sByte T ((i : Int)).toNat - 48) = (c.toNat : Int) - 48 := by
          rw [Int.toNat_natCast, hc2]
          show ((c.toNat : Int) - 48) % 256 = _
          omega
        rw [e1, w1 (by omega), wi (x := 10 * (n : Int)) (by omega) (by omega), wi (x := (c.toNat : Int) - 48) (by omega) (by omega), wi (by omega) (by omega)]
        exact ⟨rfl, by omega⟩
      · simp only [hH, stdH, zqz, ne_eq, zqy] at h3
        obtain rfl : i = T.size := by omega
        have hn2 := hn
        rw [tkAll] at hn2
        simp only [hH, stdH, decide_eq_true_eq] at h4
        have e1 : IntKind.i64.wrap (0 - (n : Int)) = -(n : Int) := by rw [wi (by omega) (by omega)]; omega
        obtain ⟨r1, r2⟩ := rd_end (s := s) (v := -(n : Int)) (by rw [hr]; exact hz) (by rw [hr]; exact hn2) (by rw [hr, if_pos (by omega)])
        simp only [hH, stdH, beqT, e1, r1, zqc, zqd, zqb, zqa]
        exact ⟨by omega, fun h5 => ⟨h5, rdV_no (by rw [r1]; exact decide_eq_false h5)⟩, fun h5 => ⟨h5, r2 h5⟩⟩
      · simp only [hH, stdH, zqz, ne_eq, zqy] at h3
        obtain rfl : i = T.size := by omega
        have hn2 := hn
        rw [tkAll] at hn2
        simp only [hH, stdH, decide_eq_false_iff_not] at h4
        obtain ⟨r1, r2⟩ := rd_end (s := s) (v := (n : Int)) (by rw [hr]; exact hz) (by rw [hr]; exact hn2) (by rw [hr, if_neg (by omega)])
        simp only [hH, stdH, beqT, r1, zqc, zqd, zqb, zqa]
        exact ⟨by omega, fun h5 => ⟨h5, rdV_no (by rw [r1]; exact decide_eq_false h5)⟩, fun h5 => ⟨h5, r2 h5⟩⟩
  · simp only [hH, stdH] at h1 h2 ⊢
    have hr : rdT s = s := by
      refine if_neg fun q => ?_
      rw [decide_eq_true (show (1 : Int) < s.size by omega), cond_true, beq_eq_false_iff_ne] at h1
      exact h1 q.2
    have h3 : rdO s = false := rdO_sz (by
      rw [hr]
      rw [Bool.not_eq_true', inB, decide_eq_false_iff_not] at h2
      omega)
    exact ⟨h3, rdV_no h3⟩
  · have hr : rdT s = s := by
      simp only [hH, stdH] at h1
      refine if_neg fun q => ?_
      rw [decide_eq_true (show (1 : Int) < s.size by omega), cond_true, beq_eq_false_iff_ne] at h1
      exact h1 q.2
    have hz : 1 ≤ s.size ∧ s.size ≤ 6 := by
      simp only [hH, stdH] at h2
      rw [Bool.not_eq_false', inB, decide_eq_true_eq] at h2
      omega
    refine loop_a hB (draw_ok hB mixed) hX hX0 hH false (ι := { x : Nat × Nat // x.1 ≤ s.size ∧ Lib.decFrom 0 (s.data.toList.take x.1) = some x.2 }) 300 (fun x => [.i (H Int fun _ => 0), .b (H Bool fun _ => false), .i (H Int fun _ => (x.1.2 : Nat)), .i (H Int fun _ => (x.1.1 : Nat))]) (fun x => s.size - x.1.1) (⟨(0, 0), Nat.zero_le _, rfl⟩) ?_ ?_
    · (conv in matchSt _ _ _ _ => cbv); simp only [AllG, AllP, and_true, hH, stdH, zql, ncast, zqe, zqy]
      all_goals (repeat' (with_reducible refine And.intro ?_ ?_)) <;> (first | exact Eq.refl _ | exact True.intro | exact Nat.le_refl _ | exact RowsEq.self okS | exact RowsEq.ofT okS rfl (Shp_zero _) rfl | exact RowsEq.snoc okS rfl | exact RowsEq.more okS (Shp_S _ _) (Tl_S _) | exact List.length_append | exact c.rqN)
    · intro I hI i
      conv in Fin.chk _ _ => cbv
      try simp only [zqs, Plain_rowsC, zqx, AllP, zqw, upd, if_true]
      obtain ⟨⟨i, n⟩, hi, hn⟩ := i
      dsimp only at hi hn
      have hn6 : n < 1000000 := by
        have := Lib.decFrom_lt _ _ _ hn
        rw [List.length_take] at this
        have h6 : 10 ^ (min i s.data.toList.length) ≤ 10 ^ 6 := Nat.pow_le_pow_right (by omega) (by have : s.data.toList.length = s.size := rfl; omega)
        have e6 : 10 ^ 6 = 1000000 := rfl
        rw [e6] at h6
        omega
      refine ⟨fun h3 => ⟨?_, ?_, fun h4 => ?_, fun h4 => ⟨?_, ?_⟩⟩, fun h3 => ⟨fun h4 => ?_, fun h4 => ?_⟩⟩
      · simp only [hH, stdH, zqz, ne_eq, zqy] at h3 ⊢
        omega
      · try simp only [hH, stdH, zqz, ne_eq, zqy]
        intro _
        simp only [hH, stdH, zqz, ne_eq, zqy] at h3
        omega
      · simp only [hH, stdH, zqz, ne_eq, zqy] at h3
        obtain ⟨c, hc1, hc2⟩ := sByte_at (s := s) (i := i) (by omega)
        simp only [hH, stdH, Int.toNat_natCast] at h4
        simp only [Int.toNat_natCast, hc2] at h4
        have hd : Lib.digitVal c = none := dig_lo (by
          by_cases q : (c.toNat : Int) < 48
          · left; omega
          · rw [decide_eq_false q, cond_false, decide_eq_true_eq] at h4
            right; omega)
        have hd2 : rdO s = false := rdO_dec (by rw [hr]; exact dec_no hn hc1 hd)
        try simp only [hH, stdH, zqz, ne_eq, zqy]
        exact ⟨hd2, rdV_no hd2⟩
      · simp only [hH, stdH, zqz, ne_eq, zqy] at h3 ⊢
        omega
      · simp only [hH, stdH, zqz, ne_eq, zqy] at h3
        obtain ⟨c, hc1, hc2⟩ := sByte_at (s := s) (i := i) (by omega)
        simp only [hH, stdH, Int.toNat_natCast] at h4
        simp only [Int.toNat_natCast, hc2] at h4
        have hc3 : 48 ≤ c.toNat ∧ c.toNat ≤ 57 := by
          by_cases q : (c.toNat : Int) < 48
          · rw [decide_eq_true q] at h4; cases h4
          · rw [decide_eq_false q, cond_false, decide_eq_false_iff_not] at h4
            omega
        refine ⟨⟨(i + 1, n * 10 + (c.toNat - 48)), by show i + 1 ≤ _; omega, Lib.decFrom_take _ _ _ _ _ _ hn hc1 (dig_in hc3)⟩, by simp only; omega, ?_⟩
        rw [hI]
        (conv in matchSt _ _ _ _ => cbv); simp only [AllG, AllP, and_true, hH, stdH, zql, ncast, zqe, zqy]
        have hn5 : n < 100000 := by
          have := Lib.decFrom_lt _ _ _ hn
          rw [List.length_take] at this
          have h6 : 10 ^ (min i s.data.toList.length) ≤ 10 ^ 5 := Nat.pow_le_pow_right (by omega) (by omega)
          have e6 : 10 ^ 5 = 100000 := rfl
          rw [e6] at h6
          omega
        have e1 : IntKind.u8.wrap (sByte s ((i : Int)).toNat - 48) = (c.toNat : Int) - 48 := by
          rw [Int.toNat_natCast, hc2]
          show ((c.toNat : Int) - 48) % 256 = _
          omega
        rw [e1, w1 (by omega), wi (x := 10 * (n : Int)) (by omega) (by omega), wi (x := (c.toNat : Int) - 48) (by omega) (by omega), wi (by omega) (by omega)]
        exact ⟨rfl, by omega⟩
      · simp only [hH, stdH, zqz, ne_eq, zqy] at h3
        obtain rfl : i = s.size := by omega
        have hn2 := hn
        rw [tkAll] at hn2
        simp only [hH, stdH, decide_eq_true_eq] at h4
        have e1 : IntKind.i64.wrap (0 - (n : Int)) = -(n : Int) := by rw [wi (by omega) (by omega)]; omega
        obtain ⟨r1, r2⟩ := rd_end (s := s) (v := -(n : Int)) (by rw [hr]; exact hz) (by rw [hr]; exact hn2) (by rw [hr, if_pos (by omega)])
        simp only [hH, stdH, beqT, e1, r1, zqc, zqd, zqb, zqa]
        exact ⟨by omega, fun h5 => ⟨h5, rdV_no (by rw [r1]; exact decide_eq_false h5)⟩, fun h5 => ⟨h5, r2 h5⟩⟩
      · simp only [hH, stdH, zqz, ne_eq, zqy] at h3
        obtain rfl : i = s.size := by omega
        have hn2 := hn
        rw [tkAll] at hn2
        simp only [hH, stdH, decide_eq_false_iff_not] at h4
        obtain ⟨r1, r2⟩ := rd_end (s := s) (v := (n : Int)) (by rw [hr]; exact hz) (by rw [hr]; exact hn2) (by rw [hr, if_neg (by omega)])
        simp only [hH, stdH, beqT, r1, zqc, zqd, zqb, zqa]
        exact ⟨by omega, fun h5 => ⟨h5, rdV_no (by rw [r1]; exact decide_eq_false h5)⟩, fun h5 => ⟨h5, r2 h5⟩⟩
noncomputable def e_l1Read : Entry := pureE 49 fun H a => match a with
  | [.lit (.string s)] => some (.tup [.lit (.int .i64 (H Int fun _ => rdV s)), .lit (.bool (H Bool fun _ => rdO s))], [H Prop fun _ => s.size ≤ 2000000])
  | _ => none
theorem eok_l1Read : EntryOk Tryz.prog e_l1Read := pureM_ok (by unfold isBody; kernel_rfl) (by
  intro a r ob e hob
  split at e
  · rename_i s
    simp only [zqt] at e
    obtain ⟨rfl, rfl⟩ := e
    exact ConN.args (.cons .rfl .nil) (c_l1Read s hob.1)
  · simp at e)

end Go.Proofs.YtcjjffmbhionmaaGreatDoor.AM

