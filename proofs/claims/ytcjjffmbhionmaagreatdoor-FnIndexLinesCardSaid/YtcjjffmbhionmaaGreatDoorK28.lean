/- Lemmas and contracts (Fif); conditions: none. -/
import Derived.Test.YtcjjffmbhionmaaGreatDoorK03
import Derived.Test.YtcjjffmbhionmaaGreatDoorK24
import Derived.Test.YtcjjffmbhionmaaGreatDoorK27
set_option linter.unusedVariables false
set_option linter.unusedSimpArgs false
set_option maxRecDepth 100000
set_option maxHeartbeats 4000000
set_option cbv.maxSteps 3000000
namespace Go.Proofs.YtcjjffmbhionmaaGreatDoor.AM
/- Features told from other texts; conditions: none. -/
def isF (s : ByteArray) : Bool := allF.any fun y => decide (y = s)
theorem allF_len : allF.length ≤ 78 := by
  unfold allF
  rw [srt_len]
  exact allFg_len (j := 6) (by omega)
theorem c_isFeat (s : ByteArray)  : ConN Tryz.prog 11 [.lit (.string s)] [] 0 (.lit (.bool (stdH Bool fun _ => isF s))) [] [] := by
  have hB : Base Tryz.prog (tabΓ [e_allFeat, e_hasS]) tab := base_of tabOk (ents_cons eok_allFeat <| ents_cons eok_hasS <| ents_nil)
  refine con_m (N := 6) hB (draw_ok hB mixed) Tryz.func11 rfl rfl (fun H => [.lit (.string s)]) (fun _ => []) 0 (fun H => .lit (.bool (H Bool fun _ => isF s))) (fun H => []) (fun _ => []) 300 (by simp) (fun x hx => ?_) (by simp [lk]) (by omega) (by simp) ?_
  · simp only [List.mem_cons, List.not_mem_nil, or_false] at hx
    rcases hx with rfl
    · exact .lit
  intro X hX hX0 H hH
  conv in Fin.chk _ _ => cbv
  try simp only [Plain_rowsA, Plain_rowsB, Plain_rowsC, Plain_rowsF, Plain_rowsG, Plain_rowsI, Plain_rowsS, Plain_rowsU, Plain_rowsW, Fin.satC_ret, Fin.satC_br, Fin.satC_need, Fin.satC_again, AllP, and_true, true_and, upd, List.length_nil, List.length_cons, Nat.zero_add, if_true, ncast, Int.ofNat_eq_natCast]
  have h := allF_len
  subst hH
  simp only [stdH, TlS']
  exact ⟨⟨Shp_rowsT okS _ (fun _ => _), by omega⟩, rfl⟩
noncomputable def e_isFeat : Entry := pureE 11 fun H a => match a with
  | [.lit (.string s)] => some (.lit (.bool (H Bool fun _ => isF s)), [])
  | _ => none
theorem eok_isFeat : EntryOk Tryz.prog e_isFeat := pureM_ok (by unfold isBody; kernel_rfl) (by
  intro a r ob e hob
  split at e
  · rename_i s
    simp only [Option.some.injEq, Prod.mk.injEq] at e
    obtain ⟨rfl, rfl⟩ := e
    exact ConN.args (.cons .rfl .nil) (c_isFeat s )
  · simp at e)
theorem srt_mem (L : List ByteArray) (x : ByteArray) : x ∈ srt L ↔ x ∈ L := by
  have e : toL (srt L) = (toL L).mergeSort fun x y => decide (x ≤ y) := by unfold srt; rw [toL_ofL]
  rw [← mem_toL, e, (srt_up (toL L)).2, mem_toL]
theorem isF_iff {s : ByteArray} : isF s = true ↔ ∃ k ∈ kL, ∃ x : Int, (k.2.1 ≤ x ∧ x ≤ k.2.2) ∧ s = ftX k.1 x := by
  unfold isF
  rw [List.any_eq_true]
  constructor
  · rintro ⟨y, hy, e⟩
    rw [decide_eq_true_eq] at e
    subst e
    unfold allF at hy
    rw [srt_mem] at hy
    unfold allFg at hy
    obtain ⟨k, hk, hy⟩ := List.mem_flatMap.1 hy
    refine ⟨k, List.mem_of_mem_take hk, ?_⟩
    unfold rngF at hy
    obtain ⟨i, hi, rfl⟩ := List.mem_map.1 hy
    rw [List.mem_range] at hi
    unfold kN at hi
    exact ⟨k.2.1 + (i : Int), ⟨by omega, by omega⟩, rfl⟩
  · rintro ⟨k, hk, x, hx, rfl⟩
    refine ⟨_, ?_, decide_eq_true rfl⟩
    unfold allF
    rw [srt_mem]
    unfold allFg
    refine List.mem_flatMap.2 ⟨k, by rw [List.take_of_length_le (by decide)]; exact hk, ?_⟩
    unfold rngF
    refine List.mem_map.2 ⟨(x - k.2.1).toNat, List.mem_range.2 (by unfold kN; omega), ?_⟩
    congr 1
    omega
theorem kL_all {P : ByteArray × Int × Int → Prop} : (∀ k ∈ kL, P k) ↔ P (fcT, 1, 9) ∧ P (fcD, 0, 7) ∧ P (fcL, 1, 4) ∧ P (fcO, 0, 7) ∧ P (fcK, 1, 8) ∧ P (fcN, 0, 12) := by
  unfold kL
  simp
theorem kL_bd : ∀ k ∈ kL, (0 ≤ k.2.1 ∧ k.2.2 ≤ 12) ∧ k.1.size = 1 := kL_all.2 (by decide)
/-- A letter and the rest of a text. -/
theorem ftX_sB {p : ByteArray} {x : Int} (hp : p.size = 1) : sByte (ftX p x) 0 = sByte p 0 := by
  have hl : p.data.toList.length = 1 := hp
  unfold sByte ftX
  rw [ByteArray.toList_data_append, List.getD_eq_getElem?_getD, List.getD_eq_getElem?_getD, List.getElem?_append_left (by omega)]
theorem ftX_rest {p : ByteArray} {x : Int} (hp : p.size = 1) : (ftX p x).extract 1 (ftX p x).size = numD x.toNat := by
  unfold ftX
  have := ext_right p (numD x.toNat)
  rwa [hp] at this
theorem ftX_cut {s : ByteArray} (hs : 1 ≤ s.size) (p : ByteArray) (hp : p.size = 1) (hb : sByte s 0 = sByte p 0) : s = p ++ s.extract 1 s.size := by
  have e0 := ext_both (s := s) 1
  conv => lhs; rw [← e0]
  congr 1
  apply ByteArray.ext; apply Array.ext'
  have h1 : 0 < s.data.toList.length := hs
  have h2 : p.data.toList.length = 1 := hp
  obtain ⟨b, h3, h4⟩ := sByte_at (s := s) (i := 0) (by omega)
  obtain ⟨c, h5, h6⟩ := sByte_at (s := p) (i := 0) (by omega)
  have hbc : b = c := UInt8.toNat_inj.1 (by omega)
  rw [← ofL_ext, ofL_toL, List.drop_zero, Nat.sub_zero]
  cases hd : s.data.toList with
  | nil => rw [hd] at h1; simp at h1
  | cons q l =>
    rw [hd] at h3
    cases hp2 : p.data.toList with
    | nil => rw [hp2] at h2; simp at h2
    | cons q2 l2 =>
      rw [hp2] at h5 h2
      have : l2 = [] := List.eq_nil_of_length_eq_zero (by simpa using h2)
      subst this
      simp at h3 h5
      subst h3; subst h5; subst hbc
      simp
/-- Where the letter is that of k, the text is a feature if the rest is a number between k's bounds. -/
theorem isF_at {s : ByteArray} {k : ByteArray × Int × Int} (hk : k ∈ kL) (hs : 1 ≤ s.size) (hb : sByte s 0 = sByte k.1 0) (hu : ∀ q ∈ kL, sByte q.1 0 = sByte k.1 0 → q = k) (hr : rdO (s.extract 1 s.size) = true) : isF s = inB (rdV (s.extract 1 s.size)) k.2.1 k.2.2 := by
  obtain ⟨⟨b1, b2⟩, b3⟩ := kL_bd k hk
  rw [Bool.eq_iff_iff, isF_iff]
  unfold inB
  rw [decide_eq_true_eq]
  constructor
  · rintro ⟨q, hq, x, hx, rfl⟩
    obtain ⟨⟨c1, c2⟩, c3⟩ := kL_bd q hq
    rw [ftX_sB c3] at hb
    obtain rfl := hu q hq hb
    rw [ftX_rest c3, (rd_num (i := x.toNat) (by omega)).2]
    omega
  · intro h
    have h1 := rd_so hr
    rw [numI_p (by omega)] at h1
    refine ⟨k, hk, rdV (s.extract 1 s.size), h, ?_⟩
    unfold ftX
    rw [h1]
    exact ftX_cut hs k.1 b3 hb
theorem isF_no {s : ByteArray} (h : ∀ k ∈ kL, ∀ x : Int, (k.2.1 ≤ x ∧ x ≤ k.2.2) → s = ftX k.1 x → False) : isF s = false := by
  rw [← Bool.not_eq_true, isF_iff]
  rintro ⟨k, hk, x, hx, e⟩
  exact h k hk x hx e
theorem isF_size {s : ByteArray} (h : ¬ (2 ≤ s.size ∧ s.size ≤ 3)) : isF s = false := isF_no fun k hk x hx e => by
  obtain ⟨⟨c1, c2⟩, c3⟩ := kL_bd k hk
  subst e
  refine h ?_
  unfold ftX
  rw [ByteArray.size_append, c3]
  have := numD_posR x.toNat
  have : (numD x.toNat).size ≤ 2 := by
    by_cases q : x.toNat < 10
    · rw [numD_one q]; exact Nat.le_succ 1
    · rw [numD_step q, ByteArray.size_append, numD_one (by omega)]
      exact Nat.le_refl 2
  omega
theorem isF_rd {s : ByteArray} (h : rdO (s.extract 1 s.size) = false) : isF s = false := isF_no fun k hk x hx e => by
  obtain ⟨⟨c1, c2⟩, c3⟩ := kL_bd k hk
  subst e
  rw [ftX_rest c3, (rd_num (i := x.toNat) (by omega)).1] at h
  cases h
theorem isF_let {s : ByteArray} (h : ∀ k ∈ kL, sByte s 0 ≠ sByte k.1 0) : isF s = false := isF_no fun k hk x hx e => by
  subst e
  exact h k hk (ftX_sB (kL_bd k hk).2)
theorem sB_f : sByte fcT 0 = 116 ∧ sByte fcD 0 = 100 ∧ sByte fcL 0 = 108 ∧ sByte fcO 0 = 111 ∧ sByte fcK 0 = 107 ∧ sByte fcN 0 = 110 := by decide
theorem kL_uni : ∀ k ∈ kL, ∀ q ∈ kL, sByte q.1 0 = sByte k.1 0 → q = k := by decide
theorem c_isFeatS (s : ByteArray) (h0 : s.size ≤ 2000000) : ConN Tryz.prog 17 [.lit (.string s)] [] 0 (.lit (.bool (stdH Bool fun _ => isF s))) [] [] := by
  have hB : Base Tryz.prog (tabΓ [e_l1Read, e_l1In]) tab := base_of tabOk (ents_cons eok_l1Read <| ents_cons eok_l1In <| ents_nil)
  refine con_m (N := 44) hB (draw_ok hB mixed) Tryz.func17 rfl rfl (fun H => [.lit (.string s)]) (fun _ => []) 0 (fun H => .lit (.bool (H Bool fun _ => isF s))) (fun H => []) (fun _ => []) 300 (by simp) (fun x hx => ?_) (by simp [lk]) (by omega) (by simp) ?_
  · simp only [List.mem_cons, List.not_mem_nil, or_false] at hx
    rcases hx with rfl
    · exact .lit
  intro X hX hX0 H hH
  conv in Fin.chk _ _ => cbv
  try simp only [Plain_rowsA, Plain_rowsB, Plain_rowsC, Plain_rowsF, Plain_rowsG, Plain_rowsI, Plain_rowsS, Plain_rowsU, Plain_rowsW, Fin.satC_ret, Fin.satC_br, Fin.satC_need, Fin.satC_again, AllP, and_true, true_and, upd, List.length_nil, List.length_cons, Nat.zero_add, if_true, ncast, Int.ofNat_eq_natCast]
  have e1 : s.extract (loOf (some 1)) (hiOf s.size none) = s.extract 1 s.size := rfl
  have e2 : Int.toNat 0 = 0 := rfl
  have hz : (s.extract 1 s.size).size ≤ 2000000 := by rw [ByteArray.size_extract]; omega
  obtain ⟨c1, c2, c3, c4, c5, c6⟩ := sB_f
  subst hH
  simp only [stdH, e1, e2]
  by_cases hs : 2 ≤ s.size ∧ s.size ≤ 3
  · have d1 : (bif decide ((s.size : Int) < 2) then true else decide ((3 : Int) < s.size)) = false := by
      rw [decide_eq_false (show ¬ (s.size : Int) < 2 by omega), cond_false]
      exact decide_eq_false (by omega)
    simp only [d1]
    refine ⟨(fun h => by cases h), fun _ => ⟨⟨by show (0 : Int) ≤ 1; omega, trivial, by show 1 ≤ s.size; omega, Nat.le_refl _⟩, hz, ?_⟩⟩
    cases hr : rdO (s.extract 1 s.size) with
    | false =>
      refine ⟨fun _ => isF_rd hr, fun h => by cases h⟩
    | true =>
      refine ⟨(fun h => by cases h), fun _ => ?_⟩
      have K : ∀ k ∈ kL, sByte s 0 = sByte k.1 0 → isF s = inB (rdV (s.extract 1 s.size)) k.2.1 k.2.2 := fun k hk hb => isF_at hk (by omega) hb (kL_uni k hk) hr
      obtain ⟨k1, k2, k3, k4, k5, k6⟩ := kL_all.1 K
      have kn : (sByte s 0 ≠ 116 ∧ sByte s 0 ≠ 100 ∧ sByte s 0 ≠ 108 ∧ sByte s 0 ≠ 111 ∧ sByte s 0 ≠ 107 ∧ sByte s 0 ≠ 110) → isF s = false := fun h => isF_let (kL_all.2 (by rw [c1, c2, c3, c4, c5, c6]; exact h))
      rw [c1] at k1
      rw [c2] at k2
      rw [c3] at k3
      rw [c4] at k4
      rw [c5] at k5
      rw [c6] at k6
      refine ⟨⟨by omega, by omega⟩, ?_⟩
      generalize sByte s 0 = x at *
      by_cases g1 : x = 116
      · subst g1; rw [k1 rfl]; simp
      by_cases g2 : x = 100
      · subst g2; rw [k2 rfl]; simp
      by_cases g3 : x = 108
      · subst g3; rw [k3 rfl]; simp
      by_cases g4 : x = 111
      · subst g4; rw [k4 rfl]; simp
      by_cases g5 : x = 107
      · subst g5; rw [k5 rfl]; simp
      by_cases g6 : x = 110
      · subst g6; rw [k6 rfl]; simp
      rw [kn ⟨g1, g2, g3, g4, g5, g6⟩]
      simp [g1, g2, g3, g4, g5, g6]
  · have d1 : (bif decide ((s.size : Int) < 2) then true else decide ((3 : Int) < s.size)) = true := by
      by_cases q : (s.size : Int) < 2
      · rw [decide_eq_true q]; rfl
      · rw [decide_eq_false q, cond_false]
        exact decide_eq_true (by omega)
    simp only [d1]
    exact ⟨fun _ => isF_size hs, fun h => by cases h⟩
noncomputable def e_isFeatS : Entry := pureE 17 fun H a => match a with
  | [.lit (.string s)] => some (.lit (.bool (H Bool fun _ => isF s)), [H Prop fun _ => s.size ≤ 2000000])
  | _ => none
theorem eok_isFeatS : EntryOk Tryz.prog e_isFeatS := pureM_ok (by unfold isBody; kernel_rfl) (by
  intro a r ob e hob
  split at e
  · rename_i s
    simp only [Option.some.injEq, Prod.mk.injEq] at e
    obtain ⟨rfl, rfl⟩ := e
    exact ConN.args (.cons .rfl .nil) (c_isFeatS s hob.1)
  · simp at e)

end Go.Proofs.YtcjjffmbhionmaaGreatDoor.AM

