/- Lemmas and contracts (Rdm Fif Rgv Rgx Rgw Rgg Rgl Fsh Fnb Rgt); conditions: none. -/
import Derived.Test.YtcjjffmbhionmaaGreatDoorK03
import Derived.Test.YtcjjffmbhionmaaGreatDoorK05
import Derived.Test.YtcjjffmbhionmaaGreatDoorK09
import Derived.Test.YtcjjffmbhionmaaGreatDoorK13
import Derived.Test.YtcjjffmbhionmaaGreatDoorK21
import Derived.Test.YtcjjffmbhionmaaGreatDoorK22
import Derived.WalkKit
import Derived.Deep.RegionLaw
import Derived.Lib.SliceRun
set_option linter.unusedVariables false
set_option linter.unusedSimpArgs false
set_option maxRecDepth 100000
set_option maxHeartbeats 4000000
set_option cbv.maxSteps 3000000
namespace Go.Proofs.YtcjjffmbhionmaaGreatDoor.AM
/- Numerals read; conditions: none. -/
theorem num_sB {i : Nat} : sByte (numD i) 0 ≠ 45 := by
  obtain ⟨d, r, h1, h2⟩ := numD_head i
  unfold sByte
  rw [h2]
  intro q
  have : ∀ d : Nat, d < 10 → (UInt8.ofNat (48 + d)).toNat ≠ 45 := by decide
  have h3 : (((UInt8.ofNat (48 + d)).toNat : Nat) : Int) = 45 := q
  exact this d h1 (by omega)
theorem numD_posR (i : Nat) : 1 ≤ (numD i).size := by
  obtain ⟨d, r, h1, h2⟩ := numD_head i
  have : (numD i).size = (numD i).data.toList.length := rfl
  rw [this, h2, List.length_cons]; omega
theorem rd_num {i : Nat} (h : i < 1000000) : rdO (numD i) = true ∧ rdV (numD i) = i := by
  have hr : rdT (numD i) = numD i := if_neg fun q => num_sB q.2
  obtain ⟨r1, r2⟩ := rd_end (s := numD i) (n := i) (v := (i : Int)) (by rw [hr]; exact ⟨numD_posR i, numD_sz6 h⟩) (by rw [hr]; exact numD_dec i) (by rw [hr, if_neg (by omega)])
  have e : numI (i : Int) = numD i := by rw [numI_p (by omega), Int.toNat_natCast]
  exact ⟨by rw [r1, e]; simp, r2 e⟩
theorem rd_so {w : ByteArray} (h : rdO w = true) : numI (rdV w) = w := by
  have e : rdV w = rdM w := if_pos h
  unfold rdO at h
  simp only [Bool.and_eq_true, decide_eq_true_eq] at h
  rw [e]; exact h.2.2

end Go.Proofs.YtcjjffmbhionmaaGreatDoor.AM

set_option maxRecDepth 100000
set_option maxHeartbeats 4000000
set_option cbv.maxSteps 3000000
namespace Go.Proofs.YtcjjffmbhionmaaGreatDoor.AM
/- Features told from other texts; conditions: none. -/
def isF (s : ByteArray) : Bool := allF.any fun y => decide (y = s)
theorem allF_len : allF.length ≤ 78 := by
  unfold allF
  rw [srt_len]
  exact allFg_len (j := 6) (by omega)
theorem c_isFeat (s : ByteArray)  : ConN Tryz.prog 11 [.lit (.string s)] [] 0 (.lit (.bool (stdH Bool fun _ => isF s))) [] [] := by
  have hB : Base Tryz.prog (tabΓ [e_allFeat, e_hasS]) tab := base_of tabOk (ents_cons eok_allFeat <| ents_cons eok_hasS <| ents_nil)
  refine con_m (N := 6) hB (draw_ok hB mixed) Tryz.func11 rfl rfl (fun H => [.lit (.string s)]) (fun _ => []) 0 (fun H => .lit (.bool (H Bool fun _ => isF s))) (fun H => []) (fun _ => []) 300 (by simp) (fun x hx => ?_) (by simp [lk]) (by omega) (by simp) ?_
  · simp only [zqu] at hx
    rcases hx with rfl
    · exact .lit
  intro X hX hX0 H hH
  conv in Fin.chk _ _ => cbv
  try simp only [zqs, Plain_rowsC, Plain_rowsW, zqx, AllP, zqw, upd, if_true]
  have h := allF_len
  subst hH
  simp only [stdH, TlS']
  exact ⟨⟨Shp_rowsT okS _ (fun _ => _), by omega⟩, rfl⟩
noncomputable def e_isFeat : Entry := pureE 11 fun H a => match a with
  | [.lit (.string s)] => some (.lit (.bool (H Bool fun _ => isF s)), [])
  | _ => none
theorem eok_isFeat : EntryOk Tryz.prog e_isFeat := pureM_ok (by unfold isBody; kernel_rfl) (by
  intro a r ob e hob
  split at e
  · rename_i s
    simp only [zqt] at e
    obtain ⟨rfl, rfl⟩ := e
    exact ConN.args (.cons .rfl .nil) (c_isFeat s )
  · simp at e)
theorem srt_mem (L : List ByteArray) (x : ByteArray) : x ∈ srt L ↔ x ∈ L := by
  have e : toL (srt L) = (toL L).mergeSort fun x y => decide (x ≤ y) := by unfold srt; rw [toL_ofL]
  rw [← mem_toL, e, (srt_up (toL L)).2, mem_toL]
theorem isF_iff {s : ByteArray} : isF s = true ↔ ∃ k ∈ kL, ∃ x : Int, (k.2.1 ≤ x ∧ x ≤ k.2.2) ∧ s = ftX k.1 x := by
  unfold isF
  rw [List.any_eq_true]
  constructor
  · rintro ⟨y, hy, e⟩
    rw [decide_eq_true_eq] at e
    subst e
    unfold allF at hy
    rw [srt_mem] at hy
    unfold allFg at hy
    obtain ⟨k, hk, hy⟩ := List.mem_flatMap.1 hy
    refine ⟨k, List.mem_of_mem_take hk, ?_⟩
    unfold rngF at hy
    obtain ⟨i, hi, rfl⟩ := List.mem_map.1 hy
    rw [List.mem_range] at hi
    unfold kN at hi
    exact ⟨k.2.1 + (i : Int), ⟨by omega, by omega⟩, rfl⟩
  · rintro ⟨k, hk, x, hx, rfl⟩
    refine ⟨_, ?_, decide_eq_true rfl⟩
    unfold allF
    rw [srt_mem]
    unfold allFg
    refine List.mem_flatMap.2 ⟨k, by rw [List.take_of_length_le (by decide)]; exact hk, ?_⟩
    unfold rngF
    refine List.mem_map.2 ⟨(x - k.2.1).toNat, List.mem_range.2 (by unfold kN; omega), ?_⟩
    congr 1
    omega
theorem kL_all {P : ByteArray × Int × Int → Prop} : (∀ k ∈ kL, P k) ↔ P (fcT, 1, 9) ∧ P (fcD, 0, 7) ∧ P (fcL, 1, 4) ∧ P (fcO, 0, 7) ∧ P (fcK, 1, 8) ∧ P (fcN, 0, 12) := by
  unfold kL
  simp
theorem kL_bd : ∀ k ∈ kL, (0 ≤ k.2.1 ∧ k.2.2 ≤ 12) ∧ k.1.size = 1 := kL_all.2 (by decide)
theorem ftX_sB {p : ByteArray} {x : Int} (hp : p.size = 1) : sByte (ftX p x) 0 = sByte p 0 := by
  have hl : p.data.toList.length = 1 := hp
  unfold sByte ftX
  rw [ByteArray.toList_data_append, List.getD_eq_getElem?_getD, List.getD_eq_getElem?_getD, List.getElem?_append_left (by omega)]
theorem ftX_rest {p : ByteArray} {x : Int} (hp : p.size = 1) : (ftX p x).extract 1 (ftX p x).size = numD x.toNat := by
  unfold ftX
  have := ext_right p (numD x.toNat)
  rwa [hp] at this
theorem ftX_cut {s : ByteArray} (hs : 1 ≤ s.size) (p : ByteArray) (hp : p.size = 1) (hb : sByte s 0 = sByte p 0) : s = p ++ s.extract 1 s.size := by
  have e0 := ext_both (s := s) 1
  conv => lhs; rw [← e0]
  congr 1
  apply ByteArray.ext; apply Array.ext'
  have h1 : 0 < s.data.toList.length := hs
  have h2 : p.data.toList.length = 1 := hp
  obtain ⟨b, h3, h4⟩ := sByte_at (s := s) (i := 0) (by omega)
  obtain ⟨c, h5, h6⟩ := sByte_at (s := p) (i := 0) (by omega)
  have hbc : b = c := UInt8.toNat_inj.1 (by omega)
  rw [← ofL_ext, ofL_toL, List.drop_zero, Nat.sub_zero]
  cases hd : s.data.toList with
  | nil => rw [hd] at h1; simp at h1
  | cons q l =>
    rw [hd] at h3
    cases hp2 : p.data.toList with
    | nil => rw [hp2] at h2; simp at h2
    | cons q2 l2 =>
      rw [hp2] at h5 h2
      have : l2 = [] := List.eq_nil_of_length_eq_zero (by simpa using h2)
      subst this
      simp at h3 h5
      subst h3; subst h5; subst hbc
      simp
theorem isF_at {s : ByteArray} {k : ByteArray × Int × Int} (hk : k ∈ kL) (hs : 1 ≤ s.size) (hb : sByte s 0 = sByte k.1 0) (hu : ∀ q ∈ kL, sByte q.1 0 = sByte k.1 0 → q = k) (hr : rdO (s.extract 1 s.size) = true) : isF s = inB (rdV (s.extract 1 s.size)) k.2.1 k.2.2 := by
  obtain ⟨⟨b1, b2⟩, b3⟩ := kL_bd k hk
  rw [Bool.eq_iff_iff, isF_iff]
  unfold inB
  rw [decide_eq_true_eq]
  constructor
  · rintro ⟨q, hq, x, hx, rfl⟩
    obtain ⟨⟨c1, c2⟩, c3⟩ := kL_bd q hq
    rw [ftX_sB c3] at hb
    obtain rfl := hu q hq hb
    rw [ftX_rest c3, (rd_num (i := x.toNat) (by omega)).2]
    omega
  · intro h
    have h1 := rd_so hr
    rw [numI_p (by omega)] at h1
    refine ⟨k, hk, rdV (s.extract 1 s.size), h, ?_⟩
    unfold ftX
    rw [h1]
    exact ftX_cut hs k.1 b3 hb
theorem isF_no {s : ByteArray} (h : ∀ k ∈ kL, ∀ x : Int, (k.2.1 ≤ x ∧ x ≤ k.2.2) → s = ftX k.1 x → False) : isF s = false := by
  rw [← Bool.not_eq_true, isF_iff]
  rintro ⟨k, hk, x, hx, e⟩
  exact h k hk x hx e
theorem isF_size {s : ByteArray} (h : ¬ (2 ≤ s.size ∧ s.size ≤ 3)) : isF s = false := isF_no fun k hk x hx e => by
  obtain ⟨⟨c1, c2⟩, c3⟩ := kL_bd k hk
  subst e
  refine h ?_
  unfold ftX
  rw [ByteArray.size_append, c3]
  have := numD_posR x.toNat
  have : (numD x.toNat).size ≤ 2 := by
    by_cases q : x.toNat < 10
    · rw [numD_one q]; exact Nat.le_succ 1
    · rw [numD_step q, ByteArray.size_append, numD_one (by omega)]
      exact Nat.le_refl 2
  omega
theorem isF_rd {s : ByteArray} (h : rdO (s.extract 1 s.size) = false) : isF s = false := isF_no fun k hk x hx e => by
  obtain ⟨⟨c1, c2⟩, c3⟩ := kL_bd k hk
  subst e
  rw [ftX_rest c3, (rd_num (i := x.toNat) (by omega)).1] at h
  cases h
theorem isF_let {s : ByteArray} (h : ∀ k ∈ kL, sByte s 0 ≠ sByte k.1 0) : isF s = false := isF_no fun k hk x hx e => by
  subst e
  exact h k hk (ftX_sB (kL_bd k hk).2)
theorem sB_f : sByte fcT 0 = 116 ∧ sByte fcD 0 = 100 ∧ sByte fcL 0 = 108 ∧ sByte fcO 0 = 111 ∧ sByte fcK 0 = 107 ∧ sByte fcN 0 = 110 := by decide
theorem kL_uni : ∀ k ∈ kL, ∀ q ∈ kL, sByte q.1 0 = sByte k.1 0 → q = k := by decide
theorem c_isFeatS (s : ByteArray) (h0 : s.size ≤ 2000000) : ConN Tryz.prog 17 [.lit (.string s)] [] 0 (.lit (.bool (stdH Bool fun _ => isF s))) [] [] := by
  have hB : Base Tryz.prog (tabΓ [e_l1Read, e_l1In]) tab := base_of tabOk (ents_cons eok_l1Read <| ents_cons eok_l1In <| ents_nil)
  refine con_m (N := 44) hB (draw_ok hB mixed) Tryz.func17 rfl rfl (fun H => [.lit (.string s)]) (fun _ => []) 0 (fun H => .lit (.bool (H Bool fun _ => isF s))) (fun H => []) (fun _ => []) 300 (by simp) (fun x hx => ?_) (by simp [lk]) (by omega) (by simp) ?_
  · simp only [zqu] at hx
    rcases hx with rfl
    · exact .lit
  intro X hX hX0 H hH
  conv in Fin.chk _ _ => cbv
  try simp only [zqs, Plain_rowsC, Plain_rowsW, zqx, AllP, zqw, upd, if_true]
  have e1 : s.extract (loOf (some 1)) (hiOf s.size none) = s.extract 1 s.size := rfl
  have e2 : Int.toNat 0 = 0 := rfl
  have hz : (s.extract 1 s.size).size ≤ 2000000 := by rw [ByteArray.size_extract]; omega
  obtain ⟨c1, c2, c3, c4, c5, c6⟩ := sB_f
  subst hH
  simp only [stdH, e1, e2]
  by_cases hs : 2 ≤ s.size ∧ s.size ≤ 3
  · have d1 : (bif decide ((s.size : Int) < 2) then true else decide ((3 : Int) < s.size)) = false := by
      rw [decide_eq_false (show ¬ (s.size : Int) < 2 by omega), cond_false]
      exact decide_eq_false (by omega)
    simp only [d1]
    refine ⟨(fun h => by cases h), fun _ => ⟨⟨by show (0 : Int) ≤ 1; omega, trivial, by show 1 ≤ s.size; omega, Nat.le_refl _⟩, hz, ?_⟩⟩
    cases hr : rdO (s.extract 1 s.size) with
    | false =>
      refine ⟨fun _ => isF_rd hr, fun h => by cases h⟩
    | true =>
      refine ⟨(fun h => by cases h), fun _ => ?_⟩
      have K : ∀ k ∈ kL, sByte s 0 = sByte k.1 0 → isF s = inB (rdV (s.extract 1 s.size)) k.2.1 k.2.2 := fun k hk hb => isF_at hk (by omega) hb (kL_uni k hk) hr
      obtain ⟨k1, k2, k3, k4, k5, k6⟩ := kL_all.1 K
      have kn : (sByte s 0 ≠ 116 ∧ sByte s 0 ≠ 100 ∧ sByte s 0 ≠ 108 ∧ sByte s 0 ≠ 111 ∧ sByte s 0 ≠ 107 ∧ sByte s 0 ≠ 110) → isF s = false := fun h => isF_let (kL_all.2 (by rw [c1, c2, c3, c4, c5, c6]; exact h))
      rw [c1] at k1
      rw [c2] at k2
      rw [c3] at k3
      rw [c4] at k4
      rw [c5] at k5
      rw [c6] at k6
      refine ⟨⟨by omega, by omega⟩, ?_⟩
      generalize sByte s 0 = x at *
      by_cases g1 : x = 116
      · subst g1; rw [k1 rfl]; simp
      by_cases g2 : x = 100
      · subst g2; rw [k2 rfl]; simp
      by_cases g3 : x = 108
      · subst g3; rw [k3 rfl]; simp
      by_cases g4 : x = 111
      · subst g4; rw [k4 rfl]; simp
      by_cases g5 : x = 107
      · subst g5; rw [k5 rfl]; simp
      by_cases g6 : x = 110
      · subst g6; rw [k6 rfl]; simp
      rw [kn ⟨g1, g2, g3, g4, g5, g6⟩]
      simp [g1, g2, g3, g4, g5, g6]
  · have d1 : (bif decide ((s.size : Int) < 2) then true else decide ((3 : Int) < s.size)) = true := by
      by_cases q : (s.size : Int) < 2
      · rw [decide_eq_true q]; rfl
      · rw [decide_eq_false q, cond_false]
        exact decide_eq_true (by omega)
    simp only [d1]
    exact ⟨fun _ => isF_size hs, fun h => by cases h⟩
noncomputable def e_isFeatS : Entry := pureE 17 fun H a => match a with
  | [.lit (.string s)] => some (.lit (.bool (H Bool fun _ => isF s)), [H Prop fun _ => s.size ≤ 2000000])
  | _ => none
theorem eok_isFeatS : EntryOk Tryz.prog e_isFeatS := pureM_ok (by unfold isBody; kernel_rfl) (by
  intro a r ob e hob
  split at e
  · rename_i s
    simp only [zqt] at e
    obtain ⟨rfl, rfl⟩ := e
    exact ConN.args (.cons .rfl .nil) (c_isFeatS s hob.1)
  · simp at e)

end Go.Proofs.YtcjjffmbhionmaaGreatDoor.AM

set_option maxRecDepth 100000
set_option maxHeartbeats 4000000
set_option cbv.maxSteps 3000000
namespace Go.Proofs.YtcjjffmbhionmaaGreatDoor.AM
/- Valid registers; conditions: none. -/
def cnfI (g y : Grt) : Bool := decide (dI y.arms g.arms < 2)
structure Nsz (l : List Grt) : Prop where
  le : ∀ g ∈ l, g.name.size ≤ 2000000
theorem Nsz.at {l : List Grt} (h : Nsz l) (i : Nat) : (l.getD i default).name.size ≤ 2000000 := by
  rcases Nat.lt_or_ge i l.length with g | g
  · rw [List.getD_eq_getElem?_getD, List.getElem?_eq_getElem g, Option.getD_some]
    exact h.le _ (List.getElem_mem g)
  · rw [List.getD_eq_getElem?_getD, List.getElem?_eq_none g, Option.getD_none]
    exact Nat.zero_le _
def okN (g : Grt) : Bool := inB g.num 1 999 && (okNm g.name && (inB g.year 1000 2999 && okA g.arms))
def okOrd (l : List Grt) (i : Nat) : Bool := decide (i = 0) || (decide ((l.getD (i - 1) default).num < (l.getD i default).num) && decide ((l.getD (i - 1) default).year ≤ (l.getD i default).year))
def okAt (l : List Grt) (i : Nat) : Bool := okN (l.getD i default) && (okOrd l i && !(l.take i).any (cnfI (l.getD i default)))
def okRg (l : List Grt) : Bool := decide (l.length ≤ 12) && (List.range l.length).all (okAt l)
theorem okRg_all {l : List Grt} (h : ∀ i, i < l.length → okAt l i = true) : okRg l = decide (l.length ≤ 12) := by
  unfold okRg
  rw [List.all_eq_true.2 (fun i hi => h i (List.mem_range.1 hi)), Bool.and_true]
theorem okRg_bad {l : List Grt} {i : Nat} (hi : i < l.length) (h : okAt l i = false) : okRg l = false := by
  unfold okRg
  cases e : (List.range l.length).all (okAt l) with
  | false => rw [Bool.and_false]
  | true =>
    have := List.all_eq_true.1 e i (List.mem_range.2 hi)
    rw [h] at this; cases this
theorem okRg_in {l : List Grt} (h : okRg l = true) : l.length ≤ 12 ∧ ∀ i, i < l.length → okAt l i = true := by
  unfold okRg at h
  rw [Bool.and_eq_true, decide_eq_true_eq] at h
  exact ⟨h.1, fun i hi => List.all_eq_true.1 h.2 i (List.mem_range.2 hi)⟩
theorem okN_in {g : Grt} (h : okN g = true) : (1 ≤ g.num ∧ g.num ≤ 999) ∧ okNm g.name = true ∧ (1000 ≤ g.year ∧ g.year ≤ 2999) ∧ okA g.arms = true := by
  unfold okN inB at h
  simp only [Bool.and_eq_true, decide_eq_true_eq] at h
  exact h
theorem hetaW {H : Hold} (hH : H = stdH) (g : Grt) : (⟨H Int fun _ => g.num, H ByteArray fun _ => g.name, H Int fun _ => g.year, ⟨⟨H Int fun _ => g.arms.f.d, H Int fun _ => g.arms.f.l, H Int fun _ => g.arms.f.p, H Int fun _ => g.arms.f.q⟩, H Int fun _ => g.arms.o, H Int fun _ => g.arms.l, H Int fun _ => g.arms.t, ⟨H Int fun _ => g.arms.n.c, H Int fun _ => g.arms.n.k, H Int fun _ => g.arms.n.a, H Int fun _ => g.arms.n.t⟩, ⟨H Int fun _ => g.arms.r.c, H Int fun _ => g.arms.r.k, H Int fun _ => g.arms.r.a, H Int fun _ => g.arms.r.t⟩⟩⟩ : Grt) = g := by subst hH; rfl
def uW (l : List AV) : Option Grt := match l with
  | [.lit (.int .i64 x0), .lit (.string x1), .lit (.int .i64 x2), .lit (.int .i64 x3), .lit (.int .i64 x4), .lit (.int .i64 x5), .lit (.int .i64 x6), .lit (.int .i64 x7), .lit (.int .i64 x8), .lit (.int .i64 x9), .lit (.int .i64 x10), .lit (.int .i64 x11), .lit (.int .i64 x12), .lit (.int .i64 x13), .lit (.int .i64 x14), .lit (.int .i64 x15), .lit (.int .i64 x16), .lit (.int .i64 x17)] => some ⟨x0, x1, x2, ⟨⟨x3, x4, x5, x6⟩, x7, x8, x9, ⟨x10, x11, x12, x13⟩, ⟨x14, x15, x16, x17⟩⟩⟩
  | _ => none
theorem uW_some {l : List AV} {g : Grt} (h : uW l = some g) : l = rowW.cells stdH fun _ => g := by
  unfold uW at h
  split at h
  · cases h; rfl
  · cases h
theorem c_rgC (o g : Grt) : ConN Tryz.prog 72 [aT rowW stdH fun _ => o, .rptr (rowW.cells stdH fun _ => g)] [] 0 (.lit (.bool (stdH Bool fun _ => cnfI g o))) [] [] := by
  have hB : Base Tryz.prog (tabΓ [e_conflict]) tab := base_of tabOk (ents_cons eok_conflict <| ents_nil)
  refine con_m (N := 9) hB (draw_ok hB mixed) Tryz.func72 rfl rfl (fun H => [aT rowW H fun _ => o, .rptr (rowW.cells H fun _ => g)]) (fun _ => []) 0 (fun H => .lit (.bool (H Bool fun _ => cnfI g o))) (fun H => []) (fun _ => []) 100 (by simp) (fun x hx => ?_) (by simp [lk]) (by omega) (by simp) ?_
  · simp only [zqu] at hx
    rcases hx with rfl | rfl
    · exact aT_bl okRW _ _
    · exact (.rptr fun c hc => (okRW.bl (fun _ => g) c hc).mono (Nat.zero_le _))
  intro X hX hX0 H hH
  conv in Fin.chk _ _ => cbv
  try simp only [zqs, Plain_rowsW, zqx, AllP, zqw, upd, if_true]
  simp only [hetaA hH]
  rw [hH]
  rfl
noncomputable def e_rgC : Entry := pureE 72 fun H a => match a with
  | [.agg l, .rptr m] => (match uW l, uW m with
    | some o, some g => some (.lit (.bool (H Bool fun _ => cnfI g o)), [])
    | _, _ => none)
  | _ => none
theorem eok_rgC : EntryOk Tryz.prog e_rgC := pureM_ok (by unfold isBody; kernel_rfl) (by
  intro a r ob e hob
  split at e
  · split at e
    · rename_i h1 h2
      simp only [zqt] at e
      obtain ⟨rfl, rfl⟩ := e
      rw [uW_some h1, uW_some h2]
      exact c_rgC _ _
    · simp at e
  · simp at e)

end Go.Proofs.YtcjjffmbhionmaaGreatDoor.AM

set_option maxRecDepth 100000
set_option maxHeartbeats 4000000
set_option cbv.maxSteps 3000000
namespace Go.Proofs.YtcjjffmbhionmaaGreatDoor.AM
/- Registers searched; conditions: none. -/
theorem c_idxRg (s : List Grt) (f0 : Grt) (h0 : s.length ≤ 2000000) : ConN Tryz.prog 105 [.vec 18 (stdH Nat fun _ => (s).length) (rowsW stdH fun _ => s), .fn (.func 72) [] [.rptr (rowW.cells stdH fun _ => f0)]] [] 0 (.lit (.int .i64 (stdH Int fun _ => idxF (cnfI f0) s))) [] [] := by
  have hB : Base Tryz.prog (tabΓ [e_rgC]) tab := base_of tabOk (ents_cons eok_rgC <| ents_nil)
  refine con_m (N := 19) hB (draw_ok hB mixed) Tryz.func105 rfl rfl (fun H => [.vec 18 (H Nat fun _ => (s).length) (rowsW H fun _ => s), .fn (.func 72) [] [.rptr (rowW.cells H fun _ => f0)]]) (fun _ => []) 0 (fun H => .lit (.int .i64 (H Int fun _ => idxF (cnfI f0) s))) (fun H => []) (fun _ => []) 100 (by simp) (fun x hx => ?_) (by simp [lk]) (by omega) (by simp) ?_
  · simp only [zqu] at hx
    rcases hx with rfl | rfl
    · exact vl_bl okRW s _
    · exact (by
        refine .fn (fun c hc => by cases hc) ?_
        intro c hc
        simp only [zqu] at hc
        rcases hc with rfl
        · exact (.rptr fun c hc => (okRW.bl (fun _ => f0) c hc).mono (Nat.zero_le _)))
  intro X hX hX0 H hH
  conv in Fin.chk _ _ => cbv
  try simp only [zqx, AllP, zqw, upd, if_true]
  refine loop_a hB (draw_ok hB mixed) hX hX0 hH false (ι := { i : Nat // i ≤ (s).length ∧ ∀ j, j < i → (cnfI f0) ((s).getD j default) = false }) 100 (fun i => [.i (H Int fun _ => 0), .i (H Int fun _ => (i.1 : Nat))]) (fun i => (s).length - i.1) (⟨0, by omega, by omega⟩) ?_ ?_
  · (conv in matchSt _ _ _ _ => cbv); simp only [AllG, AllP, and_true, hH, stdH, zql, ncast, zqe, zqy]
    all_goals (repeat' (with_reducible refine And.intro ?_ ?_)) <;> (first | exact Eq.refl _ | exact True.intro | exact Nat.le_refl _ | exact RowsEq.self okRW | exact RowsEq.ofT okRW rfl (Shp_zero _) rfl | exact RowsEq.snoc okRW rfl | exact List.length_append | exact c.rqN)
  · intro I hI i
    conv in Fin.chk _ _ => cbv
    try simp only [zqx, AllP, zqw, upd, if_true]
    obtain ⟨i, hi, hj⟩ := i
    refine ⟨fun h1 => ⟨?_, fun h2 => ?_, fun h2 => ?_⟩, fun h1 => ?_⟩
    · simp only [hH, stdH, zqz, ne_eq, zqy] at h1 ⊢
      omega
    · simp only [hH, stdH, zqz, ne_eq, zqy] at h1
      simp only [hH, stdH, Int.toNat_natCast] at h2
      have h3 : (cnfI f0) ((s).getD i default) = true := by exact h2
      try simp only [hH, stdH, zqz, ne_eq, zqy]
      exact idxF_at default (by omega) h3 hj
    · simp only [hH, stdH, zqz, ne_eq, zqy] at h1
      simp only [hH, stdH, Int.toNat_natCast] at h2
      have h3 : (cnfI f0) ((s).getD i default) = false := by exact h2
      refine ⟨⟨i + 1, by omega, fun j hj' => ?_⟩, by simp only; omega, ?_⟩
      · rcases Nat.lt_succ_iff_lt_or_eq.1 hj' with h | rfl
        · exact hj j h
        · exact h3
      · rw [hI]
        (conv in matchSt _ _ _ _ => cbv); simp only [AllG, AllP, and_true, hH, stdH, zql, ncast, zqe, zqy]
        rw [w1 (by omega)]
        all_goals (repeat' (with_reducible refine And.intro ?_ ?_)) <;> (first | exact Eq.refl _ | exact True.intro | exact Nat.le_refl _ | exact RowsEq.self okRW | exact RowsEq.ofT okRW rfl (Shp_zero _) rfl | exact RowsEq.snoc okRW rfl | exact List.length_append | exact c.rqN)
    · simp only [hH, stdH, zqz, ne_eq, zqy] at h1 ⊢
      exact idxF_no default fun j hj' => hj j (by omega)
noncomputable def e_idxRg : Entry := pureE 105 fun H a => match a with
  | [.vec 18 sn sf, .fn (.func 72) [] [.rptr [.lit (.int .i64 f00), .lit (.string f01), .lit (.int .i64 f02), .lit (.int .i64 f03), .lit (.int .i64 f04), .lit (.int .i64 f05), .lit (.int .i64 f06), .lit (.int .i64 f07), .lit (.int .i64 f08), .lit (.int .i64 f09), .lit (.int .i64 f010), .lit (.int .i64 f011), .lit (.int .i64 f012), .lit (.int .i64 f013), .lit (.int .i64 f014), .lit (.int .i64 f015), .lit (.int .i64 f016), .lit (.int .i64 f017)]]] => some (.lit (.int .i64 (H Int fun _ => idxF (cnfI (⟨f00, f01, f02, ⟨⟨f03, f04, f05, f06⟩, f07, f08, f09, ⟨f010, f011, f012, f013⟩, ⟨f014, f015, f016, f017⟩⟩⟩ : Grt)) (Tl rowW sn sf))), [H Prop fun _ => Shp rowW sn sf, H Prop fun _ => (Tl rowW sn sf).length ≤ 2000000])
  | _ => none
theorem eok_idxRg : EntryOk Tryz.prog e_idxRg := pureM_ok (by unfold isBody; kernel_rfl) (by
  intro a r ob e hob
  split at e
  · rename_i sn sf f00 f01 f02 f03 f04 f05 f06 f07 f08 f09 f010 f011 f012 f013 f014 f015 f016 f017
    simp only [zqt] at e
    obtain ⟨rfl, rfl⟩ := e
    exact ConN.args (.cons (.toT okRW rfl hob.1) (.cons (.fn .nil (.cons (.rptr (AEqL.rfl _)) .nil)) .nil)) (c_idxRg (Tl rowW sn sf) (⟨f00, f01, f02, ⟨⟨f03, f04, f05, f06⟩, f07, f08, f09, ⟨f010, f011, f012, f013⟩, ⟨f014, f015, f016, f017⟩⟩⟩ : Grt) hob.2.1)
  · simp at e)
theorem c_anyRg (s : List Grt) (f0 : Grt) (h0 : s.length ≤ 2000000) : ConN Tryz.prog 71 [.vec 18 (stdH Nat fun _ => (s).length) (rowsW stdH fun _ => s), .fn (.func 72) [] [.rptr (rowW.cells stdH fun _ => f0)]] [] 0 (.lit (.bool (stdH Bool fun _ => s.any (cnfI f0)))) [] [] := by
  have hB : Base Tryz.prog (tabΓ [e_idxRg]) tab := base_of tabOk (ents_cons eok_idxRg <| ents_nil)
  refine con_m (N := 9) hB (draw_ok hB mixed) Tryz.func71 rfl rfl (fun H => [.vec 18 (H Nat fun _ => (s).length) (rowsW H fun _ => s), .fn (.func 72) [] [.rptr (rowW.cells H fun _ => f0)]]) (fun _ => []) 0 (fun H => .lit (.bool (H Bool fun _ => s.any (cnfI f0)))) (fun H => []) (fun _ => []) 100 (by simp) (fun x hx => ?_) (by simp [lk]) (by omega) (by simp) ?_
  · simp only [zqu] at hx
    rcases hx with rfl | rfl
    · exact vl_bl okRW s _
    · exact (by
        refine .fn (fun c hc => by cases hc) ?_
        intro c hc
        simp only [zqu] at hc
        rcases hc with rfl
        · exact (.rptr fun c hc => (okRW.bl (fun _ => f0) c hc).mono (Nat.zero_le _)))
  intro X hX hX0 H hH
  conv in Fin.chk _ _ => cbv
  try simp only [zqx, AllP, zqw, upd, if_true]
  refine ⟨⟨?_, ?_⟩, ?_⟩
  · try simp only [hH, stdH, zqz, ne_eq, zqy]
    exact Shp_W _ _
  · try simp only [hH, stdH, zqz, ne_eq, zqy]
    rw [Tl_W]; exact h0
  · try simp only [hH, stdH, zqz, ne_eq, zqy]
    rw [Tl_W]; exact (idxF_ge _ _).symm
noncomputable def e_anyRg : Entry := pureE 71 fun H a => match a with
  | [.vec 18 sn sf, .fn (.func 72) [] [.rptr [.lit (.int .i64 f00), .lit (.string f01), .lit (.int .i64 f02), .lit (.int .i64 f03), .lit (.int .i64 f04), .lit (.int .i64 f05), .lit (.int .i64 f06), .lit (.int .i64 f07), .lit (.int .i64 f08), .lit (.int .i64 f09), .lit (.int .i64 f010), .lit (.int .i64 f011), .lit (.int .i64 f012), .lit (.int .i64 f013), .lit (.int .i64 f014), .lit (.int .i64 f015), .lit (.int .i64 f016), .lit (.int .i64 f017)]]] => some (.lit (.bool (H Bool fun _ => (Tl rowW sn sf).any (cnfI (⟨f00, f01, f02, ⟨⟨f03, f04, f05, f06⟩, f07, f08, f09, ⟨f010, f011, f012, f013⟩, ⟨f014, f015, f016, f017⟩⟩⟩ : Grt)))), [H Prop fun _ => Shp rowW sn sf, H Prop fun _ => (Tl rowW sn sf).length ≤ 2000000])
  | _ => none
theorem eok_anyRg : EntryOk Tryz.prog e_anyRg := pureM_ok (by unfold isBody; kernel_rfl) (by
  intro a r ob e hob
  split at e
  · rename_i sn sf f00 f01 f02 f03 f04 f05 f06 f07 f08 f09 f010 f011 f012 f013 f014 f015 f016 f017
    simp only [zqt] at e
    obtain ⟨rfl, rfl⟩ := e
    exact ConN.args (.cons (.toT okRW rfl hob.1) (.cons (.fn .nil (.cons (.rptr (AEqL.rfl _)) .nil)) .nil)) (c_anyRg (Tl rowW sn sf) (⟨f00, f01, f02, ⟨⟨f03, f04, f05, f06⟩, f07, f08, f09, ⟨f010, f011, f012, f013⟩, ⟨f014, f015, f016, f017⟩⟩⟩ : Grt) hob.2.1)
  · simp at e)

end Go.Proofs.YtcjjffmbhionmaaGreatDoor.AM

set_option maxRecDepth 100000
set_option maxHeartbeats 4000000
set_option cbv.maxSteps 3000000
namespace Go.Proofs.YtcjjffmbhionmaaGreatDoor.AM
/- Registers that are valid; conditions: none. -/
theorem Tl_prt {α : Type} {D : RowD α} (ok : RowOk D) {L : List α} {i : Nat} (h : i ≤ L.length) : Tl D i (fun j => rowsT D stdH (fun _ => L) (0 + j)) = L.take i := by
  refine List.ext_getElem (by simp [Tl]; omega) fun j h1 h2 => ?_
  have hj : j < L.length := by rw [List.length_take] at h2; omega
  simp only [Tl, List.getElem_map, List.getElem_range, List.getElem_take, Nat.zero_add]
  rw [rowsT, ok.row, ok.of_cells, List.getD_eq_getElem?_getD, List.getElem?_eq_getElem hj, Option.getD_some]
theorem Shp_prt {α : Type} {D : RowD α} (ok : RowOk D) {L : List α} (i : Nat) : Shp D i (fun j => rowsT D stdH (fun _ => L) (0 + j)) := ⟨fun j _ => (Shp_rowsT ok (0 + j + 1) (fun _ => L)).row (0 + j) (by omega)⟩
theorem okN_c (g : Grt) : (bif bif bif !inB g.num 1 999 then true else !okNm g.name then true else !inB g.year 1000 2999 then true else !okA g.arms) = !okN g := by
  unfold okN
  cases inB g.num 1 999 <;> cases okNm g.name <;> cases inB g.year 1000 2999 <;> cases okA g.arms <;> rfl
theorem ord_c (l : List Grt) {i : Nat} (h : i ≤ 2000000) : (bif decide ((0 : Int) < i) then bif decide ((l.getD i default).num ≤ (l.getD (IntKind.i64.wrap ((i : Int) - 1)).toNat default).num) then true else decide ((l.getD i default).year < (l.getD (IntKind.i64.wrap ((i : Int) - 1)).toNat default).year) else false) = !okOrd l i := by
  unfold okOrd
  rcases Nat.eq_zero_or_pos i with rfl | h0
  · rfl
  · rw [show (IntKind.i64.wrap ((i : Int) - 1)).toNat = i - 1 by rw [wi (by omega) (by omega)]; omega, decide_eq_true (by omega : (0 : Int) < i), decide_eq_false (by omega : ¬ i = 0)]
    generalize (l.getD i default).num = a1
    generalize (l.getD (i - 1) default).num = a2
    generalize (l.getD i default).year = a3
    generalize (l.getD (i - 1) default).year = a4
    by_cases q1 : a1 ≤ a2 <;> by_cases q2 : a3 < a4
    · rw [decide_eq_true q1, decide_eq_false (by omega : ¬ a2 < a1)]; rfl
    · rw [decide_eq_true q1, decide_eq_false (by omega : ¬ a2 < a1)]; rfl
    · rw [decide_eq_false q1, decide_eq_true q2, decide_eq_true (by omega : a2 < a1), decide_eq_false (by omega : ¬ a4 ≤ a3)]; rfl
    · rw [decide_eq_false q1, decide_eq_false q2, decide_eq_true (by omega : a2 < a1), decide_eq_true (by omega : a4 ≤ a3)]; rfl
theorem TlW_part {L : List Grt} {i : Nat} (h : i ≤ L.length) : Tl rowW (hiOf L.length (some (i : Int)) - loOf none) (fun j => rowsW stdH (fun _ => L) (loOf none + j)) = L.take i := by
  simp only [hiOf, loOf, Int.toNat_natCast, Nat.sub_zero]
  exact Tl_prt okRW h
theorem okAt_mk {l : List Grt} {i : Nat} (h1 : okN (l.getD i default) = true) (h2 : okOrd l i = true) : okAt l i = !(l.take i).any (cnfI (l.getD i default)) := by
  unfold okAt
  rw [h1, h2]; rfl
theorem okAt_n {l : List Grt} {i : Nat} (h : okN (l.getD i default) = false ∨ okOrd l i = false) : okAt l i = false := by
  unfold okAt
  rcases h with h | h <;> rw [h]
  · rfl
  · cases okN (l.getD i default) <;> rfl
theorem c_validR (r : Rgr) (h0 : r.gs.length ≤ 2000000) (h1 : Nsz r.gs) : ConN Tryz.prog 31 [aT rowJ stdH fun _ => r] [] 0 (.lit (.bool (stdH Bool fun _ => okRg r.gs))) [] [] := by
  have hB : Base Tryz.prog (tabΓ [e_inside, e_isName, e_IsValidArms, e_anyRg]) tabG := base_of tabOkG (ents_cons eok_inside <| ents_cons eok_isName <| ents_cons eok_IsValidArms <| ents_cons eok_anyRg <| ents_nil)
  refine con_m (N := 72) hB (draw_ok hB mixed) Tryz.func31 rfl rfl (fun H => [aT rowJ H fun _ => r]) (fun _ => []) 0 (fun H => .lit (.bool (H Bool fun _ => okRg r.gs))) (fun H => []) (fun _ => []) 300 (by simp) (fun x hx => ?_) (by simp [lk]) (by omega) (by simp) ?_
  · simp only [zqu] at hx
    rcases hx with rfl
    · exact aT_bl okRJ _ _
  intro X hX hX0 H hH
  conv in Fin.chk _ _ => cbv
  try simp only [zqx, AllP, zqw, upd, if_true]
  refine loop_a hB (draw_ok hB mixed) hX hX0 hH false (ι := { i : Nat // i ≤ r.gs.length ∧ ∀ j, j < i → okAt r.gs j = true }) 300 (fun i => [.i (H Int fun _ => (i.1 : Nat))]) (fun i => r.gs.length - i.1) (⟨0, by omega, by omega⟩) ?_ ?_
  · (conv in matchSt _ _ _ _ => cbv); simp only [AllG, AllP, and_true, hH, stdH, zql, ncast, zqe, zqy]
    all_goals (repeat' (with_reducible refine And.intro ?_ ?_)) <;> (first | exact Eq.refl _ | exact True.intro | exact Nat.le_refl _ | exact RowsEq.self okRW | exact RowsEq.ofT okRW rfl (Shp_zero _) rfl | exact RowsEq.snoc okRW rfl | exact List.length_append | exact c.rqN)
  · intro I hI i
    conv in Fin.chk _ _ => cbv
    try simp only [zqx, AllP, zqw, upd, if_true]
    obtain ⟨i, hi, hj⟩ := i
    simp only [hetaA hH, hetaW hH]
    refine ⟨fun h2 => ⟨?_, ?_, fun h3 => ?_, fun h3 => ⟨?_, ?_, fun h4 => ?_, fun h4 => ⟨?_, ⟨?_, ?_⟩, fun h5 => ?_, fun h5 => ?_⟩⟩⟩, fun h2 => ?_⟩
    · simp only [hH, stdH, zqz, ne_eq, zqy] at h2 ⊢
      omega
    · try simp only [hH, stdH, zqz, ne_eq, zqy]
      exact fun _ => h1.at i
    · simp only [hH, stdH, zqz, ne_eq, zqy] at h2
      simp only [hH, stdH, Int.toNat_natCast] at h3
      rw [okN_c, Bool.not_eq_true'] at h3
      try simp only [hH, stdH, zqz, ne_eq, zqy]
      exact okRg_bad (by omega) (okAt_n (.inl h3))
    · simp only [hH, stdH, zqz, ne_eq, zqy] at h2 ⊢
      intro h6
      rw [wi (by omega) (by omega)]
      omega
    · simp only [hH, stdH, zqz, ne_eq, zqy] at h2 ⊢
      intro h6 h7
      rw [wi (by omega) (by omega)]
      omega
    · simp only [hH, stdH, zqz, ne_eq, zqy] at h2
      simp only [hH, stdH, Int.toNat_natCast] at h4
      rw [ord_c _ (by omega), Bool.not_eq_true'] at h4
      try simp only [hH, stdH, zqz, ne_eq, zqy]
      exact okRg_bad (by omega) (okAt_n (.inr h4))
    · simp only [hH, stdH, zqz, ne_eq, zqy] at h2
      try simp only [hH, stdH, zqz, ne_eq, zqy]
      exact ⟨trivial, by omega, by simp only [hiOf, loOf]; omega, by simp only [hiOf]; omega⟩
    · try simp only [hH, stdH, zqz, ne_eq, zqy]
      exact Shp_prt okRW _
    · try simp only [hH, stdH, zqz, ne_eq, zqy]
      rw [TlW_part hi, List.length_take]; omega
    · simp only [hH, stdH, zqz, ne_eq, zqy] at h2
      simp only [hH, stdH, Int.toNat_natCast] at h3
      simp only [hH, stdH, Int.toNat_natCast] at h4
      simp only [hH, stdH, Int.toNat_natCast] at h5
      rw [okN_c, Bool.not_eq_false'] at h3
      rw [ord_c _ (by omega), Bool.not_eq_false'] at h4
      rw [TlW_part hi] at h5
      try simp only [hH, stdH, zqz, ne_eq, zqy]
      refine okRg_bad (i := i) (by omega) ?_
      rw [okAt_mk h3 h4, h5]; rfl
    · simp only [hH, stdH, zqz, ne_eq, zqy] at h2
      simp only [hH, stdH, Int.toNat_natCast] at h3
      simp only [hH, stdH, Int.toNat_natCast] at h4
      simp only [hH, stdH, Int.toNat_natCast] at h5
      rw [okN_c, Bool.not_eq_false'] at h3
      rw [ord_c _ (by omega), Bool.not_eq_false'] at h4
      rw [TlW_part hi] at h5
      have h6 : okAt r.gs i = true := by rw [okAt_mk h3 h4, h5]; rfl
      refine ⟨⟨i + 1, by omega, fun j hj' => ?_⟩, by simp only; omega, ?_⟩
      · rcases Nat.lt_succ_iff_lt_or_eq.1 hj' with h | rfl
        · exact hj j h
        · exact h6
      · rw [hI]
        (conv in matchSt _ _ _ _ => cbv); simp only [AllG, AllP, and_true, hH, stdH, zql, ncast, zqe, zqy]
        rw [w1 (by omega)]
        all_goals (repeat' (with_reducible refine And.intro ?_ ?_)) <;> (first | exact Eq.refl _ | exact True.intro | exact Nat.le_refl _ | exact RowsEq.self okRW | exact RowsEq.ofT okRW rfl (Shp_zero _) rfl | exact RowsEq.snoc okRW rfl | exact List.length_append | exact c.rqN)
    · simp only [hH, stdH, zqz, ne_eq, zqy] at h2
      try simp only [hH, stdH, zqz, ne_eq, zqy]
      rw [okRg_all fun j hj' => hj j (by omega), decide_eq_decide]
      omega
noncomputable def e_validR : Entry := pureE 31 fun H a => match a with
  | [.agg [.vec 18 r0n r0f]] => some (.lit (.bool (H Bool fun _ => okRg (⟨(Tl rowW r0n r0f)⟩ : Rgr).gs)), [H Prop fun _ => Shp rowW r0n r0f, H Prop fun _ => (⟨(Tl rowW r0n r0f)⟩ : Rgr).gs.length ≤ 2000000, H Prop fun _ => Nsz (⟨(Tl rowW r0n r0f)⟩ : Rgr).gs])
  | _ => none
theorem eok_validR : EntryOk Tryz.prog e_validR := pureM_ok (by unfold isBody; kernel_rfl) (by
  intro a r ob e hob
  split at e
  · rename_i r0n r0f
    simp only [zqt] at e
    obtain ⟨rfl, rfl⟩ := e
    exact ConN.args (.cons (.agg (.cons (.toT okRW rfl hob.1) .nil)) .nil) (c_validR (⟨(Tl rowW r0n r0f)⟩ : Rgr) hob.2.1 hob.2.2.1)
  · simp at e)

end Go.Proofs.YtcjjffmbhionmaaGreatDoor.AM

set_option maxRecDepth 100000
set_option maxHeartbeats 4000000
set_option cbv.maxSteps 3000000
namespace Go.Proofs.YtcjjffmbhionmaaGreatDoor.AM
/- Registers that are valid: the reference's; conditions: none. -/
/- Grants of arms: the reference's; conditions: none. -/
theorem TlW_H {H : Hold} (hH : H = stdH) (L : List Grt) : Tl rowW (H Nat fun _ => L.length) (rowsW H fun _ => L) = L := by subst hH; exact Tl_W L
theorem okAt_in {l : List Grt} {i : Nat} (h : okAt l i = true) : okN (l.getD i default) = true ∧ (i ≠ 0 → (l.getD (i - 1) default).num < (l.getD i default).num ∧ (l.getD (i - 1) default).year ≤ (l.getD i default).year) ∧ ∀ o ∈ l.take i, ¬ dI o.arms (l.getD i default).arms < 2 := by
  unfold okAt okOrd at h
  simp only [Bool.and_eq_true, Bool.or_eq_true, decide_eq_true_eq, Bool.not_eq_true'] at h
  refine ⟨h.1, fun hi => ?_, fun o ho e => ?_⟩
  · rcases h.2.1 with g | g
    · exact absurd g hi
    · exact g
  · have := List.any_eq_false.1 h.2.2 o ho
    unfold cnfI at this
    rw [decide_eq_true e] at this
    exact this rfl
theorem c_l16Grant (g : Grt) (h0 : g.name.size ≤ 2000000) : ConN Tryz.prog 77 [aT rowW stdH fun _ => g] [] 0 (.lit (.bool (stdH Bool fun _ => okN g))) [] [] := by
  have hB : Base Tryz.prog (tabΓ [e_l1In, e_l16Name, e_l5Good]) tab := base_of tabOk (ents_cons eok_l1In <| ents_cons eok_l16Name <| ents_cons eok_l5Good <| ents_nil)
  refine con_m (N := 21) hB (draw_ok hB mixed) Tryz.func77 rfl rfl (fun H => [aT rowW H fun _ => g]) (fun _ => []) 0 (fun H => .lit (.bool (H Bool fun _ => okN g))) (fun H => []) (fun _ => []) 100 (by simp) (fun x hx => ?_) (by simp [lk]) (by omega) (by simp) ?_
  · simp only [zqu] at hx
    rcases hx with rfl
    · exact aT_bl okRW _ _
  intro X hX hX0 H hH
  conv in Fin.chk _ _ => cbv
  try simp only [zqx, AllP, zqw, upd, if_true]
  try simp only [TlW_H hH, hetaA hH]
  refine ⟨?_, ?_⟩
  · try simp only [hH, stdH, zqz, ne_eq, zqy]
    exact fun _ => h0
  · try simp only [hH, stdH, zqz, ne_eq, zqy]
    unfold okN
    cases inB g.num 1 999 <;> cases okNm g.name <;> cases inB g.year 1000 2999 <;> cases okA g.arms <;> rfl
noncomputable def e_l16Grant : Entry := pureE 77 fun H a => match a with
  | [.agg [.lit (.int .i64 g0), .lit (.string g1), .lit (.int .i64 g2), .lit (.int .i64 g3), .lit (.int .i64 g4), .lit (.int .i64 g5), .lit (.int .i64 g6), .lit (.int .i64 g7), .lit (.int .i64 g8), .lit (.int .i64 g9), .lit (.int .i64 g10), .lit (.int .i64 g11), .lit (.int .i64 g12), .lit (.int .i64 g13), .lit (.int .i64 g14), .lit (.int .i64 g15), .lit (.int .i64 g16), .lit (.int .i64 g17)]] => some (.lit (.bool (H Bool fun _ => okN (⟨g0, g1, g2, ⟨⟨g3, g4, g5, g6⟩, g7, g8, g9, ⟨g10, g11, g12, g13⟩, ⟨g14, g15, g16, g17⟩⟩⟩ : Grt))), [H Prop fun _ => (⟨g0, g1, g2, ⟨⟨g3, g4, g5, g6⟩, g7, g8, g9, ⟨g10, g11, g12, g13⟩, ⟨g14, g15, g16, g17⟩⟩⟩ : Grt).name.size ≤ 2000000])
  | _ => none
theorem eok_l16Grant : EntryOk Tryz.prog e_l16Grant := pureM_ok (by unfold isBody; kernel_rfl) (by
  intro a r ob e hob
  split at e
  · rename_i g0 g1 g2 g3 g4 g5 g6 g7 g8 g9 g10 g11 g12 g13 g14 g15 g16 g17
    simp only [zqt] at e
    obtain ⟨rfl, rfl⟩ := e
    exact ConN.args (.cons .rfl .nil) (c_l16Grant (⟨g0, g1, g2, ⟨⟨g3, g4, g5, g6⟩, g7, g8, g9, ⟨g10, g11, g12, g13⟩, ⟨g14, g15, g16, g17⟩⟩⟩ : Grt) hob.1)
  · simp at e)
theorem c_l16Good (r : Rgr) (h0 : r.gs.length ≤ 2000000) (h1 : Nsz r.gs) : ConN Tryz.prog 36 [aT rowJ stdH fun _ => r] [] 0 (.lit (.bool (stdH Bool fun _ => okRg r.gs))) [] [] := by
  have hB : Base Tryz.prog (tabΓ [e_l16Grant, e_l15Conflict]) tabG := base_of tabOkG (ents_cons eok_l16Grant <| ents_cons eok_l15Conflict <| ents_nil)
  refine con_m (N := 77) hB (draw_ok hB mixed) Tryz.func36 rfl rfl (fun H => [aT rowJ H fun _ => r]) (fun _ => []) 0 (fun H => .lit (.bool (H Bool fun _ => okRg r.gs))) (fun H => []) (fun _ => []) 300 (by simp) (fun x hx => ?_) (by simp [lk]) (by omega) (by simp) ?_
  · simp only [zqu] at hx
    rcases hx with rfl
    · exact aT_bl okRJ _ _
  intro X hX hX0 H hH
  conv in Fin.chk _ _ => cbv
  try simp only [zqx, AllP, zqw, upd, if_true]
  try simp only [TlW_H hH, hetaA hH]
  refine ⟨fun h2 => ?_, fun h2 => ?_⟩
  · simp only [hH, stdH, zqz, ne_eq, zqy] at h2
    try simp only [hH, stdH, zqz, ne_eq, zqy]
    unfold okRg
    rw [decide_eq_false (by omega)]; rfl
  · simp only [hH, stdH, zqz, ne_eq, zqy] at h2
    refine loop_a hB (draw_ok hB mixed) hX hX0 hH false (ι := { i : Nat // i ≤ r.gs.length ∧ ∀ j, j < i → okAt r.gs j = true }) 300 (fun i => [.i (H Int fun _ => (i.1 : Nat))]) (fun i => r.gs.length - i.1) (⟨0, by omega, by omega⟩) ?_ ?_
    · (conv in matchSt _ _ _ _ => cbv); simp only [AllG, AllP, and_true, hH, stdH, zql, ncast, zqe, zqy]
      all_goals (repeat' (with_reducible refine And.intro ?_ ?_)) <;> (first | exact Eq.refl _ | exact True.intro | exact Nat.le_refl _ | exact RowsEq.self okRW | exact RowsEq.ofT okRW rfl (Shp_zero _) rfl | exact RowsEq.snoc okRW rfl | exact List.length_append | exact c.rqN)
    · intro I hI i
      conv in Fin.chk _ _ => cbv
      try simp only [zqx, AllP, zqw, upd, if_true]
      obtain ⟨i, hi, hj⟩ := i
      simp only [hetaA hH, hetaW hH]
      have C : ∀ u v : Bool, (bif !u then true else v) = true → u = false ∨ v = true := fun u v => by cases u <;> cases v <;> simp
      have D : ∀ u v : Bool, (bif !u then true else v) = false → u = true ∧ v = false := fun u v => by cases u <;> cases v <;> simp
      refine ⟨fun h3 => ⟨?_, ?_, ?_, ?_, ?_, ?_, fun h4 => ?_, fun h4 => ?_⟩, fun h3 => ?_⟩
      · simp only [hH, stdH, zqz, ne_eq, zqy] at h3 ⊢
        omega
      · try simp only [hH, stdH, zqz, ne_eq, zqy]
        exact h1.at i
      · simp only [hH, stdH, zqz, ne_eq, zqy] at h3 ⊢
        intro _ h6
        rw [wi (by omega) (by omega)]
        omega
      · simp only [hH, stdH, zqz, ne_eq, zqy] at h3 ⊢
        intro _ h6
        omega
      · simp only [hH, stdH, zqz, ne_eq, zqy] at h3 ⊢
        intro h6 _ _
        rw [wi (by omega) (by omega)]
        omega
      · simp only [hH, stdH, zqz, ne_eq, zqy] at h3 ⊢
        intro h6 _ _
        omega
      · simp only [hH, stdH, zqz, ne_eq, zqy] at h3
        simp only [hH, stdH, Int.toNat_natCast] at h4
        rw [ord_c _ (by omega)] at h4
        try simp only [hH, stdH, zqz, ne_eq, zqy]
        refine okRg_bad (i := i) (by omega) (okAt_n ?_)
        rcases C _ _ h4 with q | q
        · exact .inl q
        · rw [Bool.not_eq_true'] at q
          exact .inr q
      · simp only [hH, stdH, zqz, ne_eq, zqy] at h3
        simp only [hH, stdH, Int.toNat_natCast] at h4
        rw [ord_c _ (by omega)] at h4
        obtain ⟨q1, q2⟩ := D _ _ h4
        rw [Bool.not_eq_false'] at q2
        have q3 := okAt_mk q1 q2
        have qa : okA (r.gs.getD i default).arms = true := (okN_in q1).2.2.2
        have g1 : 0 ≤ i := Nat.zero_le _
        refine loop_a hB (draw_ok hB mixed) hX hX0 hH true (ι := { k : Nat // k ≤ i ∧ ∀ j, j < k → ¬ dI (r.gs.getD j default).arms (r.gs.getD i default).arms < 2 }) 300 (fun k => [.i (H Int fun _ => (k.1 : Nat))]) (fun k => i - k.1) (⟨0, g1, by omega⟩) ?_ ?_
        · (conv in matchSt _ _ _ _ => cbv); simp only [AllG, AllP, and_true, hH, stdH, zql, ncast, zqe, zqy]
          all_goals (repeat' (with_reducible refine And.intro ?_ ?_)) <;> (first | exact Eq.refl _ | exact True.intro | exact Nat.le_refl _ | exact RowsEq.self okRW | exact RowsEq.ofT okRW rfl (Shp_zero _) rfl | exact RowsEq.snoc okRW rfl | exact List.length_append | exact c.rqN)
        · intro I2 hI2 k
          conv in Fin.chk _ _ => cbv
          try simp only [zqx, AllP, zqw, upd, if_true]
          obtain ⟨k, hk, hkj⟩ := k
          simp only [hetaA hH, hetaW hH]
          refine ⟨fun h5 => ⟨?_, ?_, fun h6 => ?_, fun h6 => ?_⟩, fun h5 => ?_⟩
          · simp only [hH, stdH, zqz, ne_eq, zqy] at h5 ⊢
            omega
          · simp only [hH, stdH, zqz, ne_eq, zqy] at h3 ⊢
            omega
          · simp only [hH, stdH, zqz, ne_eq, zqy] at h5
            simp only [hH, stdH, Int.toNat_natCast] at h6
            have h7 : okA (r.gs.getD k default).arms = true := (okN_in (okAt_in (hj k (by omega))).1).2.2.2
            rw [decide_eq_true_eq, ← dI_dS h7 qa] at h6
            try simp only [hH, stdH, zqz, ne_eq, zqy]
            refine okRg_bad (i := i) (by omega) ?_
            rw [q3, List.any_eq_true.2 ⟨r.gs.getD k default, ?_, ?_⟩]; rfl
            · rw [List.getD_eq_getElem?_getD, List.getElem?_eq_getElem (by omega), Option.getD_some]
              exact List.mem_take_iff_getElem.2 ⟨k, by omega, rfl⟩
            · exact decide_eq_true h6
          · simp only [hH, stdH, zqz, ne_eq, zqy] at h5
            simp only [hH, stdH, Int.toNat_natCast] at h6
            have h7 : okA (r.gs.getD k default).arms = true := (okN_in (okAt_in (hj k (by omega))).1).2.2.2
            rw [decide_eq_false_iff_not, ← dI_dS h7 qa] at h6
            refine ⟨⟨k + 1, by omega, fun j hj' => ?_⟩, by simp only; omega, ?_⟩
            · rcases Nat.lt_succ_iff_lt_or_eq.1 hj' with h | rfl
              · exact hkj j h
              · exact h6
            · rw [hI2]
              (conv in matchSt _ _ _ _ => cbv); simp only [AllG, AllP, and_true, hH, stdH, zql, ncast, zqe, zqy]
              rw [w1 (by omega)]
              all_goals (repeat' (with_reducible refine And.intro ?_ ?_)) <;> (first | exact Eq.refl _ | exact True.intro | exact Nat.le_refl _ | exact RowsEq.self okRW | exact RowsEq.ofT okRW rfl (Shp_zero _) rfl | exact RowsEq.snoc okRW rfl | exact List.length_append | exact c.rqN)
          · simp only [hH, stdH, zqz, ne_eq, zqy] at h5
            obtain rfl : k = i := by omega
            have q4 : okAt r.gs k = true := by
              rw [q3, Bool.not_eq_true', List.any_eq_false]
              intro y hy
              obtain ⟨j, hjl, rfl⟩ := List.mem_take_iff_getElem.1 hy
              have := hkj j (by omega)
              rw [List.getD_eq_getElem?_getD, List.getElem?_eq_getElem (by omega), Option.getD_some] at this
              unfold cnfI
              simpa using this
            rw [if_neg (by decide)]
            refine ⟨⟨k + 1, by omega, fun j hj' => ?_⟩, by simp only; omega, ?_⟩
            · rcases Nat.lt_succ_iff_lt_or_eq.1 hj' with h | rfl
              · exact hj j h
              · exact q4
            · rw [hI]
              (conv in matchSt _ _ _ _ => cbv); simp only [AllG, AllP, and_true, hH, stdH, zql, ncast, zqe, zqy]
              rw [w1 (by omega)]
              all_goals (repeat' (with_reducible refine And.intro ?_ ?_)) <;> (first | exact Eq.refl _ | exact True.intro | exact Nat.le_refl _ | exact RowsEq.self okRW | exact RowsEq.ofT okRW rfl (Shp_zero _) rfl | exact RowsEq.snoc okRW rfl | exact List.length_append | exact c.rqN)
      · simp only [hH, stdH, zqz, ne_eq, zqy] at h3
        try simp only [hH, stdH, zqz, ne_eq, zqy]
        rw [okRg_all fun j hj' => hj j (by omega)]
        exact decide_eq_true (by omega)
noncomputable def e_l16Good : Entry := pureE 36 fun H a => match a with
  | [.agg [.vec 18 r0n r0f]] => some (.lit (.bool (H Bool fun _ => okRg (⟨(Tl rowW r0n r0f)⟩ : Rgr).gs)), [H Prop fun _ => Shp rowW r0n r0f, H Prop fun _ => (⟨(Tl rowW r0n r0f)⟩ : Rgr).gs.length ≤ 2000000, H Prop fun _ => Nsz (⟨(Tl rowW r0n r0f)⟩ : Rgr).gs])
  | _ => none
theorem eok_l16Good : EntryOk Tryz.prog e_l16Good := pureM_ok (by unfold isBody; kernel_rfl) (by
  intro a r ob e hob
  split at e
  · rename_i r0n r0f
    simp only [zqt] at e
    obtain ⟨rfl, rfl⟩ := e
    exact ConN.args (.cons (.agg (.cons (.toT okRW rfl hob.1) .nil)) .nil) (c_l16Good (⟨(Tl rowW r0n r0f)⟩ : Rgr) hob.2.1 hob.2.2.1)
  · simp at e)

end Go.Proofs.YtcjjffmbhionmaaGreatDoor.AM

set_option maxRecDepth 100000
set_option maxHeartbeats 4000000
set_option cbv.maxSteps 3000000
namespace Go.Proofs.YtcjjffmbhionmaaGreatDoor.AM
/- Grants of arms: plain; conditions: none. -/
theorem dr0 (f : Nat → List AV) : dropR 0 18 f = f := by
  funext j
  show f (0 / 18 + j) = f j
  rw [Nat.zero_div, Nat.zero_add]
theorem appN0 {α : Type} (f g : Nat → α) : app 0 f g = g := by
  funext j
  rfl
def GW (l : List Grt) (g : Grt) : Nat → List AV := app l.length (rowsW stdH fun _ => l) (dropR 0 18 (rowsOf 18 (rowW.cells stdH fun _ => g)))
theorem GW_shp {l : List Grt} {g : Grt} : Shp rowW (l.length + 1) (GW l g) := by
  unfold GW
  rw [dr0]
  exact Shp_app (Shp_W _ _) (Shp_one rfl)
theorem GW_tl {l : List Grt} {g : Grt} : Tl rowW (l.length + 1) (GW l g) = l ++ [g] := by
  unfold GW
  rw [dr0, Tl_app, Tl_W, Tl_one]
  rfl
theorem GW_eq {l : List Grt} {g : Grt} : RowsEq 18 (l ++ [g]).length (rowsW stdH fun _ => l ++ [g]) (l.length + 1) (GW l g) := RowsEq.ofT okRW rfl GW_shp GW_tl.symm
theorem num_up {l : List Grt} (h : ∀ i, i < l.length → okAt l i = true) : ∀ (d i : Nat), i + d + 1 < l.length → (l.getD i default).num < (l.getD (i + d + 1) default).num
  | 0, i, hi => by
    have := (okAt_in (h (i + 1) hi)).2.1 (by omega)
    rw [Nat.add_sub_cancel] at this
    exact this.1
  | d + 1, i, hi => by
    have h1 := num_up h d i (by omega)
    have h2 := (okAt_in (h (i + d + 1 + 1) (by omega))).2.1 (by omega)
    rw [Nat.add_sub_cancel] at h2
    exact Int.lt_trans h1 h2.1
theorem RowsEq.putW {L : List Grt} {j : Nat} (x : Grt) {M : List Grt} (e : L.set j x = M) : RowsEq 18 M.length (rowsW stdH fun _ => M) L.length (put1 j (rowW.cells stdH fun _ => x) (rowsW stdH fun _ => L)) :=
  .ofT okRW rfl (Shp_put1 (Shp_W _ _) (by rw [okRW.of_cells])) (by rw [Tl_put1, Tl_W, okRW.of_cells, e])

end Go.Proofs.YtcjjffmbhionmaaGreatDoor.AM

set_option maxRecDepth 100000
set_option maxHeartbeats 4000000
set_option cbv.maxSteps 3000000
namespace Go.Proofs.YtcjjffmbhionmaaGreatDoor.AM
/- Features that arms share with a list; conditions: none. -/
def hasF (a : Arm) (s : ByteArray) : Bool := (ftP a).any fun y => decide (y = s)
def shN (a : Arm) (l : List ByteArray) (i : Nat) : Nat := ((l.take i).filter (hasF a)).length
theorem shN_s {a : Arm} {l : List ByteArray} {i : Nat} (h : i < l.length) : shN a l (i + 1) = shN a l i + (if hasF a (l.getD i ByteArray.empty) = true then 1 else 0) := by
  unfold shN
  rw [List.take_succ_eq_append_getElem h, List.filter_append, List.length_append, List.getD_eq_getElem?_getD, List.getElem?_eq_getElem h, Option.getD_some]
  congr 1
  cases q : hasF a l[i] <;> simp [q]
theorem shN_le (a : Arm) (l : List ByteArray) (i : Nat) : shN a l i ≤ i := by
  unfold shN
  exact Nat.le_trans (List.length_filter_le _ _) (by rw [List.length_take]; omega)
theorem ftP_len (a : Arm) : (ftP a).length ≤ 12 := by
  unfold ftP
  have h1 := cmpL_le (srt (ftU a))
  rw [srt_len] at h1
  have := ftU_len a
  omega
theorem c_sharedF (a : Arm) (l : List ByteArray) (h0 : okA a = true) (h1 : l.length ≤ 100000) : ConN Tryz.prog 35 [aT rowA stdH fun _ => a, .vec 1 (stdH Nat fun _ => (l).length) (rowsS stdH fun _ => l)] [] 0 (.lit (.int .i64 (stdH Int fun _ => (shN a l l.length : Nat)))) [] [] := by
  have hB : Base Tryz.prog (tabΓ [e_featuresA, e_hasS, e_numB]) tab := base_of tabOk (ents_cons eok_featuresA <| ents_cons eok_hasS <| ents_cons eok_numB <| ents_nil)
  refine con_m (N := 25) hB (draw_ok hB mixed) Tryz.func35 rfl rfl (fun H => [aT rowA H fun _ => a, .vec 1 (H Nat fun _ => (l).length) (rowsS H fun _ => l)]) (fun _ => []) 0 (fun H => .lit (.int .i64 (H Int fun _ => (shN a l l.length : Nat)))) (fun H => []) (fun _ => []) 300 (by simp) (fun x hx => ?_) (by simp [lk]) (by omega) (by simp) ?_
  · simp only [zqu] at hx
    rcases hx with rfl | rfl
    · exact aT_bl okRA _ _
    · exact vl_bl okS l _
  intro X hX hX0 H hH
  conv in Fin.chk _ _ => cbv
  try simp only [zqs, Plain_rowsC, Plain_rowsW, zqx, AllP, zqw, upd, if_true]
  have hf := ftP_len a
  simp only [hetaA hH]
  refine ⟨?_, ?_⟩
  · try simp only [hH, stdH, zqz, ne_eq, zqy]
    exact h0
  refine loop_c hB (draw_ok hB mixed) hX hX0 hH [0, 1, 2, 4, 5, 6, 11, 12, 13] (ι := { i : Nat // i ≤ l.length }) 300 (fun i => [.i (H Int fun _ => (shN a l i.1 : Nat)), .i (H Int fun _ => (i.1 : Nat))]) (fun i => l.length - i.1) (⟨0, Nat.zero_le _⟩) ?_ ?_
  · (conv in matchSt _ _ _ _ => cbv); simp only [AllG, AllP, and_true, hH, stdH, zql, ncast, zqe, zqy]
    (repeat' (with_reducible refine And.intro ?_ ?_)) <;> (first | exact True.intro | exact Eq.refl _ | exact RowsEq.self okS)
  · intro I hI i
    conv in Fin.chk _ _ => cbv
    try simp only [zqs, Plain_rowsC, Plain_rowsW, zqx, AllP, zqw, upd, if_true]
    obtain ⟨i, hi⟩ := i
    have hc := shN_le a l i
    refine ⟨fun h1 => ⟨?_, ⟨?_, ?_⟩, ?_⟩, fun h1 => ?_⟩
    · simp only [hH, stdH, zqz, ne_eq, zqy] at h1 ⊢
      omega
    · try simp only [hH, stdH, zqz, ne_eq, zqy]
      exact Shp_rowsT okS _ (fun _ => _)
    · simp only [hH, stdH, TlS']
      omega
    · simp only [hH, stdH, zqz, ne_eq, zqy] at h1
      refine ⟨⟨i + 1, by omega⟩, by simp only; omega, ?_⟩
      rw [hI]
      (conv in matchSt _ _ _ _ => cbv); simp only [AllG, AllP, and_true, hH, stdH, zql, ncast, zqe, zqy]
      have e : IntKind.i64.wrap (((shN a l i : Nat) : Int) + nB (hasF a (l.getD i ByteArray.empty))) = ((shN a l (i + 1) : Nat) : Int) := by
        rw [shN_s (by omega)]
        unfold nB
        cases hasF a (l.getD i ByteArray.empty)
        · rw [cond_false, wi (by omega) (by omega)]; simp
        · rw [cond_true, wi (by omega) (by omega)]; simp
      simp only [Int.toNat_natCast, TlS']
      rw [w1 (by omega)]
      (repeat' (with_reducible refine And.intro ?_ ?_)) <;> (first | exact True.intro | exact e.symm | exact Eq.refl _ | exact RowsEq.self okS)
    · simp only [hH, stdH, zqz, ne_eq, zqy] at h1
      obtain rfl : i = l.length := by omega
      try simp only [hH, stdH, zqz, ne_eq, zqy]
noncomputable def e_sharedF : Entry := pureE 35 fun H a => match a with
  | [.agg [.lit (.int .i64 a0), .lit (.int .i64 a1), .lit (.int .i64 a2), .lit (.int .i64 a3), .lit (.int .i64 a4), .lit (.int .i64 a5), .lit (.int .i64 a6), .lit (.int .i64 a7), .lit (.int .i64 a8), .lit (.int .i64 a9), .lit (.int .i64 a10), .lit (.int .i64 a11), .lit (.int .i64 a12), .lit (.int .i64 a13), .lit (.int .i64 a14)], .vec 1 ln lf] => some (.lit (.int .i64 (H Int fun _ => (shN (⟨⟨a0, a1, a2, a3⟩, a4, a5, a6, ⟨a7, a8, a9, a10⟩, ⟨a11, a12, a13, a14⟩⟩ : Arm) (Tl rowS ln lf) (Tl rowS ln lf).length : Nat))), [H Prop fun _ => Shp rowS ln lf, H Prop fun _ => okA (⟨⟨a0, a1, a2, a3⟩, a4, a5, a6, ⟨a7, a8, a9, a10⟩, ⟨a11, a12, a13, a14⟩⟩ : Arm) = true, H Prop fun _ => (Tl rowS ln lf).length ≤ 100000])
  | _ => none
theorem eok_sharedF : EntryOk Tryz.prog e_sharedF := pureM_ok (by unfold isBody; kernel_rfl) (by
  intro a r ob e hob
  split at e
  · rename_i a0 a1 a2 a3 a4 a5 a6 a7 a8 a9 a10 a11 a12 a13 a14 ln lf
    simp only [zqt] at e
    obtain ⟨rfl, rfl⟩ := e
    exact ConN.args (.cons .rfl (.cons (.toT okS rfl hob.1) .nil)) (c_sharedF (⟨⟨a0, a1, a2, a3⟩, a4, a5, a6, ⟨a7, a8, a9, a10⟩, ⟨a11, a12, a13, a14⟩⟩ : Arm) (Tl rowS ln lf) hob.2.1 hob.2.2.1)
  · simp at e)
def luE (f : List ByteArray) (g : Grt) : Bool := ((shN g.arms f f.length : Nat) : Int) == ((f.length : Nat) : Int)
theorem c_luC (g : Grt) (f : List ByteArray) (h0 : okA g.arms = true) (h1 : f.length ≤ 100000) : ConN Tryz.prog 41 [aT rowW stdH fun _ => g, .rptr [.vec 1 (stdH Nat fun _ => (f).length) (rowsS stdH fun _ => f)]] [] 0 (.lit (.bool (stdH Bool fun _ => luE f g))) [] [] := by
  have hB : Base Tryz.prog (tabΓ [e_sharedF]) tab := base_of tabOk (ents_cons eok_sharedF <| ents_nil)
  refine con_m (N := 11) hB (draw_ok hB mixed) Tryz.func41 rfl rfl (fun H => [aT rowW H fun _ => g, .rptr [.vec 1 (H Nat fun _ => (f).length) (rowsS H fun _ => f)]]) (fun _ => []) 0 (fun H => .lit (.bool (H Bool fun _ => luE f g))) (fun H => []) (fun _ => []) 100 (by simp) (fun x hx => ?_) (by simp [lk]) (by omega) (by simp) ?_
  · simp only [zqu] at hx
    rcases hx with rfl | rfl
    · exact aT_bl okRW _ _
    · exact (by
        refine .rptr ?_
        intro c hc
        simp only [zqu] at hc
        rcases hc with rfl
        · exact vl_bl okS f _)
  intro X hX hX0 H hH
  conv in Fin.chk _ _ => cbv
  try simp only [zqs, Plain_rowsC, Plain_rowsW, zqx, AllP, zqw, upd, if_true]
  simp only [hetaA hH]
  subst hH
  simp only [stdH, TlS']
  exact ⟨⟨Shp_rowsT okS _ (fun _ => _), h0, h1⟩, rfl⟩
noncomputable def e_luC : Entry := pureE 41 fun H a => match a with
  | [.agg [.lit (.int .i64 g0), .lit (.string g1), .lit (.int .i64 g2), .lit (.int .i64 g3), .lit (.int .i64 g4), .lit (.int .i64 g5), .lit (.int .i64 g6), .lit (.int .i64 g7), .lit (.int .i64 g8), .lit (.int .i64 g9), .lit (.int .i64 g10), .lit (.int .i64 g11), .lit (.int .i64 g12), .lit (.int .i64 g13), .lit (.int .i64 g14), .lit (.int .i64 g15), .lit (.int .i64 g16), .lit (.int .i64 g17)], .rptr [.vec 1 fn ff]] => some (.lit (.bool (H Bool fun _ => luE (Tl rowS fn ff) (⟨g0, g1, g2, ⟨⟨g3, g4, g5, g6⟩, g7, g8, g9, ⟨g10, g11, g12, g13⟩, ⟨g14, g15, g16, g17⟩⟩⟩ : Grt))), [H Prop fun _ => Shp rowS fn ff, H Prop fun _ => okA (⟨g0, g1, g2, ⟨⟨g3, g4, g5, g6⟩, g7, g8, g9, ⟨g10, g11, g12, g13⟩, ⟨g14, g15, g16, g17⟩⟩⟩ : Grt).arms = true, H Prop fun _ => (Tl rowS fn ff).length ≤ 100000])
  | _ => none
theorem eok_luC : EntryOk Tryz.prog e_luC := pureM_ok (by unfold isBody; kernel_rfl) (by
  intro a r ob e hob
  split at e
  · rename_i g0 g1 g2 g3 g4 g5 g6 g7 g8 g9 g10 g11 g12 g13 g14 g15 g16 g17 fn ff
    simp only [zqt] at e
    obtain ⟨rfl, rfl⟩ := e
    exact ConN.args (.cons .rfl (.cons (.rptr (.cons (.toT okS rfl hob.1) .nil)) .nil)) (c_luC (⟨g0, g1, g2, ⟨⟨g3, g4, g5, g6⟩, g7, g8, g9, ⟨g10, g11, g12, g13⟩, ⟨g14, g15, g16, g17⟩⟩⟩ : Grt) (Tl rowS fn ff) hob.2.1 hob.2.2.1)
  · simp at e)
def biE (s : ByteArray) (g : Grt) : Bool := ((shN g.arms [s] 1 : Nat) : Int) == 1
theorem okA_at {l : List Grt} (h : ∀ g ∈ l, okA g.arms = true) {i : Nat} (hi : i < l.length) : okA (l.getD i default).arms = true := by
  rw [List.getD_eq_getElem?_getD, List.getElem?_eq_getElem hi, Option.getD_some]
  exact h _ (List.getElem_mem hi)

end Go.Proofs.YtcjjffmbhionmaaGreatDoor.AM

set_option maxRecDepth 100000
set_option maxHeartbeats 4000000
set_option cbv.maxSteps 3000000
namespace Go.Proofs.YtcjjffmbhionmaaGreatDoor.AM
/- The numbers of grants by features; conditions: none. -/
theorem c_numL (r : Rgr) (k0 : List ByteArray) (h0 : r.gs.length ≤ 2000000) (h1 : (∀ g ∈ r.gs, okA g.arms = true)) (h2 : k0.length ≤ 100000) : ConN Tryz.prog 33 [aT rowJ stdH fun _ => r, .fn (.func 41) [] [.rptr [.vec 1 (stdH Nat fun _ => (k0).length) (rowsS stdH fun _ => k0)]]] [] 0 (.slc 0 0 1 (stdH Nat fun _ => (nmb (luE k0) r.gs r.gs.length).length)) [.rows 1 (stdH Nat fun _ => (nmb (luE k0) r.gs r.gs.length).length) (rowsI stdH fun _ => nmb (luE k0) r.gs r.gs.length) 3] [] := by
  have hB : Base Tryz.prog (tabΓ [e_luC]) tabO := base_of tabOkO (ents_cons eok_luC <| ents_nil)
  refine con_m (N := 26) hB (draw_ok hB mixed) Tryz.func33 rfl rfl (fun H => [aT rowJ H fun _ => r, .fn (.func 41) [] [.rptr [.vec 1 (H Nat fun _ => (k0).length) (rowsS H fun _ => k0)]]]) (fun _ => []) 0 (fun H => .slc 0 0 1 (H Nat fun _ => (nmb (luE k0) r.gs r.gs.length).length)) (fun H => [.rows 1 (H Nat fun _ => (nmb (luE k0) r.gs r.gs.length).length) (rowsI H fun _ => nmb (luE k0) r.gs r.gs.length) 3]) (fun _ => []) 300 (by simp) (fun x hx => ?_) (by simp [lk]) (by omega) (by simp) ?_
  · simp only [zqu] at hx
    rcases hx with rfl | rfl
    · exact aT_bl okRJ _ _
    · exact (by
        refine .fn (fun c hc => by cases hc) ?_
        intro c hc
        simp only [zqu] at hc
        rcases hc with rfl
        · exact (by
        refine .rptr ?_
        intro c hc
        simp only [zqu] at hc
        rcases hc with rfl
        · exact vl_bl okS k0 _))
  intro X hX hX0 H hH
  conv in Fin.chk _ _ => cbv
  try simp only [zqs, Plain_rowsC, Plain_rowsW, zqx, AllP, zqw, upd, if_true]
  have h1' := h1
  have h2' := h2
  refine loop_a hB (draw_ok hB mixed) hX hX0 hH false (ι := { i : Nat // i ≤ r.gs.length }) 300 (fun i => [.r (H Nat fun _ => (nmb (luE k0) r.gs i.1).length) (rowsI H fun _ => nmb (luE k0) r.gs i.1), .i (H Int fun _ => (i.1 : Nat))]) (fun i => r.gs.length - i.1) (⟨0, by omega⟩) ?_ ?_
  · (conv in matchSt _ _ _ _ => cbv); simp only [AllG, AllP, and_true, hH, stdH, zql, ncast, zqe, zqy]
    rw [nmb_0]
    all_goals (repeat' (with_reducible refine And.intro ?_ ?_)) <;> (first | exact Eq.refl _ | exact True.intro | exact Nat.le_refl _ | exact RowsEq.self okRW | exact RowsEq.ofT okRW rfl (Shp_zero _) rfl | exact RowsEq.snoc okRW rfl | exact RowsEq.self okI | exact RowsEq.ofT okI rfl (Shp_zero _) rfl | exact RowsEq.snoc okI rfl | exact RowsEq.more okI (Shp_I _ _) (Tl_I _) | exact RowsEq.self okS | exact RowsEq.ofT okS rfl (Shp_zero _) rfl | exact RowsEq.snoc okS rfl | exact RowsEq.more okS (Shp_S _ _) (Tl_S _) | exact List.length_append | exact c.rqN)
  · intro I hI i
    conv in Fin.chk _ _ => cbv
    try simp only [zqs, Plain_rowsC, Plain_rowsW, zqx, AllP, zqw, upd, if_true]
    obtain ⟨i, hi⟩ := i
    have hl := nmb_le (luE k0) r.gs i
    try simp only [hetaA hH, hs2 hH]
    refine ⟨fun h1 => ⟨?_, ⟨?_, ?_, ?_⟩, fun h2 => ⟨?_, ?_⟩, fun h2 => ?_⟩, fun h1 => ?_⟩
    · simp only [hH, stdH, zqz, ne_eq, zqy] at h1 ⊢
      omega
    · try simp only [hH, stdH, zqz, ne_eq, zqy]
      exact Shp_rowsT okS _ (fun _ => _)
    · simp only [hH, stdH, zqz, ne_eq, zqy] at h1
      simp only [hH, stdH, Int.toNat_natCast]
      exact okA_at h1' (by omega)
    · simp only [hH, stdH, TlS']
      exact h2'
    · try simp only [hH, stdH, zqz, ne_eq, zqy]
      ((repeat' (with_reducible refine And.intro ?_ ?_)) <;> (first | exact True.intro | omega | exact Eq.refl _))
    · simp only [hH, stdH, zqz, ne_eq, zqy] at h1
      simp only [hH, stdH, Int.toNat_natCast] at h2
      try simp only [TlS'] at h2
      have h3 : (luE k0) (r.gs.getD i default) = true := h2
      refine ⟨⟨i + 1, by omega⟩, by simp only; omega, ?_⟩
      rw [hI]
      (conv in matchSt _ _ _ _ => cbv); simp only [AllG, AllP, and_true, hH, stdH, zql, ncast, zqe, zqy]
      rw [w1 (by omega), nmb_s (by omega), if_pos h3]
      all_goals (repeat' (with_reducible refine And.intro ?_ ?_)) <;> (first | exact Eq.refl _ | exact True.intro | exact Nat.le_refl _ | exact RowsEq.self okRW | exact RowsEq.ofT okRW rfl (Shp_zero _) rfl | exact RowsEq.snoc okRW rfl | exact RowsEq.self okI | exact RowsEq.ofT okI rfl (Shp_zero _) rfl | exact RowsEq.snoc okI rfl | exact RowsEq.more okI (Shp_I _ _) (Tl_I _) | exact RowsEq.self okS | exact RowsEq.ofT okS rfl (Shp_zero _) rfl | exact RowsEq.snoc okS rfl | exact RowsEq.more okS (Shp_S _ _) (Tl_S _) | exact List.length_append | exact c.rqN)
    · simp only [hH, stdH, zqz, ne_eq, zqy] at h1
      simp only [hH, stdH, Int.toNat_natCast] at h2
      try simp only [TlS'] at h2
      have h3 : (luE k0) (r.gs.getD i default) = false := h2
      refine ⟨⟨i + 1, by omega⟩, by simp only; omega, ?_⟩
      rw [hI]
      (conv in matchSt _ _ _ _ => cbv); simp only [AllG, AllP, and_true, hH, stdH, zql, ncast, zqe, zqy]
      rw [w1 (by omega), nmb_s (by omega), if_neg (ne_true_of_eq_false h3)]
      all_goals (repeat' (with_reducible refine And.intro ?_ ?_)) <;> (first | exact Eq.refl _ | exact True.intro | exact Nat.le_refl _ | exact RowsEq.self okRW | exact RowsEq.ofT okRW rfl (Shp_zero _) rfl | exact RowsEq.snoc okRW rfl | exact RowsEq.self okI | exact RowsEq.ofT okI rfl (Shp_zero _) rfl | exact RowsEq.snoc okI rfl | exact RowsEq.more okI (Shp_I _ _) (Tl_I _) | exact RowsEq.self okS | exact RowsEq.ofT okS rfl (Shp_zero _) rfl | exact RowsEq.snoc okS rfl | exact RowsEq.more okS (Shp_S _ _) (Tl_S _) | exact List.length_append | exact c.rqN)
    · simp only [hH, stdH, zqz, ne_eq, zqy] at h1
      obtain rfl : i = r.gs.length := by omega
      try simp only [hH, stdH, zqz, ne_eq, zqy]
      exact ⟨RowsEq.self okI, trivial⟩
noncomputable def e_numL : Entry := pureN 33 fun H a => match a with
  | [.agg [.vec 18 r0n r0f], .fn (.func 41) [] [.rptr [.vec 1 k0n k0f]]] => some (fun nx => .slc nx 0 1 (H Nat fun _ => (nmb (luE (Tl rowS k0n k0f)) (⟨(Tl rowW r0n r0f)⟩ : Rgr).gs (⟨(Tl rowW r0n r0f)⟩ : Rgr).gs.length).length), [.rows 1 (H Nat fun _ => (nmb (luE (Tl rowS k0n k0f)) (⟨(Tl rowW r0n r0f)⟩ : Rgr).gs (⟨(Tl rowW r0n r0f)⟩ : Rgr).gs.length).length) (rowsI H fun _ => nmb (luE (Tl rowS k0n k0f)) (⟨(Tl rowW r0n r0f)⟩ : Rgr).gs (⟨(Tl rowW r0n r0f)⟩ : Rgr).gs.length) 3], [H Prop fun _ => Shp rowW r0n r0f, H Prop fun _ => Shp rowS k0n k0f, H Prop fun _ => (⟨(Tl rowW r0n r0f)⟩ : Rgr).gs.length ≤ 2000000, H Prop fun _ => (∀ g ∈ (⟨(Tl rowW r0n r0f)⟩ : Rgr).gs, okA g.arms = true), H Prop fun _ => (Tl rowS k0n k0f).length ≤ 100000])
  | _ => none
theorem eok_numL : EntryOk Tryz.prog e_numL := pureN_ok (by unfold isBody; kernel_rfl) (by
  intro a r nb ob e hob
  split at e
  · rename_i r0n r0f k0n k0f
    simp only [zqt] at e
    obtain ⟨rfl, rfl, rfl⟩ := e
    refine ⟨ConN.args (.cons (.agg (.cons (.toT okRW rfl hob.1) .nil)) (.cons (.fn .nil (.cons (.rptr (.cons (.toT okS rfl hob.2.1) .nil)) .nil)) .nil)) (c_numL (⟨(Tl rowW r0n r0f)⟩ : Rgr) (Tl rowS k0n k0f) hob.2.2.1 hob.2.2.2.1 hob.2.2.2.2.1), fun x hx => ?_, fun nx => ?_, fun b hb => ?_⟩
    · simp only [zqu] at hx
      rcases hx with rfl | rfl
      · exact (.agg fun c hc => (by
        simp only [zqu] at hc
        rcases hc with rfl
        · exact (hob.1).bl okRW _))
      · exact (by
        refine .fn (fun c hc => by cases hc) ?_
        intro c hc
        simp only [zqu] at hc
        rcases hc with rfl
        · exact (by
        refine .rptr ?_
        intro c hc
        simp only [zqu] at hc
        rcases hc with rfl
        · exact (hob.2.1).bl okS _))
    · (first | exact .slc ⟨by omega, by simp⟩ (by omega) | (refine .tup rfl (fun c x y hx hy => ?_); rcases c with _ | _ | _ | c <;> simp at hx hy <;> (subst hx; subst hy; first | exact .slc ⟨by omega, by simp⟩ (by omega) | exact .pl .lit | exact .pl (blq_ok 4 rfl) | (refine .agg rfl (fun c x y hx hy => ?_); rcases c with _ | _ | _ | c <;> simp at hx hy <;> (subst hx; subst hy; first | exact .slc ⟨by omega, by simp⟩ (by omega) | exact .pl .lit | exact .pl (blq_ok 4 rfl))))) | (refine .agg rfl (fun c x y hx hy => ?_); rcases c with _ | _ | _ | c <;> simp at hx hy <;> (subst hx; subst hy; first | exact .slc ⟨by omega, by simp⟩ (by omega) | exact .pl .lit | exact .pl (blq_ok 4 rfl))))
    · simp only [zqu] at hb; subst hb; exact bT_bl okI _ (fun _ => nmb (luE (Tl rowS k0n k0f)) (⟨(Tl rowW r0n r0f)⟩ : Rgr).gs (⟨(Tl rowW r0n r0f)⟩ : Rgr).gs.length) _
  · simp at e)
end Go.Proofs.YtcjjffmbhionmaaGreatDoor.AM

set_option maxRecDepth 100000
set_option maxHeartbeats 4000000
set_option cbv.maxSteps 3000000
namespace Go.Proofs.YtcjjffmbhionmaaGreatDoor.AM
/- Registers as texts; conditions: none. -/
theorem okAt_N {l : List Grt} {i : Nat} (h : okAt l i = true) : okN (l.getD i default) = true := by
  unfold okAt at h
  rw [Bool.and_eq_true] at h
  exact h.1
theorem okRg_N {l : List Grt} (h : okRg l = true) {i : Nat} (hi : i < l.length) : okN (l.getD i default) = true := okAt_N ((okRg_in h).2 i hi)
end Go.Proofs.YtcjjffmbhionmaaGreatDoor.AM

