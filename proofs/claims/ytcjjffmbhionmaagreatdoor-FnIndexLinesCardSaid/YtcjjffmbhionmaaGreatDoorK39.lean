/- Lemmas and contracts (Fpl); conditions: none. -/
import Derived.Test.YtcjjffmbhionmaaGreatDoorK03
import Derived.Test.YtcjjffmbhionmaaGreatDoorK18
import Derived.Test.YtcjjffmbhionmaaGreatDoorK38
set_option linter.unusedVariables false
set_option linter.unusedSimpArgs false
set_option maxRecDepth 100000
set_option maxHeartbeats 4000000
set_option cbv.maxSteps 3000000
namespace Go.Proofs.YtcjjffmbhionmaaGreatDoor.AM
/- What the index lists, in plain words; conditions: none. -/
theorem ftX_inj {p : ByteArray} (hp : p.size = 1) {x y : Nat} (hx : x < 1000000) (hy : y < 1000000) (h : ftX p (x : Int) = ftX p (y : Int)) : x = y := by
  have e := ftX_rest (x := (x : Int)) hp
  rw [h, ftX_rest hp] at e
  simp only [Int.toNat_natCast] at e
  have h1 := (rd_num hx).2
  rw [← e, (rd_num hy).2] at h1
  omega
theorem kL_six : kL.take 6 = kL := rfl
theorem allFg_nd : (allFg 6).Nodup := by
  unfold allFg List.Nodup
  rw [kL_six, List.pairwise_flatMap]
  refine ⟨fun k hk => ?_, ?_⟩
  · have hb := kL_bd k hk
    unfold rngF
    rw [List.pairwise_map]
    refine List.Pairwise.imp_of_mem (fun {a b} ha hb2 hne he => hne ?_) List.nodup_range
    rw [List.mem_range] at ha hb2
    unfold kN at ha hb2
    have e1 : k.2.1 + (a : Int) = ((k.2.1.toNat + a : Nat) : Int) := by omega
    have e2 : k.2.1 + (b : Int) = ((k.2.1.toNat + b : Nat) : Int) := by omega
    rw [e1, e2] at he
    have := ftX_inj hb.2 (by omega) (by omega) he
    omega
  · have h : kL.Pairwise fun k q => sByte k.1 0 ≠ sByte q.1 0 := by decide
    refine List.Pairwise.imp_of_mem (fun {a b} ha hb hne x hx y hy e => hne ?_) h
    unfold rngF at hx hy
    obtain ⟨i, _, rfl⟩ := List.mem_map.1 hx
    obtain ⟨j, _, e2⟩ := List.mem_map.1 hy
    have h1 := ftX_sB (x := a.2.1 + (i : Int)) (kL_bd a ha).2
    have h2 := ftX_sB (x := b.2.1 + (j : Int)) (kL_bd b hb).2
    rw [← h1, ← h2, e2, e]
theorem allF_asc : Asc allF := by
  have e : toL allF = (toL (allFg 6)).mergeSort fun x y => decide (x ≤ y) := by unfold allF srt; rw [toL_ofL]
  unfold Asc
  rw [e]
  have h1 := (srt_up (toL (allFg 6))).1
  have h2 : ((toL (allFg 6)).mergeSort fun x y => decide (x ≤ y)).Nodup := by
    refine (List.mergeSort_perm _ _).nodup_iff.2 ?_
    unfold toL List.Nodup
    rw [List.pairwise_map]
    exact List.Pairwise.imp (fun hne he => hne (ByteArray.ext (Array.ext' he))) allFg_nd
  exact List.Pairwise.imp (fun h => lt_of_le h.1 (fun q => h.2 q.symm)) (h1.and h2)
theorem mem_allF {x : ByteArray} : x ∈ allF ↔ isF x = true := by
  unfold isF
  rw [List.any_eq_true]
  exact ⟨fun h => ⟨x, h, decide_eq_true rfl⟩, fun ⟨y, h, e⟩ => by rw [decide_eq_true_eq] at e; rwa [← e]⟩
theorem okA_kind {a : Arm} (h : okA a = true) : (noG a.n = false → 1 ≤ a.n.k ∧ a.n.k ≤ 8) ∧ (noG a.r = false → 1 ≤ a.r.k ∧ a.r.k ≤ 8) := by
  have hk : ∀ g : Grp, okG g = true → 1 ≤ g.k ∧ g.k ≤ 8 := fun g hg => by
    unfold okG attF inB at hg
    simp only [Bool.and_eq_true, decide_eq_true_eq] at hg
    have h3 := hg.1.2
    repeat' split at h3
    all_goals first | (simp only [Bool.and_eq_true, decide_eq_true_eq] at h3; omega) | omega
  unfold okA at h
  simp only [Bool.and_eq_true] at h
  obtain ⟨⟨h1, h2⟩, h3⟩ := h
  refine ⟨fun q => ?_, fun q => hk _ (by rw [q, Bool.false_or] at h2; exact h2)⟩
  split at h3
  · simp only [Bool.and_eq_true] at h3
    rw [h3.2] at q; cases q
  · simp only [Bool.and_eq_true] at h3
    have h4 := h3.2
    rw [q, Bool.false_or] at h4
    exact hk _ h4
theorem isF_of {k : ByteArray × Int × Int} (hk : k ∈ kL) {x : Int} (h : k.2.1 ≤ x ∧ x ≤ k.2.2) : isF (ftX k.1 x) = true := isF_iff.2 ⟨k, hk, x, h, rfl⟩
theorem ftP_isF {a : Arm} (h : okA a = true) {x : ByteArray} (hx : x ∈ ftP a) : isF x = true := by
  have bd := okA_bd h
  obtain ⟨k1, k2⟩ := okA_kind h
  rw [ftP_mem, ftU_mem bd] at hx
  have b1 := bd.d
  have b2 := bd.o
  have b3 := bd.nc
  have b4 := bd.rc
  have b5 := bd.fl
  have b6 := bd.l
  simp only [decide_eq_true_eq, Bool.not_eq_true'] at hx
  rcases hx with (rfl | rfl | rfl) | ⟨t, ht, rfl⟩ | (⟨q, rfl⟩ | ⟨q, rfl⟩) | (⟨q, rfl⟩ | ⟨q, rfl⟩)
  · exact isF_of (k := (fcD, 0, 7)) (by simp [kL]) (by simp only; omega)
  · exact isF_of (k := (fcO, 0, 7)) (by simp [kL]) (by simp only; omega)
  · exact isF_of (k := (fcN, 0, 12)) (by simp [kL]) (by simp only; omega)
  · have := bd.t t ht
    exact isF_of (k := (fcT, 1, 9)) (by simp [kL]) (by simp only; omega)
  · exact isF_of (k := (fcL, 1, 4)) (by simp [kL]) (by simp only; omega)
  · exact isF_of (k := (fcL, 1, 4)) (by simp [kL]) (by simp only; omega)
  · have := k1 q
    exact isF_of (k := (fcK, 1, 8)) (by simp [kL]) (by simp only; omega)
  · have := k2 q
    exact isF_of (k := (fcK, 1, 8)) (by simp [kL]) (by simp only; omega)
/-- What is put together over lists of texts. -/
def putS (o m : List ByteArray) (k : Nat) : List ByteArray := (m.take k).foldl putF o
theorem putS_s {o m : List ByteArray} {k : Nat} (h : k < m.length) : putS o m (k + 1) = putF (putS o m k) (m.getD k ByteArray.empty) := by
  unfold putS
  rw [List.take_succ_eq_append_getElem h, List.foldl_append, List.foldl_cons, List.foldl_nil, List.getD_eq_getElem?_getD, List.getElem?_eq_getElem h, Option.getD_some]
theorem foldP : ∀ (m : List ByteArray) (o : List ByteArray), Asc o → Asc (m.foldl putF o) ∧ ∀ x, x ∈ m.foldl putF o ↔ x ∈ o ∨ x ∈ m
  | [], o, h => ⟨h, fun x => by simp⟩
  | y :: m, o, h => by
    obtain ⟨h1, h2⟩ := foldP m (putF o y) (putF_asc _ h)
    refine ⟨h1, fun x => ?_⟩
    rw [List.foldl_cons, h2, putF_mem, List.mem_cons]
    constructor
    · rintro ((h | h) | h) <;> simp [h]
    · rintro (h | h | h) <;> simp [h]
theorem putS_all (o m : List ByteArray) : putS o m m.length = m.foldl putF o := by unfold putS; rw [List.take_length]
theorem putS_len (o m : List ByteArray) : ∀ k, k ≤ m.length → (putS o m k).length ≤ o.length + k
  | 0, _ => Nat.le_refl _
  | k + 1, h => by
    rw [putS_s (by omega)]
    have h1 := putS_len o m k (by omega)
    have h2 := putF_len (putS o m k) (m.getD k ByteArray.empty)
    omega
def allS (l : List Grt) (i : Nat) : List ByteArray := (l.take i).foldl (fun o g => putS o (ftP g.arms) (ftP g.arms).length) []
theorem allS_s {l : List Grt} {i : Nat} (h : i < l.length) : allS l (i + 1) = putS (allS l i) (ftP (l.getD i default).arms) (ftP (l.getD i default).arms).length := by
  unfold allS
  rw [List.take_succ_eq_append_getElem h, List.foldl_append, List.foldl_cons, List.foldl_nil, List.getD_eq_getElem?_getD, List.getElem?_eq_getElem h, Option.getD_some]
theorem allS_len (l : List Grt) : ∀ i, i ≤ l.length → (allS l i).length ≤ 12 * i
  | 0, _ => Nat.zero_le _
  | i + 1, h => by
    rw [allS_s (by omega)]
    have h1 := allS_len l i (by omega)
    have h2 := putS_len (allS l i) (ftP (l.getD i default).arms) _ (Nat.le_refl _)
    have h3 := ftP_len (l.getD i default).arms
    omega
theorem foldG : ∀ (l : List Grt) (o : List ByteArray), Asc o → Asc (l.foldl (fun o g => putS o (ftP g.arms) (ftP g.arms).length) o) ∧ ∀ x, x ∈ l.foldl (fun o g => putS o (ftP g.arms) (ftP g.arms).length) o ↔ x ∈ o ∨ ∃ g, g ∈ l ∧ x ∈ ftP g.arms
  | [], o, h => ⟨h, fun x => by simp⟩
  | y :: l, o, h => by
    have h0 := foldP (ftP y.arms) o h
    rw [← putS_all] at h0
    obtain ⟨h1, h2⟩ := foldG l (putS o (ftP y.arms) (ftP y.arms).length) h0.1
    refine ⟨h1, fun x => ?_⟩
    rw [List.foldl_cons, h2, h0.2]
    constructor
    · rintro ((h | h) | ⟨g, hg, h⟩)
      · exact .inl h
      · exact .inr ⟨y, List.mem_cons_self, h⟩
      · exact .inr ⟨g, List.mem_cons_of_mem _ hg, h⟩
    · rintro (h | ⟨g, hg, h⟩)
      · exact .inl (.inl h)
      · rcases List.mem_cons.1 hg with rfl | hg
        · exact .inl (.inr h)
        · exact .inr ⟨g, hg, h⟩
theorem allS_asc (l : List Grt) : Asc (allS l l.length) ∧ ∀ x, x ∈ allS l l.length ↔ ∃ g, g ∈ l ∧ x ∈ ftP g.arms := by
  unfold allS
  rw [List.take_length]
  obtain ⟨h1, h2⟩ := foldG l [] List.Pairwise.nil
  exact ⟨h1, fun x => by rw [h2]; simp⟩
theorem hasF_iff {a : Arm} {s : ByteArray} : hasF a s = true ↔ s ∈ ftP a := by
  unfold hasF
  rw [List.any_eq_true]
  exact ⟨fun ⟨y, h, e⟩ => by rw [decide_eq_true_eq] at e; rwa [← e], fun h => ⟨s, h, decide_eq_true rfl⟩⟩
theorem biE_iff {s : ByteArray} {g : Grt} : biE s g = hasF g.arms s := by
  unfold biE shN
  cases h : hasF g.arms s <;> simp [h]
theorem nmb_pos {p : Grt → Bool} {l : List Grt} : 0 < (nmb p l l.length).length ↔ ∃ g, g ∈ l ∧ p g = true := by
  rw [nmb_all, List.length_map, List.length_pos_iff_exists_mem]
  simp only [List.mem_filter]
theorem Asc.filter {l : List ByteArray} (p : ByteArray → Bool) (h : Asc l) : Asc (l.filter p) := by
  unfold Asc toL at *
  rw [List.pairwise_map] at *
  exact h.filter p
theorem bxL_eq {l : List Grt} (h : ∀ g ∈ l, okA g.arms = true) : bxL l allF.length = (allS l l.length).map (ixG l) := by
  obtain ⟨h1, h2⟩ := allS_asc l
  unfold bxL
  rw [List.take_length, List.filter_map]
  congr 1
  refine Asc.ext (allF_asc.filter _) h1 fun x => ?_
  rw [List.mem_filter, h2, mem_allF]
  show _ ∧ decide (0 < (nmb (biE x) l l.length).length) = true ↔ _
  rw [decide_eq_true_eq, nmb_pos]
  constructor
  · rintro ⟨_, g, hg, e⟩
    rw [biE_iff, hasF_iff] at e
    exact ⟨g, hg, e⟩
  · rintro ⟨g, hg, e⟩
    exact ⟨ftP_isF (h g hg) e, g, hg, by rw [biE_iff, hasF_iff]; exact e⟩

end Go.Proofs.YtcjjffmbhionmaaGreatDoor.AM

