/- Lemmas and contracts (Shq); conditions: none. -/
import Derived.Test.YtbnohmfapmeaaaaGreatDoorK03
import Derived.Test.YtbnohmfapmeaaaaGreatDoorK24
import Derived.Test.YtbnohmfapmeaaaaGreatDoorK30
import Derived.Test.YtbnohmfapmeaaaaGreatDoorK32
set_option linter.unusedVariables false
set_option linter.unusedSimpArgs false
set_option maxRecDepth 100000
set_option maxHeartbeats 4000000
set_option cbv.maxSteps 3000000
namespace Go.Proofs.YtbnohmfapmeaaaaGreatDoor.AM
/- Texts of shields read back: plain; conditions: none. -/
def impB : ByteArray := (⟨⟨[105, 109, 112, 97, 108, 101, 100, 58, 32]⟩⟩ : ByteArray)
def qutB : ByteArray := (⟨⟨[113, 117, 97, 114, 116, 101, 114, 108, 121, 58, 32]⟩⟩ : ByteArray)
def semB : ByteArray := (⟨⟨[59, 32]⟩⟩ : ByteArray)
def colB : ByteArray := (⟨⟨[58, 32]⟩⟩ : ByteArray)
def nndB : ByteArray := (⟨⟨[32, 97, 110, 100, 32]⟩⟩ : ByteArray)
/-- One number of a piece: the part with it gets the arms. -/
def stp1 (a : Arm) (l : List Arm) (w : ByteArray) : List Arm := if atO w = true ∧ 1 ≤ atV w ∧ atV w ≤ (l.length : Nat) then l.set (atV w - 1).toNat a else l
/-- One piece. -/
noncomputable def stpP (l : List Arm) (t : ByteArray) : List Arm := (pcs nndB (cutB t colB).1).foldl (stp1 ((pA (cutB t colB).2.1).getD zA)) l
noncomputable def cndH (t : ByteArray) : Shd := if isPre t impB = true then ⟨2, (pcs semB (afterP t impB)).foldl stpP (List.replicate 2 zA)⟩ else if isPre t qutB = true then ⟨3, (pcs semB (afterP t qutB)).foldl stpP (List.replicate 4 zA)⟩ else ⟨1, [(pA t).getD zA]⟩
noncomputable def pS (t : ByteArray) : Option Shd := if okH (cndH t) = true ∧ shT (cndH t) = t then some (cndH t) else none
theorem stp1_len (a : Arm) (l : List Arm) (w : ByteArray) : (stp1 a l w).length = l.length := by
  unfold stp1
  split
  · rw [List.length_set]
  · rfl
theorem fold_len {α : Type} {f : List Arm → α → List Arm} (hf : ∀ l x, (f l x).length = l.length) : ∀ (L : List α) (l : List Arm), (L.foldl f l).length = l.length
  | [], l => rfl
  | x :: L, l => by rw [List.foldl_cons, fold_len hf L, hf]
theorem stpP_len (l : List Arm) (t : ByteArray) : (stpP l t).length = l.length := fold_len (stp1_len _) _ _
/-- A part's number read. -/
theorem stp1_num {a : Arm} {l : List Arm} {k : Nat} (hk : k < l.length) (hl : l.length ≤ 90) : stp1 a l (numD (k + 1)) = l.set k a := by
  unfold stp1
  rw [atO_num (by omega), atV_num (by omega), if_pos ⟨rfl, by omega, by omega⟩]
  congr 1
  omega
theorem setAD {l : List Arm} {k j : Nat} {a z : Arm} (hk : k < l.length) : (l.set k a).getD j z = if j = k then a else l.getD j z := by
  rw [List.getD_eq_getElem?_getD, List.getElem?_set]
  by_cases h : k = j
  · subst h
    rw [if_pos rfl, if_pos hk, if_pos rfl]; rfl
  · rw [if_neg h, if_neg (fun q => h q.symm), List.getD_eq_getElem?_getD]
/-- The numbers of the parts with some arms, read. -/
theorem fold_nm {l M : List Arm} (x z : Arm) (hM : M.length = l.length) (hl : l.length ≤ 90) : ∀ k, k ≤ l.length → ∀ j, ((nmS l x k).foldl (stp1 x) M).getD j z = if j < k ∧ l.getD j default = x then x else M.getD j z
  | 0, _, j => by
    rw [if_neg (by omega)]; rfl
  | k + 1, hk, j => by
    have ih := fold_nm x z hM hl k (by omega) j
    unfold nmS
    by_cases h : l.getD k default = x
    · rw [if_pos h, List.foldl_append, List.foldl_cons, List.foldl_nil]
      have hL : ((nmS l x k).foldl (stp1 x) M).length = l.length := by rw [fold_len (stp1_len x), hM]
      rw [stp1_num (by omega) (by omega), setAD (by omega), ih]
      by_cases hj : j = k
      · subst hj
        rw [if_pos rfl, if_pos ⟨by omega, h⟩]
      · rw [if_neg hj]
        by_cases h2 : j < k ∧ l.getD j default = x
        · rw [if_pos h2, if_pos ⟨by omega, h2.2⟩]
        · rw [if_neg h2, if_neg (fun q => h2 ⟨by omega, q.2⟩)]
    · rw [if_neg h, ih]
      by_cases h2 : j < k ∧ l.getD j default = x
      · rw [if_pos h2, if_pos ⟨by omega, h2.2⟩]
      · rw [if_neg h2, if_neg (fun q => h2 ⟨by
          rcases Nat.lt_succ_iff_lt_or_eq.1 q.1 with h3 | h3
          · exact h3
          · subst h3; exact absurd q.2 h, q.2⟩)]
theorem num_lacks {b : UInt8} (hb : (List.range 10).all (fun d => UInt8.ofNat (48 + d) != b) = true) (i : Nat) : lacks (numD i) b = true := numD_lacks (fun d hd => by
  have := List.all_eq_true.1 hb d (List.mem_range.2 hd)
  simpa using this) i
theorem jn_lacks {p : ByteArray} {b : UInt8} (hp : lacks p b = true) : ∀ L : List ByteArray, (∀ x ∈ L, lacks x b = true) → lacks (jnB L p) b = true
  | [], _ => rfl
  | [x], h => by rw [jnB_one]; exact h x List.mem_cons_self
  | x :: y :: L, h => by
    rw [jnB_cons]
    exact lacks_app (h x List.mem_cons_self) (lacks_app hp (jn_lacks hp (y :: L) fun z hz => h z (List.mem_cons_of_mem _ hz)))
theorem nmS_num (l : List Arm) (x : Arm) : ∀ k, ∀ w ∈ nmS l x k, ∃ i, w = numD i
  | 0, w, h => by cases h
  | k + 1, w, h => by
    unfold nmS at h
    split at h
    · rcases List.mem_append.1 h with h | h
      · exact nmS_num l x k w h
      · exact ⟨k + 1, by rw [List.mem_singleton] at h; exact h⟩
    · exact nmS_num l x k w h
theorem nmS_ne {l : List Arm} {i : Nat} : ∀ k, i < k → nmS l (l.getD i default) k ≠ []
  | 0, h => by omega
  | k + 1, h => by
    unfold nmS
    split
    · simp
    · rename_i q
      exact nmS_ne k (by
        rcases Nat.lt_succ_iff_lt_or_eq.1 h with h | h
        · exact h
        · subst h; exact absurd rfl q)
theorem shP_cut {l : List Arm} {i : Nat} (hi : i < l.length) : cutB (shP l (i : Int)) colB = (jnB (nmS l (l.getD i default) l.length) nndB, armT (l.getD i default), true) := by
  have hc : lacks (jnB (nmS l (l.getD i default) l.length) nndB) 58 = true := jn_lacks (by decide) _ fun w hw => by
    obtain ⟨j, rfl⟩ := nmS_num l _ _ w hw
    exact num_lacks (by decide) j
  show cutB (jnB (nmS l (l.getD ((i : Int)).toNat default) l.length) nndB ++ (colB ++ armT (l.getD ((i : Int)).toNat default))) colB = _
  rw [Int.toNat_natCast]
  exact cutB_lacks (b := 58) (r := [32]) rfl hc
theorem nm_pcs {l : List Arm} {i : Nat} (hi : i < l.length) : pcs nndB (jnB (nmS l (l.getD i default) l.length) nndB) = nmS l (l.getD i default) l.length :=
  pcs_jn (b := 32) (r := [97, 110, 100, 32]) rfl (nmS_ne l.length hi) fun w hw => by
    obtain ⟨j, rfl⟩ := nmS_num l _ _ w hw
    exact num_lacks (by decide) j
/-- A piece of a quarterly shield read. -/
theorem stpP_at {l M : List Arm} (z : Arm) {i : Nat} (hM : M.length = l.length) (hl : l.length ≤ 90) (hi : i < l.length) (ho : okA (l.getD i default) = true) (j : Nat) : (stpP M (shP l (i : Int))).getD j z = if j < l.length ∧ l.getD j default = l.getD i default then l.getD i default else M.getD j z := by
  have hp : pA (armT (l.getD i default)) = some (l.getD i default) := pA_iff.2 ⟨ho, rfl⟩
  unfold stpP
  rw [shP_cut hi]
  dsimp only
  rw [nm_pcs hi, hp, Option.getD_some]
  exact fold_nm (l.getD i default) z hM hl l.length (Nat.le_refl _) j
theorem take_any {l : List Arm} {i : Nat} (hi : i < l.length) (x : Arm) : ((l.take (i + 1)).any fun y => decide (y = x)) = ((l.take i).any (fun y => decide (y = x)) || decide (l.getD i default = x)) := by
  rw [List.take_succ_eq_append_getElem hi, List.any_append, List.getD_eq_getElem?_getD, List.getElem?_eq_getElem hi, Option.getD_some]
  simp
/-- The pieces of the first parts that differ, read. -/
theorem fold_fs {l : List Arm} (hl : l.length ≤ 90) (ho : ∀ y ∈ l, okA y = true) : ∀ n, n ≤ l.length → ∀ j, j < l.length → (((fs1 l n).map (shP l)).foldl stpP (List.replicate l.length zA)).getD j zA = if ((l.take n).any fun y => decide (y = l.getD j default)) = true then l.getD j default else zA
  | 0, _, j, hj => by
    rw [List.take_zero, if_neg (by simp)]
    show (List.replicate l.length zA).getD j zA = zA
    rw [List.getD_eq_getElem?_getD, List.getElem?_replicate]
    split <;> rfl
  | n + 1, hn, j, hj => by
    have ih := fold_fs hl ho n (by omega) j hj
    have hn' : n < l.length := by omega
    rw [take_any hn']
    unfold fs1
    by_cases h : ((l.take n).any fun y => decide (y = l.getD n default)) = true
    · rw [if_pos h, ih]
      by_cases h2 : l.getD n default = l.getD j default
      · rw [h2] at h
        rw [h, if_pos rfl, Bool.true_or, if_pos rfl]
      · rw [decide_eq_false h2, Bool.or_false]
    · rw [if_neg h, List.map_append, List.foldl_append]
      show (stpP _ (shP l (n : Int))).getD j zA = _
      have hM : (((fs1 l n).map (shP l)).foldl stpP (List.replicate l.length zA)).length = l.length := by rw [fold_len stpP_len, List.length_replicate]
      rw [stpP_at zA hM hl hn' (ho _ (by rw [List.getD_eq_getElem?_getD, List.getElem?_eq_getElem hn', Option.getD_some]; exact List.getElem_mem _)), ih]
      by_cases h2 : l.getD j default = l.getD n default
      · rw [if_pos ⟨hj, h2⟩, decide_eq_true h2.symm, Bool.or_true, if_pos rfl, h2]
      · rw [if_neg (fun q => h2 q.2), decide_eq_false (fun q => h2 q.symm), Bool.or_false]
theorem fold_all {l : List Arm} (hl : l.length ≤ 90) (ho : ∀ y ∈ l, okA y = true) : ((fs1 l l.length).map (shP l)).foldl stpP (List.replicate l.length zA) = l := by
  have hL : (((fs1 l l.length).map (shP l)).foldl stpP (List.replicate l.length zA)).length = l.length := by rw [fold_len stpP_len, List.length_replicate]
  refine List.ext_getElem hL fun j h1 h2 => ?_
  have h := fold_fs hl ho l.length (Nat.le_refl _) j h2
  rw [List.take_length, if_pos (List.any_eq_true.2 ⟨l[j], List.getElem_mem _, decide_eq_true (by rw [List.getD_eq_getElem?_getD, List.getElem?_eq_getElem h2, Option.getD_some])⟩)] at h
  rw [List.getD_eq_getElem?_getD, List.getElem?_eq_getElem h1, Option.getD_some, List.getD_eq_getElem?_getD, List.getElem?_eq_getElem h2, Option.getD_some] at h
  exact h
theorem shP_lacks (l : List Arm) (i : Int) : lacks (shP l i) 59 = true := by
  unfold shP
  exact lacks_app (jn_lacks (by decide) _ fun w hw => by
    obtain ⟨j, rfl⟩ := nmS_num l _ _ w hw
    exact num_lacks (by decide) j) (lacks_app (by decide) (armT_lacks (by decide) _))
theorem fs1_ne {l : List Arm} : ∀ n, 0 < n → fs1 l n ≠ []
  | 0, h => by omega
  | n + 1, _ => by
    unfold fs1
    split
    · rename_i q
      rcases Nat.eq_zero_or_pos n with rfl | h
      · simp at q
      · exact fs1_ne n h
    · simp
theorem isPre_lacks {s p : ByteArray} {b : UInt8} (hs : lacks s b = true) (hp : lacks p b = false) : isPre s p = false := by
  rw [← Bool.not_eq_true]
  intro h
  obtain ⟨t, rfl⟩ := isPre_iff.1 h
  unfold lacks at *
  rw [ByteArray.toList_data_append, List.all_append, hp] at hs
  cases hs
theorem qut_imp (t : ByteArray) : isPre (qutB ++ t) impB = false := by
  rw [← Bool.not_eq_true]
  intro h
  obtain ⟨u, e⟩ := isPre_iff.1 h
  exact apart_ne (a := qutB) (b := impB) (by decide) e

end Go.Proofs.YtbnohmfapmeaaaaGreatDoor.AM

