import Derived.Test.YtmpbmbioeeckeaaGreatDoorAmT
import Derived.Test.YtmpbmbioeeckeaaGreatDoorPrs
import Derived.Test.YtmpbmbioeeckeaaGreatDoorLet
set_option linter.unusedVariables false
set_option linter.unusedSimpArgs false
set_option maxRecDepth 100000
set_option maxHeartbeats 4000000
set_option cbv.maxSteps 3000000
namespace Go.Proofs.YtmpbmbioeeckeaaGreatDoor.AM
/- Texts cut where a word stands; conditions: none. -/
theorem pre_drop {l p : List UInt8} {i : Nat} : p.isPrefixOf (l.drop i) = true ↔ ∃ r, l.drop i = p ++ r := by
  rw [List.isPrefixOf_iff_prefix]
  exact ⟨fun ⟨r, h⟩ => ⟨r, h.symm⟩, fun ⟨r, h⟩ => ⟨r, h.symm⟩⟩
theorem index_first (p : List UInt8) : ∀ (l : List UInt8) (i : Nat), p.isPrefixOf (l.drop i) = true → i ≤ l.length → (∀ j, j < i → p.isPrefixOf (l.drop j) = false) → Lib.index l p = (i : Nat)
  | l, 0, h, _, _ => by
    cases l with
    | nil => unfold Lib.index; simp at h; simp [h]
    | cons b l => unfold Lib.index; rw [List.drop_zero] at h; rw [h]; rfl
  | [], i + 1, h, hl, hj => by simp at hl
  | b :: l, i + 1, h, hl, hj => by
    have ih := index_first p l i (by simpa using h) (by simpa using hl) (fun j q => by have := hj (j + 1) (by omega); simpa using this)
    have h0 := hj 0 (by omega)
    rw [List.drop_zero] at h0
    unfold Lib.index
    rw [h0, ih]
    have e2 : ((i : Int) == -1) = false := by rw [beq_eq_false_iff_ne]; omega
    rw [e2]; rfl
theorem index_none (p : List UInt8) (hp : p ≠ []) : ∀ (l : List UInt8), (∀ j, j ≤ l.length → p.isPrefixOf (l.drop j) = false) → Lib.index l p = -1
  | [], h => by
    have := h 0 (Nat.zero_le _)
    unfold Lib.index
    cases p with
    | nil => exact absurd rfl hp
    | cons a p => rfl
  | b :: l, h => by
    have ih := index_none p hp l (fun j q => by have := h (j + 1) (by simp; omega); simpa using this)
    have h0 := h 0 (Nat.zero_le _)
    rw [List.drop_zero] at h0
    unfold Lib.index
    rw [h0, ih]; rfl
/-- A text cut at the first place where another stands. -/
def cutB (s p : ByteArray) : ByteArray × ByteArray × Bool := (⟨(Lib.cut s.data.toList p.data.toList).1.toArray⟩, ⟨(Lib.cut s.data.toList p.data.toList).2.1.toArray⟩, (Lib.cut s.data.toList p.data.toList).2.2)
def occ (s p : ByteArray) (i : Nat) : Bool := p.data.toList.isPrefixOf (s.data.toList.drop i)
theorem cutB_at {u p v : ByteArray} (h : ∀ i, i < u.size → occ (u ++ (p ++ v)) p i = false) : cutB (u ++ (p ++ v)) p = (u, v, true) := by
  have hl : u.size = u.data.toList.length := rfl
  have e : (u ++ (p ++ v)).data.toList = u.data.toList ++ (p.data.toList ++ v.data.toList) := by simp only [ByteArray.toList_data_append]
  have hi : Lib.index (u ++ (p ++ v)).data.toList p.data.toList = (u.size : Nat) := by
    refine index_first _ _ _ ?_ ?_ (fun j hj => h j hj)
    · rw [e, hl, List.drop_left, List.isPrefixOf_iff_prefix]; exact List.prefix_append _ _
    · rw [e, List.length_append]; omega
  unfold cutB Lib.cut
  rw [hi, if_pos (by omega)]
  simp only [Int.toNat_natCast]
  rw [e, hl, List.take_left, ← List.drop_drop, List.drop_left, List.drop_left]
theorem cutB_no {s p : ByteArray} (hp : p.data.toList ≠ []) (h : ∀ i, i ≤ s.size → occ s p i = false) : cutB s p = (s, ByteArray.empty, false) := by
  have hi : Lib.index s.data.toList p.data.toList = -1 := index_none _ hp _ (fun j hj => h j hj)
  unfold cutB Lib.cut
  rw [hi, if_neg (by omega)]
  rfl
theorem cutB_sz (s p : ByteArray) : (cutB s p).1.size ≤ s.size ∧ (cutB s p).2.1.size ≤ s.size := by
  unfold cutB Lib.cut
  split
  · exact ⟨by show (List.take _ _).length ≤ s.data.toList.length; rw [List.length_take]; omega, by show (List.drop _ _).length ≤ s.data.toList.length; rw [List.length_drop]; omega⟩
  · exact ⟨Nat.le_refl _, Nat.zero_le _⟩
/-- A byte that a text lacks. -/
def lacks (s : ByteArray) (b : UInt8) : Bool := s.data.toList.all fun c => c != b
theorem occ_lacks {u p v : ByteArray} {b : UInt8} {r : List UInt8} (hp : p.data.toList = b :: r) (hu : lacks u b = true) {i : Nat} (hi : i < u.size) : occ (u ++ v) p i = false := by
  rw [← Bool.not_eq_true]
  intro h
  unfold occ at h
  rw [pre_drop, ByteArray.toList_data_append] at h
  obtain ⟨q, h⟩ := h
  have hi' : i < u.data.toList.length := hi
  rw [List.drop_append_of_le_length (by omega), List.drop_eq_getElem_cons hi', hp] at h
  have h1 : u.data.toList[i] = b := by simpa using (List.cons.inj h).1
  have := List.all_eq_true.1 hu _ (List.getElem_mem hi')
  rw [h1] at this; simp at this
theorem occ_end {s p : ByteArray} (hp : p.data.toList ≠ []) : occ s p s.size = false := by
  rw [← Bool.not_eq_true]
  intro h
  unfold occ at h
  rw [pre_drop] at h
  obtain ⟨q, h⟩ := h
  have e : s.data.toList.drop s.size = [] := List.drop_eq_nil_iff.2 (Nat.le_refl _)
  rw [e] at h
  cases hq : p.data.toList with
  | nil => exact hp hq
  | cons a l => rw [hq] at h; cases h
theorem cutB_lacks {u p v : ByteArray} {b : UInt8} {r : List UInt8} (hp : p.data.toList = b :: r) (hu : lacks u b = true) : cutB (u ++ (p ++ v)) p = (u, v, true) := cutB_at fun _ hi => occ_lacks hp hu hi
theorem cutB_lacks' {s p : ByteArray} {b : UInt8} {r : List UInt8} (hp : p.data.toList = b :: r) (hu : lacks s b = true) : cutB s p = (s, ByteArray.empty, false) := cutB_no (by rw [hp]; simp) fun i hi => by
  rcases Nat.lt_or_eq_of_le hi with h | rfl
  · have := occ_lacks (v := ByteArray.empty) hp hu h
    rwa [app_empty] at this
  · exact occ_end (by rw [hp]; simp)
/-- A pattern: a word between spaces, and what follows. -/
def spW (w z : ByteArray) : ByteArray := spB ++ (w ++ (spB ++ z))
theorem spW_l (w z : ByteArray) : (spW w z).data.toList = 32 :: (w.data.toList ++ 32 :: z.data.toList) := by
  unfold spW
  simp only [ByteArray.toList_data_append]; rfl
theorem spl_word {w : ByteArray} (h : nsp w = true) (l : List UInt8) : spl (w.data.toList ++ 32 :: l) = w.data.toList :: spl l := by
  rw [spl_app, spl_no fun b hb => by have := List.all_eq_true.1 h b hb; simpa using this]; rfl
theorem occ_word {s w z : ByteArray} (hw : nsp w = true) {i : Nat} (h : occ s (spW w z) i = true) : w ∈ wordsB s := by
  unfold occ at h
  rw [pre_drop, spW_l] at h
  obtain ⟨q, h⟩ := h
  have e : s.data.toList = s.data.toList.take i ++ 32 :: (w.data.toList ++ 32 :: (z.data.toList ++ q)) := by
    conv => lhs; rw [← List.take_append_drop i s.data.toList, h]
    simp
  unfold wordsB
  rw [e, spl_app, spl_word hw, List.map_append, List.map_cons]
  exact List.mem_append_right _ (List.mem_cons_self)
theorem occ_first {u w z v : ByteArray} (hw : nsp w = true) (hn : w ∉ wordsB u) {i : Nat} (hi : i < u.size) : occ (u ++ (spW w z ++ v)) (spW w z) i = false := by
  rw [← Bool.not_eq_true]
  intro h
  unfold occ at h
  rw [pre_drop, spW_l] at h
  obtain ⟨q, h⟩ := h
  have hi' : i < u.data.toList.length := hi
  simp only [ByteArray.toList_data_append, spW_l] at h
  rw [List.drop_append_of_le_length (by omega), List.drop_eq_getElem_cons hi'] at h
  simp only [List.cons_append, List.append_assoc, List.cons.injEq] at h
  obtain ⟨h1, h2⟩ := h
  have h3 := congrArg spl h2
  rw [spl_app, spl_word hw, spl_word hw] at h3
  have h4 : (spl (u.data.toList.drop (i + 1))).head? = some w.data.toList := by
    cases e : spl (u.data.toList.drop (i + 1)) with
    | nil => exact absurd e (spl_ne _)
    | cons a l => rw [e] at h3; exact congrArg some (List.cons.inj h3).1
  have h5 : u.data.toList = u.data.toList.take i ++ 32 :: u.data.toList.drop (i + 1) := by
    conv => lhs; rw [← List.take_append_drop i u.data.toList, List.drop_eq_getElem_cons hi', h1]
  refine hn ?_
  unfold wordsB
  rw [h5, spl_app, List.map_append]
  refine List.mem_append_right _ ?_
  cases e : spl (u.data.toList.drop (i + 1)) with
  | nil => exact absurd e (spl_ne _)
  | cons a l =>
    rw [e] at h4
    simp at h4
    subst h4
    exact List.mem_cons_self
theorem cutB_word {u w z v : ByteArray} (hw : nsp w = true) (hn : w ∉ wordsB u) : cutB (u ++ (spW w z ++ v)) (spW w z) = (u, v, true) := cutB_at fun _ hi => occ_first hw hn hi
theorem cutB_word' {s w z : ByteArray} (hw : nsp w = true) (hn : w ∉ wordsB s) : cutB s (spW w z) = (s, ByteArray.empty, false) := cutB_no (by rw [spW_l]; simp) fun i _ => by
  rw [← Bool.not_eq_true]; exact fun h => hn (occ_word hw h)
/-! ### Fields -/
theorem wordNe {l : List ByteArray} {w : ByteArray} (h : l.all (fun x => decide (x ≠ w)) = true) (h0 : w ≠ ByteArray.empty) (x : Int) : wordOf l x ≠ w := by
  unfold wordOf
  rw [List.getD_eq_getElem?_getD]
  cases e : l[(x - 1).toNat]? with
  | none => exact fun q => h0 q.symm
  | some s => exact of_decide_eq_true (List.all_eq_true.1 h s (List.mem_of_getElem? e))
theorem lacks_w {l : List ByteArray} {b : UInt8} (h : l.all (fun x => lacks x b) = true) (x : Int) : lacks (wordOf l x) b = true := by
  unfold wordOf
  rw [List.getD_eq_getElem?_getD]
  cases e : l[(x - 1).toNat]? with
  | none => rfl
  | some s => exact List.all_eq_true.1 h s (List.mem_of_getElem? e)
theorem lacks_app {a c : ByteArray} {b : UInt8} (ha : lacks a b = true) (hc : lacks c b = true) : lacks (a ++ c) b = true := by
  unfold lacks at *
  rw [ByteArray.toList_data_append, List.all_append, ha, hc]; rfl



end Go.Proofs.YtmpbmbioeeckeaaGreatDoor.AM
