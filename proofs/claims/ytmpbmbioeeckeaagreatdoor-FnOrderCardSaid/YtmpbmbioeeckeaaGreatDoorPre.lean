import Derived.Test.YtmpbmbioeeckeaaGreatDoorAmT
import Derived.Test.YtmpbmbioeeckeaaGreatDoorAmN
import Derived.Test.YtmpbmbioeeckeaaGreatDoorShf
set_option linter.unusedVariables false
set_option linter.unusedSimpArgs false
set_option maxRecDepth 100000
set_option maxHeartbeats 4000000
set_option cbv.maxSteps 3000000
namespace Go.Proofs.YtmpbmbioeeckeaaGreatDoor.AM
/- Texts that begin with others; conditions: none. -/
def isPre (s p : ByteArray) : Bool := Lib.hasPrefix s.data.toList p.data.toList
def afterP (s p : ByteArray) : ByteArray := ⟨(Lib.trimPrefix s.data.toList p.data.toList).toArray⟩
theorem afterP_sz (s p : ByteArray) : (afterP s p).size ≤ s.size := by
  unfold afterP Lib.trimPrefix
  show (List.length _) ≤ s.data.toList.length
  split
  · simp
  · exact Nat.le_refl _
theorem isPre_iff {s p : ByteArray} : isPre s p = true ↔ ∃ t, s = p ++ t := by
  unfold isPre Lib.hasPrefix
  rw [List.isPrefixOf_iff_prefix]
  constructor
  · rintro ⟨t, h⟩
    refine ⟨⟨⟨t⟩⟩, ?_⟩
    apply ByteArray.ext; apply Array.ext'
    rw [ByteArray.toList_data_append]; exact h.symm
  · rintro ⟨t, rfl⟩
    rw [ByteArray.toList_data_append]; exact List.prefix_append _ _
theorem isPre_app (p t : ByteArray) : isPre (p ++ t) p = true := isPre_iff.2 ⟨t, rfl⟩
theorem afterP_app (p t : ByteArray) : afterP (p ++ t) p = t := by
  have h := isPre_app p t
  unfold isPre at h
  unfold afterP Lib.trimPrefix
  rw [h, if_pos rfl]
  apply ByteArray.ext; apply Array.ext'
  rw [ByteArray.toList_data_append, List.drop_left]
theorem afterP_at {s p : ByteArray} (h : isPre s p = true) : p ++ afterP s p = s := by
  obtain ⟨t, rfl⟩ := isPre_iff.1 h
  rw [afterP_app]
/-- Neither begins with the other. -/
def apart (a b : ByteArray) : Bool := !a.data.toList.isPrefixOf b.data.toList && !b.data.toList.isPrefixOf a.data.toList
theorem apart_ne {a b x y : ByteArray} (h : apart a b = true) : a ++ x ≠ b ++ y := by
  intro e
  have e' : a.data.toList ++ x.data.toList = b.data.toList ++ y.data.toList := by
    rw [← ByteArray.toList_data_append, ← ByteArray.toList_data_append, e]
  unfold apart at h
  simp only [Bool.and_eq_true, Bool.not_eq_true'] at h
  rcases Nat.le_total a.data.toList.length b.data.toList.length with hl | hl
  · have : a.data.toList <+: b.data.toList := List.prefix_of_prefix_length_le (List.prefix_append _ _) (by rw [e']; exact List.prefix_append _ _) hl
    rw [← List.isPrefixOf_iff_prefix, h.1] at this; cases this
  · have : b.data.toList <+: a.data.toList := List.prefix_of_prefix_length_le (List.prefix_append _ _) (by rw [← e']; exact List.prefix_append _ _) hl
    rw [← List.isPrefixOf_iff_prefix, h.2] at this; cases this
theorem app_inj {a x y : ByteArray} (h : a ++ x = a ++ y) : x = y := by
  apply ByteArray.ext; apply Array.ext'
  have : (a ++ x).data.toList = (a ++ y).data.toList := by rw [h]
  rw [ByteArray.toList_data_append, ByteArray.toList_data_append] at this
  exact List.append_cancel_left this

end Go.Proofs.YtmpbmbioeeckeaaGreatDoor.AM
