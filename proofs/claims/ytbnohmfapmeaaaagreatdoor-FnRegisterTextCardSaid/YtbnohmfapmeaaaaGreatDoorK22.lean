/- Lemmas and contracts (Apa); conditions: none. -/
import Derived.Test.YtbnohmfapmeaaaaGreatDoorK12
set_option linter.unusedVariables false
set_option linter.unusedSimpArgs false
set_option maxRecDepth 100000
set_option maxHeartbeats 4000000
set_option cbv.maxSteps 3000000
namespace Go.Proofs.YtbnohmfapmeaaaaGreatDoor.AM
/- Texts of which neither begins with the other; conditions: none. -/
def apart (a b : ByteArray) : Bool := !a.data.toList.isPrefixOf b.data.toList && !b.data.toList.isPrefixOf a.data.toList
theorem apart_ne {a b x y : ByteArray} (h : apart a b = true) : a ++ x ≠ b ++ y := by
  intro e
  have e' : a.data.toList ++ x.data.toList = b.data.toList ++ y.data.toList := by
    rw [← ByteArray.toList_data_append, ← ByteArray.toList_data_append, e]
  unfold apart at h
  simp only [Bool.and_eq_true, Bool.not_eq_true'] at h
  rcases Nat.le_total a.data.toList.length b.data.toList.length with hl | hl
  · have : a.data.toList <+: b.data.toList := List.prefix_of_prefix_length_le (List.prefix_append _ _) (by rw [e']; exact List.prefix_append _ _) hl
    rw [← List.isPrefixOf_iff_prefix, h.1] at this; cases this
  · have : b.data.toList <+: a.data.toList := List.prefix_of_prefix_length_le (List.prefix_append _ _) (by rw [← e']; exact List.prefix_append _ _) hl
    rw [← List.isPrefixOf_iff_prefix, h.2] at this; cases this
end Go.Proofs.YtbnohmfapmeaaaaGreatDoor.AM

