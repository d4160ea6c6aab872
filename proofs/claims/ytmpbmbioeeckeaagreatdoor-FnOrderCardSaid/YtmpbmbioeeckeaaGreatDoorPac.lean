import Derived.Test.YtmpbmbioeeckeaaGreatDoorAmT
import Derived.Test.YtmpbmbioeeckeaaGreatDoorArp
import Derived.Test.YtmpbmbioeeckeaaGreatDoorShf
set_option linter.unusedVariables false
set_option linter.unusedSimpArgs false
set_option maxRecDepth 100000
set_option maxHeartbeats 4000000
set_option cbv.maxSteps 3000000
namespace Go.Proofs.YtmpbmbioeeckeaaGreatDoor.AM
/- The program's parsers of fields, ordinaries, arms; conditions: none. -/
theorem wordOf_nat (l : List ByteArray) (i : Nat) : wordOf l ((i : Int) + 1) = l.getD i ByteArray.empty := by
  unfold wordOf
  rw [show ((i : Int) + 1 - 1).toNat = i by omega]
theorem cutLn_y {s : ByteArray} {i : Nat} (hi : i < 4) (h : isPre s (linL.getD i ByteArray.empty ++ spB) = true) (hj : ∀ j, j < i → isPre s (linL.getD j ByteArray.empty ++ spB) = false) : cutLn s = (afterP s (linL.getD i ByteArray.empty ++ spB), (i : Int) + 1) := by
  have e : preI linL s = (i : Nat) := idxF_at ByteArray.empty (l := linL) hi h hj
  unfold cutLn
  rw [e, if_neg (by omega), wordOf_nat]
theorem cutLn_n {s : ByteArray} (hj : ∀ j, j < 4 → isPre s (linL.getD j ByteArray.empty ++ spB) = false) : cutLn s = (s, 0) := by
  have e : preI linL s = -1 := preI_no (l := linL) hj
  unfold cutLn
  rw [e, if_pos (by omega)]
theorem cutLn_sz (s : ByteArray) : (cutLn s).1.size ≤ s.size := by
  unfold cutLn
  split
  · exact Nat.le_refl _
  · exact afterP_sz _ _
theorem getD_20 {l : List ByteArray} (h : ∀ s ∈ l, s.size ≤ 20) (i : Nat) : (l.getD i ByteArray.empty).size ≤ 20 := getD_sz h i
theorem condF {C : Fld} {s : ByteArray} : (bif !okF C then true else !((if okF C = true then fldT C else ByteArray.empty).toList == s.toList)) = !decide (okF C = true ∧ fldT C = s) := by
  rw [beqT]
  cases h : okF C <;> simp

end Go.Proofs.YtmpbmbioeeckeaaGreatDoor.AM
