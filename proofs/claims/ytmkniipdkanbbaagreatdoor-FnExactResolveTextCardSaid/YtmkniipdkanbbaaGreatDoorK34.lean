/- Lemmas and contracts (Bex); conditions: none. -/
import Derived.Test.YtmkniipdkanbbaaGreatDoorK04
import Derived.Test.YtmkniipdkanbbaaGreatDoorK13
set_option linter.unusedVariables false
set_option linter.unusedSimpArgs false
set_option maxRecDepth 100000
set_option maxHeartbeats 4000000
set_option cbv.maxSteps 3000000
namespace Go.Proofs.YtmkniipdkanbbaaGreatDoor.AM
/- Texts cut at a place; conditions: none. -/
theorem ofL_toL (l : List UInt8) : (ofL l).data.toList = l := rfl
theorem ext_left (p t : ByteArray) : (p ++ t).extract 0 p.size = p := by
  apply ByteArray.ext; apply Array.ext'
  rw [← ofL_ext, ofL_toL, ByteArray.toList_data_append, List.drop_zero, Nat.sub_zero]
  exact List.take_left' rfl
theorem ext_right (p t : ByteArray) : (p ++ t).extract p.size (p ++ t).size = t := by
  apply ByteArray.ext; apply Array.ext'
  rw [← ofL_end, ofL_toL, ByteArray.toList_data_append]
  exact List.drop_left' rfl
theorem ext_both {s : ByteArray} (n : Nat) : s.extract 0 n ++ s.extract n s.size = s := by
  apply ByteArray.ext; apply Array.ext'
  rw [← ofL_ext, ← ofL_end, ByteArray.toList_data_append, ofL_toL, ofL_toL, List.drop_zero, Nat.sub_zero]
  exact List.take_append_drop _ _

end Go.Proofs.YtmkniipdkanbbaaGreatDoor.AM

