/- Lemmas and contracts (Shm); conditions: none. -/
import Derived.Test.YtbnohmfapmeaaaaGreatDoorK03
import Derived.Test.YtbnohmfapmeaaaaGreatDoorK04
import Derived.Test.YtbnohmfapmeaaaaGreatDoorK08
import Derived.Test.YtbnohmfapmeaaaaGreatDoorK10
import Derived.Test.YtbnohmfapmeaaaaGreatDoorK14
import Derived.Test.YtbnohmfapmeaaaaGreatDoorK16
import Derived.Test.YtbnohmfapmeaaaaGreatDoorK21
import Derived.Test.YtbnohmfapmeaaaaGreatDoorK26
import Derived.Test.YtbnohmfapmeaaaaGreatDoorK28
set_option linter.unusedVariables false
set_option linter.unusedSimpArgs false
set_option maxRecDepth 100000
set_option maxHeartbeats 4000000
set_option cbv.maxSteps 3000000
namespace Go.Proofs.YtbnohmfapmeaaaaGreatDoor.AM
/- Texts of shields read back: the program's; conditions: none. -/
theorem getD_le2 {L : List ByteArray} {m : Nat} (h : ∀ x ∈ L, x.size ≤ m) (i : Nat) : (L.getD i ByteArray.empty).size ≤ m := by
  rw [List.getD_eq_getElem?_getD]
  cases e : L[i]? with
  | none => exact Nat.zero_le _
  | some s => exact h s (List.mem_of_getElem? e)
end Go.Proofs.YtbnohmfapmeaaaaGreatDoor.AM

