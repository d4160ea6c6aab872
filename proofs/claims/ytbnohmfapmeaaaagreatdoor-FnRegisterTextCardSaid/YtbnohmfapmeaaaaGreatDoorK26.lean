/- Lemmas and contracts (Jon); conditions: none. -/
import Derived.Test.YtbnohmfapmeaaaaGreatDoorK03
import Derived.Test.YtbnohmfapmeaaaaGreatDoorK24
set_option linter.unusedVariables false
set_option linter.unusedSimpArgs false
set_option maxRecDepth 100000
set_option maxHeartbeats 4000000
set_option cbv.maxSteps 3000000
namespace Go.Proofs.YtbnohmfapmeaaaaGreatDoor.AM
/- Texts joined by the library; conditions: none. -/
def jnB (L : List ByteArray) (s : ByteArray) : ByteArray := ⟨(Lib.join (L.map (·.data.toList)) s.data.toList).toArray⟩
theorem jnB_one (x s : ByteArray) : jnB [x] s = x := by
  apply ByteArray.ext; apply Array.ext'
  simp [jnB, Lib.join_one]
end Go.Proofs.YtbnohmfapmeaaaaGreatDoor.AM

