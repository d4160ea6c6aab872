/- Lemmas and contracts (Shq); conditions: none. -/
import Derived.Test.YtbnohmfapmeaaaaGreatDoorK03
import Derived.Test.YtbnohmfapmeaaaaGreatDoorK05
import Derived.Test.YtbnohmfapmeaaaaGreatDoorK09
import Derived.Test.YtbnohmfapmeaaaaGreatDoorK13
import Derived.Test.YtbnohmfapmeaaaaGreatDoorK26
import Derived.Test.YtbnohmfapmeaaaaGreatDoorK28
import Derived.Test.YtbnohmfapmeaaaaGreatDoorK30
import Derived.Test.YtbnohmfapmeaaaaGreatDoorK32
set_option linter.unusedVariables false
set_option linter.unusedSimpArgs false
set_option maxRecDepth 100000
set_option maxHeartbeats 4000000
set_option cbv.maxSteps 3000000
namespace Go.Proofs.YtbnohmfapmeaaaaGreatDoor.AM
/- Texts of shields read back: plain; conditions: none. -/
theorem num_lacks {b : UInt8} (hb : (List.range 10).all (fun d => UInt8.ofNat (48 + d) != b) = true) (i : Nat) : lacks (numD i) b = true := numD_lacks (fun d hd => by
  have := List.all_eq_true.1 hb d (List.mem_range.2 hd)
  simpa using this) i
end Go.Proofs.YtbnohmfapmeaaaaGreatDoor.AM

