/- Lemmas and contracts (Kin); conditions: none. -/
import Derived.Test.YtbnohmfapmeaaaaGreatDoorK09
import Derived.Test.YtbnohmfapmeaaaaGreatDoorK10
set_option linter.unusedVariables false
set_option linter.unusedSimpArgs false
set_option maxRecDepth 100000
set_option maxHeartbeats 4000000
set_option cbv.maxSteps 3000000
namespace Go.Proofs.YtbnohmfapmeaaaaGreatDoor.AM
/- The kinds of differences; arms like others are drawn; conditions: none. -/
def nt (b : Bool) (k : Int) (l : List Int) : List Int := bif b then l ++ [k] else l
end Go.Proofs.YtbnohmfapmeaaaaGreatDoor.AM

