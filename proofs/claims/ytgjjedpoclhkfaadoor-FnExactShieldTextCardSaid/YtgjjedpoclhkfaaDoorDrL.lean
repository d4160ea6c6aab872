import Derived.Test.YtgjjedpoclhkfaaDoorAmT
import Derived.Test.YtgjjedpoclhkfaaDoorDrA
set_option linter.unusedVariables false
set_option linter.unusedSimpArgs false
set_option maxRecDepth 100000
set_option maxHeartbeats 4000000
set_option cbv.maxSteps 3000000
namespace Go.Proofs.YtgjjedpoclhkfaaDoor.AM
/- Arms like others are drawn; conditions: none. -/
structure TwoA where
  a : Arm
  b : Arm
deriving Inhabited

end Go.Proofs.YtgjjedpoclhkfaaDoor.AM
