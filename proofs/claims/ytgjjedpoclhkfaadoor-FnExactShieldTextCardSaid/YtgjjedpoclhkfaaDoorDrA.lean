import Derived.Test.YtgjjedpoclhkfaaDoorArm
set_option linter.unusedVariables false
set_option linter.unusedSimpArgs false
set_option maxRecDepth 100000
set_option maxHeartbeats 4000000
set_option cbv.maxSteps 3000000
namespace Go.Proofs.YtgjjedpoclhkfaaDoor.AM
/- Arms are drawn; conditions: none. -/
structure AOX where
  a : Arm
  o : Int
  x : Int
deriving Inhabited

end Go.Proofs.YtgjjedpoclhkfaaDoor.AM
