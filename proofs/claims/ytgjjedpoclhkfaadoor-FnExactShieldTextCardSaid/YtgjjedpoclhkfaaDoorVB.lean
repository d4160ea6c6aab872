import Derived.Test.YtgjjedpoclhkfaaDoorBas
set_option linter.unusedVariables false
set_option linter.unusedSimpArgs false
set_option maxRecDepth 100000
set_option maxHeartbeats 4000000
set_option cbv.maxSteps 3000000
namespace Go.Proofs.YtgjjedpoclhkfaaDoor.AM
/- Long codes; conditions: none. -/

end Go.Proofs.YtgjjedpoclhkfaaDoor.AM
