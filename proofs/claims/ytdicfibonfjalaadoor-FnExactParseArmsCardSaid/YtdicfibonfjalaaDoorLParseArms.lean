import Derived.Test.YtdicfibonfjalaaDoorSpe
import Derived.Test.YtdicfibonfjalaaDoorBrx
set_option linter.unusedVariables false
set_option linter.unusedSimpArgs false
set_option maxRecDepth 100000
set_option maxHeartbeats 4000000
set_option cbv.maxSteps 3000000
namespace Go.Proofs.YtdicfibonfjalaaDoor.AM
/- The walk of the law FnExactParseArms, from its contract; conditions: none. -/
end Go.Proofs.YtdicfibonfjalaaDoor.AM
namespace Go.Proofs.YtdicfibonfjalaaDoor
open Go AM
theorem w_ParseArms (s : ByteArray) (_ : s.size ≤ maxLen) (w : World) (hsh : w.ShapedOpen Tryd.prog) : Calls Tryd.prog 5 #[.string s] w (fun e w' => e = .returned (.bool true) ∧ Up w w') :=
  law_ofX (law_ParseArms s) (.cons (.lit rfl) (.nil _)) hsh
end Go.Proofs.YtdicfibonfjalaaDoor
namespace Go.Proofs.YtdicfibonfjalaaDoor.AM

end Go.Proofs.YtdicfibonfjalaaDoor.AM
