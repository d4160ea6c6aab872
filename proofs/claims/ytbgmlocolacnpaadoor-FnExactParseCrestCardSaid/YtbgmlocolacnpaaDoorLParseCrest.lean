import Derived.Test.YtbgmlocolacnpaaDoorPcr
import Derived.Test.YtbgmlocolacnpaaDoorBrx
set_option linter.unusedVariables false
set_option linter.unusedSimpArgs false
set_option maxRecDepth 100000
set_option maxHeartbeats 4000000
set_option cbv.maxSteps 3000000
namespace Go.Proofs.YtbgmlocolacnpaaDoor.AM
/- The walk of the law FnExactParseCrest, from its contract; conditions: none. -/
end Go.Proofs.YtbgmlocolacnpaaDoor.AM
namespace Go.Proofs.YtbgmlocolacnpaaDoor
open Go AM
theorem w_ParseCrest (s : ByteArray) (_ : s.size ≤ maxLen) (w : World) (hsh : w.ShapedOpen Tryd.prog) : Calls Tryd.prog 5 #[.string s] w (fun e w' => e = .returned (.bool true) ∧ Up w w') :=
  law_ofX (law_ParseCrest s) (.cons (.lit rfl) (.nil _)) hsh
end Go.Proofs.YtbgmlocolacnpaaDoor
namespace Go.Proofs.YtbgmlocolacnpaaDoor.AM

end Go.Proofs.YtbgmlocolacnpaaDoor.AM
