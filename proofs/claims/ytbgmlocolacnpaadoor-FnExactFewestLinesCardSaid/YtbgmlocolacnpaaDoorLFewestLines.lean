import Derived.Test.YtbgmlocolacnpaaDoorFew
import Derived.Test.YtbgmlocolacnpaaDoorBrx
set_option linter.unusedVariables false
set_option linter.unusedSimpArgs false
set_option maxRecDepth 100000
set_option maxHeartbeats 4000000
set_option cbv.maxSteps 3000000
namespace Go.Proofs.YtbgmlocolacnpaaDoor.AM
/- The walk of the law FnExactFewestLines, from its contract; conditions: none. -/
end Go.Proofs.YtbgmlocolacnpaaDoor.AM
namespace Go.Proofs.YtbgmlocolacnpaaDoor
open Go AM
theorem w_FewestLines (s : ByteArray) (_ : s.size ≤ maxLen) (b : Int) (_ : I64 b) (w : World) (hsh : w.ShapedOpen Tryd.prog) : Calls Tryd.prog 6 #[.string s, .int .i64 b] w (fun e w' => e = .returned (.bool true) ∧ Up w w') :=
  law_ofX (law_FewestLines s b) (.cons (.lit rfl) (.cons (.lit rfl) (.nil _))) hsh
end Go.Proofs.YtbgmlocolacnpaaDoor
namespace Go.Proofs.YtbgmlocolacnpaaDoor.AM

end Go.Proofs.YtbgmlocolacnpaaDoor.AM
