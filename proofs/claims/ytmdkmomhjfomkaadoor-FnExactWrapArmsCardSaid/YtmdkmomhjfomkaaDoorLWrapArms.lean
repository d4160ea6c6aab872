import Derived.Test.YtmdkmomhjfomkaaDoorWra
import Derived.Test.YtmdkmomhjfomkaaDoorBrx
set_option linter.unusedVariables false
set_option linter.unusedSimpArgs false
set_option maxRecDepth 100000
set_option maxHeartbeats 4000000
set_option cbv.maxSteps 3000000
namespace Go.Proofs.YtmdkmomhjfomkaaDoor.AM
/- The walk of the law FnExactWrapArms, from its contract; conditions: none. -/
end Go.Proofs.YtmdkmomhjfomkaaDoor.AM
namespace Go.Proofs.YtmdkmomhjfomkaaDoor
open Go AM
theorem w_WrapArms (A : Arms) (_ : A.wf) (b : Int) (_ : I64 b) (w : World) (hsh : w.ShapedOpen Tryd.prog) : Calls Tryd.prog 5 #[.agg A.arr, .int .i64 b] w (fun e w' => e = .returned (.bool true) ∧ Up w w') :=
  law_ofX (law_WrapArms (toArm A) b) (.cons (rel_ints w A.list) (.cons (.lit rfl) (.nil _))) hsh
end Go.Proofs.YtmdkmomhjfomkaaDoor
namespace Go.Proofs.YtmdkmomhjfomkaaDoor.AM

end Go.Proofs.YtmdkmomhjfomkaaDoor.AM
