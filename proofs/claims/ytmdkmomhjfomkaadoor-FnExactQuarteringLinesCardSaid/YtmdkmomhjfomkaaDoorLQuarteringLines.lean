import Derived.Test.YtmdkmomhjfomkaaDoorQlw
import Derived.Test.YtmdkmomhjfomkaaDoorBrx
set_option linter.unusedVariables false
set_option linter.unusedSimpArgs false
set_option maxRecDepth 100000
set_option maxHeartbeats 4000000
set_option cbv.maxSteps 3000000
namespace Go.Proofs.YtmdkmomhjfomkaaDoor.AM
/- The walk of the law FnExactQuarteringLines, from its contract; conditions: none. -/
end Go.Proofs.YtmdkmomhjfomkaaDoor.AM
namespace Go.Proofs.YtmdkmomhjfomkaaDoor
open Go AM
theorem w_QuarteringLines (w : World) (A : Option Addr) (cap : Nat) (l : List Arms) (hr : Rd w 15 Arms.cells A cap l) (_ : ∀ a ∈ l, a.wf) (hsh : w.ShapedOpen Tryd.prog) : Calls Tryd.prog 3 #[.slice A l.length cap] w (fun e w' => e = .returned (.bool true) ∧ Up w w') :=
  law_ofX (law_QuarteringLines _ (by rw [List.length_map]; exact rd_le hr)) (.cons (rd_A hr) (.nil _)) hsh
end Go.Proofs.YtmdkmomhjfomkaaDoor
namespace Go.Proofs.YtmdkmomhjfomkaaDoor.AM

end Go.Proofs.YtmdkmomhjfomkaaDoor.AM
