import Derived.Test.YtfamdalilcbloaaALLeaveOut
import Derived.Test.YtfamdalilcbloaaBrx
set_option linter.unusedVariables false
set_option linter.unusedSimpArgs false
set_option maxRecDepth 100000
set_option maxHeartbeats 4000000
set_option cbv.maxSteps 3000000
namespace Go.Proofs.Ytfamdalilcbloaa.AM
/- The walk of the law FnExactLeaveOut, from its contract; conditions: none. -/
end Go.Proofs.Ytfamdalilcbloaa.AM
namespace Go.Proofs.Ytfamdalilcbloaa
open Go AM
theorem w_LeaveOut (w : World) (A : Option Addr) (cap : Nat) (l : List Arms) (hr : Rd w 15 Arms.cells A cap l) (hg : ∀ a ∈ l, a.wf) (i : Int) (hi : I64 i) (hsh : w.ShapedOpen Try.prog) : Calls Try.prog 3 #[.slice A l.length cap, .int .i64 i] w (fun e w' => e = .returned (.bool true) ∧ Up w w') :=
  law_ofX (law_LeaveOut _ _ (by rw [List.length_map]; exact rd_le hr)) (.cons (rd_A hr) (.cons (.lit rfl) (.nil _))) hsh
end Go.Proofs.Ytfamdalilcbloaa
namespace Go.Proofs.Ytfamdalilcbloaa.AM

end Go.Proofs.Ytfamdalilcbloaa.AM
