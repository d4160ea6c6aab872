import Derived.Test.YtmpbmbioeeckeaaALSortArms
import Derived.Test.YtmpbmbioeeckeaaBrx
set_option linter.unusedVariables false
set_option linter.unusedSimpArgs false
set_option maxRecDepth 100000
set_option maxHeartbeats 4000000
set_option cbv.maxSteps 3000000
namespace Go.Proofs.Ytmpbmbioeeckeaa.AM
/- The walk of the law FnExactSortArms, from its contract; conditions: none. -/
end Go.Proofs.Ytmpbmbioeeckeaa.AM
namespace Go.Proofs.Ytmpbmbioeeckeaa
open Go AM
theorem w_SortArms (w : World) (A : Option Addr) (cap : Nat) (l : List Arms) (hr : Rd w 15 Arms.cells A cap l) (hg : ∀ a ∈ l, a.wf) (hsh : w.ShapedOpen Try.prog) : Calls Try.prog 3 #[.slice A l.length cap] w (fun e w' => e = .returned (.bool true) ∧ Up w w') :=
  law_ofX (law_SortArms _ (by rw [List.length_map]; exact rd_le hr)) (.cons (rd_A hr) (.nil _)) hsh
end Go.Proofs.Ytmpbmbioeeckeaa
namespace Go.Proofs.Ytmpbmbioeeckeaa.AM

end Go.Proofs.Ytmpbmbioeeckeaa.AM
