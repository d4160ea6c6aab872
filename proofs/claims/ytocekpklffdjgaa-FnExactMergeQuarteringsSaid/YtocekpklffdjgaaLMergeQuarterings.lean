import Derived.Test.YtocekpklffdjgaaALMergeQuarterings
import Derived.Test.YtocekpklffdjgaaBrx
set_option linter.unusedVariables false
set_option linter.unusedSimpArgs false
set_option maxRecDepth 100000
set_option maxHeartbeats 4000000
set_option cbv.maxSteps 3000000
namespace Go.Proofs.Ytocekpklffdjgaa.AM
/- The walk of the law FnExactMergeQuarterings, from its contract; conditions: none. -/
end Go.Proofs.Ytocekpklffdjgaa.AM
namespace Go.Proofs.Ytocekpklffdjgaa
open Go AM
theorem w_MergeQuarterings (w : World) (A : Option Addr) (cap : Nat) (l : List Arms) (hr : Rd w 15 Arms.cells A cap l) (hg : ∀ a ∈ l, a.wf) (A1 : Option Addr) (cap1 : Nat) (l1 : List Arms) (hr1 : Rd w 15 Arms.cells A1 cap1 l1) (hg1 : ∀ a ∈ l1, a.wf) : Calls Try.prog 9 #[.slice A l.length cap, .slice A1 l1.length cap1] w (fun e w' => e = .returned (.bool true) ∧ Up w w') :=
  law_ofX (law_MergeQuarterings _ _ (by rw [List.length_map]; exact rd_le hr) (by rw [List.length_map]; exact rd_le hr1)) (.cons (rd_A hr) (.cons (rd_A hr1) (.nil _)))
end Go.Proofs.Ytocekpklffdjgaa
namespace Go.Proofs.Ytocekpklffdjgaa.AM

end Go.Proofs.Ytocekpklffdjgaa.AM
