/- Contracts and lemmas (Wq) for the laws of this seat: what the Go functions named here return, for all arguments that each theorem states; no further conditions. -/
import Derived.Test.YtbljimjanoondaaData
import Derived.Test.YtbljimjanoondaaEq
import Derived.Test.YtbljimjanoondaaMem
import Derived.Test.YtbljimjanoondaaMemA
import Derived.Test.YtbljimjanoondaaMemB
import Derived.Test.YtbljimjanoondaaOpen
import Derived.Test.YtbljimjanoondaaUp
import Derived.Test.YtbljimjanoondaaRows
import Derived.WalkKit
import Derived.ProofKit
import Derived.OpenShut
import Derived.WalkLawsBesides
import Derived.Lib.Hide
import Derived.Deep.QuietTactic
import Derived.BigQuiet
import Derived.Deep.Light
import Derived.Handy
namespace Go.Proofs.Ytbljimjanoondaa
set_option maxRecDepth 100000
open Go.ChangeShapes Go.WideShapes Go.ChangeAt Go.RowKit
set_option linter.unusedVariables false
set_option linter.unusedSimpArgs false

theorem c_sIsValidQuarterings (A : Option Addr) (cap : Nat) (l : List Arms) (w : World) (hr : Rd w 15 Arms.cells A cap l) :
    Calls Try.prog 12 #[.slice A l.length cap] w fun e w' => e = .returned (.bool (goodQ l)) ∧ Up w w' := by
  go_enter Try.func12, Try.ntmps12
  go_wp2_with (go_at_call 40; refine (c_l21Good _ _ _ _ hr).mono ?_; rintro e w1 ⟨rfl, hb1⟩)
  go_ret
  exact ⟨rfl, hb1⟩

end Go.Proofs.Ytbljimjanoondaa
