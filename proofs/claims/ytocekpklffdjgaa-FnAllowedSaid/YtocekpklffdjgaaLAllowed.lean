/- The walk of the law Allowed, from its contract; conditions: none. -/
import Derived.Test.YtocekpklffdjgaaALAllowed
import Derived.Test.YtocekpklffdjgaaBrg
namespace Go.Proofs.Ytocekpklffdjgaa
open Go AM
theorem w_Allowed (w : World) (A : Option Addr) (cap : Nat) (l : List Int) (hr : Rd w 1 encU8 A cap l) (hg : ∀ x ∈ l, isU8 x) : Calls Try.prog 3 #[.slice A l.length cap] w (fun e w' => e = .returned (.bool true) ∧ Up w w') := law_of law_Allowed w A cap l hr hg
end Go.Proofs.Ytocekpklffdjgaa
