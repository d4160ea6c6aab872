/- The walk of the law Nearest, from its contract; conditions: none. -/
import Derived.Test.YthilcnfnbgbkdaaALNearest
import Derived.Test.YthilcnfnbgbkdaaBrg
namespace Go.Proofs.Ythilcnfnbgbkdaa
open Go AM
theorem w_Nearest (w : World) (A : Option Addr) (cap : Nat) (l : List Int) (hr : Rd w 1 encU8 A cap l) (hg : ∀ x ∈ l, isU8 x) (hsh : w.ShapedOpen Try.prog) : Calls Try.prog 3 #[.slice A l.length cap] w (fun e w' => e = .returned (.bool true) ∧ Up w w') := law_of law_Nearest w A cap l hr hg hsh
end Go.Proofs.Ythilcnfnbgbkdaa
