/- The walk of the law Quarterings, from its contract; conditions: none. -/
import Derived.Test.YthilcnfnbgbkdaaDoorALQuarterings
import Derived.Test.YthilcnfnbgbkdaaDoorBrg
namespace Go.Proofs.YthilcnfnbgbkdaaDoor
open Go AM
theorem w_Quarterings (w : World) (A : Option Addr) (cap : Nat) (l : List Int) (hr : Rd w 1 encU8 A cap l) (hg : ∀ x ∈ l, isU8 x) (hsh : w.ShapedOpen Tryd.prog) : Calls Tryd.prog 3 #[.slice A l.length cap] w (fun e w' => e = .returned (.bool true) ∧ Up w w') := law_of law_Quarterings w A cap l hr hg hsh
end Go.Proofs.YthilcnfnbgbkdaaDoor
