/- The walk of the law ArmsParts, from its contract; conditions: none. -/
import Derived.Test.YthacffbofjfcjaaALArmsParts
import Derived.Test.YthacffbofjfcjaaBrg
namespace Go.Proofs.Ythacffbofjfcjaa
open Go AM
theorem w_ArmsParts (w : World) (A : Option Addr) (cap : Nat) (l : List Int) (hr : Rd w 1 encU8 A cap l) (hg : ∀ x ∈ l, isU8 x) : Calls Try.prog 5 #[.slice A l.length cap] w (fun e w' => e = .returned (.bool true) ∧ Up w w') := law_of law_ArmsParts w A cap l hr hg
end Go.Proofs.Ythacffbofjfcjaa
