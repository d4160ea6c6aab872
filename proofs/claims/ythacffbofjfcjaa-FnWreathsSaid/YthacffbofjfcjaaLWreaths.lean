/- The walk of the law Wreaths, from its contract; conditions: none. -/
import Derived.Test.YthacffbofjfcjaaALWreaths
import Derived.Test.YthacffbofjfcjaaBrg
namespace Go.Proofs.Ythacffbofjfcjaa
open Go AM
theorem w_Wreaths (w : World) (A : Option Addr) (cap : Nat) (l : List Int) (hr : Rd w 1 encU8 A cap l) (hg : ∀ x ∈ l, isU8 x) : Calls Try.prog 7 #[.slice A l.length cap] w (fun e w' => e = .returned (.bool true) ∧ Up w w') := law_of law_Wreaths w A cap l hr hg
end Go.Proofs.Ythacffbofjfcjaa
