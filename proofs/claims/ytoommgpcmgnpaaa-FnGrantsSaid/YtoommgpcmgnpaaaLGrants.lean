/- The walk of the law Grants, from its contract; conditions: none. -/
import Derived.Test.YtoommgpcmgnpaaaALGrants
import Derived.Test.YtoommgpcmgnpaaaBrg
namespace Go.Proofs.Ytoommgpcmgnpaaa
open Go AM
theorem w_Grants (w : World) (A : Option Addr) (cap : Nat) (l : List Int) (hr : Rd w 1 encU8 A cap l) (hg : ∀ x ∈ l, isU8 x) (hsh : w.ShapedOpen Try.prog) : Calls Try.prog 4 #[.slice A l.length cap] w (fun e w' => e = .returned (.bool true) ∧ Up w w') := law_of law_Grants w A cap l hr hg hsh
end Go.Proofs.Ytoommgpcmgnpaaa
