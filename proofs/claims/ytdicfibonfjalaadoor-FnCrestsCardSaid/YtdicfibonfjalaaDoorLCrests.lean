/- The walk of the law Crests, from its contract; conditions: none. -/
import Derived.Test.YtdicfibonfjalaaDoorALCrests
import Derived.Test.YtdicfibonfjalaaDoorBrg
namespace Go.Proofs.YtdicfibonfjalaaDoor
open Go AM
theorem w_Crests (w : World) (A : Option Addr) (cap : Nat) (l : List Int) (hr : Rd w 1 encU8 A cap l) (hg : ∀ x ∈ l, isU8 x) (hsh : w.ShapedOpen Tryd.prog) : Calls Tryd.prog 4 #[.slice A l.length cap] w (fun e w' => e = .returned (.bool true) ∧ Up w w') := law_of law_Crests w A cap l hr hg hsh
end Go.Proofs.YtdicfibonfjalaaDoor
