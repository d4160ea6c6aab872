/- The walk of the law Order, from its contract; conditions: none. -/
import Derived.Test.YtmpbmbioeeckeaaGreatDoorALOrder
import Derived.Test.YtmpbmbioeeckeaaGreatDoorBrg
namespace Go.Proofs.YtmpbmbioeeckeaaGreatDoor
open Go AM
theorem w_Order (w : World) (A : Option Addr) (cap : Nat) (l : List Int) (hr : Rd w 1 encU8 A cap l) (hg : ∀ x ∈ l, isU8 x) (hsh : w.ShapedOpen Tryz.prog) : Calls Tryz.prog 3 #[.slice A l.length cap] w (fun e w' => e = .returned (.bool true) ∧ Up w w') := law_of law_Order w A cap l hr hg hsh
end Go.Proofs.YtmpbmbioeeckeaaGreatDoor
