/- The walk of the law Texts, from its contract; conditions: none. -/
import Derived.Test.YtdicfibonfjalaaGreatDoorALTexts
import Derived.Test.YtdicfibonfjalaaGreatDoorBrg
namespace Go.Proofs.YtdicfibonfjalaaGreatDoor
open Go AM
theorem w_Texts (w : World) (A : Option Addr) (cap : Nat) (l : List Int) (hr : Rd w 1 encU8 A cap l) (hg : ∀ x ∈ l, isU8 x) (hsh : w.ShapedOpen Tryz.prog) : Calls Tryz.prog 3 #[.slice A l.length cap] w (fun e w' => e = .returned (.bool true) ∧ Up w w') := law_of law_Texts w A cap l hr hg hsh
end Go.Proofs.YtdicfibonfjalaaGreatDoor
