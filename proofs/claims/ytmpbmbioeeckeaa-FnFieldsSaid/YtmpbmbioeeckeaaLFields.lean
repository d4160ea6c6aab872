/- The walk of the law Fields, from its contract; conditions: none. -/
import Derived.Test.YtmpbmbioeeckeaaALFields
import Derived.Test.YtmpbmbioeeckeaaBrg
namespace Go.Proofs.Ytmpbmbioeeckeaa
open Go AM
theorem w_Fields (w : World) (A : Option Addr) (cap : Nat) (l : List Int) (hr : Rd w 1 encU8 A cap l) (hg : ∀ x ∈ l, isU8 x) (hsh : w.ShapedOpen Try.prog) : Calls Try.prog 4 #[.slice A l.length cap] w (fun e w' => e = .returned (.bool true) ∧ Up w w') := law_of law_Fields w A cap l hr hg hsh
end Go.Proofs.Ytmpbmbioeeckeaa
