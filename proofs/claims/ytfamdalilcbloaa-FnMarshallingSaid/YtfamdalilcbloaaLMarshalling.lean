/- The walk of the law Marshalling, from its contract; conditions: none. -/
import Derived.Test.YtfamdalilcbloaaALMarshalling
import Derived.Test.YtfamdalilcbloaaBrg
namespace Go.Proofs.Ytfamdalilcbloaa
open Go AM
theorem w_Marshalling (w : World) (A : Option Addr) (cap : Nat) (l : List Int) (hr : Rd w 1 encU8 A cap l) (hg : ∀ x ∈ l, isU8 x) (hsh : w.ShapedOpen Try.prog) : Calls Try.prog 8 #[.slice A l.length cap] w (fun e w' => e = .returned (.bool true) ∧ Up w w') := law_of law_Marshalling w A cap l hr hg hsh
end Go.Proofs.Ytfamdalilcbloaa
