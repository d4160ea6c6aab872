import Derived.Test.YtbgmlocolacnpaaALCrestText
import Derived.Test.YtbgmlocolacnpaaBrx
set_option linter.unusedVariables false
set_option linter.unusedSimpArgs false
set_option maxRecDepth 100000
set_option maxHeartbeats 4000000
set_option cbv.maxSteps 3000000
namespace Go.Proofs.Ytbgmlocolacnpaa.AM
/- The walk of the law FnExactCrestText, from its contract; conditions: none. -/
end Go.Proofs.Ytbgmlocolacnpaa.AM
namespace Go.Proofs.Ytbgmlocolacnpaa
open Go AM
theorem w_CrestText (k a t r : Int) (_ : ∀ x ∈ [k, a, t, r], I64 x) (w : World) (hsh : w.ShapedOpen Try.prog) : Calls Try.prog 3 #[.agg #[.int .i64 k, .int .i64 a, .int .i64 t, .int .i64 r]] w (fun e w' => e = .returned (.bool true) ∧ Up w w') :=
  law_ofX (law_CrestText ⟨k, a, t, r⟩) (.cons (rel_ints w [k, a, t, r]) (.nil _)) hsh
end Go.Proofs.Ytbgmlocolacnpaa
namespace Go.Proofs.Ytbgmlocolacnpaa.AM

end Go.Proofs.Ytbgmlocolacnpaa.AM
