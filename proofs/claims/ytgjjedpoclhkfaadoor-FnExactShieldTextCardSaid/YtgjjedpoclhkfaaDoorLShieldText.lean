import Derived.Test.YtgjjedpoclhkfaaDoorALShieldText
import Derived.Test.YtgjjedpoclhkfaaDoorArx
set_option linter.unusedVariables false
set_option linter.unusedSimpArgs false
set_option maxRecDepth 100000
set_option maxHeartbeats 4000000
set_option cbv.maxSteps 3000000
namespace Go.Proofs.YtgjjedpoclhkfaaDoor.AM
/- The walk of the law FnExactShieldText, from its contract; conditions: none. -/
end Go.Proofs.YtgjjedpoclhkfaaDoor.AM
namespace Go.Proofs.YtgjjedpoclhkfaaDoor
open Go AM
theorem w_ShieldText (w : World) (v : Value) (s : Shd) (hr : Rel (cx0 w) (aT rowH stdH fun _ => s) v) (hsh : w.ShapedOpen Tryd.prog) (hld : AM.Laid w) : Calls Tryd.prog 3 #[v] w (fun e w' => e = .returned (.bool true) ∧ Up w w') := by
  obtain ⟨u, hu⟩ := hr.agg_at (c := 1) rfl
  exact law_ofX (law_ShieldText s hu.vec_le) (.cons hr (.nil _)) hsh hld
end Go.Proofs.YtgjjedpoclhkfaaDoor
namespace Go.Proofs.YtgjjedpoclhkfaaDoor.AM

end Go.Proofs.YtgjjedpoclhkfaaDoor.AM
