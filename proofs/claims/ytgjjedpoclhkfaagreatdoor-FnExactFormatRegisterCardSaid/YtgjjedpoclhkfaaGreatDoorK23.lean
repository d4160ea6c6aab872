/- Lemmas and contracts (LFormatRegister); conditions: none. -/
import Derived.Test.YtgjjedpoclhkfaaGreatDoorK21
import Derived.Test.YtgjjedpoclhkfaaGreatDoorK22
set_option linter.unusedVariables false
set_option linter.unusedSimpArgs false
set_option maxRecDepth 100000
set_option maxHeartbeats 4000000
set_option cbv.maxSteps 3000000
namespace Go.Proofs.YtgjjedpoclhkfaaGreatDoor.AM
/- The walk of the law FnExactFormatRegister, from its contract; conditions: none. -/
end Go.Proofs.YtgjjedpoclhkfaaGreatDoor.AM
namespace Go.Proofs.YtgjjedpoclhkfaaGreatDoor
open Go AM
theorem w_FormatRegister (w : World) (v : Value) (r : Rgr) (hr : Rel (cx0 w) (aT rowJ stdH fun _ => r) v) (hg : GD_J r) (hsh : w.ShapedOpen Tryz.prog) (hld : AM.Laid w) : Calls Tryz.prog 3 #[v] w (fun e w' => e = .returned (.bool true) ∧ Up w w') :=
  law_ofX (law_FormatRegister r hg.g0.1 ⟨fun g h => (hg.g0.2 g h).g1⟩) (.cons hr (.nil _)) hsh hld
end Go.Proofs.YtgjjedpoclhkfaaGreatDoor
namespace Go.Proofs.YtgjjedpoclhkfaaGreatDoor.AM

end Go.Proofs.YtgjjedpoclhkfaaGreatDoor.AM

