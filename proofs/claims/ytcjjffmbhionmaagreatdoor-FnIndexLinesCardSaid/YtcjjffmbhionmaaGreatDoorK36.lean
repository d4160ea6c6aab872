/- Lemmas and contracts (Rgt); conditions: none. -/
import Derived.Test.YtcjjffmbhionmaaGreatDoorK03
import Derived.Test.YtcjjffmbhionmaaGreatDoorK15
import Derived.Test.YtcjjffmbhionmaaGreatDoorK31
import Derived.Test.YtcjjffmbhionmaaGreatDoorK32
set_option linter.unusedVariables false
set_option linter.unusedSimpArgs false
set_option maxRecDepth 100000
set_option maxHeartbeats 4000000
set_option cbv.maxSteps 3000000
namespace Go.Proofs.YtcjjffmbhionmaaGreatDoor.AM
/- Registers as texts; conditions: none. -/
theorem okAt_N {l : List Grt} {i : Nat} (h : okAt l i = true) : okN (l.getD i default) = true := by
  unfold okAt at h
  rw [Bool.and_eq_true] at h
  exact h.1
theorem okRg_N {l : List Grt} (h : okRg l = true) {i : Nat} (hi : i < l.length) : okN (l.getD i default) = true := okAt_N ((okRg_in h).2 i hi)
end Go.Proofs.YtcjjffmbhionmaaGreatDoor.AM

