/- Lemmas and contracts (Rgl); conditions: none. -/
import Derived.Test.YtcjjffmbhionmaaGreatDoorK03
import Derived.Test.YtcjjffmbhionmaaGreatDoorK05
import Derived.Test.YtcjjffmbhionmaaGreatDoorK11
import Derived.Test.YtcjjffmbhionmaaGreatDoorK31
import Derived.Test.YtcjjffmbhionmaaGreatDoorK32
import Derived.WalkKit
import Derived.Deep.RegionLaw
import Derived.Lib.SliceRun
set_option linter.unusedVariables false
set_option linter.unusedSimpArgs false
set_option maxRecDepth 100000
set_option maxHeartbeats 4000000
set_option cbv.maxSteps 3000000
namespace Go.Proofs.YtcjjffmbhionmaaGreatDoor.AM
/- Grants of arms: plain; conditions: none. -/
theorem dr0 (f : Nat → List AV) : dropR 0 18 f = f := by
  funext j
  show f (0 / 18 + j) = f j
  rw [Nat.zero_div, Nat.zero_add]
/-- The rows of a list with one grant more. -/
def GW (l : List Grt) (g : Grt) : Nat → List AV := app l.length (rowsW stdH fun _ => l) (dropR 0 18 (rowsOf 18 (rowW.cells stdH fun _ => g)))
theorem GW_shp {l : List Grt} {g : Grt} : Shp rowW (l.length + 1) (GW l g) := by
  unfold GW
  rw [dr0]
  exact Shp_app (Shp_W _ _) (Shp_one rfl)
theorem GW_tl {l : List Grt} {g : Grt} : Tl rowW (l.length + 1) (GW l g) = l ++ [g] := by
  unfold GW
  rw [dr0, Tl_app, Tl_W, Tl_one]
  rfl
theorem GW_eq {l : List Grt} {g : Grt} : RowsEq 18 (l ++ [g]).length (rowsW stdH fun _ => l ++ [g]) (l.length + 1) (GW l g) := RowsEq.ofT okRW rfl GW_shp GW_tl.symm
theorem RowsEq.putW {L : List Grt} {j : Nat} (x : Grt) {M : List Grt} (e : L.set j x = M) : RowsEq 18 M.length (rowsW stdH fun _ => M) L.length (put1 j (rowW.cells stdH fun _ => x) (rowsW stdH fun _ => L)) :=
  .ofT okRW rfl (Shp_put1 (Shp_W _ _) (by rw [okRW.of_cells])) (by rw [Tl_put1, Tl_W, okRW.of_cells, e])

end Go.Proofs.YtcjjffmbhionmaaGreatDoor.AM

