/- Lemmas and contracts (Rgl Cre Alw); conditions: none. -/
import Derived.Test.YtbnohmfapmeaaaaGreatDoorK03
import Derived.Test.YtbnohmfapmeaaaaGreatDoorK08
import Derived.Test.YtbnohmfapmeaaaaGreatDoorK10
import Derived.Test.YtbnohmfapmeaaaaGreatDoorK13
import Derived.Test.YtbnohmfapmeaaaaGreatDoorK18
import Derived.Test.YtbnohmfapmeaaaaGreatDoorK19
import Derived.WalkKit
import Derived.Deep.RegionLaw
import Derived.Lib.SliceRun
set_option linter.unusedVariables false
set_option linter.unusedSimpArgs false
set_option maxRecDepth 100000
set_option maxHeartbeats 4000000
set_option cbv.maxSteps 3000000
namespace Go.Proofs.YtbnohmfapmeaaaaGreatDoor.AM
/- Grants of arms: plain; conditions: none. -/
theorem dr0 (f : Nat → List AV) : dropR 0 18 f = f := by
  funext j
  show f (0 / 18 + j) = f j
  rw [Nat.zero_div, Nat.zero_add]
theorem appN0 {α : Type} (f g : Nat → α) : app 0 f g = g := by
  funext j
  rfl
def GW (l : List Grt) (g : Grt) : Nat → List AV := app l.length (rowsW stdH fun _ => l) (dropR 0 18 (rowsOf 18 (rowW.cells stdH fun _ => g)))
theorem GW_shp {l : List Grt} {g : Grt} : Shp rowW (l.length + 1) (GW l g) := by
  unfold GW
  rw [dr0]
  exact Shp_app (Shp_W _ _) (Shp_one rfl)
theorem GW_tl {l : List Grt} {g : Grt} : Tl rowW (l.length + 1) (GW l g) = l ++ [g] := by
  unfold GW
  rw [dr0, Tl_app, Tl_W, Tl_one]
  rfl
theorem GW_eq {l : List Grt} {g : Grt} : RowsEq 18 (l ++ [g]).length (rowsW stdH fun _ => l ++ [g]) (l.length + 1) (GW l g) := RowsEq.ofT okRW rfl GW_shp GW_tl.symm
theorem idxF_up {α : Type} (p : α → Bool) (l : List α) (h : 0 ≤ idxF p l) : idxF p l < (l.length : Nat) := by
  unfold idxF at h ⊢
  split at h
  · rename_i g
    rw [if_pos g]
    obtain ⟨x, hx, hp⟩ := List.any_eq_true.1 g
    have := List.findIdx_lt_length_of_exists ⟨x, hx, hp⟩
    omega
  · omega
theorem RowsEq.putW {L : List Grt} {j : Nat} (x : Grt) {M : List Grt} (e : L.set j x = M) : RowsEq 18 M.length (rowsW stdH fun _ => M) L.length (put1 j (rowW.cells stdH fun _ => x) (rowsW stdH fun _ => L)) :=
  .ofT okRW rfl (Shp_put1 (Shp_W _ _) (by rw [okRW.of_cells])) (by rw [Tl_put1, Tl_W, okRW.of_cells, e])

end Go.Proofs.YtbnohmfapmeaaaaGreatDoor.AM

set_option linter.unusedVariables false
set_option linter.unusedSimpArgs false
set_option maxRecDepth 100000
set_option maxHeartbeats 4000000
set_option cbv.maxSteps 3000000
namespace Go.Proofs.YtbnohmfapmeaaaaGreatDoor.AM
/- Crests, classes of tinctures, wreaths; conditions: none. -/
structure Crs where
  k : Int
  a : Int
  t : Int
  r : Int
deriving Inhabited
end Go.Proofs.YtbnohmfapmeaaaaGreatDoor.AM

set_option linter.unusedVariables false
set_option linter.unusedSimpArgs false
set_option maxRecDepth 100000
set_option maxHeartbeats 4000000
set_option cbv.maxSteps 3000000
namespace Go.Proofs.YtbnohmfapmeaaaaGreatDoor.AM
/- Findings; conditions: none. -/
structure Fdg where
  p : Int
  u : Int
  l : Int
deriving Inhabited
def rowsD (H : Hold) (L : Unit → List Fdg) (j : Nat) : List AV := [.lit (.int .i64 (H Int fun _ => ((L ()).getD j default).p)), .lit (.int .i64 (H Int fun _ => ((L ()).getD j default).u)), .lit (.int .i64 (H Int fun _ => ((L ()).getD j default).l))]
theorem Fdg.eta (a : Fdg) : (⟨a.p, a.u, a.l⟩ : Fdg) = a := rfl
theorem Plain_rowsD (n : Nat) (H : Hold) (L : Unit → List Fdg) : Plain n (rowsD H L) = True := eq_true ⟨fun j _ x hx => by simp [rowsD] at hx; rcases hx with rfl | rfl | rfl <;> rfl⟩
def eqrD (a b : Fdg) : Bool := allT [fun _ => a.p == b.p, fun _ => a.u == b.u, fun _ => a.l == b.l]
theorem eqrD_iff {a b : Fdg} : eqrD a b = true ↔ a = b := by
  obtain ⟨a0, a1, a2⟩ := a; obtain ⟨b0, b1, b2⟩ := b
  simp [eqrD, allT, and_assoc]
instance : DecidableEq Fdg := fun a b => decidable_of_iff (eqrD a b = true) eqrD_iff
end Go.Proofs.YtbnohmfapmeaaaaGreatDoor.AM

