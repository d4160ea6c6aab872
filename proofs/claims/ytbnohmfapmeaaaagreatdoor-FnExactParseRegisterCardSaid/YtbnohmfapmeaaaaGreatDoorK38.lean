/- Lemmas and contracts (Rgl Alw Drl Rgd); conditions: none. -/
import Derived.Test.YtbnohmfapmeaaaaGreatDoorK03
import Derived.Test.YtbnohmfapmeaaaaGreatDoorK06
import Derived.Test.YtbnohmfapmeaaaaGreatDoorK07
import Derived.Test.YtbnohmfapmeaaaaGreatDoorK10
import Derived.Test.YtbnohmfapmeaaaaGreatDoorK16
import Derived.Test.YtbnohmfapmeaaaaGreatDoorK17
import Derived.Test.YtbnohmfapmeaaaaGreatDoorK23
import Derived.Test.YtbnohmfapmeaaaaGreatDoorK36
import Derived.Test.YtbnohmfapmeaaaaGreatDoorK37
import Derived.WalkKit
import Derived.Deep.RegionLaw
import Derived.Lib.SliceRun
set_option linter.unusedVariables false
set_option linter.unusedSimpArgs false
set_option maxRecDepth 100000
set_option maxHeartbeats 4000000
set_option cbv.maxSteps 3000000
namespace Go.Proofs.YtbnohmfapmeaaaaGreatDoor.AM
/- Grants of arms: plain; conditions: none. -/
theorem dr0 (f : Nat → List AV) : dropR 0 18 f = f := by
  funext j
  show f (0 / 18 + j) = f j
  rw [Nat.zero_div, Nat.zero_add]
/-- The rows of a list with one grant more. -/
def GW (l : List Grt) (g : Grt) : Nat → List AV := app l.length (rowsW stdH fun _ => l) (dropR 0 18 (rowsOf 18 (rowW.cells stdH fun _ => g)))
theorem GW_shp {l : List Grt} {g : Grt} : Shp rowW (l.length + 1) (GW l g) := by
  unfold GW
  rw [dr0]
  exact Shp_app (Shp_W _ _) (Shp_one rfl)
theorem GW_tl {l : List Grt} {g : Grt} : Tl rowW (l.length + 1) (GW l g) = l ++ [g] := by
  unfold GW
  rw [dr0, Tl_app, Tl_W, Tl_one]
  rfl
theorem GW_eq {l : List Grt} {g : Grt} : RowsEq 18 (l ++ [g]).length (rowsW stdH fun _ => l ++ [g]) (l.length + 1) (GW l g) := RowsEq.ofT okRW rfl GW_shp GW_tl.symm
end Go.Proofs.YtbnohmfapmeaaaaGreatDoor.AM

set_option linter.unusedVariables false
set_option linter.unusedSimpArgs false
set_option maxRecDepth 100000
set_option maxHeartbeats 4000000
set_option cbv.maxSteps 3000000
namespace Go.Proofs.YtbnohmfapmeaaaaGreatDoor.AM
/- Findings; conditions: none. -/
structure Fdg where
  p : Int
  u : Int
  l : Int
deriving Inhabited
def rowsD (H : Hold) (L : Unit → List Fdg) (j : Nat) : List AV := [.lit (.int .i64 (H Int fun _ => ((L ()).getD j default).p)), .lit (.int .i64 (H Int fun _ => ((L ()).getD j default).u)), .lit (.int .i64 (H Int fun _ => ((L ()).getD j default).l))]
theorem Fdg.eta (a : Fdg) : (⟨a.p, a.u, a.l⟩ : Fdg) = a := rfl
theorem Plain_rowsD (n : Nat) (H : Hold) (L : Unit → List Fdg) : Plain n (rowsD H L) = True := eq_true ⟨fun j _ x hx => by simp [rowsD] at hx; rcases hx with rfl | rfl | rfl <;> rfl⟩
def eqrD (a b : Fdg) : Bool := allT [fun _ => a.p == b.p, fun _ => a.u == b.u, fun _ => a.l == b.l]
theorem eqrD_iff {a b : Fdg} : eqrD a b = true ↔ a = b := by
  obtain ⟨a0, a1, a2⟩ := a; obtain ⟨b0, b1, b2⟩ := b
  simp [eqrD, allT, and_assoc]
instance : DecidableEq Fdg := fun a b => decidable_of_iff (eqrD a b = true) eqrD_iff
end Go.Proofs.YtbnohmfapmeaaaaGreatDoor.AM

set_option linter.unusedVariables false
set_option linter.unusedSimpArgs false
set_option maxRecDepth 100000
set_option maxHeartbeats 4000000
set_option cbv.maxSteps 3000000
namespace Go.Proofs.YtbnohmfapmeaaaaGreatDoor.AM
/- Findings drawn; conditions: none. -/
structure Sz (n : Nat) (l : List ByteArray) : Prop where
  le : ∀ s ∈ l, s.size ≤ n
theorem Sz.at {n : Nat} {l : List ByteArray} (h : Sz n l) (j : Nat) : (l.getD j ByteArray.empty).size ≤ n := by
  rcases Nat.lt_or_ge j l.length with g | g
  · rw [List.getD_eq_getElem?_getD, List.getElem?_eq_getElem g, Option.getD_some]
    exact h.le _ (List.getElem_mem g)
  · rw [List.getD_eq_getElem?_getD, List.getElem?_eq_none g, Option.getD_none]
    exact Nat.zero_le _
theorem hs {H : Hold} (hH : H = stdH) (x : ByteArray) : (H ByteArray fun _ => x) = x := by subst hH; rfl
theorem hb {H : Hold} (hH : H = stdH) (x : Bool) : (H Bool fun _ => x) = x := by subst hH; rfl
end Go.Proofs.YtbnohmfapmeaaaaGreatDoor.AM

set_option linter.unusedVariables false
set_option linter.unusedSimpArgs false
set_option maxRecDepth 100000
set_option maxHeartbeats 4000000
set_option cbv.maxSteps 3000000
namespace Go.Proofs.YtbnohmfapmeaaaaGreatDoor.AM
/- Registers are drawn; conditions: none. -/
theorem rows_snocW {L : List Grt} {g : Grt} : RowsEq 18 (L ++ [g]).length (rowsW stdH fun _ => L ++ [g]) (L.length + 1) (app L.length (rowsW stdH fun _ => L) (rowsOf 18 (rowW.cells stdH fun _ => g))) := by
  have := GW_eq (l := L) (g := g)
  unfold GW at this
  rw [dr0] at this
  exact this
end Go.Proofs.YtbnohmfapmeaaaaGreatDoor.AM

