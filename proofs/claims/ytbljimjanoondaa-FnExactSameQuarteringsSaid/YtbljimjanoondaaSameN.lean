/- Contracts and lemmas (SameN) for the laws of this seat: what the Go functions named here return, for all arguments that each theorem states; no further conditions. -/
import Derived.Test.YtbljimjanoondaaData
import Derived.Test.YtbljimjanoondaaEq
import Derived.Test.YtbljimjanoondaaMem
import Derived.Test.YtbljimjanoondaaMemA
import Derived.Test.YtbljimjanoondaaMemB
import Derived.Test.YtbljimjanoondaaOpen
import Derived.Test.YtbljimjanoondaaSame
import Derived.Test.YtbljimjanoondaaUp
import Derived.Test.YtbljimjanoondaaWq
import Derived.Test.YtbljimjanoondaaRows
import Derived.WalkKit
import Derived.ProofKit
import Derived.OpenShut
import Derived.WalkLawsBesides
import Derived.Lib.Hide
import Derived.Deep.QuietTactic
import Derived.BigQuiet
import Derived.Deep.Light
import Derived.Handy
namespace Go.Proofs.Ytbljimjanoondaa
set_option maxRecDepth 100000
open Go.ChangeShapes Go.WideShapes Go.ChangeAt Go.RowKit
set_option linter.unusedVariables false
set_option linter.unusedSimpArgs false

set_option maxHeartbeats 2000000 in
theorem c_sSame_no (A B : Option Addr) (ca cb : Nat) (la lb : List Arms) (h : (goodQ la && goodQ lb) = false) (w : World) (hr : Rd w 15 Arms.cells A ca la) (hs : Rd w 15 Arms.cells B cb lb) :
    Calls Try.prog 20 #[.slice A la.length ca, .slice B lb.length cb] w fun e w' => e = .returned (.tuple #[.bool false, .bool false]) ∧ Up w w' := by
  cases ha : goodQ la
  · clear h
    go_enter Try.func20, Try.ntmps20
    go_wp2_with fail
    (with_reducible refine (c_l21Good _ _ la _ (hr.up (by (repeat (first | (with_reducible exact Up.refl _) | (with_reducible assumption) | (with_reducible refine Up.alloc ?_ _) | (with_reducible refine Up.drew ?_) | (with_reducible refine Up.drewN ?_ _) | (with_reducible refine Up.store ?_ ?_ _) | (with_reducible refine Up.trans ?_ (by assumption)) | (exact Nat.le_refl _) | (exact Nat.le_add_right _ _) | (go_light; omega)))))).mono ?_); rintro e w0 ⟨rfl, hb0⟩
    go_wp2_with fail
    go_ret2
    exact ⟨rfl, by (repeat (first | (with_reducible exact Up.refl _) | (with_reducible assumption) | (with_reducible refine Up.alloc ?_ _) | (with_reducible refine Up.drew ?_) | (with_reducible refine Up.drewN ?_ _) | (with_reducible refine Up.store ?_ ?_ _) | (with_reducible refine Up.trans ?_ (by assumption)) | (exact Nat.le_refl _) | (exact Nat.le_add_right _ _) | (go_light; omega)))⟩
  · have hb : goodQ lb = false := by simpa [ha] using h
    clear h
    go_enter Try.func20, Try.ntmps20
    go_wp2_with fail
    (with_reducible refine (c_l21Good _ _ la _ (hr.up (by (repeat (first | (with_reducible exact Up.refl _) | (with_reducible assumption) | (with_reducible refine Up.alloc ?_ _) | (with_reducible refine Up.drew ?_) | (with_reducible refine Up.drewN ?_ _) | (with_reducible refine Up.store ?_ ?_ _) | (with_reducible refine Up.trans ?_ (by assumption)) | (exact Nat.le_refl _) | (exact Nat.le_add_right _ _) | (go_light; omega)))))).mono ?_); rintro e w0 ⟨rfl, hb0⟩
    go_wp2_with fail
    (with_reducible refine (c_l21Good _ _ lb _ (hs.up (by (repeat (first | (with_reducible exact Up.refl _) | (with_reducible assumption) | (with_reducible refine Up.alloc ?_ _) | (with_reducible refine Up.drew ?_) | (with_reducible refine Up.drewN ?_ _) | (with_reducible refine Up.store ?_ ?_ _) | (with_reducible refine Up.trans ?_ (by assumption)) | (exact Nat.le_refl _) | (exact Nat.le_add_right _ _) | (go_light; omega)))))).mono ?_); rintro e w1 ⟨rfl, hb1⟩
    go_wp2_with fail
    go_ret2
    exact ⟨rfl, by (repeat (first | (with_reducible exact Up.refl _) | (with_reducible assumption) | (with_reducible refine Up.alloc ?_ _) | (with_reducible refine Up.drew ?_) | (with_reducible refine Up.drewN ?_ _) | (with_reducible refine Up.store ?_ ?_ _) | (with_reducible refine Up.trans ?_ (by assumption)) | (exact Nat.le_refl _) | (exact Nat.le_add_right _ _) | (go_light; omega)))⟩

end Go.Proofs.Ytbljimjanoondaa
