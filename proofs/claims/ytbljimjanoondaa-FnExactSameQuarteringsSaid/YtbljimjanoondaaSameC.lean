/- Contracts and lemmas (SameC) for the laws of this seat: what the Go functions named here return, for all arguments that each theorem states; no further conditions. -/
import Derived.Test.YtbljimjanoondaaData
import Derived.Test.YtbljimjanoondaaEq
import Derived.Test.YtbljimjanoondaaMem
import Derived.Test.YtbljimjanoondaaMemA
import Derived.Test.YtbljimjanoondaaMemB
import Derived.Test.YtbljimjanoondaaOpen
import Derived.Test.YtbljimjanoondaaSame
import Derived.Test.YtbljimjanoondaaUp
import Derived.Test.YtbljimjanoondaaWq
import Derived.Test.YtbljimjanoondaaRows
import Derived.WalkKit
import Derived.ProofKit
import Derived.OpenShut
import Derived.WalkLawsBesides
import Derived.Lib.Hide
import Derived.Deep.QuietTactic
import Derived.BigQuiet
import Derived.Deep.Light
import Derived.Handy
namespace Go.Proofs.Ytbljimjanoondaa
set_option maxRecDepth 100000
open Go.ChangeShapes Go.WideShapes Go.ChangeAt Go.RowKit
set_option linter.unusedVariables false
set_option linter.unusedSimpArgs false

set_option maxHeartbeats 1000000 in
theorem c_same1 (bx : Nat) (B : Option Addr) (cb : Nat) (lb : List Arms) (X : Arms) (w : World) (hc : w.cell? ⟨bx, 0, none⟩ = some (.slice B lb.length cb)) (hs : Rd w 15 Arms.cells B cb lb) :
    Calls Try.prog 55 #[.agg X.arr, .pointer (some ⟨bx, 0, none⟩)] w fun e w' => e = .returned (.bool (!decide (X ∈ lb))) ∧ Up w w' := by
  have hb := box_range (Up.refl (w.alloc (.cells X.arr 44)))
  have hlt : bx < w.heap.size := World.block_lt_of_cell? w _ hc
  go_enter Try.func55, Try.ntmps55
  go_wp2_with (first | (refine wpList_load_agg 44 _ rfl rfl _ _ rfl X.arr _ hb Try.underlying44 rfl infoA ?_) | (go_at_call 56; refine (c_ContainsA _ _ lb _ _ (hs.up (by (repeat (first | (with_reducible exact Up.refl _) | (with_reducible assumption) | (with_reducible refine Up.alloc ?_ _) | (with_reducible refine Up.drew ?_) | (with_reducible refine Up.drewN ?_ _) | (with_reducible refine Up.store ?_ ?_ _) | (with_reducible refine Up.trans ?_ (by assumption)) | (exact Nat.le_refl _) | (exact Nat.le_add_right _ _) | (go_light; omega)))))).mono ?_; rintro e w1 ⟨rfl, hb1⟩))
  go_ret
  exact ⟨rfl, by (repeat (first | (with_reducible exact Up.refl _) | (with_reducible assumption) | (with_reducible refine Up.alloc ?_ _) | (with_reducible refine Up.drew ?_) | (with_reducible refine Up.drewN ?_ _) | (with_reducible refine Up.store ?_ ?_ _) | (with_reducible refine Up.trans ?_ (by assumption)) | (exact Nat.le_refl _) | (exact Nat.le_add_right _ _) | (go_light; omega)))⟩
theorem ask_same1 (bx : Nat) (B : Option Addr) (cb : Nat) (lb : List Arms) : AskA 55 #[.pointer (some ⟨bx, 0, none⟩)] (fun X => !decide (X ∈ lb)) (fun w => w.cell? ⟨bx, 0, none⟩ = some (.slice B lb.length cb) ∧ Rd w 15 Arms.cells B cb lb) :=
  ⟨Try.f55, Try.func55, by kernel_rfl, by kernel_rfl, fun _ _ h hup => ⟨hup.cell h.1, h.2.up hup⟩, fun X w h => c_same1 bx B cb lb X w h.1 h.2⟩

end Go.Proofs.Ytbljimjanoondaa
