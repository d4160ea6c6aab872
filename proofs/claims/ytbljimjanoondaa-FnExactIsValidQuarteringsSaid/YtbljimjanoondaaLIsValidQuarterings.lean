/- Contracts and lemmas (LIsValidQuarterings) for the laws of this seat: what the Go functions named here return, for all arguments that each theorem states; no further conditions. -/
import Derived.Test.YtbljimjanoondaaData
import Derived.Test.YtbljimjanoondaaEqL
import Derived.Test.YtbljimjanoondaaLawA
import Derived.Test.YtbljimjanoondaaMemB
import Derived.Test.YtbljimjanoondaaOpen
import Derived.Test.YtbljimjanoondaaUp
import Derived.Test.YtbljimjanoondaaWq
import Derived.Test.YtbljimjanoondaaRows
import Derived.WalkKit
import Derived.ProofKit
import Derived.OpenShut
import Derived.WalkLawsBesides
import Derived.Lib.Hide
import Derived.Deep.QuietTactic
import Derived.BigQuiet
import Derived.Deep.Light
import Derived.Handy
namespace Go.Proofs.Ytbljimjanoondaa
set_option maxRecDepth 100000
open Go.ChangeShapes Go.WideShapes Go.ChangeAt Go.RowKit
set_option linter.unusedVariables false
set_option linter.unusedSimpArgs false

set_option maxHeartbeats 1000000 in
theorem w_IsValidQuarterings (w : World) (A : Option Addr) (cap : Nat) (l : List Arms) (hr : Rd w 15 Arms.cells A cap l) (hg : ∀ a ∈ l, a.wf) :
    Calls Try.prog 3 #[.slice A l.length cap] w fun e w' => e = .returned (.bool true) ∧ Up w w' := by
  have hmax : l.length ≤ 9223372036854775807 := by have h1 := hr.le; have h2 := hr.max; unfold maxLen at h2; omega
  clear hg
  by_cases hl : (l.length : Int) ≤ 1048576
  · have HL := Lib.hid hl
    have hl0 : 0 ≤ (1048576 : Int) - l.length := by omega
    clear hl
    go_enter Try.func3, Try.ntmps3
    go_wp2_with fail; (with_reducible refine (c_szArmsS_yes A cap l _ _ (by decide) hmax HL.out).mono ?_); rintro e w1 ⟨rfl, hb1⟩; have hz1 := hb1.size; (try simp only [World.size_alloc] at hz1)
    go_wp2_with fail
    go_wp2_with fail; (with_reducible refine (c_toArmsS A cap l _ (hr.up (by (repeat (first | (with_reducible exact Up.refl _) | (with_reducible assumption) | (with_reducible refine Up.alloc ?_ _) | (with_reducible refine Up.drew ?_) | (with_reducible refine Up.drewN ?_ _) | (with_reducible refine Up.store ?_ ?_ _) | (with_reducible refine Up.trans ?_ (by assumption)) | (exact Nat.le_refl _) | (exact Nat.le_add_right _ _) | (go_light; omega))))) (by have := HL.out; omega)).mono ?_); rintro e w2 ⟨g2, c2, rfl, ho2, hb2⟩
    go_wp2_with fail; (with_reducible refine (c_sIsValidQuarterings _ _ l _ (ho2.rd Arms.cells_length)).mono ?_); rintro e w3 ⟨rfl, hb3⟩; have hz3 := hb3.size; (try simp only [World.size_alloc] at hz3)
    go_wp2_with fail; (with_reducible refine (c_toArmsS A cap l _ (hr.up (by (repeat (first | (with_reducible exact Up.refl _) | (with_reducible assumption) | (with_reducible refine Up.alloc ?_ _) | (with_reducible refine Up.drew ?_) | (with_reducible refine Up.drewN ?_ _) | (with_reducible refine Up.store ?_ ?_ _) | (with_reducible refine Up.trans ?_ (by assumption)) | (exact Nat.le_refl _) | (exact Nat.le_add_right _ _) | (go_light; omega))))) (by have := HL.out; omega)).mono ?_); rintro e w4 ⟨g4, c4, rfl, ho4, hb4⟩
    go_wp2_with fail; (with_reducible refine (c_IsValidQuarterings _ _ l _ (ho4.rd Arms.cells_length)).mono ?_); rintro e w5 ⟨rfl, hb5⟩; have hz5 := hb5.size; (try simp only [World.size_alloc] at hz5)
    go_wp2_with fail; (with_reducible refine (c_toArmsS A cap l _ (hr.up (by (repeat (first | (with_reducible exact Up.refl _) | (with_reducible assumption) | (with_reducible refine Up.alloc ?_ _) | (with_reducible refine Up.drew ?_) | (with_reducible refine Up.drewN ?_ _) | (with_reducible refine Up.store ?_ ?_ _) | (with_reducible refine Up.trans ?_ (by assumption)) | (exact Nat.le_refl _) | (exact Nat.le_add_right _ _) | (go_light; omega))))) (by have := HL.out; omega)).mono ?_); rintro e w6 ⟨g6, c6, rfl, ho6, hb6⟩
    go_wp2_with fail; (with_reducible refine (c_eqArmsS _ _ _ _ l _ ((ho4.rd Arms.cells_length).up (by (repeat (first | (with_reducible exact Up.refl _) | (with_reducible assumption) | (with_reducible refine Up.alloc ?_ _) | (with_reducible refine Up.drew ?_) | (with_reducible refine Up.drewN ?_ _) | (with_reducible refine Up.store ?_ ?_ _) | (with_reducible refine Up.trans ?_ (by assumption)) | (exact Nat.le_refl _) | (exact Nat.le_add_right _ _) | (go_light; omega))))) (ho6.rd Arms.cells_length)).mono ?_); rintro e w7 ⟨rfl, hb7⟩; have hz7 := hb7.size; (try simp only [World.size_alloc] at hz7)
    go_wp2_with fail
    go_ret
    exact ⟨rfl, by (repeat (first | (with_reducible exact Up.refl _) | (with_reducible assumption) | (with_reducible refine Up.alloc ?_ _) | (with_reducible refine Up.drew ?_) | (with_reducible refine Up.drewN ?_ _) | (with_reducible refine Up.store ?_ ?_ _) | (with_reducible refine Up.trans ?_ (by assumption)) | (exact Nat.le_refl _) | (exact Nat.le_add_right _ _) | (go_light; omega)))⟩
  · go_enter Try.func3, Try.ntmps3
    go_wp2_with (go_at_call 11; refine (c_szArmsS_no A cap l _ _ (by decide) hmax hl).mono ?_; rintro e w1 ⟨rfl, hb1⟩)
    go_ret
    exact ⟨rfl, hb1⟩

end Go.Proofs.Ytbljimjanoondaa
