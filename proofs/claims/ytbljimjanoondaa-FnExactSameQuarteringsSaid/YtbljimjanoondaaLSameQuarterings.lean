/- Contracts and lemmas (LSameQuarterings) for the laws of this seat: what the Go functions named here return, for all arguments that each theorem states; no further conditions. -/
import Derived.Test.YtbljimjanoondaaData
import Derived.Test.YtbljimjanoondaaEqL
import Derived.Test.YtbljimjanoondaaLawA
import Derived.Test.YtbljimjanoondaaMem
import Derived.Test.YtbljimjanoondaaMemA
import Derived.Test.YtbljimjanoondaaOpen
import Derived.Test.YtbljimjanoondaaSame
import Derived.Test.YtbljimjanoondaaSameC
import Derived.Test.YtbljimjanoondaaSameI
import Derived.Test.YtbljimjanoondaaSameN
import Derived.Test.YtbljimjanoondaaUp
import Derived.Test.YtbljimjanoondaaRows
import Derived.WalkKit
import Derived.ProofKit
import Derived.OpenShut
import Derived.WalkLawsBesides
import Derived.Lib.Hide
import Derived.Deep.QuietTactic
import Derived.BigQuiet
import Derived.Deep.Light
import Derived.Handy
namespace Go.Proofs.Ytbljimjanoondaa
set_option maxRecDepth 100000
open Go.ChangeShapes Go.WideShapes Go.ChangeAt Go.RowKit
set_option linter.unusedVariables false
set_option linter.unusedSimpArgs false

set_option maxHeartbeats 2000000 in
theorem walk_Same (la lb : List Arms) (r b : Bool)
    (hsp : ∀ (A B : Option Addr) (ca cb : Nat) (w : World), Rd w 15 Arms.cells A ca la → Rd w 15 Arms.cells B cb lb → Calls Try.prog 20 #[.slice A la.length ca, .slice B lb.length cb] w fun e w' => e = .returned (.tuple #[.bool r, .bool b]) ∧ Up w w')
    (him : ∀ (A B : Option Addr) (ca cb : Nat) (w : World), Rd w 15 Arms.cells A ca la → Rd w 15 Arms.cells B cb lb → Calls Try.prog 21 #[.slice A la.length ca, .slice B lb.length cb] w fun e w' => e = .returned (.tuple #[.bool r, .bool b]) ∧ Up w w')
    (w : World) (A B : Option Addr) (ca cb : Nat) (hr : Rd w 15 Arms.cells A ca la) (hs : Rd w 15 Arms.cells B cb lb) (hl : (la.length : Int) + lb.length ≤ 1048576) :
    Calls Try.prog 5 #[.slice A la.length ca, .slice B lb.length cb] w fun e w' => e = .returned (.bool true) ∧ Up w w' := by
  have HSP := Lib.hid hsp
  have HIM := Lib.hid him
  have HL := Lib.hid hl
  have h0 : 0 ≤ (1048576 : Int) - la.length := by omega
  have h1 : 0 ≤ (1048576 : Int) - la.length - lb.length := by omega
  have hm0 : la.length ≤ 9223372036854775807 := by omega
  have hm1 : lb.length ≤ 9223372036854775807 := by omega
  clear hsp him hl
  cases r <;> cases b
  all_goals
    go_enter Try.func5, Try.ntmps5
    go_wp2_with fail
    (with_reducible refine (c_szArmsS_yes A ca la _ _ (by decide) hm0 (by have := HL.out; omega)).mono ?_); rintro e wa ⟨rfl, hba⟩
    go_wp2_with fail
    (with_reducible refine (c_szArmsS_yes B cb lb _ _ (by have := HL.out; omega) hm1 (by have := HL.out; omega)).mono ?_); rintro e wb ⟨rfl, hbb⟩
    go_wp2_with fail; (with_reducible refine (c_toArmsS A ca la _ (hr.up (by (repeat (first | (with_reducible exact Up.refl _) | (with_reducible assumption) | (with_reducible refine Up.alloc ?_ _) | (with_reducible refine Up.drew ?_) | (with_reducible refine Up.drewN ?_ _) | (with_reducible refine Up.store ?_ ?_ _) | (with_reducible refine Up.trans ?_ (by assumption)) | (exact Nat.le_refl _) | (exact Nat.le_add_right _ _) | (go_light; omega))))) (by have := HL.out; omega)).mono ?_); rintro e w2 ⟨g2, c2, rfl, ho2, hb2⟩
    go_wp2_with fail; (with_reducible refine (c_toArmsS B cb lb _ (hs.up (by (repeat (first | (with_reducible exact Up.refl _) | (with_reducible assumption) | (with_reducible refine Up.alloc ?_ _) | (with_reducible refine Up.drew ?_) | (with_reducible refine Up.drewN ?_ _) | (with_reducible refine Up.store ?_ ?_ _) | (with_reducible refine Up.trans ?_ (by assumption)) | (exact Nat.le_refl _) | (exact Nat.le_add_right _ _) | (go_light; omega))))) (by have := HL.out; omega)).mono ?_); rintro e w3 ⟨g3, c3, rfl, ho3, hb3⟩
    go_wp2_with fail
    (with_reducible refine (HSP.out _ _ _ _ _ ((ho2.rd Arms.cells_length).up (by (repeat (first | (with_reducible exact Up.refl _) | (with_reducible assumption) | (with_reducible refine Up.alloc ?_ _) | (with_reducible refine Up.drew ?_) | (with_reducible refine Up.drewN ?_ _) | (with_reducible refine Up.store ?_ ?_ _) | (with_reducible refine Up.trans ?_ (by assumption)) | (exact Nat.le_refl _) | (exact Nat.le_add_right _ _) | (go_light; omega))))) (ho3.rd Arms.cells_length)).mono ?_); rintro e wS ⟨rfl, hbS⟩
    go_wp2_with fail; (with_reducible refine (c_toArmsS A ca la _ (hr.up (by (repeat (first | (with_reducible exact Up.refl _) | (with_reducible assumption) | (with_reducible refine Up.alloc ?_ _) | (with_reducible refine Up.drew ?_) | (with_reducible refine Up.drewN ?_ _) | (with_reducible refine Up.store ?_ ?_ _) | (with_reducible refine Up.trans ?_ (by assumption)) | (exact Nat.le_refl _) | (exact Nat.le_add_right _ _) | (go_light; omega))))) (by have := HL.out; omega)).mono ?_); rintro e w4 ⟨g4, c4, rfl, ho4, hb4⟩
    go_wp2_with fail; (with_reducible refine (c_toArmsS B cb lb _ (hs.up (by (repeat (first | (with_reducible exact Up.refl _) | (with_reducible assumption) | (with_reducible refine Up.alloc ?_ _) | (with_reducible refine Up.drew ?_) | (with_reducible refine Up.drewN ?_ _) | (with_reducible refine Up.store ?_ ?_ _) | (with_reducible refine Up.trans ?_ (by assumption)) | (exact Nat.le_refl _) | (exact Nat.le_add_right _ _) | (go_light; omega))))) (by have := HL.out; omega)).mono ?_); rintro e w5 ⟨g5, c5, rfl, ho5, hb5⟩
    go_wp2_with fail
    (with_reducible refine (HIM.out _ _ _ _ _ ((ho4.rd Arms.cells_length).up (by (repeat (first | (with_reducible exact Up.refl _) | (with_reducible assumption) | (with_reducible refine Up.alloc ?_ _) | (with_reducible refine Up.drew ?_) | (with_reducible refine Up.drewN ?_ _) | (with_reducible refine Up.store ?_ ?_ _) | (with_reducible refine Up.trans ?_ (by assumption)) | (exact Nat.le_refl _) | (exact Nat.le_add_right _ _) | (go_light; omega))))) (ho5.rd Arms.cells_length)).mono ?_); rintro e wI ⟨rfl, hbI⟩
    go_wp2_with fail; (with_reducible refine (c_toArmsS A ca la _ (hr.up (by (repeat (first | (with_reducible exact Up.refl _) | (with_reducible assumption) | (with_reducible refine Up.alloc ?_ _) | (with_reducible refine Up.drew ?_) | (with_reducible refine Up.drewN ?_ _) | (with_reducible refine Up.store ?_ ?_ _) | (with_reducible refine Up.trans ?_ (by assumption)) | (exact Nat.le_refl _) | (exact Nat.le_add_right _ _) | (go_light; omega))))) (by have := HL.out; omega)).mono ?_); rintro e w6 ⟨g6, c6, rfl, ho6, hb6⟩
    go_wp2_with fail
    (with_reducible refine (c_eqArmsS _ _ _ _ la _ ((ho4.rd Arms.cells_length).up (by (repeat (first | (with_reducible exact Up.refl _) | (with_reducible assumption) | (with_reducible refine Up.alloc ?_ _) | (with_reducible refine Up.drew ?_) | (with_reducible refine Up.drewN ?_ _) | (with_reducible refine Up.store ?_ ?_ _) | (with_reducible refine Up.trans ?_ (by assumption)) | (exact Nat.le_refl _) | (exact Nat.le_add_right _ _) | (go_light; omega))))) (ho6.rd Arms.cells_length)).mono ?_); rintro e w7 ⟨rfl, hb7⟩
    go_wp2_with fail; (with_reducible refine (c_toArmsS B cb lb _ (hs.up (by (repeat (first | (with_reducible exact Up.refl _) | (with_reducible assumption) | (with_reducible refine Up.alloc ?_ _) | (with_reducible refine Up.drew ?_) | (with_reducible refine Up.drewN ?_ _) | (with_reducible refine Up.store ?_ ?_ _) | (with_reducible refine Up.trans ?_ (by assumption)) | (exact Nat.le_refl _) | (exact Nat.le_add_right _ _) | (go_light; omega))))) (by have := HL.out; omega)).mono ?_); rintro e w8 ⟨g8, c8, rfl, ho8, hb8⟩
    go_wp2_with fail
    (with_reducible refine (c_eqArmsS _ _ _ _ lb _ ((ho5.rd Arms.cells_length).up (by (repeat (first | (with_reducible exact Up.refl _) | (with_reducible assumption) | (with_reducible refine Up.alloc ?_ _) | (with_reducible refine Up.drew ?_) | (with_reducible refine Up.drewN ?_ _) | (with_reducible refine Up.store ?_ ?_ _) | (with_reducible refine Up.trans ?_ (by assumption)) | (exact Nat.le_refl _) | (exact Nat.le_add_right _ _) | (go_light; omega))))) (ho8.rd Arms.cells_length)).mono ?_); rintro e w9 ⟨rfl, hb9⟩
    go_wp2_with fail
    go_ret
    exact ⟨rfl, by (repeat (first | (with_reducible exact Up.refl _) | (with_reducible assumption) | (with_reducible refine Up.alloc ?_ _) | (with_reducible refine Up.drew ?_) | (with_reducible refine Up.drewN ?_ _) | (with_reducible refine Up.store ?_ ?_ _) | (with_reducible refine Up.trans ?_ (by assumption)) | (exact Nat.le_refl _) | (exact Nat.le_add_right _ _) | (go_light; omega)))⟩

theorem w_SameQuarterings (w : World) (A : Option Addr) (ca : Nat) (la : List Arms) (hr : Rd w 15 Arms.cells A ca la) (hg : ∀ a ∈ la, a.wf) (B : Option Addr) (cb : Nat) (lb : List Arms) (hs : Rd w 15 Arms.cells B cb lb) (hg2 : ∀ a ∈ lb, a.wf) :
    Calls Try.prog 5 #[.slice A la.length ca, .slice B lb.length cb] w fun e w' => e = .returned (.bool true) ∧ Up w w' := by
  have hm0 : la.length ≤ 9223372036854775807 := by have h1 := hr.le; have h2 := hr.max; unfold maxLen at h2; omega
  have hm1 : lb.length ≤ 9223372036854775807 := by have h1 := hs.le; have h2 := hs.max; unfold maxLen at h2; omega
  clear hg hg2
  by_cases hl : (la.length : Int) ≤ 1048576
  · by_cases hl2 : (la.length : Int) + lb.length ≤ 1048576
    · cases h : goodQ la && goodQ lb with
      | true =>
        obtain ⟨h1, h2⟩ : goodQ la = true ∧ goodQ lb = true := by simpa using h
        exact walk_Same la lb _ true (fun A B ca cb w hr hs => c_sSame_yes A B ca cb la lb h1 h2 w hr hs) (fun A B ca cb w hr hs => c_Same_yes A B ca cb la lb h1 h2 w hr hs) w A B ca cb hr hs hl2
      | false => exact walk_Same la lb false false (fun A B ca cb w hr hs => c_sSame_no A B ca cb la lb h w hr hs) (fun A B ca cb w hr hs => c_Same_no A B ca cb la lb h w hr hs) w A B ca cb hr hs hl2
    · have h0 : 0 ≤ (1048576 : Int) - la.length := by omega
      have HL := Lib.hid hl
      have HL2 := Lib.hid hl2
      clear hl hl2
      go_enter Try.func5, Try.ntmps5
      go_wp2_with fail
      (with_reducible refine (c_szArmsS_yes A ca la _ _ (by decide) hm0 HL.out).mono ?_); rintro e wa ⟨rfl, hba⟩
      go_wp2_with fail
      (with_reducible refine (c_szArmsS_no B cb lb _ _ (by have := HL.out; omega) hm1 (by have := HL2.out; omega)).mono ?_); rintro e wb ⟨rfl, hbb⟩
      go_wp2_with fail
      go_ret
      exact ⟨rfl, by (repeat (first | (with_reducible exact Up.refl _) | (with_reducible assumption) | (with_reducible refine Up.alloc ?_ _) | (with_reducible refine Up.drew ?_) | (with_reducible refine Up.drewN ?_ _) | (with_reducible refine Up.store ?_ ?_ _) | (with_reducible refine Up.trans ?_ (by assumption)) | (exact Nat.le_refl _) | (exact Nat.le_add_right _ _) | (go_light; omega)))⟩
  · go_enter Try.func5, Try.ntmps5
    go_wp2_with fail
    (with_reducible refine (c_szArmsS_no A ca la _ _ (by decide) hm0 (by omega)).mono ?_); rintro e wa ⟨rfl, hba⟩
    go_wp2_with fail
    go_ret
    exact ⟨rfl, by (repeat (first | (with_reducible exact Up.refl _) | (with_reducible assumption) | (with_reducible refine Up.alloc ?_ _) | (with_reducible refine Up.drew ?_) | (with_reducible refine Up.drewN ?_ _) | (with_reducible refine Up.store ?_ ?_ _) | (with_reducible refine Up.trans ?_ (by assumption)) | (exact Nat.le_refl _) | (exact Nat.le_add_right _ _) | (go_light; omega)))⟩

end Go.Proofs.Ytbljimjanoondaa
