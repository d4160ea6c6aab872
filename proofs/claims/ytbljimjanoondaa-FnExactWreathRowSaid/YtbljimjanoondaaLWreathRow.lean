/- Contracts and lemmas (LWreathRow) for the laws of this seat: what the Go functions named here return, for all arguments that each theorem states; no further conditions. -/
import Derived.Test.YtbljimjanoondaaData
import Derived.Test.YtbljimjanoondaaIntL
import Derived.Test.YtbljimjanoondaaInts
import Derived.Test.YtbljimjanoondaaLawA
import Derived.Test.YtbljimjanoondaaLawT
import Derived.Test.YtbljimjanoondaaM1
import Derived.Test.YtbljimjanoondaaMem
import Derived.Test.YtbljimjanoondaaOpen
import Derived.Test.YtbljimjanoondaaRow
import Derived.Test.YtbljimjanoondaaTinc
import Derived.Test.YtbljimjanoondaaUp
import Derived.Test.YtbljimjanoondaaWr
import Derived.Test.YtbljimjanoondaaRows
import Derived.WalkKit
import Derived.ProofKit
import Derived.OpenShut
import Derived.WalkLawsBesides
import Derived.Lib.Hide
import Derived.Deep.QuietTactic
import Derived.BigQuiet
import Derived.Deep.Light
import Derived.Handy
namespace Go.Proofs.Ytbljimjanoondaa
set_option maxRecDepth 100000
open Go.ChangeShapes Go.WideShapes Go.ChangeAt Go.RowKit
set_option linter.unusedVariables false
set_option linter.unusedSimpArgs false

set_option maxHeartbeats 2000000 in
theorem walk_WreathRow (A : Arms) (n : Int) (l : List Int) (b : Bool) (hl : l.length ≤ 20) (hs : ∀ w, Calls Try.prog 22 #[.agg A.arr, .int .i64 n] w (RetIB w l b)) (hi : ∀ w, Calls Try.prog 23 #[.agg A.arr, .int .i64 n] w (RetIB w l b)) (w : World) :
    Calls Try.prog 6 #[.agg A.arr, .int .i64 n] w fun e w' => e = .returned (.bool true) ∧ Up w w' := by
  have HS := Lib.hid hs
  have HI := Lib.hid hi
  clear hs hi
  have h1 : (0 : Int) ≤ 1 ∧ (1 : Int) ≤ 1099511627776 := by decide
  have H1 := Lib.hid h1
  clear h1
  cases b
  all_goals
    go_enter Try.func6, Try.ntmps6
    go_wp2_with (first | (refine wpList_load_agg 36 _ rfl rfl _ _ rfl A.arr _ (box_range (w := w) (t := 36) (by (repeat (first | (with_reducible exact Up.refl _) | (with_reducible assumption) | (with_reducible refine Up.alloc ?_ _) | (with_reducible refine Up.drew ?_) | (with_reducible refine Up.drewN ?_ _) | (with_reducible refine Up.store ?_ ?_ _) | (with_reducible refine Up.trans ?_ (by assumption)) | (exact Nat.le_refl _) | (exact Nat.le_add_right _ _) | (go_light; omega))))) Try.underlying36 rfl infoLA ?_) | (go_at_call 18; refine (c_toArms A _).mono ?_; rintro e w1 ⟨rfl, hb1⟩))
    (with_reducible refine (HS.out _).mono ?_); rintro e wS ⟨AS, cS, rfl, hoS, hbS⟩
    go_wp2_with (first | (refine wpList_load_agg 36 _ rfl rfl _ _ rfl A.arr _ (box_range (w := w) (t := 36) (by (repeat (first | (with_reducible exact Up.refl _) | (with_reducible assumption) | (with_reducible refine Up.alloc ?_ _) | (with_reducible refine Up.drew ?_) | (with_reducible refine Up.drewN ?_ _) | (with_reducible refine Up.store ?_ ?_ _) | (with_reducible refine Up.trans ?_ (by assumption)) | (exact Nat.le_refl _) | (exact Nat.le_add_right _ _) | (go_light; omega))))) Try.underlying36 rfl infoLA ?_) | (go_at_call 18; refine (c_toArms A _).mono ?_; rintro e w1 ⟨rfl, hb1⟩))
    (with_reducible refine (HI.out _).mono ?_); rintro e wG ⟨AG, cG, rfl, hoG, hbG⟩
    go_wp2_with fail
    (with_reducible refine (c_eqIntS _ _ _ _ l _ (hoG.rd encI_len) ((hoS.rd encI_len).up (by (repeat (first | (with_reducible exact Up.refl _) | (with_reducible assumption) | (with_reducible refine Up.alloc ?_ _) | (with_reducible refine Up.drew ?_) | (with_reducible refine Up.drewN ?_ _) | (with_reducible refine Up.store ?_ ?_ _) | (with_reducible refine Up.trans ?_ (by assumption)) | (exact Nat.le_refl _) | (exact Nat.le_add_right _ _) | (go_light; omega)))))).mono ?_); rintro e wE ⟨rfl, hbE⟩
    go_wp2_with fail
    (with_reducible refine (c_markIntS AG cG l 1 _ _ _ (hoG.up (by (repeat (first | (with_reducible exact Up.refl _) | (with_reducible assumption) | (with_reducible refine Up.alloc ?_ _) | (with_reducible refine Up.drew ?_) | (with_reducible refine Up.drewN ?_ _) | (with_reducible refine Up.store ?_ ?_ _) | (with_reducible refine Up.trans ?_ (by assumption)) | (exact Nat.le_refl _) | (exact Nat.le_add_right _ _) | (go_light; omega))))) (hbG.trans (by (repeat (first | (with_reducible exact Up.refl _) | (with_reducible assumption) | (with_reducible refine Up.alloc ?_ _) | (with_reducible refine Up.drew ?_) | (with_reducible refine Up.drewN ?_ _) | (with_reducible refine Up.store ?_ ?_ _) | (with_reducible refine Up.trans ?_ (by assumption)) | (exact Nat.le_refl _) | (exact Nat.le_add_right _ _) | (go_light; omega))))) (Nat.le_refl _) H1.out (by omega)).mono ?_); rintro e wM ⟨rfl, hoM, hbM⟩
    go_wp2_with fail
    (with_reducible refine (c_heldIntS AG cG l.length 1 _ (hoM.rd encI_len) H1.out (by omega)).mono ?_); rintro e wN ⟨rfl, hbN⟩
    go_wp2_with (first | (refine wpList_load_agg 36 _ rfl rfl _ _ rfl A.arr _ (box_range (w := w) (t := 36) (by (repeat (first | (with_reducible exact Up.refl _) | (with_reducible assumption) | (with_reducible refine Up.alloc ?_ _) | (with_reducible refine Up.drew ?_) | (with_reducible refine Up.drewN ?_ _) | (with_reducible refine Up.store ?_ ?_ _) | (with_reducible refine Up.trans ?_ (by assumption)) | (exact Nat.le_refl _) | (exact Nat.le_add_right _ _) | (go_light; omega))))) Try.underlying36 rfl infoLA ?_) | (go_at_call 18; refine (c_toArms A _).mono ?_; rintro e w1 ⟨rfl, hb1⟩))
    (with_reducible refine (HI.out _).mono ?_); rintro e wH ⟨AH, cH, rfl, hoH, hbH⟩
    go_wp2_with fail
    (with_reducible refine (c_eqIntS _ _ _ _ l _ (hoH.rd encI_len) ((hoS.rd encI_len).up (by (repeat (first | (with_reducible exact Up.refl _) | (with_reducible assumption) | (with_reducible refine Up.alloc ?_ _) | (with_reducible refine Up.drew ?_) | (with_reducible refine Up.drewN ?_ _) | (with_reducible refine Up.store ?_ ?_ _) | (with_reducible refine Up.trans ?_ (by assumption)) | (exact Nat.le_refl _) | (exact Nat.le_add_right _ _) | (go_light; omega)))))).mono ?_); rintro e wI ⟨rfl, hbI⟩
    go_wp2_with fail
    (with_reducible refine (c_heldIntS AG cG l.length 1 _ ((hoM.rd encI_len).up (by (repeat (first | (with_reducible exact Up.refl _) | (with_reducible assumption) | (with_reducible refine Up.alloc ?_ _) | (with_reducible refine Up.drew ?_) | (with_reducible refine Up.drewN ?_ _) | (with_reducible refine Up.store ?_ ?_ _) | (with_reducible refine Up.trans ?_ (by assumption)) | (exact Nat.le_refl _) | (exact Nat.le_add_right _ _) | (go_light; omega))))) H1.out (by omega)).mono ?_); rintro e wJ ⟨rfl, hbJ⟩
    go_wp2_with fail
    go_ret
    exact ⟨rfl, by (repeat (first | (with_reducible exact Up.refl _) | (with_reducible assumption) | (with_reducible refine Up.alloc ?_ _) | (with_reducible refine Up.drew ?_) | (with_reducible refine Up.drewN ?_ _) | (with_reducible refine Up.store ?_ ?_ _) | (with_reducible refine Up.trans ?_ (by assumption)) | (exact Nat.le_refl _) | (exact Nat.le_add_right _ _) | (go_light; omega)))⟩
theorem w_WreathRow (A : Arms) (hA : A.wf) (n : Int) (hn : I64 n) (w : World) : Calls Try.prog 6 #[.agg A.arr, .int .i64 n] w fun e w' => e = .returned (.bool true) ∧ Up w w' := by
  cases h : goodA A && inB n 1 20 with
  | true =>
    obtain ⟨h1, h2⟩ : goodA A = true ∧ inB n 1 20 = true := by simpa using h
    have h3 := inB_true h2
    obtain ⟨m, rfl⟩ := Int.eq_ofNat_of_zero_le (show 0 ≤ n by omega)
    exact walk_WreathRow A m _ true (by rw [rowOf_len]; omega) (fun w => c_sWreathRow_yes A m h1 h2 w) (fun w => c_WreathRow_yes A m h1 h2 w) w
  | false => exact walk_WreathRow A n [] false (by simp) (fun w => c_sWreathRow_no A n h w) (fun w => c_WreathRow_no A n h w) w

end Go.Proofs.Ytbljimjanoondaa
