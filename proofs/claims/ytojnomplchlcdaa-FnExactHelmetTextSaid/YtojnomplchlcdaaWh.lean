/- Contracts and lemmas (Wh) for the laws of this seat: what the Go functions named here return, for all arguments that each theorem states; no further conditions. -/
import Derived.Test.YtojnomplchlcdaaM1
import Derived.Test.YtojnomplchlcdaaUp
import Derived.Test.YtojnomplchlcdaaWa
import Derived.Test.YtojnomplchlcdaaRows
import Derived.Deep.RegionWith
import Derived.Deep.RegionHeld3
import Derived.WalkKit
import Derived.ProofKit
import Derived.OpenShut
import Derived.WalkLawsBesides
import Derived.Lib.Hide
import Derived.Deep.QuietTactic
import Derived.BigQuiet
import Derived.Deep.Light
namespace Go.Proofs.Ytojnomplchlcdaa
open Go.ChangeShapes Go.WideShapes Go.ChangeAt Go.RowKit
set_option linter.unusedVariables false
set_option linter.unusedSimpArgs false

theorem c_l22Helmets (w : World) : Calls Try.prog 24 #[] w fun e w' => e = .returned (.slice (some ⟨w.heap.size, 0, none⟩) 6 6) ∧ w.alloc (.cells #[.string (⟨#[]⟩ : ByteArray), .string (⟨#[115, 116, 101, 101, 108, 32, 99, 108, 111, 115, 101, 100]⟩ : ByteArray), .string (⟨#[115, 116, 101, 101, 108, 32, 111, 112, 101, 110]⟩ : ByteArray), .string (⟨#[115, 105, 108, 118, 101, 114, 32, 98, 97, 114, 114, 101, 100]⟩ : ByteArray), .string (⟨#[115, 105, 108, 118, 101, 114, 32, 98, 97, 114, 114, 101, 100]⟩ : ByteArray), .string (⟨#[103, 111, 108, 100, 32, 98, 97, 114, 114, 101, 100]⟩ : ByteArray)] 9) = w' := by
  go_enter Try.func24, Try.ntmps24
  go_wp2
  go_ret
  exact ⟨rfl, rfl⟩

set_option maxHeartbeats 1000000 in
theorem c_sHelmetText_yes (r : Int) (h : inB r 1 5 = true) (w : World) : Calls Try.prog 10 #[.int .i64 r] w fun e w' => e = .returned (.tuple #[.string (helmW r), .int .i64 (barsW r), .bool true]) ∧ Up w w' := by
  rcases five h with rfl | rfl | rfl | rfl | rfl
  all_goals
    clear h
    go_enter Try.func10, Try.ntmps10
    go_wp2_with (go_at_call 20; refine (c_l22Rank _ _).mono ?_; rintro e w' ⟨rfl, rfl⟩)
    go_region_with (go_at_call 24; refine (c_l22Helmets _).mono ?_; rintro e w' ⟨rfl, rfl⟩)
    all_goals go_wp2
    all_goals go_ret3
    all_goals exact ⟨rfl, by (repeat (first | (with_reducible exact Up.refl _) | (with_reducible assumption) | (with_reducible refine Up.alloc ?_ _) | (with_reducible refine Up.drew ?_) | (with_reducible refine Up.store ?_ ?_ _) | (with_reducible refine Up.trans ?_ (by assumption)) | (exact Nat.le_refl _) | (exact Nat.le_add_right _ _) | (go_light; omega)))⟩
theorem c_sHelmetText_no (r : Int) (h : inB r 1 5 = false) (w : World) : Calls Try.prog 10 #[.int .i64 r] w fun e w' => e = .returned (.tuple #[.string (⟨#[]⟩ : ByteArray), .int .i64 0, .bool false]) ∧ w = w' := by
  go_enter Try.func10, Try.ntmps10
  go_wp2_with (go_at_call 20; refine (c_l22Rank _ _).mono ?_; rintro e w' ⟨rfl, rfl⟩)
  go_ret3
  exact ⟨rfl, rfl⟩

theorem c_helmet (r : Int) (h : inB r 1 5 = true) (w : World) : Calls Try.prog 25 #[.int .i64 r] w fun e w' => e = .returned (.string (helmW r)) ∧ w.alloc (.cells #[.string (⟨#[115, 116, 101, 101, 108, 32, 99, 108, 111, 115, 101, 100]⟩ : ByteArray), .string (⟨#[115, 116, 101, 101, 108, 32, 111, 112, 101, 110]⟩ : ByteArray), .string (⟨#[115, 105, 108, 118, 101, 114, 32, 98, 97, 114, 114, 101, 100]⟩ : ByteArray), .string (⟨#[115, 105, 108, 118, 101, 114, 32, 98, 97, 114, 114, 101, 100]⟩ : ByteArray), .string (⟨#[103, 111, 108, 100, 32, 98, 97, 114, 114, 101, 100]⟩ : ByteArray)] 9) = w' := by
  rcases five h with rfl | rfl | rfl | rfl | rfl
  all_goals
    clear h
    go_enter Try.func25, Try.ntmps25
    go_wp2
    go_ret
    exact ⟨rfl, rfl⟩
theorem c_HelmetText_no (r : Int) (h : inB r 1 5 = false) (w : World) : Calls Try.prog 11 #[.int .i64 r] w fun e w' => e = .returned (.tuple #[.string (⟨#[]⟩ : ByteArray), .int .i64 0, .bool false]) ∧ w = w' := by
  go_enter Try.func11, Try.ntmps11
  go_wp2_with (go_at_call 22; refine (c_isRank _ _).mono ?_; rintro e w' ⟨rfl, rfl⟩)
  go_ret3
  exact ⟨rfl, rfl⟩
set_option maxHeartbeats 2000000 in
theorem c_HelmetText_yes (r : Int) (h : inB r 1 5 = true) (w : World) : Calls Try.prog 11 #[.int .i64 r] w fun e w' => e = .returned (.tuple #[.string (helmW r), .int .i64 (barsW r), .bool true]) ∧ Up w w' := by
  rcases five h with rfl | rfl | rfl | rfl | rfl
  all_goals
    go_enter Try.func11, Try.ntmps11
    go_wp2_with (go_at_call 22; refine (c_isRank _ _).mono ?_; rintro e w' ⟨rfl, rfl⟩)
    go_region_with (go_at_call 25; refine (c_helmet _ h _).mono ?_; rintro e w' ⟨rfl, rfl⟩)
    all_goals go_wp2
    all_goals go_ret3
    all_goals exact ⟨rfl, by (repeat (first | (with_reducible exact Up.refl _) | (with_reducible assumption) | (with_reducible refine Up.alloc ?_ _) | (with_reducible refine Up.drew ?_) | (with_reducible refine Up.store ?_ ?_ _) | (with_reducible refine Up.trans ?_ (by assumption)) | (exact Nat.le_refl _) | (exact Nat.le_add_right _ _) | (go_light; omega)))⟩

end Go.Proofs.Ytojnomplchlcdaa
