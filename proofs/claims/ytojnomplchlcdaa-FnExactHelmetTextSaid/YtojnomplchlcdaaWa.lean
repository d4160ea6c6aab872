/- Contracts and lemmas (Wa) for the laws of this seat: what the Go functions named here return, for all arguments that each theorem states; no further conditions. -/
import Derived.Test.YtojnomplchlcdaaM1
import Derived.Test.YtojnomplchlcdaaUp
import Derived.Test.YtojnomplchlcdaaRows
import Derived.WalkKit
import Derived.ProofKit
import Derived.OpenShut
import Derived.WalkLawsBesides
import Derived.Lib.Hide
import Derived.Deep.QuietTactic
import Derived.BigQuiet
import Derived.Deep.Light
namespace Go.Proofs.Ytojnomplchlcdaa
open Go.ChangeShapes Go.WideShapes Go.ChangeAt Go.RowKit
set_option linter.unusedVariables false
set_option linter.unusedSimpArgs false

theorem c_l1In (x a b : Int) (w : World) : Calls Try.prog 26 #[.int .i64 x, .int .i64 a, .int .i64 b] w fun e w' => e = .returned (.bool (inB x a b)) ∧ w = w' := by
  go_enter Try.func26, Try.ntmps26
  go_wp2
  all_goals go_ret
  all_goals exact ⟨by simp [inB]; omega, rfl⟩

theorem c_inside (x a b : Int) (w : World) : Calls Try.prog 28 #[.int .i64 x, .int .i64 a, .int .i64 b] w fun e w' => e = .returned (.bool (inB x a b)) ∧ w = w' := by
  go_enter Try.func28, Try.ntmps28
  go_wp2
  all_goals go_ret
  all_goals exact ⟨by simp [inB]; omega, rfl⟩

theorem c_l22Rank (r : Int) (w : World) : Calls Try.prog 20 #[.int .i64 r] w fun e w' => e = .returned (.bool (inB r 1 5)) ∧ w = w' := by
  go_enter Try.func20, Try.ntmps20
  go_wp2_with (go_at_call 26; refine (c_l1In _ _ _ _).mono ?_; rintro e w' ⟨rfl, rfl⟩)
  go_ret
  exact ⟨rfl, rfl⟩

theorem c_isRank (r : Int) (w : World) : Calls Try.prog 22 #[.int .i64 r] w fun e w' => e = .returned (.bool (inB r 1 5)) ∧ w = w' := by
  go_enter Try.func22, Try.ntmps22
  go_wp2_with (go_at_call 28; refine (c_inside _ _ _ _).mono ?_; rintro e w' ⟨rfl, rfl⟩)
  go_ret
  exact ⟨rfl, rfl⟩

theorem c_rankWord (r : Int) (h : inB r 1 5 = true) (w : World) : Calls Try.prog 23 #[.int .i64 r] w fun e w' => e = .returned (.string (rankW r)) ∧ Up w w' := by
  rcases five h with rfl | rfl | rfl | rfl | rfl
  all_goals
    clear h
    go_enter Try.func23, Try.ntmps23
    go_wp2
    go_ret
    exact ⟨rfl, by (repeat (first | (with_reducible exact Up.refl _) | (with_reducible assumption) | (with_reducible refine Up.alloc ?_ _) | (with_reducible refine Up.drew ?_) | (with_reducible refine Up.store ?_ ?_ _) | (with_reducible refine Up.trans ?_ (by assumption)) | (exact Nat.le_refl _) | (exact Nat.le_add_right _ _) | (go_light; omega)))⟩

theorem c_RankWord_no (r : Int) (h : inB r 1 5 = false) (w : World) : Calls Try.prog 9 #[.int .i64 r] w fun e w' => e = .returned (.tuple #[.string (⟨#[]⟩ : ByteArray), .bool false]) ∧ w = w' := by
  go_enter Try.func9, Try.ntmps9
  go_wp2_with (go_at_call 22; refine (c_isRank _ _).mono ?_; rintro e w' ⟨rfl, rfl⟩)
  go_ret2
  exact ⟨rfl, rfl⟩
theorem c_RankWord_yes (r : Int) (h : inB r 1 5 = true) (w : World) : Calls Try.prog 9 #[.int .i64 r] w fun e w' => e = .returned (.tuple #[.string (rankW r), .bool true]) ∧ Up w w' := by
  go_enter Try.func9, Try.ntmps9
  go_wp2_with (first | (go_at_call 22; refine (c_isRank _ _).mono ?_; rintro e w' ⟨rfl, rfl⟩) | (go_at_call 23; refine (c_rankWord _ h _).mono ?_; rintro e w1 ⟨rfl, hb⟩))
  go_ret2
  exact ⟨rfl, hb⟩

theorem c_sRankWord_no (r : Int) (h : inB r 1 5 = false) (w : World) : Calls Try.prog 8 #[.int .i64 r] w fun e w' => e = .returned (.tuple #[.string (⟨#[]⟩ : ByteArray), .bool false]) ∧ w = w' := by
  go_enter Try.func8, Try.ntmps8
  go_wp2_with (go_at_call 20; refine (c_l22Rank _ _).mono ?_; rintro e w' ⟨rfl, rfl⟩)
  go_ret2
  exact ⟨rfl, rfl⟩
theorem c_sRankWord_yes (r : Int) (h : inB r 1 5 = true) (w : World) : Calls Try.prog 8 #[.int .i64 r] w fun e w' => e = .returned (.tuple #[.string (rankW r), .bool true]) ∧ Up w w' := by
  rcases five h with rfl | rfl | rfl | rfl | rfl
  all_goals
    clear h
    go_enter Try.func8, Try.ntmps8
    go_wp2
    go_ret2
    exact ⟨rfl, by (repeat (first | (with_reducible exact Up.refl _) | (with_reducible assumption) | (with_reducible refine Up.alloc ?_ _) | (with_reducible refine Up.drew ?_) | (with_reducible refine Up.store ?_ ?_ _) | (with_reducible refine Up.trans ?_ (by assumption)) | (exact Nat.le_refl _) | (exact Nat.le_add_right _ _) | (go_light; omega)))⟩

end Go.Proofs.Ytojnomplchlcdaa
