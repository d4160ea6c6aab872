/- Contracts and lemmas (Wa) for the laws of this seat: what the Go functions named here return, for all arguments that each theorem states; no further conditions. -/
import Derived.Test.YtnniiphfbjbjdaaM1
import Derived.Test.YtnniiphfbjbjdaaRows
import Derived.WalkKit
import Derived.ProofKit
import Derived.OpenShut
import Derived.WalkLawsBesides
import Derived.Lib.Hide
import Derived.Deep.QuietTactic
import Derived.BigQuiet
import Derived.Deep.Light
import Derived.Handy
namespace Go.Proofs.Ytnniiphfbjbjdaa
set_option maxRecDepth 100000
open Go.ChangeShapes Go.WideShapes Go.ChangeAt Go.RowKit
set_option linter.unusedVariables false
set_option linter.unusedSimpArgs false

theorem c_l1In (x a b : Int) (w : World) : Calls Try.prog 128 #[.int .i64 x, .int .i64 a, .int .i64 b] w fun e w' => e = .returned (.bool (inB x a b)) ∧ w = w' := by
  go_enter Try.func128, Try.ntmps128
  go_wp2
  all_goals go_ret
  all_goals exact ⟨by simp [inB]; omega, rfl⟩

theorem c_inside (x a b : Int) (w : World) : Calls Try.prog 125 #[.int .i64 x, .int .i64 a, .int .i64 b] w fun e w' => e = .returned (.bool (inB x a b)) ∧ w = w' := by
  go_enter Try.func125, Try.ntmps125
  go_wp2
  all_goals go_ret
  all_goals exact ⟨by simp [inB]; omega, rfl⟩

theorem c_l22Rank (r : Int) (w : World) : Calls Try.prog 228 #[.int .i64 r] w fun e w' => e = .returned (.bool (inB r 1 5)) ∧ w = w' := by
  go_enter Try.func228, Try.ntmps228
  go_wp2_with (go_at_call 128; refine (c_l1In _ _ _ _).mono ?_; rintro e w' ⟨rfl, rfl⟩)
  go_ret
  exact ⟨rfl, rfl⟩

theorem c_isRank (r : Int) (w : World) : Calls Try.prog 226 #[.int .i64 r] w fun e w' => e = .returned (.bool (inB r 1 5)) ∧ w = w' := by
  go_enter Try.func226, Try.ntmps226
  go_wp2_with (go_at_call 125; refine (c_inside _ _ _ _).mono ?_; rintro e w' ⟨rfl, rfl⟩)
  go_ret
  exact ⟨rfl, rfl⟩

end Go.Proofs.Ytnniiphfbjbjdaa
