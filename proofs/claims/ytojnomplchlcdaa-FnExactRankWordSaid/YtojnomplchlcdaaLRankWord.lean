/- Contracts and lemmas (LRankWord) for the laws of this seat: what the Go functions named here return, for all arguments that each theorem states; no further conditions. -/
import Derived.Test.YtojnomplchlcdaaM1
import Derived.Test.YtojnomplchlcdaaOpen
import Derived.Test.YtojnomplchlcdaaUp
import Derived.Test.YtojnomplchlcdaaWa
import Derived.Test.YtojnomplchlcdaaRows
import Derived.WalkKit
import Derived.ProofKit
import Derived.OpenShut
import Derived.WalkLawsBesides
import Derived.Lib.Hide
import Derived.Deep.QuietTactic
import Derived.BigQuiet
import Derived.Deep.Light
namespace Go.Proofs.Ytojnomplchlcdaa
open Go.ChangeShapes Go.WideShapes Go.ChangeAt Go.RowKit
set_option linter.unusedVariables false
set_option linter.unusedSimpArgs false

theorem w_RankWord (r : Int) (_hr : I64 r) (w : World) : Calls Try.prog 3 #[.int .i64 r] w fun e w' => e = .returned (.bool true) ∧ Up w w' := by
  cases h : inB r 1 5
  · go_enter Try.func3, Try.ntmps3
    go_wp2_with (first | (go_at_call 8; refine (c_sRankWord_no _ h _).mono ?_; rintro e w' ⟨rfl, rfl⟩) | (go_at_call 9; refine (c_RankWord_no _ h _).mono ?_; rintro e w1 ⟨rfl, rfl⟩))
    go_ret
    exact ⟨rfl, Up.refl _⟩
  · go_enter Try.func3, Try.ntmps3
    go_wp2_with (first | (go_at_call 8; refine (c_sRankWord_yes _ h _).mono ?_; rintro e w1 ⟨rfl, hb1⟩) | (go_at_call 9; refine (c_RankWord_yes _ h _).mono ?_; rintro e w2 ⟨rfl, hb2⟩))
    go_ret
    exact ⟨rfl, hb1.trans hb2⟩

end Go.Proofs.Ytojnomplchlcdaa
