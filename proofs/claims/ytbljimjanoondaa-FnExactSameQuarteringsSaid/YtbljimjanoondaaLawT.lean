/- Contracts and lemmas (LawT) for the laws of this seat: what the Go functions named here return, for all arguments that each theorem states; no further conditions. -/
import Derived.Test.YtbljimjanoondaaData
import Derived.Test.YtbljimjanoondaaEq
import Derived.Test.YtbljimjanoondaaMem
import Derived.Test.YtbljimjanoondaaUp
import Derived.Test.YtbljimjanoondaaRows
import Derived.WalkKit
import Derived.ProofKit
import Derived.OpenShut
import Derived.WalkLawsBesides
import Derived.Lib.Hide
import Derived.Deep.QuietTactic
import Derived.BigQuiet
import Derived.Deep.Light
import Derived.Handy
namespace Go.Proofs.Ytbljimjanoondaa
set_option maxRecDepth 100000
open Go.ChangeShapes Go.WideShapes Go.ChangeAt Go.RowKit
set_option linter.unusedVariables false
set_option linter.unusedSimpArgs false

set_option maxHeartbeats 2000000 in
theorem c_toArms (A : Arms) (w : World) : Calls Try.prog 18 #[.agg A.arr] w fun e w' => e = .returned (.agg A.arr) ∧ Up w w' := by
  go_enter Try.func18, Try.ntmps18
  go_wp2
  exact bodyPost_ret (v := .agg #[.int .i64 A.fd, .int .i64 A.fl, .int .i64 A.ff, .int .i64 A.fs, .int .i64 A.o, .int .i64 A.l, .int .i64 A.t, .int .i64 A.c1, .int .i64 A.k1, .int .i64 A.a1, .int .i64 A.t1, .int .i64 A.c2, .int .i64 A.k2, .int .i64 A.a2, .int .i64 A.t2]) (by simp [results, Try.results18, go_sem]) rfl ⟨rfl, by (repeat (first | (with_reducible exact Up.refl _) | (with_reducible assumption) | (with_reducible refine Up.alloc ?_ _) | (with_reducible refine Up.drew ?_) | (with_reducible refine Up.drewN ?_ _) | (with_reducible refine Up.store ?_ ?_ _) | (with_reducible refine Up.trans ?_ (by assumption)) | (exact Nat.le_refl _) | (exact Nat.le_add_right _ _) | (go_light; omega)))⟩

end Go.Proofs.Ytbljimjanoondaa
