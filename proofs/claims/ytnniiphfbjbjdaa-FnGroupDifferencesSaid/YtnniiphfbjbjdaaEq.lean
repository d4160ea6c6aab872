/- Contracts and lemmas (Eq) for the laws of this seat: what the Go functions named here return, for all arguments that each theorem states; no further conditions. -/
import Derived.Test.YtnniiphfbjbjdaaData
import Derived.Test.YtnniiphfbjbjdaaRows
import Derived.WalkKit
import Derived.ProofKit
import Derived.OpenShut
import Derived.WalkLawsBesides
import Derived.Lib.Hide
import Derived.Deep.QuietTactic
import Derived.BigQuiet
import Derived.Deep.Light
import Derived.Handy
namespace Go.Proofs.Ytnniiphfbjbjdaa
set_option maxRecDepth 100000
open Go.ChangeShapes Go.WideShapes Go.ChangeAt Go.RowKit
set_option linter.unusedVariables false
set_option linter.unusedSimpArgs false

theorem ite_dec {α : Type} {p q : Prop} [Decidable p] [Decidable q] (f : Bool → α) {x : α} (hx : x = f (decide q)) : (if p then x else f false) = f (decide (p ∧ q)) := by
  by_cases h : p <;> simp [h, hx]
theorem ite_last {α : Type} {p : Prop} [Decidable p] (f : Bool → α) : (if p then f true else f false) = f (decide p) := by
  by_cases h : p <;> simp [h]

@[simp, go_sem] theorem egA : Try.prog.eqGuardType Try.prog.depth 38 = false := by kernel_rfl
set_option maxRecDepth 100000 in
theorem run_eqA (A B : Arms) (w : World) : (binOp .eql 38 (.agg A.arr) (.agg B.arr)).run Try.prog w = .ok (.bool (decide (A = B))) w := by
  have e : decide (A = B) = decide (A.fd = B.fd ∧ A.fl = B.fl ∧ A.ff = B.ff ∧ A.fs = B.fs ∧ A.o = B.o ∧ A.l = B.l ∧ A.t = B.t ∧ A.c1 = B.c1 ∧ A.k1 = B.k1 ∧ A.a1 = B.a1 ∧ A.t1 = B.t1 ∧ A.c2 = B.c2 ∧ A.k2 = B.k2 ∧ A.a2 = B.a2 ∧ A.t2 = B.t2) := by simp only [Arms.eq_iff A B]
  rw [e]
  clear e
  obtain ⟨R, hR⟩ : ∃ R, R = decide (A.fd = B.fd ∧ A.fl = B.fl ∧ A.ff = B.ff ∧ A.fs = B.fs ∧ A.o = B.o ∧ A.l = B.l ∧ A.t = B.t ∧ A.c1 = B.c1 ∧ A.k1 = B.k1 ∧ A.a1 = B.a1 ∧ A.t1 = B.t1 ∧ A.c2 = B.c2 ∧ A.k2 = B.k2 ∧ A.a2 = B.a2 ∧ A.t2 = B.t2) := ⟨_, rfl⟩
  rw [← hR]
  show (binOp .eql 38 (.agg #[Value.int .i64 A.fd, Value.int .i64 A.fl, Value.int .i64 A.ff, Value.int .i64 A.fs, Value.int .i64 A.o, Value.int .i64 A.l, Value.int .i64 A.t, Value.int .i64 A.c1, Value.int .i64 A.k1, Value.int .i64 A.a1, Value.int .i64 A.t1, Value.int .i64 A.c2, Value.int .i64 A.k2, Value.int .i64 A.a2, Value.int .i64 A.t2]) (.agg #[Value.int .i64 B.fd, Value.int .i64 B.fl, Value.int .i64 B.ff, Value.int .i64 B.fs, Value.int .i64 B.o, Value.int .i64 B.l, Value.int .i64 B.t, Value.int .i64 B.c1, Value.int .i64 B.k1, Value.int .i64 B.a1, Value.int .i64 B.t1, Value.int .i64 B.c2, Value.int .i64 B.k2, Value.int .i64 B.a2, Value.int .i64 B.t2])).run Try.prog w = _
  have HR := Lib.hid hR
  clear hR
  simp [go_sem]
  rw [HR.out]
  refine @ite_dec _ _ _ _ _ (fun b => Result.ok (Value.bool b) w) _ ?_
  refine @ite_dec _ _ _ _ _ (fun b => Result.ok (Value.bool b) w) _ ?_
  refine @ite_dec _ _ _ _ _ (fun b => Result.ok (Value.bool b) w) _ ?_
  refine @ite_dec _ _ _ _ _ (fun b => Result.ok (Value.bool b) w) _ ?_
  refine @ite_dec _ _ _ _ _ (fun b => Result.ok (Value.bool b) w) _ ?_
  refine @ite_dec _ _ _ _ _ (fun b => Result.ok (Value.bool b) w) _ ?_
  refine @ite_dec _ _ _ _ _ (fun b => Result.ok (Value.bool b) w) _ ?_
  refine @ite_dec _ _ _ _ _ (fun b => Result.ok (Value.bool b) w) _ ?_
  refine @ite_dec _ _ _ _ _ (fun b => Result.ok (Value.bool b) w) _ ?_
  refine @ite_dec _ _ _ _ _ (fun b => Result.ok (Value.bool b) w) _ ?_
  refine @ite_dec _ _ _ _ _ (fun b => Result.ok (Value.bool b) w) _ ?_
  refine @ite_dec _ _ _ _ _ (fun b => Result.ok (Value.bool b) w) _ ?_
  refine @ite_dec _ _ _ _ _ (fun b => Result.ok (Value.bool b) w) _ ?_
  refine @ite_dec _ _ _ _ _ (fun b => Result.ok (Value.bool b) w) _ ?_
  exact @ite_last _ _ _ (fun b => Result.ok (Value.bool b) w)

end Go.Proofs.Ytnniiphfbjbjdaa
