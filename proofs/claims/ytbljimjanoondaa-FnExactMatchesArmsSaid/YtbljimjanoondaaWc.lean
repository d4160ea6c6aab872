/- Contracts and lemmas (Wc) for the laws of this seat: what the Go functions named here return, for all arguments that each theorem states; no further conditions. -/
import Derived.Test.YtbljimjanoondaaData
import Derived.Test.YtbljimjanoondaaM1
import Derived.Test.YtbljimjanoondaaUp
import Derived.Test.YtbljimjanoondaaWa
import Derived.Test.YtbljimjanoondaaWb
import Derived.Test.YtbljimjanoondaaRows
import Derived.WalkKit
import Derived.ProofKit
import Derived.OpenShut
import Derived.WalkLawsBesides
import Derived.Lib.Hide
import Derived.Deep.QuietTactic
import Derived.BigQuiet
import Derived.Deep.Light
import Derived.Handy
namespace Go.Proofs.Ytbljimjanoondaa
set_option maxRecDepth 100000
open Go.ChangeShapes Go.WideShapes Go.ChangeAt Go.RowKit
set_option linter.unusedVariables false
set_option linter.unusedSimpArgs false

def goodC (k a t r : Int) : Bool := goodG 1 k a t && inB r 1 5

theorem c_l22Group (k a t r : Int) (w : World) : Calls Try.prog 68 #[.agg #[.int .i64 k, .int .i64 a, .int .i64 t, .int .i64 r]] w fun e w' => e = .returned (.agg #[.int .i64 1, .int .i64 k, .int .i64 a, .int .i64 t]) ∧ Up w w' := by
  go_enter Try.func68, Try.ntmps68
  go_wp2
  exact bodyPost_ret (v := .agg #[.int .i64 1, .int .i64 k, .int .i64 a, .int .i64 t]) (by simp [results, Try.results68, go_sem]) rfl ⟨rfl, by (repeat (first | (with_reducible exact Up.refl _) | (with_reducible assumption) | (with_reducible refine Up.alloc ?_ _) | (with_reducible refine Up.drew ?_) | (with_reducible refine Up.drewN ?_ _) | (with_reducible refine Up.store ?_ ?_ _) | (with_reducible refine Up.trans ?_ (by assumption)) | (exact Nat.le_refl _) | (exact Nat.le_add_right _ _) | (go_light; omega)))⟩

theorem c_cgroup (k a t r : Int) (w : World) : Calls Try.prog 76 #[.agg #[.int .i64 k, .int .i64 a, .int .i64 t, .int .i64 r]] w fun e w' => e = .returned (.agg #[.int .i64 1, .int .i64 k, .int .i64 a, .int .i64 t]) ∧ Up w w' := by
  go_enter Try.func76, Try.ntmps76
  go_wp2
  exact bodyPost_ret (v := .agg #[.int .i64 1, .int .i64 k, .int .i64 a, .int .i64 t]) (by simp [results, Try.results76, go_sem]) rfl ⟨rfl, by (repeat (first | (with_reducible exact Up.refl _) | (with_reducible assumption) | (with_reducible refine Up.alloc ?_ _) | (with_reducible refine Up.drew ?_) | (with_reducible refine Up.drewN ?_ _) | (with_reducible refine Up.store ?_ ?_ _) | (with_reducible refine Up.trans ?_ (by assumption)) | (exact Nat.le_refl _) | (exact Nat.le_add_right _ _) | (go_light; omega)))⟩

theorem c_l22Good (k a t r : Int) (w : World) : Calls Try.prog 44 #[.agg #[.int .i64 k, .int .i64 a, .int .i64 t, .int .i64 r]] w fun e w' => e = .returned (.bool (goodC k a t r)) ∧ Up w w' := by
  go_enter Try.func44, Try.ntmps44
  go_wp2_with (first | (go_at_call 69; refine (c_l22Rank _ _).mono ?_; rintro e w' ⟨rfl, rfl⟩) | (go_at_call 68; refine (c_l22Group _ _ _ _ _).mono ?_; rintro e w1 ⟨rfl, hb1⟩; obtain ⟨hc1, hf1, hz1⟩ := hb1.use (N := w.heap.size + 1) (by first | (simp; done) | omega | (simp; omega)); have hy0 : w.heap.size < w1.heap.size := Nat.lt_of_lt_of_le (Nat.lt_add_of_pos_right (by decide)) hz1) | (go_at_call 67; refine (c_l4Group _ _ _ _ _).mono ?_; rintro e w1 ⟨rfl, hb1⟩; obtain ⟨hc1, hf1, hz1⟩ := hb1.use (N := w.heap.size + 1) (by first | (simp; done) | omega | (simp; omega)); have hy0 : w.heap.size < w1.heap.size := Nat.lt_of_lt_of_le (Nat.lt_add_of_pos_right (by decide)) hz1))
  all_goals go_ret
  all_goals exact ⟨ret_bool (by rw [Bool.eq_iff_iff]; go_light; simp_all [goodC] <;> (first | omega | (intros; omega))), by (repeat (first | (with_reducible exact Up.refl _) | (with_reducible assumption) | (with_reducible refine Up.alloc ?_ _) | (with_reducible refine Up.drew ?_) | (with_reducible refine Up.drewN ?_ _) | (with_reducible refine Up.store ?_ ?_ _) | (with_reducible refine Up.trans ?_ (by assumption)) | (exact Nat.le_refl _) | (exact Nat.le_add_right _ _) | (go_light; omega)))⟩

theorem c_IsValidCrest (k a t r : Int) (w : World) : Calls Try.prog 50 #[.agg #[.int .i64 k, .int .i64 a, .int .i64 t, .int .i64 r]] w fun e w' => e = .returned (.bool (goodC k a t r)) ∧ Up w w' := by
  go_enter Try.func50, Try.ntmps50
  go_wp2_with (first | (go_at_call 77; refine (c_isRank _ _).mono ?_; rintro e w' ⟨rfl, rfl⟩) | (go_at_call 76; refine (c_cgroup _ _ _ _ _).mono ?_; rintro e w1 ⟨rfl, hb1⟩; obtain ⟨hc1, hf1, hz1⟩ := hb1.use (N := w.heap.size + 1) (by first | (simp; done) | omega | (simp; omega)); have hy0 : w.heap.size < w1.heap.size := Nat.lt_of_lt_of_le (Nat.lt_add_of_pos_right (by decide)) hz1) | (go_at_call 75; refine (c_IsValidGroup _ _ _ _ _).mono ?_; rintro e w1 ⟨rfl, hb1⟩; obtain ⟨hc1, hf1, hz1⟩ := hb1.use (N := w.heap.size + 1) (by first | (simp; done) | omega | (simp; omega)); have hy0 : w.heap.size < w1.heap.size := Nat.lt_of_lt_of_le (Nat.lt_add_of_pos_right (by decide)) hz1))
  all_goals go_ret
  all_goals exact ⟨ret_bool (by rw [Bool.eq_iff_iff]; go_light; simp_all [goodC] <;> (first | omega | (intros; omega))), by (repeat (first | (with_reducible exact Up.refl _) | (with_reducible assumption) | (with_reducible refine Up.alloc ?_ _) | (with_reducible refine Up.drew ?_) | (with_reducible refine Up.drewN ?_ _) | (with_reducible refine Up.store ?_ ?_ _) | (with_reducible refine Up.trans ?_ (by assumption)) | (exact Nat.le_refl _) | (exact Nat.le_add_right _ _) | (go_light; omega)))⟩

theorem c_toCrest (k a t r : Int) (w : World) : Calls Try.prog 17 #[.agg #[.int .i64 k, .int .i64 a, .int .i64 t, .int .i64 r]] w fun e w' => e = .returned (.agg #[.int .i64 k, .int .i64 a, .int .i64 t, .int .i64 r]) ∧ Up w w' := by
  go_enter Try.func17, Try.ntmps17
  go_wp2
  exact bodyPost_ret (v := .agg #[.int .i64 k, .int .i64 a, .int .i64 t, .int .i64 r]) (by simp [results, Try.results17, go_sem]) rfl ⟨rfl, by (repeat (first | (with_reducible exact Up.refl _) | (with_reducible assumption) | (with_reducible refine Up.alloc ?_ _) | (with_reducible refine Up.drew ?_) | (with_reducible refine Up.drewN ?_ _) | (with_reducible refine Up.store ?_ ?_ _) | (with_reducible refine Up.trans ?_ (by assumption)) | (exact Nat.le_refl _) | (exact Nat.le_add_right _ _) | (go_light; omega)))⟩

end Go.Proofs.Ytbljimjanoondaa
