/- Contracts and lemmas (Wb) for the laws of this seat: what the Go functions named here return, for all arguments that each theorem states; no further conditions. -/
import Derived.Test.YtnniiphfbjbjdaaData
import Derived.Test.YtnniiphfbjbjdaaM1
import Derived.Test.YtnniiphfbjbjdaaUp
import Derived.Test.YtnniiphfbjbjdaaWa
import Derived.Test.YtnniiphfbjbjdaaRows
import Derived.WalkKit
import Derived.ProofKit
import Derived.OpenShut
import Derived.WalkLawsBesides
import Derived.Lib.Hide
import Derived.Deep.QuietTactic
import Derived.BigQuiet
import Derived.Deep.Light
import Derived.Handy
namespace Go.Proofs.Ytnniiphfbjbjdaa
set_option maxRecDepth 100000
open Go.ChangeShapes Go.WideShapes Go.ChangeAt Go.RowKit
set_option linter.unusedVariables false
set_option linter.unusedSimpArgs false

theorem c_l2Good (x : Int) (w : World) : Calls Try.prog 138 #[.int .i64 x] w fun e w' => e = .returned (.bool (inB x 1 9)) ∧ w = w' := by
  go_enter Try.func138, Try.ntmps138
  go_wp2_with (go_at_call 128; refine (c_l1In _ _ _ _).mono ?_; rintro e w' ⟨rfl, rfl⟩)
  go_ret
  exact ⟨rfl, rfl⟩

theorem c_IsTincture (x : Int) (w : World) : Calls Try.prog 134 #[.int .i64 x] w fun e w' => e = .returned (.bool (inB x 1 9)) ∧ w = w' := by
  go_enter Try.func134, Try.ntmps134
  go_wp2_with (go_at_call 125; refine (c_inside _ _ _ _).mono ?_; rintro e w' ⟨rfl, rfl⟩)
  go_ret
  exact ⟨rfl, rfl⟩

theorem c_l3Line (x : Int) (w : World) : Calls Try.prog 216 #[.int .i64 x] w fun e w' => e = .returned (.bool (inB x 0 4)) ∧ w = w' := by
  go_enter Try.func216, Try.ntmps216
  go_wp2_with (go_at_call 128; refine (c_l1In _ _ _ _).mono ?_; rintro e w' ⟨rfl, rfl⟩)
  go_ret
  exact ⟨rfl, rfl⟩

theorem c_isLine (x : Int) (w : World) : Calls Try.prog 215 #[.int .i64 x] w fun e w' => e = .returned (.bool (inB x 0 4)) ∧ w = w' := by
  go_enter Try.func215, Try.ntmps215
  go_wp2_with (go_at_call 125; refine (c_inside _ _ _ _).mono ?_; rintro e w' ⟨rfl, rfl⟩)
  go_ret
  exact ⟨rfl, rfl⟩

theorem c_l4Kind (x : Int) (w : World) : Calls Try.prog 208 #[.int .i64 x] w fun e w' => e = .returned (.bool (inB x 1 8)) ∧ w = w' := by
  go_enter Try.func208, Try.ntmps208
  go_wp2_with (go_at_call 128; refine (c_l1In _ _ _ _).mono ?_; rintro e w' ⟨rfl, rfl⟩)
  go_ret
  exact ⟨rfl, rfl⟩

theorem c_isKind (x : Int) (w : World) : Calls Try.prog 210 #[.int .i64 x] w fun e w' => e = .returned (.bool (inB x 1 8)) ∧ w = w' := by
  go_enter Try.func210, Try.ntmps210
  go_wp2_with (go_at_call 125; refine (c_inside _ _ _ _).mono ?_; rintro e w' ⟨rfl, rfl⟩)
  go_ret
  exact ⟨rfl, rfl⟩

theorem c_l4Beast (x : Int) (w : World) : Calls Try.prog 209 #[.int .i64 x] w fun e w' => e = .returned (.bool (decide (x ≤ 3))) ∧ w = w' := by
  go_enter Try.func209, Try.ntmps209
  go_wp2
  go_ret
  exact ⟨rfl, rfl⟩

theorem c_l3Good (d l f s : Int) (w : World) : Calls Try.prog 162 #[.agg #[.int .i64 d, .int .i64 l, .int .i64 f, .int .i64 s]] w fun e w' => e = .returned (.bool (goodF d l f s)) ∧ Up w w' := by
  go_enter Try.func162, Try.ntmps162
  go_wp2_with (first | (go_at_call 128; refine (c_l1In _ _ _ _).mono ?_; rintro e w' ⟨rfl, rfl⟩) | (go_at_call 216; refine (c_l3Line _ _).mono ?_; rintro e w' ⟨rfl, rfl⟩) | (go_at_call 138; refine (c_l2Good _ _).mono ?_; rintro e w' ⟨rfl, rfl⟩))
  all_goals go_ret
  all_goals exact ⟨ret_bool (by rw [Bool.eq_iff_iff]; go_light; simp_all [goodF] <;> (first | omega | (intros; omega))), by (repeat (first | (with_reducible exact Up.refl _) | (with_reducible assumption) | (with_reducible refine Up.alloc ?_ _) | (with_reducible refine Up.drew ?_) | (with_reducible refine Up.drewN ?_ _) | (with_reducible refine Up.store ?_ ?_ _) | (with_reducible refine Up.trans ?_ (by assumption)) | (exact Nat.le_refl _) | (exact Nat.le_add_right _ _) | (go_light; omega)))⟩

theorem c_IsValidField (d l f s : Int) (w : World) : Calls Try.prog 141 #[.agg #[.int .i64 d, .int .i64 l, .int .i64 f, .int .i64 s]] w fun e w' => e = .returned (.bool (goodF d l f s)) ∧ Up w w' := by
  go_enter Try.func141, Try.ntmps141
  go_wp2_with (first | (go_at_call 125; refine (c_inside _ _ _ _).mono ?_; rintro e w' ⟨rfl, rfl⟩) | (go_at_call 215; refine (c_isLine _ _).mono ?_; rintro e w' ⟨rfl, rfl⟩) | (go_at_call 134; refine (c_IsTincture _ _).mono ?_; rintro e w' ⟨rfl, rfl⟩))
  all_goals go_ret
  all_goals exact ⟨ret_bool (by rw [Bool.eq_iff_iff]; go_light; simp_all [goodF] <;> (first | omega | (intros; omega))), by (repeat (first | (with_reducible exact Up.refl _) | (with_reducible assumption) | (with_reducible refine Up.alloc ?_ _) | (with_reducible refine Up.drew ?_) | (with_reducible refine Up.drewN ?_ _) | (with_reducible refine Up.store ?_ ?_ _) | (with_reducible refine Up.trans ?_ (by assumption)) | (exact Nat.le_refl _) | (exact Nat.le_add_right _ _) | (go_light; omega)))⟩

theorem c_l4Group (c k a t : Int) (w : World) : Calls Try.prog 122 #[.agg #[.int .i64 c, .int .i64 k, .int .i64 a, .int .i64 t]] w fun e w' => e = .returned (.bool (goodG c k a t)) ∧ Up w w' := by
  go_enter Try.func122, Try.ntmps122
  go_wp2_with (first | (go_at_call 128; refine (c_l1In _ _ _ _).mono ?_; rintro e w' ⟨rfl, rfl⟩) | (go_at_call 208; refine (c_l4Kind _ _).mono ?_; rintro e w' ⟨rfl, rfl⟩) | (go_at_call 138; refine (c_l2Good _ _).mono ?_; rintro e w' ⟨rfl, rfl⟩) | (go_at_call 209; refine (c_l4Beast _ _).mono ?_; rintro e w' ⟨rfl, rfl⟩))
  all_goals go_ret
  all_goals exact ⟨ret_bool (by rw [Bool.eq_iff_iff]; go_light; simp_all [goodG] <;> (first | omega | (intros; omega))), by (repeat (first | (with_reducible exact Up.refl _) | (with_reducible assumption) | (with_reducible refine Up.alloc ?_ _) | (with_reducible refine Up.drew ?_) | (with_reducible refine Up.drewN ?_ _) | (with_reducible refine Up.store ?_ ?_ _) | (with_reducible refine Up.trans ?_ (by assumption)) | (exact Nat.le_refl _) | (exact Nat.le_add_right _ _) | (go_light; omega)))⟩

theorem c_l4None (c k a t : Int) (w : World) : Calls Try.prog 121 #[.agg #[.int .i64 c, .int .i64 k, .int .i64 a, .int .i64 t]] w fun e w' => e = .returned (.bool (noneG c k a t)) ∧ Up w w' := by
  go_enter Try.func121, Try.ntmps121
  go_wp2
  all_goals go_ret
  all_goals exact ⟨ret_bool (by rw [Bool.eq_iff_iff]; go_light; simp_all [noneG] <;> (first | omega | (intros; omega))), by (repeat (first | (with_reducible exact Up.refl _) | (with_reducible assumption) | (with_reducible refine Up.alloc ?_ _) | (with_reducible refine Up.drew ?_) | (with_reducible refine Up.drewN ?_ _) | (with_reducible refine Up.store ?_ ?_ _) | (with_reducible refine Up.trans ?_ (by assumption)) | (exact Nat.le_refl _) | (exact Nat.le_add_right _ _) | (go_light; omega)))⟩

theorem c_attitudes_beast (k : Int) (h : inB k 1 3 = true) (w : World) : Calls Try.prog 211 #[.int .i64 k] w fun e w' => e = .returned (.slice (some ⟨w.heap.size, 0, none⟩) 2 2) ∧ Up w w' := by
  have := inB_true h
  have : k = 1 ∨ k = 2 ∨ k = 3 := by omega
  rcases this with rfl | rfl | rfl
  all_goals
    clear h
    go_enter Try.func211, Try.ntmps211
    go_wp2
    go_ret
    exact ⟨rfl, by (repeat (first | (with_reducible exact Up.refl _) | (with_reducible assumption) | (with_reducible refine Up.alloc ?_ _) | (with_reducible refine Up.drew ?_) | (with_reducible refine Up.drewN ?_ _) | (with_reducible refine Up.store ?_ ?_ _) | (with_reducible refine Up.trans ?_ (by assumption)) | (exact Nat.le_refl _) | (exact Nat.le_add_right _ _) | (go_light; omega)))⟩
theorem c_attitudes_other (k : Int) (h : 3 < k) (w : World) : Calls Try.prog 211 #[.int .i64 k] w fun e w' => e = .returned (.slice (some ⟨w.heap.size, 0, none⟩) 0 0) ∧ Up w w' := by
  have h1 : (k == 1) = false := by simp; omega
  have h2 : (k == 2) = false := by simp; omega
  have h3 : (k == 3) = false := by simp; omega
  go_enter Try.func211, Try.ntmps211
  go_wp2
  go_ret
  exact ⟨rfl, by (repeat (first | (with_reducible exact Up.refl _) | (with_reducible assumption) | (with_reducible refine Up.alloc ?_ _) | (with_reducible refine Up.drew ?_) | (with_reducible refine Up.drewN ?_ _) | (with_reducible refine Up.store ?_ ?_ _) | (with_reducible refine Up.trans ?_ (by assumption)) | (exact Nat.le_refl _) | (exact Nat.le_add_right _ _) | (go_light; omega)))⟩

theorem c_IsValidGroup (c k a t : Int) (w : World) : Calls Try.prog 207 #[.agg #[.int .i64 c, .int .i64 k, .int .i64 a, .int .i64 t]] w fun e w' => e = .returned (.bool (goodG c k a t)) ∧ Up w w' := by
  by_cases hk : k ≤ 3
  · cases hk1 : inB k 1 8 with
    | false =>
      go_enter Try.func207, Try.ntmps207
      go_wp2_with (first | (go_at_call 125; refine (c_inside _ _ _ _).mono ?_; rintro e w' ⟨rfl, rfl⟩) | (go_at_call 210; refine (c_isKind _ _).mono ?_; rintro e w' ⟨rfl, rfl⟩) | (go_at_call 134; refine (c_IsTincture _ _).mono ?_; rintro e w' ⟨rfl, rfl⟩))
      all_goals go_ret
      all_goals exact ⟨ret_bool (by rw [Bool.eq_iff_iff]; go_light; simp_all [goodG] <;> (first | omega | (intros; omega))), by (repeat (first | (with_reducible exact Up.refl _) | (with_reducible assumption) | (with_reducible refine Up.alloc ?_ _) | (with_reducible refine Up.drew ?_) | (with_reducible refine Up.drewN ?_ _) | (with_reducible refine Up.store ?_ ?_ _) | (with_reducible refine Up.trans ?_ (by assumption)) | (exact Nat.le_refl _) | (exact Nat.le_add_right _ _) | (go_light; omega)))⟩
    | true =>
      have h3 : inB k 1 3 = true := by have := inB_true hk1; simp [inB]; omega
      go_enter Try.func207, Try.ntmps207
      go_wp2_with (first | (go_at_call 125; refine (c_inside _ _ _ _).mono ?_; rintro e w' ⟨rfl, rfl⟩) | (go_at_call 210; refine (c_isKind _ _).mono ?_; rintro e w' ⟨rfl, rfl⟩) | (go_at_call 134; refine (c_IsTincture _ _).mono ?_; rintro e w' ⟨rfl, rfl⟩) | (go_at_call 211; refine (c_attitudes_beast _ h3 _).mono ?_; rintro e w1 ⟨rfl, hb1⟩; obtain ⟨hc1, hf1, hz1⟩ := hb1.use (N := w.heap.size + 1) (by first | (simp; done) | omega | (simp; omega)); have hy0 : w.heap.size < w1.heap.size := Nat.lt_of_lt_of_le (Nat.lt_add_of_pos_right (by decide)) hz1))
      all_goals go_ret
      all_goals exact ⟨ret_bool (by rw [Bool.eq_iff_iff]; go_light; simp_all [goodG] <;> (first | omega | (intros; omega))), by (repeat (first | (with_reducible exact Up.refl _) | (with_reducible assumption) | (with_reducible refine Up.alloc ?_ _) | (with_reducible refine Up.drew ?_) | (with_reducible refine Up.drewN ?_ _) | (with_reducible refine Up.store ?_ ?_ _) | (with_reducible refine Up.trans ?_ (by assumption)) | (exact Nat.le_refl _) | (exact Nat.le_add_right _ _) | (go_light; omega)))⟩
  · have h4 : 3 < k := by omega
    go_enter Try.func207, Try.ntmps207
    go_wp2_with (first | (go_at_call 125; refine (c_inside _ _ _ _).mono ?_; rintro e w' ⟨rfl, rfl⟩) | (go_at_call 210; refine (c_isKind _ _).mono ?_; rintro e w' ⟨rfl, rfl⟩) | (go_at_call 134; refine (c_IsTincture _ _).mono ?_; rintro e w' ⟨rfl, rfl⟩) | (go_at_call 211; refine (c_attitudes_other _ h4 _).mono ?_; rintro e w1 ⟨rfl, hb1⟩; obtain ⟨hc1, hf1, hz1⟩ := hb1.use (N := w.heap.size + 1) (by first | (simp; done) | omega | (simp; omega)); have hy0 : w.heap.size < w1.heap.size := Nat.lt_of_lt_of_le (Nat.lt_add_of_pos_right (by decide)) hz1))
    all_goals go_ret
    all_goals exact ⟨ret_bool (by rw [Bool.eq_iff_iff]; go_light; simp_all [goodG] <;> (first | omega | (intros; omega))), by (repeat (first | (with_reducible exact Up.refl _) | (with_reducible assumption) | (with_reducible refine Up.alloc ?_ _) | (with_reducible refine Up.drew ?_) | (with_reducible refine Up.drewN ?_ _) | (with_reducible refine Up.store ?_ ?_ _) | (with_reducible refine Up.trans ?_ (by assumption)) | (exact Nat.le_refl _) | (exact Nat.le_add_right _ _) | (go_light; omega)))⟩

theorem c_isGroup (c k a t : Int) (w : World) : Calls Try.prog 119 #[.agg #[.int .i64 c, .int .i64 k, .int .i64 a, .int .i64 t]] w fun e w' => e = .returned (.bool (okG c k a t)) ∧ Up w w' := by
  go_enter Try.func119, Try.ntmps119
  go_wp2_with (go_at_call 207; refine (c_IsValidGroup _ _ _ _ _).mono ?_; rintro e w1 ⟨rfl, hb1⟩; obtain ⟨hc1, hf1, hz1⟩ := hb1.use (N := w.heap.size + 1) (by first | (simp; done) | omega | (simp; omega)); have hy0 : w.heap.size < w1.heap.size := Nat.lt_of_lt_of_le (Nat.lt_add_of_pos_right (by decide)) hz1)
  all_goals go_ret
  all_goals exact ⟨ret_bool (by rw [Bool.eq_iff_iff]; go_light; simp_all [okG, noneG] <;> (first | omega | (intros; omega))), by (repeat (first | (with_reducible exact Up.refl _) | (with_reducible assumption) | (with_reducible refine Up.alloc ?_ _) | (with_reducible refine Up.drew ?_) | (with_reducible refine Up.drewN ?_ _) | (with_reducible refine Up.store ?_ ?_ _) | (with_reducible refine Up.trans ?_ (by assumption)) | (exact Nat.le_refl _) | (exact Nat.le_add_right _ _) | (go_light; omega)))⟩

theorem c_isOrdinary (o l t : Int) (w : World) : Calls Try.prog 142 #[.int .i64 o, .int .i64 l, .int .i64 t] w fun e w' => e = .returned (.bool (inB o 1 7 && inB l 0 4 && inB t 1 9)) ∧ w = w' := by
  go_enter Try.func142, Try.ntmps142
  go_wp2_with (first | (go_at_call 125; refine (c_inside _ _ _ _).mono ?_; rintro e w' ⟨rfl, rfl⟩) | (go_at_call 215; refine (c_isLine _ _).mono ?_; rintro e w' ⟨rfl, rfl⟩) | (go_at_call 134; refine (c_IsTincture _ _).mono ?_; rintro e w' ⟨rfl, rfl⟩))
  all_goals go_ret
  all_goals exact ⟨ret_bool (by rw [Bool.eq_iff_iff]; go_light; simp_all <;> (first | omega | (intros; omega))), rfl⟩

theorem c_l5Good (A : Arms) (w : World) : Calls Try.prog 143 #[.agg A.arr] w fun e w' => e = .returned (.bool (goodA A)) ∧ Up w w' := by
  go_enter Try.func143, Try.ntmps143
  go_wp2_with (first | (go_at_call 128; refine (c_l1In _ _ _ _).mono ?_; rintro e w' ⟨rfl, rfl⟩) | (go_at_call 216; refine (c_l3Line _ _).mono ?_; rintro e w' ⟨rfl, rfl⟩) | (go_at_call 138; refine (c_l2Good _ _).mono ?_; rintro e w' ⟨rfl, rfl⟩) | (go_at_call 162; refine (c_l3Good _ _ _ _ _).mono ?_; rintro e w1 ⟨rfl, hb1⟩; obtain ⟨hc1, hf1, hz1⟩ := hb1.use (N := w.heap.size + 1) (by first | (simp; done) | omega | (simp; omega)); have hy0 : w.heap.size < w1.heap.size := Nat.lt_of_lt_of_le (Nat.lt_add_of_pos_right (by decide)) hz1) | (go_at_call 121; refine (c_l4None _ _ _ _ _).mono ?_; rintro e w1 ⟨rfl, hb1⟩; obtain ⟨hc1, hf1, hz1⟩ := hb1.use (N := w.heap.size + 1) (by first | (simp; done) | omega | (simp; omega)); have hy0 : w.heap.size < w1.heap.size := Nat.lt_of_lt_of_le (Nat.lt_add_of_pos_right (by decide)) hz1) | (go_at_call 122; refine (c_l4Group _ _ _ _ _).mono ?_; rintro e w1 ⟨rfl, hb1⟩; obtain ⟨hc1, hf1, hz1⟩ := hb1.use (N := w.heap.size + 1) (by first | (simp; done) | omega | (simp; omega)); have hy0 : w.heap.size < w1.heap.size := Nat.lt_of_lt_of_le (Nat.lt_add_of_pos_right (by decide)) hz1))
  
  all_goals go_ret
  all_goals exact ⟨ret_bool (by rw [Bool.eq_iff_iff]; go_light; simp_all [goodA, okG] <;> (first | omega | (intros; omega))), by (repeat (first | (with_reducible exact Up.refl _) | (with_reducible assumption) | (with_reducible refine Up.alloc ?_ _) | (with_reducible refine Up.drew ?_) | (with_reducible refine Up.drewN ?_ _) | (with_reducible refine Up.store ?_ ?_ _) | (with_reducible refine Up.trans ?_ (by assumption)) | (exact Nat.le_refl _) | (exact Nat.le_add_right _ _) | (go_light; omega)))⟩

end Go.Proofs.Ytnniiphfbjbjdaa
