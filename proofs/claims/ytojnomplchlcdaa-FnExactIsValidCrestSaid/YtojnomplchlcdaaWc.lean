/- Contracts and lemmas (Wc) for the laws of this seat: what the Go functions named here return, for all arguments that each theorem states; no further conditions. -/
import Derived.Test.YtojnomplchlcdaaData
import Derived.Test.YtojnomplchlcdaaM1
import Derived.Test.YtojnomplchlcdaaOpen
import Derived.Test.YtojnomplchlcdaaUp
import Derived.Test.YtojnomplchlcdaaWa
import Derived.Test.YtojnomplchlcdaaWb
import Derived.Test.YtojnomplchlcdaaRows
import Derived.WalkKit
import Derived.ProofKit
import Derived.OpenShut
import Derived.WalkLawsBesides
import Derived.Lib.Hide
import Derived.Deep.QuietTactic
import Derived.BigQuiet
import Derived.Deep.Light
namespace Go.Proofs.Ytojnomplchlcdaa
open Go.ChangeShapes Go.WideShapes Go.ChangeAt Go.RowKit
set_option linter.unusedVariables false
set_option linter.unusedSimpArgs false

def goodC (k a t r : Int) : Bool := goodG 1 k a t && inB r 1 5

theorem c_l22Group (k a t r : Int) (w : World) : Calls Try.prog 33 #[.agg #[.int .i64 k, .int .i64 a, .int .i64 t, .int .i64 r]] w fun e w' => e = .returned (.agg #[.int .i64 1, .int .i64 k, .int .i64 a, .int .i64 t]) ∧ Up w w' := by
  go_enter Try.func33, Try.ntmps33
  go_wp2
  exact bodyPost_ret (v := .agg #[.int .i64 1, .int .i64 k, .int .i64 a, .int .i64 t]) (by simp [results, Try.results33, go_sem]) rfl ⟨rfl, by (repeat (first | (with_reducible exact Up.refl _) | (with_reducible assumption) | (with_reducible refine Up.alloc ?_ _) | (with_reducible refine Up.drew ?_) | (with_reducible refine Up.store ?_ ?_ _) | (with_reducible refine Up.trans ?_ (by assumption)) | (exact Nat.le_refl _) | (exact Nat.le_add_right _ _) | (go_light; omega)))⟩

theorem c_cgroup (k a t r : Int) (w : World) : Calls Try.prog 31 #[.agg #[.int .i64 k, .int .i64 a, .int .i64 t, .int .i64 r]] w fun e w' => e = .returned (.agg #[.int .i64 1, .int .i64 k, .int .i64 a, .int .i64 t]) ∧ Up w w' := by
  go_enter Try.func31, Try.ntmps31
  go_wp2
  exact bodyPost_ret (v := .agg #[.int .i64 1, .int .i64 k, .int .i64 a, .int .i64 t]) (by simp [results, Try.results31, go_sem]) rfl ⟨rfl, by (repeat (first | (with_reducible exact Up.refl _) | (with_reducible assumption) | (with_reducible refine Up.alloc ?_ _) | (with_reducible refine Up.drew ?_) | (with_reducible refine Up.store ?_ ?_ _) | (with_reducible refine Up.trans ?_ (by assumption)) | (exact Nat.le_refl _) | (exact Nat.le_add_right _ _) | (go_light; omega)))⟩

theorem c_l22Good (k a t r : Int) (w : World) : Calls Try.prog 29 #[.agg #[.int .i64 k, .int .i64 a, .int .i64 t, .int .i64 r]] w fun e w' => e = .returned (.bool (goodC k a t r)) ∧ Up w w' := by
  go_enter Try.func29, Try.ntmps29
  go_wp2_with (first | (go_at_call 20; refine (c_l22Rank _ _).mono ?_; rintro e w' ⟨rfl, rfl⟩) | (go_at_call 33; refine (c_l22Group _ _ _ _ _).mono ?_; rintro e w1 ⟨rfl, hb1⟩; obtain ⟨hc1, hf1, hz1⟩ := hb1.use (N := w.heap.size + 1) (by first | (simp; done) | omega | (simp; omega)); have hy0 : w.heap.size < w1.heap.size := Nat.lt_of_lt_of_le (Nat.lt_add_of_pos_right (by decide)) hz1) | (go_at_call 32; refine (c_l4Group _ _ _ _ _).mono ?_; rintro e w1 ⟨rfl, hb1⟩; obtain ⟨hc1, hf1, hz1⟩ := hb1.use (N := w.heap.size + 1) (by first | (simp; done) | omega | (simp; omega)); have hy0 : w.heap.size < w1.heap.size := Nat.lt_of_lt_of_le (Nat.lt_add_of_pos_right (by decide)) hz1))
  all_goals go_ret
  all_goals exact ⟨ret_bool (by rw [Bool.eq_iff_iff]; go_light; simp_all [goodC] <;> (first | omega | (intros; omega))), by (repeat (first | (with_reducible exact Up.refl _) | (with_reducible assumption) | (with_reducible refine Up.alloc ?_ _) | (with_reducible refine Up.drew ?_) | (with_reducible refine Up.store ?_ ?_ _) | (with_reducible refine Up.trans ?_ (by assumption)) | (exact Nat.le_refl _) | (exact Nat.le_add_right _ _) | (go_light; omega)))⟩

theorem c_sIsValidCrest (k a t r : Int) (w : World) : Calls Try.prog 14 #[.agg #[.int .i64 k, .int .i64 a, .int .i64 t, .int .i64 r]] w fun e w' => e = .returned (.bool (goodC k a t r)) ∧ Up w w' := by
  go_enter Try.func14, Try.ntmps14
  go_wp2_with (go_at_call 29; refine (c_l22Good _ _ _ _ _).mono ?_; rintro e w1 ⟨rfl, hb1⟩; obtain ⟨hc1, hf1, hz1⟩ := hb1.use (N := w.heap.size + 1) (by first | (simp; done) | omega | (simp; omega)); have hy0 : w.heap.size < w1.heap.size := Nat.lt_of_lt_of_le (Nat.lt_add_of_pos_right (by decide)) hz1)
  go_ret
  exact ⟨rfl, by (repeat (first | (with_reducible exact Up.refl _) | (with_reducible assumption) | (with_reducible refine Up.alloc ?_ _) | (with_reducible refine Up.drew ?_) | (with_reducible refine Up.store ?_ ?_ _) | (with_reducible refine Up.trans ?_ (by assumption)) | (exact Nat.le_refl _) | (exact Nat.le_add_right _ _) | (go_light; omega)))⟩

theorem c_IsValidCrest (k a t r : Int) (w : World) : Calls Try.prog 16 #[.agg #[.int .i64 k, .int .i64 a, .int .i64 t, .int .i64 r]] w fun e w' => e = .returned (.bool (goodC k a t r)) ∧ Up w w' := by
  go_enter Try.func16, Try.ntmps16
  go_wp2_with (first | (go_at_call 22; refine (c_isRank _ _).mono ?_; rintro e w' ⟨rfl, rfl⟩) | (go_at_call 31; refine (c_cgroup _ _ _ _ _).mono ?_; rintro e w1 ⟨rfl, hb1⟩; obtain ⟨hc1, hf1, hz1⟩ := hb1.use (N := w.heap.size + 1) (by first | (simp; done) | omega | (simp; omega)); have hy0 : w.heap.size < w1.heap.size := Nat.lt_of_lt_of_le (Nat.lt_add_of_pos_right (by decide)) hz1) | (go_at_call 30; refine (c_IsValidGroup _ _ _ _ _).mono ?_; rintro e w1 ⟨rfl, hb1⟩; obtain ⟨hc1, hf1, hz1⟩ := hb1.use (N := w.heap.size + 1) (by first | (simp; done) | omega | (simp; omega)); have hy0 : w.heap.size < w1.heap.size := Nat.lt_of_lt_of_le (Nat.lt_add_of_pos_right (by decide)) hz1))
  all_goals go_ret
  all_goals exact ⟨ret_bool (by rw [Bool.eq_iff_iff]; go_light; simp_all [goodC] <;> (first | omega | (intros; omega))), by (repeat (first | (with_reducible exact Up.refl _) | (with_reducible assumption) | (with_reducible refine Up.alloc ?_ _) | (with_reducible refine Up.drew ?_) | (with_reducible refine Up.store ?_ ?_ _) | (with_reducible refine Up.trans ?_ (by assumption)) | (exact Nat.le_refl _) | (exact Nat.le_add_right _ _) | (go_light; omega)))⟩

theorem c_toCrest (k a t r : Int) (w : World) : Calls Try.prog 15 #[.agg #[.int .i64 k, .int .i64 a, .int .i64 t, .int .i64 r]] w fun e w' => e = .returned (.agg #[.int .i64 k, .int .i64 a, .int .i64 t, .int .i64 r]) ∧ Up w w' := by
  go_enter Try.func15, Try.ntmps15
  go_wp2
  exact bodyPost_ret (v := .agg #[.int .i64 k, .int .i64 a, .int .i64 t, .int .i64 r]) (by simp [results, Try.results15, go_sem]) rfl ⟨rfl, by (repeat (first | (with_reducible exact Up.refl _) | (with_reducible assumption) | (with_reducible refine Up.alloc ?_ _) | (with_reducible refine Up.drew ?_) | (with_reducible refine Up.store ?_ ?_ _) | (with_reducible refine Up.trans ?_ (by assumption)) | (exact Nat.le_refl _) | (exact Nat.le_add_right _ _) | (go_light; omega)))⟩

theorem c_eqCrest (k a t r k' a' t' r' : Int) (w : World) : Calls Try.prog 19 #[.agg #[.int .i64 k, .int .i64 a, .int .i64 t, .int .i64 r], .agg #[.int .i64 k', .int .i64 a', .int .i64 t', .int .i64 r']] w fun e w' => e = .returned (.bool (decide (k = k' ∧ a = a' ∧ t = t' ∧ r = r'))) ∧ Up w w' := by
  go_enter Try.func19, Try.ntmps19
  go_wp2
  all_goals go_ret
  all_goals exact ⟨ret_bool (by rw [Bool.eq_iff_iff]; go_light; simp_all <;> (first | omega | (intros; omega))), by (repeat (first | (with_reducible exact Up.refl _) | (with_reducible assumption) | (with_reducible refine Up.alloc ?_ _) | (with_reducible refine Up.drew ?_) | (with_reducible refine Up.store ?_ ?_ _) | (with_reducible refine Up.trans ?_ (by assumption)) | (exact Nat.le_refl _) | (exact Nat.le_add_right _ _) | (go_light; omega)))⟩

set_option maxHeartbeats 1000000 in
theorem c_sRaiseRank_no (k a t r s : Int) (hr : I64 r) (hs : I64 s) (h : (goodC k a t r && inB (r + s) 1 5) = false) (w : World) : Calls Try.prog 17 #[.agg #[.int .i64 k, .int .i64 a, .int .i64 t, .int .i64 r], .int .i64 s] w fun e w' => e = .returned (.tuple #[.agg #[.int .i64 0, .int .i64 0, .int .i64 0, .int .i64 0], .bool false]) ∧ Up w w' := by
  cases h1 : goodC k a t r with
  | false =>
    clear h
    go_enter Try.func17, Try.ntmps17
    go_wp2_with (go_at_call 29; refine (c_l22Good _ _ _ _ _).mono ?_; rintro e w1 ⟨rfl, hb1⟩; obtain ⟨hc1, hf1, hz1⟩ := hb1.use (N := w.heap.size + 2) (by first | (simp; done) | omega | (simp; omega)); have hy0 : w.heap.size < w1.heap.size := Nat.lt_of_lt_of_le (Nat.lt_add_of_pos_right (by decide)) hz1; have hy1 : w.heap.size + 1 < w1.heap.size := Nat.lt_of_lt_of_le (Nat.add_lt_add_left (by decide : 1 < 2) _) hz1)
    exact bodyPost_ret (v := .tuple #[.agg #[.int .i64 0, .int .i64 0, .int .i64 0, .int .i64 0], .bool false]) (by simp [results, Try.results17, go_sem, hc1]) rfl ⟨rfl, by (repeat (first | (with_reducible exact Up.refl _) | (with_reducible assumption) | (with_reducible refine Up.alloc ?_ _) | (with_reducible refine Up.drew ?_) | (with_reducible refine Up.store ?_ ?_ _) | (with_reducible refine Up.trans ?_ (by assumption)) | (exact Nat.le_refl _) | (exact Nat.le_add_right _ _) | (go_light; omega)))⟩
  | true =>
    have hr5 : inB r 1 5 = true := by simp [goodC] at h1; exact h1.2
    have hb := inB_true hr5
    rw [h1, Bool.true_and] at h
    cases h2 : inB s (-10) 10 with
    | false =>
      clear h
      go_enter Try.func17, Try.ntmps17
      go_wp2_with (first | (go_at_call 29; refine (c_l22Good _ _ _ _ _).mono ?_; rintro e w1 ⟨rfl, hb1⟩; obtain ⟨hc1, hf1, hz1⟩ := hb1.use (N := w.heap.size + 2) (by first | (simp; done) | omega | (simp; omega)); have hy0 : w.heap.size < w1.heap.size := Nat.lt_of_lt_of_le (Nat.lt_add_of_pos_right (by decide)) hz1; have hy1 : w.heap.size + 1 < w1.heap.size := Nat.lt_of_lt_of_le (Nat.add_lt_add_left (by decide : 1 < 2) _) hz1) | (go_at_call 26; refine (c_l1In _ _ _ _).mono ?_; rintro e w' ⟨rfl, rfl⟩))
      exact bodyPost_ret (v := .tuple #[.agg #[.int .i64 0, .int .i64 0, .int .i64 0, .int .i64 0], .bool false]) (by simp [results, Try.results17, go_sem, hc1]) rfl ⟨rfl, by (repeat (first | (with_reducible exact Up.refl _) | (with_reducible assumption) | (with_reducible refine Up.alloc ?_ _) | (with_reducible refine Up.drew ?_) | (with_reducible refine Up.store ?_ ?_ _) | (with_reducible refine Up.trans ?_ (by assumption)) | (exact Nat.le_refl _) | (exact Nat.le_add_right _ _) | (go_light; omega)))⟩
    | true =>
      have hb2 := inB_true h2
      obtain ⟨b1, b2⟩ := hb
      obtain ⟨b3, b4⟩ := hb2
      go_enter Try.func17, Try.ntmps17
      go_wp2_with (first | (go_at_call 29; refine (c_l22Good _ _ _ _ _).mono ?_; rintro e w1 ⟨rfl, hb1⟩; obtain ⟨hc1, hf1, hz1⟩ := hb1.use (N := w.heap.size + 2) (by first | (simp; done) | omega | (simp; omega)); have hy0 : w.heap.size < w1.heap.size := Nat.lt_of_lt_of_le (Nat.lt_add_of_pos_right (by decide)) hz1; have hy1 : w.heap.size + 1 < w1.heap.size := Nat.lt_of_lt_of_le (Nat.add_lt_add_left (by decide : 1 < 2) _) hz1) | (go_at_call 26; refine (c_l1In _ _ _ _).mono ?_; rintro e w' ⟨rfl, rfl⟩) | (go_at_call 20; refine (c_l22Rank _ _).mono ?_; rintro e w' ⟨rfl, rfl⟩))
      exact bodyPost_ret (v := .tuple #[.agg #[.int .i64 0, .int .i64 0, .int .i64 0, .int .i64 0], .bool false]) (by simp [results, Try.results17, go_sem, hc1]) rfl ⟨rfl, by (repeat (first | (with_reducible exact Up.refl _) | (with_reducible assumption) | (with_reducible refine Up.alloc ?_ _) | (with_reducible refine Up.drew ?_) | (with_reducible refine Up.store ?_ ?_ _) | (with_reducible refine Up.trans ?_ (by assumption)) | (exact Nat.le_refl _) | (exact Nat.le_add_right _ _) | (go_light; omega)))⟩
set_option maxHeartbeats 1000000 in
theorem c_sRaiseRank_yes (k a t r s : Int) (h1 : goodC k a t r = true) (h : inB (r + s) 1 5 = true) (w : World) : Calls Try.prog 17 #[.agg #[.int .i64 k, .int .i64 a, .int .i64 t, .int .i64 r], .int .i64 s] w fun e w' => e = .returned (.tuple #[.agg #[.int .i64 k, .int .i64 a, .int .i64 t, .int .i64 (r + s)], .bool true]) ∧ Up w w' := by
  have hr5 : inB r 1 5 = true := by simp [goodC] at h1; exact h1.2
  have hb := inB_true hr5
  have hb' := inB_true h
  have h2 : inB s (-10) 10 = true := by simp [inB]; omega
  obtain ⟨b1, b2⟩ := hb
  obtain ⟨b3, b4⟩ := hb'
  go_enter Try.func17, Try.ntmps17
  go_wp2_with (first | (go_at_call 29; refine (c_l22Good _ _ _ _ _).mono ?_; rintro e w1 ⟨rfl, hb1⟩; obtain ⟨hc1, hf1, hz1⟩ := hb1.use (N := w.heap.size + 2) (by first | (simp; done) | omega | (simp; omega)); have hy0 : w.heap.size < w1.heap.size := Nat.lt_of_lt_of_le (Nat.lt_add_of_pos_right (by decide)) hz1; have hy1 : w.heap.size + 1 < w1.heap.size := Nat.lt_of_lt_of_le (Nat.add_lt_add_left (by decide : 1 < 2) _) hz1) | (go_at_call 26; refine (c_l1In _ _ _ _).mono ?_; rintro e w' ⟨rfl, rfl⟩) | (go_at_call 20; refine (c_l22Rank _ _).mono ?_; rintro e w' ⟨rfl, rfl⟩))
  exact bodyPost_ret (v := .tuple #[.agg #[.int .i64 k, .int .i64 a, .int .i64 t, .int .i64 (r + s)], .bool true]) (by simp [results, Try.results17, go_sem, hc1, hy0, hy1]) rfl ⟨rfl, by (repeat (first | (with_reducible exact Up.refl _) | (with_reducible assumption) | (with_reducible refine Up.alloc ?_ _) | (with_reducible refine Up.drew ?_) | (with_reducible refine Up.store ?_ ?_ _) | (with_reducible refine Up.trans ?_ (by assumption)) | (exact Nat.le_refl _) | (exact Nat.le_add_right _ _) | (go_light; omega)))⟩

set_option maxHeartbeats 1000000 in
theorem c_RaiseRank_no (k a t r s : Int) (hr : I64 r) (hs : I64 s) (h : (goodC k a t r && inB (r + s) 1 5) = false) (w : World) : Calls Try.prog 18 #[.agg #[.int .i64 k, .int .i64 a, .int .i64 t, .int .i64 r], .int .i64 s] w fun e w' => e = .returned (.tuple #[.agg #[.int .i64 0, .int .i64 0, .int .i64 0, .int .i64 0], .bool false]) ∧ Up w w' := by
  cases h1 : goodC k a t r with
  | false =>
    clear h
    go_enter Try.func18, Try.ntmps18
    go_wp2_with (go_at_call 16; refine (c_IsValidCrest _ _ _ _ _).mono ?_; rintro e w1 ⟨rfl, hb1⟩; obtain ⟨hc1, hf1, hz1⟩ := hb1.use (N := w.heap.size + 2) (by first | (simp; done) | omega | (simp; omega)); have hy0 : w.heap.size < w1.heap.size := Nat.lt_of_lt_of_le (Nat.lt_add_of_pos_right (by decide)) hz1; have hy1 : w.heap.size + 1 < w1.heap.size := Nat.lt_of_lt_of_le (Nat.add_lt_add_left (by decide : 1 < 2) _) hz1)
    exact bodyPost_ret (v := .tuple #[.agg #[.int .i64 0, .int .i64 0, .int .i64 0, .int .i64 0], .bool false]) (by simp [results, Try.results18, go_sem, hc1]) rfl ⟨rfl, by (repeat (first | (with_reducible exact Up.refl _) | (with_reducible assumption) | (with_reducible refine Up.alloc ?_ _) | (with_reducible refine Up.drew ?_) | (with_reducible refine Up.store ?_ ?_ _) | (with_reducible refine Up.trans ?_ (by assumption)) | (exact Nat.le_refl _) | (exact Nat.le_add_right _ _) | (go_light; omega)))⟩
  | true =>
    have hr5 : inB r 1 5 = true := by simp [goodC] at h1; exact h1.2
    have hb := inB_true hr5
    rw [h1, Bool.true_and] at h
    cases h2 : inB s (-5) 5 with
    | false =>
      clear h
      go_enter Try.func18, Try.ntmps18
      go_wp2_with (first | (go_at_call 16; refine (c_IsValidCrest _ _ _ _ _).mono ?_; rintro e w1 ⟨rfl, hb1⟩; obtain ⟨hc1, hf1, hz1⟩ := hb1.use (N := w.heap.size + 2) (by first | (simp; done) | omega | (simp; omega)); have hy0 : w.heap.size < w1.heap.size := Nat.lt_of_lt_of_le (Nat.lt_add_of_pos_right (by decide)) hz1; have hy1 : w.heap.size + 1 < w1.heap.size := Nat.lt_of_lt_of_le (Nat.add_lt_add_left (by decide : 1 < 2) _) hz1) | (go_at_call 28; refine (c_inside _ _ _ _).mono ?_; rintro e w' ⟨rfl, rfl⟩))
      exact bodyPost_ret (v := .tuple #[.agg #[.int .i64 0, .int .i64 0, .int .i64 0, .int .i64 0], .bool false]) (by simp [results, Try.results18, go_sem, hc1]) rfl ⟨rfl, by (repeat (first | (with_reducible exact Up.refl _) | (with_reducible assumption) | (with_reducible refine Up.alloc ?_ _) | (with_reducible refine Up.drew ?_) | (with_reducible refine Up.store ?_ ?_ _) | (with_reducible refine Up.trans ?_ (by assumption)) | (exact Nat.le_refl _) | (exact Nat.le_add_right _ _) | (go_light; omega)))⟩
    | true =>
      have hb2 := inB_true h2
      obtain ⟨b1, b2⟩ := hb
      obtain ⟨b3, b4⟩ := hb2
      go_enter Try.func18, Try.ntmps18
      go_wp2_with (first | (go_at_call 16; refine (c_IsValidCrest _ _ _ _ _).mono ?_; rintro e w1 ⟨rfl, hb1⟩; obtain ⟨hc1, hf1, hz1⟩ := hb1.use (N := w.heap.size + 2) (by first | (simp; done) | omega | (simp; omega)); have hy0 : w.heap.size < w1.heap.size := Nat.lt_of_lt_of_le (Nat.lt_add_of_pos_right (by decide)) hz1; have hy1 : w.heap.size + 1 < w1.heap.size := Nat.lt_of_lt_of_le (Nat.add_lt_add_left (by decide : 1 < 2) _) hz1) | (go_at_call 28; refine (c_inside _ _ _ _).mono ?_; rintro e w' ⟨rfl, rfl⟩) | (go_at_call 22; refine (c_isRank _ _).mono ?_; rintro e w' ⟨rfl, rfl⟩))
      exact bodyPost_ret (v := .tuple #[.agg #[.int .i64 0, .int .i64 0, .int .i64 0, .int .i64 0], .bool false]) (by simp [results, Try.results18, go_sem, hc1]) rfl ⟨rfl, by (repeat (first | (with_reducible exact Up.refl _) | (with_reducible assumption) | (with_reducible refine Up.alloc ?_ _) | (with_reducible refine Up.drew ?_) | (with_reducible refine Up.store ?_ ?_ _) | (with_reducible refine Up.trans ?_ (by assumption)) | (exact Nat.le_refl _) | (exact Nat.le_add_right _ _) | (go_light; omega)))⟩
set_option maxHeartbeats 1000000 in
theorem c_RaiseRank_yes (k a t r s : Int) (h1 : goodC k a t r = true) (h : inB (r + s) 1 5 = true) (w : World) : Calls Try.prog 18 #[.agg #[.int .i64 k, .int .i64 a, .int .i64 t, .int .i64 r], .int .i64 s] w fun e w' => e = .returned (.tuple #[.agg #[.int .i64 k, .int .i64 a, .int .i64 t, .int .i64 (r + s)], .bool true]) ∧ Up w w' := by
  have hr5 : inB r 1 5 = true := by simp [goodC] at h1; exact h1.2
  have hb := inB_true hr5
  have hb' := inB_true h
  have h2 : inB s (-5) 5 = true := by simp [inB]; omega
  obtain ⟨b1, b2⟩ := hb
  obtain ⟨b3, b4⟩ := hb'
  go_enter Try.func18, Try.ntmps18
  go_wp2_with (first | (go_at_call 16; refine (c_IsValidCrest _ _ _ _ _).mono ?_; rintro e w1 ⟨rfl, hb1⟩; obtain ⟨hc1, hf1, hz1⟩ := hb1.use (N := w.heap.size + 2) (by first | (simp; done) | omega | (simp; omega)); have hy0 : w.heap.size < w1.heap.size := Nat.lt_of_lt_of_le (Nat.lt_add_of_pos_right (by decide)) hz1; have hy1 : w.heap.size + 1 < w1.heap.size := Nat.lt_of_lt_of_le (Nat.add_lt_add_left (by decide : 1 < 2) _) hz1) | (go_at_call 28; refine (c_inside _ _ _ _).mono ?_; rintro e w' ⟨rfl, rfl⟩) | (go_at_call 22; refine (c_isRank _ _).mono ?_; rintro e w' ⟨rfl, rfl⟩))
  exact bodyPost_ret (v := .tuple #[.agg #[.int .i64 k, .int .i64 a, .int .i64 t, .int .i64 (r + s)], .bool true]) (by simp [results, Try.results18, go_sem, hc1, hy0, hy1]) rfl ⟨rfl, by (repeat (first | (with_reducible exact Up.refl _) | (with_reducible assumption) | (with_reducible refine Up.alloc ?_ _) | (with_reducible refine Up.drew ?_) | (with_reducible refine Up.store ?_ ?_ _) | (with_reducible refine Up.trans ?_ (by assumption)) | (exact Nat.le_refl _) | (exact Nat.le_add_right _ _) | (go_light; omega)))⟩

end Go.Proofs.Ytojnomplchlcdaa
