/- Contracts and lemmas (Mb) for the laws of this seat: what the Go functions named here return, for all arguments that each theorem states; no further conditions. -/
import Derived.Test.YtbljimjanoondaaData
import Derived.Test.YtbljimjanoondaaLawA
import Derived.Test.YtbljimjanoondaaLawT
import Derived.Test.YtbljimjanoondaaMa
import Derived.Test.YtbljimjanoondaaMem
import Derived.Test.YtbljimjanoondaaMemA
import Derived.Test.YtbljimjanoondaaTinc
import Derived.Test.YtbljimjanoondaaUp
import Derived.Test.YtbljimjanoondaaWb
import Derived.Test.YtbljimjanoondaaWc
import Derived.Test.YtbljimjanoondaaWd
import Derived.Test.YtbljimjanoondaaWr
import Derived.Test.YtbljimjanoondaaWrOf
import Derived.Test.YtbljimjanoondaaRows
import Derived.WalkKit
import Derived.ProofKit
import Derived.OpenShut
import Derived.WalkLawsBesides
import Derived.Lib.Hide
import Derived.Deep.QuietTactic
import Derived.BigQuiet
import Derived.Deep.Light
import Derived.Handy
namespace Go.Proofs.Ytbljimjanoondaa
set_option maxRecDepth 100000
open Go.ChangeShapes Go.WideShapes Go.ChangeAt Go.RowKit
set_option linter.unusedVariables false
set_option linter.unusedSimpArgs false

set_option maxHeartbeats 2000000 in
theorem c_MatchesArms_yes (k a t r : Int) (A : Arms) (hc : goodC k a t r = true) (h : goodA A = true) (w : World) : Calls Try.prog 19 #[.agg #[.int .i64 k, .int .i64 a, .int .i64 t, .int .i64 r], .agg A.arr] w fun e w' => e = .returned (.tuple #[.bool (kindIs A k && tincIs A t), .bool true]) ∧ Up w w' := by
  generalize hM : outM (tinc A) = M
  generalize hC : outC (tinc A) = C
  have HKK : Hid (kindIs A k = ((A.k1 == k) || (A.k2 == k))) := Lib.hid (by unfold kindIs; rw [Bool.decide_or]; rfl)
  have HTT : Hid (tincIs A t = ((t == M) || (t == C))) := Lib.hid (by unfold tincIs; rw [hM, hC, Bool.decide_or]; rfl)
  have hw : ∀ w0, Calls Try.prog 52 #[.agg A.arr] w0 fun e w' => e = .returned (.tuple #[.int .i64 M, .int .i64 C]) ∧ Up w0 w' := fun w0 => by
    have := c_wreath A w0
    rwa [hM, hC] at this
  have HW := Lib.hid hw
  clear hM hC hw
  go_enter Try.func19, Try.ntmps19
  go_upto_region 4 with (first | (refine wpList_load_agg 44 _ rfl rfl _ _ rfl A.arr _ (box_range (w := w.alloc _) (t := 44) (by (repeat (first | (with_reducible exact Up.refl _) | (with_reducible assumption) | (with_reducible refine Up.alloc ?_ _) | (with_reducible refine Up.drew ?_) | (with_reducible refine Up.drewN ?_ _) | (with_reducible refine Up.store ?_ ?_ _) | (with_reducible refine Up.trans ?_ (by assumption)) | (exact Nat.le_refl _) | (exact Nat.le_add_right _ _) | (go_light; omega))))) Try.underlying44 rfl infoA ?_) | (go_at_call 50; refine (c_IsValidCrest _ _ _ _ _).mono ?_; rintro e w1 ⟨rfl, hb1⟩; obtain ⟨hc1, hf1, hz1⟩ := hb1.use (N := w.heap.size + 2) (by first | (simp; done) | omega | (simp; omega)); have hy0 : w.heap.size < w1.heap.size := Nat.lt_of_lt_of_le (Nat.lt_add_of_pos_right (by decide)) hz1; have hy1 : w.heap.size + 1 < w1.heap.size := Nat.lt_of_lt_of_le (Nat.add_lt_add_left (by decide : 1 < 2) _) hz1) | (go_at_call 51; refine (c_IsValidArms _ _).mono ?_; rintro e w1 ⟨rfl, hb1⟩; obtain ⟨hc1, hf1, hz1⟩ := hb1.use (N := w.heap.size + 2) (by first | (simp; done) | omega | (simp; omega)); have hy0 : w.heap.size < w1.heap.size := Nat.lt_of_lt_of_le (Nat.lt_add_of_pos_right (by decide)) hz1; have hy1 : w.heap.size + 1 < w1.heap.size := Nat.lt_of_lt_of_le (Nat.add_lt_add_left (by decide : 1 < 2) _) hz1) | (go_at_call 52; refine (HW.out _).mono ?_; rintro e w1 ⟨rfl, hb1⟩; obtain ⟨hc1, hf1, hz1⟩ := hb1.use (N := w.heap.size + 2) (by first | (simp; done) | omega | (simp; omega)); have hy0 : w.heap.size < w1.heap.size := Nat.lt_of_lt_of_le (Nat.lt_add_of_pos_right (by decide)) hz1; have hy1 : w.heap.size + 1 < w1.heap.size := Nat.lt_of_lt_of_le (Nat.add_lt_add_left (by decide : 1 < 2) _) hz1))
  cases hd1 : (A.k1 == k) <;> cases hd2 : (A.k2 == k) <;> cases hd3 : (t == M) <;> cases hd4 : (t == C)
  all_goals go_wp2
  all_goals go_ret2
  all_goals exact ⟨by rw [HKK.out, HTT.out, hd1, hd2, hd3, hd4]; rfl, by (repeat (first | (with_reducible exact Up.refl _) | (with_reducible assumption) | (with_reducible refine Up.alloc ?_ _) | (with_reducible refine Up.drew ?_) | (with_reducible refine Up.drewN ?_ _) | (with_reducible refine Up.store ?_ ?_ _) | (with_reducible refine Up.trans ?_ (by assumption)) | (exact Nat.le_refl _) | (exact Nat.le_add_right _ _) | (go_light; omega)))⟩

set_option maxHeartbeats 2000000 in
theorem c_sMatchesArms_no (k a t r : Int) (A : Arms) (h : (goodC k a t r && goodA A) = false) (w : World) : Calls Try.prog 16 #[.agg #[.int .i64 k, .int .i64 a, .int .i64 t, .int .i64 r], .agg A.arr] w fun e w' => e = .returned (.tuple #[.bool false, .bool false]) ∧ Up w w' := by
  cases hc : goodC k a t r
  · clear h
    go_enter Try.func16, Try.ntmps16
    go_wp2_with (first | (refine wpList_load_agg 44 _ rfl rfl _ _ rfl A.arr _ (box_range (w := w.alloc _) (t := 44) (by (repeat (first | (with_reducible exact Up.refl _) | (with_reducible assumption) | (with_reducible refine Up.alloc ?_ _) | (with_reducible refine Up.drew ?_) | (with_reducible refine Up.drewN ?_ _) | (with_reducible refine Up.store ?_ ?_ _) | (with_reducible refine Up.trans ?_ (by assumption)) | (exact Nat.le_refl _) | (exact Nat.le_add_right _ _) | (go_light; omega))))) Try.underlying44 rfl infoA ?_) | (go_at_call 44; refine (c_l22Good _ _ _ _ _).mono ?_; rintro e w1 ⟨rfl, hb1⟩; obtain ⟨hc1, hf1, hz1⟩ := hb1.use (N := w.heap.size + 2) (by first | (simp; done) | omega | (simp; omega)); have hy0 : w.heap.size < w1.heap.size := Nat.lt_of_lt_of_le (Nat.lt_add_of_pos_right (by decide)) hz1; have hy1 : w.heap.size + 1 < w1.heap.size := Nat.lt_of_lt_of_le (Nat.add_lt_add_left (by decide : 1 < 2) _) hz1) | (go_at_call 45; refine (c_l5Good _ _).mono ?_; rintro e w1 ⟨rfl, hb1⟩; obtain ⟨hc1, hf1, hz1⟩ := hb1.use (N := w.heap.size + 2) (by first | (simp; done) | omega | (simp; omega)); have hy0 : w.heap.size < w1.heap.size := Nat.lt_of_lt_of_le (Nat.lt_add_of_pos_right (by decide)) hz1; have hy1 : w.heap.size + 1 < w1.heap.size := Nat.lt_of_lt_of_le (Nat.add_lt_add_left (by decide : 1 < 2) _) hz1))
    go_ret2
    exact ⟨rfl, by (repeat (first | (with_reducible exact Up.refl _) | (with_reducible assumption) | (with_reducible refine Up.alloc ?_ _) | (with_reducible refine Up.drew ?_) | (with_reducible refine Up.drewN ?_ _) | (with_reducible refine Up.store ?_ ?_ _) | (with_reducible refine Up.trans ?_ (by assumption)) | (exact Nat.le_refl _) | (exact Nat.le_add_right _ _) | (go_light; omega)))⟩
  · have hA : goodA A = false := by simpa [hc] using h
    clear h
    go_enter Try.func16, Try.ntmps16
    go_wp2_with (first | (refine wpList_load_agg 44 _ rfl rfl _ _ rfl A.arr _ (box_range (w := w.alloc _) (t := 44) (by (repeat (first | (with_reducible exact Up.refl _) | (with_reducible assumption) | (with_reducible refine Up.alloc ?_ _) | (with_reducible refine Up.drew ?_) | (with_reducible refine Up.drewN ?_ _) | (with_reducible refine Up.store ?_ ?_ _) | (with_reducible refine Up.trans ?_ (by assumption)) | (exact Nat.le_refl _) | (exact Nat.le_add_right _ _) | (go_light; omega))))) Try.underlying44 rfl infoA ?_) | (go_at_call 44; refine (c_l22Good _ _ _ _ _).mono ?_; rintro e w1 ⟨rfl, hb1⟩; obtain ⟨hc1, hf1, hz1⟩ := hb1.use (N := w.heap.size + 2) (by first | (simp; done) | omega | (simp; omega)); have hy0 : w.heap.size < w1.heap.size := Nat.lt_of_lt_of_le (Nat.lt_add_of_pos_right (by decide)) hz1; have hy1 : w.heap.size + 1 < w1.heap.size := Nat.lt_of_lt_of_le (Nat.add_lt_add_left (by decide : 1 < 2) _) hz1) | (go_at_call 45; refine (c_l5Good _ _).mono ?_; rintro e w1 ⟨rfl, hb1⟩; obtain ⟨hc1, hf1, hz1⟩ := hb1.use (N := w.heap.size + 2) (by first | (simp; done) | omega | (simp; omega)); have hy0 : w.heap.size < w1.heap.size := Nat.lt_of_lt_of_le (Nat.lt_add_of_pos_right (by decide)) hz1; have hy1 : w.heap.size + 1 < w1.heap.size := Nat.lt_of_lt_of_le (Nat.add_lt_add_left (by decide : 1 < 2) _) hz1))
    go_ret2
    exact ⟨rfl, by (repeat (first | (with_reducible exact Up.refl _) | (with_reducible assumption) | (with_reducible refine Up.alloc ?_ _) | (with_reducible refine Up.drew ?_) | (with_reducible refine Up.drewN ?_ _) | (with_reducible refine Up.store ?_ ?_ _) | (with_reducible refine Up.trans ?_ (by assumption)) | (exact Nat.le_refl _) | (exact Nat.le_add_right _ _) | (go_light; omega)))⟩

set_option maxHeartbeats 2000000 in
theorem c_MatchesArms_no (k a t r : Int) (A : Arms) (h : (goodC k a t r && goodA A) = false) (w : World) : Calls Try.prog 19 #[.agg #[.int .i64 k, .int .i64 a, .int .i64 t, .int .i64 r], .agg A.arr] w fun e w' => e = .returned (.tuple #[.bool false, .bool false]) ∧ Up w w' := by
  cases hc : goodC k a t r
  · clear h
    go_enter Try.func19, Try.ntmps19
    go_wp2_with (first | (refine wpList_load_agg 44 _ rfl rfl _ _ rfl A.arr _ (box_range (w := w.alloc _) (t := 44) (by (repeat (first | (with_reducible exact Up.refl _) | (with_reducible assumption) | (with_reducible refine Up.alloc ?_ _) | (with_reducible refine Up.drew ?_) | (with_reducible refine Up.drewN ?_ _) | (with_reducible refine Up.store ?_ ?_ _) | (with_reducible refine Up.trans ?_ (by assumption)) | (exact Nat.le_refl _) | (exact Nat.le_add_right _ _) | (go_light; omega))))) Try.underlying44 rfl infoA ?_) | (go_at_call 50; refine (c_IsValidCrest _ _ _ _ _).mono ?_; rintro e w1 ⟨rfl, hb1⟩; obtain ⟨hc1, hf1, hz1⟩ := hb1.use (N := w.heap.size + 2) (by first | (simp; done) | omega | (simp; omega)); have hy0 : w.heap.size < w1.heap.size := Nat.lt_of_lt_of_le (Nat.lt_add_of_pos_right (by decide)) hz1; have hy1 : w.heap.size + 1 < w1.heap.size := Nat.lt_of_lt_of_le (Nat.add_lt_add_left (by decide : 1 < 2) _) hz1) | (go_at_call 51; refine (c_IsValidArms _ _).mono ?_; rintro e w1 ⟨rfl, hb1⟩; obtain ⟨hc1, hf1, hz1⟩ := hb1.use (N := w.heap.size + 2) (by first | (simp; done) | omega | (simp; omega)); have hy0 : w.heap.size < w1.heap.size := Nat.lt_of_lt_of_le (Nat.lt_add_of_pos_right (by decide)) hz1; have hy1 : w.heap.size + 1 < w1.heap.size := Nat.lt_of_lt_of_le (Nat.add_lt_add_left (by decide : 1 < 2) _) hz1))
    go_ret2
    exact ⟨rfl, by (repeat (first | (with_reducible exact Up.refl _) | (with_reducible assumption) | (with_reducible refine Up.alloc ?_ _) | (with_reducible refine Up.drew ?_) | (with_reducible refine Up.drewN ?_ _) | (with_reducible refine Up.store ?_ ?_ _) | (with_reducible refine Up.trans ?_ (by assumption)) | (exact Nat.le_refl _) | (exact Nat.le_add_right _ _) | (go_light; omega)))⟩
  · have hA : goodA A = false := by simpa [hc] using h
    clear h
    go_enter Try.func19, Try.ntmps19
    go_wp2_with (first | (refine wpList_load_agg 44 _ rfl rfl _ _ rfl A.arr _ (box_range (w := w.alloc _) (t := 44) (by (repeat (first | (with_reducible exact Up.refl _) | (with_reducible assumption) | (with_reducible refine Up.alloc ?_ _) | (with_reducible refine Up.drew ?_) | (with_reducible refine Up.drewN ?_ _) | (with_reducible refine Up.store ?_ ?_ _) | (with_reducible refine Up.trans ?_ (by assumption)) | (exact Nat.le_refl _) | (exact Nat.le_add_right _ _) | (go_light; omega))))) Try.underlying44 rfl infoA ?_) | (go_at_call 50; refine (c_IsValidCrest _ _ _ _ _).mono ?_; rintro e w1 ⟨rfl, hb1⟩; obtain ⟨hc1, hf1, hz1⟩ := hb1.use (N := w.heap.size + 2) (by first | (simp; done) | omega | (simp; omega)); have hy0 : w.heap.size < w1.heap.size := Nat.lt_of_lt_of_le (Nat.lt_add_of_pos_right (by decide)) hz1; have hy1 : w.heap.size + 1 < w1.heap.size := Nat.lt_of_lt_of_le (Nat.add_lt_add_left (by decide : 1 < 2) _) hz1) | (go_at_call 51; refine (c_IsValidArms _ _).mono ?_; rintro e w1 ⟨rfl, hb1⟩; obtain ⟨hc1, hf1, hz1⟩ := hb1.use (N := w.heap.size + 2) (by first | (simp; done) | omega | (simp; omega)); have hy0 : w.heap.size < w1.heap.size := Nat.lt_of_lt_of_le (Nat.lt_add_of_pos_right (by decide)) hz1; have hy1 : w.heap.size + 1 < w1.heap.size := Nat.lt_of_lt_of_le (Nat.add_lt_add_left (by decide : 1 < 2) _) hz1))
    go_ret2
    exact ⟨rfl, by (repeat (first | (with_reducible exact Up.refl _) | (with_reducible assumption) | (with_reducible refine Up.alloc ?_ _) | (with_reducible refine Up.drew ?_) | (with_reducible refine Up.drewN ?_ _) | (with_reducible refine Up.store ?_ ?_ _) | (with_reducible refine Up.trans ?_ (by assumption)) | (exact Nat.le_refl _) | (exact Nat.le_add_right _ _) | (go_light; omega)))⟩

end Go.Proofs.Ytbljimjanoondaa
