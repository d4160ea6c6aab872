/- Contracts and lemmas (EqL) for the laws of this seat: what the Go functions named here return, for all arguments that each theorem states; no further conditions. -/
import Derived.Test.YtbljimjanoondaaData
import Derived.Test.YtbljimjanoondaaEq
import Derived.Test.YtbljimjanoondaaLawA
import Derived.Test.YtbljimjanoondaaMem
import Derived.Test.YtbljimjanoondaaMemA
import Derived.Test.YtbljimjanoondaaOpen
import Derived.Test.YtbljimjanoondaaTail
import Derived.Test.YtbljimjanoondaaUp
import Derived.Test.YtbljimjanoondaaRows
import Derived.StillTailTactics
import Derived.WalkKit
import Derived.ProofKit
import Derived.OpenShut
import Derived.WalkLawsBesides
import Derived.Lib.Hide
import Derived.Deep.QuietTactic
import Derived.BigQuiet
import Derived.Deep.Light
import Derived.Handy
namespace Go.Proofs.Ytbljimjanoondaa
set_option maxRecDepth 100000
open Go.ChangeShapes Go.WideShapes Go.ChangeAt Go.RowKit
set_option linter.unusedVariables false
set_option linter.unusedSimpArgs false

theorem c_szArmsS (A : Option Addr) (cap : Nat) (l : List Arms) (left : Int) (w : World) (hl : 0 ≤ left ∧ left ≤ 1048576) (hmax : l.length ≤ 9223372036854775807) :
    Calls Try.prog 11 #[.slice A l.length cap, .int .i64 left] w fun e w' => e = .returned (.int .i64 (if l.length ≤ left then left - l.length else -1)) ∧ w' = w := by
  go_enter Try.func11, Try.ntmps11
  go_wp2
  all_goals go_ret
  all_goals exact ⟨ret_int (by first | rfl | (split <;> omega)), rfl⟩

set_option maxHeartbeats 1000000 in
theorem c_eqField (a b c d : Int) (w : World) : Calls Try.prog 65 #[.agg #[.int .i64 a, .int .i64 b, .int .i64 c, .int .i64 d], .agg #[.int .i64 a, .int .i64 b, .int .i64 c, .int .i64 d]] w fun e w' => e = .returned (.bool true) ∧ Up w w' := by
  go_enter Try.func65, Try.ntmps65
  go_wp2
  go_ret
  exact ⟨rfl, by (repeat (first | (with_reducible exact Up.refl _) | (with_reducible assumption) | (with_reducible refine Up.alloc ?_ _) | (with_reducible refine Up.drew ?_) | (with_reducible refine Up.drewN ?_ _) | (with_reducible refine Up.store ?_ ?_ _) | (with_reducible refine Up.trans ?_ (by assumption)) | (exact Nat.le_refl _) | (exact Nat.le_add_right _ _) | (go_light; omega)))⟩

set_option maxHeartbeats 1000000 in
theorem c_eqGroup (a b c d : Int) (w : World) : Calls Try.prog 66 #[.agg #[.int .i64 a, .int .i64 b, .int .i64 c, .int .i64 d], .agg #[.int .i64 a, .int .i64 b, .int .i64 c, .int .i64 d]] w fun e w' => e = .returned (.bool true) ∧ Up w w' := by
  go_enter Try.func66, Try.ntmps66
  go_wp2
  go_ret
  exact ⟨rfl, by (repeat (first | (with_reducible exact Up.refl _) | (with_reducible assumption) | (with_reducible refine Up.alloc ?_ _) | (with_reducible refine Up.drew ?_) | (with_reducible refine Up.drewN ?_ _) | (with_reducible refine Up.store ?_ ?_ _) | (with_reducible refine Up.trans ?_ (by assumption)) | (exact Nat.le_refl _) | (exact Nat.le_add_right _ _) | (go_light; omega)))⟩

set_option maxHeartbeats 2000000 in
theorem c_eqArms (A : Arms) (w : World) : Calls Try.prog 43 #[.agg A.arr, .agg A.arr] w fun e w' => e = .returned (.bool true) ∧ Up w w' := by
  go_enter Try.func43, Try.ntmps43
  go_wp2_with (first | (go_at_call 65; refine (c_eqField _ _ _ _ _).mono ?_; rintro e w1 ⟨rfl, hb1⟩; obtain ⟨hc1, hf1, hz1⟩ := hb1.use (N := w.heap.size + 2) (by first | (simp; done) | omega | (simp; omega)); have hy0 : w.heap.size < w1.heap.size := Nat.lt_of_lt_of_le (Nat.lt_add_of_pos_right (by decide)) hz1; have hy1 : w.heap.size + 1 < w1.heap.size := Nat.lt_of_lt_of_le (Nat.add_lt_add_left (by decide : 1 < 2) _) hz1) | (go_at_call 66; refine (c_eqGroup _ _ _ _ _).mono ?_; rintro e w1 ⟨rfl, hb1⟩; obtain ⟨hc1, hf1, hz1⟩ := hb1.use (N := w.heap.size + 2) (by first | (simp; done) | omega | (simp; omega)); have hy0 : w.heap.size < w1.heap.size := Nat.lt_of_lt_of_le (Nat.lt_add_of_pos_right (by decide)) hz1; have hy1 : w.heap.size + 1 < w1.heap.size := Nat.lt_of_lt_of_le (Nat.add_lt_add_left (by decide : 1 < 2) _) hz1))
  go_ret
  exact ⟨rfl, by (repeat (first | (with_reducible exact Up.refl _) | (with_reducible assumption) | (with_reducible refine Up.alloc ?_ _) | (with_reducible refine Up.drew ?_) | (with_reducible refine Up.drewN ?_ _) | (with_reducible refine Up.store ?_ ?_ _) | (with_reducible refine Up.trans ?_ (by assumption)) | (exact Nat.le_refl _) | (exact Nat.le_add_right _ _) | (go_light; omega)))⟩

set_option maxHeartbeats 1000000 in
theorem c_eqArmsS (A B : Option Addr) (ca cb : Nat) (l : List Arms) (w : World) (hr : Rd w 15 Arms.cells A ca l) (hs : Rd w 15 Arms.cells B cb l) :
    Calls Try.prog 15 #[.slice A l.length ca, .slice B l.length cb] w fun e w' => e = .returned (.bool true) ∧ Up w w' := by
  have hmax : l.length ≤ 9223372036854775807 := by have h1 := hr.le; have h2 := hr.max; unfold maxLen at h2; omega
  go_enter Try.func15, Try.ntmps15
  go_wp2
  go_loopw [5] (fun i wr => ∃ k : Nat, k ≤ l.length ∧ i = .int .i64 k ∧ Up w wr) (fun i _ => l.length - (intOf i).toNat)
  case atStart => exact ⟨0, by omega, rfl, Up.refl w⟩
  case round =>
    obtain ⟨k, hk, rfl, hup⟩ := hrel
    by_cases hlt : k < l.length
    · obtain ⟨Y, b, o, hY, rfl, hra⟩ := (hr.up hup).get hlt
      obtain ⟨Y', b', o', hY', rfl, hra'⟩ := (hs.up hup).get hlt
      have hYY : Y' = Y := by rw [hY] at hY'; injection hY' with h; exact h.symm
      subst hYY
      have HY := Lib.hid hY
      clear hY hY'
      have hcap : l.length ≤ ca := hr.le
      have hcap' : l.length ≤ cb := hs.le
      go_wp2
      (refine wp_region_still_tail 8 (by kernel_rfl) (by kernel_rfl) ?_; simp only [List.take_succ_cons, List.take_zero, List.drop_succ_cons, List.drop_zero]; (repeat (first | (refine wpStill_load_agg 44 _ rfl rfl _ _ rfl Y'.arr _ (rangeAt_drewN hra _ ⟨1, rfl⟩) Try.underlying44 rfl infoA ?_; simp only [Act.put, List.setIfInBounds_toArray, List.set_cons_succ, List.set_cons_zero]) | (refine wpStill_load_agg 44 _ rfl rfl _ _ rfl Y'.arr _ (rangeAt_drewN hra' _ ⟨1, rfl⟩) Try.underlying44 rfl infoA ?_; simp only [Act.put, List.setIfInBounds_toArray, List.set_cons_succ, List.set_cons_zero]) | still_step)); (try refine wpStill_nil ?_); change wpList _ _ _ _ _ (World.drew _))
      go_wp2_with ((go_at_call 43; refine (c_eqArms _ _).mono ?_; rintro e w1 ⟨rfl, hb1⟩))
      exact ⟨⟨k + 1, by omega, rfl, by (repeat (first | (with_reducible exact Up.refl _) | (with_reducible assumption) | (with_reducible refine Up.alloc ?_ _) | (with_reducible refine Up.drew ?_) | (with_reducible refine Up.drewN ?_ _) | (with_reducible refine Up.store ?_ ?_ _) | (with_reducible refine Up.trans ?_ (by assumption)) | (exact Nat.le_refl _) | (exact Nat.le_add_right _ _) | (go_light; omega)))⟩, by simp [intOf]; omega⟩
    · go_wp2
      go_ret
      exact ⟨rfl, hup⟩

theorem c_szArmsS_yes (A : Option Addr) (cap : Nat) (l : List Arms) (left : Int) (w : World) (hl : 0 ≤ left ∧ left ≤ 1048576) (hmax : l.length ≤ 9223372036854775807) (h : (l.length : Int) ≤ left) :
    Calls Try.prog 11 #[.slice A l.length cap, .int .i64 left] w fun e w' => e = .returned (.int .i64 (left - l.length)) ∧ Up w w' :=
  (c_szArmsS A cap l left w hl hmax).mono fun e w' ⟨he, hw⟩ => ⟨by rw [he, if_pos h], by rw [hw]; exact Up.refl _⟩
theorem c_szArmsS_no (A : Option Addr) (cap : Nat) (l : List Arms) (left : Int) (w : World) (hl : 0 ≤ left ∧ left ≤ 1048576) (hmax : l.length ≤ 9223372036854775807) (h : ¬ (l.length : Int) ≤ left) :
    Calls Try.prog 11 #[.slice A l.length cap, .int .i64 left] w fun e w' => e = .returned (.int .i64 (-1)) ∧ Up w w' :=
  (c_szArmsS A cap l left w hl hmax).mono fun e w' ⟨he, hw⟩ => ⟨by rw [he, if_neg h], by rw [hw]; exact Up.refl _⟩

end Go.Proofs.Ytbljimjanoondaa
