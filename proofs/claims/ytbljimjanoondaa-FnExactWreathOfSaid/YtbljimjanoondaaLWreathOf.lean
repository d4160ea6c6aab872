/- Contracts and lemmas (LWreathOf) for the laws of this seat: what the Go functions named here return, for all arguments that each theorem states; no further conditions. -/
import Derived.Test.YtbljimjanoondaaData
import Derived.Test.YtbljimjanoondaaLawA
import Derived.Test.YtbljimjanoondaaLawT
import Derived.Test.YtbljimjanoondaaMem
import Derived.Test.YtbljimjanoondaaUp
import Derived.Test.YtbljimjanoondaaWrOf
import Derived.Test.YtbljimjanoondaaRows
import Derived.WalkKit
import Derived.ProofKit
import Derived.OpenShut
import Derived.WalkLawsBesides
import Derived.Lib.Hide
import Derived.Deep.QuietTactic
import Derived.BigQuiet
import Derived.Deep.Light
import Derived.Handy
namespace Go.Proofs.Ytbljimjanoondaa
set_option maxRecDepth 100000
open Go.ChangeShapes Go.WideShapes Go.ChangeAt Go.RowKit
set_option linter.unusedVariables false
set_option linter.unusedSimpArgs false

set_option maxHeartbeats 1000000 in
theorem w_WreathOf (A : Arms) (hA : A.wf) (w : World) : Calls Try.prog 10 #[.agg A.arr] w fun e w' => e = .returned (.bool true) ∧ Up w w' := by
  clear hA
  cases h : goodA A with
  | true =>
    have H := Lib.hid h
    clear h
    go_enter Try.func10, Try.ntmps10
    go_wp2_with (first | (refine wpList_load_agg 36 _ rfl rfl _ _ rfl A.arr _ (box_range (w := w) (t := 36) (by (repeat (first | (with_reducible exact Up.refl _) | (with_reducible assumption) | (with_reducible refine Up.alloc ?_ _) | (with_reducible refine Up.drew ?_) | (with_reducible refine Up.drewN ?_ _) | (with_reducible refine Up.store ?_ ?_ _) | (with_reducible refine Up.trans ?_ (by assumption)) | (exact Nat.le_refl _) | (exact Nat.le_add_right _ _) | (go_light; omega))))) Try.underlying36 rfl infoLA ?_) | (go_at_call 18; refine (c_toArms A _).mono ?_; rintro e w1 ⟨rfl, hb1⟩; obtain ⟨hc1, hf1, hz1⟩ := hb1.use (N := w.heap.size + 1) (by first | (simp; done) | omega | (simp; omega)); have hy0 : w.heap.size < w1.heap.size := Nat.lt_of_lt_of_le (Nat.lt_add_of_pos_right (by decide)) hz1) | (go_at_call 38; refine (c_sWreathOf_yes A H.out _).mono ?_; rintro e w1 ⟨rfl, hb1⟩; obtain ⟨hc1, hf1, hz1⟩ := hb1.use (N := w.heap.size + 1) (by first | (simp; done) | omega | (simp; omega)); have hy0 : w.heap.size < w1.heap.size := Nat.lt_of_lt_of_le (Nat.lt_add_of_pos_right (by decide)) hz1) | (go_at_call 39; refine (c_WreathOf_yes A H.out _).mono ?_; rintro e w1 ⟨rfl, hb1⟩; obtain ⟨hc1, hf1, hz1⟩ := hb1.use (N := w.heap.size + 1) (by first | (simp; done) | omega | (simp; omega)); have hy0 : w.heap.size < w1.heap.size := Nat.lt_of_lt_of_le (Nat.lt_add_of_pos_right (by decide)) hz1))
    go_ret
    exact ⟨rfl, by (repeat (first | (with_reducible exact Up.refl _) | (with_reducible assumption) | (with_reducible refine Up.alloc ?_ _) | (with_reducible refine Up.drew ?_) | (with_reducible refine Up.drewN ?_ _) | (with_reducible refine Up.store ?_ ?_ _) | (with_reducible refine Up.trans ?_ (by assumption)) | (exact Nat.le_refl _) | (exact Nat.le_add_right _ _) | (go_light; omega)))⟩
  | false =>
    have H := Lib.hid h
    clear h
    go_enter Try.func10, Try.ntmps10
    go_wp2_with (first | (refine wpList_load_agg 36 _ rfl rfl _ _ rfl A.arr _ (box_range (w := w) (t := 36) (by (repeat (first | (with_reducible exact Up.refl _) | (with_reducible assumption) | (with_reducible refine Up.alloc ?_ _) | (with_reducible refine Up.drew ?_) | (with_reducible refine Up.drewN ?_ _) | (with_reducible refine Up.store ?_ ?_ _) | (with_reducible refine Up.trans ?_ (by assumption)) | (exact Nat.le_refl _) | (exact Nat.le_add_right _ _) | (go_light; omega))))) Try.underlying36 rfl infoLA ?_) | (go_at_call 18; refine (c_toArms A _).mono ?_; rintro e w1 ⟨rfl, hb1⟩; obtain ⟨hc1, hf1, hz1⟩ := hb1.use (N := w.heap.size + 1) (by first | (simp; done) | omega | (simp; omega)); have hy0 : w.heap.size < w1.heap.size := Nat.lt_of_lt_of_le (Nat.lt_add_of_pos_right (by decide)) hz1) | (go_at_call 38; refine (c_sWreathOf_no A H.out _).mono ?_; rintro e w1 ⟨rfl, hb1⟩; obtain ⟨hc1, hf1, hz1⟩ := hb1.use (N := w.heap.size + 1) (by first | (simp; done) | omega | (simp; omega)); have hy0 : w.heap.size < w1.heap.size := Nat.lt_of_lt_of_le (Nat.lt_add_of_pos_right (by decide)) hz1) | (go_at_call 39; refine (c_WreathOf_no A H.out _).mono ?_; rintro e w1 ⟨rfl, hb1⟩; obtain ⟨hc1, hf1, hz1⟩ := hb1.use (N := w.heap.size + 1) (by first | (simp; done) | omega | (simp; omega)); have hy0 : w.heap.size < w1.heap.size := Nat.lt_of_lt_of_le (Nat.lt_add_of_pos_right (by decide)) hz1))
    go_ret
    exact ⟨rfl, by (repeat (first | (with_reducible exact Up.refl _) | (with_reducible assumption) | (with_reducible refine Up.alloc ?_ _) | (with_reducible refine Up.drew ?_) | (with_reducible refine Up.drewN ?_ _) | (with_reducible refine Up.store ?_ ?_ _) | (with_reducible refine Up.trans ?_ (by assumption)) | (exact Nat.le_refl _) | (exact Nat.le_add_right _ _) | (go_light; omega)))⟩

end Go.Proofs.Ytbljimjanoondaa
