/- Contracts and lemmas (Wd) for the laws of this seat: what the Go functions named here return, for all arguments that each theorem states; no further conditions. -/
import Derived.Test.YtbljimjanoondaaData
import Derived.Test.YtbljimjanoondaaM1
import Derived.Test.YtbljimjanoondaaUp
import Derived.Test.YtbljimjanoondaaWb
import Derived.Test.YtbljimjanoondaaRows
import Derived.WalkKit
import Derived.ProofKit
import Derived.OpenShut
import Derived.WalkLawsBesides
import Derived.Lib.Hide
import Derived.Deep.QuietTactic
import Derived.BigQuiet
import Derived.Deep.Light
import Derived.Handy
namespace Go.Proofs.Ytbljimjanoondaa
set_option maxRecDepth 100000
open Go.ChangeShapes Go.WideShapes Go.ChangeAt Go.RowKit
set_option linter.unusedVariables false
set_option linter.unusedSimpArgs false

theorem goodA_eq (A : Arms) : goodA A = (goodF A.fd A.fl A.ff A.fs && okG A.c2 A.k2 A.a2 A.t2 && (if A.o = 0 then decide (A.l = 0 ∧ A.t = 0) && noneG A.c1 A.k1 A.a1 A.t1 else inB A.o 1 7 && inB A.l 0 4 && inB A.t 1 9 && okG A.c1 A.k1 A.a1 A.t1)) := by
  unfold goodA
  by_cases h : A.o = 0
  · have : inB A.o 0 7 = true := by simp [inB]; omega
    rw [this]; simp [h]
  · have : inB A.o 0 7 = inB A.o 1 7 := by unfold inB; rw [decide_eq_decide]; omega
    rw [this]; simp only [h, if_false]
    cases goodF A.fd A.fl A.ff A.fs <;> cases inB A.o 1 7 <;> cases okG A.c2 A.k2 A.a2 A.t2 <;> simp

set_option maxHeartbeats 1000000 in
theorem c_IsValidArms (A : Arms) (w : World) : Calls Try.prog 51 #[.agg A.arr] w fun e w' => e = .returned (.bool (goodA A)) ∧ Up w w' := by
  go_enter Try.func51, Try.ntmps51
  go_wp2_with (first | (go_at_call 78; refine (c_IsValidField _ _ _ _ _).mono ?_; rintro e w1 ⟨rfl, hb1⟩; obtain ⟨hc1, hf1, hz1⟩ := hb1.use (N := w.heap.size + 1) (by first | (simp; done) | omega | (simp; omega)); have hy0 : w.heap.size < w1.heap.size := Nat.lt_of_lt_of_le (Nat.lt_add_of_pos_right (by decide)) hz1) | (go_at_call 79; refine (c_isGroup _ _ _ _ _).mono ?_; rintro e w1 ⟨rfl, hb1⟩; obtain ⟨hc1, hf1, hz1⟩ := hb1.use (N := w.heap.size + 1) (by first | (simp; done) | omega | (simp; omega)); have hy0 : w.heap.size < w1.heap.size := Nat.lt_of_lt_of_le (Nat.lt_add_of_pos_right (by decide)) hz1) | (go_at_call 80; refine (c_isOrdinary _ _ _ _).mono ?_; rintro e w' ⟨rfl, rfl⟩))
  all_goals go_ret
  all_goals exact ⟨ret_bool (by rw [Bool.eq_iff_iff]; go_light; simp_all [goodA_eq, noneG] <;> (first | omega | (intros; omega))), by (repeat (first | (with_reducible exact Up.refl _) | (with_reducible assumption) | (with_reducible refine Up.alloc ?_ _) | (with_reducible refine Up.drew ?_) | (with_reducible refine Up.drewN ?_ _) | (with_reducible refine Up.store ?_ ?_ _) | (with_reducible refine Up.trans ?_ (by assumption)) | (exact Nat.le_refl _) | (exact Nat.le_add_right _ _) | (go_light; omega)))⟩

end Go.Proofs.Ytbljimjanoondaa
