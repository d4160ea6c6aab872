/- Contracts and lemmas (Ma) for the laws of this seat: what the Go functions named here return, for all arguments that each theorem states; no further conditions. -/
import Derived.Test.YtbljimjanoondaaData
import Derived.Test.YtbljimjanoondaaLawA
import Derived.Test.YtbljimjanoondaaLawT
import Derived.Test.YtbljimjanoondaaM1
import Derived.Test.YtbljimjanoondaaMem
import Derived.Test.YtbljimjanoondaaMemA
import Derived.Test.YtbljimjanoondaaTinc
import Derived.Test.YtbljimjanoondaaUp
import Derived.Test.YtbljimjanoondaaWb
import Derived.Test.YtbljimjanoondaaWc
import Derived.Test.YtbljimjanoondaaWd
import Derived.Test.YtbljimjanoondaaWr
import Derived.Test.YtbljimjanoondaaWrOf
import Derived.Test.YtbljimjanoondaaRows
import Derived.WalkKit
import Derived.ProofKit
import Derived.OpenShut
import Derived.WalkLawsBesides
import Derived.Lib.Hide
import Derived.Deep.QuietTactic
import Derived.BigQuiet
import Derived.Deep.Light
import Derived.Handy
namespace Go.Proofs.Ytbljimjanoondaa
set_option maxRecDepth 100000
open Go.ChangeShapes Go.WideShapes Go.ChangeAt Go.RowKit
set_option linter.unusedVariables false
set_option linter.unusedSimpArgs false

def kindIs (A : Arms) (k : Int) : Bool := decide (A.k1 = k ∨ A.k2 = k)
def tincIs (A : Arms) (t : Int) : Bool := decide (t = outM (tinc A) ∨ t = outC (tinc A))
def kindS (A : Arms) (k : Int) : Bool := !noneG A.c1 A.k1 A.a1 A.t1 && decide (A.k1 = k) || !noneG A.c2 A.k2 A.a2 A.t2 && decide (A.k2 = k)
theorem kindS_eq {A : Arms} {k a t r : Int} (h : goodC k a t r = true) : kindS A k = kindIs A k := by
  have hk : 1 ≤ k := by
    unfold goodC goodG inB at h
    simp at h
    omega
  unfold kindS kindIs noneG
  rw [Bool.eq_iff_iff]
  simp
  constructor
  · rintro (⟨_, h⟩ | ⟨_, h⟩)
    · exact Or.inl h
    · exact Or.inr h
  · rintro (h | h)
    · exact Or.inl ⟨by omega, h⟩
    · exact Or.inr ⟨by omega, h⟩
set_option maxHeartbeats 2000000 in
theorem c_sMatchesArms_yes (k a t r : Int) (A : Arms) (hc : goodC k a t r = true) (h : goodA A = true) (w : World) : Calls Try.prog 16 #[.agg #[.int .i64 k, .int .i64 a, .int .i64 t, .int .i64 r], .agg A.arr] w fun e w' => e = .returned (.tuple #[.bool (kindIs A k && tincIs A t), .bool true]) ∧ Up w w' := by
  have hT := tincS_eq h
  have HT := Lib.hid hT
  have hK := kindS_eq (A := A) hc
  have HK := Lib.hid hK
  clear hT hK
  generalize hM : outM (tinc A) = M
  generalize hC : outC (tinc A) = C
  have HM := Lib.hid hM; have HC := Lib.hid hC
  have hw : ∀ w0, Calls Try.prog 46 #[.agg A.arr] w0 fun e w' => e = .returned (.tuple #[.int .i64 M, .int .i64 C]) ∧ Up w0 w' := fun w0 => by
    have := c_l22Wreath A w0
    rwa [HT.out, hM, hC] at this
  have HW := Lib.hid hw
  clear hM hC hw
  go_enter Try.func16, Try.ntmps16
  go_upto_region 4 with (first | (refine wpList_load_agg 44 _ rfl rfl _ _ rfl A.arr _ (box_range (w := w.alloc _) (t := 44) (by (repeat (first | (with_reducible exact Up.refl _) | (with_reducible assumption) | (with_reducible refine Up.alloc ?_ _) | (with_reducible refine Up.drew ?_) | (with_reducible refine Up.drewN ?_ _) | (with_reducible refine Up.store ?_ ?_ _) | (with_reducible refine Up.trans ?_ (by assumption)) | (exact Nat.le_refl _) | (exact Nat.le_add_right _ _) | (go_light; omega))))) Try.underlying44 rfl infoA ?_) | (go_at_call 44; refine (c_l22Good _ _ _ _ _).mono ?_; rintro e w1 ⟨rfl, hb1⟩; obtain ⟨hc1, hf1, hz1⟩ := hb1.use (N := w.heap.size + 2) (by first | (simp; done) | omega | (simp; omega)); have hy0 : w.heap.size < w1.heap.size := Nat.lt_of_lt_of_le (Nat.lt_add_of_pos_right (by decide)) hz1; have hy1 : w.heap.size + 1 < w1.heap.size := Nat.lt_of_lt_of_le (Nat.add_lt_add_left (by decide : 1 < 2) _) hz1) | (go_at_call 45; refine (c_l5Good _ _).mono ?_; rintro e w1 ⟨rfl, hb1⟩; obtain ⟨hc1, hf1, hz1⟩ := hb1.use (N := w.heap.size + 2) (by first | (simp; done) | omega | (simp; omega)); have hy0 : w.heap.size < w1.heap.size := Nat.lt_of_lt_of_le (Nat.lt_add_of_pos_right (by decide)) hz1; have hy1 : w.heap.size + 1 < w1.heap.size := Nat.lt_of_lt_of_le (Nat.add_lt_add_left (by decide : 1 < 2) _) hz1) | (go_at_call 46; refine (HW.out _).mono ?_; rintro e w1 ⟨rfl, hb1⟩; obtain ⟨hc1, hf1, hz1⟩ := hb1.use (N := w.heap.size + 2) (by first | (simp; done) | omega | (simp; omega)); have hy0 : w.heap.size < w1.heap.size := Nat.lt_of_lt_of_le (Nat.lt_add_of_pos_right (by decide)) hz1; have hy1 : w.heap.size + 1 < w1.heap.size := Nat.lt_of_lt_of_le (Nat.add_lt_add_left (by decide : 1 < 2) _) hz1))
  go_cut [8] from 22 (fun v wx => v = .bool (kindIs A k) ∧ Up ((w.alloc (.cells #[.int .i64 k, .int .i64 a, .int .i64 t, .int .i64 r] 39)).alloc (.cells A.arr 44)) wx)
  case first =>
    have HKK : Hid (kindIs A k = ((A.k1 == k) || (A.k2 == k))) := Lib.hid (by unfold kindIs; rw [Bool.decide_or]; rfl)
    cases hd1 : (A.k1 == k) <;> cases hd2 : (A.k2 == k)
    all_goals cases hn1 : noneG A.c1 A.k1 A.a1 A.t1
    all_goals cases hn2 : noneG A.c2 A.k2 A.a2 A.t2
    all_goals (have HR : Hid (kindS A k = _) := Lib.hid (by unfold kindS; rw [hn1, hn2]))
    all_goals (go_wp2_with ((go_at_call 47; refine (c_l4None _ _ _ _ _).mono ?_; rintro e w1 ⟨rfl, hb1⟩; obtain ⟨hc1, hf1, hz1⟩ := hb1.use (N := w.heap.size + 2) (by first | (simp; done) | omega | (simp; omega)); have hy0 : w.heap.size < w1.heap.size := Nat.lt_of_lt_of_le (Nat.lt_add_of_pos_right (by decide)) hz1; have hy1 : w.heap.size + 1 < w1.heap.size := Nat.lt_of_lt_of_le (Nat.add_lt_add_left (by decide : 1 < 2) _) hz1)))
    all_goals go_meet
    all_goals refine ⟨congrArg Value.bool ?_, by (repeat (first | (with_reducible exact Up.refl _) | (with_reducible assumption) | (with_reducible refine Up.alloc ?_ _) | (with_reducible refine Up.drew ?_) | (with_reducible refine Up.drewN ?_ _) | (with_reducible refine Up.store ?_ ?_ _) | (with_reducible refine Up.trans ?_ (by assumption)) | (exact Nat.le_refl _) | (exact Nat.le_add_right _ _) | (go_light; omega)))⟩
    all_goals rw [← HK.out, HR.out]
    all_goals (go_light; simp_all)
  case rest =>
    obtain ⟨rfl, hx⟩ := hcut
    obtain ⟨hcx, hfx, hzx⟩ := hx.use (N := w.heap.size + 2) (by first | (simp; done) | omega | (simp; omega))
    have hTI : tincIs A t = (decide (t = M) || decide (t = C)) := by unfold tincIs; rw [HM.out, HC.out, Bool.decide_or]
    have HTI := Lib.hid hTI
    clear hTI
    cases hK1 : kindIs A k
    · go_wp2
      go_ret2
      exact ⟨by simp [hK1], by (repeat (first | (with_reducible exact Up.refl _) | (with_reducible assumption) | (with_reducible refine Up.alloc ?_ _) | (with_reducible refine Up.drew ?_) | (with_reducible refine Up.drewN ?_ _) | (with_reducible refine Up.store ?_ ?_ _) | (with_reducible refine Up.trans ?_ (by assumption)) | (exact Nat.le_refl _) | (exact Nat.le_add_right _ _) | (go_light; omega)))⟩
    · by_cases h1 : t = M
      · go_wp2
        go_ret2
        exact ⟨by have h3 := HTI.out; simp only [h1] at h3; simp [hK1, h1, h3], by (repeat (first | (with_reducible exact Up.refl _) | (with_reducible assumption) | (with_reducible refine Up.alloc ?_ _) | (with_reducible refine Up.drew ?_) | (with_reducible refine Up.drewN ?_ _) | (with_reducible refine Up.store ?_ ?_ _) | (with_reducible refine Up.trans ?_ (by assumption)) | (exact Nat.le_refl _) | (exact Nat.le_add_right _ _) | (go_light; omega)))⟩
      · by_cases h2 : t = C
        · go_wp2
          go_ret2
          exact ⟨by have h3 := HTI.out; simp only [h2] at h3; simp [hK1, h2, h3], by (repeat (first | (with_reducible exact Up.refl _) | (with_reducible assumption) | (with_reducible refine Up.alloc ?_ _) | (with_reducible refine Up.drew ?_) | (with_reducible refine Up.drewN ?_ _) | (with_reducible refine Up.store ?_ ?_ _) | (with_reducible refine Up.trans ?_ (by assumption)) | (exact Nat.le_refl _) | (exact Nat.le_add_right _ _) | (go_light; omega)))⟩
        · go_wp2
          go_ret2
          exact ⟨by simp [hK1, HTI.out, h1, h2], by (repeat (first | (with_reducible exact Up.refl _) | (with_reducible assumption) | (with_reducible refine Up.alloc ?_ _) | (with_reducible refine Up.drew ?_) | (with_reducible refine Up.drewN ?_ _) | (with_reducible refine Up.store ?_ ?_ _) | (with_reducible refine Up.trans ?_ (by assumption)) | (exact Nat.le_refl _) | (exact Nat.le_add_right _ _) | (go_light; omega)))⟩

end Go.Proofs.Ytbljimjanoondaa
