/- Contracts and lemmas (Tinc) for the laws of this seat: what the Go functions named here return, for all arguments that each theorem states; no further conditions. -/
import Derived.Test.YtbljimjanoondaaData
import Derived.Test.YtbljimjanoondaaInts
import Derived.Test.YtbljimjanoondaaM1
import Derived.Test.YtbljimjanoondaaMem
import Derived.Test.YtbljimjanoondaaUp
import Derived.Test.YtbljimjanoondaaWb
import Derived.Test.YtbljimjanoondaaRows
import Derived.WalkKit
import Derived.ProofKit
import Derived.OpenShut
import Derived.WalkLawsBesides
import Derived.Lib.Hide
import Derived.Deep.QuietTactic
import Derived.BigQuiet
import Derived.Deep.Light
import Derived.Handy
namespace Go.Proofs.Ytbljimjanoondaa
set_option maxRecDepth 100000
open Go.ChangeShapes Go.WideShapes Go.ChangeAt Go.RowKit
set_option linter.unusedVariables false
set_option linter.unusedSimpArgs false

def fieldTinc (d f s : Int) : List Int := if d = 0 then [f] else [f, s]
def opt (b : Bool) (x : Int) : List Int := if b then [x] else []
def tincS (A : Arms) : List Int := fieldTinc A.fd A.ff A.fs ++ opt (decide (0 < A.o)) A.t ++ opt (!noneG A.c1 A.k1 A.a1 A.t1) A.t1 ++ opt (!noneG A.c2 A.k2 A.a2 A.t2) A.t2
def tinc (A : Arms) : List Int := fieldTinc A.fd A.ff A.fs ++ opt (decide (A.t ≠ 0)) A.t ++ opt (decide (A.t1 ≠ 0)) A.t1 ++ opt (decide (A.t2 ≠ 0)) A.t2
theorem okG_tinc {c k a t : Int} (h : okG c k a t = true) : (!noneG c k a t) = decide (t ≠ 0) := by
  unfold okG goodG noneG inB at h
  unfold noneG
  rw [Bool.eq_iff_iff]
  simp at h ⊢
  constructor
  · intro h1 h2
    rcases h with h | h <;> omega
  · intro h1; exact Or.inr (Or.inr (Or.inr h1))
theorem tincS_eq {A : Arms} (h : goodA A = true) : tincS A = tinc A := by
  unfold goodA at h
  simp only [Bool.and_eq_true] at h
  obtain ⟨⟨⟨h1, h2⟩, h3⟩, h4⟩ := h
  have e2 := okG_tinc h3
  have h2' : 0 ≤ A.o ∧ A.o ≤ 7 := by simpa [inB] using h2
  unfold tincS tinc
  rw [e2]
  by_cases ho : A.o = 0
  · rw [if_pos ho] at h4
    have h4' : (A.l = 0 ∧ A.t = 0) ∧ (A.c1 = 0 ∧ A.k1 = 0 ∧ A.a1 = 0 ∧ A.t1 = 0) := by simpa [noneG] using h4
    obtain ⟨⟨_, p1⟩, q1, q2, q3, q4⟩ := h4'
    simp [ho, p1, q1, q2, q3, q4, noneG, opt]
  · rw [if_neg ho] at h4
    simp only [Bool.and_eq_true] at h4
    obtain ⟨⟨g1, g2⟩, g3⟩ := h4
    have e1 := okG_tinc g3
    have g2' : 1 ≤ A.t ∧ A.t ≤ 9 := by simpa [inB] using g2
    rw [e1, show decide (0 < A.o) = decide (A.t ≠ 0) by rw [decide_eq_decide]; omega]
theorem fieldTinc_len (d f s : Int) : (fieldTinc d f s).length ≤ 2 := by unfold fieldTinc; split <;> simp

set_option maxHeartbeats 1000000 in
theorem c_l3Tinctures (d l f s : Int) (w : World) : Calls Try.prog 86 #[.agg #[.int .i64 d, .int .i64 l, .int .i64 f, .int .i64 s]] w (RetI w (fieldTinc d f s)) := by
  by_cases hd : d = 0
  · have hf : fieldTinc d f s = [f] := if_pos hd
    rw [hf]; clear hf
    go_enter Try.func86, Try.ntmps86
    go_wp2
    exact bodyPost_ret (v := .slice (some ⟨w.heap.size + 1, 0, none⟩) 1 1) (by simp [results, Try.results86, go_sem]) rfl (RetI.lit (w1 := w.alloc _) (by (repeat (first | (with_reducible exact Up.refl _) | (with_reducible assumption) | (with_reducible refine Up.alloc ?_ _) | (with_reducible refine Up.drew ?_) | (with_reducible refine Up.drewN ?_ _) | (with_reducible refine Up.store ?_ ?_ _) | (with_reducible refine Up.trans ?_ (by assumption)) | (exact Nat.le_refl _) | (exact Nat.le_add_right _ _) | (go_light; omega)))) [f] _ rfl (by simp) _ _ (by simp) rfl)
  · have hf : fieldTinc d f s = [f, s] := if_neg hd
    rw [hf]; clear hf
    go_enter Try.func86, Try.ntmps86
    go_wp2
    exact bodyPost_ret (v := .slice (some ⟨w.heap.size + 1, 0, none⟩) 2 2) (by simp [results, Try.results86, go_sem]) rfl (RetI.lit (w1 := w.alloc _) (by (repeat (first | (with_reducible exact Up.refl _) | (with_reducible assumption) | (with_reducible refine Up.alloc ?_ _) | (with_reducible refine Up.drew ?_) | (with_reducible refine Up.drewN ?_ _) | (with_reducible refine Up.store ?_ ?_ _) | (with_reducible refine Up.trans ?_ (by assumption)) | (exact Nat.le_refl _) | (exact Nat.le_add_right _ _) | (go_light; omega)))) [f, s] _ rfl (by simp) _ _ (by simp) rfl)

set_option maxHeartbeats 1000000 in
theorem c_fTinctures (d l f s : Int) (w : World) : Calls Try.prog 91 #[.agg #[.int .i64 d, .int .i64 l, .int .i64 f, .int .i64 s]] w (RetI w (fieldTinc d f s)) := by
  by_cases hd : d = 0
  · have hf : fieldTinc d f s = [f] := if_pos hd
    rw [hf]; clear hf
    go_enter Try.func91, Try.ntmps91
    go_wp2
    exact bodyPost_ret (v := .slice (some ⟨w.heap.size + 1, 0, none⟩) 1 1) (by simp [results, Try.results91, go_sem]) rfl (RetI.lit (w1 := w.alloc _) (by (repeat (first | (with_reducible exact Up.refl _) | (with_reducible assumption) | (with_reducible refine Up.alloc ?_ _) | (with_reducible refine Up.drew ?_) | (with_reducible refine Up.drewN ?_ _) | (with_reducible refine Up.store ?_ ?_ _) | (with_reducible refine Up.trans ?_ (by assumption)) | (exact Nat.le_refl _) | (exact Nat.le_add_right _ _) | (go_light; omega)))) [f] _ rfl (by simp) _ _ (by simp) rfl)
  · have hf : fieldTinc d f s = [f, s] := if_neg hd
    rw [hf]; clear hf
    go_enter Try.func91, Try.ntmps91
    go_wp2
    exact bodyPost_ret (v := .slice (some ⟨w.heap.size + 1, 0, none⟩) 2 2) (by simp [results, Try.results91, go_sem]) rfl (RetI.lit (w1 := w.alloc _) (by (repeat (first | (with_reducible exact Up.refl _) | (with_reducible assumption) | (with_reducible refine Up.alloc ?_ _) | (with_reducible refine Up.drew ?_) | (with_reducible refine Up.drewN ?_ _) | (with_reducible refine Up.store ?_ ?_ _) | (with_reducible refine Up.trans ?_ (by assumption)) | (exact Nat.le_refl _) | (exact Nat.le_add_right _ _) | (go_light; omega)))) [f, s] _ rfl (by simp) _ _ (by simp) rfl)

theorem RetI.of {w w' : World} {A : Option Addr} {n cap : Nat} {l l' : List Int} (B : Nat) (ho : Own w' B 3 1 encI A cap l) (hB : w.heap.size ≤ B) (hu : Up w w') (hl : l = l') (hn : n = l.length) : RetI w l' (.returned (.slice A n cap)) w' := by
  subst hl; subst hn
  exact ⟨A, cap, rfl, ho.mono hB, hu⟩

end Go.Proofs.Ytbljimjanoondaa
