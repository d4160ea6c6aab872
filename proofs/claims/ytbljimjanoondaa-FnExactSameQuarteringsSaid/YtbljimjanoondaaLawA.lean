/- Contracts and lemmas (LawA) for the laws of this seat: what the Go functions named here return, for all arguments that each theorem states; no further conditions. -/
import Derived.Test.YtbljimjanoondaaData
import Derived.Test.YtbljimjanoondaaEq
import Derived.Test.YtbljimjanoondaaLawT
import Derived.Test.YtbljimjanoondaaMem
import Derived.Test.YtbljimjanoondaaMemA
import Derived.Test.YtbljimjanoondaaOpen
import Derived.Test.YtbljimjanoondaaUp
import Derived.Test.YtbljimjanoondaaRows
import Derived.WalkKit
import Derived.ProofKit
import Derived.OpenShut
import Derived.WalkLawsBesides
import Derived.Lib.Hide
import Derived.Deep.QuietTactic
import Derived.BigQuiet
import Derived.Deep.Light
import Derived.Handy
namespace Go.Proofs.Ytbljimjanoondaa
set_option maxRecDepth 100000
open Go.ChangeShapes Go.WideShapes Go.ChangeAt Go.RowKit
set_option linter.unusedVariables false
set_option linter.unusedSimpArgs false

theorem infoLA : (Try.prog.info? 36).map (·.size) = some 15 := by kernel_rfl
theorem rowA : (Try.prog.info? 44).map (fun i => (i.zero, i.size, i.bytes)) = some (some (.agg (default : Arms).arr), 15, 120) := by kernel_rfl
theorem Arms.cell1 (A : Arms) : ∀ u ∈ A.cells, u.oneCell' = true := by
  have := Arms.one A
  rw [Array.all_eq_true_iff_forall_mem] at this
  intro u hu
  exact this u (by simpa [Arms.cells] using hu)

theorem fill_set {α : Type} (l : List α) (z : α) {k : Nat} (hk : k < l.length) {y : α} (hy : l[k]? = some y) : (l.take k ++ List.replicate (l.length - k) z).set k y = l.take (k + 1) ++ List.replicate (l.length - (k + 1)) z := by
  obtain ⟨h1, h2⟩ := List.getElem?_eq_some_iff.1 hy
  have e : (l.take k).length = k := by simp; omega
  rw [List.set_append, if_neg (by omega), e, Nat.sub_self, show l.length - k = (l.length - (k + 1)) + 1 by omega, List.replicate_succ, List.set_cons_zero, List.take_add_one, hy]
  simp [List.append_assoc]

/-- A fresh slice of arms. -/
def RetA (w : World) (l : List Arms) : Ending → World → Prop := fun e w' => ∃ g cap, e = .returned (.slice (some ⟨g, 0, none⟩) l.length cap) ∧ Own w' w.heap.size 44 15 Arms.cells (some ⟨g, 0, none⟩) cap l ∧ Up w w'
set_option maxHeartbeats 1000000 in
theorem c_toArmsS (A : Option Addr) (cap : Nat) (l : List Arms) (w : World) (hr : Rd w 15 Arms.cells A cap l) (hlen : l.length ≤ 1048576) :
    Calls Try.prog 13 #[.slice A l.length cap] w (RetA w l) := by
  go_enter Try.func13, Try.ntmps13
  go_wp2_with (refine wpList_make (α := Arms) rfl _ _ _ rfl w.heap.size 44 (.agg (default : Arms).arr) 15 120 Try.underlying25 rowA (by decide) Arms.cells Arms.cells_length default rfl _ _ _ _ l.length rfl rfl rfl rfl (by omega) (by omega) (Nat.le_refl _) ?_; intro w0 hown0 hg0; have hup0 : Up w w0 := (Up.refl w).grown hg0 (by simp))
  go_loopw [4] (fun i wr => ∃ k : Nat, k ≤ l.length ∧ i = .int .i64 k ∧ Up w wr ∧ Own wr w.heap.size 44 15 Arms.cells (some ⟨w.heap.size, 0, none⟩) l.length (l.take k ++ List.replicate (l.length - k) default)) (fun i _ => l.length - (intOf i).toNat)
  case atStart => exact ⟨0, by omega, rfl, hup0, by simpa using hown0⟩
  case round =>
    obtain ⟨k, hk, rfl, hup, hown⟩ := hrel
    by_cases hlt : k < l.length
    · obtain ⟨Y, b, o, hY, rfl, hra⟩ := (hr.up hup).get hlt
      have HY := Lib.hid hY
      clear hY
      have hcap : l.length ≤ cap := hr.le
      go_wp2_with (first | (refine wpList_load_agg 36 _ rfl rfl _ _ rfl Y.arr _ (rangeAt_up hra (by (repeat (first | (with_reducible exact Up.refl _) | (with_reducible assumption) | (with_reducible refine Up.alloc ?_ _) | (with_reducible refine Up.drew ?_) | (with_reducible refine Up.drewN ?_ _) | (with_reducible refine Up.store ?_ ?_ _) | (with_reducible refine Up.trans ?_ (by assumption)) | (exact Nat.le_refl _) | (exact Nat.le_add_right _ _) | (go_light; omega))))) Try.underlying36 rfl infoLA ?_) | (go_at_call 18; refine (c_toArms _ _).mono ?_; rintro e w1 ⟨rfl, hb1⟩) | (refine wpList_store_own 44 _ _ rfl rfl w.heap.size _ rfl _ rfl Arms.cells_length (hown.up (by (repeat (first | (with_reducible exact Up.refl _) | (with_reducible assumption) | (with_reducible refine Up.alloc ?_ _) | (with_reducible refine Up.drew ?_) | (with_reducible refine Up.drewN ?_ _) | (with_reducible refine Up.store ?_ ?_ _) | (with_reducible refine Up.trans ?_ (by assumption)) | (exact Nat.le_refl _) | (exact Nat.le_add_right _ _) | (go_light; omega))))) (i := k) (by simp; omega) rfl Y rfl infoA (Arms.cell1 Y) ?_; intro w2 hown2 hg2; have hup2 : Up w w2 := Up.grown (by (repeat (first | (with_reducible exact Up.refl _) | (with_reducible assumption) | (with_reducible refine Up.alloc ?_ _) | (with_reducible refine Up.drew ?_) | (with_reducible refine Up.drewN ?_ _) | (with_reducible refine Up.store ?_ ?_ _) | (with_reducible refine Up.trans ?_ (by assumption)) | (exact Nat.le_refl _) | (exact Nat.le_add_right _ _) | (go_light; omega)))) hg2 (by simp)))
      refine ⟨⟨k + 1, by omega, rfl, hup2, ?_⟩, by simp [intOf]; omega⟩
      have hff := fill_set l default hlt (HY.out)
      rw [← hff]
      exact hown2
    · go_wp2
      have hkl : k = l.length := by omega
      subst hkl
      exact bodyPost_ret (v := .slice (some ⟨w.heap.size, 0, none⟩) l.length l.length) (by simp [results, Try.results13, go_sem]) rfl ⟨_, _, rfl, by simpa using hown, hup⟩

end Go.Proofs.Ytbljimjanoondaa
