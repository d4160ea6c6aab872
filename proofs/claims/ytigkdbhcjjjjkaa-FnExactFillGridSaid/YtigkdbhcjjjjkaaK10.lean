/- Lemmas and contracts (Idx); conditions: none. -/
import Derived.Test.YtigkdbhcjjjjkaaK04
import Derived.Test.YtigkdbhcjjjjkaaK05
import Derived.Test.YtigkdbhcjjjjkaaK08
set_option linter.unusedVariables false
set_option linter.unusedSimpArgs false
set_option linter.unusedVariables false
set_option linter.unusedSimpArgs false
set_option maxRecDepth 100000
set_option maxHeartbeats 4000000
set_option cbv.maxSteps 3000000
namespace Go.Proofs.Ytigkdbhcjjjjkaa.AM
/- Where something stands in a list; conditions: none. -/
def idxF {α : Type} (p : α → Bool) (l : List α) : Int := if l.any p then ((l.findIdx p : Nat) : Int) else -1
theorem idxF_at {α : Type} {p : α → Bool} {l : List α} {i : Nat} (d : α) (hi : i < l.length) (h : p (l.getD i d) = true) (hj : ∀ j, j < i → p (l.getD j d) = false) : idxF p l = (i : Nat) := by
  have e : ∀ j, (q : j < l.length) → l.getD j d = l[j] := fun j q => by rw [List.getD_eq_getElem?_getD, List.getElem?_eq_getElem q]; rfl
  have h1 : l.findIdx p = i := by
    rw [List.findIdx_eq hi]
    exact ⟨by rw [← e i hi]; exact h, fun j hji => by rw [← e j (by omega)]; exact hj j hji⟩
  unfold idxF
  rw [if_pos (List.any_eq_true.2 ⟨_, List.getElem_mem hi, by rw [← e i hi]; exact h⟩), h1]
theorem none_any {α : Type} {p : α → Bool} {l : List α} (d : α) (hj : ∀ j, j < l.length → p (l.getD j d) = false) : l.any p = false := by
  rw [List.any_eq_false]
  intro x hx
  obtain ⟨i, hi, e⟩ := List.getElem_of_mem hx
  have := hj i hi
  rw [List.getD_eq_getElem?_getD, List.getElem?_eq_getElem hi] at this
  rw [← e]; simpa using this
theorem idxF_no {α : Type} {p : α → Bool} {l : List α} (d : α) (hj : ∀ j, j < l.length → p (l.getD j d) = false) : idxF p l = -1 := by
  unfold idxF; rw [none_any d hj]; rfl
theorem idxF_ge {α : Type} (p : α → Bool) (l : List α) : decide (idxF p l ≥ 0) = l.any p := by
  unfold idxF
  cases l.any p
  · rfl
  · simp
end Go.Proofs.Ytigkdbhcjjjjkaa.AM

