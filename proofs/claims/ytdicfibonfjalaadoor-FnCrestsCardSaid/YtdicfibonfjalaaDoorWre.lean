import Derived.Test.YtdicfibonfjalaaDoorCre
set_option linter.unusedVariables false
set_option linter.unusedSimpArgs false
set_option maxRecDepth 100000
set_option maxHeartbeats 4000000
set_option cbv.maxSteps 3000000
namespace Go.Proofs.YtdicfibonfjalaaDoor.AM
/- Wreaths; conditions: none. -/
def wst (w : Int × Int) (x : Int) : Int × Int := if clsF x = 1 ∧ w.1 = 0 then (x, w.2) else if clsF x = 2 ∧ w.2 = 0 then (w.1, x) else w
def wfl (l : List Int) (i : Nat) : Int × Int := (l.take i).foldl wst (0, 0)
def wreM (l : List Int) : Int := if (l.foldl wst (0, 0)).1 = 0 then 2 else (l.foldl wst (0, 0)).1
def wreC (l : List Int) : Int := if (l.foldl wst (0, 0)).2 = 0 then 5 else (l.foldl wst (0, 0)).2
theorem wfl_succ (l : List Int) {i : Nat} (h : i < l.length) : wfl l (i + 1) = wst (wfl l i) (lget l i) := by
  unfold wfl
  rw [List.take_add_one, List.getElem?_eq_getElem h, Option.toList_some, List.foldl_append]
  simp [lget, h]
theorem wfl_all (l : List Int) : wfl l l.length = l.foldl wst (0, 0) := by unfold wfl; rw [List.take_length]
theorem wst1 {w : Int × Int} {x : Int} (h : (bif clsF x == 1 then w.1 == 0 else false) = true) : wst w x = (x, w.2) := by
  have h1 : clsF x = 1 ∧ w.1 = 0 := by cases e : clsF x == 1 <;> simp_all
  unfold wst; rw [if_pos h1]
theorem wst2 {w : Int × Int} {x : Int} (h : (bif clsF x == 1 then w.1 == 0 else false) = false) (h' : (bif clsF x == 2 then w.2 == 0 else false) = true) : wst w x = (w.1, x) := by
  have h1 : ¬ (clsF x = 1 ∧ w.1 = 0) := by rintro ⟨a, b⟩; simp [a, b] at h
  have h2 : clsF x = 2 ∧ w.2 = 0 := by cases e : clsF x == 2 <;> simp_all
  unfold wst; rw [if_neg h1, if_pos h2]
theorem wst3 {w : Int × Int} {x : Int} (h : (bif clsF x == 1 then w.1 == 0 else false) = false) (h' : (bif clsF x == 2 then w.2 == 0 else false) = false) : wst w x = w := by
  have h1 : ¬ (clsF x = 1 ∧ w.1 = 0) := by rintro ⟨a, b⟩; simp [a, b] at h
  have h2 : ¬ (clsF x = 2 ∧ w.2 = 0) := by rintro ⟨a, b⟩; simp [a, b] at h'
  unfold wst; rw [if_neg h1, if_neg h2]
theorem tinA_len (a : Arm) : (tinA a).length ≤ 100 := by
  have e : ∀ y, (nz y).length ≤ 1 := fun y => by unfold nz; split <;> simp
  have e2 : (tinF a.f).length ≤ 2 := by unfold tinF; split <;> simp
  have := e a.t; have := e a.n.t; have := e a.r.t
  simp only [tinA, List.length_append]; omega
theorem tinS_len (a : Arm) : (tinS a).length ≤ 100 := by
  have e2 : (tinF a.f).length ≤ 2 := by unfold tinF; split <;> simp
  have h1 : (if a.o > 0 then [a.t] else []).length ≤ 1 := by split <;> simp
  have h2 : (if noG a.n = true then [] else [a.n.t]).length ≤ 1 := by split <;> simp
  have h3 : (if noG a.r = true then [] else [a.r.t]).length ≤ 1 := by split <;> simp
  simp only [tinS, List.length_append]; omega
/-- A leaf that hands out plain values. -/
theorem leafE {n0 : Nat} {hp : Heap} {x r : AV} (h : x = r) : ∃ y, some x = some y ∧ Frz n0 hp y r ∧ ∀ i b, (i, b) ∈ ([] : Heap) → lk i hp = some b := ⟨x, rfl, by rw [h]; exact .refl, by simp⟩
theorem wst1' {w : Int × Int} {x : Int} (h : (clsF x == 1) = true) (h' : (w.1 == 0) = true) : wst w x = (x, w.2) := wst1 (by rw [h]; exact h')
theorem wst1n {w : Int × Int} {x : Int} (h : (clsF x == 1) = true) (h' : (w.1 == 0) = false) : wst w x = w := by
  have e : clsF x = 1 := by simpa using h
  exact wst3 (by rw [h]; exact h') (by rw [e]; rfl)
theorem wst2' {w : Int × Int} {x : Int} (h : (clsF x == 1) = false) (h1 : (clsF x == 2) = true) (h' : (w.2 == 0) = true) : wst w x = (w.1, x) := wst2 (by rw [h]; rfl) (by rw [h1]; exact h')
theorem wst2n {w : Int × Int} {x : Int} (h : (clsF x == 1) = false) (h1 : (clsF x == 2) = true) (h' : (w.2 == 0) = false) : wst w x = w := wst3 (by rw [h]; rfl) (by rw [h1]; exact h')
theorem wst3' {w : Int × Int} {x : Int} (h : (clsF x == 1) = false) (h1 : (clsF x == 2) = false) : wst w x = w := wst3 (by rw [h]; rfl) (by rw [h1]; rfl)

end Go.Proofs.YtdicfibonfjalaaDoor.AM
