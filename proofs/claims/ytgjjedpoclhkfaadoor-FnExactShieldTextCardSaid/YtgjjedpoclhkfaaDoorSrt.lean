import Derived.Test.YtgjjedpoclhkfaaDoorAmT
import Derived.Test.YtgjjedpoclhkfaaDoorLst
import Derived.Test.YtgjjedpoclhkfaaDoorDif
import Derived.Test.YtgjjedpoclhkfaaDoorGrp
set_option linter.unusedVariables false
set_option linter.unusedSimpArgs false
set_option maxRecDepth 100000
set_option maxHeartbeats 4000000
set_option cbv.maxSteps 3000000
namespace Go.Proofs.YtgjjedpoclhkfaaDoor.AM
/- Insertion sort, as the library does it; numbers sorted; conditions: none. -/
def swp {α : Type} (d : α) (l : List α) (j : Nat) : List α := (l.set j (l.getD (j - 1) d)).set (j - 1) (l.getD j d)
def bub {α : Type} (lt : α → α → Bool) (d : α) : Nat → List α → List α
  | 0, l => l
  | j + 1, l => bif lt (l.getD (j + 1) d) (l.getD j d) then bub lt d j (swp d l (j + 1)) else l
def isr {α : Type} (lt : α → α → Bool) (d : α) (l : List α) : Nat → List α
  | 0 => l
  | i + 1 => bub lt d (i + 1) (isr lt d l i)
theorem swp_len {α : Type} (d : α) (l : List α) (j : Nat) : (swp d l j).length = l.length := by simp [swp]
theorem bub_len {α : Type} (lt : α → α → Bool) (d : α) : ∀ (j : Nat) (l : List α), (bub lt d j l).length = l.length
  | 0, l => rfl
  | j + 1, l => by
    unfold bub
    cases lt (l.getD (j + 1) d) (l.getD j d)
    · rfl
    · exact (bub_len lt d j _).trans (swp_len d l (j + 1))
theorem isr_len {α : Type} (lt : α → α → Bool) (d : α) (l : List α) : ∀ i, (isr lt d l i).length = l.length
  | 0 => rfl
  | i + 1 => (bub_len lt d (i + 1) _).trans (isr_len lt d l i)
theorem bub_yes {α : Type} {lt : α → α → Bool} {d : α} {j : Nat} {l : List α} (h : lt (l.getD (j + 1) d) (l.getD j d) = true) : bub lt d (j + 1) l = bub lt d j (swp d l (j + 1)) := by
  rw [bub, h]; rfl
theorem bub_no {α : Type} {lt : α → α → Bool} {d : α} {j : Nat} {l : List α} (h : lt (l.getD (j + 1) d) (l.getD j d) = false) : bub lt d (j + 1) l = l := by
  rw [bub, h]; rfl
theorem getDm {α : Type} {d : α} {l : List α} {j : Nat} (h : j < l.length) : l.getD j d ∈ l := by
  rw [List.getD_eq_getElem?_getD, List.getElem?_eq_getElem h, Option.getD_some]; exact List.getElem_mem h
theorem swp_mem {α : Type} {d : α} {l : List α} {j : Nat} (h : j < l.length) {x : α} (hx : x ∈ swp d l j) : x ∈ l := by
  unfold swp at hx
  rcases List.mem_or_eq_of_mem_set hx with hx | rfl
  · rcases List.mem_or_eq_of_mem_set hx with hx | rfl
    · exact hx
    · exact getDm (by omega)
  · exact getDm h
theorem bub_mem {α : Type} {lt : α → α → Bool} {d : α} : ∀ {j : Nat} {l : List α}, j < l.length → ∀ {x : α}, x ∈ bub lt d j l → x ∈ l
  | 0, l, _, x, hx => hx
  | j + 1, l, h, x, hx => by
    unfold bub at hx
    cases hl : lt (l.getD (j + 1) d) (l.getD j d)
    · rw [hl] at hx; exact hx
    · rw [hl] at hx
      exact swp_mem h (bub_mem (by rw [swp_len]; omega) hx)
theorem isr_mem {α : Type} {lt : α → α → Bool} {d : α} {l : List α} : ∀ {i : Nat}, i < l.length → ∀ {x : α}, x ∈ isr lt d l i → x ∈ l
  | 0, _, x, hx => hx
  | i + 1, h, x, hx => isr_mem (by omega) (bub_mem (by rw [isr_len]; exact h) hx)
def ltI (x y : Int) : Bool := decide (x < y)
theorem rows_sw {m : List Int} {i j : Nat} (e : j = i - 1) : RowsEq 1 (swp 0 m i).length (rowsI stdH fun _ => swp 0 m i) m.length (put1 j [.lit (.int .i64 (m.getD i 0))] (put1 i [.lit (.int .i64 (m.getD j 0))] (rowsI stdH fun _ => m))) := by
  subst e
  exact RowsEq.ofT okI rfl (Shp_put1 (Shp_put1 (Shp_I _ _) rfl) rfl) (by rw [Tl_put1, Tl_put1, Tl_I]; rfl)
theorem wsub {j : Nat} (h : 0 < j) (hj : j ≤ 4000000) : IntKind.i64.wrap ((j : Int) - 1) = ((j - 1 : Nat) : Int) := by
  rw [wi] <;> omega

end Go.Proofs.YtgjjedpoclhkfaaDoor.AM
