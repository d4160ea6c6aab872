import Derived.Test.YtoommgpcmgnpaaaAmT
import Derived.Test.YtoommgpcmgnpaaaDal
import Derived.Test.YtoommgpcmgnpaaaQtr
import Derived.Test.YtoommgpcmgnpaaaDil
import Derived.Test.YtoommgpcmgnpaaaDif
import Derived.Test.YtoommgpcmgnpaaaAmDl
set_option linter.unusedVariables false
set_option linter.unusedSimpArgs false
set_option maxRecDepth 100000
set_option maxHeartbeats 4000000
set_option cbv.maxSteps 3000000
namespace Go.Proofs.Ytoommgpcmgnpaaa.AM
/- The nearest arms of a list, and the table of differences: the program's and the reference's; conditions: none. -/
def okLs (l : List Arm) : Bool := bif decide ((l.length : Int) ≤ 16) then !l.any (fun y => !okA y) else false
theorem okLs_in {l : List Arm} (h : okLs l = true) : l.length ≤ 16 ∧ ∀ a ∈ l, okA a = true := by
  unfold okLs at h
  by_cases h1 : (l.length : Int) ≤ 16
  · rw [decide_eq_true h1, cond_true, Bool.not_eq_true', List.any_eq_false] at h
    exact ⟨by omega, fun a ha => by simpa using h a ha⟩
  · rw [decide_eq_false h1] at h; cases h
theorem okLs_at {l : List Arm} (h : okLs l = true) {i : Nat} (hi : i < l.length) : okA (l.getD i default) = true := (okLs_in h).2 _ (getD_mem hi)
/-- The first of the least. -/
def bst (g : Arm → Int) (l : List Arm) : Nat → Nat
  | 0 => 0
  | i + 1 => if g (l.getD i default) < g (l.getD (bst g l i) default) then i else bst g l i
theorem bst_le (g : Arm → Int) (l : List Arm) : ∀ i, 0 < i → bst g l i < i
  | 1, _ => by unfold bst; split <;> simp [bst]
  | i + 2, _ => by
    have := bst_le g l (i + 1) (by omega)
    unfold bst
    split <;> omega
theorem bst_least (g : Arm → Int) (l : List Arm) : ∀ i j, j < i → g (l.getD (bst g l i) default) ≤ g (l.getD j default)
  | i + 1, j, h => by
    have ih := bst_least g l i
    unfold bst
    split
    · rename_i hlt
      rcases Nat.lt_succ_iff_lt_or_eq.1 h with h | rfl
      · have := ih j h; omega
      · exact Int.le_refl _
    · rename_i hge
      rcases Nat.lt_succ_iff_lt_or_eq.1 h with h | rfl
      · exact ih j h
      · omega
def nrO (l : List Arm) (a : Arm) : Bool := okLs l && (okA a && decide (l ≠ []))
def nrI (l : List Arm) (a : Arm) : Int := if nrO l a then (bst (fun y => dS y a) l l.length : Nat) else 0
def nrN (l : List Arm) (a : Arm) : Int := if nrO l a then dS (l.getD (bst (fun y => dS y a) l l.length) default) a else 0
theorem nr_cond (l : List Arm) (a : Arm) : (bif bif !okLs l then true else !okA a then true else ((l.length : Int) == 0)) = !nrO l a := by
  unfold nrO
  cases okLs l <;> cases okA a <;> cases l <;> simp
  omega
theorem nrO_in {l : List Arm} {a : Arm} (h : nrO l a = true) : okLs l = true ∧ okA a = true ∧ 0 < l.length := by
  unfold nrO at h
  simp only [Bool.and_eq_true, decide_eq_true_eq] at h
  exact ⟨h.1, h.2.1, List.length_pos_iff.2 h.2.2⟩
theorem nr_no {l : List Arm} {a : Arm} (h : nrO l a = false) : nrI l a = 0 ∧ nrN l a = 0 := by
  unfold nrI nrN; rw [h]; exact ⟨rfl, rfl⟩
theorem nr_yes {l : List Arm} {a : Arm} (h : nrO l a = true) : nrI l a = (bst (fun y => dS y a) l l.length : Nat) ∧ nrN l a = dS (l.getD (bst (fun y => dS y a) l l.length) default) a := by
  unfold nrI nrN; rw [h]; exact ⟨rfl, rfl⟩

end Go.Proofs.Ytoommgpcmgnpaaa.AM
