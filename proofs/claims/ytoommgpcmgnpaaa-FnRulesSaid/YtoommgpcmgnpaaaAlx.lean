import Derived.Test.YtoommgpcmgnpaaaAmT
import Derived.Test.YtoommgpcmgnpaaaAlw
import Derived.Test.YtoommgpcmgnpaaaDrA
import Derived.Test.YtoommgpcmgnpaaaVB
set_option linter.unusedVariables false
set_option linter.unusedSimpArgs false
set_option maxRecDepth 100000
set_option maxHeartbeats 4000000
set_option cbv.maxSteps 3000000
namespace Go.Proofs.Ytoommgpcmgnpaaa.AM
/- Tinctures that are allowed; conditions: none. -/
def tcs (n : Nat) : List Int := (List.range n).map fun i => ((i : Nat) : Int) + 1
theorem tcs_succ (n : Nat) (p : Int → Bool) : (tcs (n + 1)).filter p = (tcs n).filter p ++ (if p ((n : Int) + 1) then [(n : Int) + 1] else []) := by
  simp only [tcs, List.range_succ, List.map_append, List.filter_append, List.map_cons, List.map_nil, List.filter_cons, List.filter_nil]
theorem tcs_le (n : Nat) (p : Int → Bool) : ((tcs n).filter p).length ≤ n := Nat.le_trans (List.length_filter_le _ _) (by simp [tcs])
theorem Tl_lit1 (x : Int) : Tl rowI 1 (rowsOf 1 [.lit (.int .i64 x)]) = [x] := rfl
theorem Shp_lit1 (x : Int) : Shp rowI 1 (rowsOf 1 [.lit (.int .i64 x)]) := Shp_one rfl
theorem RowsEq.lit1 (x : Int) : RowsEq 1 1 (rowsOf 1 [.lit (.int .i64 x)]) 1 (rowsOf 1 [.lit (.int .i64 x)]) := ⟨rfl, fun j hj => by
  obtain rfl : j = 0 := by omega
  exact ⟨rfl, rfl, fun x hx => by simp [rowsOf] at hx; subst hx; exact .lit⟩⟩
def alwP (l : List Int) (x : Int) : Bool := !l.all (clsh x)
def belF (a : Arm) (place : Int) : List Int := if place = 2 then [a.t] else tinF a.f
def askA (a : Arm) (place : Int) : Bool := okA a && (bif (bif place == 1 then a.o != 0 else false) then true else bif (bif place == 2 then !noG a.n else false) then true else bif place == 3 then !noG a.r else false)
theorem inB3 {p : Int} (h : inB p 1 3 = true) : p = 1 ∨ p = 2 ∨ p = 3 := by unfold inB at h; simp at h; omega
theorem ask1 {a : Arm} {p : Int} (h : (bif !okA a then true else !inB p 1 3) = true) : askA a p = false := by
  unfold askA
  cases ho : okA a with
  | false => rfl
  | true =>
    rw [ho] at h
    have h2 : inB p 1 3 = false := by simpa using h
    have n1 : (p == 1) = false := by rw [beq_eq_false_iff_ne]; rintro rfl; cases h2
    have n2 : (p == 2) = false := by rw [beq_eq_false_iff_ne]; rintro rfl; cases h2
    have n3 : (p == 3) = false := by rw [beq_eq_false_iff_ne]; rintro rfl; cases h2
    rw [n1, n2, n3]; rfl
theorem okA_on {a : Arm} (h : okA a = true) (h0 : a.o = 0) : noG a.n = true := by
  simp only [okA, Bool.and_eq_true, if_pos h0] at h; exact h.2.2
theorem ask2 {a : Arm} {p : Int} (h : (bif !okA a then true else !inB p 1 3) = false) : askA a p = !(bif (bif (bif p != 3 then a.o == 0 else false) then true else bif p == 2 then noG a.n else false) then true else bif p == 3 then noG a.r else false) := by
  have ho : okA a = true := by cases ho : okA a <;> simp_all
  have hp := inB3 (p := p) (by rw [ho] at h; simpa using h)
  unfold askA
  rw [ho]
  by_cases h0 : a.o = 0
  · have := okA_on ho h0
    rcases hp with rfl | rfl | rfl <;> simp [h0, this]
  · rcases hp with rfl | rfl | rfl <;> simp [h0, bne]
theorem belP {a : Arm} {p x : Int} (h : (p == 2) = true) : alwP (belF a p) x = !clsh x a.t := by
  have : p = 2 := by simpa using h
  unfold belF alwP; rw [if_pos this]; simp
theorem belN {a : Arm} {p x : Int} (h : (p == 2) = false) : alwP (belF a p) x = !(tinF a.f).all (clsh x) := by
  have : ¬ p = 2 := by simpa using h
  unfold belF alwP; rw [if_neg this]

end Go.Proofs.Ytoommgpcmgnpaaa.AM
