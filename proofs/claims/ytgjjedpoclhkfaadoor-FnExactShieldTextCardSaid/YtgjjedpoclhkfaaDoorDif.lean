import Derived.Test.YtgjjedpoclhkfaaDoorTin
import Derived.Test.YtgjjedpoclhkfaaDoorVB
set_option linter.unusedVariables false
set_option linter.unusedSimpArgs false
set_option maxRecDepth 100000
set_option maxHeartbeats 4000000
set_option cbv.maxSteps 3000000
namespace Go.Proofs.YtgjjedpoclhkfaaDoor.AM
/- How arms differ; conditions: none. -/
def nB (b : Bool) : Int := bif b then 1 else 0
def eqI (n : Nat) (f : Nat → Int) (m : Nat) (g : Nat → Int) : Bool := decide (n = m) && decide (∀ j, j < n → f j = g j)
theorem ints_vrow (g : Nat → Int) : ints (vrow g) = g := rfl
theorem eqI_list (l m : List Int) : eqI l.length (lget l) m.length (lget m) = decide (l = m) := by
  unfold eqI
  rw [Bool.eq_iff_iff]
  simp only [Bool.and_eq_true, decide_eq_true_eq]
  constructor
  · rintro ⟨h1, h2⟩
    refine List.ext_getElem h1 fun i hi hj => ?_
    have := h2 i hi
    simpa [lget, List.getElem?_eq_getElem hi, List.getElem?_eq_getElem hj] using this
  · rintro rfl; exact ⟨rfl, fun _ _ => rfl⟩
theorem tinF_len (f : Fld) : (tinF f).length ≤ 100000 := by unfold tinF; split <;> simp
def dF (a b : Fld) : Int := nB (!decide (a.d = b.d)) + nB (!decide (a.l = b.l)) + nB (!decide (tinF a = tinF b))
def eqF (a b : Fld) : Bool := allT [fun _ => a.d == b.d, fun _ => a.l == b.l, fun _ => a.p == b.p, fun _ => a.q == b.q]
def eqG (a b : Grp) : Bool := allT [fun _ => a.c == b.c, fun _ => a.k == b.k, fun _ => a.a == b.a, fun _ => a.t == b.t]
theorem allG2 (a b c d x y z w : Int) : allT [fun _ => a == x, fun _ => b == y, fun _ => c == z, fun _ => d == w] = eqG ⟨a, b, c, d⟩ ⟨x, y, z, w⟩ := rfl
theorem allF2 (a b c d x y z w : Int) : allT [fun _ => a == x, fun _ => b == y, fun _ => c == z, fun _ => d == w] = eqF ⟨a, b, c, d⟩ ⟨x, y, z, w⟩ := rfl
def gd (a b : Grp) : Int := bif eqG a b then 0 else bif noG a || noG b then 2 else nB (!decide (a.c = b.c)) + nB (!decide (a.t = b.t)) + (bif !decide (a.k = b.k) then 2 else nB (!decide (a.a = b.a)))
def ls (a b : Grp) : Int := bif noG a != noG b then 2 else nB (!decide (a.c = b.c)) + (bif !decide (a.k = b.k) then 2 else nB (!decide (a.a = b.a))) + nB (!decide (a.t = b.t))
def dv (a b : Fld) : Int := bif okF a && okF b then dF a b else 0
theorem nB_b (b : Bool) : 0 ≤ nB b ∧ nB b ≤ 1 := by cases b <;> decide
theorem dF_b (a b : Fld) : 0 ≤ dF a b ∧ dF a b ≤ 3 := by
  have h1 := nB_b (!decide (a.d = b.d)); have h2 := nB_b (!decide (a.l = b.l)); have h3 := nB_b (!decide (tinF a = tinF b))
  unfold dF; omega
theorem dv_b (a b : Fld) : 0 ≤ dv a b ∧ dv a b ≤ 3 := by
  have := dF_b a b
  unfold dv; cases okF a && okF b
  · simp
  · exact this
theorem gd_b (a b : Grp) : 0 ≤ gd a b ∧ gd a b ≤ 4 := by
  have h1 := nB_b (!decide (a.c = b.c)); have h2 := nB_b (!decide (a.t = b.t)); have h3 := nB_b (!decide (a.a = b.a))
  unfold gd
  cases eqG a b
  · cases noG a || noG b
    · cases decide (a.k = b.k) <;> simp only [cond_true, cond_false, Bool.not_true, Bool.not_false] <;> omega
    · simp
  · simp
theorem ls_b (a b : Grp) : 0 ≤ ls a b ∧ ls a b ≤ 4 := by
  have h1 := nB_b (!decide (a.c = b.c)); have h2 := nB_b (!decide (a.t = b.t)); have h3 := nB_b (!decide (a.a = b.a))
  unfold ls
  cases noG a != noG b
  · cases decide (a.k = b.k) <;> simp only [cond_true, cond_false, Bool.not_true, Bool.not_false] <;> omega
  · simp
def od (a b : Arm) : Int := bif !decide (a.o = b.o) then 2 else nB (!decide (a.l = b.l)) + nB (!decide (a.t = b.t))
def dI (a b : Arm) : Int := dv a.f b.f + (gd a.n b.n + gd a.r b.r) + od a b
def dS (a b : Arm) : Int := dF a.f b.f + ls a.n b.n + ls a.r b.r + od a b

end Go.Proofs.YtgjjedpoclhkfaaDoor.AM
