/- Contracts and lemmas (M1) for the laws of this seat: what the Go functions named here return, for all arguments that each theorem states; no further conditions. -/
import Derived.Below
namespace Go.Proofs.YtgjjedpoclhkfaaDoor

def inB (x a b : Int) : Bool := decide (a ≤ x ∧ x ≤ b)
theorem inB_true {x a b : Int} (h : inB x a b = true) : a ≤ x ∧ x ≤ b := by simpa [inB] using h
theorem inB_false {x a b : Int} (h : inB x a b = false) : ¬ (a ≤ x ∧ x ≤ b) := by simpa [inB] using h
theorem inB_ite {x a b : Int} (h : a ≤ x) (v : Bool) (hv : v = decide (x ≤ b)) : v = inB x a b := by subst hv; simp [inB, h]

def rankW (r : Int) : ByteArray := if r = 1 then (⟨#[101, 115, 113, 117, 105, 114, 101]⟩ : ByteArray) else if r = 2 then (⟨#[107, 110, 105, 103, 104, 116]⟩ : ByteArray) else if r = 3 then (⟨#[98, 97, 114, 111, 110]⟩ : ByteArray) else if r = 4 then (⟨#[99, 111, 117, 110, 116]⟩ : ByteArray) else (⟨#[112, 114, 105, 110, 99, 101]⟩ : ByteArray)
def helmW (r : Int) : ByteArray := if r = 1 then (⟨#[115, 116, 101, 101, 108, 32, 99, 108, 111, 115, 101, 100]⟩ : ByteArray) else if r = 2 then (⟨#[115, 116, 101, 101, 108, 32, 111, 112, 101, 110]⟩ : ByteArray) else if r = 3 then (⟨#[115, 105, 108, 118, 101, 114, 32, 98, 97, 114, 114, 101, 100]⟩ : ByteArray) else if r = 4 then (⟨#[115, 105, 108, 118, 101, 114, 32, 98, 97, 114, 114, 101, 100]⟩ : ByteArray) else (⟨#[103, 111, 108, 100, 32, 98, 97, 114, 114, 101, 100]⟩ : ByteArray)
def barsW (r : Int) : Int := if r = 1 then 0 else if r = 2 then 0 else if r = 3 then 5 else if r = 4 then 7 else 11
theorem five {r : Int} (h : inB r 1 5 = true) : r = 1 ∨ r = 2 ∨ r = 3 ∨ r = 4 ∨ r = 5 := by have := inB_true h; omega

end Go.Proofs.YtgjjedpoclhkfaaDoor
