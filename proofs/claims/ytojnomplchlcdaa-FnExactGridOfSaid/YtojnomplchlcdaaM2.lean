/- Contracts and lemmas (M2) for the laws of this seat: what the Go functions named here return, for all arguments that each theorem states; no further conditions. -/
import Derived.Below
namespace Go.Proofs.Ytojnomplchlcdaa

def gStep (n r p : Int) (s : Int × Int) : Int × Int := if n ≤ r * p ∧ (s.1 = 0 ∨ r * p < s.1 * s.2) then (r, p) else s
def gIn (n r : Int) : Nat → Int → Int × Int → Int × Int
  | 0, _, s => s
  | k + 1, p, s => gIn n r k (p + 1) (gStep n r p s)
def gOut (n m : Int) : Nat → Int → Int × Int → Int × Int
  | 0, _, s => s
  | k + 1, r, s => gOut n m k (r + 1) (gIn n r 3 r s)
/-- The grid for n quarterings. -/
def gGrid (n : Int) : Int × Int := gOut n 4 4 1 (0, 0)
theorem mul_bd {a b : Int} {A B : Nat} (h1 : 0 ≤ a) (h2 : a ≤ A) (h3 : 0 ≤ b) (h4 : b ≤ B) : 0 ≤ a * b ∧ a * b ≤ (A * B : Nat) := by
  obtain ⟨x, rfl⟩ := Int.eq_ofNat_of_zero_le h1
  obtain ⟨y, rfl⟩ := Int.eq_ofNat_of_zero_le h3
  have := Nat.mul_le_mul (show x ≤ A by omega) (show y ≤ B by omega)
  constructor
  · exact Int.mul_nonneg (by omega) (by omega)
  · exact_mod_cast this
theorem twelve {n : Int} (h1 : 1 ≤ n) (h2 : n ≤ 12) : n = 1 ∨ n = 2 ∨ n = 3 ∨ n = 4 ∨ n = 5 ∨ n = 6 ∨ n = 7 ∨ n = 8 ∨ n = 9 ∨ n = 10 ∨ n = 11 ∨ n = 12 := by omega
theorem grid_same {n : Int} (h1 : 1 ≤ n) (h2 : n ≤ 12) : gOut n n n.toNat 1 (0, 0) = gGrid n := by
  rcases twelve h1 h2 with rfl | rfl | rfl | rfl | rfl | rfl | rfl | rfl | rfl | rfl | rfl | rfl <;> decide +kernel
theorem gStep_bd {n r p : Int} {s : Int × Int} (hr : 0 ≤ r ∧ r ≤ 12) (hp : 0 ≤ p ∧ p ≤ 14) (h1 : 0 ≤ s.1 ∧ s.1 ≤ 12) (h2 : 0 ≤ s.2 ∧ s.2 ≤ 14) : (0 ≤ (gStep n r p s).1 ∧ (gStep n r p s).1 ≤ 12) ∧ (0 ≤ (gStep n r p s).2 ∧ (gStep n r p s).2 ≤ 14) := by
  unfold gStep; split
  · exact ⟨hr, hp⟩
  · exact ⟨h1, h2⟩

end Go.Proofs.Ytojnomplchlcdaa
