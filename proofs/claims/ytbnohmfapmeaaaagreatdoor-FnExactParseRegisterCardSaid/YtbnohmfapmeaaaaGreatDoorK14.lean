/- Lemmas and contracts (Exm); conditions: none. -/
import Derived.Test.YtbnohmfapmeaaaaGreatDoorK03
import Derived.Test.YtbnohmfapmeaaaaGreatDoorK10
set_option linter.unusedVariables false
set_option linter.unusedSimpArgs false
set_option maxRecDepth 100000
set_option maxHeartbeats 4000000
set_option cbv.maxSteps 3000000
namespace Go.Proofs.YtbnohmfapmeaaaaGreatDoor.AM
/- Lists of arms marked, and marks that are held; conditions: none. -/
theorem put2_same (j o : Nat) (cs : List AV) (f : Nat → List AV) : put2 j o cs f j = (match splice (f j) cs o with | some r => r | none => f j) := by unfold put2; rw [show Nat.beq j j = true by simp]; rfl
theorem put2_ne {j q : Nat} (h : q ≠ j) (o : Nat) (cs : List AV) (f : Nat → List AV) : put2 j o cs f q = f q := by unfold put2; rw [show Nat.beq q j = false by rw [← Bool.not_eq_true]; simpa using h]; rfl
theorem put1_same {α : Type} (j : Nat) (row : α) (f : Nat → α) : put1 j row f j = row := by unfold put1; rw [show Nat.beq j j = true by simp]; rfl
theorem put1_ne {α : Type} {j q : Nat} (h : q ≠ j) (row : α) (f : Nat → α) : put1 j row f q = f q := by unfold put1; rw [show Nat.beq q j = false by rw [← Bool.not_eq_true]; simpa using h]; rfl
theorem splice_len : ∀ {cs n : List AV} {o : Nat} {r : List AV}, splice cs n o = some r → r.length = cs.length
  | cs, n, 0, r, h => by
    simp only [splice] at h
    cases hb : Nat.ble n.length cs.length with
    | false => simp [hb] at h
    | true =>
      simp only [hb, cond_true, Option.some.injEq] at h
      subst h
      have := Nat.le_of_ble_eq_true hb
      simp; omega
  | [], n, o + 1, r, h => by simp [splice] at h
  | c :: cs, n, o + 1, r, h => by
    simp only [splice] at h
    cases hs : splice cs n o with
    | none => simp [hs] at h
    | some l =>
      simp only [hs, Option.some.injEq] at h
      subst h
      simp [splice_len hs]
theorem put2_len (j o : Nat) (cs : List AV) (f : Nat → List AV) (q : Nat) : (put2 j o cs f q).length = (f q).length := by
  by_cases h : q = j
  · subst h
    rw [put2_same]
    cases hs : splice (f q) cs o with
    | none => rfl
    | some r => exact splice_len hs
  · rw [put2_ne h]
theorem wk0 {K : Int} (h : 0 ≤ K ∧ K ≤ 2000000000) : IntKind.i64.wrap (K + 1) = K + 1 := wi (by omega) (by omega)
theorem wk1 {K : Int} (h : 0 ≤ K ∧ K ≤ 2000000000) : IntKind.i64.wrap (K + 1 + 1) = K + 2 := by rw [wi (by omega) (by omega)]; omega
theorem wk2 {K : Int} (h : 0 ≤ K ∧ K ≤ 2000000000) : IntKind.i64.wrap (K + 2 + 1) = K + 3 := by rw [wi (by omega) (by omega)]; omega
theorem wk3 {K : Int} (h : 0 ≤ K ∧ K ≤ 2000000000) : IntKind.i64.wrap (K + 3 + 1) = K + 4 := by rw [wi (by omega) (by omega)]; omega
theorem wk4 {K : Int} (h : 0 ≤ K ∧ K ≤ 2000000000) : IntKind.i64.wrap (K + 4 + 1) = K + 5 := by rw [wi (by omega) (by omega)]; omega
theorem wk5 {K : Int} (h : 0 ≤ K ∧ K ≤ 2000000000) : IntKind.i64.wrap (K + 5 + 1) = K + 6 := by rw [wi (by omega) (by omega)]; omega
theorem wk6 {K : Int} (h : 0 ≤ K ∧ K ≤ 2000000000) : IntKind.i64.wrap (K + 6 + 1) = K + 7 := by rw [wi (by omega) (by omega)]; omega
theorem wk7 {K : Int} (h : 0 ≤ K ∧ K ≤ 2000000000) : IntKind.i64.wrap (K + 7 + 1) = K + 8 := by rw [wi (by omega) (by omega)]; omega
theorem wk8 {K : Int} (h : 0 ≤ K ∧ K ≤ 2000000000) : IntKind.i64.wrap (K + 8 + 1) = K + 9 := by rw [wi (by omega) (by omega)]; omega
theorem wk9 {K : Int} (h : 0 ≤ K ∧ K ≤ 2000000000) : IntKind.i64.wrap (K + 9 + 1) = K + 10 := by rw [wi (by omega) (by omega)]; omega
theorem wk10 {K : Int} (h : 0 ≤ K ∧ K ≤ 2000000000) : IntKind.i64.wrap (K + 10 + 1) = K + 11 := by rw [wi (by omega) (by omega)]; omega
theorem wk11 {K : Int} (h : 0 ≤ K ∧ K ≤ 2000000000) : IntKind.i64.wrap (K + 11 + 1) = K + 12 := by rw [wi (by omega) (by omega)]; omega
theorem wk12 {K : Int} (h : 0 ≤ K ∧ K ≤ 2000000000) : IntKind.i64.wrap (K + 12 + 1) = K + 13 := by rw [wi (by omega) (by omega)]; omega
theorem wk13 {K : Int} (h : 0 ≤ K ∧ K ≤ 2000000000) : IntKind.i64.wrap (K + 13 + 1) = K + 14 := by rw [wi (by omega) (by omega)]; omega
theorem wk14 {K : Int} (h : 0 ≤ K ∧ K ≤ 2000000000) : IntKind.i64.wrap (K + 14 + 1) = K + 15 := by rw [wi (by omega) (by omega)]; omega
end Go.Proofs.YtbnohmfapmeaaaaGreatDoor.AM

