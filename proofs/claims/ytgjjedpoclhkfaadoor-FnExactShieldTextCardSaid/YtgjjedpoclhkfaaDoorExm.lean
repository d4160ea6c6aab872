import Derived.Test.YtgjjedpoclhkfaaDoorAmT
import Derived.Test.YtgjjedpoclhkfaaDoorExa
set_option linter.unusedVariables false
set_option linter.unusedSimpArgs false
set_option maxRecDepth 100000
set_option maxHeartbeats 4000000
set_option cbv.maxSteps 3000000
namespace Go.Proofs.YtgjjedpoclhkfaaDoor.AM
/- Lists of arms marked, and marks that are held; conditions: none. -/
def mkA (k : Int) : Arm := ⟨⟨k, k + 1, k + 2, k + 3⟩, k + 4, k + 5, k + 6, ⟨k + 7, k + 8, k + 9, k + 10⟩, ⟨k + 11, k + 12, k + 13, k + 14⟩⟩
def mkL (n : Nat) (k : Int) : List Arm := (List.range n).map fun i => mkA (k + 15 * (i : Nat))
theorem mkL_len (n : Nat) (k : Int) : (mkL n k).length = n := by simp [mkL]
theorem mkL_getD {n i : Nat} {k : Int} (h : i < n) : (mkL n k).getD i default = mkA (k + 15 * (i : Nat)) := by simp [mkL, List.getD_eq_getElem?_getD, h]
theorem mkL_succ (n : Nat) (k : Int) : mkL (n + 1) k = mkL n k ++ [mkA (k + 15 * (n : Nat))] := by simp [mkL, List.range_succ]
theorem mkL_set {l : List Arm} {i : Nat} {k : Int} (h : i < l.length) : (mkL i k ++ l.drop i).set i (mkA (k + 15 * (i : Nat))) = mkL (i + 1) k ++ l.drop (i + 1) := by
  rw [List.set_append_right _ _ (by rw [mkL_len]; omega), mkL_len, Nat.sub_self, List.drop_eq_getElem_cons h, List.set_cons_zero, mkL_succ, List.append_assoc]
  rfl
theorem put2_same (j o : Nat) (cs : List AV) (f : Nat → List AV) : put2 j o cs f j = (match splice (f j) cs o with | some r => r | none => f j) := by unfold put2; rw [show Nat.beq j j = true by simp]; rfl
theorem put2_ne {j q : Nat} (h : q ≠ j) (o : Nat) (cs : List AV) (f : Nat → List AV) : put2 j o cs f q = f q := by unfold put2; rw [show Nat.beq q j = false by rw [← Bool.not_eq_true]; simpa using h]; rfl
theorem put1_same {α : Type} (j : Nat) (row : α) (f : Nat → α) : put1 j row f j = row := by unfold put1; rw [show Nat.beq j j = true by simp]; rfl
theorem put1_ne {α : Type} {j q : Nat} (h : q ≠ j) (row : α) (f : Nat → α) : put1 j row f q = f q := by unfold put1; rw [show Nat.beq q j = false by rw [← Bool.not_eq_true]; simpa using h]; rfl
theorem put2_15 {i : Nat} {f : Nat → List AV} (h : (f i).length = 15) (c0 c1 c2 c3 c4 c5 c6 c7 c8 c9 c10 c11 c12 c13 c14 : AV) : put2 i 14 [c14] (put2 i 13 [c13] (put2 i 12 [c12] (put2 i 11 [c11] (put2 i 10 [c10] (put2 i 9 [c9] (put2 i 8 [c8] (put2 i 7 [c7] (put2 i 6 [c6] (put2 i 5 [c5] (put2 i 4 [c4] (put2 i 3 [c3] (put2 i 2 [c2] (put2 i 1 [c1] (put2 i 0 [c0] f)))))))))))))) = put1 i [c0, c1, c2, c3, c4, c5, c6, c7, c8, c9, c10, c11, c12, c13, c14] f := by
  funext q
  by_cases hq : q = i
  · subst hq
    simp only [put2_same, put1_same]
    match hf : f q, h with
    | [d0, d1, d2, d3, d4, d5, d6, d7, d8, d9, d10, d11, d12, d13, d14], _ => simp only [splice, List.length_cons, List.length_nil, Nat.ble_eq, hf]; rfl
  · simp only [put2_ne hq, put1_ne hq]
theorem splice_len : ∀ {cs n : List AV} {o : Nat} {r : List AV}, splice cs n o = some r → r.length = cs.length
  | cs, n, 0, r, h => by
    simp only [splice] at h
    cases hb : Nat.ble n.length cs.length with
    | false => simp [hb] at h
    | true =>
      simp only [hb, cond_true, Option.some.injEq] at h
      subst h
      have := Nat.le_of_ble_eq_true hb
      simp; omega
  | [], n, o + 1, r, h => by simp [splice] at h
  | c :: cs, n, o + 1, r, h => by
    simp only [splice] at h
    cases hs : splice cs n o with
    | none => simp [hs] at h
    | some l =>
      simp only [hs, Option.some.injEq] at h
      subst h
      simp [splice_len hs]
theorem put2_len (j o : Nat) (cs : List AV) (f : Nat → List AV) (q : Nat) : (put2 j o cs f q).length = (f q).length := by
  by_cases h : q = j
  · subst h
    rw [put2_same]
    cases hs : splice (f q) cs o with
    | none => rfl
    | some r => exact splice_len hs
  · rw [put2_ne h]
theorem rowsA_len (L : List Arm) (j : Nat) : (rowsA stdH (fun _ => L) j).length = 15 := rfl
theorem wk0 {K : Int} (h : 0 ≤ K ∧ K ≤ 2000000000) : IntKind.i64.wrap (K + 1) = K + 1 := wi (by omega) (by omega)
theorem wk1 {K : Int} (h : 0 ≤ K ∧ K ≤ 2000000000) : IntKind.i64.wrap (K + 1 + 1) = K + 2 := by rw [wi (by omega) (by omega)]; omega
theorem wk2 {K : Int} (h : 0 ≤ K ∧ K ≤ 2000000000) : IntKind.i64.wrap (K + 2 + 1) = K + 3 := by rw [wi (by omega) (by omega)]; omega
theorem wk3 {K : Int} (h : 0 ≤ K ∧ K ≤ 2000000000) : IntKind.i64.wrap (K + 3 + 1) = K + 4 := by rw [wi (by omega) (by omega)]; omega
theorem wk4 {K : Int} (h : 0 ≤ K ∧ K ≤ 2000000000) : IntKind.i64.wrap (K + 4 + 1) = K + 5 := by rw [wi (by omega) (by omega)]; omega
theorem wk5 {K : Int} (h : 0 ≤ K ∧ K ≤ 2000000000) : IntKind.i64.wrap (K + 5 + 1) = K + 6 := by rw [wi (by omega) (by omega)]; omega
theorem wk6 {K : Int} (h : 0 ≤ K ∧ K ≤ 2000000000) : IntKind.i64.wrap (K + 6 + 1) = K + 7 := by rw [wi (by omega) (by omega)]; omega
theorem wk7 {K : Int} (h : 0 ≤ K ∧ K ≤ 2000000000) : IntKind.i64.wrap (K + 7 + 1) = K + 8 := by rw [wi (by omega) (by omega)]; omega
theorem wk8 {K : Int} (h : 0 ≤ K ∧ K ≤ 2000000000) : IntKind.i64.wrap (K + 8 + 1) = K + 9 := by rw [wi (by omega) (by omega)]; omega
theorem wk9 {K : Int} (h : 0 ≤ K ∧ K ≤ 2000000000) : IntKind.i64.wrap (K + 9 + 1) = K + 10 := by rw [wi (by omega) (by omega)]; omega
theorem wk10 {K : Int} (h : 0 ≤ K ∧ K ≤ 2000000000) : IntKind.i64.wrap (K + 10 + 1) = K + 11 := by rw [wi (by omega) (by omega)]; omega
theorem wk11 {K : Int} (h : 0 ≤ K ∧ K ≤ 2000000000) : IntKind.i64.wrap (K + 11 + 1) = K + 12 := by rw [wi (by omega) (by omega)]; omega
theorem wk12 {K : Int} (h : 0 ≤ K ∧ K ≤ 2000000000) : IntKind.i64.wrap (K + 12 + 1) = K + 13 := by rw [wi (by omega) (by omega)]; omega
theorem wk13 {K : Int} (h : 0 ≤ K ∧ K ≤ 2000000000) : IntKind.i64.wrap (K + 13 + 1) = K + 14 := by rw [wi (by omega) (by omega)]; omega
theorem wk14 {K : Int} (h : 0 ≤ K ∧ K ≤ 2000000000) : IntKind.i64.wrap (K + 14 + 1) = K + 15 := by rw [wi (by omega) (by omega)]; omega

end Go.Proofs.YtgjjedpoclhkfaaDoor.AM
