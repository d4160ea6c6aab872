import Derived.Test.YtoommgpcmgnpaaaAmT
import Derived.Test.YtoommgpcmgnpaaaAmDl
import Derived.Test.YtoommgpcmgnpaaaDrL
import Derived.Test.YtoommgpcmgnpaaaShd
set_option linter.unusedVariables false
set_option linter.unusedSimpArgs false
set_option maxRecDepth 100000
set_option maxHeartbeats 4000000
set_option cbv.maxSteps 3000000
namespace Go.Proofs.Ytoommgpcmgnpaaa.AM
/- Lists of arms like each other are drawn; conditions: none. -/
/-- What a round of draws of one kind leaves: n more arms like a. -/
noncomputable def alG (c : Cd) (a : Arm) : Nat → List Arm → DS → List Arm × DS
  | 0, L, st => (L, st)
  | n + 1, L, st => alG c a n (L ++ [(F_like c a st).1]) (F_like c a st).2
theorem alG_ok (c : Cd) (a : Arm) : ∀ (n : Nat) (L : List Arm) (st : DS) (k : Nat), Bd (40 * n + k) st → Adv (40 * n) st (alG c a n L st).2 ∧ (alG c a n L st).1.length = L.length + n
  | 0, L, st, k, _ => ⟨Adv.refl _ _, rfl⟩
  | n + 1, L, st, k, h => by
    have a1 := (p_like c a st (h.mono (by omega))).1
    obtain ⟨h1, h2⟩ := alG_ok c a n (L ++ [(F_like c a st).1]) (F_like c a st).2 k (a1.bd h (by omega))
    refine ⟨a1.trans h1 (by omega), ?_⟩
    show (alG c a n (L ++ [(F_like c a st).1]) (F_like c a st).2).1.length = _
    rw [h2, List.length_append, List.length_singleton]; omega
/-- One of them may be replaced by any arms. -/
noncomputable def alB (c : Cd) (p : List Arm × DS) : List Arm × DS := if 0 < p.1.length then (if (F_one c 16 p.2).1 = true then (p.1.set (F_pick c p.1.length (F_one c 16 p.2).2).1.toNat (F_anyArms c (F_pick c p.1.length (F_one c 16 p.2).2).2).1, (F_anyArms c (F_pick c p.1.length (F_one c 16 p.2).2).2).2) else (p.1, (F_one c 16 p.2).2)) else p
theorem alB_ok (c : Cd) (p : List Arm × DS) (h : Bd 58 p.2) : Adv 58 p.2 (alB c p).2 ∧ (alB c p).1.length = p.1.length := by
  unfold alB
  have a1 := (p_one c 16 p.2 (h.mono (by omega))).1
  split
  · rename_i h0
    split
    · have a2 := (p_pick c p.1.length (F_one c 16 p.2).2 ((a1.bd h (by omega : 2 + 56 ≤ 58)).mono (by omega))).1
      have a3 := (p_anyArms c _ ((a2.bd (a1.bd h (by omega : 2 + 56 ≤ 58)) (by omega : 2 + 54 ≤ 56)).mono (by omega))).1
      exact ⟨a1.trans (a2.trans a3 (Nat.le_refl _)) (by omega), by simp⟩
    · exact ⟨a1.le (by omega), rfl⟩
  · exact ⟨(Adv.refl 0 p.2).le (by omega), rfl⟩
def alF (n : Int) : Arm := ⟨⟨0, 0, IntKind.i64.wrap (1 + n.tmod 9), 0⟩, 0, 0, 0, ⟨0, 0, 0, 0⟩, ⟨0, 0, 0, 0⟩⟩
/-- More arms, until there are too many. -/
noncomputable def alM (c : Cd) : Nat → Nat → List Arm → DS → List Arm × DS
  | 0, _, L, st => (L, (F_pick c 2 st).2)
  | f + 1, i, L, st => if (L.length : Int) < 16 + (F_pick c 2 st).1 then alM c f (i + 1) (L ++ [alF i]) (F_pick c 2 st).2 else (L, (F_pick c 2 st).2)
theorem alM_ok (c : Cd) : ∀ (f i : Nat) (L : List Arm) (st : DS) (k : Nat), Bd (2 * f + 2 + k) st → Adv (2 * f + 2) st (alM c f i L st).2 ∧ (alM c f i L st).1.length ≤ L.length + f
  | 0, i, L, st, k, h => by
    have a1 := (p_pick c 2 st (h.mono (by omega))).1
    exact ⟨a1.le (by omega), by simp [alM]⟩
  | f + 1, i, L, st, k, h => by
    have a1 := (p_pick c 2 st (h.mono (by omega))).1
    unfold alM
    split
    · obtain ⟨h1, h2⟩ := alM_ok c f (i + 1) (L ++ [alF i]) (F_pick c 2 st).2 k (a1.bd h (by omega))
      refine ⟨a1.trans h1 (by omega), ?_⟩
      rw [List.length_append, List.length_singleton] at h2; omega
    · exact ⟨a1.le (by omega), by simp⟩
noncomputable def alA (c : Cd) (st : DS) : List Arm × DS := alB c (alG c (F_arms c st).1 (F_pick c 7 (F_arms c st).2).1.toNat [] (F_pick c 7 (F_arms c st).2).2)
noncomputable def alY (c : Cd) (st : DS) : List Arm × DS := if (F_one c 24 (alA c st).2).1 = true then alM c 18 0 (alA c st).1 (F_one c 24 (alA c st).2).2 else ((alA c st).1, (F_one c 24 (alA c st).2).2)
theorem alY_ok (c : Cd) (st : DS) (h : Bd 378 st) : Adv 378 st (alY c st).2 ∧ (alY c st).1.length ≤ 24 := by
  obtain ⟨a1, _⟩ := p_arms c st (h.mono (by omega))
  have b1 := a1.bd h (by omega : 38 + 340 ≤ 378)
  obtain ⟨a2, m2, n2⟩ := p_pick c 7 (F_arms c st).2 (b1.mono (by omega))
  have b2 := a2.bd b1 (by omega : 2 + 338 ≤ 340)
  have hn : (F_pick c 7 (F_arms c st).2).1.toNat ≤ 6 := by omega
  obtain ⟨a3, l3⟩ := alG_ok c (F_arms c st).1 (F_pick c 7 (F_arms c st).2).1.toNat [] _ 0 (b2.mono (by omega))
  have a3 := a3.le (by omega : _ ≤ 240)
  have b3 := a3.bd b2 (by omega : 240 + 98 ≤ 338)
  obtain ⟨a4, l4⟩ := alB_ok c (alG c (F_arms c st).1 (F_pick c 7 (F_arms c st).2).1.toNat [] (F_pick c 7 (F_arms c st).2).2) (b3.mono (by omega))
  have b4 := a4.bd b3 (by omega : 58 + 40 ≤ 98)
  have l5 : (alA c st).1.length ≤ 6 := by unfold alA; rw [l4, l3]; simp only [List.length_nil]; omega
  have a5 : Adv 338 st (alA c st).2 := a1.trans (a2.trans (a3.trans a4 (Nat.le_refl _)) (Nat.le_refl _)) (by omega)
  have b5 := a5.bd h (by omega : 338 + 40 ≤ 378)
  obtain ⟨a6, _⟩ := p_one c 24 (alA c st).2 (b5.mono (by omega))
  have b6 := a6.bd b5 (by omega : 2 + 38 ≤ 40)
  unfold alY
  split
  · obtain ⟨a7, l7⟩ := alM_ok c 18 0 (alA c st).1 (F_one c 24 (alA c st).2).2 0 (b6.mono (by omega))
    exact ⟨a5.trans (a6.trans a7 (Nat.le_refl _)) (by omega), by omega⟩
  · exact ⟨a5.trans a6 (by omega), by simp only; omega⟩
theorem and_c2 {p q : Prop} [Decidable p] [Decidable q] (h : (bif decide p then decide q else false) = true) : p ∧ q := by
  by_cases hp : p
  · rw [decide_eq_true hp, cond_true, decide_eq_true_eq] at h; exact ⟨hp, h⟩
  · rw [decide_eq_false hp] at h; cases h
theorem and_n2 {p q : Prop} [Decidable p] [Decidable q] (h : (bif decide p then decide q else false) = false) : ¬ p ∨ ¬ q := by
  by_cases hp : p
  · rw [decide_eq_true hp, cond_true, decide_eq_false_iff_not] at h; exact .inr h
  · exact .inl hp

end Go.Proofs.Ytoommgpcmgnpaaa.AM
