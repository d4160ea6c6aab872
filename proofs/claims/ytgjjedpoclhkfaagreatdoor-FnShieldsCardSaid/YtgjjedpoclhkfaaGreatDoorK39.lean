/- Lemmas and contracts (Ssi); conditions: none. -/
import Derived.Test.YtgjjedpoclhkfaaGreatDoorK03
import Derived.Test.YtgjjedpoclhkfaaGreatDoorK38
set_option linter.unusedVariables false
set_option linter.unusedSimpArgs false
set_option maxRecDepth 100000
set_option maxHeartbeats 4000000
set_option cbv.maxSteps 3000000
namespace Go.Proofs.YtgjjedpoclhkfaaGreatDoor.AM
/- Simpler shields: plain; conditions: none. -/
theorem getD_lt {l : List Arm} {i : Nat} (h : i < l.length) : l.getD i default = l[i] := by
  rw [List.getD_eq_getElem?_getD, List.getElem?_eq_getElem h, Option.getD_some]
theorem any_of {l : List Arm} {k n : Nat} (hk : k < n) (hn : n < l.length) {x : Arm} (h : l.getD k default = x) : ((l.take n).any fun y => decide (y = x)) = true := by
  rw [List.any_eq_true]
  exact ⟨l[k], List.mem_take_iff_getElem.2 ⟨k, by omega, rfl⟩, decide_eq_true (by rw [← h, getD_lt (by omega)])⟩
theorem any_to {l : List Arm} {n : Nat} (hn : n < l.length) {x : Arm} (h : ((l.take n).any fun y => decide (y = x)) = true) : ∃ k, k < n ∧ l.getD k default = x := by
  obtain ⟨y, hy, e⟩ := List.any_eq_true.1 h
  obtain ⟨k, hk, rfl⟩ := List.mem_take_iff_getElem.1 hy
  exact ⟨k, by omega, by rw [getD_lt (by omega)]; exact of_decide_eq_true e⟩
theorem fs1_cov {l : List Arm} : ∀ n, n ≤ l.length → ∀ j, j < n → ∃ i ∈ fs1 l n, l.getD i.toNat default = l.getD j default
  | 0, _, j, h => by omega
  | n + 1, hn, j, hj => by
    have ih := fs1_cov (l := l) n (by omega)
    unfold fs1
    by_cases h : ((l.take n).any fun y => decide (y = l.getD n default)) = true
    · rw [if_pos h]
      rcases Nat.lt_succ_iff_lt_or_eq.1 hj with h2 | rfl
      · exact ih j h2
      · obtain ⟨k, hk, e⟩ := any_to (by omega) h
        obtain ⟨i, h3, h4⟩ := ih k hk
        exact ⟨i, h3, h4.trans e⟩
    · rw [if_neg h]
      rcases Nat.lt_succ_iff_lt_or_eq.1 hj with h2 | rfl
      · obtain ⟨i, h3, h4⟩ := ih j h2
        exact ⟨i, List.mem_append_left _ h3, h4⟩
      · exact ⟨(j : Int), List.mem_append_right _ (List.mem_singleton.2 rfl), by rw [Int.toNat_natCast]⟩
theorem fs1_same {l : List Arm} (h : (fs1 l l.length).length = 1) : ∀ y ∈ l, y = l.getD 0 default := fun y hy => by
  obtain ⟨j, hj, rfl⟩ := List.getElem_of_mem hy
  obtain ⟨i, h1, h2⟩ := fs1_cov l.length (Nat.le_refl _) j hj
  obtain ⟨i0, h3, h4⟩ := fs1_cov (l := l) l.length (Nat.le_refl _) 0 (by omega)
  obtain ⟨x, hx⟩ := List.length_eq_one_iff.1 h
  rw [hx, List.mem_singleton] at h1 h3
  rw [← getD_lt hj, ← h2, ← h4, h1, h3]
theorem fs1_all {l : List Arm} : ∀ n, 1 ≤ n → n ≤ l.length → (∀ j, j < n → l.getD j default = l.getD 0 default) → fs1 l n = [0]
  | 0, h, _, _ => by omega
  | n + 1, _, hn, h => by
    rcases Nat.eq_zero_or_pos n with rfl | h0
    · unfold fs1
      rw [List.take_zero, if_neg (by simp)]; rfl
    · unfold fs1
      rw [if_pos (any_of h0 (by omega) (h n (by omega)).symm), fs1_all n h0 (by omega) fun j hj => h j (by omega)]
theorem len_four {α : Type} : ∀ {l : List α}, l.length = 4 → ∃ a b c d, l = [a, b, c, d]
  | [a, b, c, d], _ => ⟨a, b, c, d, rfl⟩
  | [], h => by simp at h
  | [_], h => by simp at h
  | [_, _], h => by simp at h
  | [_, _, _], h => by simp at h
  | _ :: _ :: _ :: _ :: _ :: _, h => by simp at h
structure SmpOk (s x : Shd) : Prop where
  ok : okH x = true
  again : smpH x = x
  sub : ∀ y ∈ x.parts, y ∈ s.parts
  sup : ∀ y ∈ s.parts, y ∈ x.parts
theorem smp_ok {s : Shd} (h : okH s = true) : SmpOk s (smpH s) := by
  obtain ⟨g1, g2, g3⟩ := okH_inQ h
  have hl : 1 ≤ s.parts.length ∧ (s.mode = 3 → s.parts.length = 4) := by
    unfold cntH at g2
    refine ⟨?_, fun q => ?_⟩
    · repeat' split at g2
      all_goals omega
    · rw [q] at g2
      simp at g2
      omega
  by_cases h1 : (fs1 s.parts s.parts.length).length = 1
  · have hs : smpH s = ⟨1, [s.parts.getD 0 default]⟩ := (if_pos h1).trans (by rw [take_1 hl.1])
    have hm : s.parts.getD 0 default ∈ s.parts := by rw [getD_lt (by omega)]; exact List.getElem_mem _
    have hf := fs1_same h1
    rw [hs]
    refine ⟨okH_1 (g3 _ hm), ?_, fun y hy => ?_, fun y hy => ?_⟩
    · exact if_pos (by show (fs1 [s.parts.getD 0 default] 1).length = 1; rw [fs1_all (l := [s.parts.getD 0 default]) 1 (Nat.le_refl 1) (Nat.le_refl 1) (fun j hj => by rw [show j = 0 by omega])]; rfl)
    · rw [List.mem_singleton] at hy
      rw [hy]; exact hm
    · exact List.mem_singleton.2 (hf y hy)
  · by_cases h2 : s.mode = 3 ∧ s.parts.getD 0 default = s.parts.getD 2 default ∧ s.parts.getD 1 default = s.parts.getD 3 default
    · have h4 := hl.2 h2.1
      have hs : smpH s = ⟨2, [s.parts.getD 0 default, s.parts.getD 1 default]⟩ := (if_neg h1).trans ((if_pos h2).trans (by rw [take_2 (by omega)]))
      obtain ⟨m, l⟩ := s
      dsimp only at *
      obtain ⟨a, b, c, d, rfl⟩ := len_four h4
      have e1 : a = c := h2.2.1
      have e2 : b = d := h2.2.2
      subst e1 e2
      have hab : a ≠ b := fun q => h1 (by
        subst q
        show (fs1 [a, a, a, a] 4).length = 1
        rw [fs1_all (l := [a, a, a, a]) 4 (by omega) (Nat.le_refl 4) (fun j hj => by
          have : j = 0 ∨ j = 1 ∨ j = 2 ∨ j = 3 := by omega
          rcases this with rfl | rfl | rfl | rfl <;> rfl)]; rfl)
      have ha := g3 a (by simp)
      have hb := g3 b (by simp)
      rw [hs]
      refine ⟨okH_2 ha hb, ?_, fun y hy => ?_, fun y hy => ?_⟩
      · show smpH ⟨2, [a, b]⟩ = ⟨2, [a, b]⟩
        have n1 : ¬ (fs1 [a, b] 2).length = 1 := fun q => by
          have := fs1_same (l := [a, b]) q b (by simp)
          exact hab this.symm
        exact (if_neg n1).trans (if_neg fun q => absurd (show (2 : Int) = 3 from q.1) (by decide))
      · have hy : y ∈ [a, b] := hy
        simp only [List.mem_cons, List.not_mem_nil, or_false] at hy ⊢
        rcases hy with rfl | rfl <;> simp
      · show y ∈ [a, b]
        simp only [List.mem_cons, List.not_mem_nil, or_false] at hy ⊢
        rcases hy with rfl | rfl | rfl | rfl <;> simp
    · have hs : smpH s = s := (if_neg h1).trans (if_neg h2)
      rw [hs]
      exact ⟨h, hs, fun y hy => hy, fun y hy => hy⟩

end Go.Proofs.YtgjjedpoclhkfaaGreatDoor.AM

