import Derived.Test.YtoommgpcmgnpaaaAmT
import Derived.Test.YtoommgpcmgnpaaaDik
import Derived.Test.YtoommgpcmgnpaaaDrL
set_option linter.unusedVariables false
set_option linter.unusedSimpArgs false
set_option maxRecDepth 100000
set_option maxHeartbeats 4000000
set_option cbv.maxSteps 3000000
namespace Go.Proofs.Ytoommgpcmgnpaaa.AM
/- What the numbers of differences have in common; conditions: none. -/
theorem eqG_iff {a b : Grp} : eqG a b = true ↔ a = b := by
  obtain ⟨a0, a1, a2, a3⟩ := a; obtain ⟨b0, b1, b2, b3⟩ := b
  simp [eqG, allT]
theorem eqF_iff {a b : Fld} : eqF a b = true ↔ a = b := by
  obtain ⟨a0, a1, a2, a3⟩ := a; obtain ⟨b0, b1, b2, b3⟩ := b
  simp [eqF, allT]
theorem noG_iff {a : Grp} : noG a = true ↔ a = ⟨0, 0, 0, 0⟩ := by
  obtain ⟨a0, a1, a2, a3⟩ := a
  simp [noG, and_assoc]
theorem nB0 {b : Bool} : nB b = 0 ↔ b = false := by cases b <;> simp [nB]
theorem nB1 : nB true = 1 := rfl
theorem nBf : nB false = 0 := rfl
theorem gd_self (a : Grp) : gd a a = 0 := by unfold gd; rw [eqG_iff.2 rfl]; rfl
theorem gd_pos {a b : Grp} (h : a ≠ b) : 1 ≤ gd a b := by
  have e : eqG a b = false := by cases h1 : eqG a b with | false => rfl | true => exact absurd (eqG_iff.1 h1) h
  have p1 := nB_b (!decide (a.c = b.c)); have p2 := nB_b (!decide (a.t = b.t)); have p3 := nB_b (!decide (a.a = b.a))
  unfold gd
  rw [e]
  cases noG a || noG b with
  | true => simp
  | false =>
    simp only [cond_false]
    cases hk : decide (a.k = b.k) with
    | false => simp only [Bool.not_false, cond_true]; omega
    | true =>
      simp only [Bool.not_true, cond_false]
      have hk := of_decide_eq_true hk
      by_cases h1 : a.c = b.c
      · by_cases h2 : a.t = b.t
        · by_cases h3 : a.a = b.a
          · exact absurd (by obtain ⟨a0, a1, a2, a3⟩ := a; obtain ⟨b0, b1, b2, b3⟩ := b; simp_all) h
          · simp only [h3, decide_false, Bool.not_false, nB1] at p3 ⊢; omega
        · simp only [h2, decide_false, Bool.not_false, nB1] at p2 ⊢; omega
      · simp only [h1, decide_false, Bool.not_false, nB1] at p1 ⊢; omega
theorem gd_ls (a b : Grp) : gd a b = ls a b := by
  by_cases h : a = b
  · subst h; rw [gd_self]; unfold ls; cases noG a <;> simp [nB]
  · have e : eqG a b = false := by cases h1 : eqG a b with | false => rfl | true => exact absurd (eqG_iff.1 h1) h
    unfold gd ls
    rw [e]
    cases ha : noG a <;> cases hb : noG b
    · simp only [Bool.or_self, cond_false, bne_self_eq_false]; omega
    · rfl
    · rfl
    · exact absurd ((noG_iff.1 ha).trans (noG_iff.1 hb).symm) h
theorem nB_sym (a b : Int) : nB (!decide (a = b)) = nB (!decide (b = a)) := by rw [show decide (a = b) = decide (b = a) from by simp [eq_comm]]
theorem ls_sym (a b : Grp) : ls a b = ls b a := by
  unfold ls
  rw [nB_sym a.c, nB_sym a.a, nB_sym a.t, show decide (a.k = b.k) = decide (b.k = a.k) from by simp [eq_comm], show (noG a != noG b) = (noG b != noG a) from by cases noG a <;> cases noG b <;> rfl]
theorem dF_sym (a b : Fld) : dF a b = dF b a := by
  unfold dF
  rw [nB_sym a.d, nB_sym a.l, show decide (tinF a = tinF b) = decide (tinF b = tinF a) from by simp [eq_comm]]
theorem od_sym (a b : Arm) : od a b = od b a := by
  unfold od
  rw [nB_sym a.l, nB_sym a.t, show decide (a.o = b.o) = decide (b.o = a.o) from by simp [eq_comm]]
theorem dF_pos {a b : Fld} (ha : okF a = true) (hb : okF b = true) (h : a ≠ b) : 1 ≤ dF a b := by
  have p1 := nB_b (!decide (a.d = b.d)); have p2 := nB_b (!decide (a.l = b.l)); have p3 := nB_b (!decide (tinF a = tinF b))
  unfold dF
  by_cases h1 : a.d = b.d
  · by_cases h2 : a.l = b.l
    · by_cases h3 : tinF a = tinF b
      · refine absurd ?_ h
        obtain ⟨a0, a1, a2, a3⟩ := a; obtain ⟨b0, b1, b2, b3⟩ := b
        simp only at h1 h2
        subst h1; subst h2
        unfold tinF at h3
        unfold okF at ha hb
        by_cases h0 : a0 = 0
        · subst h0
          simp at h3 ha hb
          simp [h3, ha.2.2, hb.2.2]
        · simp only [if_neg h0] at h3
          simp at h3
          simp [h3]
      · simp only [h3, decide_false, Bool.not_false, nB1] at p3 ⊢; omega
    · simp only [h2, decide_false, Bool.not_false, nB1] at p2 ⊢; omega
  · simp only [h1, decide_false, Bool.not_false, nB1] at p1 ⊢; omega
theorem okA_f {a : Arm} (h : okA a = true) : okF a.f = true := by simp only [okA, Bool.and_eq_true] at h; exact h.1.1
theorem dI_dS {a b : Arm} (ha : okA a = true) (hb : okA b = true) : dI a b = dS a b := by
  unfold dI dS dv
  rw [okA_f ha, okA_f hb, gd_ls, gd_ls]
  simp only [Bool.and_self, cond_true]; omega
theorem dS_sym (a b : Arm) : dS a b = dS b a := by unfold dS; rw [dF_sym, ls_sym, ls_sym a.r, od_sym]
theorem kds_len {a b : Arm} (ha : okA a = true) (hb : okA b = true) : ((kdsI a b).length : Int) ≤ dS a b ∧ ((kdsI a b).length = 0 ↔ dS a b = 0) ∧ (dS a b = 0 ↔ a = b) := by
  have l : ∀ (p : Bool) (k : Int) (l : List Int), ((nt p k l).length : Int) = l.length + nB p := fun p k l => by cases p <;> simp [nt, nB]
  have e : ((kdsI a b).length : Int) = nB (!eqF a.f b.f) + nB (!decide (a.o = b.o)) + nB (decide (a.o = b.o) && !decide (a.l = b.l)) + nB (decide (a.o = b.o) && !decide (a.t = b.t)) + nB (!eqG a.n b.n) + nB (!eqG a.r b.r) := by
    unfold kdsI; simp only [l, List.length_nil]; omega
  have hF : nB (!eqF a.f b.f) ≤ dF a.f b.f ∧ (nB (!eqF a.f b.f) = 0 ↔ dF a.f b.f = 0) ∧ (dF a.f b.f = 0 ↔ a.f = b.f) := by
    by_cases h : a.f = b.f
    · rw [eqF_iff.2 h, h]; simp [nB, dF]
    · have := dF_pos (okA_f ha) (okA_f hb) h
      have e : eqF a.f b.f = false := by cases h1 : eqF a.f b.f with | false => rfl | true => exact absurd (eqF_iff.1 h1) h
      rw [e]; simp only [Bool.not_false, nB1]
      exact ⟨this, ⟨fun h => by omega, fun h => by omega⟩, ⟨fun h => by omega, fun q => absurd q h⟩⟩
  have hG : ∀ x y : Grp, nB (!eqG x y) ≤ ls x y ∧ (nB (!eqG x y) = 0 ↔ ls x y = 0) ∧ (ls x y = 0 ↔ x = y) := fun x y => by
    rw [← gd_ls]
    by_cases h : x = y
    · subst h; rw [eqG_iff.2 rfl, gd_self]; simp [nB]
    · have := gd_pos h
      have e : eqG x y = false := by cases h1 : eqG x y with | false => rfl | true => exact absurd (eqG_iff.1 h1) h
      rw [e]; simp only [Bool.not_false, nB1]
      exact ⟨this, ⟨fun h => by omega, fun h => by omega⟩, ⟨fun h => by omega, fun q => absurd q h⟩⟩
  have hO : nB (!decide (a.o = b.o)) + nB (decide (a.o = b.o) && !decide (a.l = b.l)) + nB (decide (a.o = b.o) && !decide (a.t = b.t)) ≤ od a b ∧ (nB (!decide (a.o = b.o)) + nB (decide (a.o = b.o) && !decide (a.l = b.l)) + nB (decide (a.o = b.o) && !decide (a.t = b.t)) = 0 ↔ od a b = 0) ∧ (od a b = 0 ↔ a.o = b.o ∧ a.l = b.l ∧ a.t = b.t) := by
    unfold od
    by_cases h1 : a.o = b.o <;> by_cases h2 : a.l = b.l <;> by_cases h3 : a.t = b.t <;> simp [h1, h2, h3, nB]
  obtain ⟨f1, f2, f3⟩ := hF
  obtain ⟨n1, n2, n3⟩ := hG a.n b.n
  obtain ⟨r1, r2, r3⟩ := hG a.r b.r
  obtain ⟨o1, o2, o3⟩ := hO
  have b1 := nB_b (!eqF a.f b.f); have b2 := nB_b (!decide (a.o = b.o)); have b3 := nB_b (decide (a.o = b.o) && !decide (a.l = b.l)); have b4 := nB_b (decide (a.o = b.o) && !decide (a.t = b.t)); have b5 := nB_b (!eqG a.n b.n); have b6 := nB_b (!eqG a.r b.r)
  have z : dS a b = dF a.f b.f + ls a.n b.n + ls a.r b.r + od a b := rfl
  refine ⟨by omega, ⟨fun h => by omega, fun h => by omega⟩, ⟨fun h => ?_, fun h => ?_⟩⟩
  · have q1 := f3.1 (by omega); have q2 := n3.1 (by omega); have q3 := r3.1 (by omega); have q4 := o3.1 (by omega)
    obtain ⟨af, ao, al, at', an, ar⟩ := a; obtain ⟨bf, bo, bl, bt, bn, br⟩ := b
    simp_all
  · subst h
    have q1 := f3.2 rfl; have q2 := n3.2 rfl; have q3 := r3.2 rfl; have q4 := o3.2 ⟨rfl, rfl, rfl⟩
    omega

end Go.Proofs.Ytoommgpcmgnpaaa.AM
