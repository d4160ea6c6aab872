import Derived.Test.YthacffbofjfcjaaMat
set_option linter.unusedVariables false
set_option linter.unusedSimpArgs false
set_option maxRecDepth 100000
set_option maxHeartbeats 4000000
set_option cbv.maxSteps 3000000
namespace Go.Proofs.Ythacffbofjfcjaa.AM
/- The law FnWreaths holds; conditions: none. -/
theorem tin_rng {a : Arm} (h : okA a = true) : ∀ x ∈ tinA a, 1 ≤ x ∧ x ≤ 9 := by
  obtain ⟨⟨a0, a1, a2, a3⟩, a4, a5, a6, ⟨a7, a8, a9, a10⟩, ⟨a11, a12, a13, a14⟩⟩ := a
  rw [← tinS_eq h]
  simp only [okA, okF, Bool.and_eq_true] at h
  obtain ⟨⟨hf, hr⟩, ho⟩ := h
  obtain ⟨⟨⟨_, _⟩, hp⟩, hq⟩ := hf
  have hp' : 1 ≤ a2 ∧ a2 ≤ 9 := by unfold inB at hp; simpa using hp
  have hF : ∀ x ∈ tinF ⟨a0, a1, a2, a3⟩, 1 ≤ x ∧ x ≤ 9 := by
    intro x hx
    unfold tinF at hx
    simp only at hx hq
    by_cases h0 : a0 = 0
    · rw [if_pos h0] at hx; simp at hx; omega
    · rw [if_neg h0] at hx hq
      simp only [Bool.and_eq_true, inB, decide_eq_true_eq] at hq
      simp at hx; omega
  have hG : ∀ g : Grp, (noG g || okG g) = true → ∀ x ∈ (if noG g = true then [] else [g.t]), 1 ≤ x ∧ x ≤ 9 := by
    intro g hg x hx
    cases hn : noG g
    · rw [hn] at hg hx
      simp only [Bool.false_or, okG, Bool.and_eq_true, inB, decide_eq_true_eq] at hg
      simp at hx; omega
    · rw [hn] at hx; simp at hx
  intro x hx
  simp only [tinS, List.mem_append] at hx
  rcases hx with ((hx | hx) | hx) | hx
  · exact hF x hx
  · by_cases h0 : a4 = 0
    · rw [if_neg (by omega)] at hx; cases hx
    · rw [if_neg h0] at ho
      simp only [Bool.and_eq_true, inB, decide_eq_true_eq] at ho
      split at hx
      · simp at hx; omega
      · cases hx
  · refine hG _ ?_ x hx
    by_cases h0 : a4 = 0
    · rw [if_pos h0] at ho; simp only [Bool.and_eq_true] at ho; rw [ho.2]; rfl
    · rw [if_neg h0] at ho; simp only [Bool.and_eq_true] at ho; exact ho.2
  · exact hG _ hr x hx
theorem wre_inv (l : List Int) (hl : ∀ x ∈ l, 1 ≤ x ∧ x ≤ 9) : ∀ w : Int × Int, (w.1 = 0 ∨ (1 ≤ w.1 ∧ w.1 ≤ 9 ∧ clsF w.1 = 1)) → (w.2 = 0 ∨ (1 ≤ w.2 ∧ w.2 ≤ 9 ∧ clsF w.2 = 2)) →
    (let r := l.foldl wst w; (r.1 = 0 ∨ (1 ≤ r.1 ∧ r.1 ≤ 9 ∧ clsF r.1 = 1)) ∧ (r.2 = 0 ∨ (1 ≤ r.2 ∧ r.2 ≤ 9 ∧ clsF r.2 = 2))) := by
  induction l with
  | nil => intro w h1 h2; exact ⟨h1, h2⟩
  | cons x l ih =>
    intro w h1 h2
    simp only [List.foldl_cons]
    have hx := hl x (by simp)
    refine ih (fun y hy => hl y (by simp [hy])) (wst w x) ?_ ?_
    · unfold wst; split
      · rename_i h; exact .inr ⟨hx.1, hx.2, h.1⟩
      · split <;> exact h1
    · unfold wst; split
      · exact h2
      · split
        · rename_i h; exact .inr ⟨hx.1, hx.2, h.1⟩
        · exact h2
theorem wre_cls {a : Arm} (h : okA a = true) : (inB (wreM (tinA a)) 1 9 = true ∧ clsF (wreM (tinA a)) = 1) ∧ (inB (wreC (tinA a)) 1 9 = true ∧ clsF (wreC (tinA a)) = 2) := by
  have := wre_inv (tinA a) (tin_rng h) (0, 0) (.inl rfl) (.inl rfl)
  simp only at this
  unfold wreM wreC
  generalize (tinA a).foldl wst (0, 0) = w at *
  obtain ⟨h1, h2⟩ := this
  constructor
  · rcases h1 with h1 | ⟨p, q, r⟩
    · rw [if_pos h1]; decide
    · rw [if_neg (by omega)]; exact ⟨by unfold inB; simp; omega, r⟩
  · rcases h2 with h2 | ⟨p, q, r⟩
    · rw [if_pos h2]; decide
    · rw [if_neg (by omega)]; exact ⟨by unfold inB; simp; omega, r⟩
theorem law_Wreaths (c : Cd) : Con Try.prog 7 [codeAV c] [] (.lit (.bool true)) [] := by
  have hB : Base Try.prog (tabΓ [e_rBig c, e_DrawWreathOf c, e_WreathOf, e_WreathOfS, e_WreathRow, e_ClassOf, e_rInts, e_DrawWreathRow c, e_WreathRowS, e_DrawMatchesArms c, e_MatchesArms, e_MatchesArmsS]) tab := base_of tabOk (ents_cons (eok_rBig c) <| ents_cons (eok_DrawWreathOf c) <| ents_cons eok_WreathOf <| ents_cons eok_WreathOfS <| ents_cons eok_WreathRow <| ents_cons eok_ClassOf <| ents_cons eok_rInts <| ents_cons (eok_DrawWreathRow c) <| ents_cons eok_WreathRowS <| ents_cons (eok_DrawMatchesArms c) <| ents_cons eok_MatchesArms <| ents_cons eok_MatchesArmsS <| ents_nil)
  refine con_eq (N := 152) hB (draw_ok hB mixed) Try.func7 rfl rfl _ _ 200 (by simp) (codeAV_bl c) .lit ?_
  intro H hH
  conv in finish _ _ _ _ _ _ _ _ => cbv
  subst hH
  simp only [Fin.sat0, Fin.sat1, stdH, Option.some.injEq, AV.lit.injEq, AV.agg.injEq, AV.tup.injEq, List.cons.injEq, Value.bool.injEq, Value.int.injEq, AllP, and_true, true_and, eq_self, decide_eq_true_eq, decide_eq_false_iff_not, Bool.not_eq_true', Bool.not_eq_false', peta, ncast]
  simp only [arm_eta]
  generalize F_DrawWreathOf c = a at *
  generalize F_DrawWreathRow c = y at *
  generalize F_DrawMatchesArms c = z at *
  obtain ⟨e, n⟩ := y
  obtain ⟨z, d⟩ := z
  dsimp only at *
  have hlen : (rowA e n).length ≤ 20 := by
    unfold rowA
    split
    · rename_i h
      rw [rowW_len]
      unfold okW at h
      simp only [Bool.and_eq_true, inB, decide_eq_true_eq] at h
      omega
    · simp
  have hsame : ∀ (n : Nat) (f : Nat → Int), eqI n f n f = true := fun n f => by simp [eqI]
  refine ⟨fun _ => trivial, fun _ => ⟨fun h => ?_, fun _ => ⟨fun ha => ?_, fun _ => ?_⟩⟩⟩
  · simp at h
  · obtain ⟨⟨m1, m2⟩, c1, c2⟩ := wre_cls ha
    have hW : okW a 4 = true := by unfold okW; rw [ha]; rfl
    have hR : rowA a 4 = [wreM (tinA a), wreC (tinA a), wreM (tinA a), wreC (tinA a)] := by unfold rowA; rw [if_pos hW]; rfl
    simp only [ha, if_true, m1, m2, c1, c2, hW, hR]
    generalize wreM (tinA a) = m
    generalize wreC (tinA a) = k
    have hE : eqI ([m, k, m, k] : List Int).length (ints (vrow (lget [m, k, m, k]))) 4 (ints (rowsOf 1 [.lit (.int .i64 m), .lit (.int .i64 k), .lit (.int .i64 m), .lit (.int .i64 k)])) = true := by
      have : ∀ j, j < 4 → ints (vrow (lget [m, k, m, k])) j = ints (rowsOf 1 [.lit (.int .i64 m), .lit (.int .i64 k), .lit (.int .i64 m), .lit (.int .i64 k)]) j := by
        intro j hj
        rcases (by omega : j = 0 ∨ j = 1 ∨ j = 2 ∨ j = 3) with rfl | rfl | rfl | rfl <;> rfl
      unfold eqI
      rw [decide_eq_true (show ([m, k, m, k] : List Int).length = 4 from rfl), Bool.true_and]
      exact decide_eq_true this
    rw [hE]
    refine ⟨⟨fun _ => by simp, fun _ j _ => rfl, fun _ j hj => vrow_ok _ rfl (Nat.le_refl 4) j hj⟩, fun h => by simp at h, fun _ => ?_⟩
    exact ⟨⟨fun _ => by omega, fun _ _ _ => rfl, fun _ _ _ => rfl⟩, fun h => by rw [hsame] at h; simp at h, fun _ => by simp⟩
  · exact ⟨⟨fun _ => by omega, fun _ _ _ => rfl, fun _ _ _ => rfl⟩, fun h => by rw [hsame] at h; simp at h, fun _ => by simp⟩

end Go.Proofs.Ythacffbofjfcjaa.AM
