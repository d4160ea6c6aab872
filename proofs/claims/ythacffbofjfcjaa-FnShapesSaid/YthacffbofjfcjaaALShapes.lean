import Derived.Test.YthacffbofjfcjaaShpD
set_option linter.unusedVariables false
set_option linter.unusedSimpArgs false
set_option maxRecDepth 100000
set_option maxHeartbeats 4000000
set_option cbv.maxSteps 3000000
namespace Go.Proofs.Ythacffbofjfcjaa.AM
/- The law FnShapes holds; conditions: none. -/
def e_ShapeCells : Entry := pureE 12 fun H a => match a with
  | [.lit (.int .i64 k), .lit (.int .i64 a), .lit (.int .i64 n)] => some (.tup [.lit (.int .i64 (H Int fun _ => if attF k a && inB n 1 8 then cntF k a n else 0)), .lit (.bool (H Bool fun _ => attF k a && inB n 1 8))], [])
  | _ => none
theorem eok_ShapeCells : EntryOk Try.prog e_ShapeCells := pureE_ok (by unfold isBody; kernel_rfl) (by
  intro a r ob e hob
  split at e
  · simp only [Option.some.injEq, Prod.mk.injEq] at e
    obtain ⟨rfl, rfl⟩ := e
    exact c_ShapeCells _ _ _
  · simp at e)
def e_ShapeCellsS : Entry := pureE 13 fun H a => match a with
  | [.lit (.int .i64 k), .lit (.int .i64 a), .lit (.int .i64 n)] => some (.tup [.lit (.int .i64 (H Int fun _ => if attF k a && inB n 1 8 then cntF k a n else 0)), .lit (.bool (H Bool fun _ => attF k a && inB n 1 8))], [])
  | _ => none
theorem eok_ShapeCellsS : EntryOk Try.prog e_ShapeCellsS := pureE_ok (by unfold isBody; kernel_rfl) (by
  intro a r ob e hob
  split at e
  · simp only [Option.some.injEq, Prod.mk.injEq] at e
    obtain ⟨rfl, rfl⟩ := e
    exact c_ShapeCellsS _ _ _
  · simp at e)
def enc_vBig (H : Hold) (y : Unit → Bool) : AV := .lit (.bool (H Bool fun _ => ((y ()))))
theorem x_vBig (c : Cd) : ∃ y : Bool, Con Try.prog 8 [codeAV c] [] (enc_vBig stdH fun _ => y) [] ∧ Bl 0 (enc_vBig stdH fun _ => y) ∧ (fun _ => True) y := by
  have hB : Base Try.prog (tabΓ []) tab := base_of tabOk (ents_nil)
  refine df_ok (N := 6) hB (draw_ok hB mixed) Try.func8 rfl rfl _ _ _ 50 (by simp) ?_
  intro H hH
  conv in finish _ _ _ _ _ _ _ _ => cbv
  subst hH
  simp only [Fin.sat0, Fin.sat1, stdH, Option.some.injEq, AV.lit.injEq, AV.agg.injEq, AV.tup.injEq, List.cons.injEq, Value.bool.injEq, Value.int.injEq, AllP, and_true, true_and, eq_self, decide_eq_true_eq, decide_eq_false_iff_not, Bool.not_eq_true', Bool.not_eq_false', peta, ncast]
  exact ⟨_, .refl, .lit⟩
noncomputable def F_vBig (c : Cd) : Bool := dfw Try.prog 8 enc_vBig (fun _ => True) c
noncomputable def e_vBig (c : Cd) : Entry := codeE 8 c fun H => enc_vBig H fun _ => F_vBig c
theorem eok_vBig (c : Cd) : EntryOk Try.prog (e_vBig c) := codeE_ok (by unfold isBody; kernel_rfl) (dfw_spec (x_vBig c)).1
theorem p_vBig (c : Cd) : (fun _ => True) (F_vBig c) := (dfw_spec (x_vBig c)).2.2
theorem turnF (k a n u v : Int) (h : a = 1 ∨ a = 2) : cellF k (3 - a) n v u = cellF k a n u v := by
  rcases h with rfl | rfl <;> simp [cellF]
theorem cnt_pos : ∀ k : _root_.Fin 4, ∀ a : _root_.Fin 3, ∀ n : _root_.Fin 9, 1 ≤ k.1 → 1 ≤ a.1 → 1 ≤ n.1 → 0 < cntF k.1 a.1 n.1 := by decide +kernel
theorem cnt_pos' {k a n : Int} (h : attF k a = true) (h0 : a ≠ 0) (hn : inB n 1 8 = true) : (a = 1 ∨ a = 2) ∧ 0 < cntF k a n := by
  simp only [attF, inB, Bool.and_eq_true, decide_eq_true_eq] at h hn
  obtain ⟨h1, h2⟩ := h
  have h3 : k ≤ 3 := by
    by_cases hk : k ≤ 3
    · exact hk
    · rw [if_neg hk] at h2; exact absurd (by simpa using h2) h0
  rw [if_pos h3] at h2
  have h2' : 1 ≤ a ∧ a ≤ 2 := by simpa using h2
  have := cnt_pos ⟨k.toNat, by omega⟩ ⟨a.toNat, by omega⟩ ⟨n.toNat, by omega⟩ (by simp only; omega) (by simp only; omega) (by simp only; omega)
  simp only [Int.toNat_of_nonneg (show 0 ≤ k by omega), Int.toNat_of_nonneg (show 0 ≤ a by omega), Int.toNat_of_nonneg (show 0 ≤ n by omega)] at this
  exact ⟨by omega, this⟩
theorem law_Shapes (c : Cd) : Con Try.prog 3 [codeAV c] [] (.lit (.bool true)) [] := by
  have hB : Base Try.prog (tabΓ [e_vBig c, e_DrawShapeCell c, e_ShapeCell, e_ShapeCellS, e_ShapeCells, e_ShapeCellsS]) tab := base_of tabOk (ents_cons (eok_vBig c) <| ents_cons (eok_DrawShapeCell c) <| ents_cons eok_ShapeCell <| ents_cons eok_ShapeCellS <| ents_cons eok_ShapeCells <| ents_cons eok_ShapeCellsS <| ents_nil)
  refine con_eq (N := 102) hB (draw_ok hB mixed) Try.func3 rfl rfl _ _ 80 (by simp) (codeAV_bl c) .lit ?_
  intro H hH
  conv in finish _ _ _ _ _ _ _ _ => cbv
  subst hH
  simp only [Fin.sat0, Fin.sat1, stdH, Option.some.injEq, AV.lit.injEq, AV.agg.injEq, AV.tup.injEq, List.cons.injEq, Value.bool.injEq, Value.int.injEq, AllP, and_true, true_and, eq_self, decide_eq_true_eq, decide_eq_false_iff_not, Bool.not_eq_true', Bool.not_eq_false', peta, ncast]
  obtain ⟨⟨d1, d2⟩, ⟨d3, d4⟩, ⟨d5, d6⟩, ⟨d7, d8⟩, d9, d10⟩ := p_DrawShapeCell c
  generalize F_DrawShapeCell c = y at *
  obtain ⟨k, a, n, u, v⟩ := y
  dsimp only at *
  have w : IntKind.i64.wrap (3 - a) = 3 - a := wi (by omega) (by omega)
  simp only [w, bne_self_eq_false, bne, beq_self_eq_true, Bool.not_true, cond_false, forall_const, false_implies, Bool.false_eq_true]
  refine ⟨fun _ => trivial, fun _ => ⟨by omega, by omega, trivial, trivial, fun _ => trivial, fun h => ⟨by omega, ?_⟩⟩⟩
  have h1 : attF k a = true ∧ inB n 1 8 = true ∧ inB u 0 (n - 1) = true ∧ inB v 0 (n - 1) = true ∧ a ≠ 0 := by
    cases x1 : attF k a <;> cases x2 : inB n 1 8 <;> cases x3 : inB u 0 (n - 1) <;> cases x4 : inB v 0 (n - 1) <;> simp_all
  obtain ⟨x1, x2, x3, x4, x5⟩ := h1
  obtain ⟨y1, y2⟩ := cnt_pos' x1 x5 x2
  have x6 : attF k (3 - a) = true := by
    unfold attF at x1 ⊢
    by_cases hk : k ≤ 3
    · rw [if_pos hk] at x1 ⊢; rcases y1 with rfl | rfl <;> simp_all [inB]
    · rw [if_neg hk] at x1; simp_all
  rw [turnF k a n u v y1, x6, x1, x2, x3, x4]
  simp [y2]

end Go.Proofs.Ythacffbofjfcjaa.AM
