/- Lemmas and contracts (Qtr); conditions: none. -/
import Derived.Test.YtigkdbhcjjjjkaaK04
import Derived.Test.YtigkdbhcjjjjkaaK09
import Derived.Test.YtigkdbhcjjjjkaaK10
set_option linter.unusedVariables false
set_option linter.unusedSimpArgs false
set_option linter.unusedVariables false
set_option linter.unusedSimpArgs false
set_option maxRecDepth 100000
set_option maxHeartbeats 4000000
set_option cbv.maxSteps 3000000
namespace Go.Proofs.Ytigkdbhcjjjjkaa.AM
/- Quarterings: where arms stand in a list, valid ones, merged ones; conditions: none. -/
theorem eqAC (a b : Arm) : decide (b = a) = allT [fun _ => a.f.d == b.f.d, fun _ => a.f.l == b.f.l, fun _ => a.f.p == b.f.p, fun _ => a.f.q == b.f.q, fun _ => a.o == b.o, fun _ => a.l == b.l, fun _ => a.t == b.t, fun _ => a.n.c == b.n.c, fun _ => a.n.k == b.n.k, fun _ => a.n.a == b.n.a, fun _ => a.n.t == b.n.t, fun _ => a.r.c == b.r.c, fun _ => a.r.k == b.r.k, fun _ => a.r.a == b.r.a, fun _ => a.r.t == b.r.t] := by
  rw [eqAE]; simp [eq_comm]
theorem c_idxA (s : List Arm) (v : Arm) (h0 : s.length ≤ 2000000) : ConN Try.prog 76 [.vec 15 (stdH Nat fun _ => (s).length) (rowsA stdH fun _ => s), aT rowA stdH fun _ => v] [] 0 (.lit (.int .i64 (stdH Int fun _ => idxF (fun y => decide (y = v)) s))) [] [] := by
  have hB : Base Try.prog (tabΓ []) tab := base_of tabOk (ents_nil)
  refine con_m (N := 19) hB (draw_ok hB mixed) Try.func76 rfl rfl (fun H => [.vec 15 (H Nat fun _ => (s).length) (rowsA H fun _ => s), aT rowA H fun _ => v]) (fun _ => []) 0 (fun H => .lit (.int .i64 (H Int fun _ => idxF (fun y => decide (y = v)) s))) (fun H => []) (fun _ => []) 100 (by simp) (fun x hx => ?_) (by simp [lk]) (by omega) (by simp) ?_
  · simp only [List.mem_cons, List.not_mem_nil, or_false] at hx
    rcases hx with rfl | rfl
    · exact vl_bl okRA s _
    · exact aT_bl okRA _ _
  intro X hX hX0 H hH
  conv in Fin.chk _ _ => cbv
  try simp only [Plain_rowsA, Plain_rowsB, Plain_rowsF, Plain_rowsG, Plain_rowsI, Plain_rowsS, Plain_rowsU, Fin.satC_ret, Fin.satC_br, Fin.satC_need, Fin.satC_again, AllP, and_true, true_and, upd, List.length_nil, List.length_cons, Nat.zero_add, if_true, ncast, Int.ofNat_eq_natCast]
  refine loop_a hB (draw_ok hB mixed) hX hX0 hH false (ι := { i : Nat // i ≤ (s).length ∧ ∀ j, j < i → (fun y => decide (y = v)) ((s).getD j default) = false }) 100 (fun i => [.i (H Int fun _ => 0), .i (H Int fun _ => (i.1 : Nat))]) (fun i => (s).length - i.1) (⟨0, by omega, by omega⟩) ?_ ?_
  · (conv in matchSt _ _ _ _ => cbv); simp only [AllG, AllP, and_true, hH, stdH, Nat.le_refl, ncast, Int.ofNat_eq_natCast, vrow_I, Arm.eta2, Fld.eta, Grp.eta]
    (repeat' (first | with_reducible exact True.intro | rfl | exact Nat.le_refl _ | exact RowsEq.self okRA | exact RowsEq.ofT okRA rfl (Shp_zero _) rfl | exact RowsEq.snoc okRA rfl | exact RowsEq.self okI | exact RowsEq.self okRA | exact List.length_append | refine And.intro ?_ ?_ | trivial))
  · intro I hI i
    conv in Fin.chk _ _ => cbv
    try simp only [Plain_rowsA, Plain_rowsB, Plain_rowsF, Plain_rowsG, Plain_rowsI, Plain_rowsS, Plain_rowsU, Fin.satC_ret, Fin.satC_br, Fin.satC_need, Fin.satC_again, AllP, and_true, true_and, upd, List.length_nil, List.length_cons, Nat.zero_add, if_true, ncast, Int.ofNat_eq_natCast]
    obtain ⟨i, hi, hj⟩ := i
    refine ⟨fun h1 => ⟨?_, fun h2 => ?_, fun h2 => ?_⟩, fun h1 => ?_⟩
    · simp only [hH, stdH, Nat.le_refl, decide_eq_true_eq, decide_eq_false_iff_not, Bool.not_eq_true', Bool.not_eq_false', peta, ncast, Int.ofNat_eq_natCast, beq_iff_eq, bne_iff_ne, beq_eq_false_iff_ne, bne_eq_false_iff_eq, ne_eq, Classical.not_not, Int.toNat_natCast, vrow_I, Arm.eta2, Fld.eta, Grp.eta] at h1 ⊢
      omega
    · simp only [hH, stdH, Nat.le_refl, decide_eq_true_eq, decide_eq_false_iff_not, Bool.not_eq_true', Bool.not_eq_false', peta, ncast, Int.ofNat_eq_natCast, beq_iff_eq, bne_iff_ne, beq_eq_false_iff_ne, bne_eq_false_iff_eq, ne_eq, Classical.not_not, Int.toNat_natCast, vrow_I, Arm.eta2, Fld.eta, Grp.eta] at h1
      simp only [hH, stdH, Int.toNat_natCast] at h2
      have h3 : (fun y => decide (y = v)) ((s).getD i default) = true := by first | exact (eqAE _ _).symm.trans h2 | exact (eqAC _ _).trans h2
      try simp only [hH, stdH, Nat.le_refl, decide_eq_true_eq, decide_eq_false_iff_not, Bool.not_eq_true', Bool.not_eq_false', peta, ncast, Int.ofNat_eq_natCast, beq_iff_eq, bne_iff_ne, beq_eq_false_iff_ne, bne_eq_false_iff_eq, ne_eq, Classical.not_not, Int.toNat_natCast, vrow_I, Arm.eta2, Fld.eta, Grp.eta]
      exact idxF_at default (by omega) h3 hj
    · simp only [hH, stdH, Nat.le_refl, decide_eq_true_eq, decide_eq_false_iff_not, Bool.not_eq_true', Bool.not_eq_false', peta, ncast, Int.ofNat_eq_natCast, beq_iff_eq, bne_iff_ne, beq_eq_false_iff_ne, bne_eq_false_iff_eq, ne_eq, Classical.not_not, Int.toNat_natCast, vrow_I, Arm.eta2, Fld.eta, Grp.eta] at h1
      simp only [hH, stdH, Int.toNat_natCast] at h2
      have h3 : (fun y => decide (y = v)) ((s).getD i default) = false := by first | exact (eqAE _ _).symm.trans h2 | exact (eqAC _ _).trans h2
      refine ⟨⟨i + 1, by omega, fun j hj' => ?_⟩, by simp only; omega, ?_⟩
      · rcases Nat.lt_succ_iff_lt_or_eq.1 hj' with h | rfl
        · exact hj j h
        · exact h3
      · rw [hI]
        (conv in matchSt _ _ _ _ => cbv); simp only [AllG, AllP, and_true, hH, stdH, Nat.le_refl, ncast, Int.ofNat_eq_natCast, vrow_I, Arm.eta2, Fld.eta, Grp.eta]
        rw [w1 (by omega)]
        (repeat' (first | with_reducible exact True.intro | rfl | exact Nat.le_refl _ | exact RowsEq.self okRA | exact RowsEq.ofT okRA rfl (Shp_zero _) rfl | exact RowsEq.snoc okRA rfl | exact RowsEq.self okI | exact RowsEq.self okRA | exact List.length_append | refine And.intro ?_ ?_ | trivial))
    · simp only [hH, stdH, Nat.le_refl, decide_eq_true_eq, decide_eq_false_iff_not, Bool.not_eq_true', Bool.not_eq_false', peta, ncast, Int.ofNat_eq_natCast, beq_iff_eq, bne_iff_ne, beq_eq_false_iff_ne, bne_eq_false_iff_eq, ne_eq, Classical.not_not, Int.toNat_natCast, vrow_I, Arm.eta2, Fld.eta, Grp.eta] at h1 ⊢
      exact idxF_no default fun j hj' => hj j (by omega)
noncomputable def e_idxA : Entry := pureE 76 fun H a => match a with
  | [.vec 15 sn sf, .agg [.lit (.int .i64 v0), .lit (.int .i64 v1), .lit (.int .i64 v2), .lit (.int .i64 v3), .lit (.int .i64 v4), .lit (.int .i64 v5), .lit (.int .i64 v6), .lit (.int .i64 v7), .lit (.int .i64 v8), .lit (.int .i64 v9), .lit (.int .i64 v10), .lit (.int .i64 v11), .lit (.int .i64 v12), .lit (.int .i64 v13), .lit (.int .i64 v14)]] => some (.lit (.int .i64 (H Int fun _ => idxF (fun y => decide (y = (⟨⟨v0, v1, v2, v3⟩, v4, v5, v6, ⟨v7, v8, v9, v10⟩, ⟨v11, v12, v13, v14⟩⟩ : Arm))) (Tl rowA sn sf))), [H Prop fun _ => Shp rowA sn sf, H Prop fun _ => (Tl rowA sn sf).length ≤ 2000000])
  | _ => none
theorem eok_idxA : EntryOk Try.prog e_idxA := pureM_ok (by unfold isBody; kernel_rfl) (by
  intro a r ob e hob
  split at e
  · rename_i sn sf v0 v1 v2 v3 v4 v5 v6 v7 v8 v9 v10 v11 v12 v13 v14
    simp only [Option.some.injEq, Prod.mk.injEq] at e
    obtain ⟨rfl, rfl⟩ := e
    exact ConN.args (.cons (.toT okRA rfl hob.1) (.cons .rfl .nil)) (c_idxA (Tl rowA sn sf) (⟨⟨v0, v1, v2, v3⟩, v4, v5, v6, ⟨v7, v8, v9, v10⟩, ⟨v11, v12, v13, v14⟩⟩ : Arm) hob.2.1)
  · simp at e)
theorem c_l21Find (s : List Arm) (v : Arm) (h0 : s.length ≤ 2000000) : ConN Try.prog 73 [.vec 15 (stdH Nat fun _ => (s).length) (rowsA stdH fun _ => s), aT rowA stdH fun _ => v] [] 0 (.lit (.int .i64 (stdH Int fun _ => idxF (fun y => decide (y = v)) s))) [] [] := by
  have hB : Base Try.prog (tabΓ []) tab := base_of tabOk (ents_nil)
  refine con_m (N := 19) hB (draw_ok hB mixed) Try.func73 rfl rfl (fun H => [.vec 15 (H Nat fun _ => (s).length) (rowsA H fun _ => s), aT rowA H fun _ => v]) (fun _ => []) 0 (fun H => .lit (.int .i64 (H Int fun _ => idxF (fun y => decide (y = v)) s))) (fun H => []) (fun _ => []) 100 (by simp) (fun x hx => ?_) (by simp [lk]) (by omega) (by simp) ?_
  · simp only [List.mem_cons, List.not_mem_nil, or_false] at hx
    rcases hx with rfl | rfl
    · exact vl_bl okRA s _
    · exact aT_bl okRA _ _
  intro X hX hX0 H hH
  conv in Fin.chk _ _ => cbv
  try simp only [Plain_rowsA, Plain_rowsB, Plain_rowsF, Plain_rowsG, Plain_rowsI, Plain_rowsS, Plain_rowsU, Fin.satC_ret, Fin.satC_br, Fin.satC_need, Fin.satC_again, AllP, and_true, true_and, upd, List.length_nil, List.length_cons, Nat.zero_add, if_true, ncast, Int.ofNat_eq_natCast]
  refine loop_a hB (draw_ok hB mixed) hX hX0 hH false (ι := { i : Nat // i ≤ (s).length ∧ ∀ j, j < i → (fun y => decide (y = v)) ((s).getD j default) = false }) 100 (fun i => [.i (H Int fun _ => 0), .i (H Int fun _ => (i.1 : Nat))]) (fun i => (s).length - i.1) (⟨0, by omega, by omega⟩) ?_ ?_
  · (conv in matchSt _ _ _ _ => cbv); simp only [AllG, AllP, and_true, hH, stdH, Nat.le_refl, ncast, Int.ofNat_eq_natCast, vrow_I, Arm.eta2, Fld.eta, Grp.eta]
    (repeat' (first | with_reducible exact True.intro | rfl | exact Nat.le_refl _ | exact RowsEq.self okRA | exact RowsEq.ofT okRA rfl (Shp_zero _) rfl | exact RowsEq.snoc okRA rfl | exact RowsEq.self okI | exact RowsEq.self okRA | exact List.length_append | refine And.intro ?_ ?_ | trivial))
  · intro I hI i
    conv in Fin.chk _ _ => cbv
    try simp only [Plain_rowsA, Plain_rowsB, Plain_rowsF, Plain_rowsG, Plain_rowsI, Plain_rowsS, Plain_rowsU, Fin.satC_ret, Fin.satC_br, Fin.satC_need, Fin.satC_again, AllP, and_true, true_and, upd, List.length_nil, List.length_cons, Nat.zero_add, if_true, ncast, Int.ofNat_eq_natCast]
    obtain ⟨i, hi, hj⟩ := i
    refine ⟨fun h1 => ⟨?_, fun h2 => ?_, fun h2 => ?_⟩, fun h1 => ?_⟩
    · simp only [hH, stdH, Nat.le_refl, decide_eq_true_eq, decide_eq_false_iff_not, Bool.not_eq_true', Bool.not_eq_false', peta, ncast, Int.ofNat_eq_natCast, beq_iff_eq, bne_iff_ne, beq_eq_false_iff_ne, bne_eq_false_iff_eq, ne_eq, Classical.not_not, Int.toNat_natCast, vrow_I, Arm.eta2, Fld.eta, Grp.eta] at h1 ⊢
      omega
    · simp only [hH, stdH, Nat.le_refl, decide_eq_true_eq, decide_eq_false_iff_not, Bool.not_eq_true', Bool.not_eq_false', peta, ncast, Int.ofNat_eq_natCast, beq_iff_eq, bne_iff_ne, beq_eq_false_iff_ne, bne_eq_false_iff_eq, ne_eq, Classical.not_not, Int.toNat_natCast, vrow_I, Arm.eta2, Fld.eta, Grp.eta] at h1
      simp only [hH, stdH, Int.toNat_natCast] at h2
      have h3 : (fun y => decide (y = v)) ((s).getD i default) = true := by first | exact (eqAE _ _).symm.trans h2 | exact (eqAC _ _).trans h2
      try simp only [hH, stdH, Nat.le_refl, decide_eq_true_eq, decide_eq_false_iff_not, Bool.not_eq_true', Bool.not_eq_false', peta, ncast, Int.ofNat_eq_natCast, beq_iff_eq, bne_iff_ne, beq_eq_false_iff_ne, bne_eq_false_iff_eq, ne_eq, Classical.not_not, Int.toNat_natCast, vrow_I, Arm.eta2, Fld.eta, Grp.eta]
      exact idxF_at default (by omega) h3 hj
    · simp only [hH, stdH, Nat.le_refl, decide_eq_true_eq, decide_eq_false_iff_not, Bool.not_eq_true', Bool.not_eq_false', peta, ncast, Int.ofNat_eq_natCast, beq_iff_eq, bne_iff_ne, beq_eq_false_iff_ne, bne_eq_false_iff_eq, ne_eq, Classical.not_not, Int.toNat_natCast, vrow_I, Arm.eta2, Fld.eta, Grp.eta] at h1
      simp only [hH, stdH, Int.toNat_natCast] at h2
      have h3 : (fun y => decide (y = v)) ((s).getD i default) = false := by first | exact (eqAE _ _).symm.trans h2 | exact (eqAC _ _).trans h2
      refine ⟨⟨i + 1, by omega, fun j hj' => ?_⟩, by simp only; omega, ?_⟩
      · rcases Nat.lt_succ_iff_lt_or_eq.1 hj' with h | rfl
        · exact hj j h
        · exact h3
      · rw [hI]
        (conv in matchSt _ _ _ _ => cbv); simp only [AllG, AllP, and_true, hH, stdH, Nat.le_refl, ncast, Int.ofNat_eq_natCast, vrow_I, Arm.eta2, Fld.eta, Grp.eta]
        rw [w1 (by omega)]
        (repeat' (first | with_reducible exact True.intro | rfl | exact Nat.le_refl _ | exact RowsEq.self okRA | exact RowsEq.ofT okRA rfl (Shp_zero _) rfl | exact RowsEq.snoc okRA rfl | exact RowsEq.self okI | exact RowsEq.self okRA | exact List.length_append | refine And.intro ?_ ?_ | trivial))
    · simp only [hH, stdH, Nat.le_refl, decide_eq_true_eq, decide_eq_false_iff_not, Bool.not_eq_true', Bool.not_eq_false', peta, ncast, Int.ofNat_eq_natCast, beq_iff_eq, bne_iff_ne, beq_eq_false_iff_ne, bne_eq_false_iff_eq, ne_eq, Classical.not_not, Int.toNat_natCast, vrow_I, Arm.eta2, Fld.eta, Grp.eta] at h1 ⊢
      exact idxF_no default fun j hj' => hj j (by omega)
noncomputable def e_l21Find : Entry := pureE 73 fun H a => match a with
  | [.vec 15 sn sf, .agg [.lit (.int .i64 v0), .lit (.int .i64 v1), .lit (.int .i64 v2), .lit (.int .i64 v3), .lit (.int .i64 v4), .lit (.int .i64 v5), .lit (.int .i64 v6), .lit (.int .i64 v7), .lit (.int .i64 v8), .lit (.int .i64 v9), .lit (.int .i64 v10), .lit (.int .i64 v11), .lit (.int .i64 v12), .lit (.int .i64 v13), .lit (.int .i64 v14)]] => some (.lit (.int .i64 (H Int fun _ => idxF (fun y => decide (y = (⟨⟨v0, v1, v2, v3⟩, v4, v5, v6, ⟨v7, v8, v9, v10⟩, ⟨v11, v12, v13, v14⟩⟩ : Arm))) (Tl rowA sn sf))), [H Prop fun _ => Shp rowA sn sf, H Prop fun _ => (Tl rowA sn sf).length ≤ 2000000])
  | _ => none
theorem eok_l21Find : EntryOk Try.prog e_l21Find := pureM_ok (by unfold isBody; kernel_rfl) (by
  intro a r ob e hob
  split at e
  · rename_i sn sf v0 v1 v2 v3 v4 v5 v6 v7 v8 v9 v10 v11 v12 v13 v14
    simp only [Option.some.injEq, Prod.mk.injEq] at e
    obtain ⟨rfl, rfl⟩ := e
    exact ConN.args (.cons (.toT okRA rfl hob.1) (.cons .rfl .nil)) (c_l21Find (Tl rowA sn sf) (⟨⟨v0, v1, v2, v3⟩, v4, v5, v6, ⟨v7, v8, v9, v10⟩, ⟨v11, v12, v13, v14⟩⟩ : Arm) hob.2.1)
  · simp at e)
theorem c_badA (a : Arm)  : ConN Try.prog 57 [aT rowA stdH fun _ => a] [] 0 (.lit (.bool (stdH Bool fun _ => !okA a))) [] [] := by
  have hB : Base Try.prog (tabΓ [e_IsValidArms]) tab := base_of tabOk (ents_cons eok_IsValidArms <| ents_nil)
  refine con_m (N := 6) hB (draw_ok hB mixed) Try.func57 rfl rfl (fun H => [aT rowA H fun _ => a]) (fun _ => []) 0 (fun H => .lit (.bool (H Bool fun _ => !okA a))) (fun H => []) (fun _ => []) 100 (by simp) (fun x hx => ?_) (by simp [lk]) (by omega) (by simp) ?_
  · simp only [List.mem_cons, List.not_mem_nil, or_false] at hx
    rcases hx with rfl
    · exact aT_bl okRA _ _
  intro X hX hX0 H hH
  conv in Fin.chk _ _ => cbv
  try simp only [Plain_rowsA, Plain_rowsB, Plain_rowsF, Plain_rowsG, Plain_rowsI, Plain_rowsS, Plain_rowsU, Fin.satC_ret, Fin.satC_br, Fin.satC_need, Fin.satC_again, AllP, and_true, true_and, upd, List.length_nil, List.length_cons, Nat.zero_add, if_true, ncast, Int.ofNat_eq_natCast]
  subst hH
  simp only [stdH, Arm.eta]
noncomputable def e_badA : Entry := pureE 57 fun H a => match a with
  | [.agg [.lit (.int .i64 a0), .lit (.int .i64 a1), .lit (.int .i64 a2), .lit (.int .i64 a3), .lit (.int .i64 a4), .lit (.int .i64 a5), .lit (.int .i64 a6), .lit (.int .i64 a7), .lit (.int .i64 a8), .lit (.int .i64 a9), .lit (.int .i64 a10), .lit (.int .i64 a11), .lit (.int .i64 a12), .lit (.int .i64 a13), .lit (.int .i64 a14)]] => some (.lit (.bool (H Bool fun _ => !okA (⟨⟨a0, a1, a2, a3⟩, a4, a5, a6, ⟨a7, a8, a9, a10⟩, ⟨a11, a12, a13, a14⟩⟩ : Arm))), [])
  | _ => none
theorem eok_badA : EntryOk Try.prog e_badA := pureM_ok (by unfold isBody; kernel_rfl) (by
  intro a r ob e hob
  split at e
  · rename_i a0 a1 a2 a3 a4 a5 a6 a7 a8 a9 a10 a11 a12 a13 a14
    simp only [Option.some.injEq, Prod.mk.injEq] at e
    obtain ⟨rfl, rfl⟩ := e
    exact ConN.args (.cons .rfl .nil) (c_badA (⟨⟨a0, a1, a2, a3⟩, a4, a5, a6, ⟨a7, a8, a9, a10⟩, ⟨a11, a12, a13, a14⟩⟩ : Arm) )
  · simp at e)
theorem c_idxBad (s : List Arm)  (h0 : s.length ≤ 2000000) : ConN Try.prog 86 [.vec 15 (stdH Nat fun _ => (s).length) (rowsA stdH fun _ => s), .lit (.func (.func 57) #[] #[])] [] 0 (.lit (.int .i64 (stdH Int fun _ => idxF (fun y => !okA y) s))) [] [] := by
  have hB : Base Try.prog (tabΓ [e_badA]) tab := base_of tabOk (ents_cons eok_badA <| ents_nil)
  refine con_m (N := 19) hB (draw_ok hB mixed) Try.func86 rfl rfl (fun H => [.vec 15 (H Nat fun _ => (s).length) (rowsA H fun _ => s), .lit (.func (.func 57) #[] #[])]) (fun _ => []) 0 (fun H => .lit (.int .i64 (H Int fun _ => idxF (fun y => !okA y) s))) (fun H => []) (fun _ => []) 100 (by simp) (fun x hx => ?_) (by simp [lk]) (by omega) (by simp) ?_
  · simp only [List.mem_cons, List.not_mem_nil, or_false] at hx
    rcases hx with rfl | rfl
    · exact vl_bl okRA s _
    · exact .lit
  intro X hX hX0 H hH
  conv in Fin.chk _ _ => cbv
  try simp only [Plain_rowsA, Plain_rowsB, Plain_rowsF, Plain_rowsG, Plain_rowsI, Plain_rowsS, Plain_rowsU, Fin.satC_ret, Fin.satC_br, Fin.satC_need, Fin.satC_again, AllP, and_true, true_and, upd, List.length_nil, List.length_cons, Nat.zero_add, if_true, ncast, Int.ofNat_eq_natCast]
  refine loop_a hB (draw_ok hB mixed) hX hX0 hH false (ι := { i : Nat // i ≤ (s).length ∧ ∀ j, j < i → (fun y => !okA y) ((s).getD j default) = false }) 100 (fun i => [.i (H Int fun _ => 0), .i (H Int fun _ => (i.1 : Nat))]) (fun i => (s).length - i.1) (⟨0, by omega, by omega⟩) ?_ ?_
  · (conv in matchSt _ _ _ _ => cbv); simp only [AllG, AllP, and_true, hH, stdH, Nat.le_refl, ncast, Int.ofNat_eq_natCast, vrow_I, Arm.eta2, Fld.eta, Grp.eta]
    (repeat' (first | with_reducible exact True.intro | rfl | exact Nat.le_refl _ | exact RowsEq.self okRA | exact RowsEq.ofT okRA rfl (Shp_zero _) rfl | exact RowsEq.snoc okRA rfl | exact RowsEq.self okI | exact RowsEq.self okRA | exact List.length_append | refine And.intro ?_ ?_ | trivial))
  · intro I hI i
    conv in Fin.chk _ _ => cbv
    try simp only [Plain_rowsA, Plain_rowsB, Plain_rowsF, Plain_rowsG, Plain_rowsI, Plain_rowsS, Plain_rowsU, Fin.satC_ret, Fin.satC_br, Fin.satC_need, Fin.satC_again, AllP, and_true, true_and, upd, List.length_nil, List.length_cons, Nat.zero_add, if_true, ncast, Int.ofNat_eq_natCast]
    obtain ⟨i, hi, hj⟩ := i
    refine ⟨fun h1 => ⟨?_, fun h2 => ?_, fun h2 => ?_⟩, fun h1 => ?_⟩
    · simp only [hH, stdH, Nat.le_refl, decide_eq_true_eq, decide_eq_false_iff_not, Bool.not_eq_true', Bool.not_eq_false', peta, ncast, Int.ofNat_eq_natCast, beq_iff_eq, bne_iff_ne, beq_eq_false_iff_ne, bne_eq_false_iff_eq, ne_eq, Classical.not_not, Int.toNat_natCast, vrow_I, Arm.eta2, Fld.eta, Grp.eta] at h1 ⊢
      omega
    · simp only [hH, stdH, Nat.le_refl, decide_eq_true_eq, decide_eq_false_iff_not, Bool.not_eq_true', Bool.not_eq_false', peta, ncast, Int.ofNat_eq_natCast, beq_iff_eq, bne_iff_ne, beq_eq_false_iff_ne, bne_eq_false_iff_eq, ne_eq, Classical.not_not, Int.toNat_natCast, vrow_I, Arm.eta2, Fld.eta, Grp.eta] at h1
      simp only [hH, stdH, Int.toNat_natCast] at h2
      have h3 : (fun y => !okA y) ((s).getD i default) = true := by exact h2
      try simp only [hH, stdH, Nat.le_refl, decide_eq_true_eq, decide_eq_false_iff_not, Bool.not_eq_true', Bool.not_eq_false', peta, ncast, Int.ofNat_eq_natCast, beq_iff_eq, bne_iff_ne, beq_eq_false_iff_ne, bne_eq_false_iff_eq, ne_eq, Classical.not_not, Int.toNat_natCast, vrow_I, Arm.eta2, Fld.eta, Grp.eta]
      exact idxF_at default (by omega) h3 hj
    · simp only [hH, stdH, Nat.le_refl, decide_eq_true_eq, decide_eq_false_iff_not, Bool.not_eq_true', Bool.not_eq_false', peta, ncast, Int.ofNat_eq_natCast, beq_iff_eq, bne_iff_ne, beq_eq_false_iff_ne, bne_eq_false_iff_eq, ne_eq, Classical.not_not, Int.toNat_natCast, vrow_I, Arm.eta2, Fld.eta, Grp.eta] at h1
      simp only [hH, stdH, Int.toNat_natCast] at h2
      have h3 : (fun y => !okA y) ((s).getD i default) = false := by exact h2
      refine ⟨⟨i + 1, by omega, fun j hj' => ?_⟩, by simp only; omega, ?_⟩
      · rcases Nat.lt_succ_iff_lt_or_eq.1 hj' with h | rfl
        · exact hj j h
        · exact h3
      · rw [hI]
        (conv in matchSt _ _ _ _ => cbv); simp only [AllG, AllP, and_true, hH, stdH, Nat.le_refl, ncast, Int.ofNat_eq_natCast, vrow_I, Arm.eta2, Fld.eta, Grp.eta]
        rw [w1 (by omega)]
        (repeat' (first | with_reducible exact True.intro | rfl | exact Nat.le_refl _ | exact RowsEq.self okRA | exact RowsEq.ofT okRA rfl (Shp_zero _) rfl | exact RowsEq.snoc okRA rfl | exact RowsEq.self okI | exact RowsEq.self okRA | exact List.length_append | refine And.intro ?_ ?_ | trivial))
    · simp only [hH, stdH, Nat.le_refl, decide_eq_true_eq, decide_eq_false_iff_not, Bool.not_eq_true', Bool.not_eq_false', peta, ncast, Int.ofNat_eq_natCast, beq_iff_eq, bne_iff_ne, beq_eq_false_iff_ne, bne_eq_false_iff_eq, ne_eq, Classical.not_not, Int.toNat_natCast, vrow_I, Arm.eta2, Fld.eta, Grp.eta] at h1 ⊢
      exact idxF_no default fun j hj' => hj j (by omega)
noncomputable def e_idxBad : Entry := pureE 86 fun H a => match a with
  | [.vec 15 sn sf, .lit (.func (.func 57) ⟨[]⟩ ⟨[]⟩)] => some (.lit (.int .i64 (H Int fun _ => idxF (fun y => !okA y) (Tl rowA sn sf))), [H Prop fun _ => Shp rowA sn sf, H Prop fun _ => (Tl rowA sn sf).length ≤ 2000000])
  | _ => none
theorem eok_idxBad : EntryOk Try.prog e_idxBad := pureM_ok (by unfold isBody; kernel_rfl) (by
  intro a r ob e hob
  split at e
  · rename_i sn sf
    simp only [Option.some.injEq, Prod.mk.injEq] at e
    obtain ⟨rfl, rfl⟩ := e
    exact ConN.args (.cons (.toT okRA rfl hob.1) (.cons .rfl .nil)) (c_idxBad (Tl rowA sn sf) hob.2.1)
  · simp at e)
theorem c_anyBad (s : List Arm)  (h0 : s.length ≤ 2000000) : ConN Try.prog 56 [.vec 15 (stdH Nat fun _ => (s).length) (rowsA stdH fun _ => s), .lit (.func (.func 57) #[] #[])] [] 0 (.lit (.bool (stdH Bool fun _ => s.any (fun y => !okA y)))) [] [] := by
  have hB : Base Try.prog (tabΓ [e_idxBad]) tab := base_of tabOk (ents_cons eok_idxBad <| ents_nil)
  refine con_m (N := 9) hB (draw_ok hB mixed) Try.func56 rfl rfl (fun H => [.vec 15 (H Nat fun _ => (s).length) (rowsA H fun _ => s), .lit (.func (.func 57) #[] #[])]) (fun _ => []) 0 (fun H => .lit (.bool (H Bool fun _ => s.any (fun y => !okA y)))) (fun H => []) (fun _ => []) 100 (by simp) (fun x hx => ?_) (by simp [lk]) (by omega) (by simp) ?_
  · simp only [List.mem_cons, List.not_mem_nil, or_false] at hx
    rcases hx with rfl | rfl
    · exact vl_bl okRA s _
    · exact .lit
  intro X hX hX0 H hH
  conv in Fin.chk _ _ => cbv
  try simp only [Plain_rowsA, Plain_rowsB, Plain_rowsF, Plain_rowsG, Plain_rowsI, Plain_rowsS, Plain_rowsU, Fin.satC_ret, Fin.satC_br, Fin.satC_need, Fin.satC_again, AllP, and_true, true_and, upd, List.length_nil, List.length_cons, Nat.zero_add, if_true, ncast, Int.ofNat_eq_natCast]
  refine ⟨⟨?_, ?_⟩, ?_⟩
  · try simp only [hH, stdH, Nat.le_refl, decide_eq_true_eq, decide_eq_false_iff_not, Bool.not_eq_true', Bool.not_eq_false', peta, ncast, Int.ofNat_eq_natCast, beq_iff_eq, bne_iff_ne, beq_eq_false_iff_ne, bne_eq_false_iff_eq, ne_eq, Classical.not_not, Int.toNat_natCast, vrow_I, Arm.eta2, Fld.eta, Grp.eta]
    exact Shp_A _ _
  · try simp only [hH, stdH, Nat.le_refl, decide_eq_true_eq, decide_eq_false_iff_not, Bool.not_eq_true', Bool.not_eq_false', peta, ncast, Int.ofNat_eq_natCast, beq_iff_eq, bne_iff_ne, beq_eq_false_iff_ne, bne_eq_false_iff_eq, ne_eq, Classical.not_not, Int.toNat_natCast, vrow_I, Arm.eta2, Fld.eta, Grp.eta]
    simp only [Tl_A]; exact h0
  · try simp only [hH, stdH, Nat.le_refl, decide_eq_true_eq, decide_eq_false_iff_not, Bool.not_eq_true', Bool.not_eq_false', peta, ncast, Int.ofNat_eq_natCast, beq_iff_eq, bne_iff_ne, beq_eq_false_iff_ne, bne_eq_false_iff_eq, ne_eq, Classical.not_not, Int.toNat_natCast, vrow_I, Arm.eta2, Fld.eta, Grp.eta]
    simp only [Tl_A]; exact (idxF_ge _ _).symm
noncomputable def e_anyBad : Entry := pureE 56 fun H a => match a with
  | [.vec 15 sn sf, .lit (.func (.func 57) ⟨[]⟩ ⟨[]⟩)] => some (.lit (.bool (H Bool fun _ => (Tl rowA sn sf).any (fun y => !okA y))), [H Prop fun _ => Shp rowA sn sf, H Prop fun _ => (Tl rowA sn sf).length ≤ 2000000])
  | _ => none
theorem eok_anyBad : EntryOk Try.prog e_anyBad := pureM_ok (by unfold isBody; kernel_rfl) (by
  intro a r ob e hob
  split at e
  · rename_i sn sf
    simp only [Option.some.injEq, Prod.mk.injEq] at e
    obtain ⟨rfl, rfl⟩ := e
    exact ConN.args (.cons (.toT okRA rfl hob.1) (.cons .rfl .nil)) (c_anyBad (Tl rowA sn sf) hob.2.1)
  · simp at e)
theorem c_areArms (list : List Arm) (most : Int) (h0 : list.length ≤ 2000000) : ConN Try.prog 26 [.vec 15 (stdH Nat fun _ => (list).length) (rowsA stdH fun _ => list), .lit (.int .i64 most)] [] 0 (.lit (.bool (stdH Bool fun _ => bif decide ((list.length : Nat) ≤ most) then !list.any (fun y => !okA y) else false))) [] [] := by
  have hB : Base Try.prog (tabΓ [e_anyBad]) tab := base_of tabOk (ents_cons eok_anyBad <| ents_nil)
  refine con_m (N := 14) hB (draw_ok hB mixed) Try.func26 rfl rfl (fun H => [.vec 15 (H Nat fun _ => (list).length) (rowsA H fun _ => list), .lit (.int .i64 most)]) (fun _ => []) 0 (fun H => .lit (.bool (H Bool fun _ => bif decide ((list.length : Nat) ≤ most) then !list.any (fun y => !okA y) else false))) (fun H => []) (fun _ => []) 100 (by simp) (fun x hx => ?_) (by simp [lk]) (by omega) (by simp) ?_
  · simp only [List.mem_cons, List.not_mem_nil, or_false] at hx
    rcases hx with rfl | rfl
    · exact vl_bl okRA list _
    · exact .lit
  intro X hX hX0 H hH
  conv in Fin.chk _ _ => cbv
  try simp only [Plain_rowsA, Plain_rowsB, Plain_rowsF, Plain_rowsG, Plain_rowsI, Plain_rowsS, Plain_rowsU, Fin.satC_ret, Fin.satC_br, Fin.satC_need, Fin.satC_again, AllP, and_true, true_and, upd, List.length_nil, List.length_cons, Nat.zero_add, if_true, ncast, Int.ofNat_eq_natCast]
  refine ⟨⟨?_, ?_⟩, ?_⟩
  · try simp only [hH, stdH, Nat.le_refl, decide_eq_true_eq, decide_eq_false_iff_not, Bool.not_eq_true', Bool.not_eq_false', peta, ncast, Int.ofNat_eq_natCast, beq_iff_eq, bne_iff_ne, beq_eq_false_iff_ne, bne_eq_false_iff_eq, ne_eq, Classical.not_not, Int.toNat_natCast, vrow_I, Arm.eta2, Fld.eta, Grp.eta]
    exact fun _ => Shp_A _ _
  · try simp only [hH, stdH, Nat.le_refl, decide_eq_true_eq, decide_eq_false_iff_not, Bool.not_eq_true', Bool.not_eq_false', peta, ncast, Int.ofNat_eq_natCast, beq_iff_eq, bne_iff_ne, beq_eq_false_iff_ne, bne_eq_false_iff_eq, ne_eq, Classical.not_not, Int.toNat_natCast, vrow_I, Arm.eta2, Fld.eta, Grp.eta]
    intro _
    simp only [Tl_A]; exact h0
  · try simp only [hH, stdH, Nat.le_refl, decide_eq_true_eq, decide_eq_false_iff_not, Bool.not_eq_true', Bool.not_eq_false', peta, ncast, Int.ofNat_eq_natCast, beq_iff_eq, bne_iff_ne, beq_eq_false_iff_ne, bne_eq_false_iff_eq, ne_eq, Classical.not_not, Int.toNat_natCast, vrow_I, Arm.eta2, Fld.eta, Grp.eta]
    simp only [Tl_A]
noncomputable def e_areArms : Entry := pureE 26 fun H a => match a with
  | [.vec 15 listn listf, .lit (.int .i64 most)] => some (.lit (.bool (H Bool fun _ => bif decide (((Tl rowA listn listf).length : Nat) ≤ most) then !(Tl rowA listn listf).any (fun y => !okA y) else false)), [H Prop fun _ => Shp rowA listn listf, H Prop fun _ => (Tl rowA listn listf).length ≤ 2000000])
  | _ => none
theorem eok_areArms : EntryOk Try.prog e_areArms := pureM_ok (by unfold isBody; kernel_rfl) (by
  intro a r ob e hob
  split at e
  · rename_i listn listf most
    simp only [Option.some.injEq, Prod.mk.injEq] at e
    obtain ⟨rfl, rfl⟩ := e
    exact ConN.args (.cons (.toT okRA rfl hob.1) (.cons .rfl .nil)) (c_areArms (Tl rowA listn listf) most hob.2.1)
  · simp at e)
def noDup (l : List Arm) : Bool := (List.range l.length).all fun i => decide (idxF (fun y => decide (y = l.getD i default)) l = (i : Nat))
def okQ (l : List Arm) : Bool := noDup l && (decide (1 ≤ l.length) && decide (l.length ≤ 12) && !l.any (fun y => !okA y))
theorem noDup_at {l : List Arm} {i : Nat} (h : i < l.length) (e : ¬ idxF (fun y => decide (y = l.getD i default)) l = (i : Nat)) : noDup l = false := by
  rw [← Bool.not_eq_true]; unfold noDup; rw [List.all_eq_true]
  intro q
  exact e (of_decide_eq_true (q i (List.mem_range.2 h)))
theorem noDup_all {l : List Arm} (h : ∀ i, i < l.length → idxF (fun y => decide (y = l.getD i default)) l = (i : Nat)) : noDup l = true := by
  unfold noDup; rw [List.all_eq_true]
  exact fun i hi => decide_eq_true (h i (List.mem_range.1 hi))
theorem okQ_at {l : List Arm} {i : Nat} (h : i < l.length) (e : ¬ idxF (fun y => decide (y = l.getD i default)) l = (i : Nat)) : okQ l = false := by unfold okQ; rw [noDup_at h e]; rfl
theorem okQ_bad {l : List Arm} {i : Nat} (h : i < l.length) (e : okA (l.getD i default) = false) : okQ l = false := by
  have : l.any (fun y => !okA y) = true := List.any_eq_true.2 ⟨_, getD_mem h, by rw [e]; rfl⟩
  unfold okQ; rw [this]; simp
theorem c_validQ (list : List Arm) (h0 : list.length ≤ 2000000) : ConN Try.prog 45 [.vec 15 (stdH Nat fun _ => (list).length) (rowsA stdH fun _ => list)] [] 0 (.lit (.bool (stdH Bool fun _ => okQ list))) [] [] := by
  have hB : Base Try.prog (tabΓ [e_idxA, e_areArms]) tab := base_of tabOk (ents_cons eok_idxA <| ents_cons eok_areArms <| ents_nil)
  refine con_m (N := 25) hB (draw_ok hB mixed) Try.func45 rfl rfl (fun H => [.vec 15 (H Nat fun _ => (list).length) (rowsA H fun _ => list)]) (fun _ => []) 0 (fun H => .lit (.bool (H Bool fun _ => okQ list))) (fun H => []) (fun _ => []) 200 (by simp) (fun x hx => ?_) (by simp [lk]) (by omega) (by simp) ?_
  · simp only [List.mem_cons, List.not_mem_nil, or_false] at hx
    rcases hx with rfl
    · exact vl_bl okRA list _
  intro X hX hX0 H hH
  conv in Fin.chk _ _ => cbv
  try simp only [Plain_rowsA, Plain_rowsB, Plain_rowsF, Plain_rowsG, Plain_rowsI, Plain_rowsS, Plain_rowsU, Fin.satC_ret, Fin.satC_br, Fin.satC_need, Fin.satC_again, AllP, and_true, true_and, upd, List.length_nil, List.length_cons, Nat.zero_add, if_true, ncast, Int.ofNat_eq_natCast]
  refine loop_a hB (draw_ok hB mixed) hX hX0 hH false (ι := { i : Nat // i ≤ list.length ∧ ∀ j, j < i → idxF (fun y => decide (y = list.getD j default)) list = (j : Nat) }) 200 (fun i => [.i (H Int fun _ => (i.1 : Nat))]) (fun i => list.length - i.1) (⟨0, by omega, by omega⟩) ?_ ?_
  · (conv in matchSt _ _ _ _ => cbv); simp only [AllG, AllP, and_true, hH, stdH, Nat.le_refl, ncast, Int.ofNat_eq_natCast, vrow_I, Arm.eta2, Fld.eta, Grp.eta]
    (repeat' (first | with_reducible exact True.intro | rfl | exact Nat.le_refl _ | exact RowsEq.self okRA | exact RowsEq.ofT okRA rfl (Shp_zero _) rfl | exact RowsEq.snoc okRA rfl | exact RowsEq.self okI | exact RowsEq.self okRA | exact List.length_append | refine And.intro ?_ ?_ | trivial))
  · intro I hI i
    conv in Fin.chk _ _ => cbv
    try simp only [Plain_rowsA, Plain_rowsB, Plain_rowsF, Plain_rowsG, Plain_rowsI, Plain_rowsS, Plain_rowsU, Fin.satC_ret, Fin.satC_br, Fin.satC_need, Fin.satC_again, AllP, and_true, true_and, upd, List.length_nil, List.length_cons, Nat.zero_add, if_true, ncast, Int.ofNat_eq_natCast]
    obtain ⟨i, hi, hj⟩ := i
    refine ⟨fun h1 => ?_, fun h1 => ?_⟩
    · simp only [hH, stdH, Nat.le_refl, decide_eq_true_eq, decide_eq_false_iff_not, Bool.not_eq_true', Bool.not_eq_false', peta, ncast, Int.ofNat_eq_natCast, beq_iff_eq, bne_iff_ne, beq_eq_false_iff_ne, bne_eq_false_iff_eq, ne_eq, Classical.not_not, Int.toNat_natCast, vrow_I, Arm.eta2, Fld.eta, Grp.eta] at h1
      refine ⟨?_, ⟨?_, ?_⟩, fun h2 => ?_, fun h2 => ?_⟩
      · try simp only [hH, stdH, Nat.le_refl, decide_eq_true_eq, decide_eq_false_iff_not, Bool.not_eq_true', Bool.not_eq_false', peta, ncast, Int.ofNat_eq_natCast, beq_iff_eq, bne_iff_ne, beq_eq_false_iff_ne, bne_eq_false_iff_eq, ne_eq, Classical.not_not, Int.toNat_natCast, vrow_I, Arm.eta2, Fld.eta, Grp.eta]
        omega
      · try simp only [hH, stdH, Nat.le_refl, decide_eq_true_eq, decide_eq_false_iff_not, Bool.not_eq_true', Bool.not_eq_false', peta, ncast, Int.ofNat_eq_natCast, beq_iff_eq, bne_iff_ne, beq_eq_false_iff_ne, bne_eq_false_iff_eq, ne_eq, Classical.not_not, Int.toNat_natCast, vrow_I, Arm.eta2, Fld.eta, Grp.eta]
        exact Shp_A _ _
      · try simp only [hH, stdH, Nat.le_refl, decide_eq_true_eq, decide_eq_false_iff_not, Bool.not_eq_true', Bool.not_eq_false', peta, ncast, Int.ofNat_eq_natCast, beq_iff_eq, bne_iff_ne, beq_eq_false_iff_ne, bne_eq_false_iff_eq, ne_eq, Classical.not_not, Int.toNat_natCast, vrow_I, Arm.eta2, Fld.eta, Grp.eta]
        simp only [Tl_A]; exact h0
      · simp only [hH, stdH, Nat.le_refl, decide_eq_true_eq, decide_eq_false_iff_not, Bool.not_eq_true', Bool.not_eq_false', peta, ncast, Int.ofNat_eq_natCast, beq_iff_eq, bne_iff_ne, beq_eq_false_iff_ne, bne_eq_false_iff_eq, ne_eq, Classical.not_not, Int.toNat_natCast, vrow_I, Arm.eta2, Fld.eta, Grp.eta] at h2
        simp only [Tl_A] at h2
        try simp only [hH, stdH, Nat.le_refl, decide_eq_true_eq, decide_eq_false_iff_not, Bool.not_eq_true', Bool.not_eq_false', peta, ncast, Int.ofNat_eq_natCast, beq_iff_eq, bne_iff_ne, beq_eq_false_iff_ne, bne_eq_false_iff_eq, ne_eq, Classical.not_not, Int.toNat_natCast, vrow_I, Arm.eta2, Fld.eta, Grp.eta]
        exact okQ_at (by omega) h2
      · simp only [hH, stdH, Nat.le_refl, decide_eq_true_eq, decide_eq_false_iff_not, Bool.not_eq_true', Bool.not_eq_false', peta, ncast, Int.ofNat_eq_natCast, beq_iff_eq, bne_iff_ne, beq_eq_false_iff_ne, bne_eq_false_iff_eq, ne_eq, Classical.not_not, Int.toNat_natCast, vrow_I, Arm.eta2, Fld.eta, Grp.eta] at h2
        simp only [Tl_A] at h2
        refine ⟨⟨i + 1, by omega, fun j hj' => ?_⟩, by simp only; omega, ?_⟩
        · rcases Nat.lt_succ_iff_lt_or_eq.1 hj' with h | rfl
          · exact hj j h
          · exact h2
        · rw [hI]
          (conv in matchSt _ _ _ _ => cbv); simp only [AllG, AllP, and_true, hH, stdH, Nat.le_refl, ncast, Int.ofNat_eq_natCast, vrow_I, Arm.eta2, Fld.eta, Grp.eta]
          rw [w1 (by omega)]
          (repeat' (first | with_reducible exact True.intro | rfl | exact Nat.le_refl _ | exact RowsEq.self okRA | exact RowsEq.ofT okRA rfl (Shp_zero _) rfl | exact RowsEq.snoc okRA rfl | exact RowsEq.self okI | exact RowsEq.self okRA | exact List.length_append | refine And.intro ?_ ?_ | trivial))
    · simp only [hH, stdH, Nat.le_refl, decide_eq_true_eq, decide_eq_false_iff_not, Bool.not_eq_true', Bool.not_eq_false', peta, ncast, Int.ofNat_eq_natCast, beq_iff_eq, bne_iff_ne, beq_eq_false_iff_ne, bne_eq_false_iff_eq, ne_eq, Classical.not_not, Int.toNat_natCast, vrow_I, Arm.eta2, Fld.eta, Grp.eta] at h1
      obtain rfl : i = list.length := by omega
      have hd := noDup_all hj
      refine ⟨⟨?_, ?_⟩, ?_⟩
      · try simp only [hH, stdH, Nat.le_refl, decide_eq_true_eq, decide_eq_false_iff_not, Bool.not_eq_true', Bool.not_eq_false', peta, ncast, Int.ofNat_eq_natCast, beq_iff_eq, bne_iff_ne, beq_eq_false_iff_ne, bne_eq_false_iff_eq, ne_eq, Classical.not_not, Int.toNat_natCast, vrow_I, Arm.eta2, Fld.eta, Grp.eta]
        exact fun _ => Shp_A _ _
      · try simp only [hH, stdH, Nat.le_refl, decide_eq_true_eq, decide_eq_false_iff_not, Bool.not_eq_true', Bool.not_eq_false', peta, ncast, Int.ofNat_eq_natCast, beq_iff_eq, bne_iff_ne, beq_eq_false_iff_ne, bne_eq_false_iff_eq, ne_eq, Classical.not_not, Int.toNat_natCast, vrow_I, Arm.eta2, Fld.eta, Grp.eta]
        intro _
        simp only [Tl_A]; exact h0
      · try simp only [hH, stdH, Nat.le_refl, decide_eq_true_eq, decide_eq_false_iff_not, Bool.not_eq_true', Bool.not_eq_false', peta, ncast, Int.ofNat_eq_natCast, beq_iff_eq, bne_iff_ne, beq_eq_false_iff_ne, bne_eq_false_iff_eq, ne_eq, Classical.not_not, Int.toNat_natCast, vrow_I, Arm.eta2, Fld.eta, Grp.eta]
        simp only [Tl_A]
        unfold okQ
        rw [hd]
        simp only [Bool.true_and]
        generalize list.any (fun y => !okA y) = q
        by_cases e1 : 1 ≤ list.length <;> by_cases e2 : list.length ≤ 12
        · rw [decide_eq_true e1, decide_eq_true e2, decide_eq_true (show (0 : Int) < list.length by omega), decide_eq_true (show (list.length : Int) ≤ 12 by omega)]; simp
        · rw [decide_eq_false e2, decide_eq_false (show ¬ (list.length : Int) ≤ 12 by omega)]; simp
        · rw [decide_eq_false e1, decide_eq_false (show ¬ (0 : Int) < list.length by omega)]; simp
        · rw [decide_eq_false e1, decide_eq_false (show ¬ (0 : Int) < list.length by omega)]; simp
noncomputable def e_validQ : Entry := pureE 45 fun H a => match a with
  | [.vec 15 listn listf] => some (.lit (.bool (H Bool fun _ => okQ (Tl rowA listn listf))), [H Prop fun _ => Shp rowA listn listf, H Prop fun _ => (Tl rowA listn listf).length ≤ 2000000])
  | _ => none
theorem eok_validQ : EntryOk Try.prog e_validQ := pureM_ok (by unfold isBody; kernel_rfl) (by
  intro a r ob e hob
  split at e
  · rename_i listn listf
    simp only [Option.some.injEq, Prod.mk.injEq] at e
    obtain ⟨rfl, rfl⟩ := e
    exact ConN.args (.cons (.toT okRA rfl hob.1) .nil) (c_validQ (Tl rowA listn listf) hob.2.1)
  · simp at e)
theorem okQ_len {l : List Arm} (h : okQ l = true) : 1 ≤ l.length ∧ l.length ≤ 12 := by
  unfold okQ at h; simp only [Bool.and_eq_true, decide_eq_true_eq] at h; exact ⟨h.2.1.1, h.2.1.2⟩
theorem c_l21Good (list : List Arm) (h0 : list.length ≤ 2000000) : ConN Try.prog 42 [.vec 15 (stdH Nat fun _ => (list).length) (rowsA stdH fun _ => list)] [] 0 (.lit (.bool (stdH Bool fun _ => okQ list))) [] [] := by
  have hB : Base Try.prog (tabΓ [e_l5Good, e_l21Find, e_l1In]) tab := base_of tabOk (ents_cons eok_l5Good <| ents_cons eok_l21Find <| ents_cons eok_l1In <| ents_nil)
  refine con_m (N := 29) hB (draw_ok hB mixed) Try.func42 rfl rfl (fun H => [.vec 15 (H Nat fun _ => (list).length) (rowsA H fun _ => list)]) (fun _ => []) 0 (fun H => .lit (.bool (H Bool fun _ => okQ list))) (fun H => []) (fun _ => []) 200 (by simp) (fun x hx => ?_) (by simp [lk]) (by omega) (by simp) ?_
  · simp only [List.mem_cons, List.not_mem_nil, or_false] at hx
    rcases hx with rfl
    · exact vl_bl okRA list _
  intro X hX hX0 H hH
  conv in Fin.chk _ _ => cbv
  try simp only [Plain_rowsA, Plain_rowsB, Plain_rowsF, Plain_rowsG, Plain_rowsI, Plain_rowsS, Plain_rowsU, Fin.satC_ret, Fin.satC_br, Fin.satC_need, Fin.satC_again, AllP, and_true, true_and, upd, List.length_nil, List.length_cons, Nat.zero_add, if_true, ncast, Int.ofNat_eq_natCast]
  refine loop_a hB (draw_ok hB mixed) hX hX0 hH false (ι := { i : Nat // i ≤ list.length ∧ ∀ j, j < i → idxF (fun y => decide (y = list.getD j default)) list = (j : Nat) ∧ okA (list.getD j default) = true }) 200 (fun i => [.i (H Int fun _ => (i.1 : Nat))]) (fun i => list.length - i.1) (⟨0, by omega, by omega⟩) ?_ ?_
  · (conv in matchSt _ _ _ _ => cbv); simp only [AllG, AllP, and_true, hH, stdH, Nat.le_refl, ncast, Int.ofNat_eq_natCast, vrow_I, Arm.eta2, Fld.eta, Grp.eta]
    (repeat' (first | with_reducible exact True.intro | rfl | exact Nat.le_refl _ | exact RowsEq.self okRA | exact RowsEq.ofT okRA rfl (Shp_zero _) rfl | exact RowsEq.snoc okRA rfl | exact RowsEq.self okI | exact RowsEq.self okRA | exact List.length_append | refine And.intro ?_ ?_ | trivial))
  · intro I hI i
    conv in Fin.chk _ _ => cbv
    try simp only [Plain_rowsA, Plain_rowsB, Plain_rowsF, Plain_rowsG, Plain_rowsI, Plain_rowsS, Plain_rowsU, Fin.satC_ret, Fin.satC_br, Fin.satC_need, Fin.satC_again, AllP, and_true, true_and, upd, List.length_nil, List.length_cons, Nat.zero_add, if_true, ncast, Int.ofNat_eq_natCast]
    obtain ⟨i, hi, hj⟩ := i
    refine ⟨fun h1 => ?_, fun h1 => ?_⟩
    · simp only [hH, stdH, Nat.le_refl, decide_eq_true_eq, decide_eq_false_iff_not, Bool.not_eq_true', Bool.not_eq_false', peta, ncast, Int.ofNat_eq_natCast, beq_iff_eq, bne_iff_ne, beq_eq_false_iff_ne, bne_eq_false_iff_eq, ne_eq, Classical.not_not, Int.toNat_natCast, vrow_I, Arm.eta2, Fld.eta, Grp.eta] at h1
      refine ⟨?_, ?_, ⟨?_, ?_⟩, fun h2 => ?_, fun h2 => ?_⟩
      · try simp only [hH, stdH, Nat.le_refl, decide_eq_true_eq, decide_eq_false_iff_not, Bool.not_eq_true', Bool.not_eq_false', peta, ncast, Int.ofNat_eq_natCast, beq_iff_eq, bne_iff_ne, beq_eq_false_iff_ne, bne_eq_false_iff_eq, ne_eq, Classical.not_not, Int.toNat_natCast, vrow_I, Arm.eta2, Fld.eta, Grp.eta]
        omega
      · try simp only [hH, stdH, Nat.le_refl, decide_eq_true_eq, decide_eq_false_iff_not, Bool.not_eq_true', Bool.not_eq_false', peta, ncast, Int.ofNat_eq_natCast, beq_iff_eq, bne_iff_ne, beq_eq_false_iff_ne, bne_eq_false_iff_eq, ne_eq, Classical.not_not, Int.toNat_natCast, vrow_I, Arm.eta2, Fld.eta, Grp.eta]
        intro _; omega
      · try simp only [hH, stdH, Nat.le_refl, decide_eq_true_eq, decide_eq_false_iff_not, Bool.not_eq_true', Bool.not_eq_false', peta, ncast, Int.ofNat_eq_natCast, beq_iff_eq, bne_iff_ne, beq_eq_false_iff_ne, bne_eq_false_iff_eq, ne_eq, Classical.not_not, Int.toNat_natCast, vrow_I, Arm.eta2, Fld.eta, Grp.eta]
        exact fun _ => Shp_A _ _
      · try simp only [hH, stdH, Nat.le_refl, decide_eq_true_eq, decide_eq_false_iff_not, Bool.not_eq_true', Bool.not_eq_false', peta, ncast, Int.ofNat_eq_natCast, beq_iff_eq, bne_iff_ne, beq_eq_false_iff_ne, bne_eq_false_iff_eq, ne_eq, Classical.not_not, Int.toNat_natCast, vrow_I, Arm.eta2, Fld.eta, Grp.eta]
        intro _
        simp only [Tl_A]; exact h0
      · simp only [hH, stdH, Int.toNat_natCast] at h2
        simp only [Arm.eta2, Fld.eta, Grp.eta, Tl_A] at h2
        try simp only [hH, stdH, Nat.le_refl, decide_eq_true_eq, decide_eq_false_iff_not, Bool.not_eq_true', Bool.not_eq_false', peta, ncast, Int.ofNat_eq_natCast, beq_iff_eq, bne_iff_ne, beq_eq_false_iff_ne, bne_eq_false_iff_eq, ne_eq, Classical.not_not, Int.toNat_natCast, vrow_I, Arm.eta2, Fld.eta, Grp.eta]
        cases ho : okA (list.getD i default) with
        | false => exact okQ_bad (by omega) ho
        | true =>
          rw [ho] at h2
          simp only [Bool.not_true, cond_false, bne_iff_ne, ne_eq] at h2
          exact okQ_at (by omega) h2
      · simp only [hH, stdH, Int.toNat_natCast] at h2
        simp only [Arm.eta2, Fld.eta, Grp.eta, Tl_A] at h2
        have h3 : idxF (fun y => decide (y = list.getD i default)) list = (i : Nat) ∧ okA (list.getD i default) = true := by
          cases ho : okA (list.getD i default) with
          | false => rw [ho] at h2; cases h2
          | true =>
            rw [ho] at h2
            simp only [Bool.not_true, cond_false, bne_eq_false_iff_eq] at h2
            exact ⟨h2, rfl⟩
        refine ⟨⟨i + 1, by omega, fun j hj' => ?_⟩, by simp only; omega, ?_⟩
        · rcases Nat.lt_succ_iff_lt_or_eq.1 hj' with h | rfl
          · exact hj j h
          · exact h3
        · rw [hI]
          (conv in matchSt _ _ _ _ => cbv); simp only [AllG, AllP, and_true, hH, stdH, Nat.le_refl, ncast, Int.ofNat_eq_natCast, vrow_I, Arm.eta2, Fld.eta, Grp.eta]
          rw [w1 (by omega)]
          (repeat' (first | with_reducible exact True.intro | rfl | exact Nat.le_refl _ | exact RowsEq.self okRA | exact RowsEq.ofT okRA rfl (Shp_zero _) rfl | exact RowsEq.snoc okRA rfl | exact RowsEq.self okI | exact RowsEq.self okRA | exact List.length_append | refine And.intro ?_ ?_ | trivial))
    · simp only [hH, stdH, Nat.le_refl, decide_eq_true_eq, decide_eq_false_iff_not, Bool.not_eq_true', Bool.not_eq_false', peta, ncast, Int.ofNat_eq_natCast, beq_iff_eq, bne_iff_ne, beq_eq_false_iff_ne, bne_eq_false_iff_eq, ne_eq, Classical.not_not, Int.toNat_natCast, vrow_I, Arm.eta2, Fld.eta, Grp.eta] at h1
      obtain rfl : i = list.length := by omega
      have hd := noDup_all fun i hi => (hj i hi).1
      have ha : list.any (fun y => !okA y) = false := none_any default fun j q => by rw [(hj j q).2]; rfl
      try simp only [hH, stdH, Nat.le_refl, decide_eq_true_eq, decide_eq_false_iff_not, Bool.not_eq_true', Bool.not_eq_false', peta, ncast, Int.ofNat_eq_natCast, beq_iff_eq, bne_iff_ne, beq_eq_false_iff_ne, bne_eq_false_iff_eq, ne_eq, Classical.not_not, Int.toNat_natCast, vrow_I, Arm.eta2, Fld.eta, Grp.eta]
      unfold okQ inB
      rw [hd, ha]
      simp only [Bool.true_and, Bool.not_false, Bool.and_true]
      rw [Bool.eq_iff_iff]
      simp only [Bool.and_eq_true, decide_eq_true_eq]
      omega
noncomputable def e_l21Good : Entry := pureE 42 fun H a => match a with
  | [.vec 15 listn listf] => some (.lit (.bool (H Bool fun _ => okQ (Tl rowA listn listf))), [H Prop fun _ => Shp rowA listn listf, H Prop fun _ => (Tl rowA listn listf).length ≤ 2000000])
  | _ => none
theorem eok_l21Good : EntryOk Try.prog e_l21Good := pureM_ok (by unfold isBody; kernel_rfl) (by
  intro a r ob e hob
  split at e
  · rename_i listn listf
    simp only [Option.some.injEq, Prod.mk.injEq] at e
    obtain ⟨rfl, rfl⟩ := e
    exact ConN.args (.cons (.toT okRA rfl hob.1) .nil) (c_l21Good (Tl rowA listn listf) hob.2.1)
  · simp at e)
end Go.Proofs.Ytigkdbhcjjjjkaa.AM

