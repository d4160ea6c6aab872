import Derived.Test.YthilcnfnbgbkdaaAmT
import Derived.Test.YthilcnfnbgbkdaaDal
import Derived.Test.YthilcnfnbgbkdaaQtr
import Derived.Test.YthilcnfnbgbkdaaDil
import Derived.Test.YthilcnfnbgbkdaaDif
import Derived.Test.YthilcnfnbgbkdaaAmDl
set_option linter.unusedVariables false
set_option linter.unusedSimpArgs false
set_option maxRecDepth 100000
set_option maxHeartbeats 4000000
set_option cbv.maxSteps 3000000
namespace Go.Proofs.Ythilcnfnbgbkdaa.AM
/- The nearest arms of a list, and the table of differences: the program's and the reference's; conditions: none. -/
def okLs (l : List Arm) : Bool := bif decide ((l.length : Int) ≤ 16) then !l.any (fun y => !okA y) else false
theorem okLs_in {l : List Arm} (h : okLs l = true) : l.length ≤ 16 ∧ ∀ a ∈ l, okA a = true := by
  unfold okLs at h
  by_cases h1 : (l.length : Int) ≤ 16
  · rw [decide_eq_true h1, cond_true, Bool.not_eq_true', List.any_eq_false] at h
    exact ⟨by omega, fun a ha => by simpa using h a ha⟩
  · rw [decide_eq_false h1] at h; cases h
theorem okLs_at {l : List Arm} (h : okLs l = true) {i : Nat} (hi : i < l.length) : okA (l.getD i default) = true := (okLs_in h).2 _ (getD_mem hi)
/-- The first of the least. -/
def bst (g : Arm → Int) (l : List Arm) : Nat → Nat
  | 0 => 0
  | i + 1 => if g (l.getD i default) < g (l.getD (bst g l i) default) then i else bst g l i
theorem bst_le (g : Arm → Int) (l : List Arm) : ∀ i, 0 < i → bst g l i < i
  | 1, _ => by unfold bst; split <;> simp [bst]
  | i + 2, _ => by
    have := bst_le g l (i + 1) (by omega)
    unfold bst
    split <;> omega
theorem bst_least (g : Arm → Int) (l : List Arm) : ∀ i j, j < i → g (l.getD (bst g l i) default) ≤ g (l.getD j default)
  | i + 1, j, h => by
    have ih := bst_least g l i
    unfold bst
    split
    · rename_i hlt
      rcases Nat.lt_succ_iff_lt_or_eq.1 h with h | rfl
      · have := ih j h; omega
      · exact Int.le_refl _
    · rename_i hge
      rcases Nat.lt_succ_iff_lt_or_eq.1 h with h | rfl
      · exact ih j h
      · omega
def nrO (l : List Arm) (a : Arm) : Bool := okLs l && (okA a && decide (l ≠ []))
def nrI (l : List Arm) (a : Arm) : Int := if nrO l a then (bst (fun y => dS y a) l l.length : Nat) else 0
def nrN (l : List Arm) (a : Arm) : Int := if nrO l a then dS (l.getD (bst (fun y => dS y a) l l.length) default) a else 0
theorem nr_cond (l : List Arm) (a : Arm) : (bif bif !okLs l then true else !okA a then true else ((l.length : Int) == 0)) = !nrO l a := by
  unfold nrO
  cases okLs l <;> cases okA a <;> cases l <;> simp
  omega
theorem nrO_in {l : List Arm} {a : Arm} (h : nrO l a = true) : okLs l = true ∧ okA a = true ∧ 0 < l.length := by
  unfold nrO at h
  simp only [Bool.and_eq_true, decide_eq_true_eq] at h
  exact ⟨h.1, h.2.1, List.length_pos_iff.2 h.2.2⟩
theorem nr_no {l : List Arm} {a : Arm} (h : nrO l a = false) : nrI l a = 0 ∧ nrN l a = 0 := by
  unfold nrI nrN; rw [h]; exact ⟨rfl, rfl⟩
theorem nr_yes {l : List Arm} {a : Arm} (h : nrO l a = true) : nrI l a = (bst (fun y => dS y a) l l.length : Nat) ∧ nrN l a = dS (l.getD (bst (fun y => dS y a) l l.length) default) a := by
  unfold nrI nrN; rw [h]; exact ⟨rfl, rfl⟩
theorem c_nearH (l : List Arm) (a : Arm) (h0 : l.length ≤ 100) : ConN Try.prog 7 [.vec 15 (stdH Nat fun _ => (l).length) (rowsA stdH fun _ => l), aT rowA stdH fun _ => a] [] 0 (.tup [.lit (.int .i64 (stdH Int fun _ => nrI l a)), .lit (.int .i64 (stdH Int fun _ => nrN l a)), .lit (.bool (stdH Bool fun _ => nrO l a))]) [] [] := by
  have hB : Base Try.prog (tabΓ [e_areArms, e_IsValidArms, e_differences]) tabO := base_of tabOkO (ents_cons eok_areArms <| ents_cons eok_IsValidArms <| ents_cons eok_differences <| ents_nil)
  refine con_m (N := 48) hB (draw_ok hB mixed) Try.func7 rfl rfl (fun H => [.vec 15 (H Nat fun _ => (l).length) (rowsA H fun _ => l), aT rowA H fun _ => a]) (fun _ => []) 0 (fun H => .tup [.lit (.int .i64 (H Int fun _ => nrI l a)), .lit (.int .i64 (H Int fun _ => nrN l a)), .lit (.bool (H Bool fun _ => nrO l a))]) (fun H => []) (fun _ => []) 300 (by simp) (fun x hx => ?_) (by simp [lk]) (by omega) (by simp) ?_
  · simp only [List.mem_cons, List.not_mem_nil, or_false] at hx
    rcases hx with rfl | rfl
    · exact vl_bl okRA l _
    · exact aT_bl okRA _ _
  intro X hX hX0 H hH
  conv in Fin.chk _ _ => cbv
  try simp only [Plain_rowsA, Plain_rowsB, Plain_rowsF, Plain_rowsG, Plain_rowsI, Plain_rowsS, Plain_rowsU, Fin.satC_ret, Fin.satC_br, Fin.satC_need, Fin.satC_again, AllP, and_true, true_and, upd, List.length_nil, List.length_cons, Nat.zero_add, if_true, ncast, Int.ofNat_eq_natCast]
  refine ⟨⟨?_, ?_⟩, fun h => ?_, fun h => ⟨?_, ?_⟩⟩
  · try simp only [hH, stdH, decide_eq_true_eq, decide_eq_false_iff_not, Bool.not_eq_true', Bool.not_eq_false', peta, ncast, Int.ofNat_eq_natCast, beq_iff_eq, bne_iff_ne, beq_eq_false_iff_ne, bne_eq_false_iff_eq, ne_eq, Classical.not_not, Int.toNat_natCast, vrow_I, Arm.eta2, Fld.eta, Grp.eta]
    exact Shp_A _ _
  · try simp only [hH, stdH, decide_eq_true_eq, decide_eq_false_iff_not, Bool.not_eq_true', Bool.not_eq_false', peta, ncast, Int.ofNat_eq_natCast, beq_iff_eq, bne_iff_ne, beq_eq_false_iff_ne, bne_eq_false_iff_eq, ne_eq, Classical.not_not, Int.toNat_natCast, vrow_I, Arm.eta2, Fld.eta, Grp.eta]
    simp only [Tl_A]; omega
  · simp only [hH, stdH, Int.toNat_natCast] at h
    simp only [Tl_A, Arm.eta2, Fld.eta, Grp.eta] at h
    change (bif bif !okLs l then true else !okA a then true else ((l.length : Int) == 0)) = true at h
    rw [nr_cond, Bool.not_eq_true'] at h
    obtain ⟨e1, e2⟩ := nr_no h
    rw [h, e1, e2]
    try simp only [hH, stdH, decide_eq_true_eq, decide_eq_false_iff_not, Bool.not_eq_true', Bool.not_eq_false', peta, ncast, Int.ofNat_eq_natCast, beq_iff_eq, bne_iff_ne, beq_eq_false_iff_ne, bne_eq_false_iff_eq, ne_eq, Classical.not_not, Int.toNat_natCast, vrow_I, Arm.eta2, Fld.eta, Grp.eta]
    exact ⟨trivial, trivial, trivial⟩
  · simp only [hH, stdH, Int.toNat_natCast] at h
    simp only [Tl_A, Arm.eta2, Fld.eta, Grp.eta] at h
    change (bif bif !okLs l then true else !okA a then true else ((l.length : Int) == 0)) = false at h
    rw [nr_cond, Bool.not_eq_false'] at h
    have := (nrO_in h).2.2
    try simp only [hH, stdH, decide_eq_true_eq, decide_eq_false_iff_not, Bool.not_eq_true', Bool.not_eq_false', peta, ncast, Int.ofNat_eq_natCast, beq_iff_eq, bne_iff_ne, beq_eq_false_iff_ne, bne_eq_false_iff_eq, ne_eq, Classical.not_not, Int.toNat_natCast, vrow_I, Arm.eta2, Fld.eta, Grp.eta]
    omega
  · simp only [hH, stdH, Int.toNat_natCast] at h
    simp only [Tl_A, Arm.eta2, Fld.eta, Grp.eta] at h
    change (bif bif !okLs l then true else !okA a then true else ((l.length : Int) == 0)) = false at h
    rw [nr_cond, Bool.not_eq_false'] at h
    obtain ⟨hl, ha, hp⟩ := nrO_in h
    have e0 : ∀ j, j < l.length → dI (l.getD j default) a = dS (l.getD j default) a ∧ dI a (l.getD j default) = dS (l.getD j default) a := fun j hj => ⟨dI_dS (okLs_at hl hj) ha, by rw [dI_dS ha (okLs_at hl hj), dS_sym]⟩
    refine loop_a hB (draw_ok hB mixed) hX hX0 hH false (ι := { i : Nat // i ≤ l.length }) 300 (fun i => [.i (H Int fun _ => (bst (fun y => dS y a) l i.1 : Nat)), .i (H Int fun _ => dS (l.getD (bst (fun y => dS y a) l i.1) default) a), .i (H Int fun _ => (i.1 : Nat))]) (fun i => l.length - i.1) (⟨0, by omega⟩) ?_ ?_
    · (conv in matchSt _ _ _ _ => cbv); simp only [AllG, AllP, and_true, hH, stdH, ncast, Int.ofNat_eq_natCast, vrow_I, Arm.eta2, Fld.eta, Grp.eta]
      (repeat' (first | trivial | exact RowsEq.self okRA | rfl | exact (e0 0 hp).1.symm | refine And.intro ?_ ?_))
    · intro I hI i
      conv in Fin.chk _ _ => cbv
      try simp only [Plain_rowsA, Plain_rowsB, Plain_rowsF, Plain_rowsG, Plain_rowsI, Plain_rowsS, Plain_rowsU, Fin.satC_ret, Fin.satC_br, Fin.satC_need, Fin.satC_again, AllP, and_true, true_and, upd, List.length_nil, List.length_cons, Nat.zero_add, if_true, ncast, Int.ofNat_eq_natCast]
      obtain ⟨i, hi⟩ := i
      refine ⟨fun h1 => ⟨?_, fun h2 => ?_, fun h2 => ?_⟩, fun h1 => ?_⟩
      · simp only [hH, stdH, decide_eq_true_eq, decide_eq_false_iff_not, Bool.not_eq_true', Bool.not_eq_false', peta, ncast, Int.ofNat_eq_natCast, beq_iff_eq, bne_iff_ne, beq_eq_false_iff_ne, bne_eq_false_iff_eq, ne_eq, Classical.not_not, Int.toNat_natCast, vrow_I, Arm.eta2, Fld.eta, Grp.eta] at h1 ⊢
        omega
      · simp only [hH, stdH, decide_eq_true_eq, decide_eq_false_iff_not, Bool.not_eq_true', Bool.not_eq_false', peta, ncast, Int.ofNat_eq_natCast, beq_iff_eq, bne_iff_ne, beq_eq_false_iff_ne, bne_eq_false_iff_eq, ne_eq, Classical.not_not, Int.toNat_natCast, vrow_I, Arm.eta2, Fld.eta, Grp.eta] at h1 h2
        rw [(e0 i (by omega)).2] at h2
        have eb : bst (fun y => dS y a) l (i + 1) = i := if_pos h2
        refine ⟨⟨i + 1, by omega⟩, by simp only; omega, ?_⟩
        rw [hI]
        (conv in matchSt _ _ _ _ => cbv); simp only [AllG, AllP, and_true, hH, stdH, ncast, Int.ofNat_eq_natCast, vrow_I, Arm.eta2, Fld.eta, Grp.eta]
        rw [w1 (by omega), eb]
        (repeat' (first | trivial | exact RowsEq.self okRA | rfl | exact ((e0 i (by omega)).2).symm | refine And.intro ?_ ?_))
      · simp only [hH, stdH, decide_eq_true_eq, decide_eq_false_iff_not, Bool.not_eq_true', Bool.not_eq_false', peta, ncast, Int.ofNat_eq_natCast, beq_iff_eq, bne_iff_ne, beq_eq_false_iff_ne, bne_eq_false_iff_eq, ne_eq, Classical.not_not, Int.toNat_natCast, vrow_I, Arm.eta2, Fld.eta, Grp.eta] at h1 h2
        rw [(e0 i (by omega)).2] at h2
        have eb : bst (fun y => dS y a) l (i + 1) = bst (fun y => dS y a) l i := if_neg h2
        refine ⟨⟨i + 1, by omega⟩, by simp only; omega, ?_⟩
        rw [hI]
        (conv in matchSt _ _ _ _ => cbv); simp only [AllG, AllP, and_true, hH, stdH, ncast, Int.ofNat_eq_natCast, vrow_I, Arm.eta2, Fld.eta, Grp.eta]
        rw [w1 (by omega), eb]
        (repeat' (first | trivial | exact RowsEq.self okRA | rfl | refine And.intro ?_ ?_))
      · simp only [hH, stdH, decide_eq_true_eq, decide_eq_false_iff_not, Bool.not_eq_true', Bool.not_eq_false', peta, ncast, Int.ofNat_eq_natCast, beq_iff_eq, bne_iff_ne, beq_eq_false_iff_ne, bne_eq_false_iff_eq, ne_eq, Classical.not_not, Int.toNat_natCast, vrow_I, Arm.eta2, Fld.eta, Grp.eta] at h1
        obtain rfl : i = l.length := by omega
        obtain ⟨e1, e2⟩ := nr_yes h
        rw [h, e1, e2]
        try simp only [hH, stdH, decide_eq_true_eq, decide_eq_false_iff_not, Bool.not_eq_true', Bool.not_eq_false', peta, ncast, Int.ofNat_eq_natCast, beq_iff_eq, bne_iff_ne, beq_eq_false_iff_ne, bne_eq_false_iff_eq, ne_eq, Classical.not_not, Int.toNat_natCast, vrow_I, Arm.eta2, Fld.eta, Grp.eta]
        (repeat' (first | trivial | rfl | refine And.intro ?_ ?_))
noncomputable def e_nearH : Entry := pureE 7 fun H a => match a with
  | [.vec 15 ln lf, .agg [.lit (.int .i64 a0), .lit (.int .i64 a1), .lit (.int .i64 a2), .lit (.int .i64 a3), .lit (.int .i64 a4), .lit (.int .i64 a5), .lit (.int .i64 a6), .lit (.int .i64 a7), .lit (.int .i64 a8), .lit (.int .i64 a9), .lit (.int .i64 a10), .lit (.int .i64 a11), .lit (.int .i64 a12), .lit (.int .i64 a13), .lit (.int .i64 a14)]] => some (.tup [.lit (.int .i64 (H Int fun _ => nrI (Tl rowA ln lf) (⟨⟨a0, a1, a2, a3⟩, a4, a5, a6, ⟨a7, a8, a9, a10⟩, ⟨a11, a12, a13, a14⟩⟩ : Arm))), .lit (.int .i64 (H Int fun _ => nrN (Tl rowA ln lf) (⟨⟨a0, a1, a2, a3⟩, a4, a5, a6, ⟨a7, a8, a9, a10⟩, ⟨a11, a12, a13, a14⟩⟩ : Arm))), .lit (.bool (H Bool fun _ => nrO (Tl rowA ln lf) (⟨⟨a0, a1, a2, a3⟩, a4, a5, a6, ⟨a7, a8, a9, a10⟩, ⟨a11, a12, a13, a14⟩⟩ : Arm)))], [H Prop fun _ => Shp rowA ln lf, H Prop fun _ => (Tl rowA ln lf).length ≤ 100])
  | _ => none
theorem eok_nearH : EntryOk Try.prog e_nearH := pureM_ok (by unfold isBody; kernel_rfl) (by
  intro a r ob e hob
  split at e
  · rename_i ln lf a0 a1 a2 a3 a4 a5 a6 a7 a8 a9 a10 a11 a12 a13 a14
    simp only [Option.some.injEq, Prod.mk.injEq] at e
    obtain ⟨rfl, rfl⟩ := e
    exact ConN.args (.cons (.toT okRA rfl hob.1) (.cons .rfl .nil)) (c_nearH (Tl rowA ln lf) (⟨⟨a0, a1, a2, a3⟩, a4, a5, a6, ⟨a7, a8, a9, a10⟩, ⟨a11, a12, a13, a14⟩⟩ : Arm) hob.2.1)
  · simp at e)
theorem c_l15List (l : List Arm) (h0 : l.length ≤ 100) : ConN Try.prog 29 [.vec 15 (stdH Nat fun _ => (l).length) (rowsA stdH fun _ => l)] [] 0 (.lit (.bool (stdH Bool fun _ => okLs l))) [] [] := by
  have hB : Base Try.prog (tabΓ [e_l5Good]) tabO := base_of tabOkO (ents_cons eok_l5Good <| ents_nil)
  refine con_m (N := 23) hB (draw_ok hB mixed) Try.func29 rfl rfl (fun H => [.vec 15 (H Nat fun _ => (l).length) (rowsA H fun _ => l)]) (fun _ => []) 0 (fun H => .lit (.bool (H Bool fun _ => okLs l))) (fun H => []) (fun _ => []) 300 (by simp) (fun x hx => ?_) (by simp [lk]) (by omega) (by simp) ?_
  · simp only [List.mem_cons, List.not_mem_nil, or_false] at hx
    rcases hx with rfl
    · exact vl_bl okRA l _
  intro X hX hX0 H hH
  conv in Fin.chk _ _ => cbv
  try simp only [Plain_rowsA, Plain_rowsB, Plain_rowsF, Plain_rowsG, Plain_rowsI, Plain_rowsS, Plain_rowsU, Fin.satC_ret, Fin.satC_br, Fin.satC_need, Fin.satC_again, AllP, and_true, true_and, upd, List.length_nil, List.length_cons, Nat.zero_add, if_true, ncast, Int.ofNat_eq_natCast]
  refine loop_a hB (draw_ok hB mixed) hX hX0 hH false (ι := { i : Nat // i ≤ l.length ∧ i ≤ 17 ∧ ∀ j, j < i → okA (l.getD j default) = true }) 300 (fun i => [.i (H Int fun _ => (i.1 : Nat))]) (fun i => l.length - i.1) (⟨0, by omega, by omega, by omega⟩) ?_ ?_
  · (conv in matchSt _ _ _ _ => cbv); simp only [AllG, AllP, and_true, hH, stdH, ncast, Int.ofNat_eq_natCast, vrow_I, Arm.eta2, Fld.eta, Grp.eta]
    exact ⟨rfl, RowsEq.self okRA⟩
  · intro I hI i
    conv in Fin.chk _ _ => cbv
    try simp only [Plain_rowsA, Plain_rowsB, Plain_rowsF, Plain_rowsG, Plain_rowsI, Plain_rowsS, Plain_rowsU, Fin.satC_ret, Fin.satC_br, Fin.satC_need, Fin.satC_again, AllP, and_true, true_and, upd, List.length_nil, List.length_cons, Nat.zero_add, if_true, ncast, Int.ofNat_eq_natCast]
    obtain ⟨i, hi, hi2, hj⟩ := i
    refine ⟨fun h1 => ⟨?_, fun h2 => ?_, fun h2 => ?_⟩, fun h1 => ?_⟩
    · simp only [hH, stdH, Int.toNat_natCast] at h1
      have h1 := and_c2 h1
      try simp only [hH, stdH, decide_eq_true_eq, decide_eq_false_iff_not, Bool.not_eq_true', Bool.not_eq_false', peta, ncast, Int.ofNat_eq_natCast, beq_iff_eq, bne_iff_ne, beq_eq_false_iff_ne, bne_eq_false_iff_eq, ne_eq, Classical.not_not, Int.toNat_natCast, vrow_I, Arm.eta2, Fld.eta, Grp.eta]
      omega
    · simp only [hH, stdH, Int.toNat_natCast] at h1
      have h1 := and_c2 h1
      simp only [hH, stdH, decide_eq_true_eq, decide_eq_false_iff_not, Bool.not_eq_true', Bool.not_eq_false', peta, ncast, Int.ofNat_eq_natCast, beq_iff_eq, bne_iff_ne, beq_eq_false_iff_ne, bne_eq_false_iff_eq, ne_eq, Classical.not_not, Int.toNat_natCast, vrow_I, Arm.eta2, Fld.eta, Grp.eta] at h2
      try simp only [hH, stdH, decide_eq_true_eq, decide_eq_false_iff_not, Bool.not_eq_true', Bool.not_eq_false', peta, ncast, Int.ofNat_eq_natCast, beq_iff_eq, bne_iff_ne, beq_eq_false_iff_ne, bne_eq_false_iff_eq, ne_eq, Classical.not_not, Int.toNat_natCast, vrow_I, Arm.eta2, Fld.eta, Grp.eta]
      unfold okLs
      have : (l.any fun y => !okA y) = true := List.any_eq_true.2 ⟨_, getD_mem (show i < l.length by omega), by rw [h2]; rfl⟩
      rw [this]
      cases decide ((l.length : Int) ≤ 16) <;> rfl
    · simp only [hH, stdH, Int.toNat_natCast] at h1
      have h1 := and_c2 h1
      simp only [hH, stdH, decide_eq_true_eq, decide_eq_false_iff_not, Bool.not_eq_true', Bool.not_eq_false', peta, ncast, Int.ofNat_eq_natCast, beq_iff_eq, bne_iff_ne, beq_eq_false_iff_ne, bne_eq_false_iff_eq, ne_eq, Classical.not_not, Int.toNat_natCast, vrow_I, Arm.eta2, Fld.eta, Grp.eta] at h2
      refine ⟨⟨i + 1, by omega, by omega, fun j hj' => ?_⟩, by simp only; omega, ?_⟩
      · rcases Nat.lt_succ_iff_lt_or_eq.1 hj' with h | rfl
        · exact hj j h
        · exact h2
      · rw [hI]
        (conv in matchSt _ _ _ _ => cbv); simp only [AllG, AllP, and_true, hH, stdH, ncast, Int.ofNat_eq_natCast, vrow_I, Arm.eta2, Fld.eta, Grp.eta]
        rw [w1 (by omega)]
        (repeat' (first | rfl | trivial | exact RowsEq.self okRA | exact RowsEq.ofT okRA rfl (Shp_zero _) rfl | exact RowsEq.snoc okRA rfl | exact RowsEq.self okI | exact RowsEq.self okRA | exact List.length_append | refine And.intro ?_ ?_))
    · simp only [hH, stdH, Int.toNat_natCast] at h1
      have h1 := and_n2 h1
      try simp only [hH, stdH, decide_eq_true_eq, decide_eq_false_iff_not, Bool.not_eq_true', Bool.not_eq_false', peta, ncast, Int.ofNat_eq_natCast, beq_iff_eq, bne_iff_ne, beq_eq_false_iff_ne, bne_eq_false_iff_eq, ne_eq, Classical.not_not, Int.toNat_natCast, vrow_I, Arm.eta2, Fld.eta, Grp.eta]
      unfold okLs
      by_cases hl : (l.length : Int) ≤ 16
      · have : (l.any fun y => !okA y) = false := none_any default fun j q => by rw [hj j (by omega)]; rfl
        rw [decide_eq_true hl, this]; rfl
      · rw [decide_eq_false hl]; rfl
noncomputable def e_l15List : Entry := pureE 29 fun H a => match a with
  | [.vec 15 ln lf] => some (.lit (.bool (H Bool fun _ => okLs (Tl rowA ln lf))), [H Prop fun _ => Shp rowA ln lf, H Prop fun _ => (Tl rowA ln lf).length ≤ 100])
  | _ => none
theorem eok_l15List : EntryOk Try.prog e_l15List := pureM_ok (by unfold isBody; kernel_rfl) (by
  intro a r ob e hob
  split at e
  · rename_i ln lf
    simp only [Option.some.injEq, Prod.mk.injEq] at e
    obtain ⟨rfl, rfl⟩ := e
    exact ConN.args (.cons (.toT okRA rfl hob.1) .nil) (c_l15List (Tl rowA ln lf) hob.2.1)
  · simp at e)
theorem c_nearS (l : List Arm) (a : Arm) (h0 : l.length ≤ 100) : ConN Try.prog 8 [.vec 15 (stdH Nat fun _ => (l).length) (rowsA stdH fun _ => l), aT rowA stdH fun _ => a] [] 0 (.tup [.lit (.int .i64 (stdH Int fun _ => nrI l a)), .lit (.int .i64 (stdH Int fun _ => nrN l a)), .lit (.bool (stdH Bool fun _ => nrO l a))]) [] [] := by
  have hB : Base Try.prog (tabΓ [e_l15List, e_l5Good, e_l15Count]) tabO := base_of tabOkO (ents_cons eok_l15List <| ents_cons eok_l5Good <| ents_cons eok_l15Count <| ents_nil)
  refine con_m (N := 49) hB (draw_ok hB mixed) Try.func8 rfl rfl (fun H => [.vec 15 (H Nat fun _ => (l).length) (rowsA H fun _ => l), aT rowA H fun _ => a]) (fun _ => []) 0 (fun H => .tup [.lit (.int .i64 (H Int fun _ => nrI l a)), .lit (.int .i64 (H Int fun _ => nrN l a)), .lit (.bool (H Bool fun _ => nrO l a))]) (fun H => []) (fun _ => []) 300 (by simp) (fun x hx => ?_) (by simp [lk]) (by omega) (by simp) ?_
  · simp only [List.mem_cons, List.not_mem_nil, or_false] at hx
    rcases hx with rfl | rfl
    · exact vl_bl okRA l _
    · exact aT_bl okRA _ _
  intro X hX hX0 H hH
  conv in Fin.chk _ _ => cbv
  try simp only [Plain_rowsA, Plain_rowsB, Plain_rowsF, Plain_rowsG, Plain_rowsI, Plain_rowsS, Plain_rowsU, Fin.satC_ret, Fin.satC_br, Fin.satC_need, Fin.satC_again, AllP, and_true, true_and, upd, List.length_nil, List.length_cons, Nat.zero_add, if_true, ncast, Int.ofNat_eq_natCast]
  refine ⟨⟨?_, ?_⟩, fun h => ?_, fun h => ?_⟩
  · try simp only [hH, stdH, decide_eq_true_eq, decide_eq_false_iff_not, Bool.not_eq_true', Bool.not_eq_false', peta, ncast, Int.ofNat_eq_natCast, beq_iff_eq, bne_iff_ne, beq_eq_false_iff_ne, bne_eq_false_iff_eq, ne_eq, Classical.not_not, Int.toNat_natCast, vrow_I, Arm.eta2, Fld.eta, Grp.eta]
    exact Shp_A _ _
  · try simp only [hH, stdH, decide_eq_true_eq, decide_eq_false_iff_not, Bool.not_eq_true', Bool.not_eq_false', peta, ncast, Int.ofNat_eq_natCast, beq_iff_eq, bne_iff_ne, beq_eq_false_iff_ne, bne_eq_false_iff_eq, ne_eq, Classical.not_not, Int.toNat_natCast, vrow_I, Arm.eta2, Fld.eta, Grp.eta]
    simp only [Tl_A]; omega
  · simp only [hH, stdH, Int.toNat_natCast] at h
    simp only [Tl_A, Arm.eta2, Fld.eta, Grp.eta] at h
    rw [nr_cond, Bool.not_eq_true'] at h
    obtain ⟨e1, e2⟩ := nr_no h
    rw [h, e1, e2]
    try simp only [hH, stdH, decide_eq_true_eq, decide_eq_false_iff_not, Bool.not_eq_true', Bool.not_eq_false', peta, ncast, Int.ofNat_eq_natCast, beq_iff_eq, bne_iff_ne, beq_eq_false_iff_ne, bne_eq_false_iff_eq, ne_eq, Classical.not_not, Int.toNat_natCast, vrow_I, Arm.eta2, Fld.eta, Grp.eta]
    exact ⟨trivial, trivial, trivial⟩
  · simp only [hH, stdH, Int.toNat_natCast] at h
    simp only [Tl_A, Arm.eta2, Fld.eta, Grp.eta] at h
    rw [nr_cond, Bool.not_eq_false'] at h
    obtain ⟨hl, ha, hp⟩ := nrO_in h
    have b1 : bst (fun y => dS y a) l 1 = 0 := if_neg (Int.lt_irrefl _)
    refine loop_a hB (draw_ok hB mixed) hX hX0 hH false (ι := { i : Nat // 1 ≤ i ∧ i ≤ l.length }) 300 (fun i => [.i (H Int fun _ => (bst (fun y => dS y a) l i.1 : Nat)), .i (H Int fun _ => (i.1 : Nat))]) (fun i => l.length - i.1) (⟨1, by omega, by omega⟩) ?_ ?_
    · (conv in matchSt _ _ _ _ => cbv); simp only [AllG, AllP, and_true, hH, stdH, ncast, Int.ofNat_eq_natCast, vrow_I, Arm.eta2, Fld.eta, Grp.eta]
      rw [b1]
      (repeat' (first | trivial | exact RowsEq.self okRA | rfl | refine And.intro ?_ ?_))
    · intro I hI i
      conv in Fin.chk _ _ => cbv
      try simp only [Plain_rowsA, Plain_rowsB, Plain_rowsF, Plain_rowsG, Plain_rowsI, Plain_rowsS, Plain_rowsU, Fin.satC_ret, Fin.satC_br, Fin.satC_need, Fin.satC_again, AllP, and_true, true_and, upd, List.length_nil, List.length_cons, Nat.zero_add, if_true, ncast, Int.ofNat_eq_natCast]
      obtain ⟨i, hi0, hi⟩ := i
      have hb := bst_le (fun y => dS y a) l i hi0
      refine ⟨fun h1 => ⟨?_, ?_, fun h2 => ?_, fun h2 => ?_⟩, fun h1 => ?_⟩
      · simp only [hH, stdH, decide_eq_true_eq, decide_eq_false_iff_not, Bool.not_eq_true', Bool.not_eq_false', peta, ncast, Int.ofNat_eq_natCast, beq_iff_eq, bne_iff_ne, beq_eq_false_iff_ne, bne_eq_false_iff_eq, ne_eq, Classical.not_not, Int.toNat_natCast, vrow_I, Arm.eta2, Fld.eta, Grp.eta] at h1 ⊢
        omega
      · try simp only [hH, stdH, decide_eq_true_eq, decide_eq_false_iff_not, Bool.not_eq_true', Bool.not_eq_false', peta, ncast, Int.ofNat_eq_natCast, beq_iff_eq, bne_iff_ne, beq_eq_false_iff_ne, bne_eq_false_iff_eq, ne_eq, Classical.not_not, Int.toNat_natCast, vrow_I, Arm.eta2, Fld.eta, Grp.eta]
        omega
      · simp only [hH, stdH, decide_eq_true_eq, decide_eq_false_iff_not, Bool.not_eq_true', Bool.not_eq_false', peta, ncast, Int.ofNat_eq_natCast, beq_iff_eq, bne_iff_ne, beq_eq_false_iff_ne, bne_eq_false_iff_eq, ne_eq, Classical.not_not, Int.toNat_natCast, vrow_I, Arm.eta2, Fld.eta, Grp.eta] at h1 h2
        have eb : bst (fun y => dS y a) l (i + 1) = i := if_pos h2
        refine ⟨⟨i + 1, by omega, by omega⟩, by simp only; omega, ?_⟩
        rw [hI]
        (conv in matchSt _ _ _ _ => cbv); simp only [AllG, AllP, and_true, hH, stdH, ncast, Int.ofNat_eq_natCast, vrow_I, Arm.eta2, Fld.eta, Grp.eta]
        rw [w1 (by omega), eb]
        (repeat' (first | trivial | exact RowsEq.self okRA | rfl | refine And.intro ?_ ?_))
      · simp only [hH, stdH, decide_eq_true_eq, decide_eq_false_iff_not, Bool.not_eq_true', Bool.not_eq_false', peta, ncast, Int.ofNat_eq_natCast, beq_iff_eq, bne_iff_ne, beq_eq_false_iff_ne, bne_eq_false_iff_eq, ne_eq, Classical.not_not, Int.toNat_natCast, vrow_I, Arm.eta2, Fld.eta, Grp.eta] at h1 h2
        have eb : bst (fun y => dS y a) l (i + 1) = bst (fun y => dS y a) l i := if_neg h2
        refine ⟨⟨i + 1, by omega, by omega⟩, by simp only; omega, ?_⟩
        rw [hI]
        (conv in matchSt _ _ _ _ => cbv); simp only [AllG, AllP, and_true, hH, stdH, ncast, Int.ofNat_eq_natCast, vrow_I, Arm.eta2, Fld.eta, Grp.eta]
        rw [w1 (by omega), eb]
        (repeat' (first | trivial | exact RowsEq.self okRA | rfl | refine And.intro ?_ ?_))
      · simp only [hH, stdH, decide_eq_true_eq, decide_eq_false_iff_not, Bool.not_eq_true', Bool.not_eq_false', peta, ncast, Int.ofNat_eq_natCast, beq_iff_eq, bne_iff_ne, beq_eq_false_iff_ne, bne_eq_false_iff_eq, ne_eq, Classical.not_not, Int.toNat_natCast, vrow_I, Arm.eta2, Fld.eta, Grp.eta] at h1
        obtain rfl : i = l.length := by omega
        obtain ⟨e1, e2⟩ := nr_yes h
        rw [h, e1, e2]
        refine ⟨?_, ?_, ?_, ?_⟩
        · try simp only [hH, stdH, decide_eq_true_eq, decide_eq_false_iff_not, Bool.not_eq_true', Bool.not_eq_false', peta, ncast, Int.ofNat_eq_natCast, beq_iff_eq, bne_iff_ne, beq_eq_false_iff_ne, bne_eq_false_iff_eq, ne_eq, Classical.not_not, Int.toNat_natCast, vrow_I, Arm.eta2, Fld.eta, Grp.eta]
          omega
        all_goals try simp only [hH, stdH, decide_eq_true_eq, decide_eq_false_iff_not, Bool.not_eq_true', Bool.not_eq_false', peta, ncast, Int.ofNat_eq_natCast, beq_iff_eq, bne_iff_ne, beq_eq_false_iff_ne, bne_eq_false_iff_eq, ne_eq, Classical.not_not, Int.toNat_natCast, vrow_I, Arm.eta2, Fld.eta, Grp.eta]
        all_goals first | trivial | rfl
noncomputable def e_nearS : Entry := pureE 8 fun H a => match a with
  | [.vec 15 ln lf, .agg [.lit (.int .i64 a0), .lit (.int .i64 a1), .lit (.int .i64 a2), .lit (.int .i64 a3), .lit (.int .i64 a4), .lit (.int .i64 a5), .lit (.int .i64 a6), .lit (.int .i64 a7), .lit (.int .i64 a8), .lit (.int .i64 a9), .lit (.int .i64 a10), .lit (.int .i64 a11), .lit (.int .i64 a12), .lit (.int .i64 a13), .lit (.int .i64 a14)]] => some (.tup [.lit (.int .i64 (H Int fun _ => nrI (Tl rowA ln lf) (⟨⟨a0, a1, a2, a3⟩, a4, a5, a6, ⟨a7, a8, a9, a10⟩, ⟨a11, a12, a13, a14⟩⟩ : Arm))), .lit (.int .i64 (H Int fun _ => nrN (Tl rowA ln lf) (⟨⟨a0, a1, a2, a3⟩, a4, a5, a6, ⟨a7, a8, a9, a10⟩, ⟨a11, a12, a13, a14⟩⟩ : Arm))), .lit (.bool (H Bool fun _ => nrO (Tl rowA ln lf) (⟨⟨a0, a1, a2, a3⟩, a4, a5, a6, ⟨a7, a8, a9, a10⟩, ⟨a11, a12, a13, a14⟩⟩ : Arm)))], [H Prop fun _ => Shp rowA ln lf, H Prop fun _ => (Tl rowA ln lf).length ≤ 100])
  | _ => none
theorem eok_nearS : EntryOk Try.prog e_nearS := pureM_ok (by unfold isBody; kernel_rfl) (by
  intro a r ob e hob
  split at e
  · rename_i ln lf a0 a1 a2 a3 a4 a5 a6 a7 a8 a9 a10 a11 a12 a13 a14
    simp only [Option.some.injEq, Prod.mk.injEq] at e
    obtain ⟨rfl, rfl⟩ := e
    exact ConN.args (.cons (.toT okRA rfl hob.1) (.cons .rfl .nil)) (c_nearS (Tl rowA ln lf) (⟨⟨a0, a1, a2, a3⟩, a4, a5, a6, ⟨a7, a8, a9, a10⟩, ⟨a11, a12, a13, a14⟩⟩ : Arm) hob.2.1)
  · simp at e)

end Go.Proofs.Ythilcnfnbgbkdaa.AM
