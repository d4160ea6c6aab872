/- Lemmas and contracts (Cls); conditions: none. -/
import Derived.Test.YtigkdbhcjjjjkaaK04
import Derived.Test.YtigkdbhcjjjjkaaK13
import Derived.Test.YtigkdbhcjjjjkaaK21
set_option linter.unusedVariables false
set_option linter.unusedSimpArgs false
set_option linter.unusedVariables false
set_option linter.unusedSimpArgs false
set_option maxRecDepth 100000
set_option maxHeartbeats 4000000
set_option cbv.maxSteps 3000000
namespace Go.Proofs.Ytigkdbhcjjjjkaa.AM
/- Clusters by the reference; conditions: none. -/
theorem c_l1HasZ (list : List Int) (x : Int) (h0 : list.length ≤ 2000000) : ConN Try.prog 32 [.vec 1 (stdH Nat fun _ => (list).length) (rowsI stdH fun _ => list), .lit (.int .i64 x)] [] 0 (.lit (.bool (stdH Bool fun _ => list.contains x))) [] [] := by
  have hB : Base Try.prog (tabΓ []) tab := base_of tabOk (ents_nil)
  refine con_m (N := 18) hB (draw_ok hB mixed) Try.func32 rfl rfl (fun H => [.vec 1 (H Nat fun _ => (list).length) (rowsI H fun _ => list), .lit (.int .i64 x)]) (fun _ => []) 0 (fun H => .lit (.bool (H Bool fun _ => list.contains x))) (fun H => []) (fun _ => []) 100 (by simp) (fun x hx => ?_) (by simp [lk]) (by omega) (by simp) ?_
  · simp only [List.mem_cons, List.not_mem_nil, or_false] at hx
    rcases hx with rfl | rfl
    · exact vl_bl okI list _
    · exact .lit
  intro X hX hX0 H hH
  conv in Fin.chk _ _ => cbv
  try simp only [Plain_rowsA, Plain_rowsB, Plain_rowsF, Plain_rowsG, Plain_rowsI, Plain_rowsS, Plain_rowsU, Fin.satC_ret, Fin.satC_br, Fin.satC_need, Fin.satC_again, AllP, and_true, true_and, upd, List.length_nil, List.length_cons, Nat.zero_add, if_true, ncast, Int.ofNat_eq_natCast]
  refine loop_a hB (draw_ok hB mixed) hX hX0 hH false (ι := { i : Nat // i ≤ list.length ∧ ∀ j, j < i → list.getD j 0 ≠ x }) 100 (fun i => [.i (H Int fun _ => (i.1 : Nat))]) (fun i => list.length - i.1) (⟨0, by omega, by omega⟩) ?_ ?_
  · (conv in matchSt _ _ _ _ => cbv); simp only [AllG, AllP, and_true, hH, stdH, Nat.le_refl, ncast, Int.ofNat_eq_natCast, vrow_I, Arm.eta2, Fld.eta, Grp.eta]
    (repeat' (with_reducible refine And.intro ?_ ?_)) <;> (first | exact True.intro | exact Eq.refl _ | exact RowsEq.self okI)
  · intro I hI i
    conv in Fin.chk _ _ => cbv
    try simp only [Plain_rowsA, Plain_rowsB, Plain_rowsF, Plain_rowsG, Plain_rowsI, Plain_rowsS, Plain_rowsU, Fin.satC_ret, Fin.satC_br, Fin.satC_need, Fin.satC_again, AllP, and_true, true_and, upd, List.length_nil, List.length_cons, Nat.zero_add, if_true, ncast, Int.ofNat_eq_natCast]
    obtain ⟨i, hi, hj⟩ := i
    refine ⟨fun h1 => ?_, fun h1 => ?_⟩
    · simp only [hH, stdH, Nat.le_refl, decide_eq_true_eq, decide_eq_false_iff_not, Bool.not_eq_true', Bool.not_eq_false', peta, ncast, Int.ofNat_eq_natCast, beq_iff_eq, bne_iff_ne, beq_eq_false_iff_ne, bne_eq_false_iff_eq, ne_eq, Classical.not_not, Int.toNat_natCast, vrow_I, Arm.eta2, Fld.eta, Grp.eta] at h1
      refine ⟨?_, fun h2 => ?_, fun h2 => ?_⟩
      · try simp only [hH, stdH, Nat.le_refl, decide_eq_true_eq, decide_eq_false_iff_not, Bool.not_eq_true', Bool.not_eq_false', peta, ncast, Int.ofNat_eq_natCast, beq_iff_eq, bne_iff_ne, beq_eq_false_iff_ne, bne_eq_false_iff_eq, ne_eq, Classical.not_not, Int.toNat_natCast, vrow_I, Arm.eta2, Fld.eta, Grp.eta]
        omega
      · simp only [hH, stdH, Nat.le_refl, decide_eq_true_eq, decide_eq_false_iff_not, Bool.not_eq_true', Bool.not_eq_false', peta, ncast, Int.ofNat_eq_natCast, beq_iff_eq, bne_iff_ne, beq_eq_false_iff_ne, bne_eq_false_iff_eq, ne_eq, Classical.not_not, Int.toNat_natCast, vrow_I, Arm.eta2, Fld.eta, Grp.eta] at h2 ⊢
        rw [List.elem_eq_true_of_mem]
        rw [← h2]; exact getD_mem (by omega)
      · simp only [hH, stdH, Nat.le_refl, decide_eq_true_eq, decide_eq_false_iff_not, Bool.not_eq_true', Bool.not_eq_false', peta, ncast, Int.ofNat_eq_natCast, beq_iff_eq, bne_iff_ne, beq_eq_false_iff_ne, bne_eq_false_iff_eq, ne_eq, Classical.not_not, Int.toNat_natCast, vrow_I, Arm.eta2, Fld.eta, Grp.eta] at h2
        refine ⟨⟨i + 1, by omega, fun j hj' => ?_⟩, by simp only; omega, ?_⟩
        · rcases Nat.lt_succ_iff_lt_or_eq.1 hj' with h | rfl
          · exact hj j h
          · exact h2
        · rw [hI]
          (conv in matchSt _ _ _ _ => cbv); simp only [AllG, AllP, and_true, hH, stdH, Nat.le_refl, ncast, Int.ofNat_eq_natCast, vrow_I, Arm.eta2, Fld.eta, Grp.eta]
          rw [w1 (by omega)]
          (repeat' (with_reducible refine And.intro ?_ ?_)) <;> (first | exact True.intro | exact Eq.refl _ | exact RowsEq.self okI)
    · simp only [hH, stdH, Nat.le_refl, decide_eq_true_eq, decide_eq_false_iff_not, Bool.not_eq_true', Bool.not_eq_false', peta, ncast, Int.ofNat_eq_natCast, beq_iff_eq, bne_iff_ne, beq_eq_false_iff_ne, bne_eq_false_iff_eq, ne_eq, Classical.not_not, Int.toNat_natCast, vrow_I, Arm.eta2, Fld.eta, Grp.eta] at h1
      obtain rfl : i = list.length := by omega
      try simp only [hH, stdH, Nat.le_refl, decide_eq_true_eq, decide_eq_false_iff_not, Bool.not_eq_true', Bool.not_eq_false', peta, ncast, Int.ofNat_eq_natCast, beq_iff_eq, bne_iff_ne, beq_eq_false_iff_ne, bne_eq_false_iff_eq, ne_eq, Classical.not_not, Int.toNat_natCast, vrow_I, Arm.eta2, Fld.eta, Grp.eta]
      simpa using not_mem_getD hj
noncomputable def e_l1HasZ : Entry := pureE 32 fun H a => match a with
  | [.vec 1 listn listf, .lit (.int .i64 x)] => some (.lit (.bool (H Bool fun _ => (Tl rowI listn listf).contains x)), [H Prop fun _ => Shp rowI listn listf, H Prop fun _ => (Tl rowI listn listf).length ≤ 2000000])
  | _ => none
theorem eok_l1HasZ : EntryOk Try.prog e_l1HasZ := pureM_ok (by unfold isBody; kernel_rfl) (by
  intro a r ob e hob
  split at e
  · rename_i listn listf x
    simp only [Option.some.injEq, Prod.mk.injEq] at e
    obtain ⟨rfl, rfl⟩ := e
    exact ConN.args (.cons (.toT okI rfl hob.1) (.cons .rfl .nil)) (c_l1HasZ (Tl rowI listn listf) x hob.2.1)
  · simp at e)
theorem c_clustersS (l : List Arm) (t : Int) (h0 : l.length ≤ 100) : ConN Try.prog 8 [.vec 15 (stdH Nat fun _ => (l).length) (rowsA stdH fun _ => l), .lit (.int .i64 t)] [] 0 (.tup [.vec 1 (stdH Nat fun _ => (if okCl l t then cluZ l t l.length else []).length) (rowsL rowsI 1 stdH fun _ => if okCl l t then cluZ l t l.length else []), .lit (.bool (stdH Bool fun _ => okCl l t))]) [] [] := by
  have hB : Base Try.prog (tabΓ [e_l15List, e_l1In, e_l15Count, e_l1HasZ, e_putZO]) tabB := base_of tabOkB (ents_cons eok_l15List <| ents_cons eok_l1In <| ents_cons eok_l15Count <| ents_cons eok_l1HasZ <| ents_cons eok_putZO <| ents_nil)
  refine con_mN 31 (N := 93) hB (draw_ok hB mixed) Try.func8 rfl rfl (fun H => [.vec 15 (H Nat fun _ => (l).length) (rowsA H fun _ => l), .lit (.int .i64 t)]) (fun _ => []) 0 (fun H => .tup [.vec 1 (H Nat fun _ => (if okCl l t then cluZ l t l.length else []).length) (rowsL rowsI 1 H fun _ => if okCl l t then cluZ l t l.length else []), .lit (.bool (H Bool fun _ => okCl l t))]) (fun H => []) (fun _ => []) 300 (by simp) (fun x hx => ?_) (by simp [lk]) (by omega) (by simp) ?_
  · simp only [List.mem_cons, List.not_mem_nil, or_false] at hx
    rcases hx with rfl | rfl
    · exact vl_bl okRA l _
    · exact .lit
  intro X hX hX0 H hH
  conv in Fin.chk _ _ => cbv
  try simp only [Plain_rowsA, Plain_rowsB, Plain_rowsF, Plain_rowsG, Plain_rowsI, Plain_rowsS, Plain_rowsU, Fin.satC_ret, Fin.satC_br, Fin.satC_need, Fin.satC_again, AllP, and_true, true_and, upd, List.length_nil, List.length_cons, Nat.zero_add, if_true, ncast, Int.ofNat_eq_natCast]
  refine ⟨⟨?_, ?_⟩, fun h => ?_, fun h => ?_⟩
  · try simp only [hH, stdH, Nat.le_refl, decide_eq_true_eq, decide_eq_false_iff_not, Bool.not_eq_true', Bool.not_eq_false', peta, ncast, Int.ofNat_eq_natCast, beq_iff_eq, bne_iff_ne, beq_eq_false_iff_ne, bne_eq_false_iff_eq, ne_eq, Classical.not_not, Int.toNat_natCast, vrow_I, Arm.eta2, Fld.eta, Grp.eta]
    exact Shp_A _ _
  · try simp only [hH, stdH, Nat.le_refl, decide_eq_true_eq, decide_eq_false_iff_not, Bool.not_eq_true', Bool.not_eq_false', peta, ncast, Int.ofNat_eq_natCast, beq_iff_eq, bne_iff_ne, beq_eq_false_iff_ne, bne_eq_false_iff_eq, ne_eq, Classical.not_not, Int.toNat_natCast, vrow_I, Arm.eta2, Fld.eta, Grp.eta]
    simp only [Tl_A]; omega
  · simp only [hH, stdH, Int.toNat_natCast] at h
    simp only [Tl_A] at h
    have hc : okCl l t = false := by
      unfold okCl
      cases e1 : okLs l <;> cases e2 : inB t 0 10 <;> rw [e1, e2] at h <;> first | rfl | cases h
    rw [hc]
    try simp only [hH, stdH, Nat.le_refl, decide_eq_true_eq, decide_eq_false_iff_not, Bool.not_eq_true', Bool.not_eq_false', peta, ncast, Int.ofNat_eq_natCast, beq_iff_eq, bne_iff_ne, beq_eq_false_iff_ne, bne_eq_false_iff_eq, ne_eq, Classical.not_not, Int.toNat_natCast, vrow_I, Arm.eta2, Fld.eta, Grp.eta]
    exact ⟨trivial, (RowsEq.ofT (okL okI) rfl (Shp_zero _) rfl).fz⟩
  · simp only [hH, stdH, Int.toNat_natCast] at h
    simp only [Tl_A] at h
    have hc : okCl l t = true := by
      unfold okCl
      cases e1 : okLs l <;> cases e2 : inB t 0 10 <;> rw [e1, e2] at h <;> first | rfl | cases h
    rw [hc]
    simp only [if_true]
    obtain ⟨hls, _⟩ := Bool.and_eq_true_iff.1 hc
    refine loop_aN hB (draw_ok hB mixed) hX hX0 hH false 31 (ι := { i : Nat // i ≤ l.length }) 300 (fun i => [.r (H Nat fun _ => (cluZ l t i.1).length) (rowsL rowsI 1 H fun _ => cluZ l t i.1), .r (H Nat fun _ => ((cluZ l t i.1).flatten).length) (rowsI H fun _ => (cluZ l t i.1).flatten), .i (H Int fun _ => (i.1 : Nat))]) (fun i => l.length - i.1) (⟨0, by omega⟩) ?_ ?_
    · (conv in matchStN _ _ _ _ _ => cbv); simp only [AllG, AllP, and_true, hH, stdH, Nat.le_refl, ncast, Int.ofNat_eq_natCast, vrow_I, Arm.eta2, Fld.eta, Grp.eta]
      exact ⟨RowsEq.ofT okI rfl (Shp_zero _) rfl, (RowsEq.ofT (okL okI) rfl (Shp_zero _) rfl).fz, rfl, rfl, rfl, trivial, trivial, RowsEq.self okRA⟩
    · intro I hI i
      conv in Fin.chk _ _ => cbv
      try simp only [Plain_rowsA, Plain_rowsB, Plain_rowsF, Plain_rowsG, Plain_rowsI, Plain_rowsS, Plain_rowsU, Fin.satC_ret, Fin.satC_br, Fin.satC_need, Fin.satC_again, AllP, and_true, true_and, upd, List.length_nil, List.length_cons, Nat.zero_add, if_true, ncast, Int.ofNat_eq_natCast]
      obtain ⟨i, hi⟩ := i
      have hcl := cluB_ok (adjA_sym l t) i hi
      have hfl := cluZ_flen l t hi
      have hrl := cluZ_rlen l t i
      refine ⟨fun h1 => ⟨⟨?_, ?_, ?_⟩, fun h2 => ?_, fun h2 => ?_⟩, fun h1 => ?_⟩
      · try simp only [hH, stdH, Nat.le_refl, decide_eq_true_eq, decide_eq_false_iff_not, Bool.not_eq_true', Bool.not_eq_false', peta, ncast, Int.ofNat_eq_natCast, beq_iff_eq, bne_iff_ne, beq_eq_false_iff_ne, bne_eq_false_iff_eq, ne_eq, Classical.not_not, Int.toNat_natCast, vrow_I, Arm.eta2, Fld.eta, Grp.eta]
        exact fun j _ => rfl
      · try simp only [hH, stdH, Nat.le_refl, decide_eq_true_eq, decide_eq_false_iff_not, Bool.not_eq_true', Bool.not_eq_false', peta, ncast, Int.ofNat_eq_natCast, beq_iff_eq, bne_iff_ne, beq_eq_false_iff_ne, bne_eq_false_iff_eq, ne_eq, Classical.not_not, Int.toNat_natCast, vrow_I, Arm.eta2, Fld.eta, Grp.eta]
        exact Shp_I _ _
      · try simp only [hH, stdH, Nat.le_refl, decide_eq_true_eq, decide_eq_false_iff_not, Bool.not_eq_true', Bool.not_eq_false', peta, ncast, Int.ofNat_eq_natCast, beq_iff_eq, bne_iff_ne, beq_eq_false_iff_ne, bne_eq_false_iff_eq, ne_eq, Classical.not_not, Int.toNat_natCast, vrow_I, Arm.eta2, Fld.eta, Grp.eta]
        rw [Tl_I]
        omega
      · simp only [hH, stdH, Nat.le_refl, decide_eq_true_eq, decide_eq_false_iff_not, Bool.not_eq_true', Bool.not_eq_false', peta, ncast, Int.ofNat_eq_natCast, beq_iff_eq, bne_iff_ne, beq_eq_false_iff_ne, bne_eq_false_iff_eq, ne_eq, Classical.not_not, Int.toNat_natCast, vrow_I, Arm.eta2, Fld.eta, Grp.eta] at h1
        simp only [hH, stdH, Nat.le_refl, decide_eq_true_eq, decide_eq_false_iff_not, Bool.not_eq_true', Bool.not_eq_false', peta, ncast, Int.ofNat_eq_natCast, beq_iff_eq, bne_iff_ne, beq_eq_false_iff_ne, bne_eq_false_iff_eq, ne_eq, Classical.not_not, Int.toNat_natCast, vrow_I, Arm.eta2, Fld.eta, Grp.eta] at h2
        rw [Tl_I] at h2
        change (cluZ l t i).flatten.contains (i : Int) = true at h2
        rw [cluZ_has l t hi] at h2
        obtain ⟨k1, k2⟩ := cluZ_no h2
        refine ⟨⟨i + 1, by omega⟩, by simp only; omega, ?_⟩
        rw [hI]
        (conv in matchStN _ _ _ _ _ => cbv); simp only [AllG, AllP, and_true, hH, stdH, Nat.le_refl, ncast, Int.ofNat_eq_natCast, vrow_I, Arm.eta2, Fld.eta, Grp.eta]
        rw [w1 (by omega), k1]
        (repeat' (with_reducible refine And.intro ?_ ?_)) <;> (first | exact True.intro | exact Eq.refl _ | exact RowsFz.self (okL okI) | exact RowsEq.self okB' | exact RowsEq.self okI | exact RowsEq.self okRA)
      · simp only [hH, stdH, Nat.le_refl, decide_eq_true_eq, decide_eq_false_iff_not, Bool.not_eq_true', Bool.not_eq_false', peta, ncast, Int.ofNat_eq_natCast, beq_iff_eq, bne_iff_ne, beq_eq_false_iff_ne, bne_eq_false_iff_eq, ne_eq, Classical.not_not, Int.toNat_natCast, vrow_I, Arm.eta2, Fld.eta, Grp.eta] at h1
        simp only [hH, stdH, Nat.le_refl, decide_eq_true_eq, decide_eq_false_iff_not, Bool.not_eq_true', Bool.not_eq_false', peta, ncast, Int.ofNat_eq_natCast, beq_iff_eq, bne_iff_ne, beq_eq_false_iff_ne, bne_eq_false_iff_eq, ne_eq, Classical.not_not, Int.toNat_natCast, vrow_I, Arm.eta2, Fld.eta, Grp.eta] at h2
        rw [Tl_I] at h2
        change (cluZ l t i).flatten.contains (i : Int) = false at h2
        rw [cluZ_has l t hi] at h2
        obtain ⟨k1, k2⟩ := cluZ_yes h2
        have h1 : i < l.length := by omega
        refine loop_cN hB (draw_ok hB mixed) hX hX0 hH [0, 1, 4, 5, 6, 7, 8, 9, 10] 31 (ι := { p : Nat × List Nat × Nat // Mid (adjA l t) l.length i [] p.1 p.2.1 p.2.2 }) 300 (fun p => [.r (H Nat fun _ => (toZ p.1.2.1).length) (rowsI H fun _ => toZ p.1.2.1), .i (H Int fun _ => (p.1.2.2 : Nat))]) (fun p => l.length - p.1.2.2) (⟨(l.length, [i], 0), Mid.start h1 (by simp)⟩) ?_ ?_
        · (conv in matchStN _ _ _ _ _ => cbv); simp only [AllG, AllP, and_true, hH, stdH, Nat.le_refl, ncast, Int.ofNat_eq_natCast, vrow_I, Arm.eta2, Fld.eta, Grp.eta]
          (repeat' (with_reducible refine And.intro ?_ ?_)) <;> (first | exact True.intro | exact Eq.refl _ | exact RowsFz.self (okL okI) | exact RowsEq.self okB' | exact RowsEq.self okI | exact RowsEq.self okRA | exact RowsEq.oneZ i | exact RowsEq.setB (seenL_set h1))
        · intro I2 hI2 p
          conv in Fin.chk _ _ => cbv
          try simp only [Plain_rowsA, Plain_rowsB, Plain_rowsF, Plain_rowsG, Plain_rowsI, Plain_rowsS, Plain_rowsU, Fin.satC_ret, Fin.satC_br, Fin.satC_need, Fin.satC_again, AllP, and_true, true_and, upd, List.length_nil, List.length_cons, Nat.zero_add, if_true, ncast, Int.ofNat_eq_natCast]
          obtain ⟨⟨f, own, a⟩, hm⟩ := p
          refine ⟨fun h3 => ?_, fun h3 => ?_⟩
          · simp only [hH, stdH, Nat.le_refl, decide_eq_true_eq, decide_eq_false_iff_not, Bool.not_eq_true', Bool.not_eq_false', peta, ncast, Int.ofNat_eq_natCast, beq_iff_eq, bne_iff_ne, beq_eq_false_iff_ne, bne_eq_false_iff_eq, ne_eq, Classical.not_not, Int.toNat_natCast, vrow_I, Arm.eta2, Fld.eta, Grp.eta] at h3
            rw [toZ_len] at h3
            have ha : a < own.length := by omega
            have hx : own.getD a 0 < l.length := hm.b.lt _ (by rw [getN ha]; exact List.getElem_mem ha)
            refine loop_cN hB (draw_ok hB mixed) hX hX0 hH [0, 1, 4, 5, 6, 7, 8, 9, 10, 11] 31 (ι := { k : Nat // k ≤ l.length }) 300 (fun k => [.r (H Nat fun _ => (toZ (rowQ (adjA l t (own.getD a 0)) own k.1)).length) (rowsI H fun _ => toZ (rowQ (adjA l t (own.getD a 0)) own k.1)), .i (H Int fun _ => (k.1 : Nat))]) (fun k => l.length - k.1) (⟨0, Nat.zero_le _⟩) ?_ ?_
            · (conv in matchStN _ _ _ _ _ => cbv); simp only [AllG, AllP, and_true, hH, stdH, Nat.le_refl, ncast, Int.ofNat_eq_natCast, vrow_I, Arm.eta2, Fld.eta, Grp.eta]
              (repeat' (with_reducible refine And.intro ?_ ?_)) <;> (first | exact True.intro | exact Eq.refl _ | exact RowsFz.self (okL okI) | exact RowsEq.self okB' | exact RowsEq.self okI | exact RowsEq.self okRA)
            · intro I3 hI3 k
              conv in Fin.chk _ _ => cbv
              try simp only [Plain_rowsA, Plain_rowsB, Plain_rowsF, Plain_rowsG, Plain_rowsI, Plain_rowsS, Plain_rowsU, Fin.satC_ret, Fin.satC_br, Fin.satC_need, Fin.satC_again, AllP, and_true, true_and, upd, List.length_nil, List.length_cons, Nat.zero_add, if_true, ncast, Int.ofNat_eq_natCast]
              obtain ⟨k, hk⟩ := k
              refine ⟨fun h4 => ?_, fun h4 => ?_⟩
              · simp only [hH, stdH, Nat.le_refl, decide_eq_true_eq, decide_eq_false_iff_not, Bool.not_eq_true', Bool.not_eq_false', peta, ncast, Int.ofNat_eq_natCast, beq_iff_eq, bne_iff_ne, beq_eq_false_iff_ne, bne_eq_false_iff_eq, ne_eq, Classical.not_not, Int.toNat_natCast, vrow_I, Arm.eta2, Fld.eta, Grp.eta] at h4
                have h4 : k < l.length := by omega
                obtain ⟨q1, q2⟩ := rowQ_at (r := adjA l t (own.getD a 0)) (k := k) ha
                have eA : (toZ (rowQ (adjA l t (own.getD a 0)) own k)).getD a 0 = ((own.getD a 0 : Nat) : Int) := by rw [toZ_at q1, q2]
                have hlen := rowQ_len (adjA l t (own.getD a 0)) own k
                have hol : own.length ≤ l.length := nd_len hm.b.nd hm.b.lt
                (repeat' (with_reducible refine And.intro ?_ ?_))
                · try simp only [hH, stdH, Nat.le_refl, decide_eq_true_eq, decide_eq_false_iff_not, Bool.not_eq_true', Bool.not_eq_false', peta, ncast, Int.ofNat_eq_natCast, beq_iff_eq, bne_iff_ne, beq_eq_false_iff_ne, bne_eq_false_iff_eq, ne_eq, Classical.not_not, Int.toNat_natCast, vrow_I, Arm.eta2, Fld.eta, Grp.eta]
                  exact fun j _ => rfl
                · try simp only [hH, stdH, Nat.le_refl, decide_eq_true_eq, decide_eq_false_iff_not, Bool.not_eq_true', Bool.not_eq_false', peta, ncast, Int.ofNat_eq_natCast, beq_iff_eq, bne_iff_ne, beq_eq_false_iff_ne, bne_eq_false_iff_eq, ne_eq, Classical.not_not, Int.toNat_natCast, vrow_I, Arm.eta2, Fld.eta, Grp.eta]
                  exact Shp_I _ _
                · try simp only [hH, stdH, Nat.le_refl, decide_eq_true_eq, decide_eq_false_iff_not, Bool.not_eq_true', Bool.not_eq_false', peta, ncast, Int.ofNat_eq_natCast, beq_iff_eq, bne_iff_ne, beq_eq_false_iff_ne, bne_eq_false_iff_eq, ne_eq, Classical.not_not, Int.toNat_natCast, vrow_I, Arm.eta2, Fld.eta, Grp.eta]
                  rw [Tl_I, toZ_len]
                  omega
                · try simp only [hH, stdH, Nat.le_refl, decide_eq_true_eq, decide_eq_false_iff_not, Bool.not_eq_true', Bool.not_eq_false', peta, ncast, Int.ofNat_eq_natCast, beq_iff_eq, bne_iff_ne, beq_eq_false_iff_ne, bne_eq_false_iff_eq, ne_eq, Classical.not_not, Int.toNat_natCast, vrow_I, Arm.eta2, Fld.eta, Grp.eta]
                  intro _
                  rw [toZ_len]
                  omega
                · try simp only [hH, stdH, Nat.le_refl, decide_eq_true_eq, decide_eq_false_iff_not, Bool.not_eq_true', Bool.not_eq_false', peta, ncast, Int.ofNat_eq_natCast, beq_iff_eq, bne_iff_ne, beq_eq_false_iff_ne, bne_eq_false_iff_eq, ne_eq, Classical.not_not, Int.toNat_natCast, vrow_I, Arm.eta2, Fld.eta, Grp.eta]
                  intro _
                  rw [toZ_len]
                  exact ⟨q1, rfl⟩
                · try simp only [hH, stdH, Nat.le_refl, decide_eq_true_eq, decide_eq_false_iff_not, Bool.not_eq_true', Bool.not_eq_false', peta, ncast, Int.ofNat_eq_natCast, beq_iff_eq, bne_iff_ne, beq_eq_false_iff_ne, bne_eq_false_iff_eq, ne_eq, Classical.not_not, Int.toNat_natCast, vrow_I, Arm.eta2, Fld.eta, Grp.eta]
                  intro _
                  rw [eA]
                  omega
                · try simp only [hH, stdH, Nat.le_refl, decide_eq_true_eq, decide_eq_false_iff_not, Bool.not_eq_true', Bool.not_eq_false', peta, ncast, Int.ofNat_eq_natCast, beq_iff_eq, bne_iff_ne, beq_eq_false_iff_ne, bne_eq_false_iff_eq, ne_eq, Classical.not_not, Int.toNat_natCast, vrow_I, Arm.eta2, Fld.eta, Grp.eta]
                  intro _
                  omega
                · intro h5
                  simp only [hH, stdH, Nat.le_refl, decide_eq_true_eq, decide_eq_false_iff_not, Bool.not_eq_true', Bool.not_eq_false', peta, ncast, Int.ofNat_eq_natCast, beq_iff_eq, bne_iff_ne, beq_eq_false_iff_ne, bne_eq_false_iff_eq, ne_eq, Classical.not_not, Int.toNat_natCast, vrow_I, Arm.eta2, Fld.eta, Grp.eta] at h5
                  rw [Tl_I, toZ_has, eA, Int.toNat_natCast, Mid.difS, bifA] at h5
                  have e5 := rowQ_yes h5
                  (repeat' (with_reducible refine And.intro ?_ ?_))
                  · try simp only [hH, stdH, Nat.le_refl, decide_eq_true_eq, decide_eq_false_iff_not, Bool.not_eq_true', Bool.not_eq_false', peta, ncast, Int.ofNat_eq_natCast, beq_iff_eq, bne_iff_ne, beq_eq_false_iff_ne, bne_eq_false_iff_eq, ne_eq, Classical.not_not, Int.toNat_natCast, vrow_I, Arm.eta2, Fld.eta, Grp.eta]
                    exact ⟨trivial, fun j hj => by
                      obtain rfl := Nat.lt_one_iff.1 hj
                      rfl⟩
                  · try simp only [hH, stdH, Nat.le_refl, decide_eq_true_eq, decide_eq_false_iff_not, Bool.not_eq_true', Bool.not_eq_false', peta, ncast, Int.ofNat_eq_natCast, beq_iff_eq, bne_iff_ne, beq_eq_false_iff_ne, bne_eq_false_iff_eq, ne_eq, Classical.not_not, Int.toNat_natCast, vrow_I, Arm.eta2, Fld.eta, Grp.eta]
                  · try simp only [hH, stdH, Nat.le_refl, decide_eq_true_eq, decide_eq_false_iff_not, Bool.not_eq_true', Bool.not_eq_false', peta, ncast, Int.ofNat_eq_natCast, beq_iff_eq, bne_iff_ne, beq_eq_false_iff_ne, bne_eq_false_iff_eq, ne_eq, Classical.not_not, Int.toNat_natCast, vrow_I, Arm.eta2, Fld.eta, Grp.eta]
                    rw [toZ_len]
                    omega
                  · try simp only [hH, stdH, Nat.le_refl, decide_eq_true_eq, decide_eq_false_iff_not, Bool.not_eq_true', Bool.not_eq_false', peta, ncast, Int.ofNat_eq_natCast, beq_iff_eq, bne_iff_ne, beq_eq_false_iff_ne, bne_eq_false_iff_eq, ne_eq, Classical.not_not, Int.toNat_natCast, vrow_I, Arm.eta2, Fld.eta, Grp.eta]
                    exact PlZ1 _ _
                  · refine ⟨⟨k + 1, by omega⟩, by simp only; omega, ?_⟩
                    rw [hI3]
                    (conv in matchStN _ _ _ _ _ => cbv); simp only [AllG, AllP, and_true, hH, stdH, Nat.le_refl, ncast, Int.ofNat_eq_natCast, vrow_I, Arm.eta2, Fld.eta, Grp.eta]
                    rw [w1 (by omega), e5]
                    (repeat' (with_reducible refine And.intro ?_ ?_)) <;> (first | exact True.intro | exact Eq.refl _ | exact RowsFz.self (okL okI) | exact RowsEq.self okB' | exact RowsEq.self okI | exact RowsEq.self okRA | exact RowsEq.snocZ (toZ_snoc _ _) | exact (congrArg List.length (toZ_snoc _ _)).trans List.length_append)
                · intro h5
                  simp only [hH, stdH, Nat.le_refl, decide_eq_true_eq, decide_eq_false_iff_not, Bool.not_eq_true', Bool.not_eq_false', peta, ncast, Int.ofNat_eq_natCast, beq_iff_eq, bne_iff_ne, beq_eq_false_iff_ne, bne_eq_false_iff_eq, ne_eq, Classical.not_not, Int.toNat_natCast, vrow_I, Arm.eta2, Fld.eta, Grp.eta] at h5
                  rw [Tl_I, toZ_has, eA, Int.toNat_natCast, Mid.difS, bifA] at h5
                  have e5 := rowQ_no h5
                  refine ⟨⟨k + 1, by omega⟩, by simp only; omega, ?_⟩
                  rw [hI3]
                  (conv in matchStN _ _ _ _ _ => cbv); simp only [AllG, AllP, and_true, hH, stdH, Nat.le_refl, ncast, Int.ofNat_eq_natCast, vrow_I, Arm.eta2, Fld.eta, Grp.eta]
                  rw [w1 (by omega), e5]
                  (repeat' (with_reducible refine And.intro ?_ ?_)) <;> (first | exact True.intro | exact Eq.refl _ | exact RowsFz.self (okL okI) | exact RowsEq.self okB' | exact RowsEq.self okI | exact RowsEq.self okRA)
              · simp only [hH, stdH, Nat.le_refl, decide_eq_true_eq, decide_eq_false_iff_not, Bool.not_eq_true', Bool.not_eq_false', peta, ncast, Int.ofNat_eq_natCast, beq_iff_eq, bne_iff_ne, beq_eq_false_iff_ne, bne_eq_false_iff_eq, ne_eq, Classical.not_not, Int.toNat_natCast, vrow_I, Arm.eta2, Fld.eta, Grp.eta] at h4
                obtain rfl : k = l.length := by omega
                rw [if_neg (by decide)]
                obtain ⟨f', hm'⟩ := hm.step (adjA_sym l t) (by simp) ha
                have hol : own.length ≤ l.length := nd_len hm.b.nd hm.b.lt
                refine ⟨⟨(f', rowQ (adjA l t (own.getD a 0)) own l.length, a + 1), hm'⟩, by simp only; omega, ?_⟩
                rw [hI2]
                (conv in matchStN _ _ _ _ _ => cbv); simp only [AllG, AllP, and_true, hH, stdH, Nat.le_refl, ncast, Int.ofNat_eq_natCast, vrow_I, Arm.eta2, Fld.eta, Grp.eta]
                rw [w1 (by omega)]
                (repeat' (with_reducible refine And.intro ?_ ?_)) <;> (first | exact True.intro | exact Eq.refl _ | exact RowsFz.self (okL okI) | exact RowsEq.self okB' | exact RowsEq.self okI | exact RowsEq.self okRA)
          · simp only [hH, stdH, Nat.le_refl, decide_eq_true_eq, decide_eq_false_iff_not, Bool.not_eq_true', Bool.not_eq_false', peta, ncast, Int.ofNat_eq_natCast, beq_iff_eq, bne_iff_ne, beq_eq_false_iff_ne, bne_eq_false_iff_eq, ne_eq, Classical.not_not, Int.toNat_natCast, vrow_I, Arm.eta2, Fld.eta, Grp.eta] at h3
            rw [toZ_len] at h3
            have hol : own.length ≤ l.length := nd_len hm.b.nd hm.b.lt
            obtain rfl := hm.stop (by omega : ¬ a < own.length)
            refine loop_cN hB (draw_ok hB mixed) hX hX0 hH [0, 1, 4, 5, 6, 7, 8, 9, 12, 13] 31 (ι := { k : Nat // k ≤ (grpB (adjA l t) l.length i).length }) 300 (fun k => [.r (H Nat fun _ => (putsZ (toZ (grpB (adjA l t) l.length i)) k.1).length) (rowsI H fun _ => putsZ (toZ (grpB (adjA l t) l.length i)) k.1), .i (H Int fun _ => (k.1 : Nat))]) (fun k => (grpB (adjA l t) l.length i).length - k.1) (⟨0, Nat.zero_le _⟩) ?_ ?_
            · (conv in matchStN _ _ _ _ _ => cbv); simp only [AllG, AllP, and_true, hH, stdH, Nat.le_refl, ncast, Int.ofNat_eq_natCast, vrow_I, Arm.eta2, Fld.eta, Grp.eta]
              (repeat' (with_reducible refine And.intro ?_ ?_)) <;> (first | exact True.intro | exact Eq.refl _ | exact RowsFz.self (okL okI) | exact RowsEq.self okB' | exact RowsEq.self okI | exact RowsEq.self okRA | exact RowsEq.ofT okI rfl (Shp_zero _) rfl)
            · intro I3 hI3 k
              conv in Fin.chk _ _ => cbv
              try simp only [Plain_rowsA, Plain_rowsB, Plain_rowsF, Plain_rowsG, Plain_rowsI, Plain_rowsS, Plain_rowsU, Fin.satC_ret, Fin.satC_br, Fin.satC_need, Fin.satC_again, AllP, and_true, true_and, upd, List.length_nil, List.length_cons, Nat.zero_add, if_true, ncast, Int.ofNat_eq_natCast]
              obtain ⟨k, hk⟩ := k
              have hpl := putsZ_len (toZ (grpB (adjA l t) l.length i)) k (by rw [toZ_len]; exact hk)
              refine ⟨fun h4 => ?_, fun h4 => ?_⟩
              · simp only [hH, stdH, Nat.le_refl, decide_eq_true_eq, decide_eq_false_iff_not, Bool.not_eq_true', Bool.not_eq_false', peta, ncast, Int.ofNat_eq_natCast, beq_iff_eq, bne_iff_ne, beq_eq_false_iff_ne, bne_eq_false_iff_eq, ne_eq, Classical.not_not, Int.toNat_natCast, vrow_I, Arm.eta2, Fld.eta, Grp.eta] at h4
                rw [toZ_len] at h4
                have h4 : k < (grpB (adjA l t) l.length i).length := by omega
                have h4' : k < (toZ (grpB (adjA l t) l.length i)).length := by rw [toZ_len]; exact h4
                (repeat' (with_reducible refine And.intro ?_ ?_))
                · try simp only [hH, stdH, Nat.le_refl, decide_eq_true_eq, decide_eq_false_iff_not, Bool.not_eq_true', Bool.not_eq_false', peta, ncast, Int.ofNat_eq_natCast, beq_iff_eq, bne_iff_ne, beq_eq_false_iff_ne, bne_eq_false_iff_eq, ne_eq, Classical.not_not, Int.toNat_natCast, vrow_I, Arm.eta2, Fld.eta, Grp.eta]
                  rw [toZ_len]
                  omega
                · try simp only [hH, stdH, Nat.le_refl, decide_eq_true_eq, decide_eq_false_iff_not, Bool.not_eq_true', Bool.not_eq_false', peta, ncast, Int.ofNat_eq_natCast, beq_iff_eq, bne_iff_ne, beq_eq_false_iff_ne, bne_eq_false_iff_eq, ne_eq, Classical.not_not, Int.toNat_natCast, vrow_I, Arm.eta2, Fld.eta, Grp.eta]
                  exact ⟨h4', rfl⟩
                · try simp only [hH, stdH, Nat.le_refl, decide_eq_true_eq, decide_eq_false_iff_not, Bool.not_eq_true', Bool.not_eq_false', peta, ncast, Int.ofNat_eq_natCast, beq_iff_eq, bne_iff_ne, beq_eq_false_iff_ne, bne_eq_false_iff_eq, ne_eq, Classical.not_not, Int.toNat_natCast, vrow_I, Arm.eta2, Fld.eta, Grp.eta]
                · try simp only [hH, stdH, Nat.le_refl, decide_eq_true_eq, decide_eq_false_iff_not, Bool.not_eq_true', Bool.not_eq_false', peta, ncast, Int.ofNat_eq_natCast, beq_iff_eq, bne_iff_ne, beq_eq_false_iff_ne, bne_eq_false_iff_eq, ne_eq, Classical.not_not, Int.toNat_natCast, vrow_I, Arm.eta2, Fld.eta, Grp.eta]
                  exact Shp_I _ _
                · try simp only [hH, stdH, Nat.le_refl, decide_eq_true_eq, decide_eq_false_iff_not, Bool.not_eq_true', Bool.not_eq_false', peta, ncast, Int.ofNat_eq_natCast, beq_iff_eq, bne_iff_ne, beq_eq_false_iff_ne, bne_eq_false_iff_eq, ne_eq, Classical.not_not, Int.toNat_natCast, vrow_I, Arm.eta2, Fld.eta, Grp.eta]
                  rw [Tl_I]
                  omega
                · refine ⟨⟨k + 1, by omega⟩, by simp only; omega, ?_⟩
                  rw [hI3]
                  (conv in matchStN _ _ _ _ _ => cbv); simp only [AllG, AllP, and_true, hH, stdH, Nat.le_refl, ncast, Int.ofNat_eq_natCast, vrow_I, Arm.eta2, Fld.eta, Grp.eta]
                  rw [w1 (by omega), Tl_I, putsZ_s h4']
                  (repeat' (with_reducible refine And.intro ?_ ?_)) <;> (first | exact True.intro | exact Eq.refl _ | exact RowsFz.self (okL okI) | exact RowsEq.self okB' | exact RowsEq.self okI | exact RowsEq.self okRA)
              · simp only [hH, stdH, Nat.le_refl, decide_eq_true_eq, decide_eq_false_iff_not, Bool.not_eq_true', Bool.not_eq_false', peta, ncast, Int.ofNat_eq_natCast, beq_iff_eq, bne_iff_ne, beq_eq_false_iff_ne, bne_eq_false_iff_eq, ne_eq, Classical.not_not, Int.toNat_natCast, vrow_I, Arm.eta2, Fld.eta, Grp.eta] at h4
                rw [toZ_len] at h4
                obtain rfl : k = (grpB (adjA l t) l.length i).length := by omega
                have eS : putsZ (toZ (grpB (adjA l t) l.length i)) (grpB (adjA l t) l.length i).length = srtZ (toZ (grpB (adjA l t) l.length i)) := by
                  have := putsZ_srt (toZ_nd hm.b.nd)
                  rwa [toZ_len] at this
                have eF : (cluZ l t (i + 1)).flatten = (cluZ l t i).flatten ++ srtZ (toZ (grpB (adjA l t) l.length i)) := by rw [k1, List.flatten_append]; simp
                have eL : (srtZ (toZ (grpB (adjA l t) l.length i))).length = (grpB (adjA l t) l.length i).length := by rw [srtZ_len, toZ_len]
                simp only [eS]
                (repeat' (with_reducible refine And.intro ?_ ?_))
                · try simp only [hH, stdH, Nat.le_refl, decide_eq_true_eq, decide_eq_false_iff_not, Bool.not_eq_true', Bool.not_eq_false', peta, ncast, Int.ofNat_eq_natCast, beq_iff_eq, bne_iff_ne, beq_eq_false_iff_ne, bne_eq_false_iff_eq, ne_eq, Classical.not_not, Int.toNat_natCast, vrow_I, Arm.eta2, Fld.eta, Grp.eta]
                  (repeat' (refine And.intro ?_ ?_)) <;> (first | rfl | omega | exact fun j _ => rfl)
                · try simp only [hH, stdH, Nat.le_refl, decide_eq_true_eq, decide_eq_false_iff_not, Bool.not_eq_true', Bool.not_eq_false', peta, ncast, Int.ofNat_eq_natCast, beq_iff_eq, bne_iff_ne, beq_eq_false_iff_ne, bne_eq_false_iff_eq, ne_eq, Classical.not_not, Int.toNat_natCast, vrow_I, Arm.eta2, Fld.eta, Grp.eta]
                · try simp only [hH, stdH, Nat.le_refl, decide_eq_true_eq, decide_eq_false_iff_not, Bool.not_eq_true', Bool.not_eq_false', peta, ncast, Int.ofNat_eq_natCast, beq_iff_eq, bne_iff_ne, beq_eq_false_iff_ne, bne_eq_false_iff_eq, ne_eq, Classical.not_not, Int.toNat_natCast, vrow_I, Arm.eta2, Fld.eta, Grp.eta]
                  omega
                · try simp only [hH, stdH, Nat.le_refl, decide_eq_true_eq, decide_eq_false_iff_not, Bool.not_eq_true', Bool.not_eq_false', peta, ncast, Int.ofNat_eq_natCast, beq_iff_eq, bne_iff_ne, beq_eq_false_iff_ne, bne_eq_false_iff_eq, ne_eq, Classical.not_not, Int.toNat_natCast, vrow_I, Arm.eta2, Fld.eta, Grp.eta]
                  exact PlZ2 _ _
                · try simp only [hH, stdH, Nat.le_refl, decide_eq_true_eq, decide_eq_false_iff_not, Bool.not_eq_true', Bool.not_eq_false', peta, ncast, Int.ofNat_eq_natCast, beq_iff_eq, bne_iff_ne, beq_eq_false_iff_ne, bne_eq_false_iff_eq, ne_eq, Classical.not_not, Int.toNat_natCast, vrow_I, Arm.eta2, Fld.eta, Grp.eta]
                · try simp only [hH, stdH, Nat.le_refl, decide_eq_true_eq, decide_eq_false_iff_not, Bool.not_eq_true', Bool.not_eq_false', peta, ncast, Int.ofNat_eq_natCast, beq_iff_eq, bne_iff_ne, beq_eq_false_iff_ne, bne_eq_false_iff_eq, ne_eq, Classical.not_not, Int.toNat_natCast, vrow_I, Arm.eta2, Fld.eta, Grp.eta]
                  omega
                · rw [if_neg (by decide), if_neg (by decide)]
                  refine ⟨⟨i + 1, by omega⟩, by simp only; omega, ?_⟩
                  rw [hI]
                  (conv in matchStN _ _ _ _ _ => cbv); simp only [AllG, AllP, and_true, hH, stdH, Nat.le_refl, ncast, Int.ofNat_eq_natCast, vrow_I, Arm.eta2, Fld.eta, Grp.eta]
                  rw [w1 (by omega)]
                  simp only [eF]
                  rw [k1]
                  (repeat' (with_reducible refine And.intro ?_ ?_)) <;> (first | exact True.intro | exact Eq.refl _ | exact RowsFz.self (okL okI) | exact RowsEq.self okB' | exact RowsEq.self okI | exact RowsEq.self okRA | exact RowsEq.catZ rfl | exact RowsFz.snoc (okL okI) rfl (.cons (CellFz.own okI rfl (RowsEq.self okI)) .nil) | exact List.length_append)
      · simp only [hH, stdH, Nat.le_refl, decide_eq_true_eq, decide_eq_false_iff_not, Bool.not_eq_true', Bool.not_eq_false', peta, ncast, Int.ofNat_eq_natCast, beq_iff_eq, bne_iff_ne, beq_eq_false_iff_ne, bne_eq_false_iff_eq, ne_eq, Classical.not_not, Int.toNat_natCast, vrow_I, Arm.eta2, Fld.eta, Grp.eta] at h1
        obtain rfl : i = l.length := by omega
        try simp only [hH, stdH, Nat.le_refl, decide_eq_true_eq, decide_eq_false_iff_not, Bool.not_eq_true', Bool.not_eq_false', peta, ncast, Int.ofNat_eq_natCast, beq_iff_eq, bne_iff_ne, beq_eq_false_iff_ne, bne_eq_false_iff_eq, ne_eq, Classical.not_not, Int.toNat_natCast, vrow_I, Arm.eta2, Fld.eta, Grp.eta]
        exact ⟨trivial, RowsFz.self (okL okI)⟩
noncomputable def e_clustersS : Entry := pureE 8 fun H a => match a with
  | [.vec 15 ln lf, .lit (.int .i64 t)] => some (.tup [.vec 1 (H Nat fun _ => (if okCl (Tl rowA ln lf) t then cluZ (Tl rowA ln lf) t (Tl rowA ln lf).length else []).length) (rowsL rowsI 1 H fun _ => if okCl (Tl rowA ln lf) t then cluZ (Tl rowA ln lf) t (Tl rowA ln lf).length else []), .lit (.bool (H Bool fun _ => okCl (Tl rowA ln lf) t))], [H Prop fun _ => Shp rowA ln lf, H Prop fun _ => (Tl rowA ln lf).length ≤ 100])
  | _ => none
theorem eok_clustersS : EntryOk Try.prog e_clustersS := pureM_ok (by unfold isBody; kernel_rfl) (by
  intro a r ob e hob
  split at e
  · rename_i ln lf t
    simp only [Option.some.injEq, Prod.mk.injEq] at e
    obtain ⟨rfl, rfl⟩ := e
    exact ConN.args (.cons (.toT okRA rfl hob.1) (.cons .rfl .nil)) (c_clustersS (Tl rowA ln lf) t hob.2.1)
  · simp at e)

end Go.Proofs.Ytigkdbhcjjjjkaa.AM

