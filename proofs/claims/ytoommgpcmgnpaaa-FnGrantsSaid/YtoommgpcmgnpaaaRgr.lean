import Derived.Test.YtoommgpcmgnpaaaAmT
import Derived.Test.YtoommgpcmgnpaaaRgl
set_option linter.unusedVariables false
set_option linter.unusedSimpArgs false
set_option maxRecDepth 100000
set_option maxHeartbeats 4000000
set_option cbv.maxSteps 3000000
namespace Go.Proofs.Ytoommgpcmgnpaaa.AM
/- Grants of arms: the reference's; conditions: none. -/
theorem c_l16Grant (g : Grt) (h0 : g.name.size ≤ 1000000) : ConN Try.prog 91 [aT rowW stdH fun _ => g] [] 0 (.lit (.bool (stdH Bool fun _ => okN g))) [] [] := by
  have hB : Base Try.prog (tabΓ [e_l1In, e_l16Name, e_l5Good]) tab := base_of tabOk (ents_cons eok_l1In <| ents_cons eok_l16Name <| ents_cons eok_l5Good <| ents_nil)
  refine con_m (N := 21) hB (draw_ok hB mixed) Try.func91 rfl rfl (fun H => [aT rowW H fun _ => g]) (fun _ => []) 0 (fun H => .lit (.bool (H Bool fun _ => okN g))) (fun H => []) (fun _ => []) 100 (by simp) (fun x hx => ?_) (by simp [lk]) (by omega) (by simp) ?_
  · simp only [List.mem_cons, List.not_mem_nil, or_false] at hx
    rcases hx with rfl
    · exact aT_bl okRW _ _
  intro X hX hX0 H hH
  conv in Fin.chk _ _ => cbv
  try simp only [Plain_rowsA, Plain_rowsB, Plain_rowsF, Plain_rowsG, Plain_rowsI, Plain_rowsS, Plain_rowsU, Fin.satC_ret, Fin.satC_br, Fin.satC_need, Fin.satC_again, AllP, and_true, true_and, upd, List.length_nil, List.length_cons, Nat.zero_add, if_true, ncast, Int.ofNat_eq_natCast]
  try simp only [TlW_H hH, hetaA hH]
  refine ⟨?_, ?_⟩
  · try simp only [hH, stdH, decide_eq_true_eq, decide_eq_false_iff_not, Bool.not_eq_true', Bool.not_eq_false', peta, ncast, Int.ofNat_eq_natCast, beq_iff_eq, bne_iff_ne, beq_eq_false_iff_ne, bne_eq_false_iff_eq, ne_eq, Classical.not_not, Int.toNat_natCast, vrow_I, Arm.eta2, Fld.eta, Grp.eta]
    exact fun _ => h0
  · try simp only [hH, stdH, decide_eq_true_eq, decide_eq_false_iff_not, Bool.not_eq_true', Bool.not_eq_false', peta, ncast, Int.ofNat_eq_natCast, beq_iff_eq, bne_iff_ne, beq_eq_false_iff_ne, bne_eq_false_iff_eq, ne_eq, Classical.not_not, Int.toNat_natCast, vrow_I, Arm.eta2, Fld.eta, Grp.eta]
    unfold okN
    cases inB g.num 1 999 <;> cases okNm g.name <;> cases inB g.year 1000 2999 <;> cases okA g.arms <;> rfl
noncomputable def e_l16Grant : Entry := pureE 91 fun H a => match a with
  | [.agg [.lit (.int .i64 g0), .lit (.string g1), .lit (.int .i64 g2), .lit (.int .i64 g3), .lit (.int .i64 g4), .lit (.int .i64 g5), .lit (.int .i64 g6), .lit (.int .i64 g7), .lit (.int .i64 g8), .lit (.int .i64 g9), .lit (.int .i64 g10), .lit (.int .i64 g11), .lit (.int .i64 g12), .lit (.int .i64 g13), .lit (.int .i64 g14), .lit (.int .i64 g15), .lit (.int .i64 g16), .lit (.int .i64 g17)]] => some (.lit (.bool (H Bool fun _ => okN (⟨g0, g1, g2, ⟨⟨g3, g4, g5, g6⟩, g7, g8, g9, ⟨g10, g11, g12, g13⟩, ⟨g14, g15, g16, g17⟩⟩⟩ : Grt))), [H Prop fun _ => (⟨g0, g1, g2, ⟨⟨g3, g4, g5, g6⟩, g7, g8, g9, ⟨g10, g11, g12, g13⟩, ⟨g14, g15, g16, g17⟩⟩⟩ : Grt).name.size ≤ 1000000])
  | _ => none
theorem eok_l16Grant : EntryOk Try.prog e_l16Grant := pureM_ok (by unfold isBody; kernel_rfl) (by
  intro a r ob e hob
  split at e
  · rename_i g0 g1 g2 g3 g4 g5 g6 g7 g8 g9 g10 g11 g12 g13 g14 g15 g16 g17
    simp only [Option.some.injEq, Prod.mk.injEq] at e
    obtain ⟨rfl, rfl⟩ := e
    exact ConN.args (.cons .rfl .nil) (c_l16Grant (⟨g0, g1, g2, ⟨⟨g3, g4, g5, g6⟩, g7, g8, g9, ⟨g10, g11, g12, g13⟩, ⟨g14, g15, g16, g17⟩⟩⟩ : Grt) hob.1)
  · simp at e)
theorem c_l16Good (r : Rgr) (h0 : r.gs.length ≤ 1000000) (h1 : Nsz r.gs) : ConN Try.prog 53 [aT rowJ stdH fun _ => r] [] 0 (.lit (.bool (stdH Bool fun _ => okRg r.gs))) [] [] := by
  have hB : Base Try.prog (tabΓ [e_l16Grant, e_l15Conflict]) tabG := base_of tabOkG (ents_cons eok_l16Grant <| ents_cons eok_l15Conflict <| ents_nil)
  refine con_m (N := 77) hB (draw_ok hB mixed) Try.func53 rfl rfl (fun H => [aT rowJ H fun _ => r]) (fun _ => []) 0 (fun H => .lit (.bool (H Bool fun _ => okRg r.gs))) (fun H => []) (fun _ => []) 300 (by simp) (fun x hx => ?_) (by simp [lk]) (by omega) (by simp) ?_
  · simp only [List.mem_cons, List.not_mem_nil, or_false] at hx
    rcases hx with rfl
    · exact aT_bl okRJ _ _
  intro X hX hX0 H hH
  conv in Fin.chk _ _ => cbv
  try simp only [Plain_rowsA, Plain_rowsB, Plain_rowsF, Plain_rowsG, Plain_rowsI, Plain_rowsS, Plain_rowsU, Fin.satC_ret, Fin.satC_br, Fin.satC_need, Fin.satC_again, AllP, and_true, true_and, upd, List.length_nil, List.length_cons, Nat.zero_add, if_true, ncast, Int.ofNat_eq_natCast]
  try simp only [TlW_H hH, hetaA hH]
  refine ⟨fun h2 => ?_, fun h2 => ?_⟩
  · simp only [hH, stdH, decide_eq_true_eq, decide_eq_false_iff_not, Bool.not_eq_true', Bool.not_eq_false', peta, ncast, Int.ofNat_eq_natCast, beq_iff_eq, bne_iff_ne, beq_eq_false_iff_ne, bne_eq_false_iff_eq, ne_eq, Classical.not_not, Int.toNat_natCast, vrow_I, Arm.eta2, Fld.eta, Grp.eta] at h2
    try simp only [hH, stdH, decide_eq_true_eq, decide_eq_false_iff_not, Bool.not_eq_true', Bool.not_eq_false', peta, ncast, Int.ofNat_eq_natCast, beq_iff_eq, bne_iff_ne, beq_eq_false_iff_ne, bne_eq_false_iff_eq, ne_eq, Classical.not_not, Int.toNat_natCast, vrow_I, Arm.eta2, Fld.eta, Grp.eta]
    unfold okRg
    rw [decide_eq_false (by omega)]; rfl
  · simp only [hH, stdH, decide_eq_true_eq, decide_eq_false_iff_not, Bool.not_eq_true', Bool.not_eq_false', peta, ncast, Int.ofNat_eq_natCast, beq_iff_eq, bne_iff_ne, beq_eq_false_iff_ne, bne_eq_false_iff_eq, ne_eq, Classical.not_not, Int.toNat_natCast, vrow_I, Arm.eta2, Fld.eta, Grp.eta] at h2
    refine loop_a hB (draw_ok hB mixed) hX hX0 hH false (ι := { i : Nat // i ≤ r.gs.length ∧ ∀ j, j < i → okAt r.gs j = true }) 300 (fun i => [.i (H Int fun _ => (i.1 : Nat))]) (fun i => r.gs.length - i.1) (⟨0, by omega, by omega⟩) ?_ ?_
    · (conv in matchSt _ _ _ _ => cbv); simp only [AllG, AllP, and_true, hH, stdH, ncast, Int.ofNat_eq_natCast, vrow_I, Arm.eta2, Fld.eta, Grp.eta]
      all_goals (repeat' (with_reducible refine And.intro ?_ ?_)) <;> (first | exact Eq.refl _ | exact True.intro | exact RowsEq.self okRW | exact RowsEq.ofT okRW rfl (Shp_zero _) rfl | exact RowsEq.snoc okRW rfl | exact List.length_append | exact c.rqN)
    · intro I hI i
      conv in Fin.chk _ _ => cbv
      try simp only [Plain_rowsA, Plain_rowsB, Plain_rowsF, Plain_rowsG, Plain_rowsI, Plain_rowsS, Plain_rowsU, Fin.satC_ret, Fin.satC_br, Fin.satC_need, Fin.satC_again, AllP, and_true, true_and, upd, List.length_nil, List.length_cons, Nat.zero_add, if_true, ncast, Int.ofNat_eq_natCast]
      obtain ⟨i, hi, hj⟩ := i
      simp only [hetaA hH, hetaW hH]
      have C : ∀ u v : Bool, (bif !u then true else v) = true → u = false ∨ v = true := fun u v => by cases u <;> cases v <;> simp
      have D : ∀ u v : Bool, (bif !u then true else v) = false → u = true ∧ v = false := fun u v => by cases u <;> cases v <;> simp
      refine ⟨fun h3 => ⟨?_, ?_, ?_, ?_, ?_, ?_, fun h4 => ?_, fun h4 => ?_⟩, fun h3 => ?_⟩
      · simp only [hH, stdH, decide_eq_true_eq, decide_eq_false_iff_not, Bool.not_eq_true', Bool.not_eq_false', peta, ncast, Int.ofNat_eq_natCast, beq_iff_eq, bne_iff_ne, beq_eq_false_iff_ne, bne_eq_false_iff_eq, ne_eq, Classical.not_not, Int.toNat_natCast, vrow_I, Arm.eta2, Fld.eta, Grp.eta] at h3 ⊢
        omega
      · try simp only [hH, stdH, decide_eq_true_eq, decide_eq_false_iff_not, Bool.not_eq_true', Bool.not_eq_false', peta, ncast, Int.ofNat_eq_natCast, beq_iff_eq, bne_iff_ne, beq_eq_false_iff_ne, bne_eq_false_iff_eq, ne_eq, Classical.not_not, Int.toNat_natCast, vrow_I, Arm.eta2, Fld.eta, Grp.eta]
        exact h1.at i
      · simp only [hH, stdH, decide_eq_true_eq, decide_eq_false_iff_not, Bool.not_eq_true', Bool.not_eq_false', peta, ncast, Int.ofNat_eq_natCast, beq_iff_eq, bne_iff_ne, beq_eq_false_iff_ne, bne_eq_false_iff_eq, ne_eq, Classical.not_not, Int.toNat_natCast, vrow_I, Arm.eta2, Fld.eta, Grp.eta] at h3 ⊢
        intro _ h6
        rw [wi (by omega) (by omega)]
        omega
      · simp only [hH, stdH, decide_eq_true_eq, decide_eq_false_iff_not, Bool.not_eq_true', Bool.not_eq_false', peta, ncast, Int.ofNat_eq_natCast, beq_iff_eq, bne_iff_ne, beq_eq_false_iff_ne, bne_eq_false_iff_eq, ne_eq, Classical.not_not, Int.toNat_natCast, vrow_I, Arm.eta2, Fld.eta, Grp.eta] at h3 ⊢
        intro _ h6
        omega
      · simp only [hH, stdH, decide_eq_true_eq, decide_eq_false_iff_not, Bool.not_eq_true', Bool.not_eq_false', peta, ncast, Int.ofNat_eq_natCast, beq_iff_eq, bne_iff_ne, beq_eq_false_iff_ne, bne_eq_false_iff_eq, ne_eq, Classical.not_not, Int.toNat_natCast, vrow_I, Arm.eta2, Fld.eta, Grp.eta] at h3 ⊢
        intro h6 _ _
        rw [wi (by omega) (by omega)]
        omega
      · simp only [hH, stdH, decide_eq_true_eq, decide_eq_false_iff_not, Bool.not_eq_true', Bool.not_eq_false', peta, ncast, Int.ofNat_eq_natCast, beq_iff_eq, bne_iff_ne, beq_eq_false_iff_ne, bne_eq_false_iff_eq, ne_eq, Classical.not_not, Int.toNat_natCast, vrow_I, Arm.eta2, Fld.eta, Grp.eta] at h3 ⊢
        intro h6 _ _
        omega
      · simp only [hH, stdH, decide_eq_true_eq, decide_eq_false_iff_not, Bool.not_eq_true', Bool.not_eq_false', peta, ncast, Int.ofNat_eq_natCast, beq_iff_eq, bne_iff_ne, beq_eq_false_iff_ne, bne_eq_false_iff_eq, ne_eq, Classical.not_not, Int.toNat_natCast, vrow_I, Arm.eta2, Fld.eta, Grp.eta] at h3
        simp only [hH, stdH, Int.toNat_natCast] at h4
        rw [ord_c _ (by omega)] at h4
        try simp only [hH, stdH, decide_eq_true_eq, decide_eq_false_iff_not, Bool.not_eq_true', Bool.not_eq_false', peta, ncast, Int.ofNat_eq_natCast, beq_iff_eq, bne_iff_ne, beq_eq_false_iff_ne, bne_eq_false_iff_eq, ne_eq, Classical.not_not, Int.toNat_natCast, vrow_I, Arm.eta2, Fld.eta, Grp.eta]
        refine okRg_bad (i := i) (by omega) (okAt_n ?_)
        rcases C _ _ h4 with q | q
        · exact .inl q
        · rw [Bool.not_eq_true'] at q
          exact .inr q
      · simp only [hH, stdH, decide_eq_true_eq, decide_eq_false_iff_not, Bool.not_eq_true', Bool.not_eq_false', peta, ncast, Int.ofNat_eq_natCast, beq_iff_eq, bne_iff_ne, beq_eq_false_iff_ne, bne_eq_false_iff_eq, ne_eq, Classical.not_not, Int.toNat_natCast, vrow_I, Arm.eta2, Fld.eta, Grp.eta] at h3
        simp only [hH, stdH, Int.toNat_natCast] at h4
        rw [ord_c _ (by omega)] at h4
        obtain ⟨q1, q2⟩ := D _ _ h4
        rw [Bool.not_eq_false'] at q2
        have q3 := okAt_mk q1 q2
        have qa : okA (r.gs.getD i default).arms = true := (okN_in q1).2.2.2
        have g1 : 0 ≤ i := Nat.zero_le _
        refine loop_a hB (draw_ok hB mixed) hX hX0 hH true (ι := { k : Nat // k ≤ i ∧ ∀ j, j < k → ¬ dI (r.gs.getD j default).arms (r.gs.getD i default).arms < 2 }) 300 (fun k => [.i (H Int fun _ => (k.1 : Nat))]) (fun k => i - k.1) (⟨0, g1, by omega⟩) ?_ ?_
        · (conv in matchSt _ _ _ _ => cbv); simp only [AllG, AllP, and_true, hH, stdH, ncast, Int.ofNat_eq_natCast, vrow_I, Arm.eta2, Fld.eta, Grp.eta]
          all_goals (repeat' (with_reducible refine And.intro ?_ ?_)) <;> (first | exact Eq.refl _ | exact True.intro | exact RowsEq.self okRW | exact RowsEq.ofT okRW rfl (Shp_zero _) rfl | exact RowsEq.snoc okRW rfl | exact List.length_append | exact c.rqN)
        · intro I2 hI2 k
          conv in Fin.chk _ _ => cbv
          try simp only [Plain_rowsA, Plain_rowsB, Plain_rowsF, Plain_rowsG, Plain_rowsI, Plain_rowsS, Plain_rowsU, Fin.satC_ret, Fin.satC_br, Fin.satC_need, Fin.satC_again, AllP, and_true, true_and, upd, List.length_nil, List.length_cons, Nat.zero_add, if_true, ncast, Int.ofNat_eq_natCast]
          obtain ⟨k, hk, hkj⟩ := k
          simp only [hetaA hH, hetaW hH]
          refine ⟨fun h5 => ⟨?_, ?_, fun h6 => ?_, fun h6 => ?_⟩, fun h5 => ?_⟩
          · simp only [hH, stdH, decide_eq_true_eq, decide_eq_false_iff_not, Bool.not_eq_true', Bool.not_eq_false', peta, ncast, Int.ofNat_eq_natCast, beq_iff_eq, bne_iff_ne, beq_eq_false_iff_ne, bne_eq_false_iff_eq, ne_eq, Classical.not_not, Int.toNat_natCast, vrow_I, Arm.eta2, Fld.eta, Grp.eta] at h5 ⊢
            omega
          · simp only [hH, stdH, decide_eq_true_eq, decide_eq_false_iff_not, Bool.not_eq_true', Bool.not_eq_false', peta, ncast, Int.ofNat_eq_natCast, beq_iff_eq, bne_iff_ne, beq_eq_false_iff_ne, bne_eq_false_iff_eq, ne_eq, Classical.not_not, Int.toNat_natCast, vrow_I, Arm.eta2, Fld.eta, Grp.eta] at h3 ⊢
            omega
          · simp only [hH, stdH, decide_eq_true_eq, decide_eq_false_iff_not, Bool.not_eq_true', Bool.not_eq_false', peta, ncast, Int.ofNat_eq_natCast, beq_iff_eq, bne_iff_ne, beq_eq_false_iff_ne, bne_eq_false_iff_eq, ne_eq, Classical.not_not, Int.toNat_natCast, vrow_I, Arm.eta2, Fld.eta, Grp.eta] at h5
            simp only [hH, stdH, Int.toNat_natCast] at h6
            have h7 : okA (r.gs.getD k default).arms = true := (okN_in (okAt_in (hj k (by omega))).1).2.2.2
            rw [decide_eq_true_eq, ← dI_dS h7 qa] at h6
            try simp only [hH, stdH, decide_eq_true_eq, decide_eq_false_iff_not, Bool.not_eq_true', Bool.not_eq_false', peta, ncast, Int.ofNat_eq_natCast, beq_iff_eq, bne_iff_ne, beq_eq_false_iff_ne, bne_eq_false_iff_eq, ne_eq, Classical.not_not, Int.toNat_natCast, vrow_I, Arm.eta2, Fld.eta, Grp.eta]
            refine okRg_bad (i := i) (by omega) ?_
            rw [q3, List.any_eq_true.2 ⟨r.gs.getD k default, ?_, ?_⟩]; rfl
            · rw [List.getD_eq_getElem?_getD, List.getElem?_eq_getElem (by omega), Option.getD_some]
              exact List.mem_take_iff_getElem.2 ⟨k, by omega, rfl⟩
            · exact decide_eq_true h6
          · simp only [hH, stdH, decide_eq_true_eq, decide_eq_false_iff_not, Bool.not_eq_true', Bool.not_eq_false', peta, ncast, Int.ofNat_eq_natCast, beq_iff_eq, bne_iff_ne, beq_eq_false_iff_ne, bne_eq_false_iff_eq, ne_eq, Classical.not_not, Int.toNat_natCast, vrow_I, Arm.eta2, Fld.eta, Grp.eta] at h5
            simp only [hH, stdH, Int.toNat_natCast] at h6
            have h7 : okA (r.gs.getD k default).arms = true := (okN_in (okAt_in (hj k (by omega))).1).2.2.2
            rw [decide_eq_false_iff_not, ← dI_dS h7 qa] at h6
            refine ⟨⟨k + 1, by omega, fun j hj' => ?_⟩, by simp only; omega, ?_⟩
            · rcases Nat.lt_succ_iff_lt_or_eq.1 hj' with h | rfl
              · exact hkj j h
              · exact h6
            · rw [hI2]
              (conv in matchSt _ _ _ _ => cbv); simp only [AllG, AllP, and_true, hH, stdH, ncast, Int.ofNat_eq_natCast, vrow_I, Arm.eta2, Fld.eta, Grp.eta]
              rw [w1 (by omega)]
              all_goals (repeat' (with_reducible refine And.intro ?_ ?_)) <;> (first | exact Eq.refl _ | exact True.intro | exact RowsEq.self okRW | exact RowsEq.ofT okRW rfl (Shp_zero _) rfl | exact RowsEq.snoc okRW rfl | exact List.length_append | exact c.rqN)
          · simp only [hH, stdH, decide_eq_true_eq, decide_eq_false_iff_not, Bool.not_eq_true', Bool.not_eq_false', peta, ncast, Int.ofNat_eq_natCast, beq_iff_eq, bne_iff_ne, beq_eq_false_iff_ne, bne_eq_false_iff_eq, ne_eq, Classical.not_not, Int.toNat_natCast, vrow_I, Arm.eta2, Fld.eta, Grp.eta] at h5
            obtain rfl : k = i := by omega
            have q4 : okAt r.gs k = true := by
              rw [q3, Bool.not_eq_true', List.any_eq_false]
              intro y hy
              obtain ⟨j, hjl, rfl⟩ := List.mem_take_iff_getElem.1 hy
              have := hkj j (by omega)
              rw [List.getD_eq_getElem?_getD, List.getElem?_eq_getElem (by omega), Option.getD_some] at this
              unfold cnfI
              simpa using this
            rw [if_neg (by decide)]
            refine ⟨⟨k + 1, by omega, fun j hj' => ?_⟩, by simp only; omega, ?_⟩
            · rcases Nat.lt_succ_iff_lt_or_eq.1 hj' with h | rfl
              · exact hj j h
              · exact q4
            · rw [hI]
              (conv in matchSt _ _ _ _ => cbv); simp only [AllG, AllP, and_true, hH, stdH, ncast, Int.ofNat_eq_natCast, vrow_I, Arm.eta2, Fld.eta, Grp.eta]
              rw [w1 (by omega)]
              all_goals (repeat' (with_reducible refine And.intro ?_ ?_)) <;> (first | exact Eq.refl _ | exact True.intro | exact RowsEq.self okRW | exact RowsEq.ofT okRW rfl (Shp_zero _) rfl | exact RowsEq.snoc okRW rfl | exact List.length_append | exact c.rqN)
      · simp only [hH, stdH, decide_eq_true_eq, decide_eq_false_iff_not, Bool.not_eq_true', Bool.not_eq_false', peta, ncast, Int.ofNat_eq_natCast, beq_iff_eq, bne_iff_ne, beq_eq_false_iff_ne, bne_eq_false_iff_eq, ne_eq, Classical.not_not, Int.toNat_natCast, vrow_I, Arm.eta2, Fld.eta, Grp.eta] at h3
        try simp only [hH, stdH, decide_eq_true_eq, decide_eq_false_iff_not, Bool.not_eq_true', Bool.not_eq_false', peta, ncast, Int.ofNat_eq_natCast, beq_iff_eq, bne_iff_ne, beq_eq_false_iff_ne, bne_eq_false_iff_eq, ne_eq, Classical.not_not, Int.toNat_natCast, vrow_I, Arm.eta2, Fld.eta, Grp.eta]
        rw [okRg_all fun j hj' => hj j (by omega)]
        exact decide_eq_true (by omega)
noncomputable def e_l16Good : Entry := pureE 53 fun H a => match a with
  | [.agg [.vec 18 r0n r0f]] => some (.lit (.bool (H Bool fun _ => okRg (⟨(Tl rowW r0n r0f)⟩ : Rgr).gs)), [H Prop fun _ => Shp rowW r0n r0f, H Prop fun _ => (⟨(Tl rowW r0n r0f)⟩ : Rgr).gs.length ≤ 1000000, H Prop fun _ => Nsz (⟨(Tl rowW r0n r0f)⟩ : Rgr).gs])
  | _ => none
theorem eok_l16Good : EntryOk Try.prog e_l16Good := pureM_ok (by unfold isBody; kernel_rfl) (by
  intro a r ob e hob
  split at e
  · rename_i r0n r0f
    simp only [Option.some.injEq, Prod.mk.injEq] at e
    obtain ⟨rfl, rfl⟩ := e
    exact ConN.args (.cons (.agg (.cons (.toT okRW rfl hob.1) .nil)) .nil) (c_l16Good (⟨(Tl rowW r0n r0f)⟩ : Rgr) hob.2.1 hob.2.2.1)
  · simp at e)
theorem c_validRS (r : Rgr) (h0 : r.gs.length ≤ 1000000) (h1 : Nsz r.gs) : ConN Try.prog 25 [aT rowJ stdH fun _ => r] [] 0 (.lit (.bool (stdH Bool fun _ => okRg r.gs))) [] [] := by
  have hB : Base Try.prog (tabΓ [e_l16Good]) tab := base_of tabOk (ents_cons eok_l16Good <| ents_nil)
  refine con_m (N := 5) hB (draw_ok hB mixed) Try.func25 rfl rfl (fun H => [aT rowJ H fun _ => r]) (fun _ => []) 0 (fun H => .lit (.bool (H Bool fun _ => okRg r.gs))) (fun H => []) (fun _ => []) 100 (by simp) (fun x hx => ?_) (by simp [lk]) (by omega) (by simp) ?_
  · simp only [List.mem_cons, List.not_mem_nil, or_false] at hx
    rcases hx with rfl
    · exact aT_bl okRJ _ _
  intro X hX hX0 H hH
  conv in Fin.chk _ _ => cbv
  try simp only [Plain_rowsA, Plain_rowsB, Plain_rowsF, Plain_rowsG, Plain_rowsI, Plain_rowsS, Plain_rowsU, Fin.satC_ret, Fin.satC_br, Fin.satC_need, Fin.satC_again, AllP, and_true, true_and, upd, List.length_nil, List.length_cons, Nat.zero_add, if_true, ncast, Int.ofNat_eq_natCast]
  try simp only [TlW_H hH, hetaA hH]
  refine ⟨⟨?_, ?_, ?_⟩, ?_⟩
  · try simp only [hH, stdH, decide_eq_true_eq, decide_eq_false_iff_not, Bool.not_eq_true', Bool.not_eq_false', peta, ncast, Int.ofNat_eq_natCast, beq_iff_eq, bne_iff_ne, beq_eq_false_iff_ne, bne_eq_false_iff_eq, ne_eq, Classical.not_not, Int.toNat_natCast, vrow_I, Arm.eta2, Fld.eta, Grp.eta]
    exact Shp_W _ _
  · try simp only [hH, stdH, decide_eq_true_eq, decide_eq_false_iff_not, Bool.not_eq_true', Bool.not_eq_false', peta, ncast, Int.ofNat_eq_natCast, beq_iff_eq, bne_iff_ne, beq_eq_false_iff_ne, bne_eq_false_iff_eq, ne_eq, Classical.not_not, Int.toNat_natCast, vrow_I, Arm.eta2, Fld.eta, Grp.eta]
    omega
  · try simp only [hH, stdH, decide_eq_true_eq, decide_eq_false_iff_not, Bool.not_eq_true', Bool.not_eq_false', peta, ncast, Int.ofNat_eq_natCast, beq_iff_eq, bne_iff_ne, beq_eq_false_iff_ne, bne_eq_false_iff_eq, ne_eq, Classical.not_not, Int.toNat_natCast, vrow_I, Arm.eta2, Fld.eta, Grp.eta]
    exact h1
  · try simp only [hH, stdH, decide_eq_true_eq, decide_eq_false_iff_not, Bool.not_eq_true', Bool.not_eq_false', peta, ncast, Int.ofNat_eq_natCast, beq_iff_eq, bne_iff_ne, beq_eq_false_iff_ne, bne_eq_false_iff_eq, ne_eq, Classical.not_not, Int.toNat_natCast, vrow_I, Arm.eta2, Fld.eta, Grp.eta]
noncomputable def e_validRS : Entry := pureE 25 fun H a => match a with
  | [.agg [.vec 18 r0n r0f]] => some (.lit (.bool (H Bool fun _ => okRg (⟨(Tl rowW r0n r0f)⟩ : Rgr).gs)), [H Prop fun _ => Shp rowW r0n r0f, H Prop fun _ => (⟨(Tl rowW r0n r0f)⟩ : Rgr).gs.length ≤ 1000000, H Prop fun _ => Nsz (⟨(Tl rowW r0n r0f)⟩ : Rgr).gs])
  | _ => none
theorem eok_validRS : EntryOk Try.prog e_validRS := pureM_ok (by unfold isBody; kernel_rfl) (by
  intro a r ob e hob
  split at e
  · rename_i r0n r0f
    simp only [Option.some.injEq, Prod.mk.injEq] at e
    obtain ⟨rfl, rfl⟩ := e
    exact ConN.args (.cons (.agg (.cons (.toT okRW rfl hob.1) .nil)) .nil) (c_validRS (⟨(Tl rowW r0n r0f)⟩ : Rgr) hob.2.1 hob.2.2.1)
  · simp at e)
theorem c_l16Own (r : Rgr) (h0 : r.gs.length ≤ 1000000) : ConN Try.prog 54 [aT rowJ stdH fun _ => r] [] 0 (.agg [.slc 0 0 18 (stdH Nat fun _ => (r.gs).length)]) [.rows 18 (stdH Nat fun _ => (r.gs).length) (rowsW stdH fun _ => r.gs) 88] [] := by
  have hB : Base Try.prog (tabΓ []) tabA := base_of tabOkA (ents_nil)
  refine con_m (N := 8) hB (draw_ok hB mixed) Try.func54 rfl rfl (fun H => [aT rowJ H fun _ => r]) (fun _ => []) 0 (fun H => .agg [.slc 0 0 18 (H Nat fun _ => (r.gs).length)]) (fun H => [.rows 18 (H Nat fun _ => (r.gs).length) (rowsW H fun _ => r.gs) 88]) (fun _ => []) 100 (by simp) (fun x hx => ?_) (by simp [lk]) (by omega) (by simp) ?_
  · simp only [List.mem_cons, List.not_mem_nil, or_false] at hx
    rcases hx with rfl
    · exact aT_bl okRJ _ _
  intro X hX hX0 H hH
  conv in Fin.chk _ _ => cbv
  try simp only [Plain_rowsA, Plain_rowsB, Plain_rowsF, Plain_rowsG, Plain_rowsI, Plain_rowsS, Plain_rowsU, Fin.satC_ret, Fin.satC_br, Fin.satC_need, Fin.satC_again, AllP, and_true, true_and, upd, List.length_nil, List.length_cons, Nat.zero_add, if_true, ncast, Int.ofNat_eq_natCast]
  try simp only [TlW_H hH, hetaA hH]
  refine ⟨⟨?_, ?_⟩, ?_, ?_⟩
  · try simp only [hH, stdH, decide_eq_true_eq, decide_eq_false_iff_not, Bool.not_eq_true', Bool.not_eq_false', peta, ncast, Int.ofNat_eq_natCast, beq_iff_eq, bne_iff_ne, beq_eq_false_iff_ne, bne_eq_false_iff_eq, ne_eq, Classical.not_not, Int.toNat_natCast, vrow_I, Arm.eta2, Fld.eta, Grp.eta]
  · try simp only [hH, stdH, decide_eq_true_eq, decide_eq_false_iff_not, Bool.not_eq_true', Bool.not_eq_false', peta, ncast, Int.ofNat_eq_natCast, beq_iff_eq, bne_iff_ne, beq_eq_false_iff_ne, bne_eq_false_iff_eq, ne_eq, Classical.not_not, Int.toNat_natCast, vrow_I, Arm.eta2, Fld.eta, Grp.eta]
    ((repeat' (with_reducible refine And.intro ?_ ?_)) <;> (first | exact True.intro | omega | exact Eq.refl _))
  · try simp only [hH, stdH, decide_eq_true_eq, decide_eq_false_iff_not, Bool.not_eq_true', Bool.not_eq_false', peta, ncast, Int.ofNat_eq_natCast, beq_iff_eq, bne_iff_ne, beq_eq_false_iff_ne, bne_eq_false_iff_eq, ne_eq, Classical.not_not, Int.toNat_natCast, vrow_I, Arm.eta2, Fld.eta, Grp.eta]
    rw [appN0]; exact RowsEq.self okRW
  · try simp only [hH, stdH, decide_eq_true_eq, decide_eq_false_iff_not, Bool.not_eq_true', Bool.not_eq_false', peta, ncast, Int.ofNat_eq_natCast, beq_iff_eq, bne_iff_ne, beq_eq_false_iff_ne, bne_eq_false_iff_eq, ne_eq, Classical.not_not, Int.toNat_natCast, vrow_I, Arm.eta2, Fld.eta, Grp.eta]
noncomputable def e_l16Own : Entry := pureN 54 fun H a => match a with
  | [.agg [.vec 18 r0n r0f]] => some (fun nx => .agg [.slc nx 0 18 (H Nat fun _ => ((⟨(Tl rowW r0n r0f)⟩ : Rgr).gs).length)], [.rows 18 (H Nat fun _ => ((⟨(Tl rowW r0n r0f)⟩ : Rgr).gs).length) (rowsW H fun _ => (⟨(Tl rowW r0n r0f)⟩ : Rgr).gs) 88], [H Prop fun _ => Shp rowW r0n r0f, H Prop fun _ => (⟨(Tl rowW r0n r0f)⟩ : Rgr).gs.length ≤ 1000000])
  | _ => none
theorem eok_l16Own : EntryOk Try.prog e_l16Own := pureN_ok (by unfold isBody; kernel_rfl) (by
  intro a r nb ob e hob
  split at e
  · rename_i r0n r0f
    simp only [Option.some.injEq, Prod.mk.injEq] at e
    obtain ⟨rfl, rfl, rfl⟩ := e
    refine ⟨ConN.args (.cons (.agg (.cons (.toT okRW rfl hob.1) .nil)) .nil) (c_l16Own (⟨(Tl rowW r0n r0f)⟩ : Rgr) hob.2.1), fun x hx => ?_, fun nx => ?_, fun b hb => ?_⟩
    · simp only [List.mem_cons, List.not_mem_nil, or_false] at hx
      rcases hx with rfl
      · exact (.agg fun c hc => (by
        simp only [List.mem_cons, List.not_mem_nil, or_false] at hc
        rcases hc with rfl
        · exact (hob.1).bl okRW _))
    · (first | exact .slc ⟨by omega, by simp⟩ (by omega) | (refine .tup rfl (fun c x y hx hy => ?_); rcases c with _ | _ | _ | c <;> simp at hx hy <;> (subst hx; subst hy; first | exact .slc ⟨by omega, by simp⟩ (by omega) | exact .pl .lit | exact .pl (blq_ok 4 rfl))) | (refine .agg rfl (fun c x y hx hy => ?_); rcases c with _ | _ | _ | c <;> simp at hx hy <;> (subst hx; subst hy; first | exact .slc ⟨by omega, by simp⟩ (by omega) | exact .pl .lit | exact .pl (blq_ok 4 rfl))))
    · simp only [List.mem_cons, List.not_mem_nil, or_false] at hb; subst hb; exact bT_bl okRW _ (fun _ => (⟨(Tl rowW r0n r0f)⟩ : Rgr).gs) _
  · simp at e)
theorem c_grantS (r : Rgr) (s : ByteArray) (y : Int) (a : Arm) (h0 : r.gs.length ≤ 100000) (h1 : Nsz r.gs) (h2 : s.size ≤ 1000000) : ConN Try.prog 22 [aT rowJ stdH fun _ => r, .lit (.string s), .lit (.int .i64 y), aT rowA stdH fun _ => a] [] 0 (.tup [aT rowJ stdH fun _ => ⟨if grO r.gs s y a then r.gs ++ [grG r.gs s y a] else []⟩, .lit (.int .i64 (stdH Int fun _ => if grO r.gs s y a then grN r.gs else 0)), .lit (.bool (stdH Bool fun _ => grO r.gs s y a))]) [] [] := by
  have hB : Base Try.prog (tabΓ [e_l16Good, e_l16Own]) tabA := base_of tabOkA (ents_cons eok_l16Good <| ents_cons eok_l16Own <| ents_nil)
  refine con_m (N := 49) hB (draw_ok hB mixed) Try.func22 rfl rfl (fun H => [aT rowJ H fun _ => r, .lit (.string s), .lit (.int .i64 y), aT rowA H fun _ => a]) (fun _ => []) 0 (fun H => .tup [aT rowJ H fun _ => ⟨if grO r.gs s y a then r.gs ++ [grG r.gs s y a] else []⟩, .lit (.int .i64 (H Int fun _ => if grO r.gs s y a then grN r.gs else 0)), .lit (.bool (H Bool fun _ => grO r.gs s y a))]) (fun H => []) (fun _ => []) 300 (by simp) (fun x hx => ?_) (by simp [lk]) (by omega) (by simp) ?_
  · simp only [List.mem_cons, List.not_mem_nil, or_false] at hx
    rcases hx with rfl | rfl | rfl | rfl
    · exact aT_bl okRJ _ _
    · exact .lit
    · exact .lit
    · exact aT_bl okRA _ _
  intro X hX hX0 H hH
  conv in Fin.chk _ _ => cbv
  try simp only [Plain_rowsA, Plain_rowsB, Plain_rowsF, Plain_rowsG, Plain_rowsI, Plain_rowsS, Plain_rowsU, Fin.satC_ret, Fin.satC_br, Fin.satC_need, Fin.satC_again, AllP, and_true, true_and, upd, List.length_nil, List.length_cons, Nat.zero_add, if_true, ncast, Int.ofNat_eq_natCast]
  try simp only [TlW_H hH, hetaA hH]
  refine ⟨⟨?_, ?_, ?_⟩, fun h3 => ⟨?_, ?_, ?_⟩, fun h3 => ⟨fun h4 => ⟨?_, ?_⟩, fun h4 => ?_⟩⟩
  · try simp only [hH, stdH, decide_eq_true_eq, decide_eq_false_iff_not, Bool.not_eq_true', Bool.not_eq_false', peta, ncast, Int.ofNat_eq_natCast, beq_iff_eq, bne_iff_ne, beq_eq_false_iff_ne, bne_eq_false_iff_eq, ne_eq, Classical.not_not, Int.toNat_natCast, vrow_I, Arm.eta2, Fld.eta, Grp.eta]
    exact Shp_W _ _
  · try simp only [hH, stdH, decide_eq_true_eq, decide_eq_false_iff_not, Bool.not_eq_true', Bool.not_eq_false', peta, ncast, Int.ofNat_eq_natCast, beq_iff_eq, bne_iff_ne, beq_eq_false_iff_ne, bne_eq_false_iff_eq, ne_eq, Classical.not_not, Int.toNat_natCast, vrow_I, Arm.eta2, Fld.eta, Grp.eta]
    omega
  · try simp only [hH, stdH, decide_eq_true_eq, decide_eq_false_iff_not, Bool.not_eq_true', Bool.not_eq_false', peta, ncast, Int.ofNat_eq_natCast, beq_iff_eq, bne_iff_ne, beq_eq_false_iff_ne, bne_eq_false_iff_eq, ne_eq, Classical.not_not, Int.toNat_natCast, vrow_I, Arm.eta2, Fld.eta, Grp.eta]
    exact h1
  · simp only [hH, stdH, Int.toNat_natCast] at h3
    have e : grO r.gs s y a = false := by unfold grO; rw [Bool.not_eq_true'] at h3; rw [h3]; rfl
    try simp only [hH, stdH, decide_eq_true_eq, decide_eq_false_iff_not, Bool.not_eq_true', Bool.not_eq_false', peta, ncast, Int.ofNat_eq_natCast, beq_iff_eq, bne_iff_ne, beq_eq_false_iff_ne, bne_eq_false_iff_eq, ne_eq, Classical.not_not, Int.toNat_natCast, vrow_I, Arm.eta2, Fld.eta, Grp.eta]
    exact e
  · simp only [hH, stdH, Int.toNat_natCast] at h3
    have e : grO r.gs s y a = false := by unfold grO; rw [Bool.not_eq_true'] at h3; rw [h3]; rfl
    try simp only [hH, stdH, decide_eq_true_eq, decide_eq_false_iff_not, Bool.not_eq_true', Bool.not_eq_false', peta, ncast, Int.ofNat_eq_natCast, beq_iff_eq, bne_iff_ne, beq_eq_false_iff_ne, bne_eq_false_iff_eq, ne_eq, Classical.not_not, Int.toNat_natCast, vrow_I, Arm.eta2, Fld.eta, Grp.eta]
    rw [e]; rfl
  · simp only [hH, stdH, Int.toNat_natCast] at h3
    have e : grO r.gs s y a = false := by unfold grO; rw [Bool.not_eq_true'] at h3; rw [h3]; rfl
    try simp only [hH, stdH, decide_eq_true_eq, decide_eq_false_iff_not, Bool.not_eq_true', Bool.not_eq_false', peta, ncast, Int.ofNat_eq_natCast, beq_iff_eq, bne_iff_ne, beq_eq_false_iff_ne, bne_eq_false_iff_eq, ne_eq, Classical.not_not, Int.toNat_natCast, vrow_I, Arm.eta2, Fld.eta, Grp.eta]
    rw [e]; rfl
  · simp only [hH, stdH, decide_eq_true_eq, decide_eq_false_iff_not, Bool.not_eq_true', Bool.not_eq_false', peta, ncast, Int.ofNat_eq_natCast, beq_iff_eq, bne_iff_ne, beq_eq_false_iff_ne, bne_eq_false_iff_eq, ne_eq, Classical.not_not, Int.toNat_natCast, vrow_I, Arm.eta2, Fld.eta, Grp.eta] at h4 ⊢
    rw [wi (by omega) (by omega)]
    omega
  · simp only [hH, stdH, Int.toNat_natCast] at h3
    rw [Bool.not_eq_false'] at h3
    simp only [hH, stdH, decide_eq_true_eq, decide_eq_false_iff_not, Bool.not_eq_true', Bool.not_eq_false', peta, ncast, Int.ofNat_eq_natCast, beq_iff_eq, bne_iff_ne, beq_eq_false_iff_ne, bne_eq_false_iff_eq, ne_eq, Classical.not_not, Int.toNat_natCast, vrow_I, Arm.eta2, Fld.eta, Grp.eta] at h4
    have hn := grN_w h3 (by omega)
    have eO : grO r.gs s y a = okRg (r.gs ++ [⟨IntKind.i64.wrap ((r.gs.getD (IntKind.i64.wrap (((r.gs.length : Nat) : Int) - 1)).toNat default).num + 1), s, y, a⟩]) := by unfold grO grG; rw [h3, ← hn]; rfl
    have hz : Nsz (r.gs ++ [⟨IntKind.i64.wrap ((r.gs.getD (IntKind.i64.wrap (((r.gs.length : Nat) : Int) - 1)).toNat default).num + 1), s, y, a⟩]) := ⟨fun x hx => by
      rcases List.mem_append.1 hx with hx | hx
      · exact h1.le x hx
      · rw [List.mem_singleton] at hx; subst hx; exact h2⟩
    refine ⟨⟨?_, ?_⟩, ⟨?_, ?_, ?_, ?_⟩, ⟨?_, ?_, ?_, ?_⟩, fun h5 => ⟨?_, ?_, ?_⟩, fun h5 => ⟨?_, ?_, ?_⟩⟩
    · try simp only [hH, stdH, decide_eq_true_eq, decide_eq_false_iff_not, Bool.not_eq_true', Bool.not_eq_false', peta, ncast, Int.ofNat_eq_natCast, beq_iff_eq, bne_iff_ne, beq_eq_false_iff_ne, bne_eq_false_iff_eq, ne_eq, Classical.not_not, Int.toNat_natCast, vrow_I, Arm.eta2, Fld.eta, Grp.eta]
      exact Shp_W _ _
    · try simp only [hH, stdH, decide_eq_true_eq, decide_eq_false_iff_not, Bool.not_eq_true', Bool.not_eq_false', peta, ncast, Int.ofNat_eq_natCast, beq_iff_eq, bne_iff_ne, beq_eq_false_iff_ne, bne_eq_false_iff_eq, ne_eq, Classical.not_not, Int.toNat_natCast, vrow_I, Arm.eta2, Fld.eta, Grp.eta]
      omega
    · try simp only [hH, stdH, decide_eq_true_eq, decide_eq_false_iff_not, Bool.not_eq_true', Bool.not_eq_false', peta, ncast, Int.ofNat_eq_natCast, beq_iff_eq, bne_iff_ne, beq_eq_false_iff_ne, bne_eq_false_iff_eq, ne_eq, Classical.not_not, Int.toNat_natCast, vrow_I, Arm.eta2, Fld.eta, Grp.eta]
      exact ⟨by omega, fun j hj => (by obtain rfl : j = 0 := by omega
                                       rfl)⟩
    · try simp only [hH, stdH, decide_eq_true_eq, decide_eq_false_iff_not, Bool.not_eq_true', Bool.not_eq_false', peta, ncast, Int.ofNat_eq_natCast, beq_iff_eq, bne_iff_ne, beq_eq_false_iff_ne, bne_eq_false_iff_eq, ne_eq, Classical.not_not, Int.toNat_natCast, vrow_I, Arm.eta2, Fld.eta, Grp.eta]
    · try simp only [hH, stdH, decide_eq_true_eq, decide_eq_false_iff_not, Bool.not_eq_true', Bool.not_eq_false', peta, ncast, Int.ofNat_eq_natCast, beq_iff_eq, bne_iff_ne, beq_eq_false_iff_ne, bne_eq_false_iff_eq, ne_eq, Classical.not_not, Int.toNat_natCast, vrow_I, Arm.eta2, Fld.eta, Grp.eta]
      ((repeat' (with_reducible refine And.intro ?_ ?_)) <;> (first | exact True.intro | omega | exact Eq.refl _))
    · try simp only [hH, stdH, decide_eq_true_eq, decide_eq_false_iff_not, Bool.not_eq_true', Bool.not_eq_false', peta, ncast, Int.ofNat_eq_natCast, beq_iff_eq, bne_iff_ne, beq_eq_false_iff_ne, bne_eq_false_iff_eq, ne_eq, Classical.not_not, Int.toNat_natCast, vrow_I, Arm.eta2, Fld.eta, Grp.eta]
      exact GW_pl (l := r.gs) (g := ⟨IntKind.i64.wrap ((r.gs.getD (IntKind.i64.wrap (((r.gs.length : Nat) : Int) - 1)).toNat default).num + 1), s, y, a⟩)
    · try simp only [hH, stdH, decide_eq_true_eq, decide_eq_false_iff_not, Bool.not_eq_true', Bool.not_eq_false', peta, ncast, Int.ofNat_eq_natCast, beq_iff_eq, bne_iff_ne, beq_eq_false_iff_ne, bne_eq_false_iff_eq, ne_eq, Classical.not_not, Int.toNat_natCast, vrow_I, Arm.eta2, Fld.eta, Grp.eta]
      exact GW_len (l := r.gs) (g := ⟨IntKind.i64.wrap ((r.gs.getD (IntKind.i64.wrap (((r.gs.length : Nat) : Int) - 1)).toNat default).num + 1), s, y, a⟩)
    · try simp only [hH, stdH, decide_eq_true_eq, decide_eq_false_iff_not, Bool.not_eq_true', Bool.not_eq_false', peta, ncast, Int.ofNat_eq_natCast, beq_iff_eq, bne_iff_ne, beq_eq_false_iff_ne, bne_eq_false_iff_eq, ne_eq, Classical.not_not, Int.toNat_natCast, vrow_I, Arm.eta2, Fld.eta, Grp.eta]
      exact GW_shp (l := r.gs) (g := ⟨IntKind.i64.wrap ((r.gs.getD (IntKind.i64.wrap (((r.gs.length : Nat) : Int) - 1)).toNat default).num + 1), s, y, a⟩)
    · try simp only [hH, stdH, decide_eq_true_eq, decide_eq_false_iff_not, Bool.not_eq_true', Bool.not_eq_false', peta, ncast, Int.ofNat_eq_natCast, beq_iff_eq, bne_iff_ne, beq_eq_false_iff_ne, bne_eq_false_iff_eq, ne_eq, Classical.not_not, Int.toNat_natCast, vrow_I, Arm.eta2, Fld.eta, Grp.eta]
      rw [Tl_len]; omega
    · try simp only [hH, stdH, decide_eq_true_eq, decide_eq_false_iff_not, Bool.not_eq_true', Bool.not_eq_false', peta, ncast, Int.ofNat_eq_natCast, beq_iff_eq, bne_iff_ne, beq_eq_false_iff_ne, bne_eq_false_iff_eq, ne_eq, Classical.not_not, Int.toNat_natCast, vrow_I, Arm.eta2, Fld.eta, Grp.eta]
      exact (GW_tl (l := r.gs) (g := ⟨IntKind.i64.wrap ((r.gs.getD (IntKind.i64.wrap (((r.gs.length : Nat) : Int) - 1)).toNat default).num + 1), s, y, a⟩)).symm ▸ hz
    · simp only [hH, stdH, Int.toNat_natCast] at h5
      change (!okRg (Tl rowW (r.gs.length + 1) (GW r.gs ⟨IntKind.i64.wrap ((r.gs.getD (IntKind.i64.wrap (((r.gs.length : Nat) : Int) - 1)).toNat default).num + 1), s, y, a⟩))) = true at h5
      rw [GW_tl, ← eO, Bool.not_eq_true'] at h5
      try simp only [hH, stdH, decide_eq_true_eq, decide_eq_false_iff_not, Bool.not_eq_true', Bool.not_eq_false', peta, ncast, Int.ofNat_eq_natCast, beq_iff_eq, bne_iff_ne, beq_eq_false_iff_ne, bne_eq_false_iff_eq, ne_eq, Classical.not_not, Int.toNat_natCast, vrow_I, Arm.eta2, Fld.eta, Grp.eta]
      exact h5
    · simp only [hH, stdH, Int.toNat_natCast] at h5
      change (!okRg (Tl rowW (r.gs.length + 1) (GW r.gs ⟨IntKind.i64.wrap ((r.gs.getD (IntKind.i64.wrap (((r.gs.length : Nat) : Int) - 1)).toNat default).num + 1), s, y, a⟩))) = true at h5
      rw [GW_tl, ← eO, Bool.not_eq_true'] at h5
      try simp only [hH, stdH, decide_eq_true_eq, decide_eq_false_iff_not, Bool.not_eq_true', Bool.not_eq_false', peta, ncast, Int.ofNat_eq_natCast, beq_iff_eq, bne_iff_ne, beq_eq_false_iff_ne, bne_eq_false_iff_eq, ne_eq, Classical.not_not, Int.toNat_natCast, vrow_I, Arm.eta2, Fld.eta, Grp.eta]
      rw [h5]; rfl
    · simp only [hH, stdH, Int.toNat_natCast] at h5
      change (!okRg (Tl rowW (r.gs.length + 1) (GW r.gs ⟨IntKind.i64.wrap ((r.gs.getD (IntKind.i64.wrap (((r.gs.length : Nat) : Int) - 1)).toNat default).num + 1), s, y, a⟩))) = true at h5
      rw [GW_tl, ← eO, Bool.not_eq_true'] at h5
      try simp only [hH, stdH, decide_eq_true_eq, decide_eq_false_iff_not, Bool.not_eq_true', Bool.not_eq_false', peta, ncast, Int.ofNat_eq_natCast, beq_iff_eq, bne_iff_ne, beq_eq_false_iff_ne, bne_eq_false_iff_eq, ne_eq, Classical.not_not, Int.toNat_natCast, vrow_I, Arm.eta2, Fld.eta, Grp.eta]
      rw [h5]; rfl
    · simp only [hH, stdH, Int.toNat_natCast] at h5
      change (!okRg (Tl rowW (r.gs.length + 1) (GW r.gs ⟨IntKind.i64.wrap ((r.gs.getD (IntKind.i64.wrap (((r.gs.length : Nat) : Int) - 1)).toNat default).num + 1), s, y, a⟩))) = false at h5
      rw [GW_tl, ← eO, Bool.not_eq_false'] at h5
      try simp only [hH, stdH, decide_eq_true_eq, decide_eq_false_iff_not, Bool.not_eq_true', Bool.not_eq_false', peta, ncast, Int.ofNat_eq_natCast, beq_iff_eq, bne_iff_ne, beq_eq_false_iff_ne, bne_eq_false_iff_eq, ne_eq, Classical.not_not, Int.toNat_natCast, vrow_I, Arm.eta2, Fld.eta, Grp.eta]
      exact h5
    · simp only [hH, stdH, Int.toNat_natCast] at h5
      change (!okRg (Tl rowW (r.gs.length + 1) (GW r.gs ⟨IntKind.i64.wrap ((r.gs.getD (IntKind.i64.wrap (((r.gs.length : Nat) : Int) - 1)).toNat default).num + 1), s, y, a⟩))) = false at h5
      rw [GW_tl, ← eO, Bool.not_eq_false'] at h5
      try simp only [hH, stdH, decide_eq_true_eq, decide_eq_false_iff_not, Bool.not_eq_true', Bool.not_eq_false', peta, ncast, Int.ofNat_eq_natCast, beq_iff_eq, bne_iff_ne, beq_eq_false_iff_ne, bne_eq_false_iff_eq, ne_eq, Classical.not_not, Int.toNat_natCast, vrow_I, Arm.eta2, Fld.eta, Grp.eta]
      rw [h5, if_pos rfl]; exact hn.symm
    · simp only [hH, stdH, Int.toNat_natCast] at h5
      change (!okRg (Tl rowW (r.gs.length + 1) (GW r.gs ⟨IntKind.i64.wrap ((r.gs.getD (IntKind.i64.wrap (((r.gs.length : Nat) : Int) - 1)).toNat default).num + 1), s, y, a⟩))) = false at h5
      rw [GW_tl, ← eO, Bool.not_eq_false'] at h5
      try simp only [hH, stdH, decide_eq_true_eq, decide_eq_false_iff_not, Bool.not_eq_true', Bool.not_eq_false', peta, ncast, Int.ofNat_eq_natCast, beq_iff_eq, bne_iff_ne, beq_eq_false_iff_ne, bne_eq_false_iff_eq, ne_eq, Classical.not_not, Int.toNat_natCast, vrow_I, Arm.eta2, Fld.eta, Grp.eta]
      rw [h5, if_pos rfl]
      unfold grG
      rw [← hn]
      exact GW_eq (l := r.gs) (g := ⟨IntKind.i64.wrap ((r.gs.getD (IntKind.i64.wrap (((r.gs.length : Nat) : Int) - 1)).toNat default).num + 1), s, y, a⟩)
  · simp only [hH, stdH, Int.toNat_natCast] at h3
    rw [Bool.not_eq_false'] at h3
    simp only [hH, stdH, decide_eq_true_eq, decide_eq_false_iff_not, Bool.not_eq_true', Bool.not_eq_false', peta, ncast, Int.ofNat_eq_natCast, beq_iff_eq, bne_iff_ne, beq_eq_false_iff_ne, bne_eq_false_iff_eq, ne_eq, Classical.not_not, Int.toNat_natCast, vrow_I, Arm.eta2, Fld.eta, Grp.eta] at h4
    have hn : 1 = grN r.gs := by unfold grN; rw [if_pos (by omega)]
    have eO : grO r.gs s y a = okRg (r.gs ++ [⟨1, s, y, a⟩]) := by unfold grO grG; rw [h3, ← hn]; rfl
    have hz : Nsz (r.gs ++ [⟨1, s, y, a⟩]) := ⟨fun x hx => by
      rcases List.mem_append.1 hx with hx | hx
      · exact h1.le x hx
      · rw [List.mem_singleton] at hx; subst hx; exact h2⟩
    refine ⟨⟨?_, ?_⟩, ⟨?_, ?_, ?_, ?_⟩, ⟨?_, ?_, ?_, ?_⟩, fun h5 => ⟨?_, ?_, ?_⟩, fun h5 => ⟨?_, ?_, ?_⟩⟩
    · try simp only [hH, stdH, decide_eq_true_eq, decide_eq_false_iff_not, Bool.not_eq_true', Bool.not_eq_false', peta, ncast, Int.ofNat_eq_natCast, beq_iff_eq, bne_iff_ne, beq_eq_false_iff_ne, bne_eq_false_iff_eq, ne_eq, Classical.not_not, Int.toNat_natCast, vrow_I, Arm.eta2, Fld.eta, Grp.eta]
      exact Shp_W _ _
    · try simp only [hH, stdH, decide_eq_true_eq, decide_eq_false_iff_not, Bool.not_eq_true', Bool.not_eq_false', peta, ncast, Int.ofNat_eq_natCast, beq_iff_eq, bne_iff_ne, beq_eq_false_iff_ne, bne_eq_false_iff_eq, ne_eq, Classical.not_not, Int.toNat_natCast, vrow_I, Arm.eta2, Fld.eta, Grp.eta]
      omega
    · try simp only [hH, stdH, decide_eq_true_eq, decide_eq_false_iff_not, Bool.not_eq_true', Bool.not_eq_false', peta, ncast, Int.ofNat_eq_natCast, beq_iff_eq, bne_iff_ne, beq_eq_false_iff_ne, bne_eq_false_iff_eq, ne_eq, Classical.not_not, Int.toNat_natCast, vrow_I, Arm.eta2, Fld.eta, Grp.eta]
      exact ⟨by omega, fun j hj => (by obtain rfl : j = 0 := by omega
                                       rfl)⟩
    · try simp only [hH, stdH, decide_eq_true_eq, decide_eq_false_iff_not, Bool.not_eq_true', Bool.not_eq_false', peta, ncast, Int.ofNat_eq_natCast, beq_iff_eq, bne_iff_ne, beq_eq_false_iff_ne, bne_eq_false_iff_eq, ne_eq, Classical.not_not, Int.toNat_natCast, vrow_I, Arm.eta2, Fld.eta, Grp.eta]
    · try simp only [hH, stdH, decide_eq_true_eq, decide_eq_false_iff_not, Bool.not_eq_true', Bool.not_eq_false', peta, ncast, Int.ofNat_eq_natCast, beq_iff_eq, bne_iff_ne, beq_eq_false_iff_ne, bne_eq_false_iff_eq, ne_eq, Classical.not_not, Int.toNat_natCast, vrow_I, Arm.eta2, Fld.eta, Grp.eta]
      ((repeat' (with_reducible refine And.intro ?_ ?_)) <;> (first | exact True.intro | omega | exact Eq.refl _))
    · try simp only [hH, stdH, decide_eq_true_eq, decide_eq_false_iff_not, Bool.not_eq_true', Bool.not_eq_false', peta, ncast, Int.ofNat_eq_natCast, beq_iff_eq, bne_iff_ne, beq_eq_false_iff_ne, bne_eq_false_iff_eq, ne_eq, Classical.not_not, Int.toNat_natCast, vrow_I, Arm.eta2, Fld.eta, Grp.eta]
      exact GW_pl (l := r.gs) (g := ⟨1, s, y, a⟩)
    · try simp only [hH, stdH, decide_eq_true_eq, decide_eq_false_iff_not, Bool.not_eq_true', Bool.not_eq_false', peta, ncast, Int.ofNat_eq_natCast, beq_iff_eq, bne_iff_ne, beq_eq_false_iff_ne, bne_eq_false_iff_eq, ne_eq, Classical.not_not, Int.toNat_natCast, vrow_I, Arm.eta2, Fld.eta, Grp.eta]
      exact GW_len (l := r.gs) (g := ⟨1, s, y, a⟩)
    · try simp only [hH, stdH, decide_eq_true_eq, decide_eq_false_iff_not, Bool.not_eq_true', Bool.not_eq_false', peta, ncast, Int.ofNat_eq_natCast, beq_iff_eq, bne_iff_ne, beq_eq_false_iff_ne, bne_eq_false_iff_eq, ne_eq, Classical.not_not, Int.toNat_natCast, vrow_I, Arm.eta2, Fld.eta, Grp.eta]
      exact GW_shp (l := r.gs) (g := ⟨1, s, y, a⟩)
    · try simp only [hH, stdH, decide_eq_true_eq, decide_eq_false_iff_not, Bool.not_eq_true', Bool.not_eq_false', peta, ncast, Int.ofNat_eq_natCast, beq_iff_eq, bne_iff_ne, beq_eq_false_iff_ne, bne_eq_false_iff_eq, ne_eq, Classical.not_not, Int.toNat_natCast, vrow_I, Arm.eta2, Fld.eta, Grp.eta]
      rw [Tl_len]; omega
    · try simp only [hH, stdH, decide_eq_true_eq, decide_eq_false_iff_not, Bool.not_eq_true', Bool.not_eq_false', peta, ncast, Int.ofNat_eq_natCast, beq_iff_eq, bne_iff_ne, beq_eq_false_iff_ne, bne_eq_false_iff_eq, ne_eq, Classical.not_not, Int.toNat_natCast, vrow_I, Arm.eta2, Fld.eta, Grp.eta]
      exact (GW_tl (l := r.gs) (g := ⟨1, s, y, a⟩)).symm ▸ hz
    · simp only [hH, stdH, Int.toNat_natCast] at h5
      change (!okRg (Tl rowW (r.gs.length + 1) (GW r.gs ⟨1, s, y, a⟩))) = true at h5
      rw [GW_tl, ← eO, Bool.not_eq_true'] at h5
      try simp only [hH, stdH, decide_eq_true_eq, decide_eq_false_iff_not, Bool.not_eq_true', Bool.not_eq_false', peta, ncast, Int.ofNat_eq_natCast, beq_iff_eq, bne_iff_ne, beq_eq_false_iff_ne, bne_eq_false_iff_eq, ne_eq, Classical.not_not, Int.toNat_natCast, vrow_I, Arm.eta2, Fld.eta, Grp.eta]
      exact h5
    · simp only [hH, stdH, Int.toNat_natCast] at h5
      change (!okRg (Tl rowW (r.gs.length + 1) (GW r.gs ⟨1, s, y, a⟩))) = true at h5
      rw [GW_tl, ← eO, Bool.not_eq_true'] at h5
      try simp only [hH, stdH, decide_eq_true_eq, decide_eq_false_iff_not, Bool.not_eq_true', Bool.not_eq_false', peta, ncast, Int.ofNat_eq_natCast, beq_iff_eq, bne_iff_ne, beq_eq_false_iff_ne, bne_eq_false_iff_eq, ne_eq, Classical.not_not, Int.toNat_natCast, vrow_I, Arm.eta2, Fld.eta, Grp.eta]
      rw [h5]; rfl
    · simp only [hH, stdH, Int.toNat_natCast] at h5
      change (!okRg (Tl rowW (r.gs.length + 1) (GW r.gs ⟨1, s, y, a⟩))) = true at h5
      rw [GW_tl, ← eO, Bool.not_eq_true'] at h5
      try simp only [hH, stdH, decide_eq_true_eq, decide_eq_false_iff_not, Bool.not_eq_true', Bool.not_eq_false', peta, ncast, Int.ofNat_eq_natCast, beq_iff_eq, bne_iff_ne, beq_eq_false_iff_ne, bne_eq_false_iff_eq, ne_eq, Classical.not_not, Int.toNat_natCast, vrow_I, Arm.eta2, Fld.eta, Grp.eta]
      rw [h5]; rfl
    · simp only [hH, stdH, Int.toNat_natCast] at h5
      change (!okRg (Tl rowW (r.gs.length + 1) (GW r.gs ⟨1, s, y, a⟩))) = false at h5
      rw [GW_tl, ← eO, Bool.not_eq_false'] at h5
      try simp only [hH, stdH, decide_eq_true_eq, decide_eq_false_iff_not, Bool.not_eq_true', Bool.not_eq_false', peta, ncast, Int.ofNat_eq_natCast, beq_iff_eq, bne_iff_ne, beq_eq_false_iff_ne, bne_eq_false_iff_eq, ne_eq, Classical.not_not, Int.toNat_natCast, vrow_I, Arm.eta2, Fld.eta, Grp.eta]
      exact h5
    · simp only [hH, stdH, Int.toNat_natCast] at h5
      change (!okRg (Tl rowW (r.gs.length + 1) (GW r.gs ⟨1, s, y, a⟩))) = false at h5
      rw [GW_tl, ← eO, Bool.not_eq_false'] at h5
      try simp only [hH, stdH, decide_eq_true_eq, decide_eq_false_iff_not, Bool.not_eq_true', Bool.not_eq_false', peta, ncast, Int.ofNat_eq_natCast, beq_iff_eq, bne_iff_ne, beq_eq_false_iff_ne, bne_eq_false_iff_eq, ne_eq, Classical.not_not, Int.toNat_natCast, vrow_I, Arm.eta2, Fld.eta, Grp.eta]
      rw [h5, if_pos rfl]; exact hn.symm
    · simp only [hH, stdH, Int.toNat_natCast] at h5
      change (!okRg (Tl rowW (r.gs.length + 1) (GW r.gs ⟨1, s, y, a⟩))) = false at h5
      rw [GW_tl, ← eO, Bool.not_eq_false'] at h5
      try simp only [hH, stdH, decide_eq_true_eq, decide_eq_false_iff_not, Bool.not_eq_true', Bool.not_eq_false', peta, ncast, Int.ofNat_eq_natCast, beq_iff_eq, bne_iff_ne, beq_eq_false_iff_ne, bne_eq_false_iff_eq, ne_eq, Classical.not_not, Int.toNat_natCast, vrow_I, Arm.eta2, Fld.eta, Grp.eta]
      rw [h5, if_pos rfl]
      unfold grG
      rw [← hn]
      exact GW_eq (l := r.gs) (g := ⟨1, s, y, a⟩)
noncomputable def e_grantS : Entry := pureE 22 fun H a => match a with
  | [.agg [.vec 18 r0n r0f], .lit (.string s), .lit (.int .i64 y), .agg [.lit (.int .i64 a0), .lit (.int .i64 a1), .lit (.int .i64 a2), .lit (.int .i64 a3), .lit (.int .i64 a4), .lit (.int .i64 a5), .lit (.int .i64 a6), .lit (.int .i64 a7), .lit (.int .i64 a8), .lit (.int .i64 a9), .lit (.int .i64 a10), .lit (.int .i64 a11), .lit (.int .i64 a12), .lit (.int .i64 a13), .lit (.int .i64 a14)]] => some (.tup [aT rowJ H fun _ => ⟨if grO (⟨(Tl rowW r0n r0f)⟩ : Rgr).gs s y (⟨⟨a0, a1, a2, a3⟩, a4, a5, a6, ⟨a7, a8, a9, a10⟩, ⟨a11, a12, a13, a14⟩⟩ : Arm) then (⟨(Tl rowW r0n r0f)⟩ : Rgr).gs ++ [grG (⟨(Tl rowW r0n r0f)⟩ : Rgr).gs s y (⟨⟨a0, a1, a2, a3⟩, a4, a5, a6, ⟨a7, a8, a9, a10⟩, ⟨a11, a12, a13, a14⟩⟩ : Arm)] else []⟩, .lit (.int .i64 (H Int fun _ => if grO (⟨(Tl rowW r0n r0f)⟩ : Rgr).gs s y (⟨⟨a0, a1, a2, a3⟩, a4, a5, a6, ⟨a7, a8, a9, a10⟩, ⟨a11, a12, a13, a14⟩⟩ : Arm) then grN (⟨(Tl rowW r0n r0f)⟩ : Rgr).gs else 0)), .lit (.bool (H Bool fun _ => grO (⟨(Tl rowW r0n r0f)⟩ : Rgr).gs s y (⟨⟨a0, a1, a2, a3⟩, a4, a5, a6, ⟨a7, a8, a9, a10⟩, ⟨a11, a12, a13, a14⟩⟩ : Arm)))], [H Prop fun _ => Shp rowW r0n r0f, H Prop fun _ => (⟨(Tl rowW r0n r0f)⟩ : Rgr).gs.length ≤ 100000, H Prop fun _ => Nsz (⟨(Tl rowW r0n r0f)⟩ : Rgr).gs, H Prop fun _ => s.size ≤ 1000000])
  | _ => none
theorem eok_grantS : EntryOk Try.prog e_grantS := pureM_ok (by unfold isBody; kernel_rfl) (by
  intro a r ob e hob
  split at e
  · rename_i r0n r0f s y a0 a1 a2 a3 a4 a5 a6 a7 a8 a9 a10 a11 a12 a13 a14
    simp only [Option.some.injEq, Prod.mk.injEq] at e
    obtain ⟨rfl, rfl⟩ := e
    exact ConN.args (.cons (.agg (.cons (.toT okRW rfl hob.1) .nil)) (.cons .rfl (.cons .rfl (.cons .rfl .nil)))) (c_grantS (⟨(Tl rowW r0n r0f)⟩ : Rgr) s y (⟨⟨a0, a1, a2, a3⟩, a4, a5, a6, ⟨a7, a8, a9, a10⟩, ⟨a11, a12, a13, a14⟩⟩ : Arm) hob.2.1 hob.2.2.1 hob.2.2.2.1)
  · simp at e)

end Go.Proofs.Ytoommgpcmgnpaaa.AM
