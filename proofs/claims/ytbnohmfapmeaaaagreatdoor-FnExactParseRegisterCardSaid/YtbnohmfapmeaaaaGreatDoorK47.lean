/- Lemmas and contracts (Rge); conditions: none. -/
import Derived.Test.YtbnohmfapmeaaaaGreatDoorK03
import Derived.Test.YtbnohmfapmeaaaaGreatDoorK10
import Derived.Test.YtbnohmfapmeaaaaGreatDoorK41
set_option linter.unusedVariables false
set_option linter.unusedSimpArgs false
set_option maxRecDepth 100000
set_option maxHeartbeats 4000000
set_option cbv.maxSteps 3000000
namespace Go.Proofs.YtbnohmfapmeaaaaGreatDoor.AM
/- Registers held against each other; conditions: none. -/
theorem c_eqGrant (a : Grt) (b : Grt)  : ConN Tryz.prog 162 [aT rowW stdH fun _ => a, aT rowW stdH fun _ => b] [] 0 (.lit (.bool (stdH Bool fun _ => decide (a = b)))) [] [] := by
  have hB : Base Tryz.prog (tabΓ [e_eqArms]) tab := base_of tabOk (ents_cons eok_eqArms <| ents_nil)
  refine con_m (N := 26) hB (draw_ok hB mixed) Tryz.func162 rfl rfl (fun H => [aT rowW H fun _ => a, aT rowW H fun _ => b]) (fun _ => []) 0 (fun H => .lit (.bool (H Bool fun _ => decide (a = b)))) (fun H => []) (fun _ => []) 200 (by simp) (fun x hx => ?_) (by simp [lk]) (by omega) (by simp) ?_
  · simp only [List.mem_cons, List.not_mem_nil, or_false] at hx
    rcases hx with rfl | rfl
    · exact aT_bl okRW _ _
    · exact aT_bl okRW _ _
  intro X hX hX0 H hH
  conv in Fin.chk _ _ => cbv
  try simp only [Plain_rowsA, Plain_rowsB, Plain_rowsC, Plain_rowsF, Plain_rowsG, Plain_rowsI, Plain_rowsS, Plain_rowsU, Fin.satC_ret, Fin.satC_br, Fin.satC_need, Fin.satC_again, AllP, and_true, true_and, upd, List.length_nil, List.length_cons, Nat.zero_add, if_true, ncast, Int.ofNat_eq_natCast]
  subst hH
  simp only [stdH, Arm.eta2, Fld.eta, Grp.eta]
  obtain ⟨a0, a1, a2, a3⟩ := a
  obtain ⟨b0, b1, b2, b3⟩ := b
  simp only [beqT]
  by_cases h0 : a0 = b0 <;> by_cases h1 : a1 = b1 <;> by_cases h2 : a2 = b2 <;> by_cases h3 : a3 = b3 <;> simp [h0, h1, h2, h3]
noncomputable def e_eqGrant : Entry := pureE 162 fun H a => match a with
  | [.agg [.lit (.int .i64 a0), .lit (.string a1), .lit (.int .i64 a2), .lit (.int .i64 a3), .lit (.int .i64 a4), .lit (.int .i64 a5), .lit (.int .i64 a6), .lit (.int .i64 a7), .lit (.int .i64 a8), .lit (.int .i64 a9), .lit (.int .i64 a10), .lit (.int .i64 a11), .lit (.int .i64 a12), .lit (.int .i64 a13), .lit (.int .i64 a14), .lit (.int .i64 a15), .lit (.int .i64 a16), .lit (.int .i64 a17)], .agg [.lit (.int .i64 b0), .lit (.string b1), .lit (.int .i64 b2), .lit (.int .i64 b3), .lit (.int .i64 b4), .lit (.int .i64 b5), .lit (.int .i64 b6), .lit (.int .i64 b7), .lit (.int .i64 b8), .lit (.int .i64 b9), .lit (.int .i64 b10), .lit (.int .i64 b11), .lit (.int .i64 b12), .lit (.int .i64 b13), .lit (.int .i64 b14), .lit (.int .i64 b15), .lit (.int .i64 b16), .lit (.int .i64 b17)]] => some (.lit (.bool (H Bool fun _ => decide ((⟨a0, a1, a2, ⟨⟨a3, a4, a5, a6⟩, a7, a8, a9, ⟨a10, a11, a12, a13⟩, ⟨a14, a15, a16, a17⟩⟩⟩ : Grt) = (⟨b0, b1, b2, ⟨⟨b3, b4, b5, b6⟩, b7, b8, b9, ⟨b10, b11, b12, b13⟩, ⟨b14, b15, b16, b17⟩⟩⟩ : Grt)))), [])
  | _ => none
theorem eok_eqGrant : EntryOk Tryz.prog e_eqGrant := pureM_ok (by unfold isBody; kernel_rfl) (by
  intro a r ob e hob
  split at e
  · rename_i a0 a1 a2 a3 a4 a5 a6 a7 a8 a9 a10 a11 a12 a13 a14 a15 a16 a17 b0 b1 b2 b3 b4 b5 b6 b7 b8 b9 b10 b11 b12 b13 b14 b15 b16 b17
    simp only [Option.some.injEq, Prod.mk.injEq] at e
    obtain ⟨rfl, rfl⟩ := e
    exact ConN.args (.cons .rfl (.cons .rfl .nil)) (c_eqGrant (⟨a0, a1, a2, ⟨⟨a3, a4, a5, a6⟩, a7, a8, a9, ⟨a10, a11, a12, a13⟩, ⟨a14, a15, a16, a17⟩⟩⟩ : Grt) (⟨b0, b1, b2, ⟨⟨b3, b4, b5, b6⟩, b7, b8, b9, ⟨b10, b11, b12, b13⟩, ⟨b14, b15, b16, b17⟩⟩⟩ : Grt) )
  · simp at e)
theorem c_eqGrantS (a : List Grt) (b : List Grt) (h0 : a.length ≤ 100000000) : ConN Tryz.prog 92 [.vec 18 (stdH Nat fun _ => (a).length) (rowsW stdH fun _ => a), .vec 18 (stdH Nat fun _ => (b).length) (rowsW stdH fun _ => b)] [] 0 (.lit (.bool (stdH Bool fun _ => decide (a = b)))) [] [] := by
  have hB : Base Tryz.prog (tabΓ [e_eqGrant]) tab := base_of tabOk (ents_cons eok_eqGrant <| ents_nil)
  refine con_m (N := 27) hB (draw_ok hB mixed) Tryz.func92 rfl rfl (fun H => [.vec 18 (H Nat fun _ => (a).length) (rowsW H fun _ => a), .vec 18 (H Nat fun _ => (b).length) (rowsW H fun _ => b)]) (fun _ => []) 0 (fun H => .lit (.bool (H Bool fun _ => decide (a = b)))) (fun H => []) (fun _ => []) 100 (by simp) (fun x hx => ?_) (by simp [lk]) (by omega) (by simp) ?_
  · simp only [List.mem_cons, List.not_mem_nil, or_false] at hx
    rcases hx with rfl | rfl
    · exact vl_bl okRW a _
    · exact vl_bl okRW b _
  intro X hX hX0 H hH
  conv in Fin.chk _ _ => cbv
  try simp only [Plain_rowsA, Plain_rowsB, Plain_rowsC, Plain_rowsF, Plain_rowsG, Plain_rowsI, Plain_rowsS, Plain_rowsU, Fin.satC_ret, Fin.satC_br, Fin.satC_need, Fin.satC_again, AllP, and_true, true_and, upd, List.length_nil, List.length_cons, Nat.zero_add, if_true, ncast, Int.ofNat_eq_natCast]
  refine ⟨fun h => ?_, fun h => ?_⟩
  · simp only [hH, stdH, Nat.le_refl, decide_eq_true_eq, decide_eq_false_iff_not, Bool.not_eq_true', Bool.not_eq_false', peta, ncast, Int.ofNat_eq_natCast, beq_iff_eq, bne_iff_ne, beq_eq_false_iff_ne, bne_eq_false_iff_eq, ne_eq, Classical.not_not, Int.toNat_natCast, vrow_I, Arm.eta2, Fld.eta, Grp.eta] at h ⊢
    rintro rfl; exact h rfl
  simp only [hH, stdH, Nat.le_refl, decide_eq_true_eq, decide_eq_false_iff_not, Bool.not_eq_true', Bool.not_eq_false', peta, ncast, Int.ofNat_eq_natCast, beq_iff_eq, bne_iff_ne, beq_eq_false_iff_ne, bne_eq_false_iff_eq, ne_eq, Classical.not_not, Int.toNat_natCast, vrow_I, Arm.eta2, Fld.eta, Grp.eta] at h
  refine loop_a hB (draw_ok hB mixed) hX hX0 hH false (ι := { i : Nat // i ≤ a.length ∧ ∀ j, j < i → a.getD j default = b.getD j default }) 100 (fun i => [.i (H Int fun _ => (i.1 : Nat))]) (fun i => a.length - i.1) (⟨0, by omega, by omega⟩) ?_ ?_
  · (conv in matchSt _ _ _ _ => cbv); simp only [AllG, AllP, and_true, hH, stdH, Nat.le_refl, ncast, Int.ofNat_eq_natCast, vrow_I, Arm.eta2, Fld.eta, Grp.eta]
    all_goals (repeat' (with_reducible refine And.intro ?_ ?_)) <;> (first | exact Eq.refl _ | exact True.intro | exact Nat.le_refl _ | exact RowsEq.self okRW | exact RowsEq.ofT okRW rfl (Shp_zero _) rfl | exact RowsEq.snoc okRW rfl | exact List.length_append | exact c.rqN)
  · intro I hI i
    conv in Fin.chk _ _ => cbv
    try simp only [Plain_rowsA, Plain_rowsB, Plain_rowsC, Plain_rowsF, Plain_rowsG, Plain_rowsI, Plain_rowsS, Plain_rowsU, Fin.satC_ret, Fin.satC_br, Fin.satC_need, Fin.satC_again, AllP, and_true, true_and, upd, List.length_nil, List.length_cons, Nat.zero_add, if_true, ncast, Int.ofNat_eq_natCast]
    obtain ⟨i, hi, hj⟩ := i
    simp only [hetaA hH, hetaW hH]
    refine ⟨fun h1 => ⟨?_, ?_, fun h2 => ?_, fun h2 => ?_⟩, fun h1 => ?_⟩
    · simp only [hH, stdH, Nat.le_refl, decide_eq_true_eq, decide_eq_false_iff_not, Bool.not_eq_true', Bool.not_eq_false', peta, ncast, Int.ofNat_eq_natCast, beq_iff_eq, bne_iff_ne, beq_eq_false_iff_ne, bne_eq_false_iff_eq, ne_eq, Classical.not_not, Int.toNat_natCast, vrow_I, Arm.eta2, Fld.eta, Grp.eta] at h1 ⊢
      omega
    · simp only [hH, stdH, Nat.le_refl, decide_eq_true_eq, decide_eq_false_iff_not, Bool.not_eq_true', Bool.not_eq_false', peta, ncast, Int.ofNat_eq_natCast, beq_iff_eq, bne_iff_ne, beq_eq_false_iff_ne, bne_eq_false_iff_eq, ne_eq, Classical.not_not, Int.toNat_natCast, vrow_I, Arm.eta2, Fld.eta, Grp.eta] at h1 ⊢
      omega
    · simp only [hH, stdH, Nat.le_refl, decide_eq_true_eq, decide_eq_false_iff_not, Bool.not_eq_true', Bool.not_eq_false', peta, ncast, Int.ofNat_eq_natCast, beq_iff_eq, bne_iff_ne, beq_eq_false_iff_ne, bne_eq_false_iff_eq, ne_eq, Classical.not_not, Int.toNat_natCast, vrow_I, Arm.eta2, Fld.eta, Grp.eta] at h2 ⊢
      rintro rfl; exact h2 rfl
    · simp only [hH, stdH, Nat.le_refl, decide_eq_true_eq, decide_eq_false_iff_not, Bool.not_eq_true', Bool.not_eq_false', peta, ncast, Int.ofNat_eq_natCast, beq_iff_eq, bne_iff_ne, beq_eq_false_iff_ne, bne_eq_false_iff_eq, ne_eq, Classical.not_not, Int.toNat_natCast, vrow_I, Arm.eta2, Fld.eta, Grp.eta] at h1 h2
      refine ⟨⟨i + 1, by omega, fun j hj' => ?_⟩, by simp only; omega, ?_⟩
      · rcases Nat.lt_succ_iff_lt_or_eq.1 hj' with h | rfl
        · exact hj j h
        · exact h2
      · rw [hI]
        (conv in matchSt _ _ _ _ => cbv); simp only [AllG, AllP, and_true, hH, stdH, Nat.le_refl, ncast, Int.ofNat_eq_natCast, vrow_I, Arm.eta2, Fld.eta, Grp.eta]
        rw [w1 (by omega)]
        all_goals (repeat' (with_reducible refine And.intro ?_ ?_)) <;> (first | exact Eq.refl _ | exact True.intro | exact Nat.le_refl _ | exact RowsEq.self okRW | exact RowsEq.ofT okRW rfl (Shp_zero _) rfl | exact RowsEq.snoc okRW rfl | exact List.length_append | exact c.rqN)
    · simp only [hH, stdH, Nat.le_refl, decide_eq_true_eq, decide_eq_false_iff_not, Bool.not_eq_true', Bool.not_eq_false', peta, ncast, Int.ofNat_eq_natCast, beq_iff_eq, bne_iff_ne, beq_eq_false_iff_ne, bne_eq_false_iff_eq, ne_eq, Classical.not_not, Int.toNat_natCast, vrow_I, Arm.eta2, Fld.eta, Grp.eta] at h1 ⊢
      obtain rfl : i = a.length := by omega
      exact list_ext_getD default (by omega) hj
noncomputable def e_eqGrantS : Entry := pureE 92 fun H a => match a with
  | [.vec 18 an af, .vec 18 bn bf] => some (.lit (.bool (H Bool fun _ => decide ((Tl rowW an af) = (Tl rowW bn bf)))), [H Prop fun _ => Shp rowW an af, H Prop fun _ => Shp rowW bn bf, H Prop fun _ => (Tl rowW an af).length ≤ 100000000])
  | _ => none
theorem eok_eqGrantS : EntryOk Tryz.prog e_eqGrantS := pureM_ok (by unfold isBody; kernel_rfl) (by
  intro a r ob e hob
  split at e
  · rename_i an af bn bf
    simp only [Option.some.injEq, Prod.mk.injEq] at e
    obtain ⟨rfl, rfl⟩ := e
    exact ConN.args (.cons (.toT okRW rfl hob.1) (.cons (.toT okRW rfl hob.2.1) .nil)) (c_eqGrantS (Tl rowW an af) (Tl rowW bn bf) hob.2.2.1)
  · simp at e)
theorem c_eqRegister (a : Rgr) (b : Rgr) (h0 : a.gs.length ≤ 100000000) : ConN Tryz.prog 26 [aT rowJ stdH fun _ => a, aT rowJ stdH fun _ => b] [] 0 (.lit (.bool (stdH Bool fun _ => decide (a.gs = b.gs)))) [] [] := by
  have hB : Base Tryz.prog (tabΓ [e_eqGrantS]) tab := base_of tabOk (ents_cons eok_eqGrantS <| ents_nil)
  refine con_m (N := 11) hB (draw_ok hB mixed) Tryz.func26 rfl rfl (fun H => [aT rowJ H fun _ => a, aT rowJ H fun _ => b]) (fun _ => []) 0 (fun H => .lit (.bool (H Bool fun _ => decide (a.gs = b.gs)))) (fun H => []) (fun _ => []) 100 (by simp) (fun x hx => ?_) (by simp [lk]) (by omega) (by simp) ?_
  · simp only [List.mem_cons, List.not_mem_nil, or_false] at hx
    rcases hx with rfl | rfl
    · exact aT_bl okRJ _ _
    · exact aT_bl okRJ _ _
  intro X hX hX0 H hH
  conv in Fin.chk _ _ => cbv
  try simp only [Plain_rowsA, Plain_rowsB, Plain_rowsC, Plain_rowsF, Plain_rowsG, Plain_rowsI, Plain_rowsS, Plain_rowsU, Fin.satC_ret, Fin.satC_br, Fin.satC_need, Fin.satC_again, AllP, and_true, true_and, upd, List.length_nil, List.length_cons, Nat.zero_add, if_true, ncast, Int.ofNat_eq_natCast]
  subst hH
  simp only [stdH, Tl_W]
  exact ⟨⟨Shp_W _ _, Shp_W _ _, h0⟩, fun h => by simpa using h, fun h => by simpa using h⟩
noncomputable def e_eqRegister : Entry := pureE 26 fun H a => match a with
  | [.agg [.vec 18 a0n a0f], .agg [.vec 18 b0n b0f]] => some (.lit (.bool (H Bool fun _ => decide ((⟨(Tl rowW a0n a0f)⟩ : Rgr).gs = (⟨(Tl rowW b0n b0f)⟩ : Rgr).gs))), [H Prop fun _ => Shp rowW a0n a0f, H Prop fun _ => Shp rowW b0n b0f, H Prop fun _ => (⟨(Tl rowW a0n a0f)⟩ : Rgr).gs.length ≤ 100000000])
  | _ => none
theorem eok_eqRegister : EntryOk Tryz.prog e_eqRegister := pureM_ok (by unfold isBody; kernel_rfl) (by
  intro a r ob e hob
  split at e
  · rename_i a0n a0f b0n b0f
    simp only [Option.some.injEq, Prod.mk.injEq] at e
    obtain ⟨rfl, rfl⟩ := e
    exact ConN.args (.cons (.agg (.cons (.toT okRW rfl hob.1) .nil)) (.cons (.agg (.cons (.toT okRW rfl hob.2.1) .nil)) .nil)) (c_eqRegister (⟨(Tl rowW a0n a0f)⟩ : Rgr) (⟨(Tl rowW b0n b0f)⟩ : Rgr) hob.2.2.1)
  · simp at e)

end Go.Proofs.YtbnohmfapmeaaaaGreatDoor.AM

