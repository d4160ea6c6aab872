/- Lemmas and contracts (Rgx); conditions: none. -/
import Derived.Test.YtcjjffmbhionmaaGreatDoorK03
import Derived.Test.YtcjjffmbhionmaaGreatDoorK29
set_option linter.unusedVariables false
set_option linter.unusedSimpArgs false
set_option maxRecDepth 100000
set_option maxHeartbeats 4000000
set_option cbv.maxSteps 3000000
namespace Go.Proofs.YtcjjffmbhionmaaGreatDoor.AM
/- Registers searched; conditions: none. -/
theorem c_idxRg (s : List Grt) (f0 : Grt) (h0 : s.length ≤ 2000000) : ConN Tryz.prog 105 [.vec 18 (stdH Nat fun _ => (s).length) (rowsW stdH fun _ => s), .fn (.func 72) [] [.rptr (rowW.cells stdH fun _ => f0)]] [] 0 (.lit (.int .i64 (stdH Int fun _ => idxF (cnfI f0) s))) [] [] := by
  have hB : Base Tryz.prog (tabΓ [e_rgC]) tab := base_of tabOk (ents_cons eok_rgC <| ents_nil)
  refine con_m (N := 19) hB (draw_ok hB mixed) Tryz.func105 rfl rfl (fun H => [.vec 18 (H Nat fun _ => (s).length) (rowsW H fun _ => s), .fn (.func 72) [] [.rptr (rowW.cells H fun _ => f0)]]) (fun _ => []) 0 (fun H => .lit (.int .i64 (H Int fun _ => idxF (cnfI f0) s))) (fun H => []) (fun _ => []) 100 (by simp) (fun x hx => ?_) (by simp [lk]) (by omega) (by simp) ?_
  · simp only [List.mem_cons, List.not_mem_nil, or_false] at hx
    rcases hx with rfl | rfl
    · exact vl_bl okRW s _
    · exact (by
        refine .fn (fun c hc => by cases hc) ?_
        intro c hc
        simp only [List.mem_cons, List.not_mem_nil, or_false] at hc
        rcases hc with rfl
        · exact (.rptr fun c hc => (okRW.bl (fun _ => f0) c hc).mono (Nat.zero_le _)))
  intro X hX hX0 H hH
  conv in Fin.chk _ _ => cbv
  try simp only [Fin.satC_ret, Fin.satC_br, Fin.satC_need, Fin.satC_again, AllP, and_true, true_and, upd, List.length_nil, List.length_cons, Nat.zero_add, if_true, ncast, Int.ofNat_eq_natCast]
  refine loop_a hB (draw_ok hB mixed) hX hX0 hH false (ι := { i : Nat // i ≤ (s).length ∧ ∀ j, j < i → (cnfI f0) ((s).getD j default) = false }) 100 (fun i => [.i (H Int fun _ => 0), .i (H Int fun _ => (i.1 : Nat))]) (fun i => (s).length - i.1) (⟨0, by omega, by omega⟩) ?_ ?_
  · (conv in matchSt _ _ _ _ => cbv); simp only [AllG, AllP, and_true, hH, stdH, Nat.le_refl, ncast, Int.ofNat_eq_natCast, vrow_I, Arm.eta2, Fld.eta, Grp.eta]
    all_goals (repeat' (with_reducible refine And.intro ?_ ?_)) <;> (first | exact Eq.refl _ | exact True.intro | exact Nat.le_refl _ | exact RowsEq.self okRW | exact RowsEq.ofT okRW rfl (Shp_zero _) rfl | exact RowsEq.snoc okRW rfl | exact List.length_append | exact c.rqN)
  · intro I hI i
    conv in Fin.chk _ _ => cbv
    try simp only [Fin.satC_ret, Fin.satC_br, Fin.satC_need, Fin.satC_again, AllP, and_true, true_and, upd, List.length_nil, List.length_cons, Nat.zero_add, if_true, ncast, Int.ofNat_eq_natCast]
    obtain ⟨i, hi, hj⟩ := i
    refine ⟨fun h1 => ⟨?_, fun h2 => ?_, fun h2 => ?_⟩, fun h1 => ?_⟩
    · simp only [hH, stdH, Nat.le_refl, decide_eq_true_eq, decide_eq_false_iff_not, Bool.not_eq_true', Bool.not_eq_false', peta, ncast, Int.ofNat_eq_natCast, beq_iff_eq, bne_iff_ne, beq_eq_false_iff_ne, bne_eq_false_iff_eq, ne_eq, Classical.not_not, Int.toNat_natCast, vrow_I, Arm.eta2, Fld.eta, Grp.eta] at h1 ⊢
      omega
    · simp only [hH, stdH, Nat.le_refl, decide_eq_true_eq, decide_eq_false_iff_not, Bool.not_eq_true', Bool.not_eq_false', peta, ncast, Int.ofNat_eq_natCast, beq_iff_eq, bne_iff_ne, beq_eq_false_iff_ne, bne_eq_false_iff_eq, ne_eq, Classical.not_not, Int.toNat_natCast, vrow_I, Arm.eta2, Fld.eta, Grp.eta] at h1
      simp only [hH, stdH, Int.toNat_natCast] at h2
      have h3 : (cnfI f0) ((s).getD i default) = true := by exact h2
      try simp only [hH, stdH, Nat.le_refl, decide_eq_true_eq, decide_eq_false_iff_not, Bool.not_eq_true', Bool.not_eq_false', peta, ncast, Int.ofNat_eq_natCast, beq_iff_eq, bne_iff_ne, beq_eq_false_iff_ne, bne_eq_false_iff_eq, ne_eq, Classical.not_not, Int.toNat_natCast, vrow_I, Arm.eta2, Fld.eta, Grp.eta]
      exact idxF_at default (by omega) h3 hj
    · simp only [hH, stdH, Nat.le_refl, decide_eq_true_eq, decide_eq_false_iff_not, Bool.not_eq_true', Bool.not_eq_false', peta, ncast, Int.ofNat_eq_natCast, beq_iff_eq, bne_iff_ne, beq_eq_false_iff_ne, bne_eq_false_iff_eq, ne_eq, Classical.not_not, Int.toNat_natCast, vrow_I, Arm.eta2, Fld.eta, Grp.eta] at h1
      simp only [hH, stdH, Int.toNat_natCast] at h2
      have h3 : (cnfI f0) ((s).getD i default) = false := by exact h2
      refine ⟨⟨i + 1, by omega, fun j hj' => ?_⟩, by simp only; omega, ?_⟩
      · rcases Nat.lt_succ_iff_lt_or_eq.1 hj' with h | rfl
        · exact hj j h
        · exact h3
      · rw [hI]
        (conv in matchSt _ _ _ _ => cbv); simp only [AllG, AllP, and_true, hH, stdH, Nat.le_refl, ncast, Int.ofNat_eq_natCast, vrow_I, Arm.eta2, Fld.eta, Grp.eta]
        rw [w1 (by omega)]
        all_goals (repeat' (with_reducible refine And.intro ?_ ?_)) <;> (first | exact Eq.refl _ | exact True.intro | exact Nat.le_refl _ | exact RowsEq.self okRW | exact RowsEq.ofT okRW rfl (Shp_zero _) rfl | exact RowsEq.snoc okRW rfl | exact List.length_append | exact c.rqN)
    · simp only [hH, stdH, Nat.le_refl, decide_eq_true_eq, decide_eq_false_iff_not, Bool.not_eq_true', Bool.not_eq_false', peta, ncast, Int.ofNat_eq_natCast, beq_iff_eq, bne_iff_ne, beq_eq_false_iff_ne, bne_eq_false_iff_eq, ne_eq, Classical.not_not, Int.toNat_natCast, vrow_I, Arm.eta2, Fld.eta, Grp.eta] at h1 ⊢
      exact idxF_no default fun j hj' => hj j (by omega)
noncomputable def e_idxRg : Entry := pureE 105 fun H a => match a with
  | [.vec 18 sn sf, .fn (.func 72) [] [.rptr [.lit (.int .i64 f00), .lit (.string f01), .lit (.int .i64 f02), .lit (.int .i64 f03), .lit (.int .i64 f04), .lit (.int .i64 f05), .lit (.int .i64 f06), .lit (.int .i64 f07), .lit (.int .i64 f08), .lit (.int .i64 f09), .lit (.int .i64 f010), .lit (.int .i64 f011), .lit (.int .i64 f012), .lit (.int .i64 f013), .lit (.int .i64 f014), .lit (.int .i64 f015), .lit (.int .i64 f016), .lit (.int .i64 f017)]]] => some (.lit (.int .i64 (H Int fun _ => idxF (cnfI (⟨f00, f01, f02, ⟨⟨f03, f04, f05, f06⟩, f07, f08, f09, ⟨f010, f011, f012, f013⟩, ⟨f014, f015, f016, f017⟩⟩⟩ : Grt)) (Tl rowW sn sf))), [H Prop fun _ => Shp rowW sn sf, H Prop fun _ => (Tl rowW sn sf).length ≤ 2000000])
  | _ => none
theorem eok_idxRg : EntryOk Tryz.prog e_idxRg := pureM_ok (by unfold isBody; kernel_rfl) (by
  intro a r ob e hob
  split at e
  · rename_i sn sf f00 f01 f02 f03 f04 f05 f06 f07 f08 f09 f010 f011 f012 f013 f014 f015 f016 f017
    simp only [Option.some.injEq, Prod.mk.injEq] at e
    obtain ⟨rfl, rfl⟩ := e
    exact ConN.args (.cons (.toT okRW rfl hob.1) (.cons (.fn .nil (.cons (.rptr (AEqL.rfl _)) .nil)) .nil)) (c_idxRg (Tl rowW sn sf) (⟨f00, f01, f02, ⟨⟨f03, f04, f05, f06⟩, f07, f08, f09, ⟨f010, f011, f012, f013⟩, ⟨f014, f015, f016, f017⟩⟩⟩ : Grt) hob.2.1)
  · simp at e)
theorem c_anyRg (s : List Grt) (f0 : Grt) (h0 : s.length ≤ 2000000) : ConN Tryz.prog 71 [.vec 18 (stdH Nat fun _ => (s).length) (rowsW stdH fun _ => s), .fn (.func 72) [] [.rptr (rowW.cells stdH fun _ => f0)]] [] 0 (.lit (.bool (stdH Bool fun _ => s.any (cnfI f0)))) [] [] := by
  have hB : Base Tryz.prog (tabΓ [e_idxRg]) tab := base_of tabOk (ents_cons eok_idxRg <| ents_nil)
  refine con_m (N := 9) hB (draw_ok hB mixed) Tryz.func71 rfl rfl (fun H => [.vec 18 (H Nat fun _ => (s).length) (rowsW H fun _ => s), .fn (.func 72) [] [.rptr (rowW.cells H fun _ => f0)]]) (fun _ => []) 0 (fun H => .lit (.bool (H Bool fun _ => s.any (cnfI f0)))) (fun H => []) (fun _ => []) 100 (by simp) (fun x hx => ?_) (by simp [lk]) (by omega) (by simp) ?_
  · simp only [List.mem_cons, List.not_mem_nil, or_false] at hx
    rcases hx with rfl | rfl
    · exact vl_bl okRW s _
    · exact (by
        refine .fn (fun c hc => by cases hc) ?_
        intro c hc
        simp only [List.mem_cons, List.not_mem_nil, or_false] at hc
        rcases hc with rfl
        · exact (.rptr fun c hc => (okRW.bl (fun _ => f0) c hc).mono (Nat.zero_le _)))
  intro X hX hX0 H hH
  conv in Fin.chk _ _ => cbv
  try simp only [Fin.satC_ret, Fin.satC_br, Fin.satC_need, Fin.satC_again, AllP, and_true, true_and, upd, List.length_nil, List.length_cons, Nat.zero_add, if_true, ncast, Int.ofNat_eq_natCast]
  refine ⟨⟨?_, ?_⟩, ?_⟩
  · try simp only [hH, stdH, Nat.le_refl, decide_eq_true_eq, decide_eq_false_iff_not, Bool.not_eq_true', Bool.not_eq_false', peta, ncast, Int.ofNat_eq_natCast, beq_iff_eq, bne_iff_ne, beq_eq_false_iff_ne, bne_eq_false_iff_eq, ne_eq, Classical.not_not, Int.toNat_natCast, vrow_I, Arm.eta2, Fld.eta, Grp.eta]
    exact Shp_W _ _
  · try simp only [hH, stdH, Nat.le_refl, decide_eq_true_eq, decide_eq_false_iff_not, Bool.not_eq_true', Bool.not_eq_false', peta, ncast, Int.ofNat_eq_natCast, beq_iff_eq, bne_iff_ne, beq_eq_false_iff_ne, bne_eq_false_iff_eq, ne_eq, Classical.not_not, Int.toNat_natCast, vrow_I, Arm.eta2, Fld.eta, Grp.eta]
    rw [Tl_W]; exact h0
  · try simp only [hH, stdH, Nat.le_refl, decide_eq_true_eq, decide_eq_false_iff_not, Bool.not_eq_true', Bool.not_eq_false', peta, ncast, Int.ofNat_eq_natCast, beq_iff_eq, bne_iff_ne, beq_eq_false_iff_ne, bne_eq_false_iff_eq, ne_eq, Classical.not_not, Int.toNat_natCast, vrow_I, Arm.eta2, Fld.eta, Grp.eta]
    rw [Tl_W]; exact (idxF_ge _ _).symm
noncomputable def e_anyRg : Entry := pureE 71 fun H a => match a with
  | [.vec 18 sn sf, .fn (.func 72) [] [.rptr [.lit (.int .i64 f00), .lit (.string f01), .lit (.int .i64 f02), .lit (.int .i64 f03), .lit (.int .i64 f04), .lit (.int .i64 f05), .lit (.int .i64 f06), .lit (.int .i64 f07), .lit (.int .i64 f08), .lit (.int .i64 f09), .lit (.int .i64 f010), .lit (.int .i64 f011), .lit (.int .i64 f012), .lit (.int .i64 f013), .lit (.int .i64 f014), .lit (.int .i64 f015), .lit (.int .i64 f016), .lit (.int .i64 f017)]]] => some (.lit (.bool (H Bool fun _ => (Tl rowW sn sf).any (cnfI (⟨f00, f01, f02, ⟨⟨f03, f04, f05, f06⟩, f07, f08, f09, ⟨f010, f011, f012, f013⟩, ⟨f014, f015, f016, f017⟩⟩⟩ : Grt)))), [H Prop fun _ => Shp rowW sn sf, H Prop fun _ => (Tl rowW sn sf).length ≤ 2000000])
  | _ => none
theorem eok_anyRg : EntryOk Tryz.prog e_anyRg := pureM_ok (by unfold isBody; kernel_rfl) (by
  intro a r ob e hob
  split at e
  · rename_i sn sf f00 f01 f02 f03 f04 f05 f06 f07 f08 f09 f010 f011 f012 f013 f014 f015 f016 f017
    simp only [Option.some.injEq, Prod.mk.injEq] at e
    obtain ⟨rfl, rfl⟩ := e
    exact ConN.args (.cons (.toT okRW rfl hob.1) (.cons (.fn .nil (.cons (.rptr (AEqL.rfl _)) .nil)) .nil)) (c_anyRg (Tl rowW sn sf) (⟨f00, f01, f02, ⟨⟨f03, f04, f05, f06⟩, f07, f08, f09, ⟨f010, f011, f012, f013⟩, ⟨f014, f015, f016, f017⟩⟩⟩ : Grt) hob.2.1)
  · simp at e)

end Go.Proofs.YtcjjffmbhionmaaGreatDoor.AM

