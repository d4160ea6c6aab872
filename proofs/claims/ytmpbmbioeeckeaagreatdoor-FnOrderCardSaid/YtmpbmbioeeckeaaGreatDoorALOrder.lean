import Derived.Test.YtmpbmbioeeckeaaGreatDoorAmT
import Derived.Test.YtmpbmbioeeckeaaGreatDoorOdr
import Derived.Test.YtmpbmbioeeckeaaGreatDoorPad
import Derived.Test.YtmpbmbioeeckeaaGreatDoorDrS
set_option linter.unusedVariables false
set_option linter.unusedSimpArgs false
set_option maxRecDepth 100000
set_option maxHeartbeats 4000000
set_option cbv.maxSteps 3000000
namespace Go.Proofs.YtmpbmbioeeckeaaGreatDoor.AM
/- The law FnOrder holds; conditions: none. -/
theorem c_vIntsL (s : List Int) (t : List Int) (h0 : s.length ≤ 2000000) : ConN Tryz.prog 8 [.vec 1 (stdH Nat fun _ => (s).length) (rowsI stdH fun _ => s), .vec 1 (stdH Nat fun _ => (t).length) (rowsI stdH fun _ => t)] [] 0 (.lit (.bool (stdH Bool fun _ => decide (s = t)))) [] [] := by
  have hB : Base Tryz.prog (tabΓ []) tab := base_of tabOk (ents_nil)
  refine con_m (N := 26) hB (draw_ok hB mixed) Tryz.func8 rfl rfl (fun H => [.vec 1 (H Nat fun _ => (s).length) (rowsI H fun _ => s), .vec 1 (H Nat fun _ => (t).length) (rowsI H fun _ => t)]) (fun _ => []) 0 (fun H => .lit (.bool (H Bool fun _ => decide (s = t)))) (fun H => []) (fun _ => []) 100 (by simp) (fun x hx => ?_) (by simp [lk]) (by omega) (by simp) ?_
  · simp only [List.mem_cons, List.not_mem_nil, or_false] at hx
    rcases hx with rfl | rfl
    · exact vl_bl okI s _
    · exact vl_bl okI t _
  intro X hX hX0 H hH
  conv in Fin.chk _ _ => cbv
  try simp only [Plain_rowsA, Plain_rowsB, Plain_rowsC, Plain_rowsF, Plain_rowsG, Plain_rowsI, Plain_rowsS, Plain_rowsU, Fin.satC_ret, Fin.satC_br, Fin.satC_need, Fin.satC_again, AllP, and_true, true_and, upd, List.length_nil, List.length_cons, Nat.zero_add, if_true, ncast, Int.ofNat_eq_natCast]
  refine ⟨fun h => ?_, fun h => ?_⟩
  · simp only [hH, stdH, decide_eq_true_eq, decide_eq_false_iff_not, Bool.not_eq_true', Bool.not_eq_false', peta, ncast, Int.ofNat_eq_natCast, beq_iff_eq, bne_iff_ne, beq_eq_false_iff_ne, bne_eq_false_iff_eq, ne_eq, Classical.not_not, Int.toNat_natCast, vrow_I, Arm.eta2, Fld.eta, Grp.eta] at h
    try simp only [hH, stdH, decide_eq_true_eq, decide_eq_false_iff_not, Bool.not_eq_true', Bool.not_eq_false', peta, ncast, Int.ofNat_eq_natCast, beq_iff_eq, bne_iff_ne, beq_eq_false_iff_ne, bne_eq_false_iff_eq, ne_eq, Classical.not_not, Int.toNat_natCast, vrow_I, Arm.eta2, Fld.eta, Grp.eta]
    intro e
    exact h (by rw [e])
  · simp only [hH, stdH, decide_eq_true_eq, decide_eq_false_iff_not, Bool.not_eq_true', Bool.not_eq_false', peta, ncast, Int.ofNat_eq_natCast, beq_iff_eq, bne_iff_ne, beq_eq_false_iff_ne, bne_eq_false_iff_eq, ne_eq, Classical.not_not, Int.toNat_natCast, vrow_I, Arm.eta2, Fld.eta, Grp.eta] at h
    have hl : s.length = t.length := by omega
    refine loop_a hB (draw_ok hB mixed) hX hX0 hH false (ι := { i : Nat // i ≤ s.length ∧ ∀ j, j < i → s.getD j 0 = t.getD j 0 }) 100 (fun i => [.i (H Int fun _ => (i.1 : Nat))]) (fun i => s.length - i.1) (⟨0, by omega, by omega⟩) ?_ ?_
    · (conv in matchSt _ _ _ _ => cbv); simp only [AllG, AllP, and_true, hH, stdH, ncast, Int.ofNat_eq_natCast, vrow_I, Arm.eta2, Fld.eta, Grp.eta]
      (repeat' (first | rfl | trivial | exact RowsEq.self okI | exact RowsEq.ofT okI rfl (Shp_zero _) rfl | exact RowsEq.snoc okI rfl | exact RowsEq.more okI (Shp_I _ _) (Tl_I _) | exact RowsEq.self okI | exact RowsEq.self okRA | exact List.length_append | refine And.intro ?_ ?_))
    · intro I hI i
      conv in Fin.chk _ _ => cbv
      try simp only [Plain_rowsA, Plain_rowsB, Plain_rowsC, Plain_rowsF, Plain_rowsG, Plain_rowsI, Plain_rowsS, Plain_rowsU, Fin.satC_ret, Fin.satC_br, Fin.satC_need, Fin.satC_again, AllP, and_true, true_and, upd, List.length_nil, List.length_cons, Nat.zero_add, if_true, ncast, Int.ofNat_eq_natCast]
      obtain ⟨i, hi, hj⟩ := i
      refine ⟨fun h1 => ⟨?_, ?_, fun h2 => ?_, fun h2 => ?_⟩, fun h1 => ?_⟩
      · simp only [hH, stdH, decide_eq_true_eq, decide_eq_false_iff_not, Bool.not_eq_true', Bool.not_eq_false', peta, ncast, Int.ofNat_eq_natCast, beq_iff_eq, bne_iff_ne, beq_eq_false_iff_ne, bne_eq_false_iff_eq, ne_eq, Classical.not_not, Int.toNat_natCast, vrow_I, Arm.eta2, Fld.eta, Grp.eta] at h1 ⊢
        omega
      · simp only [hH, stdH, decide_eq_true_eq, decide_eq_false_iff_not, Bool.not_eq_true', Bool.not_eq_false', peta, ncast, Int.ofNat_eq_natCast, beq_iff_eq, bne_iff_ne, beq_eq_false_iff_ne, bne_eq_false_iff_eq, ne_eq, Classical.not_not, Int.toNat_natCast, vrow_I, Arm.eta2, Fld.eta, Grp.eta] at h1 ⊢
        omega
      · simp only [hH, stdH, decide_eq_true_eq, decide_eq_false_iff_not, Bool.not_eq_true', Bool.not_eq_false', peta, ncast, Int.ofNat_eq_natCast, beq_iff_eq, bne_iff_ne, beq_eq_false_iff_ne, bne_eq_false_iff_eq, ne_eq, Classical.not_not, Int.toNat_natCast, vrow_I, Arm.eta2, Fld.eta, Grp.eta] at h2
        try simp only [hH, stdH, decide_eq_true_eq, decide_eq_false_iff_not, Bool.not_eq_true', Bool.not_eq_false', peta, ncast, Int.ofNat_eq_natCast, beq_iff_eq, bne_iff_ne, beq_eq_false_iff_ne, bne_eq_false_iff_eq, ne_eq, Classical.not_not, Int.toNat_natCast, vrow_I, Arm.eta2, Fld.eta, Grp.eta]
        intro e
        exact h2 (by rw [e])
      · simp only [hH, stdH, decide_eq_true_eq, decide_eq_false_iff_not, Bool.not_eq_true', Bool.not_eq_false', peta, ncast, Int.ofNat_eq_natCast, beq_iff_eq, bne_iff_ne, beq_eq_false_iff_ne, bne_eq_false_iff_eq, ne_eq, Classical.not_not, Int.toNat_natCast, vrow_I, Arm.eta2, Fld.eta, Grp.eta] at h1
        simp only [hH, stdH, decide_eq_true_eq, decide_eq_false_iff_not, Bool.not_eq_true', Bool.not_eq_false', peta, ncast, Int.ofNat_eq_natCast, beq_iff_eq, bne_iff_ne, beq_eq_false_iff_ne, bne_eq_false_iff_eq, ne_eq, Classical.not_not, Int.toNat_natCast, vrow_I, Arm.eta2, Fld.eta, Grp.eta] at h2
        refine ⟨⟨i + 1, by omega, fun j hj' => ?_⟩, by simp only; omega, ?_⟩
        · rcases Nat.lt_succ_iff_lt_or_eq.1 hj' with h | rfl
          · exact hj j h
          · exact h2
        · rw [hI]
          (conv in matchSt _ _ _ _ => cbv); simp only [AllG, AllP, and_true, hH, stdH, ncast, Int.ofNat_eq_natCast, vrow_I, Arm.eta2, Fld.eta, Grp.eta]
          rw [w1 (by omega)]
          (repeat' (first | rfl | trivial | exact RowsEq.self okI | exact RowsEq.ofT okI rfl (Shp_zero _) rfl | exact RowsEq.snoc okI rfl | exact RowsEq.more okI (Shp_I _ _) (Tl_I _) | exact RowsEq.self okI | exact RowsEq.self okRA | exact List.length_append | refine And.intro ?_ ?_))
      · simp only [hH, stdH, decide_eq_true_eq, decide_eq_false_iff_not, Bool.not_eq_true', Bool.not_eq_false', peta, ncast, Int.ofNat_eq_natCast, beq_iff_eq, bne_iff_ne, beq_eq_false_iff_ne, bne_eq_false_iff_eq, ne_eq, Classical.not_not, Int.toNat_natCast, vrow_I, Arm.eta2, Fld.eta, Grp.eta] at h1 ⊢
        obtain rfl : i = s.length := by omega
        refine List.ext_getElem hl fun j h1 h2 => ?_
        have := hj j h1
        simpa [List.getD_eq_getElem?_getD, h1, h2] using this
noncomputable def e_vIntsL : Entry := pureE 8 fun H a => match a with
  | [.vec 1 sn sf, .vec 1 tn tf] => some (.lit (.bool (H Bool fun _ => decide ((Tl rowI sn sf) = (Tl rowI tn tf)))), [H Prop fun _ => Shp rowI sn sf, H Prop fun _ => Shp rowI tn tf, H Prop fun _ => (Tl rowI sn sf).length ≤ 2000000])
  | _ => none
theorem eok_vIntsL : EntryOk Tryz.prog e_vIntsL := pureM_ok (by unfold isBody; kernel_rfl) (by
  intro a r ob e hob
  split at e
  · rename_i sn sf tn tf
    simp only [Option.some.injEq, Prod.mk.injEq] at e
    obtain ⟨rfl, rfl⟩ := e
    exact ConN.args (.cons (.toT okI rfl hob.1) (.cons (.toT okI rfl hob.2.1) .nil)) (c_vIntsL (Tl rowI sn sf) (Tl rowI tn tf) hob.2.2.1)
  · simp at e)
theorem c_armsBefore (a : Arm) (z : Arm)  : ConN Tryz.prog 9 [aT rowA stdH fun _ => a, aT rowA stdH fun _ => z] [] 0 (.tup [.lit (.bool (stdH Bool fun _ => okA a && okA z && ltS (armT a) (armT z))), .lit (.bool (stdH Bool fun _ => okA a && okA z))]) [] [] := by
  have hB : Base Tryz.prog (tabΓ [e_IsValidArms, e_armText]) tab := base_of tabOk (ents_cons eok_IsValidArms <| ents_cons eok_armText <| ents_nil)
  refine con_m (N := 19) hB (draw_ok hB mixed) Tryz.func9 rfl rfl (fun H => [aT rowA H fun _ => a, aT rowA H fun _ => z]) (fun _ => []) 0 (fun H => .tup [.lit (.bool (H Bool fun _ => okA a && okA z && ltS (armT a) (armT z))), .lit (.bool (H Bool fun _ => okA a && okA z))]) (fun H => []) (fun _ => []) 100 (by simp) (fun x hx => ?_) (by simp [lk]) (by omega) (by simp) ?_
  · simp only [List.mem_cons, List.not_mem_nil, or_false] at hx
    rcases hx with rfl | rfl
    · exact aT_bl okRA _ _
    · exact aT_bl okRA _ _
  intro X hX hX0 H hH
  conv in Fin.chk _ _ => cbv
  try simp only [Plain_rowsA, Plain_rowsB, Plain_rowsC, Plain_rowsF, Plain_rowsG, Plain_rowsI, Plain_rowsS, Plain_rowsU, Fin.satC_ret, Fin.satC_br, Fin.satC_need, Fin.satC_again, AllP, and_true, true_and, upd, List.length_nil, List.length_cons, Nat.zero_add, if_true, ncast, Int.ofNat_eq_natCast]
  subst hH
  simp only [stdH, Arm.eta2, Fld.eta, Grp.eta]
  cases ha : okA a <;> cases hz : okA z <;> simp [ltS]
noncomputable def e_armsBefore : Entry := pureE 9 fun H a => match a with
  | [.agg [.lit (.int .i64 a0), .lit (.int .i64 a1), .lit (.int .i64 a2), .lit (.int .i64 a3), .lit (.int .i64 a4), .lit (.int .i64 a5), .lit (.int .i64 a6), .lit (.int .i64 a7), .lit (.int .i64 a8), .lit (.int .i64 a9), .lit (.int .i64 a10), .lit (.int .i64 a11), .lit (.int .i64 a12), .lit (.int .i64 a13), .lit (.int .i64 a14)], .agg [.lit (.int .i64 z0), .lit (.int .i64 z1), .lit (.int .i64 z2), .lit (.int .i64 z3), .lit (.int .i64 z4), .lit (.int .i64 z5), .lit (.int .i64 z6), .lit (.int .i64 z7), .lit (.int .i64 z8), .lit (.int .i64 z9), .lit (.int .i64 z10), .lit (.int .i64 z11), .lit (.int .i64 z12), .lit (.int .i64 z13), .lit (.int .i64 z14)]] => some (.tup [.lit (.bool (H Bool fun _ => okA (⟨⟨a0, a1, a2, a3⟩, a4, a5, a6, ⟨a7, a8, a9, a10⟩, ⟨a11, a12, a13, a14⟩⟩ : Arm) && okA (⟨⟨z0, z1, z2, z3⟩, z4, z5, z6, ⟨z7, z8, z9, z10⟩, ⟨z11, z12, z13, z14⟩⟩ : Arm) && ltS (armT (⟨⟨a0, a1, a2, a3⟩, a4, a5, a6, ⟨a7, a8, a9, a10⟩, ⟨a11, a12, a13, a14⟩⟩ : Arm)) (armT (⟨⟨z0, z1, z2, z3⟩, z4, z5, z6, ⟨z7, z8, z9, z10⟩, ⟨z11, z12, z13, z14⟩⟩ : Arm)))), .lit (.bool (H Bool fun _ => okA (⟨⟨a0, a1, a2, a3⟩, a4, a5, a6, ⟨a7, a8, a9, a10⟩, ⟨a11, a12, a13, a14⟩⟩ : Arm) && okA (⟨⟨z0, z1, z2, z3⟩, z4, z5, z6, ⟨z7, z8, z9, z10⟩, ⟨z11, z12, z13, z14⟩⟩ : Arm)))], [])
  | _ => none
theorem eok_armsBefore : EntryOk Tryz.prog e_armsBefore := pureM_ok (by unfold isBody; kernel_rfl) (by
  intro a r ob e hob
  split at e
  · rename_i a0 a1 a2 a3 a4 a5 a6 a7 a8 a9 a10 a11 a12 a13 a14 z0 z1 z2 z3 z4 z5 z6 z7 z8 z9 z10 z11 z12 z13 z14
    simp only [Option.some.injEq, Prod.mk.injEq] at e
    obtain ⟨rfl, rfl⟩ := e
    exact ConN.args (.cons .rfl (.cons .rfl .nil)) (c_armsBefore (⟨⟨a0, a1, a2, a3⟩, a4, a5, a6, ⟨a7, a8, a9, a10⟩, ⟨a11, a12, a13, a14⟩⟩ : Arm) (⟨⟨z0, z1, z2, z3⟩, z4, z5, z6, ⟨z7, z8, z9, z10⟩, ⟨z11, z12, z13, z14⟩⟩ : Arm) )
  · simp at e)
theorem c_ordTxS (o : Int) (l : Int) (t : Int)  : ConN Tryz.prog 13 [.lit (.int .i64 o), .lit (.int .i64 l), .lit (.int .i64 t)] [] 0 (.tup [.lit (.string (stdH ByteArray fun _ => if okO ⟨o, l, t⟩ then oT ⟨o, l, t⟩ else ByteArray.empty)), .lit (.bool (stdH Bool fun _ => okO ⟨o, l, t⟩))]) [] [] := by
  have hB : Base Tryz.prog (tabΓ [e_l1In, e_l3Line, e_l2Good, e_l6Ordinary, e_l2Word]) tab := base_of tabOk (ents_cons eok_l1In <| ents_cons eok_l3Line <| ents_cons eok_l2Good <| ents_cons eok_l6Ordinary <| ents_cons eok_l2Word <| ents_nil)
  refine con_m (N := 28) hB (draw_ok hB mixed) Tryz.func13 rfl rfl (fun H => [.lit (.int .i64 o), .lit (.int .i64 l), .lit (.int .i64 t)]) (fun _ => []) 0 (fun H => .tup [.lit (.string (H ByteArray fun _ => if okO ⟨o, l, t⟩ then oT ⟨o, l, t⟩ else ByteArray.empty)), .lit (.bool (H Bool fun _ => okO ⟨o, l, t⟩))]) (fun H => []) (fun _ => []) 100 (by simp) (fun x hx => ?_) (by simp [lk]) (by omega) (by simp) ?_
  · simp only [List.mem_cons, List.not_mem_nil, or_false] at hx
    rcases hx with rfl | rfl | rfl
    · exact .lit
    · exact .lit
    · exact .lit
  intro X hX hX0 H hH
  conv in Fin.chk _ _ => cbv
  try simp only [Plain_rowsA, Plain_rowsB, Plain_rowsC, Plain_rowsF, Plain_rowsG, Plain_rowsI, Plain_rowsS, Plain_rowsU, Fin.satC_ret, Fin.satC_br, Fin.satC_need, Fin.satC_again, AllP, and_true, true_and, upd, List.length_nil, List.length_cons, Nat.zero_add, if_true, ncast, Int.ofNat_eq_natCast]
  subst hH
  simp only [stdH]
  have s1 := ordS_sz o l
  have s2 := tinL_sz t
  have e : okO ⟨o, l, t⟩ = (inB o 1 7 && (inB l 0 4 && inB t 1 9)) := rfl
  cases hg : okO ⟨o, l, t⟩
  · rw [hg] at e
    revert e
    generalize inB o 1 7 = x
    generalize inB l 0 4 = y
    generalize inB t 1 9 = z
    cases x <;> cases y <;> cases z <;> simp <;> (try rfl)
  · obtain ⟨b1, b2, b3⟩ := okO_b hg
    simp only at b1 b2 b3
    rw [hg] at e
    refine ⟨fun h => ?_, fun h => ⟨⟨b1, b2⟩, ?_, b3, ?_, rfl, ?_⟩⟩
    · exfalso
      revert e h
      generalize inB o 1 7 = x
      generalize inB l 0 4 = y
      generalize inB t 1 9 = z
      cases x <;> cases y <;> cases z <;> simp
    · simp only [bsz, List.length_cons, List.length_nil]; omega
    · simp only [ByteArray.size_append, bsz, List.length_cons, List.length_nil]; omega
    · rw [if_pos rfl, ByteArray.append_assoc]; rfl
noncomputable def e_ordTxS : Entry := pureE 13 fun H a => match a with
  | [.lit (.int .i64 o), .lit (.int .i64 l), .lit (.int .i64 t)] => some (.tup [.lit (.string (H ByteArray fun _ => if okO ⟨o, l, t⟩ then oT ⟨o, l, t⟩ else ByteArray.empty)), .lit (.bool (H Bool fun _ => okO ⟨o, l, t⟩))], [])
  | _ => none
theorem eok_ordTxS : EntryOk Tryz.prog e_ordTxS := pureM_ok (by unfold isBody; kernel_rfl) (by
  intro a r ob e hob
  split at e
  · rename_i o l t
    simp only [Option.some.injEq, Prod.mk.injEq] at e
    obtain ⟨rfl, rfl⟩ := e
    exact ConN.args (.cons .rfl (.cons .rfl (.cons .rfl .nil))) (c_ordTxS o l t )
  · simp at e)
def enc_DrawOrdinaryText (H : Hold) (y : Unit → Od) : AV := .tup [.lit (.int .i64 (H Int fun _ => ((y ()).o))), .lit (.int .i64 (H Int fun _ => ((y ()).l))), .lit (.int .i64 (H Int fun _ => ((y ()).t)))]
theorem x_DrawOrdinaryText (c : Cd) : ∃ y : Od, Con Tryz.prog 10 [codeAV c] [] (enc_DrawOrdinaryText stdH fun _ => y) [] ∧ Bl 0 (enc_DrawOrdinaryText stdH fun _ => y) ∧ (fun _ => True) y := by
  have hB : Base Tryz.prog (tabΓ [e_pick c, e_anyTincture c]) tab := base_of tabOk (ents_cons (eok_pick c) <| ents_cons (eok_anyTincture c) <| ents_nil)
  refine df_ok (N := 15) hB (draw_ok hB mixed) Tryz.func10 rfl rfl _ _ _ 60 (by simp) ?_
  intro H hH
  conv in finish _ _ _ _ _ _ _ _ => cbv
  subst hH
  simp only [Fin.sat0, Fin.sat1, stdH, Option.some.injEq, AV.lit.injEq, AV.agg.injEq, AV.tup.injEq, List.cons.injEq, Value.bool.injEq, Value.int.injEq, AllP, and_true, true_and, eq_self, decide_eq_true_eq, decide_eq_false_iff_not, Bool.not_eq_true', Bool.not_eq_false', peta, ncast]
  have h : Bd 64 (0, 0) := ⟨by decide, by decide⟩
  have a1 := (p_pick c 9 (0, 0) (Bd.mono (by assumption))).1; generalize F_pick c 9 (0, 0) = y1 at *; have b1 : Bd 62 y1.2 := a1.bd (by assumption)
  have a2 := (p_pick c 6 y1.2 (Bd.mono (by assumption))).1; generalize F_pick c 6 y1.2 = y2 at *; have b2 : Bd 60 y2.2 := a2.bd (by assumption)
  have a3 := (p_anyTincture c y2.2 (Bd.mono (by assumption))).1; generalize F_anyTincture c y2.2 = y3 at *; have b3 : Bd 50 y3.2 := a3.bd (by assumption)
  exact ⟨h.mono, b1.mono, b2.mono, ⟨_, _, _⟩, .refl, by unfold enc_DrawOrdinaryText; (first | exact .lit | exact blq_ok 4 rfl)⟩
noncomputable def F_DrawOrdinaryText (c : Cd) : Od := dfw Tryz.prog 10 enc_DrawOrdinaryText (fun _ => True) c
noncomputable def e_DrawOrdinaryText (c : Cd) : Entry := codeE 10 c fun H => enc_DrawOrdinaryText H fun _ => F_DrawOrdinaryText c
theorem eok_DrawOrdinaryText (c : Cd) : EntryOk Tryz.prog (e_DrawOrdinaryText c) := codeE_ok (by unfold isBody; kernel_rfl) (dfw_spec (x_DrawOrdinaryText c)).1
theorem p_DrawOrdinaryText (c : Cd) : (fun _ => True) (F_DrawOrdinaryText c) := (dfw_spec (x_DrawOrdinaryText c)).2.2
noncomputable def sdL (c : Cd) : List Arm := (List.range (sdLn c)).map (sdLg c)
theorem sdL_len (c : Cd) : (sdL c).length = sdLn c := by simp [sdL]
theorem sdL_rows (c : Cd) : ∀ j, j < sdLn c → arow (sdLg c) j = rowsA stdH (fun _ => sdL c) j := fun j hj => by
  show arow (sdLg c) j = rowA.cells stdH fun _ => (sdL c).getD j default
  have : (sdL c).getD j default = sdLg c j := by simp [sdL, List.getD_eq_getElem?_getD, hj]
  rw [this]; rfl
theorem sdLn_le (c : Cd) : sdLn c ≤ 6 := by
  have := (sd_pick c).1.2
  unfold sdLn
  split <;> omega
theorem c_DrawSortArms (c : Cd) : Con Tryz.prog 5 [codeAV c] [] (.vec 15 (stdH Nat fun _ => (sdL c).length) (rowsA stdH fun _ => sdL c)) [] := by
  have hB : Base Tryz.prog (tabΓ [e_DrawSimplest c]) tab := base_of tabOk (ents_cons (eok_DrawSimplest c) <| ents_nil)
  refine ConN.con (n := 0) (con_m (N := 5) hB (draw_ok hB mixed) Tryz.func5 rfl rfl (fun _ => [codeAV c]) (fun _ => []) 0 (fun H => .vec 15 (H Nat fun _ => (sdL c).length) (rowsA H fun _ => sdL c)) (fun _ => []) (fun _ => []) 60 (by simp) (codeAV_bl c) (by simp [lk]) (by omega) (by simp) ?_)
  intro X hX hX0 H hH
  conv in Fin.chk _ _ => cbv
  try simp only [Plain_rowsA, Plain_rowsB, Plain_rowsC, Plain_rowsF, Plain_rowsG, Plain_rowsI, Plain_rowsS, Plain_rowsU, Fin.satC_ret, Fin.satC_br, Fin.satC_need, Fin.satC_again, AllP, and_true, true_and, upd, List.length_nil, List.length_cons, Nat.zero_add, if_true, ncast, Int.ofNat_eq_natCast]
  subst hH
  have := sdL_len c
  exact ⟨trivial, this, fun j hj => ⟨(sdL_rows c j (by rw [← this]; exact hj)).symm, rfl, rows_blx okRA _ j⟩⟩
noncomputable def e_DrawSortArms (c : Cd) : Entry := codeE 5 c fun H => .vec 15 (H Nat fun _ => (sdL c).length) (rowsA H fun _ => sdL c)
theorem eok_DrawSortArms (c : Cd) : EntryOk Tryz.prog (e_DrawSortArms c) := codeE_ok (by unfold isBody; kernel_rfl) (c_DrawSortArms c)
theorem ok20_yes {l : List Arm} (h : ok20 l = true) : l.length ≤ 20 ∧ (l.any fun y => !okA y) = false := by
  unfold ok20 at h
  rw [Bool.and_eq_true, decide_eq_true_eq, Bool.not_eq_true'] at h
  exact h
theorem Cd.rqO (c : Cd) : RowsEq 1 c.n c.rows c.n c.rows := ⟨rfl, fun j _ => ⟨rfl, rfl, fun x hx => by simp [Cd.rows] at hx; subst hx; exact .lit⟩⟩
theorem srtA_ok {L : List Arm} (h : (L.any fun y => !okA y) = false) {i : Nat} (hi : i < L.length) : okA (L.getD ((srtA L).getD i 0).toNat default) = true := okA_at h (by have := srtA_in L hi; unfold inR at this; omega)
theorem srtA_lt {L : List Arm} {i : Nat} (hi : i + 1 < L.length) : ltS (armT (L.getD ((srtA L).getD (i + 1) 0).toNat default)) (armT (L.getD ((srtA L).getD i 0).toNat default)) = false := by
  have := srtA_srt L (i := i + 1) (by omega) hi
  rw [Nat.add_sub_cancel] at this
  have g1 : ∀ q, q < L.length → (L.map armT).getD q ByteArray.empty = armT (L.getD q default) := fun q hq => by
    simp only [List.getD_eq_getElem?_getD, List.getElem?_map, List.getElem?_eq_getElem hq, Option.map_some, Option.getD_some]
  have a := srtA_in L hi
  have b := srtA_in L (i := i) (by omega)
  unfold inR at a b
  unfold ltX at this
  rw [g1 _ (by omega), g1 _ (by omega)] at this
  exact this
theorem Od.eta3 (a : Od) : (⟨a.o, a.l, a.t⟩ : Od) = a := rfl
theorem oT_sz2 (x : Od) : (oT x).size ≤ 200 := by
  have s1 := ordS_sz x.o x.l
  have s2 := tinL_sz x.t
  unfold oT
  simp only [ByteArray.size_append, bsz, List.length_cons, List.length_nil]
  omega
theorem law_OrderY (c : Cd) (hY : ok20 (sdL c) = true) : Con Tryz.prog 3 [codeAV c] [] (.lit (.bool true)) [] := by
  have hB : Base Tryz.prog (tabΓ [e_vBig c, e_DrawSortArms c, e_sortArmsY, e_l6Sort, e_vIntsL, e_armsBefore, e_DrawOrdinaryText c, e_ordTx, e_parseO, e_ordTxS]) tabO := base_of tabOkO (ents_cons (eok_vBig c) <| ents_cons (eok_DrawSortArms c) <| ents_cons eok_sortArmsY <| ents_cons eok_l6Sort <| ents_cons eok_vIntsL <| ents_cons eok_armsBefore <| ents_cons (eok_DrawOrdinaryText c) <| ents_cons eok_ordTx <| ents_cons eok_parseO <| ents_cons eok_ordTxS <| ents_nil)
  refine ConN.con (n := 0) (con_m (N := 130) hB (draw_ok hB mixed) Tryz.func3 rfl rfl (fun _ => [codeAV c]) (fun _ => []) 0 (fun H => .lit (.bool (H Bool fun _ => true))) (fun _ => []) (fun _ => []) 400 (by simp) (codeAV_bl c) (by simp [lk]) (by omega) (by simp) ?_)
  intro X hX hX0 H hH
  conv in Fin.chk _ _ => cbv
  try simp only [Plain_rowsA, Plain_rowsB, Plain_rowsC, Plain_rowsF, Plain_rowsG, Plain_rowsI, Plain_rowsS, Plain_rowsU, Fin.satC_ret, Fin.satC_br, Fin.satC_need, Fin.satC_again, AllP, and_true, true_and, upd, List.length_nil, List.length_cons, Nat.zero_add, if_true, ncast, Int.ofNat_eq_natCast]
  have h6 := sdLn_le c
  rw [← sdL_len] at h6
  generalize sdL c = L at *
  obtain ⟨h20, hno⟩ := ok20_yes hY
  have hs := srtA_len L
  refine ⟨?_, fun h => ?_, fun h => ⟨?_, ⟨?_, ?_, ?_⟩, ⟨?_, ?_⟩, ⟨?_, ?_, ?_, ?_, ?_⟩, fun h1 => ?_, fun h1 => ?_⟩⟩
  · try simp only [hH, stdH, decide_eq_true_eq, decide_eq_false_iff_not, Bool.not_eq_true', Bool.not_eq_false', peta, ncast, Int.ofNat_eq_natCast, beq_iff_eq, bne_iff_ne, beq_eq_false_iff_ne, bne_eq_false_iff_eq, ne_eq, Classical.not_not, Int.toNat_natCast, vrow_I, Arm.eta2, Fld.eta, Grp.eta]
  · try simp only [hH, stdH, decide_eq_true_eq, decide_eq_false_iff_not, Bool.not_eq_true', Bool.not_eq_false', peta, ncast, Int.ofNat_eq_natCast, beq_iff_eq, bne_iff_ne, beq_eq_false_iff_ne, bne_eq_false_iff_eq, ne_eq, Classical.not_not, Int.toNat_natCast, vrow_I, Arm.eta2, Fld.eta, Grp.eta]
  · try simp only [hH, stdH, decide_eq_true_eq, decide_eq_false_iff_not, Bool.not_eq_true', Bool.not_eq_false', peta, ncast, Int.ofNat_eq_natCast, beq_iff_eq, bne_iff_ne, beq_eq_false_iff_ne, bne_eq_false_iff_eq, ne_eq, Classical.not_not, Int.toNat_natCast, vrow_I, Arm.eta2, Fld.eta, Grp.eta]
  · try simp only [hH, stdH, decide_eq_true_eq, decide_eq_false_iff_not, Bool.not_eq_true', Bool.not_eq_false', peta, ncast, Int.ofNat_eq_natCast, beq_iff_eq, bne_iff_ne, beq_eq_false_iff_ne, bne_eq_false_iff_eq, ne_eq, Classical.not_not, Int.toNat_natCast, vrow_I, Arm.eta2, Fld.eta, Grp.eta]
    exact Shp_A _ _
  · simp only [hH, stdH, Tl_A]; exact h20
  · simp only [hH, stdH, Tl_A]; exact hno
  · try simp only [hH, stdH, decide_eq_true_eq, decide_eq_false_iff_not, Bool.not_eq_true', Bool.not_eq_false', peta, ncast, Int.ofNat_eq_natCast, beq_iff_eq, bne_iff_ne, beq_eq_false_iff_ne, bne_eq_false_iff_eq, ne_eq, Classical.not_not, Int.toNat_natCast, vrow_I, Arm.eta2, Fld.eta, Grp.eta]
    exact Shp_A _ _
  · simp only [hH, stdH, Tl_A]; omega
  · try simp only [hH, stdH, decide_eq_true_eq, decide_eq_false_iff_not, Bool.not_eq_true', Bool.not_eq_false', peta, ncast, Int.ofNat_eq_natCast, beq_iff_eq, bne_iff_ne, beq_eq_false_iff_ne, bne_eq_false_iff_eq, ne_eq, Classical.not_not, Int.toNat_natCast, vrow_I, Arm.eta2, Fld.eta, Grp.eta]
    exact fun _ _ _ => rfl
  · try simp only [hH, stdH, decide_eq_true_eq, decide_eq_false_iff_not, Bool.not_eq_true', Bool.not_eq_false', peta, ncast, Int.ofNat_eq_natCast, beq_iff_eq, bne_iff_ne, beq_eq_false_iff_ne, bne_eq_false_iff_eq, ne_eq, Classical.not_not, Int.toNat_natCast, vrow_I, Arm.eta2, Fld.eta, Grp.eta]
    exact fun _ _ _ => rfl
  · try simp only [hH, stdH, decide_eq_true_eq, decide_eq_false_iff_not, Bool.not_eq_true', Bool.not_eq_false', peta, ncast, Int.ofNat_eq_natCast, beq_iff_eq, bne_iff_ne, beq_eq_false_iff_ne, bne_eq_false_iff_eq, ne_eq, Classical.not_not, Int.toNat_natCast, vrow_I, Arm.eta2, Fld.eta, Grp.eta]
    exact fun _ => Shp_I _ _
  · try simp only [hH, stdH, decide_eq_true_eq, decide_eq_false_iff_not, Bool.not_eq_true', Bool.not_eq_false', peta, ncast, Int.ofNat_eq_natCast, beq_iff_eq, bne_iff_ne, beq_eq_false_iff_ne, bne_eq_false_iff_eq, ne_eq, Classical.not_not, Int.toNat_natCast, vrow_I, Arm.eta2, Fld.eta, Grp.eta]
    exact fun _ => Shp_I _ _
  · simp only [hH, stdH, Tl_A, Tl_I]
    intro _
    omega
  · exfalso
    simp only [hH, stdH, Tl_A, Tl_I, hY, if_true, srtA_ins, decide_true] at h1
    simp at h1
  clear h1 h
  refine loop_a hB (draw_ok hB mixed) hX hX0 hH false (ι := { i : Nat // i ≤ L.length }) 400 (fun i => [.i (H Int fun _ => ((i.1 : Nat) : Int) + 1)]) (fun i => L.length - i.1) (⟨0, by omega⟩) ?_ ?_
  · (conv in matchSt _ _ _ _ => cbv); simp only [AllG, AllP, and_true, hH, stdH, ncast, Int.ofNat_eq_natCast, vrow_I, Arm.eta2, Fld.eta, Grp.eta]
    (repeat' (first | trivial | exact RowsEq.self okI | exact RowsEq.self okRA | exact c.rqO | refine And.intro ?_ ?_))
  · intro I hI i
    conv in Fin.chk _ _ => cbv
    try simp only [Plain_rowsA, Plain_rowsB, Plain_rowsC, Plain_rowsF, Plain_rowsG, Plain_rowsI, Plain_rowsS, Plain_rowsU, Fin.satC_ret, Fin.satC_br, Fin.satC_need, Fin.satC_again, AllP, and_true, true_and, upd, List.length_nil, List.length_cons, Nat.zero_add, if_true, ncast, Int.ofNat_eq_natCast]
    obtain ⟨i, hi⟩ := i
    have wi1 : IntKind.i64.wrap ((i : Int) + 1 - 1) = (i : Int) := by rw [wi] <;> omega
    have ti1 : ((i : Int) + 1).toNat = i + 1 := by omega
    refine ⟨fun k1 => ⟨?_, ?_, ?_, ?_, ?_, ?_, fun k2 => ?_, fun k2 => ?_⟩, fun k1 => ?_⟩
    · simp only [hH, stdH, Tl_A, hs, decide_eq_true_eq] at k1 ⊢
      omega
    · simp only [hH, stdH, Tl_A, hs, decide_eq_true_eq, ti1] at k1 ⊢
      exact ⟨by omega, rfl⟩
    · simp only [hH, stdH, Tl_A, hs, decide_eq_true_eq, ti1] at k1 ⊢
      have := srtA_in L (i := i + 1) (by omega)
      unfold inR at this
      omega
    · simp only [hH, stdH, Tl_A, hs, decide_eq_true_eq, wi1] at k1 ⊢
      omega
    · simp only [hH, stdH, Tl_A, hs, decide_eq_true_eq, wi1, Int.toNat_natCast] at k1 ⊢
      exact ⟨by omega, rfl⟩
    · simp only [hH, stdH, Tl_A, hs, decide_eq_true_eq, wi1, Int.toNat_natCast] at k1 ⊢
      have := srtA_in L (i := i) (by omega)
      unfold inR at this
      omega
    · exfalso
      simp only [hH, stdH, Tl_A, hs, decide_eq_true_eq] at k1
      have h1 : i + 1 < L.length := by omega
      have e1 := srtA_ok hno h1
      have e2 := srtA_ok hno (i := i) (by omega)
      have e3 := srtA_lt h1
      simp only [hH, stdH, Tl_A, wi1, ti1, Int.toNat_natCast, Arm.eta2, Fld.eta, Grp.eta, e1, e2, e3] at k2
      simp at k2
    · simp only [hH, stdH, Tl_A, hs, decide_eq_true_eq] at k1
      refine ⟨⟨i + 1, by omega⟩, by simp only; omega, ?_⟩
      rw [hI]
      (conv in matchSt _ _ _ _ => cbv); simp only [AllG, AllP, and_true, hH, stdH, ncast, Int.ofNat_eq_natCast, vrow_I, Arm.eta2, Fld.eta, Grp.eta]
      have e3 : IntKind.i64.wrap ((i : Int) + 1 + 1) = ((i + 1 : Nat) : Int) + 1 := by rw [wi] <;> omega
      rw [e3]
      (repeat' (first | trivial | exact RowsEq.self okI | exact RowsEq.self okRA | exact c.rqO | refine And.intro ?_ ?_))
    · clear k1
      clear hI
      generalize F_DrawOrdinaryText c = y at *
      have sz := oT_sz2 y
      simp only [hH, stdH, Od.eta3]
      cases ho : okO y
      · simp
      · have e2 : pO (oT y) = some y := pO_iff.2 ⟨ho, rfl⟩
        simp [e2]
        omega
theorem law_OrderN (c : Cd) (hN : ok20 (sdL c) = false) : Con Tryz.prog 3 [codeAV c] [] (.lit (.bool true)) [] := by
  have hB : Base Tryz.prog (tabΓ [e_vBig c, e_DrawSortArms c, e_sortArmsN, e_l6Sort, nilE [1, 1] e_vIntsL, e_armsBefore, e_DrawOrdinaryText c, e_ordTx, e_parseO, e_ordTxS]) tabO := base_of tabOkO (ents_cons (eok_vBig c) <| ents_cons (eok_DrawSortArms c) <| ents_cons eok_sortArmsN <| ents_cons eok_l6Sort <| ents_cons (nilE_ok eok_vIntsL) <| ents_cons eok_armsBefore <| ents_cons (eok_DrawOrdinaryText c) <| ents_cons eok_ordTx <| ents_cons eok_parseO <| ents_cons eok_ordTxS <| ents_nil)
  refine ConN.con (n := 0) (con_m (N := 130) hB (draw_ok hB mixed) Tryz.func3 rfl rfl (fun _ => [codeAV c]) (fun _ => []) 0 (fun H => .lit (.bool (H Bool fun _ => true))) (fun _ => []) (fun _ => []) 400 (by simp) (codeAV_bl c) (by simp [lk]) (by omega) (by simp) ?_)
  intro X hX hX0 H hH
  conv in Fin.chk _ _ => cbv
  try simp only [Plain_rowsA, Plain_rowsB, Plain_rowsC, Plain_rowsF, Plain_rowsG, Plain_rowsI, Plain_rowsS, Plain_rowsU, Fin.satC_ret, Fin.satC_br, Fin.satC_need, Fin.satC_again, AllP, and_true, true_and, upd, List.length_nil, List.length_cons, Nat.zero_add, if_true, ncast, Int.ofNat_eq_natCast]
  have h6 := sdLn_le c
  rw [← sdL_len] at h6
  generalize sdL c = L at *
  have hn : (decide (L.length ≤ 20) && !L.any fun y => !okA y) = false := hN
  refine ⟨?_, fun h => ?_, fun h => ⟨?_, ⟨?_, ?_, ?_⟩, ⟨?_, ?_⟩, ?_, fun h1 => ?_, fun h1 => ?_⟩⟩
  · try simp only [hH, stdH, decide_eq_true_eq, decide_eq_false_iff_not, Bool.not_eq_true', Bool.not_eq_false', peta, ncast, Int.ofNat_eq_natCast, beq_iff_eq, bne_iff_ne, beq_eq_false_iff_ne, bne_eq_false_iff_eq, ne_eq, Classical.not_not, Int.toNat_natCast, vrow_I, Arm.eta2, Fld.eta, Grp.eta]
  · try simp only [hH, stdH, decide_eq_true_eq, decide_eq_false_iff_not, Bool.not_eq_true', Bool.not_eq_false', peta, ncast, Int.ofNat_eq_natCast, beq_iff_eq, bne_iff_ne, beq_eq_false_iff_ne, bne_eq_false_iff_eq, ne_eq, Classical.not_not, Int.toNat_natCast, vrow_I, Arm.eta2, Fld.eta, Grp.eta]
  · try simp only [hH, stdH, decide_eq_true_eq, decide_eq_false_iff_not, Bool.not_eq_true', Bool.not_eq_false', peta, ncast, Int.ofNat_eq_natCast, beq_iff_eq, bne_iff_ne, beq_eq_false_iff_ne, bne_eq_false_iff_eq, ne_eq, Classical.not_not, Int.toNat_natCast, vrow_I, Arm.eta2, Fld.eta, Grp.eta]
  · try simp only [hH, stdH, decide_eq_true_eq, decide_eq_false_iff_not, Bool.not_eq_true', Bool.not_eq_false', peta, ncast, Int.ofNat_eq_natCast, beq_iff_eq, bne_iff_ne, beq_eq_false_iff_ne, bne_eq_false_iff_eq, ne_eq, Classical.not_not, Int.toNat_natCast, vrow_I, Arm.eta2, Fld.eta, Grp.eta]
    exact Shp_A _ _
  · simp only [hH, stdH, Tl_A]; omega
  · simp only [hH, stdH, Tl_A]; exact hn
  · try simp only [hH, stdH, decide_eq_true_eq, decide_eq_false_iff_not, Bool.not_eq_true', Bool.not_eq_false', peta, ncast, Int.ofNat_eq_natCast, beq_iff_eq, bne_iff_ne, beq_eq_false_iff_ne, bne_eq_false_iff_eq, ne_eq, Classical.not_not, Int.toNat_natCast, vrow_I, Arm.eta2, Fld.eta, Grp.eta]
    exact Shp_A _ _
  · simp only [hH, stdH, Tl_A]; omega
  · try simp only [hH, stdH, decide_eq_true_eq, decide_eq_false_iff_not, Bool.not_eq_true', Bool.not_eq_false', peta, ncast, Int.ofNat_eq_natCast, beq_iff_eq, bne_iff_ne, beq_eq_false_iff_ne, bne_eq_false_iff_eq, ne_eq, Classical.not_not, Int.toNat_natCast, vrow_I, Arm.eta2, Fld.eta, Grp.eta]
    exact ⟨fun _ _ _ => rfl, fun _ => Shp_zero _, fun _ => Shp_I _ _, fun _ => by rw [Tl_len]; omega⟩
  · exfalso
    simp only [hH, stdH, Tl_A, Tl_I, hN, Bool.false_eq_true, if_false, decide_true] at h1
    simp [Tl_zero] at h1
  clear h1 h
  refine loop_a hB (draw_ok hB mixed) hX hX0 hH false (ι := Unit) 400 (fun _ => [.i (H Int fun _ => 1)]) (fun _ => 0) (()) ?_ ?_
  · (conv in matchSt _ _ _ _ => cbv); simp only [AllG, AllP, and_true, hH, stdH, ncast, Int.ofNat_eq_natCast, vrow_I, Arm.eta2, Fld.eta, Grp.eta]
    (repeat' (first | trivial | exact RowsEq.self okI | exact RowsEq.self okRA | exact c.rqO | refine And.intro ?_ ?_))
  · intro I hI i
    conv in Fin.chk _ _ => cbv
    try simp only [Plain_rowsA, Plain_rowsB, Plain_rowsC, Plain_rowsF, Plain_rowsG, Plain_rowsI, Plain_rowsS, Plain_rowsU, Fin.satC_ret, Fin.satC_br, Fin.satC_need, Fin.satC_again, AllP, and_true, true_and, upd, List.length_nil, List.length_cons, Nat.zero_add, if_true, ncast, Int.ofNat_eq_natCast]
    refine ⟨fun k1 => ?_, fun k1 => ?_⟩
    · exfalso
      simp only [hH, stdH, decide_eq_true_eq, decide_eq_false_iff_not, Bool.not_eq_true', Bool.not_eq_false', peta, ncast, Int.ofNat_eq_natCast, beq_iff_eq, bne_iff_ne, beq_eq_false_iff_ne, bne_eq_false_iff_eq, ne_eq, Classical.not_not, Int.toNat_natCast, vrow_I, Arm.eta2, Fld.eta, Grp.eta] at k1
      omega
    · clear k1
      clear hI
      generalize F_DrawOrdinaryText c = y at *
      have sz := oT_sz2 y
      simp only [hH, stdH, Od.eta3]
      cases ho : okO y
      · simp
      · have e2 : pO (oT y) = some y := pO_iff.2 ⟨ho, rfl⟩
        simp [e2]
        omega
theorem law_Order (c : Cd) : Con Tryz.prog 3 [codeAV c] [] (.lit (.bool true)) [] := by
  cases h : ok20 (sdL c) with
  | true => exact law_OrderY c h
  | false => exact law_OrderN c h

end Go.Proofs.YtmpbmbioeeckeaaGreatDoor.AM
