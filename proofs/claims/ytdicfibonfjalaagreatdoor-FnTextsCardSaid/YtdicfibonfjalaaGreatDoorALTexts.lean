import Derived.Test.YtdicfibonfjalaaGreatDoorAmT
import Derived.Test.YtdicfibonfjalaaGreatDoorFtx
set_option linter.unusedVariables false
set_option linter.unusedSimpArgs false
set_option maxRecDepth 100000
set_option maxHeartbeats 4000000
set_option cbv.maxSteps 3000000
namespace Go.Proofs.YtdicfibonfjalaaGreatDoor.AM
/- The law FnTexts holds; conditions: none. -/
theorem c_ValidArmsS (a : Arm)  : Con Tryz.prog 9 [.agg [.lit (.int .i64 (a).f.d), .lit (.int .i64 (a).f.l), .lit (.int .i64 (a).f.p), .lit (.int .i64 (a).f.q), .lit (.int .i64 (a).o), .lit (.int .i64 (a).l), .lit (.int .i64 (a).t), .lit (.int .i64 (a).n.c), .lit (.int .i64 (a).n.k), .lit (.int .i64 (a).n.a), .lit (.int .i64 (a).n.t), .lit (.int .i64 (a).r.c), .lit (.int .i64 (a).r.k), .lit (.int .i64 (a).r.a), .lit (.int .i64 (a).r.t)]] [] (.lit (.bool (okA a))) [] := by
  obtain ⟨⟨a0, a1, a2, a3⟩, a4, a5, a6, ⟨a7, a8, a9, a10⟩, ⟨a11, a12, a13, a14⟩⟩ := a
  have hB : Base Tryz.prog (tabΓ [e_l5Good]) tab := base_of tabOk (ents_cons eok_l5Good <| ents_nil)
  refine con_eq (N := 5) hB (draw_ok hB mixed) Tryz.func9 rfl rfl _ _ 60 (by simp) (by intro x hx; simp only [List.mem_cons, List.not_mem_nil, or_false] at hx; rcases hx with rfl <;> (first | (first | exact .lit | exact blq_ok 4 rfl) | exact .vec (fun j hj x hx => by simp [vrow] at hx; subst hx; exact .lit))) (by (first | exact .lit | exact blq_ok 4 rfl)) ?_
  intro H hH
  conv in finish _ _ _ _ _ _ _ _ => cbv
  subst hH
  simp only [Fin.sat0, Fin.sat1, stdH, Option.some.injEq, AV.lit.injEq, AV.agg.injEq, AV.tup.injEq, List.cons.injEq, Value.bool.injEq, Value.int.injEq, AllP, and_true, true_and, eq_self, decide_eq_true_eq, decide_eq_false_iff_not, Bool.not_eq_true', Bool.not_eq_false', peta, ncast]
noncomputable def e_ValidArmsS : Entry := pureE 9 fun H a => match a with
  | [.agg [.lit (.int .i64 a0), .lit (.int .i64 a1), .lit (.int .i64 a2), .lit (.int .i64 a3), .lit (.int .i64 a4), .lit (.int .i64 a5), .lit (.int .i64 a6), .lit (.int .i64 a7), .lit (.int .i64 a8), .lit (.int .i64 a9), .lit (.int .i64 a10), .lit (.int .i64 a11), .lit (.int .i64 a12), .lit (.int .i64 a13), .lit (.int .i64 a14)]] => some (.lit (.bool (H Bool fun _ => (okA (⟨⟨a0, a1, a2, a3⟩, a4, a5, a6, ⟨a7, a8, a9, a10⟩, ⟨a11, a12, a13, a14⟩⟩ : Arm)))), [])
  | _ => none
theorem eok_ValidArmsS : EntryOk Tryz.prog e_ValidArmsS := pureE_ok (by unfold isBody; kernel_rfl) (by
  intro a r ob e hob
  split at e
  · rename_i a0 a1 a2 a3 a4 a5 a6 a7 a8 a9 a10 a11 a12 a13 a14
    simp only [Option.some.injEq, Prod.mk.injEq] at e
    obtain ⟨rfl, rfl⟩ := e
    exact c_ValidArmsS (⟨⟨a0, a1, a2, a3⟩, a4, a5, a6, ⟨a7, a8, a9, a10⟩, ⟨a11, a12, a13, a14⟩⟩ : Arm)
  · simp at e)
theorem Cd.rq (c : Cd) : RowsEq 1 c.n c.rows c.n c.rows := ⟨rfl, fun j _ => ⟨rfl, rfl, fun x hx => by simp [Cd.rows] at hx; subst hx; exact .lit⟩⟩
theorem law_Texts (c : Cd) : Con Tryz.prog 3 [codeAV c] [] (.lit (.bool true)) [] := by
  have hB : Base Tryz.prog (tabΓ [e_vBig c, e_DrawWrapArms c, e_armsTx, e_parseA, e_l5Good, e_ValidArmsS, e_DrawParseArms c, e_WrapArmsU, e_WrapArmsS, e_vTexts]) tab := base_of tabOk (ents_cons (eok_vBig c) <| ents_cons (eok_DrawWrapArms c) <| ents_cons eok_armsTx <| ents_cons eok_parseA <| ents_cons eok_l5Good <| ents_cons eok_ValidArmsS <| ents_cons (eok_DrawParseArms c) <| ents_cons eok_WrapArmsU <| ents_cons eok_WrapArmsS <| ents_cons eok_vTexts <| ents_nil)
  refine ConN.con (n := 0) (con_m (N := 119) hB (draw_ok hB mixed) Tryz.func3 rfl rfl (fun _ => [codeAV c]) (fun _ => []) 0 (fun H => .lit (.bool (H Bool fun _ => true))) (fun _ => []) (fun _ => []) 400 (by simp) (codeAV_bl c) (by simp [lk]) (by omega) (by simp) ?_)
  intro X hX hX0 H hH
  conv in Fin.chk _ _ => cbv
  try simp only [Plain_rowsA, Plain_rowsB, Plain_rowsC, Plain_rowsF, Plain_rowsG, Plain_rowsI, Plain_rowsS, Plain_rowsU, Fin.satC_ret, Fin.satC_br, Fin.satC_need, Fin.satC_again, AllP, and_true, true_and, upd, List.length_nil, List.length_cons, Nat.zero_add, if_true, ncast, Int.ofNat_eq_natCast]
  have ht := p_DrawParseArms c
  generalize F_DrawWrapArms c = y at *
  generalize F_DrawParseArms c = t at *
  obtain ⟨a, w⟩ := y
  dsimp only at *
  have sa := armT_sz a
  have e1 : ∀ x : Arm, allT [fun _ => x.f.d == x.f.d, fun _ => x.f.l == x.f.l, fun _ => x.f.p == x.f.p, fun _ => x.f.q == x.f.q, fun _ => x.o == x.o, fun _ => x.l == x.l, fun _ => x.t == x.t, fun _ => x.n.c == x.n.c, fun _ => x.n.k == x.n.k, fun _ => x.n.a == x.n.a, fun _ => x.n.t == x.n.t, fun _ => x.r.c == x.r.c, fun _ => x.r.k == x.r.k, fun _ => x.r.a == x.r.a, fun _ => x.r.t == x.r.t] = true := fun x => by simp [allT]
  refine ⟨?_, fun h => ?_, fun h => ⟨?_, ?_, fun h1 => ?_, fun h1 => ?_⟩⟩
  · try simp only [hH, stdH, decide_eq_true_eq, decide_eq_false_iff_not, Bool.not_eq_true', Bool.not_eq_false', peta, ncast, Int.ofNat_eq_natCast, beq_iff_eq, bne_iff_ne, beq_eq_false_iff_ne, bne_eq_false_iff_eq, ne_eq, Classical.not_not, Int.toNat_natCast, vrow_I, Arm.eta2, Fld.eta, Grp.eta]
  · try simp only [hH, stdH, decide_eq_true_eq, decide_eq_false_iff_not, Bool.not_eq_true', Bool.not_eq_false', peta, ncast, Int.ofNat_eq_natCast, beq_iff_eq, bne_iff_ne, beq_eq_false_iff_ne, bne_eq_false_iff_eq, ne_eq, Classical.not_not, Int.toNat_natCast, vrow_I, Arm.eta2, Fld.eta, Grp.eta]
  · try simp only [hH, stdH, decide_eq_true_eq, decide_eq_false_iff_not, Bool.not_eq_true', Bool.not_eq_false', peta, ncast, Int.ofNat_eq_natCast, beq_iff_eq, bne_iff_ne, beq_eq_false_iff_ne, bne_eq_false_iff_eq, ne_eq, Classical.not_not, Int.toNat_natCast, vrow_I, Arm.eta2, Fld.eta, Grp.eta]
  · try simp only [hH, stdH, decide_eq_true_eq, decide_eq_false_iff_not, Bool.not_eq_true', Bool.not_eq_false', peta, ncast, Int.ofNat_eq_natCast, beq_iff_eq, bne_iff_ne, beq_eq_false_iff_ne, bne_eq_false_iff_eq, ne_eq, Classical.not_not, Int.toNat_natCast, vrow_I, Arm.eta2, Fld.eta, Grp.eta]
    split
    · omega
    · exact Nat.zero_le _
  · exfalso
    simp only [hH, stdH, Arm.eta2, Fld.eta, Grp.eta] at h1
    cases ho : okA a
    · simp [ho] at h1
    · have e2 : pA (armT a) = some a := pA_iff.2 ⟨ho, rfl⟩
      simp only [ho, if_true, e2, Option.isSome_some, Option.getD_some, e1] at h1
      simp at h1
  clear h1
  refine ⟨?_, ?_, fun h2 => ?_, fun h2 => ⟨⟨?_, ?_, ?_⟩, fun h3 => ?_, fun h3 => ?_⟩⟩
  · try simp only [hH, stdH, decide_eq_true_eq, decide_eq_false_iff_not, Bool.not_eq_true', Bool.not_eq_false', peta, ncast, Int.ofNat_eq_natCast, beq_iff_eq, bne_iff_ne, beq_eq_false_iff_ne, bne_eq_false_iff_eq, ne_eq, Classical.not_not, Int.toNat_natCast, vrow_I, Arm.eta2, Fld.eta, Grp.eta]
  · try simp only [hH, stdH, decide_eq_true_eq, decide_eq_false_iff_not, Bool.not_eq_true', Bool.not_eq_false', peta, ncast, Int.ofNat_eq_natCast, beq_iff_eq, bne_iff_ne, beq_eq_false_iff_ne, bne_eq_false_iff_eq, ne_eq, Classical.not_not, Int.toNat_natCast, vrow_I, Arm.eta2, Fld.eta, Grp.eta]
    omega
  · exfalso
    simp only [hH, stdH, Arm.eta2, Fld.eta, Grp.eta, beqT] at h2
    cases hp : pA t with
    | none => rw [hp] at h2; simp at h2
    | some g =>
      have hg := pA_iff.1 hp
      simp only [hp, Option.isSome_some, Option.getD_some, hg.1, if_true, hg.2, decide_true] at h2
      simp at h2
  · try simp only [hH, stdH, decide_eq_true_eq, decide_eq_false_iff_not, Bool.not_eq_true', Bool.not_eq_false', peta, ncast, Int.ofNat_eq_natCast, beq_iff_eq, bne_iff_ne, beq_eq_false_iff_ne, bne_eq_false_iff_eq, ne_eq, Classical.not_not, Int.toNat_natCast, vrow_I, Arm.eta2, Fld.eta, Grp.eta]
    exact fun _ => Shp_S _ _
  · try simp only [hH, stdH, decide_eq_true_eq, decide_eq_false_iff_not, Bool.not_eq_true', Bool.not_eq_false', peta, ncast, Int.ofNat_eq_natCast, beq_iff_eq, bne_iff_ne, beq_eq_false_iff_ne, bne_eq_false_iff_eq, ne_eq, Classical.not_not, Int.toNat_natCast, vrow_I, Arm.eta2, Fld.eta, Grp.eta]
    exact fun _ => Shp_S _ _
  · try simp only [hH, stdH, decide_eq_true_eq, decide_eq_false_iff_not, Bool.not_eq_true', Bool.not_eq_false', peta, ncast, Int.ofNat_eq_natCast, beq_iff_eq, bne_iff_ne, beq_eq_false_iff_ne, bne_eq_false_iff_eq, ne_eq, Classical.not_not, Int.toNat_natCast, vrow_I, Arm.eta2, Fld.eta, Grp.eta]
    intro _
    simp only [Tl_S]
    split
    · have := wrapT_len (armT a) w; omega
    · exact Nat.zero_le _
  · exfalso
    simp only [hH, stdH, decide_true, Bool.not_true] at h3
    simp at h3
  clear h2 h3
  obtain ⟨L, hL⟩ : ∃ L, L = if okA a && inB w 12 80 then wrapT (armT a) w else [] := ⟨_, rfl⟩
  have hl : L.length ≤ 5001 := by
    rw [hL]
    split
    · have := wrapT_len (armT a) w; omega
    · exact Nat.zero_le _
  have hz : ∀ i, (jW (L.take i)).size ≤ 5000 := fun i => by
    refine Nat.le_trans (jW_sz L i) ?_
    rw [hL]
    split
    · rw [jW_wrapT]; omega
    · exact Nat.zero_le _
  have hw : ∀ i, i < L.length → (L.getD i ByteArray.empty).size ≤ 5000 := fun i hi => by
    have h1 := hz (i + 1)
    rw [jW_take hi] at h1
    split at h1
    · exact h1
    · rw [ByteArray.size_append, ByteArray.size_append] at h1; omega
  refine loop_a hB (draw_ok hB mixed) hX hX0 hH false (ι := { i : Nat // i ≤ L.length }) 400 (fun i => [.s (H ByteArray fun _ => jW (L.take i.1)), .i (H Int fun _ => (i.1 : Nat))]) (fun i => L.length - i.1) (⟨0, by omega⟩) ?_ ?_
  · (conv in matchSt _ _ _ _ => cbv); simp only [AllG, AllP, and_true, hH, stdH, ncast, Int.ofNat_eq_natCast, vrow_I, Arm.eta2, Fld.eta, Grp.eta]
    (repeat' (first | rfl | trivial | exact RowsEq.self okS | exact RowsEq.ofT okS rfl (Shp_zero _) rfl | exact RowsEq.snoc okS rfl | exact RowsEq.self okI | exact RowsEq.self okRA | exact List.length_append | refine And.intro ?_ ?_))
    all_goals exact c.rq
  · intro I hI i
    conv in Fin.chk _ _ => cbv
    try simp only [Plain_rowsA, Plain_rowsB, Plain_rowsC, Plain_rowsF, Plain_rowsG, Plain_rowsI, Plain_rowsS, Plain_rowsU, Fin.satC_ret, Fin.satC_br, Fin.satC_need, Fin.satC_again, AllP, and_true, true_and, upd, List.length_nil, List.length_cons, Nat.zero_add, if_true, ncast, Int.ofNat_eq_natCast]
    obtain ⟨i, hi⟩ := i
    have sp : (⟨⟨[32]⟩⟩ : ByteArray).size = 1 := rfl
    have z1 := hz i
    refine ⟨fun h4 => ?_, fun h4 => ?_⟩
    · simp only [hH, stdH, decide_eq_true_eq, decide_eq_false_iff_not, Bool.not_eq_true', Bool.not_eq_false', peta, ncast, Int.ofNat_eq_natCast, beq_iff_eq, bne_iff_ne, beq_eq_false_iff_ne, bne_eq_false_iff_eq, ne_eq, Classical.not_not, Int.toNat_natCast, vrow_I, Arm.eta2, Fld.eta, Grp.eta] at h4
      rw [← hL] at h4
      have hi' : i < L.length := by omega
      have z2 := hw i hi'
      have z3 := jW_take hi'
      refine ⟨fun h5 => ⟨?_, ?_, ?_, ⟨i + 1, by omega⟩, by simp only; omega, ?_⟩, fun h5 => ⟨?_, ?_, ⟨i + 1, by omega⟩, by simp only; omega, ?_⟩⟩
      · try simp only [hH, stdH, decide_eq_true_eq, decide_eq_false_iff_not, Bool.not_eq_true', Bool.not_eq_false', peta, ncast, Int.ofNat_eq_natCast, beq_iff_eq, bne_iff_ne, beq_eq_false_iff_ne, bne_eq_false_iff_eq, ne_eq, Classical.not_not, Int.toNat_natCast, vrow_I, Arm.eta2, Fld.eta, Grp.eta]
        rw [sp]; omega
      · try simp only [hH, stdH, decide_eq_true_eq, decide_eq_false_iff_not, Bool.not_eq_true', Bool.not_eq_false', peta, ncast, Int.ofNat_eq_natCast, beq_iff_eq, bne_iff_ne, beq_eq_false_iff_ne, bne_eq_false_iff_eq, ne_eq, Classical.not_not, Int.toNat_natCast, vrow_I, Arm.eta2, Fld.eta, Grp.eta]
        rw [← hL]; omega
      · try simp only [hH, stdH, decide_eq_true_eq, decide_eq_false_iff_not, Bool.not_eq_true', Bool.not_eq_false', peta, ncast, Int.ofNat_eq_natCast, beq_iff_eq, bne_iff_ne, beq_eq_false_iff_ne, bne_eq_false_iff_eq, ne_eq, Classical.not_not, Int.toNat_natCast, vrow_I, Arm.eta2, Fld.eta, Grp.eta]
        rw [← hL, ByteArray.size_append, sp]; omega
      · simp only [hH, stdH, decide_eq_true_eq, decide_eq_false_iff_not, Bool.not_eq_true', Bool.not_eq_false', peta, ncast, Int.ofNat_eq_natCast, beq_iff_eq, bne_iff_ne, beq_eq_false_iff_ne, bne_eq_false_iff_eq, ne_eq, Classical.not_not, Int.toNat_natCast, vrow_I, Arm.eta2, Fld.eta, Grp.eta] at h5
        rw [if_neg (by omega), ← ByteArray.append_assoc] at z3
        rw [hI]
        (conv in matchSt _ _ _ _ => cbv); simp only [AllG, AllP, and_true, hH, stdH, ncast, Int.ofNat_eq_natCast, vrow_I, Arm.eta2, Fld.eta, Grp.eta]
        simp only [Int.toNat_natCast]
        rw [← hL, w1 (by omega), z3]
        (repeat' (first | rfl | trivial | exact RowsEq.self okS | exact RowsEq.ofT okS rfl (Shp_zero _) rfl | exact RowsEq.snoc okS rfl | exact RowsEq.self okI | exact RowsEq.self okRA | exact List.length_append | refine And.intro ?_ ?_))
        all_goals exact c.rq
      · try simp only [hH, stdH, decide_eq_true_eq, decide_eq_false_iff_not, Bool.not_eq_true', Bool.not_eq_false', peta, ncast, Int.ofNat_eq_natCast, beq_iff_eq, bne_iff_ne, beq_eq_false_iff_ne, bne_eq_false_iff_eq, ne_eq, Classical.not_not, Int.toNat_natCast, vrow_I, Arm.eta2, Fld.eta, Grp.eta]
        rw [← hL]; omega
      · try simp only [hH, stdH, decide_eq_true_eq, decide_eq_false_iff_not, Bool.not_eq_true', Bool.not_eq_false', peta, ncast, Int.ofNat_eq_natCast, beq_iff_eq, bne_iff_ne, beq_eq_false_iff_ne, bne_eq_false_iff_eq, ne_eq, Classical.not_not, Int.toNat_natCast, vrow_I, Arm.eta2, Fld.eta, Grp.eta]
        rw [← hL]; omega
      · simp only [hH, stdH, decide_eq_true_eq, decide_eq_false_iff_not, Bool.not_eq_true', Bool.not_eq_false', peta, ncast, Int.ofNat_eq_natCast, beq_iff_eq, bne_iff_ne, beq_eq_false_iff_ne, bne_eq_false_iff_eq, ne_eq, Classical.not_not, Int.toNat_natCast, vrow_I, Arm.eta2, Fld.eta, Grp.eta] at h5
        have h0 : i = 0 := by omega
        rw [if_pos h0] at z3
        rw [hI]
        (conv in matchSt _ _ _ _ => cbv); simp only [AllG, AllP, and_true, hH, stdH, ncast, Int.ofNat_eq_natCast, vrow_I, Arm.eta2, Fld.eta, Grp.eta]
        simp only [Int.toNat_natCast]
        rw [← hL, w1 (by omega), z3]
        have ze : jW (L.take i) ++ L.getD i ByteArray.empty = L.getD i ByteArray.empty := by rw [h0]; exact empty_app _
        (try rw [ze])
        (repeat' (first | rfl | trivial | exact RowsEq.self okS | exact RowsEq.ofT okS rfl (Shp_zero _) rfl | exact RowsEq.snoc okS rfl | exact RowsEq.self okI | exact RowsEq.self okRA | exact List.length_append | refine And.intro ?_ ?_))
        all_goals exact c.rq
    · simp only [hH, stdH, decide_eq_true_eq, decide_eq_false_iff_not, Bool.not_eq_true', Bool.not_eq_false', peta, ncast, Int.ofNat_eq_natCast, beq_iff_eq, bne_iff_ne, beq_eq_false_iff_ne, bne_eq_false_iff_eq, ne_eq, Classical.not_not, Int.toNat_natCast, vrow_I, Arm.eta2, Fld.eta, Grp.eta] at h4
      rw [← hL] at h4
      obtain rfl : i = L.length := by omega
      rw [List.take_length]
      clear hI hX hX0
      simp only [hH, stdH, Arm.eta2, Fld.eta, Grp.eta]
      rw [hL]
      cases ho : okA a
      · simp
      · cases hb : inB w 12 80
        · simp
        · simp [jW_wrapT]

end Go.Proofs.YtdicfibonfjalaaGreatDoor.AM
