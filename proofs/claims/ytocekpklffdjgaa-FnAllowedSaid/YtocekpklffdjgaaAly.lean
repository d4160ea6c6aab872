import Derived.Test.YtocekpklffdjgaaAmT
import Derived.Test.YtocekpklffdjgaaAlx
set_option linter.unusedVariables false
set_option linter.unusedSimpArgs false
set_option maxRecDepth 100000
set_option maxHeartbeats 4000000
set_option cbv.maxSteps 3000000
namespace Go.Proofs.Ytocekpklffdjgaa.AM
/- Lists compared, draws for the law; conditions: none. -/
theorem list_ext_getD {α : Type} {a b : List α} (d : α) (h : a.length = b.length) (hj : ∀ j, j < a.length → a.getD j d = b.getD j d) : a = b := by
  refine List.ext_getElem h fun j h2 h3 => ?_
  have := hj j h2
  simpa [List.getD_eq_getElem?_getD, h2, h3] using this
theorem c_rInts (a : List Int) (b : List Int) (h0 : a.length ≤ 1000000) : ConN Try.prog 17 [.vec 1 (stdH Nat fun _ => (a).length) (rowsI stdH fun _ => a), .vec 1 (stdH Nat fun _ => (b).length) (rowsI stdH fun _ => b)] [] 0 (.lit (.bool (stdH Bool fun _ => decide (a = b)))) [] [] := by
  have hB : Base Try.prog (tabΓ []) tab := base_of tabOk (ents_nil)
  refine con_m (N := 26) hB (draw_ok hB mixed) Try.func17 rfl rfl (fun H => [.vec 1 (H Nat fun _ => (a).length) (rowsI H fun _ => a), .vec 1 (H Nat fun _ => (b).length) (rowsI H fun _ => b)]) (fun _ => []) 0 (fun H => .lit (.bool (H Bool fun _ => decide (a = b)))) (fun H => []) (fun _ => []) 100 (by simp) (fun x hx => ?_) (by simp [lk]) (by omega) (by simp) ?_
  · simp only [List.mem_cons, List.not_mem_nil, or_false] at hx
    rcases hx with rfl | rfl
    · exact vl_bl okI a _
    · exact vl_bl okI b _
  intro X hX hX0 H hH
  conv in Fin.chk _ _ => cbv
  try simp only [Fin.satC_ret, Fin.satC_br, Fin.satC_need, Fin.satC_again, AllP, and_true, true_and, upd, List.length_nil, List.length_cons, Nat.zero_add, if_true, ncast, Int.ofNat_eq_natCast]
  refine ⟨fun h => ?_, fun h => ?_⟩
  · simp only [hH, stdH, decide_eq_true_eq, decide_eq_false_iff_not, Bool.not_eq_true', Bool.not_eq_false', peta, ncast, Int.ofNat_eq_natCast, beq_iff_eq, bne_iff_ne, beq_eq_false_iff_ne, bne_eq_false_iff_eq, ne_eq, Classical.not_not, Int.toNat_natCast, vrow_I, Arm.eta2, Fld.eta, Grp.eta] at h ⊢
    rintro rfl; exact h rfl
  simp only [hH, stdH, decide_eq_true_eq, decide_eq_false_iff_not, Bool.not_eq_true', Bool.not_eq_false', peta, ncast, Int.ofNat_eq_natCast, beq_iff_eq, bne_iff_ne, beq_eq_false_iff_ne, bne_eq_false_iff_eq, ne_eq, Classical.not_not, Int.toNat_natCast, vrow_I, Arm.eta2, Fld.eta, Grp.eta] at h
  refine loop_a hB (draw_ok hB mixed) hX hX0 hH false (ι := { i : Nat // i ≤ a.length ∧ ∀ j, j < i → a.getD j 0 = b.getD j 0 }) 100 (fun i => [.i (H Int fun _ => (i.1 : Nat))]) (fun i => a.length - i.1) (⟨0, by omega, by omega⟩) ?_ ?_
  · (conv in matchSt _ _ _ _ => cbv); simp only [AllG, AllP, and_true, hH, stdH, ncast, Int.ofNat_eq_natCast, vrow_I, Arm.eta2, Fld.eta, Grp.eta]
    (repeat' (first | rfl | trivial | exact RowsEq.self okI | exact RowsEq.ofT okI rfl (Shp_zero _) rfl | exact RowsEq.snoc okI rfl | exact RowsEq.self okI | exact RowsEq.self okRA | exact List.length_append | refine And.intro ?_ ?_))
  · intro I hI i
    conv in Fin.chk _ _ => cbv
    try simp only [Fin.satC_ret, Fin.satC_br, Fin.satC_need, Fin.satC_again, AllP, and_true, true_and, upd, List.length_nil, List.length_cons, Nat.zero_add, if_true, ncast, Int.ofNat_eq_natCast]
    obtain ⟨i, hi, hj⟩ := i
    refine ⟨fun h1 => ⟨?_, ?_, fun h2 => ?_, fun h2 => ?_⟩, fun h1 => ?_⟩
    · simp only [hH, stdH, decide_eq_true_eq, decide_eq_false_iff_not, Bool.not_eq_true', Bool.not_eq_false', peta, ncast, Int.ofNat_eq_natCast, beq_iff_eq, bne_iff_ne, beq_eq_false_iff_ne, bne_eq_false_iff_eq, ne_eq, Classical.not_not, Int.toNat_natCast, vrow_I, Arm.eta2, Fld.eta, Grp.eta] at h1 ⊢
      omega
    · simp only [hH, stdH, decide_eq_true_eq, decide_eq_false_iff_not, Bool.not_eq_true', Bool.not_eq_false', peta, ncast, Int.ofNat_eq_natCast, beq_iff_eq, bne_iff_ne, beq_eq_false_iff_ne, bne_eq_false_iff_eq, ne_eq, Classical.not_not, Int.toNat_natCast, vrow_I, Arm.eta2, Fld.eta, Grp.eta] at h1 ⊢
      omega
    · simp only [hH, stdH, Int.toNat_natCast] at h2
      try simp only [] at h2
      simp only [hH, stdH, decide_eq_true_eq, decide_eq_false_iff_not, Bool.not_eq_true', Bool.not_eq_false', peta, ncast, Int.ofNat_eq_natCast, beq_iff_eq, bne_iff_ne, beq_eq_false_iff_ne, bne_eq_false_iff_eq, ne_eq, Classical.not_not, Int.toNat_natCast, vrow_I, Arm.eta2, Fld.eta, Grp.eta] at h2 ⊢
      rintro rfl; exact h2 rfl
    · simp only [hH, stdH, decide_eq_true_eq, decide_eq_false_iff_not, Bool.not_eq_true', Bool.not_eq_false', peta, ncast, Int.ofNat_eq_natCast, beq_iff_eq, bne_iff_ne, beq_eq_false_iff_ne, bne_eq_false_iff_eq, ne_eq, Classical.not_not, Int.toNat_natCast, vrow_I, Arm.eta2, Fld.eta, Grp.eta] at h1
      simp only [hH, stdH, Int.toNat_natCast] at h2
      try simp only [] at h2
      simp only [hH, stdH, decide_eq_true_eq, decide_eq_false_iff_not, Bool.not_eq_true', Bool.not_eq_false', peta, ncast, Int.ofNat_eq_natCast, beq_iff_eq, bne_iff_ne, beq_eq_false_iff_ne, bne_eq_false_iff_eq, ne_eq, Classical.not_not, Int.toNat_natCast, vrow_I, Arm.eta2, Fld.eta, Grp.eta] at h2
      refine ⟨⟨i + 1, by omega, fun j hj' => ?_⟩, by simp only; omega, ?_⟩
      · rcases Nat.lt_succ_iff_lt_or_eq.1 hj' with h | rfl
        · exact hj j h
        · exact h2
      · rw [hI]
        (conv in matchSt _ _ _ _ => cbv); simp only [AllG, AllP, and_true, hH, stdH, ncast, Int.ofNat_eq_natCast, vrow_I, Arm.eta2, Fld.eta, Grp.eta]
        rw [w1 (by omega)]
        (repeat' (first | rfl | trivial | exact RowsEq.self okI | exact RowsEq.ofT okI rfl (Shp_zero _) rfl | exact RowsEq.snoc okI rfl | exact RowsEq.self okI | exact RowsEq.self okRA | exact List.length_append | refine And.intro ?_ ?_))
    · simp only [hH, stdH, decide_eq_true_eq, decide_eq_false_iff_not, Bool.not_eq_true', Bool.not_eq_false', peta, ncast, Int.ofNat_eq_natCast, beq_iff_eq, bne_iff_ne, beq_eq_false_iff_ne, bne_eq_false_iff_eq, ne_eq, Classical.not_not, Int.toNat_natCast, vrow_I, Arm.eta2, Fld.eta, Grp.eta] at h1 ⊢
      obtain rfl : i = a.length := by omega
      exact list_ext_getD 0 (by omega) hj
noncomputable def e_rInts : Entry := pureE 17 fun H a => match a with
  | [.vec 1 an af, .vec 1 bn bf] => some (.lit (.bool (H Bool fun _ => decide ((Tl rowI an af) = (Tl rowI bn bf)))), [H Prop fun _ => Shp rowI an af, H Prop fun _ => Shp rowI bn bf, H Prop fun _ => (Tl rowI an af).length ≤ 1000000])
  | _ => none
theorem eok_rInts : EntryOk Try.prog e_rInts := pureM_ok (by unfold isBody; kernel_rfl) (by
  intro a r ob e hob
  split at e
  · rename_i an af bn bf
    simp only [Option.some.injEq, Prod.mk.injEq] at e
    obtain ⟨rfl, rfl⟩ := e
    exact ConN.args (.cons (.toT okI rfl hob.1) (.cons (.toT okI rfl hob.2.1) .nil)) (c_rInts (Tl rowI an af) (Tl rowI bn bf) hob.2.2.1)
  · simp at e)
theorem c_rFindings (a : List Fdg) (b : List Fdg) (h0 : a.length ≤ 1000000) : ConN Try.prog 23 [.vec 3 (stdH Nat fun _ => (a).length) (rowsD stdH fun _ => a), .vec 3 (stdH Nat fun _ => (b).length) (rowsD stdH fun _ => b)] [] 0 (.lit (.bool (stdH Bool fun _ => decide (a = b)))) [] [] := by
  have hB : Base Try.prog (tabΓ []) tab := base_of tabOk (ents_nil)
  refine con_m (N := 26) hB (draw_ok hB mixed) Try.func23 rfl rfl (fun H => [.vec 3 (H Nat fun _ => (a).length) (rowsD H fun _ => a), .vec 3 (H Nat fun _ => (b).length) (rowsD H fun _ => b)]) (fun _ => []) 0 (fun H => .lit (.bool (H Bool fun _ => decide (a = b)))) (fun H => []) (fun _ => []) 100 (by simp) (fun x hx => ?_) (by simp [lk]) (by omega) (by simp) ?_
  · simp only [List.mem_cons, List.not_mem_nil, or_false] at hx
    rcases hx with rfl | rfl
    · exact vl_bl okRD a _
    · exact vl_bl okRD b _
  intro X hX hX0 H hH
  conv in Fin.chk _ _ => cbv
  try simp only [Fin.satC_ret, Fin.satC_br, Fin.satC_need, Fin.satC_again, AllP, and_true, true_and, upd, List.length_nil, List.length_cons, Nat.zero_add, if_true, ncast, Int.ofNat_eq_natCast]
  refine ⟨fun h => ?_, fun h => ?_⟩
  · simp only [hH, stdH, decide_eq_true_eq, decide_eq_false_iff_not, Bool.not_eq_true', Bool.not_eq_false', peta, ncast, Int.ofNat_eq_natCast, beq_iff_eq, bne_iff_ne, beq_eq_false_iff_ne, bne_eq_false_iff_eq, ne_eq, Classical.not_not, Int.toNat_natCast, vrow_I, Arm.eta2, Fld.eta, Grp.eta] at h ⊢
    rintro rfl; exact h rfl
  simp only [hH, stdH, decide_eq_true_eq, decide_eq_false_iff_not, Bool.not_eq_true', Bool.not_eq_false', peta, ncast, Int.ofNat_eq_natCast, beq_iff_eq, bne_iff_ne, beq_eq_false_iff_ne, bne_eq_false_iff_eq, ne_eq, Classical.not_not, Int.toNat_natCast, vrow_I, Arm.eta2, Fld.eta, Grp.eta] at h
  refine loop_a hB (draw_ok hB mixed) hX hX0 hH false (ι := { i : Nat // i ≤ a.length ∧ ∀ j, j < i → a.getD j default = b.getD j default }) 100 (fun i => [.i (H Int fun _ => (i.1 : Nat))]) (fun i => a.length - i.1) (⟨0, by omega, by omega⟩) ?_ ?_
  · (conv in matchSt _ _ _ _ => cbv); simp only [AllG, AllP, and_true, hH, stdH, ncast, Int.ofNat_eq_natCast, vrow_I, Arm.eta2, Fld.eta, Grp.eta]
    (repeat' (first | rfl | trivial | exact RowsEq.self okRD | exact RowsEq.ofT okRD rfl (Shp_zero _) rfl | exact RowsEq.snoc okRD rfl | exact RowsEq.self okI | exact RowsEq.self okRA | exact List.length_append | refine And.intro ?_ ?_))
  · intro I hI i
    conv in Fin.chk _ _ => cbv
    try simp only [Fin.satC_ret, Fin.satC_br, Fin.satC_need, Fin.satC_again, AllP, and_true, true_and, upd, List.length_nil, List.length_cons, Nat.zero_add, if_true, ncast, Int.ofNat_eq_natCast]
    obtain ⟨i, hi, hj⟩ := i
    refine ⟨fun h1 => ⟨?_, ?_, fun h2 => ?_, fun h2 => ?_⟩, fun h1 => ?_⟩
    · simp only [hH, stdH, decide_eq_true_eq, decide_eq_false_iff_not, Bool.not_eq_true', Bool.not_eq_false', peta, ncast, Int.ofNat_eq_natCast, beq_iff_eq, bne_iff_ne, beq_eq_false_iff_ne, bne_eq_false_iff_eq, ne_eq, Classical.not_not, Int.toNat_natCast, vrow_I, Arm.eta2, Fld.eta, Grp.eta] at h1 ⊢
      omega
    · simp only [hH, stdH, decide_eq_true_eq, decide_eq_false_iff_not, Bool.not_eq_true', Bool.not_eq_false', peta, ncast, Int.ofNat_eq_natCast, beq_iff_eq, bne_iff_ne, beq_eq_false_iff_ne, bne_eq_false_iff_eq, ne_eq, Classical.not_not, Int.toNat_natCast, vrow_I, Arm.eta2, Fld.eta, Grp.eta] at h1 ⊢
      omega
    · simp only [hH, stdH, Int.toNat_natCast] at h2
      try simp only [eqDE] at h2
      simp only [hH, stdH, decide_eq_true_eq, decide_eq_false_iff_not, Bool.not_eq_true', Bool.not_eq_false', peta, ncast, Int.ofNat_eq_natCast, beq_iff_eq, bne_iff_ne, beq_eq_false_iff_ne, bne_eq_false_iff_eq, ne_eq, Classical.not_not, Int.toNat_natCast, vrow_I, Arm.eta2, Fld.eta, Grp.eta] at h2 ⊢
      rintro rfl; exact h2 rfl
    · simp only [hH, stdH, decide_eq_true_eq, decide_eq_false_iff_not, Bool.not_eq_true', Bool.not_eq_false', peta, ncast, Int.ofNat_eq_natCast, beq_iff_eq, bne_iff_ne, beq_eq_false_iff_ne, bne_eq_false_iff_eq, ne_eq, Classical.not_not, Int.toNat_natCast, vrow_I, Arm.eta2, Fld.eta, Grp.eta] at h1
      simp only [hH, stdH, Int.toNat_natCast] at h2
      try simp only [eqDE] at h2
      simp only [hH, stdH, decide_eq_true_eq, decide_eq_false_iff_not, Bool.not_eq_true', Bool.not_eq_false', peta, ncast, Int.ofNat_eq_natCast, beq_iff_eq, bne_iff_ne, beq_eq_false_iff_ne, bne_eq_false_iff_eq, ne_eq, Classical.not_not, Int.toNat_natCast, vrow_I, Arm.eta2, Fld.eta, Grp.eta] at h2
      refine ⟨⟨i + 1, by omega, fun j hj' => ?_⟩, by simp only; omega, ?_⟩
      · rcases Nat.lt_succ_iff_lt_or_eq.1 hj' with h | rfl
        · exact hj j h
        · exact h2
      · rw [hI]
        (conv in matchSt _ _ _ _ => cbv); simp only [AllG, AllP, and_true, hH, stdH, ncast, Int.ofNat_eq_natCast, vrow_I, Arm.eta2, Fld.eta, Grp.eta]
        rw [w1 (by omega)]
        (repeat' (first | rfl | trivial | exact RowsEq.self okRD | exact RowsEq.ofT okRD rfl (Shp_zero _) rfl | exact RowsEq.snoc okRD rfl | exact RowsEq.self okI | exact RowsEq.self okRA | exact List.length_append | refine And.intro ?_ ?_))
    · simp only [hH, stdH, decide_eq_true_eq, decide_eq_false_iff_not, Bool.not_eq_true', Bool.not_eq_false', peta, ncast, Int.ofNat_eq_natCast, beq_iff_eq, bne_iff_ne, beq_eq_false_iff_ne, bne_eq_false_iff_eq, ne_eq, Classical.not_not, Int.toNat_natCast, vrow_I, Arm.eta2, Fld.eta, Grp.eta] at h1 ⊢
      obtain rfl : i = a.length := by omega
      exact list_ext_getD default (by omega) hj
noncomputable def e_rFindings : Entry := pureE 23 fun H a => match a with
  | [.vec 3 an af, .vec 3 bn bf] => some (.lit (.bool (H Bool fun _ => decide ((Tl rowD an af) = (Tl rowD bn bf)))), [H Prop fun _ => Shp rowD an af, H Prop fun _ => Shp rowD bn bf, H Prop fun _ => (Tl rowD an af).length ≤ 1000000])
  | _ => none
theorem eok_rFindings : EntryOk Try.prog e_rFindings := pureM_ok (by unfold isBody; kernel_rfl) (by
  intro a r ob e hob
  split at e
  · rename_i an af bn bf
    simp only [Option.some.injEq, Prod.mk.injEq] at e
    obtain ⟨rfl, rfl⟩ := e
    exact ConN.args (.cons (.toT okRD rfl hob.1) (.cons (.toT okRD rfl hob.2.1) .nil)) (c_rFindings (Tl rowD an af) (Tl rowD bn bf) hob.2.2.1)
  · simp at e)
def enc_rBig2 (H : Hold) (y : Unit → Bool) : AV := .lit (.bool (H Bool fun _ => ((y ()))))
theorem x_rBig2 (c : Cd) : ∃ y : Bool, Con Try.prog 13 [codeAV c] [] (enc_rBig2 stdH fun _ => y) [] ∧ Bl 0 (enc_rBig2 stdH fun _ => y) ∧ (fun _ => True) y := by
  have hB : Base Try.prog (tabΓ []) tab := base_of tabOk (ents_nil)
  refine df_ok (N := 6) hB (draw_ok hB mixed) Try.func13 rfl rfl _ _ _ 50 (by simp) ?_
  intro H hH
  conv in finish _ _ _ _ _ _ _ _ => cbv
  subst hH
  simp only [Fin.sat0, Fin.sat1, stdH, Option.some.injEq, AV.lit.injEq, AV.agg.injEq, AV.tup.injEq, List.cons.injEq, Value.bool.injEq, Value.int.injEq, AllP, and_true, true_and, eq_self, decide_eq_true_eq, decide_eq_false_iff_not, Bool.not_eq_true', Bool.not_eq_false', peta, ncast]
  exact ⟨_, .refl, .lit⟩
noncomputable def F_rBig2 (c : Cd) : Bool := dfw Try.prog 13 enc_rBig2 (fun _ => True) c
noncomputable def e_rBig2 (c : Cd) : Entry := codeE 13 c fun H => enc_rBig2 H fun _ => F_rBig2 c
theorem eok_rBig2 (c : Cd) : EntryOk Try.prog (e_rBig2 c) := codeE_ok (by unfold isBody; kernel_rfl) (dfw_spec (x_rBig2 c)).1
theorem p_rBig2 (c : Cd) : (fun _ => True) (F_rBig2 c) := (dfw_spec (x_rBig2 c)).2.2
structure AmI where
  a : Arm
  p : Int
deriving Inhabited
def enc_DrawAllowedAt (H : Hold) (y : Unit → AmI) : AV := .tup [.agg [.lit (.int .i64 (H Int fun _ => (((y ()).a).f.d))), .lit (.int .i64 (H Int fun _ => (((y ()).a).f.l))), .lit (.int .i64 (H Int fun _ => (((y ()).a).f.p))), .lit (.int .i64 (H Int fun _ => (((y ()).a).f.q))), .lit (.int .i64 (H Int fun _ => (((y ()).a).o))), .lit (.int .i64 (H Int fun _ => (((y ()).a).l))), .lit (.int .i64 (H Int fun _ => (((y ()).a).t))), .lit (.int .i64 (H Int fun _ => (((y ()).a).n.c))), .lit (.int .i64 (H Int fun _ => (((y ()).a).n.k))), .lit (.int .i64 (H Int fun _ => (((y ()).a).n.a))), .lit (.int .i64 (H Int fun _ => (((y ()).a).n.t))), .lit (.int .i64 (H Int fun _ => (((y ()).a).r.c))), .lit (.int .i64 (H Int fun _ => (((y ()).a).r.k))), .lit (.int .i64 (H Int fun _ => (((y ()).a).r.a))), .lit (.int .i64 (H Int fun _ => (((y ()).a).r.t)))], .lit (.int .i64 (H Int fun _ => ((y ()).p)))]
theorem x_DrawAllowedAt (c : Cd) : ∃ y : AmI, Con Try.prog 14 [codeAV c] [] (enc_DrawAllowedAt stdH fun _ => y) [] ∧ Bl 0 (enc_DrawAllowedAt stdH fun _ => y) ∧ (fun _ => True) y := by
  have hB : Base Try.prog (tabΓ [e_anyArms c, e_pick c, e_among c]) tab := base_of tabOk (ents_cons (eok_anyArms c) <| ents_cons (eok_pick c) <| ents_cons (eok_among c) <| ents_nil)
  refine df_ok (N := 18) hB (draw_ok hB mixed) Try.func14 rfl rfl _ _ _ 120 (by simp) ?_
  intro H hH
  conv in finish _ _ _ _ _ _ _ _ => cbv
  subst hH
  simp only [Fin.sat0, Fin.sat1, stdH, Option.some.injEq, AV.lit.injEq, AV.agg.injEq, AV.tup.injEq, List.cons.injEq, Value.bool.injEq, Value.int.injEq, AllP, and_true, true_and, eq_self, decide_eq_true_eq, decide_eq_false_iff_not, Bool.not_eq_true', Bool.not_eq_false', peta, ncast]
  have h : Bd 60 (0, 0) := ⟨by decide, by decide⟩
  have a1 := (p_anyArms c (0, 0) (Bd.mono (by assumption))).1; generalize F_anyArms c (0, 0) = y1 at *; have b1 : Bd 6 y1.2 := a1.bd (by assumption)
  obtain ⟨a2, m2, n2⟩ := p_pick c (24) y1.2 (Bd.mono (by assumption)); generalize F_pick c (24) y1.2 = y2 at *; have b2 : Bd 4 y2.2 := Adv.bd a2 (by assumption)
  have hq : 0 ≤ y2.1.tdiv 11 ∧ y2.1.tdiv 11 ≤ 2 := by rw [Int.tdiv_eq_ediv_of_nonneg m2]; omega
  have e1 : IntKind.i64.wrap (y2.1.tdiv 11) = y2.1.tdiv 11 := wi (by omega) (by omega)
  have e2 : IntKind.i64.wrap (3 + y2.1.tdiv 11) = 3 + y2.1.tdiv 11 := wi (by omega) (by omega)
  simp only [e1, e2]
  generalize y2.1.tdiv 11 = q at *
  have e3 : hiOf 5 (some (3 + q)) - loOf none = (3 + q).toNat := rfl
  refine ⟨h.mono, b1.mono, by decide, ⟨trivial, by show (0 : Int) ≤ 3 + q; omega, by show 0 ≤ (3 + q).toNat; omega, by show (3 + q).toNat ≤ 5; omega⟩, ⟨b2.mono, fun j hj => ?_, by rw [e3]; omega, by rw [e3]; omega⟩, ⟨y1.1, _⟩, .refl, by unfold enc_DrawAllowedAt; (first | exact .lit | exact blq_ok 4 rfl)⟩
  rw [e3] at hj
  rcases (by omega : j = 0 ∨ j = 1 ∨ j = 2 ∨ j = 3 ∨ j = 4) with rfl | rfl | rfl | rfl | rfl <;> rfl
noncomputable def F_DrawAllowedAt (c : Cd) : AmI := dfw Try.prog 14 enc_DrawAllowedAt (fun _ => True) c
noncomputable def e_DrawAllowedAt (c : Cd) : Entry := codeE 14 c fun H => enc_DrawAllowedAt H fun _ => F_DrawAllowedAt c
theorem eok_DrawAllowedAt (c : Cd) : EntryOk Try.prog (e_DrawAllowedAt c) := codeE_ok (by unfold isBody; kernel_rfl) (dfw_spec (x_DrawAllowedAt c)).1
theorem p_DrawAllowedAt (c : Cd) : (fun _ => True) (F_DrawAllowedAt c) := (dfw_spec (x_DrawAllowedAt c)).2.2
def enc_DrawLenientFindings (H : Hold) (y : Unit → Arm) : AV := .agg [.lit (.int .i64 (H Int fun _ => (((y ())).f.d))), .lit (.int .i64 (H Int fun _ => (((y ())).f.l))), .lit (.int .i64 (H Int fun _ => (((y ())).f.p))), .lit (.int .i64 (H Int fun _ => (((y ())).f.q))), .lit (.int .i64 (H Int fun _ => (((y ())).o))), .lit (.int .i64 (H Int fun _ => (((y ())).l))), .lit (.int .i64 (H Int fun _ => (((y ())).t))), .lit (.int .i64 (H Int fun _ => (((y ())).n.c))), .lit (.int .i64 (H Int fun _ => (((y ())).n.k))), .lit (.int .i64 (H Int fun _ => (((y ())).n.a))), .lit (.int .i64 (H Int fun _ => (((y ())).n.t))), .lit (.int .i64 (H Int fun _ => (((y ())).r.c))), .lit (.int .i64 (H Int fun _ => (((y ())).r.k))), .lit (.int .i64 (H Int fun _ => (((y ())).r.a))), .lit (.int .i64 (H Int fun _ => (((y ())).r.t)))]
theorem x_DrawLenientFindings (c : Cd) : ∃ y : Arm, Con Try.prog 20 [codeAV c] [] (enc_DrawLenientFindings stdH fun _ => y) [] ∧ Bl 0 (enc_DrawLenientFindings stdH fun _ => y) ∧ (fun _ => True) y := by
  have hB : Base Try.prog (tabΓ [e_anyArms c, e_one c]) tab := base_of tabOk (ents_cons (eok_anyArms c) <| ents_cons (eok_one c) <| ents_nil)
  refine df_ok (N := 19) hB (draw_ok hB mixed) Try.func20 rfl rfl _ _ _ 120 (by simp) ?_
  intro H hH
  conv in finish _ _ _ _ _ _ _ _ => cbv
  subst hH
  simp only [Fin.sat0, Fin.sat1, stdH, Option.some.injEq, AV.lit.injEq, AV.agg.injEq, AV.tup.injEq, List.cons.injEq, Value.bool.injEq, Value.int.injEq, AllP, and_true, true_and, eq_self, decide_eq_true_eq, decide_eq_false_iff_not, Bool.not_eq_true', Bool.not_eq_false', peta, ncast]
  have h : Bd 60 (0, 0) := ⟨by decide, by decide⟩
  have a1 := (p_anyArms c (0, 0) (Bd.mono (by assumption))).1; generalize F_anyArms c (0, 0) = y1 at *; have b1 : Bd 6 y1.2 := a1.bd (by assumption)
  have b1q := b1
  unfold Bd at b1q
  repeat' (first | refine And.intro ?_ ?_ | intro _)
  all_goals first | exact ⟨y1.1, .refl, blq_ok 4 rfl⟩ | exact ⟨{ y1.1 with o := 7 }, .refl, blq_ok 4 rfl⟩ | ((try dsimp only at *); omega)
noncomputable def F_DrawLenientFindings (c : Cd) : Arm := dfw Try.prog 20 enc_DrawLenientFindings (fun _ => True) c
noncomputable def e_DrawLenientFindings (c : Cd) : Entry := codeE 20 c fun H => enc_DrawLenientFindings H fun _ => F_DrawLenientFindings c
theorem eok_DrawLenientFindings (c : Cd) : EntryOk Try.prog (e_DrawLenientFindings c) := codeE_ok (by unfold isBody; kernel_rfl) (dfw_spec (x_DrawLenientFindings c)).1
theorem p_DrawLenientFindings (c : Cd) : (fun _ => True) (F_DrawLenientFindings c) := (dfw_spec (x_DrawLenientFindings c)).2.2
def enc_DrawIsPoorField (H : Hold) (y : Unit → Fld) : AV := .agg [.lit (.int .i64 (H Int fun _ => (((y ())).d))), .lit (.int .i64 (H Int fun _ => (((y ())).l))), .lit (.int .i64 (H Int fun _ => (((y ())).p))), .lit (.int .i64 (H Int fun _ => (((y ())).q)))]
theorem x_DrawIsPoorField (c : Cd) : ∃ y : Fld, Con Try.prog 24 [codeAV c] [] (enc_DrawIsPoorField stdH fun _ => y) [] ∧ Bl 0 (enc_DrawIsPoorField stdH fun _ => y) ∧ (fun _ => True) y := by
  have hB : Base Try.prog (tabΓ [e_anyField c]) tab := base_of tabOk (ents_cons (eok_anyField c) <| ents_nil)
  refine df_ok (N := 9) hB (draw_ok hB mixed) Try.func24 rfl rfl _ _ _ 120 (by simp) ?_
  intro H hH
  conv in finish _ _ _ _ _ _ _ _ => cbv
  subst hH
  simp only [Fin.sat0, Fin.sat1, stdH, Option.some.injEq, AV.lit.injEq, AV.agg.injEq, AV.tup.injEq, List.cons.injEq, Value.bool.injEq, Value.int.injEq, AllP, and_true, true_and, eq_self, decide_eq_true_eq, decide_eq_false_iff_not, Bool.not_eq_true', Bool.not_eq_false', peta, ncast]
  have h : Bd 60 (0, 0) := ⟨by decide, by decide⟩
  have a1 := (p_anyField c (0, 0) (Bd.mono (by assumption))).1; generalize F_anyField c (0, 0) = y1 at *; have b1 : Bd 6 y1.2 := a1.bd (by assumption)
  exact ⟨h.mono, y1.1, .refl, blq_ok 4 rfl⟩
noncomputable def F_DrawIsPoorField (c : Cd) : Fld := dfw Try.prog 24 enc_DrawIsPoorField (fun _ => True) c
noncomputable def e_DrawIsPoorField (c : Cd) : Entry := codeE 24 c fun H => enc_DrawIsPoorField H fun _ => F_DrawIsPoorField c
theorem eok_DrawIsPoorField (c : Cd) : EntryOk Try.prog (e_DrawIsPoorField c) := codeE_ok (by unfold isBody; kernel_rfl) (dfw_spec (x_DrawIsPoorField c)).1
theorem p_DrawIsPoorField (c : Cd) : (fun _ => True) (F_DrawIsPoorField c) := (dfw_spec (x_DrawIsPoorField c)).2.2

end Go.Proofs.Ytocekpklffdjgaa.AM
