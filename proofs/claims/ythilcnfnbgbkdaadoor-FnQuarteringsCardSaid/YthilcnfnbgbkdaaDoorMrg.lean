import Derived.Test.YthilcnfnbgbkdaaDoorAmT
import Derived.Test.YthilcnfnbgbkdaaDoorQfr
import Derived.Test.YthilcnfnbgbkdaaDoorQln
set_option linter.unusedVariables false
set_option linter.unusedSimpArgs false
set_option maxRecDepth 100000
set_option maxHeartbeats 4000000
set_option cbv.maxSteps 3000000
namespace Go.Proofs.YthilcnfnbgbkdaaDoor.AM
/- Quarterings merged: the program's and the reference's, lines of them; conditions: none. -/
structure ArAr where
  a : List Arm
  l : List Arm
deriving Inhabited
def r_DrawMerge (n : Nat) (H : Hold) (y : Unit → ArAr) : AV := .tup [.vec 15 (H Nat fun _ => ((y ()).a).length) (rowsA H fun _ => (y ()).a), .vec 15 (H Nat fun _ => ((y ()).l).length) (rowsA H fun _ => (y ()).l)]
def nb_DrawMerge (H : Hold) (y : Unit → ArAr) : List Blk := []
theorem x_DrawMerge (c : Cd) : ∃ y, DrfM Tryd.prog 5 r_DrawMerge nb_DrawMerge (fun y => y.a.length ≤ 20 ∧ y.l.length ≤ 25) c y := by
  have hB : Base Tryd.prog (tabΓ [e_anyQuarterings c, e_shared c]) tab := base_of tabOk (ents_cons (eok_anyQuarterings c) <| ents_cons (eok_shared c) <| ents_nil)
  refine drfM_ok (N := 15) hB (draw_ok hB mixed) Tryd.func5 rfl rfl r_DrawMerge nb_DrawMerge (fun y => y.a.length ≤ 20 ∧ y.l.length ≤ 25) c 100 (by simp) ?_
  intro H hH
  conv in finish _ _ _ _ _ _ _ _ => cbv
  simp only [Fin.sat0, AllP, and_true, true_and, ncast, Int.ofNat_eq_natCast, heta hH]
  have h : Bd 482 (0, 0) := ⟨by decide, by decide⟩
  obtain ⟨a1, l1⟩ := p_anyQuarterings c (0, 0) h.mono
  have b1 := a1.bd h (by omega : 250 + 232 ≤ 482)
  obtain ⟨a2, l2⟩ := p_shared c (F_anyQuarterings c (0, 0)).1 (F_anyQuarterings c (0, 0)).2 b1.mono l1
  refine ⟨?_, ⟨?_, ?_, ?_⟩, ?_⟩
  · try simp only [hH, stdH, decide_eq_true_eq, decide_eq_false_iff_not, Bool.not_eq_true', Bool.not_eq_false', peta, ncast, Int.ofNat_eq_natCast, beq_iff_eq, bne_iff_ne, beq_eq_false_iff_ne, bne_eq_false_iff_eq, ne_eq, Classical.not_not, Int.toNat_natCast, vrow_I, Arm.eta2, Fld.eta, Grp.eta]
    exact h.mono
  · try simp only [hH, stdH, decide_eq_true_eq, decide_eq_false_iff_not, Bool.not_eq_true', Bool.not_eq_false', peta, ncast, Int.ofNat_eq_natCast, beq_iff_eq, bne_iff_ne, beq_eq_false_iff_ne, bne_eq_false_iff_eq, ne_eq, Classical.not_not, Int.toNat_natCast, vrow_I, Arm.eta2, Fld.eta, Grp.eta]
    exact b1.mono
  · try simp only [hH, stdH, decide_eq_true_eq, decide_eq_false_iff_not, Bool.not_eq_true', Bool.not_eq_false', peta, ncast, Int.ofNat_eq_natCast, beq_iff_eq, bne_iff_ne, beq_eq_false_iff_ne, bne_eq_false_iff_eq, ne_eq, Classical.not_not, Int.toNat_natCast, vrow_I, Arm.eta2, Fld.eta, Grp.eta]
    exact Shp_A _ _
  · try simp only [hH, stdH, decide_eq_true_eq, decide_eq_false_iff_not, Bool.not_eq_true', Bool.not_eq_false', peta, ncast, Int.ofNat_eq_natCast, beq_iff_eq, bne_iff_ne, beq_eq_false_iff_ne, bne_eq_false_iff_eq, ne_eq, Classical.not_not, Int.toNat_natCast, vrow_I, Arm.eta2, Fld.eta, Grp.eta]
    simp only [Tl_A]; exact l1
  · refine ⟨⟨(F_anyQuarterings c (0, 0)).1, (F_shared c (F_anyQuarterings c (0, 0)).1 (F_anyQuarterings c (0, 0)).2).1⟩, ⟨l1, l2⟩, ?_⟩
    (conv in matchEx _ _ _ _ _ _ _ => cbv); simp only [AllG, AllP, and_true, hH, stdH, ncast, Int.ofNat_eq_natCast, vrow_I, Arm.eta2, Fld.eta, Grp.eta]
    simp only [Tl_A]
    exact ⟨RowsEq.self okRA, RowsEq.self okRA⟩
noncomputable def F_DrawMerge (c : Cd) : ArAr := drfM Tryd.prog 5 r_DrawMerge nb_DrawMerge (fun y => y.a.length ≤ 20 ∧ y.l.length ≤ 25) c
noncomputable def e_DrawMerge (c : Cd) : Entry := codeEN 5 c (fun nx H => r_DrawMerge nx H fun _ => F_DrawMerge c) (fun H => nb_DrawMerge H fun _ => F_DrawMerge c)
theorem eok_DrawMerge (c : Cd) : EntryOk Tryd.prog (e_DrawMerge c) := codeEN_ok (by unfold isBody; kernel_rfl) (drfM_spec (x_DrawMerge c)).1 (fun nx => by (repeat' (first | exact .nil | exact .slc ⟨by omega, by simp [nb_DrawMerge]⟩ (by omega) | exact .pl .lit | exact .pl (vT_bl okRA (fun _ => (F_DrawMerge c).a) _) | exact .pl (vT_bl okRA (fun _ => (F_DrawMerge c).l) _) | apply ReL.cons | apply Re.aggL | apply Re.tupL))) (fun b hq => by
      simp [nb_DrawMerge] at hq)
theorem p_DrawMerge (c : Cd) : (fun y => y.a.length ≤ 20 ∧ y.l.length ≤ 25) (F_DrawMerge c) := (drfM_spec (x_DrawMerge c)).2
theorem noDup_of {l : List Arm} (h : l.Nodup) : noDup l = true := noDup_all fun i hi => idxF_at default hi (by simp) fun j hj => by
  rw [decide_eq_false_iff_not, List.getD_eq_getElem?_getD, List.getD_eq_getElem?_getD, List.getElem?_eq_getElem hi, List.getElem?_eq_getElem (by omega : j < l.length), Option.getD_some, Option.getD_some]
  intro e
  exact List.pairwise_iff_getElem.1 h j i (by omega) hi hj e
theorem nodup_of {l : List Arm} (h : noDup l = true) : l.Nodup := by
  unfold noDup at h
  rw [List.all_eq_true] at h
  refine List.pairwise_iff_getElem.2 fun i j hi hj hij e => ?_
  have h1 := of_decide_eq_true (h i (List.mem_range.2 hi))
  have h2 := of_decide_eq_true (h j (List.mem_range.2 hj))
  rw [List.getD_eq_getElem?_getD, List.getElem?_eq_getElem hi, Option.getD_some] at h1
  rw [List.getD_eq_getElem?_getD, List.getElem?_eq_getElem hj, Option.getD_some, ← e] at h2
  rw [h1] at h2
  omega
theorem mrg_mem {a b : List Arm} {x : Arm} (h : x ∈ mrg a b) : x ∈ a ∨ x ∈ b := by
  obtain ⟨e, h1, h2, _⟩ := mrg_ext a b
  rw [h1, List.mem_append] at h
  rcases h with h | h
  · exact .inl h
  · exact .inr (h2 x h).1
theorem mrg_nodup {a : List Arm} (b : List Arm) (h : a.Nodup) : (mrg a b).Nodup := by
  unfold mrg
  induction b generalizing a with
  | nil => exact h
  | cons x b ih =>
    rw [List.foldl_cons]
    refine ih ?_
    unfold mrgS
    split
    · rename_i hc
      rw [List.nodup_append]
      refine ⟨h, by simp, fun y hy z hz => ?_⟩
      rw [List.mem_singleton] at hz
      subst hz
      rintro rfl
      have := List.any_eq_false.1 hc.2 y hy
      simp at this
    · exact h
theorem okQ_parts {l : List Arm} : okQ l = true ↔ l.Nodup ∧ 1 ≤ l.length ∧ l.length ≤ 12 ∧ ∀ x ∈ l, okA x = true := by
  unfold okQ
  simp only [Bool.and_eq_true, decide_eq_true_eq, Bool.not_eq_true', List.any_eq_false, Bool.not_eq_true]
  constructor
  · rintro ⟨h1, ⟨h2, h3⟩, h4⟩
    exact ⟨nodup_of h1, h2, h3, fun x hx => by simpa using h4 x hx⟩
  · rintro ⟨h1, h2, h3, h4⟩
    exact ⟨noDup_of h1, ⟨h2, h3⟩, fun x hx => by simpa using h4 x hx⟩
theorem okQ_mrg {a b : List Arm} (ha : okQ a = true) (hb : okQ b = true) : okQ (mrg a b) = true := by
  obtain ⟨h1, h2, h3, h4⟩ := okQ_parts.1 ha
  obtain ⟨_, _, _, h5⟩ := okQ_parts.1 hb
  obtain ⟨e, he, _⟩ := mrg_ext a b
  refine okQ_parts.2 ⟨mrg_nodup b h1, by rw [he, List.length_append]; omega, mrg_le h3, fun x hx => ?_⟩
  rcases mrg_mem hx with h | h
  · exact h4 x h
  · exact h5 x h
theorem c_mergeH (a : List Arm) (b : List Arm) (h0 : a.length ≤ 1000) (h1 : b.length ≤ 1000) : ConN Tryd.prog 6 [.vec 15 (stdH Nat fun _ => (a).length) (rowsA stdH fun _ => a), .vec 15 (stdH Nat fun _ => (b).length) (rowsA stdH fun _ => b)] [] 0 (.tup [.vec 15 (stdH Nat fun _ => (if (okQ a && okQ b) = true then mrg a b else []).length) (rowsA stdH fun _ => if (okQ a && okQ b) = true then mrg a b else []), .lit (.bool (stdH Bool fun _ => okQ a && okQ b))]) [] [] := by
  have hB : Base Tryd.prog (tabΓ [e_validQ, e_merged]) tabO := base_of tabOkO (ents_cons eok_validQ <| ents_cons eok_merged <| ents_nil)
  refine con_m (N := 17) hB (draw_ok hB mixed) Tryd.func6 rfl rfl (fun H => [.vec 15 (H Nat fun _ => (a).length) (rowsA H fun _ => a), .vec 15 (H Nat fun _ => (b).length) (rowsA H fun _ => b)]) (fun _ => []) 0 (fun H => .tup [.vec 15 (H Nat fun _ => (if (okQ a && okQ b) = true then mrg a b else []).length) (rowsA H fun _ => if (okQ a && okQ b) = true then mrg a b else []), .lit (.bool (H Bool fun _ => okQ a && okQ b))]) (fun H => []) (fun _ => []) 300 (by simp) (fun x hx => ?_) (by simp [lk]) (by omega) (by simp) ?_
  · simp only [List.mem_cons, List.not_mem_nil, or_false] at hx
    rcases hx with rfl | rfl
    · exact vl_bl okRA a _
    · exact vl_bl okRA b _
  intro X hX hX0 H hH
  conv in Fin.chk _ _ => cbv
  try simp only [Plain_rowsA, Plain_rowsB, Plain_rowsC, Plain_rowsF, Plain_rowsG, Plain_rowsI, Plain_rowsS, Plain_rowsU, Fin.satC_ret, Fin.satC_br, Fin.satC_need, Fin.satC_again, AllP, and_true, true_and, upd, List.length_nil, List.length_cons, Nat.zero_add, if_true, ncast, Int.ofNat_eq_natCast]
  subst hH
  simp only [stdH, Tl_A]
  cases ha : okQ a <;> cases hb : okQ b <;> simp [Shp_A] <;> (repeat' (first | omega | exact RowsEq.self okRA | exact RowsEq.ofT okRA rfl (Shp_zero _) rfl | refine And.intro ?_ ?_))
noncomputable def e_mergeH : Entry := pureE 6 fun H a => match a with
  | [.vec 15 an af, .vec 15 bn bf] => some (.tup [.vec 15 (H Nat fun _ => (if (okQ (Tl rowA an af) && okQ (Tl rowA bn bf)) = true then mrg (Tl rowA an af) (Tl rowA bn bf) else []).length) (rowsA H fun _ => if (okQ (Tl rowA an af) && okQ (Tl rowA bn bf)) = true then mrg (Tl rowA an af) (Tl rowA bn bf) else []), .lit (.bool (H Bool fun _ => okQ (Tl rowA an af) && okQ (Tl rowA bn bf)))], [H Prop fun _ => Shp rowA an af, H Prop fun _ => Shp rowA bn bf, H Prop fun _ => (Tl rowA an af).length ≤ 1000, H Prop fun _ => (Tl rowA bn bf).length ≤ 1000])
  | _ => none
theorem eok_mergeH : EntryOk Tryd.prog e_mergeH := pureM_ok (by unfold isBody; kernel_rfl) (by
  intro a r ob e hob
  split at e
  · rename_i an af bn bf
    simp only [Option.some.injEq, Prod.mk.injEq] at e
    obtain ⟨rfl, rfl⟩ := e
    exact ConN.args (.cons (.toT okRA rfl hob.1) (.cons (.toT okRA rfl hob.2.1) .nil)) (c_mergeH (Tl rowA an af) (Tl rowA bn bf) hob.2.2.1 hob.2.2.2.1)
  · simp at e)
theorem c_mergeS (a : List Arm) (b : List Arm) (h0 : a.length ≤ 1000) (h1 : b.length ≤ 1000) : ConN Tryd.prog 7 [.vec 15 (stdH Nat fun _ => (a).length) (rowsA stdH fun _ => a), .vec 15 (stdH Nat fun _ => (b).length) (rowsA stdH fun _ => b)] [] 0 (.tup [.vec 15 (stdH Nat fun _ => (if (okQ a && okQ b) = true then mrg a b else []).length) (rowsA stdH fun _ => if (okQ a && okQ b) = true then mrg a b else []), .lit (.bool (stdH Bool fun _ => okQ a && okQ b))]) [] [] := by
  have hB : Base Tryd.prog (tabΓ [e_l21Good, e_l21Merge]) tabO := base_of tabOkO (ents_cons eok_l21Good <| ents_cons eok_l21Merge <| ents_nil)
  refine con_m (N := 18) hB (draw_ok hB mixed) Tryd.func7 rfl rfl (fun H => [.vec 15 (H Nat fun _ => (a).length) (rowsA H fun _ => a), .vec 15 (H Nat fun _ => (b).length) (rowsA H fun _ => b)]) (fun _ => []) 0 (fun H => .tup [.vec 15 (H Nat fun _ => (if (okQ a && okQ b) = true then mrg a b else []).length) (rowsA H fun _ => if (okQ a && okQ b) = true then mrg a b else []), .lit (.bool (H Bool fun _ => okQ a && okQ b))]) (fun H => []) (fun _ => []) 300 (by simp) (fun x hx => ?_) (by simp [lk]) (by omega) (by simp) ?_
  · simp only [List.mem_cons, List.not_mem_nil, or_false] at hx
    rcases hx with rfl | rfl
    · exact vl_bl okRA a _
    · exact vl_bl okRA b _
  intro X hX hX0 H hH
  conv in Fin.chk _ _ => cbv
  try simp only [Plain_rowsA, Plain_rowsB, Plain_rowsC, Plain_rowsF, Plain_rowsG, Plain_rowsI, Plain_rowsS, Plain_rowsU, Fin.satC_ret, Fin.satC_br, Fin.satC_need, Fin.satC_again, AllP, and_true, true_and, upd, List.length_nil, List.length_cons, Nat.zero_add, if_true, ncast, Int.ofNat_eq_natCast]
  subst hH
  simp only [stdH, Tl_A]
  cases ha : okQ a <;> cases hb : okQ b <;> simp [Shp_A] <;> (repeat' (first | omega | exact RowsEq.self okRA | exact RowsEq.ofT okRA rfl (Shp_zero _) rfl | refine And.intro ?_ ?_))
noncomputable def e_mergeS : Entry := pureE 7 fun H a => match a with
  | [.vec 15 an af, .vec 15 bn bf] => some (.tup [.vec 15 (H Nat fun _ => (if (okQ (Tl rowA an af) && okQ (Tl rowA bn bf)) = true then mrg (Tl rowA an af) (Tl rowA bn bf) else []).length) (rowsA H fun _ => if (okQ (Tl rowA an af) && okQ (Tl rowA bn bf)) = true then mrg (Tl rowA an af) (Tl rowA bn bf) else []), .lit (.bool (H Bool fun _ => okQ (Tl rowA an af) && okQ (Tl rowA bn bf)))], [H Prop fun _ => Shp rowA an af, H Prop fun _ => Shp rowA bn bf, H Prop fun _ => (Tl rowA an af).length ≤ 1000, H Prop fun _ => (Tl rowA bn bf).length ≤ 1000])
  | _ => none
theorem eok_mergeS : EntryOk Tryd.prog e_mergeS := pureM_ok (by unfold isBody; kernel_rfl) (by
  intro a r ob e hob
  split at e
  · rename_i an af bn bf
    simp only [Option.some.injEq, Prod.mk.injEq] at e
    obtain ⟨rfl, rfl⟩ := e
    exact ConN.args (.cons (.toT okRA rfl hob.1) (.cons (.toT okRA rfl hob.2.1) .nil)) (c_mergeS (Tl rowA an af) (Tl rowA bn bf) hob.2.2.1 hob.2.2.2.1)
  · simp at e)
theorem c_qlinesL (list : List Arm) (h0 : list.length ≤ 1048576) (h1 : okQ list = true) : ConN Tryd.prog 12 [.vec 15 (stdH Nat fun _ => (list).length) (rowsA stdH fun _ => list)] [] 0 (.tup [.vec 1 (stdH Nat fun _ => (qlT list).length) (rowsS stdH fun _ => qlT list), .lit (.bool (stdH Bool fun _ => true))]) [] [] := by
  have hB : Base Tryd.prog (tabΓ [e_validQ, e_itoaS, e_armText]) tabO := base_of tabOkO (ents_cons eok_validQ <| ents_cons eok_itoaS <| ents_cons eok_armText <| ents_nil)
  refine con_m (N := 30) hB (draw_ok hB mixed) Tryd.func12 rfl rfl (fun H => [.vec 15 (H Nat fun _ => (list).length) (rowsA H fun _ => list)]) (fun _ => []) 0 (fun H => .tup [.vec 1 (H Nat fun _ => (qlT list).length) (rowsS H fun _ => qlT list), .lit (.bool (H Bool fun _ => true))]) (fun H => []) (fun _ => []) 200 (by simp) (fun x hx => ?_) (by simp [lk]) (by omega) (by simp) ?_
  · simp only [List.mem_cons, List.not_mem_nil, or_false] at hx
    rcases hx with rfl
    · exact vl_bl okRA list _
  intro X hX hX0 H hH
  conv in Fin.chk _ _ => cbv
  try simp only [Plain_rowsA, Plain_rowsB, Plain_rowsC, Plain_rowsF, Plain_rowsG, Plain_rowsI, Plain_rowsS, Plain_rowsU, Fin.satC_ret, Fin.satC_br, Fin.satC_need, Fin.satC_again, AllP, and_true, true_and, upd, List.length_nil, List.length_cons, Nat.zero_add, if_true, ncast, Int.ofNat_eq_natCast]
  have hl := okQ_len h1
  rw [qlT_K]
  refine ⟨⟨?_, ?_⟩, fun h => ?_, fun h => ?_⟩
  · try simp only [hH, stdH, decide_eq_true_eq, decide_eq_false_iff_not, Bool.not_eq_true', Bool.not_eq_false', peta, ncast, Int.ofNat_eq_natCast, beq_iff_eq, bne_iff_ne, beq_eq_false_iff_ne, bne_eq_false_iff_eq, ne_eq, Classical.not_not, Int.toNat_natCast, vrow_I, Arm.eta2, Fld.eta, Grp.eta]
    exact Shp_A _ _
  · try simp only [hH, stdH, decide_eq_true_eq, decide_eq_false_iff_not, Bool.not_eq_true', Bool.not_eq_false', peta, ncast, Int.ofNat_eq_natCast, beq_iff_eq, bne_iff_ne, beq_eq_false_iff_ne, bne_eq_false_iff_eq, ne_eq, Classical.not_not, Int.toNat_natCast, vrow_I, Arm.eta2, Fld.eta, Grp.eta]
    simp only [Tl_A]; omega
  · exfalso
    simp only [hH, stdH, Tl_A, h1] at h; simp at h
  refine loop_a hB (draw_ok hB mixed) hX hX0 hH false (ι := { i : Nat // i ≤ list.length }) 200 (fun i => [.r (H Nat fun _ => (qlK list i.1).length) (rowsS H fun _ => qlK list i.1), .i (H Int fun _ => (i.1 : Nat))]) (fun i => list.length - i.1) (⟨0, by omega⟩) ?_ ?_
  · (conv in matchSt _ _ _ _ => cbv); simp only [AllG, AllP, and_true, hH, stdH, ncast, Int.ofNat_eq_natCast, vrow_I, Arm.eta2, Fld.eta, Grp.eta]
    (repeat' (first | rfl | trivial | exact RowsEq.self okRA | exact RowsEq.self okS | exact RowsEq.ofT okS rfl (Shp_zero _) rfl | omega | refine And.intro ?_ ?_))
  · intro I hI i
    conv in Fin.chk _ _ => cbv
    try simp only [Plain_rowsA, Plain_rowsB, Plain_rowsC, Plain_rowsF, Plain_rowsG, Plain_rowsI, Plain_rowsS, Plain_rowsU, Fin.satC_ret, Fin.satC_br, Fin.satC_need, Fin.satC_again, AllP, and_true, true_and, upd, List.length_nil, List.length_cons, Nat.zero_add, if_true, ncast, Int.ofNat_eq_natCast]
    obtain ⟨i, hi⟩ := i
    refine ⟨fun h3 => ?_, fun h3 => ?_⟩
    · simp only [hH, stdH, decide_eq_true_eq, decide_eq_false_iff_not, Bool.not_eq_true', Bool.not_eq_false', peta, ncast, Int.ofNat_eq_natCast, beq_iff_eq, bne_iff_ne, beq_eq_false_iff_ne, bne_eq_false_iff_eq, ne_eq, Classical.not_not, Int.toNat_natCast, vrow_I, Arm.eta2, Fld.eta, Grp.eta] at h3
      have hz := numD_sz (i := i + 1) (by omega)
      have hy := armT_sz (list.getD i default)
      have ha := okQ_ok h1 (i := i) (by omega)
      have eW : IntKind.i64.wrap ((i : Int) + 1) = ((i + 1 : Nat) : Int) := w1 (by omega)
      repeat' (first | refine And.intro ?_ ?_ | intro _)
      all_goals try (first | (simp only [hH, stdH]; done) | (simp only [hH, stdH, eW, Int.toNat_natCast, qlK_len, Arm.eta2, Fld.eta, Grp.eta]; first | omega | exact ha | exact trivial | exact ⟨by omega, by omega⟩ | (simp only [ByteArray.size_append, bsz, List.length_cons, List.length_nil]; omega)))
      refine ⟨⟨i + 1, by omega⟩, by simp only; omega, ?_⟩
      rw [hI]
      (conv in matchSt _ _ _ _ => cbv); simp only [AllG, AllP, and_true, hH, stdH, ncast, Int.ofNat_eq_natCast, vrow_I, Arm.eta2, Fld.eta, Grp.eta]
      rw [eW, qlK_s]
      simp only [Int.toNat_natCast]
      (repeat' (first | rfl | trivial | exact RowsEq.self okRA | exact RowsEq.self okS | exact RowsEq.snocS (by unfold qln; simp only [ByteArray.append_assoc]) | exact List.length_append | refine And.intro ?_ ?_))
    · simp only [hH, stdH, decide_eq_true_eq, decide_eq_false_iff_not, Bool.not_eq_true', Bool.not_eq_false', peta, ncast, Int.ofNat_eq_natCast, beq_iff_eq, bne_iff_ne, beq_eq_false_iff_ne, bne_eq_false_iff_eq, ne_eq, Classical.not_not, Int.toNat_natCast, vrow_I, Arm.eta2, Fld.eta, Grp.eta] at h3
      obtain rfl : i = list.length := by omega
      try simp only [hH, stdH, decide_eq_true_eq, decide_eq_false_iff_not, Bool.not_eq_true', Bool.not_eq_false', peta, ncast, Int.ofNat_eq_natCast, beq_iff_eq, bne_iff_ne, beq_eq_false_iff_ne, bne_eq_false_iff_eq, ne_eq, Classical.not_not, Int.toNat_natCast, vrow_I, Arm.eta2, Fld.eta, Grp.eta]
      (repeat' (first | rfl | trivial | exact RowsEq.self okS | refine And.intro ?_ ?_))
noncomputable def e_qlinesL : Entry := pureE 12 fun H a => match a with
  | [.vec 15 listn listf] => some (.tup [.vec 1 (H Nat fun _ => (qlT (Tl rowA listn listf)).length) (rowsS H fun _ => qlT (Tl rowA listn listf)), .lit (.bool (H Bool fun _ => true))], [H Prop fun _ => Shp rowA listn listf, H Prop fun _ => (Tl rowA listn listf).length ≤ 1048576, H Prop fun _ => okQ (Tl rowA listn listf) = true])
  | _ => none
theorem eok_qlinesL : EntryOk Tryd.prog e_qlinesL := pureM_ok (by unfold isBody; kernel_rfl) (by
  intro a r ob e hob
  split at e
  · rename_i listn listf
    simp only [Option.some.injEq, Prod.mk.injEq] at e
    obtain ⟨rfl, rfl⟩ := e
    exact ConN.args (.cons (.toT okRA rfl hob.1) .nil) (c_qlinesL (Tl rowA listn listf) hob.2.1 hob.2.2.1)
  · simp at e)
theorem c_goodQS (list : List Arm) (h0 : list.length ≤ 2000000) : ConN Tryd.prog 10 [.vec 15 (stdH Nat fun _ => (list).length) (rowsA stdH fun _ => list)] [] 0 (.lit (.bool (stdH Bool fun _ => okQ list))) [] [] := by
  have hB : Base Tryd.prog (tabΓ [e_l21Good]) tab := base_of tabOk (ents_cons eok_l21Good <| ents_nil)
  refine con_m (N := 5) hB (draw_ok hB mixed) Tryd.func10 rfl rfl (fun H => [.vec 15 (H Nat fun _ => (list).length) (rowsA H fun _ => list)]) (fun _ => []) 0 (fun H => .lit (.bool (H Bool fun _ => okQ list))) (fun H => []) (fun _ => []) 200 (by simp) (fun x hx => ?_) (by simp [lk]) (by omega) (by simp) ?_
  · simp only [List.mem_cons, List.not_mem_nil, or_false] at hx
    rcases hx with rfl
    · exact vl_bl okRA list _
  intro X hX hX0 H hH
  conv in Fin.chk _ _ => cbv
  try simp only [Plain_rowsA, Plain_rowsB, Plain_rowsC, Plain_rowsF, Plain_rowsG, Plain_rowsI, Plain_rowsS, Plain_rowsU, Fin.satC_ret, Fin.satC_br, Fin.satC_need, Fin.satC_again, AllP, and_true, true_and, upd, List.length_nil, List.length_cons, Nat.zero_add, if_true, ncast, Int.ofNat_eq_natCast]
  refine ⟨⟨?_, ?_⟩, ?_⟩
  · try simp only [hH, stdH, decide_eq_true_eq, decide_eq_false_iff_not, Bool.not_eq_true', Bool.not_eq_false', peta, ncast, Int.ofNat_eq_natCast, beq_iff_eq, bne_iff_ne, beq_eq_false_iff_ne, bne_eq_false_iff_eq, ne_eq, Classical.not_not, Int.toNat_natCast, vrow_I, Arm.eta2, Fld.eta, Grp.eta]
    exact Shp_A _ _
  · try simp only [hH, stdH, decide_eq_true_eq, decide_eq_false_iff_not, Bool.not_eq_true', Bool.not_eq_false', peta, ncast, Int.ofNat_eq_natCast, beq_iff_eq, bne_iff_ne, beq_eq_false_iff_ne, bne_eq_false_iff_eq, ne_eq, Classical.not_not, Int.toNat_natCast, vrow_I, Arm.eta2, Fld.eta, Grp.eta]
    simp only [Tl_A]; exact h0
  · try simp only [hH, stdH, decide_eq_true_eq, decide_eq_false_iff_not, Bool.not_eq_true', Bool.not_eq_false', peta, ncast, Int.ofNat_eq_natCast, beq_iff_eq, bne_iff_ne, beq_eq_false_iff_ne, bne_eq_false_iff_eq, ne_eq, Classical.not_not, Int.toNat_natCast, vrow_I, Arm.eta2, Fld.eta, Grp.eta]
    simp only [Tl_A]
noncomputable def e_goodQS : Entry := pureE 10 fun H a => match a with
  | [.vec 15 listn listf] => some (.lit (.bool (H Bool fun _ => okQ (Tl rowA listn listf))), [H Prop fun _ => Shp rowA listn listf, H Prop fun _ => (Tl rowA listn listf).length ≤ 2000000])
  | _ => none
theorem eok_goodQS : EntryOk Tryd.prog e_goodQS := pureM_ok (by unfold isBody; kernel_rfl) (by
  intro a r ob e hob
  split at e
  · rename_i listn listf
    simp only [Option.some.injEq, Prod.mk.injEq] at e
    obtain ⟨rfl, rfl⟩ := e
    exact ConN.args (.cons (.toT okRA rfl hob.1) .nil) (c_goodQS (Tl rowA listn listf) hob.2.1)
  · simp at e)

end Go.Proofs.YthilcnfnbgbkdaaDoor.AM
