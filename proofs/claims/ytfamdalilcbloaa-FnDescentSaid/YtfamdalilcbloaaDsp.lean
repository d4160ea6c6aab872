import Derived.Test.YtfamdalilcbloaaAmT
import Derived.Test.YtfamdalilcbloaaQfr
import Derived.Test.YtfamdalilcbloaaDel
set_option linter.unusedVariables false
set_option linter.unusedSimpArgs false
set_option maxRecDepth 100000
set_option maxHeartbeats 4000000
set_option cbv.maxSteps 3000000
namespace Go.Proofs.Ytfamdalilcbloaa.AM
/- Facts and small contracts for the law of descent; conditions: none. -/
theorem inh_from {f : List Arm} {ds : List Dsc} {x : Arm} : ∀ {k : Nat}, k ≤ ds.length → x ∈ inh f (ds.take k) → x ∈ f ∨ ∃ j, j < k ∧ isD x (ds.getD j default) = true
  | 0, _, h => .inl (by simpa [inh] using h)
  | k + 1, hk, h => by
    obtain ⟨e, h1, h2, _⟩ := inh_ext f ds (k := k) (by omega)
    rw [h1] at h
    rcases List.mem_append.1 h with h | h
    · rcases inh_from (by omega) h with h | ⟨j, hj, h⟩
      · exact .inl h
      · exact .inr ⟨j, by omega, h⟩
    · exact .inr ⟨k, by omega, (h2 x h).1⟩
theorem frM_ok {f : List Arm} {ds : List Dsc} {x : Arm} (hx : x ∈ inh f ds) : (frM f ds x = 0 ∧ (f.any fun y => decide (y = x)) = true) ∨ ∃ k, k < ds.length ∧ frM f ds x = ((k + 1 : Nat) : Int) ∧ isD x (ds.getD k default) = true := by
  cases hf : f.any fun y => decide (y = x) with
  | true => exact .inl ⟨frM_in hf, rfl⟩
  | false =>
    right
    have hx2 : x ∈ inh f (ds.take ds.length) := by rwa [List.take_length]
    rcases inh_from (Nat.le_refl _) hx2 with h | ⟨j, hj, h⟩
    · have : (f.any fun y => decide (y = x)) = true := List.any_eq_true.2 ⟨x, h, by simp⟩
      rw [hf] at this; cases this
    · cases hk : ds.findIdx? (isD x) with
      | none =>
        rw [List.findIdx?_eq_none_iff] at hk
        have := hk _ (getDm (d := default) hj)
        rw [h] at this; cases this
      | some k =>
        obtain ⟨h1, h2, _⟩ := List.findIdx?_eq_some_iff_getElem.1 hk
        refine ⟨k, h1, ?_, ?_⟩
        · unfold frM
          rw [if_neg (by rw [hf]; decide), hk]
        · rw [List.getD_eq_getElem?_getD, List.getElem?_eq_getElem h1, Option.getD_some]; exact h2
theorem qf_sorted (f : List Arm) (ds : List Dsc) : ∀ k, (∀ y ∈ qfS f ds k, y ≤ (k : Nat)) ∧ (qfS f ds k).Pairwise (· ≤ ·)
  | 0 => by
    refine ⟨fun y hy => ?_, ?_⟩
    · have := (List.mem_replicate.1 hy).2; omega
    · exact List.pairwise_replicate.2 (.inr (Int.le_refl _))
  | k + 1 => by
    obtain ⟨h1, h2⟩ := qf_sorted f ds k
    refine ⟨fun y hy => ?_, List.pairwise_append.2 ⟨h2, List.pairwise_replicate.2 (.inr (Int.le_refl _)), fun a ha b hb => ?_⟩⟩
    · rcases List.mem_append.1 hy with hy | hy
      · have := h1 y hy; omega
      · have := (List.mem_replicate.1 hy).2; omega
    · have := h1 a ha
      have := (List.mem_replicate.1 hb).2
      omega
theorem frM_mono {f : List Arm} {ds : List Dsc} {i : Nat} (h : i + 1 < (inh f ds).length) : frM f ds ((inh f ds).getD i default) ≤ frM f ds ((inh f ds).getD (i + 1) default) := by
  have h1 := (qf_sorted f ds ds.length).2
  rw [qf_eq (Nat.le_refl _), List.take_length, List.pairwise_map, List.pairwise_iff_getElem] at h1
  have := h1 i (i + 1) (by omega) h (by omega)
  rwa [List.getD_eq_getElem?_getD, List.getElem?_eq_getElem (by omega), Option.getD_some, List.getD_eq_getElem?_getD, List.getElem?_eq_getElem h, Option.getD_some]
theorem c_vIntsD (s : List Int) (t : List Int) (h0 : s.length ≤ 2000000) : ConN Try.prog 35 [.vec 1 (stdH Nat fun _ => (s).length) (rowsI stdH fun _ => s), .vec 1 (stdH Nat fun _ => (t).length) (rowsI stdH fun _ => t)] [] 0 (.lit (.bool (stdH Bool fun _ => decide (s = t)))) [] [] := by
  have hB : Base Try.prog (tabΓ []) tab := base_of tabOk (ents_nil)
  refine con_m (N := 26) hB (draw_ok hB mixed) Try.func35 rfl rfl (fun H => [.vec 1 (H Nat fun _ => (s).length) (rowsI H fun _ => s), .vec 1 (H Nat fun _ => (t).length) (rowsI H fun _ => t)]) (fun _ => []) 0 (fun H => .lit (.bool (H Bool fun _ => decide (s = t)))) (fun H => []) (fun _ => []) 100 (by simp) (fun x hx => ?_) (by simp [lk]) (by omega) (by simp) ?_
  · simp only [List.mem_cons, List.not_mem_nil, or_false] at hx
    rcases hx with rfl | rfl
    · exact vl_bl okI s _
    · exact vl_bl okI t _
  intro X hX hX0 H hH
  conv in Fin.chk _ _ => cbv
  try simp only [Plain_rowsA, Plain_rowsB, Plain_rowsF, Plain_rowsG, Plain_rowsI, Plain_rowsS, Plain_rowsU, Fin.satC_ret, Fin.satC_br, Fin.satC_need, Fin.satC_again, AllP, and_true, true_and, upd, List.length_nil, List.length_cons, Nat.zero_add, if_true, ncast, Int.ofNat_eq_natCast]
  refine ⟨fun h => ?_, fun h => ?_⟩
  · simp only [hH, stdH, decide_eq_true_eq, decide_eq_false_iff_not, Bool.not_eq_true', Bool.not_eq_false', peta, ncast, Int.ofNat_eq_natCast, beq_iff_eq, bne_iff_ne, beq_eq_false_iff_ne, bne_eq_false_iff_eq, ne_eq, Classical.not_not, Int.toNat_natCast, vrow_I, Arm.eta2, Fld.eta, Grp.eta] at h
    try simp only [hH, stdH, decide_eq_true_eq, decide_eq_false_iff_not, Bool.not_eq_true', Bool.not_eq_false', peta, ncast, Int.ofNat_eq_natCast, beq_iff_eq, bne_iff_ne, beq_eq_false_iff_ne, bne_eq_false_iff_eq, ne_eq, Classical.not_not, Int.toNat_natCast, vrow_I, Arm.eta2, Fld.eta, Grp.eta]
    intro e
    exact h (by rw [e])
  · simp only [hH, stdH, decide_eq_true_eq, decide_eq_false_iff_not, Bool.not_eq_true', Bool.not_eq_false', peta, ncast, Int.ofNat_eq_natCast, beq_iff_eq, bne_iff_ne, beq_eq_false_iff_ne, bne_eq_false_iff_eq, ne_eq, Classical.not_not, Int.toNat_natCast, vrow_I, Arm.eta2, Fld.eta, Grp.eta] at h
    have hl : s.length = t.length := by omega
    refine loop_a hB (draw_ok hB mixed) hX hX0 hH false (ι := { i : Nat // i ≤ s.length ∧ ∀ j, j < i → s.getD j 0 = t.getD j 0 }) 100 (fun i => [.i (H Int fun _ => (i.1 : Nat))]) (fun i => s.length - i.1) (⟨0, by omega, by omega⟩) ?_ ?_
    · (conv in matchSt _ _ _ _ => cbv); simp only [AllG, AllP, and_true, hH, stdH, ncast, Int.ofNat_eq_natCast, vrow_I, Arm.eta2, Fld.eta, Grp.eta]
      (repeat' (first | rfl | trivial | exact RowsEq.self okI | exact RowsEq.ofT okI rfl (Shp_zero _) rfl | exact RowsEq.snoc okI rfl | exact RowsEq.more okI (Shp_I _ _) (Tl_I _) | exact RowsEq.self okI | exact RowsEq.self okRA | exact List.length_append | refine And.intro ?_ ?_))
    · intro I hI i
      conv in Fin.chk _ _ => cbv
      try simp only [Plain_rowsA, Plain_rowsB, Plain_rowsF, Plain_rowsG, Plain_rowsI, Plain_rowsS, Plain_rowsU, Fin.satC_ret, Fin.satC_br, Fin.satC_need, Fin.satC_again, AllP, and_true, true_and, upd, List.length_nil, List.length_cons, Nat.zero_add, if_true, ncast, Int.ofNat_eq_natCast]
      obtain ⟨i, hi, hj⟩ := i
      refine ⟨fun h1 => ⟨?_, ?_, fun h2 => ?_, fun h2 => ?_⟩, fun h1 => ?_⟩
      · simp only [hH, stdH, decide_eq_true_eq, decide_eq_false_iff_not, Bool.not_eq_true', Bool.not_eq_false', peta, ncast, Int.ofNat_eq_natCast, beq_iff_eq, bne_iff_ne, beq_eq_false_iff_ne, bne_eq_false_iff_eq, ne_eq, Classical.not_not, Int.toNat_natCast, vrow_I, Arm.eta2, Fld.eta, Grp.eta] at h1 ⊢
        omega
      · simp only [hH, stdH, decide_eq_true_eq, decide_eq_false_iff_not, Bool.not_eq_true', Bool.not_eq_false', peta, ncast, Int.ofNat_eq_natCast, beq_iff_eq, bne_iff_ne, beq_eq_false_iff_ne, bne_eq_false_iff_eq, ne_eq, Classical.not_not, Int.toNat_natCast, vrow_I, Arm.eta2, Fld.eta, Grp.eta] at h1 ⊢
        omega
      · simp only [hH, stdH, decide_eq_true_eq, decide_eq_false_iff_not, Bool.not_eq_true', Bool.not_eq_false', peta, ncast, Int.ofNat_eq_natCast, beq_iff_eq, bne_iff_ne, beq_eq_false_iff_ne, bne_eq_false_iff_eq, ne_eq, Classical.not_not, Int.toNat_natCast, vrow_I, Arm.eta2, Fld.eta, Grp.eta] at h2
        try simp only [hH, stdH, decide_eq_true_eq, decide_eq_false_iff_not, Bool.not_eq_true', Bool.not_eq_false', peta, ncast, Int.ofNat_eq_natCast, beq_iff_eq, bne_iff_ne, beq_eq_false_iff_ne, bne_eq_false_iff_eq, ne_eq, Classical.not_not, Int.toNat_natCast, vrow_I, Arm.eta2, Fld.eta, Grp.eta]
        intro e
        exact h2 (by rw [e])
      · simp only [hH, stdH, decide_eq_true_eq, decide_eq_false_iff_not, Bool.not_eq_true', Bool.not_eq_false', peta, ncast, Int.ofNat_eq_natCast, beq_iff_eq, bne_iff_ne, beq_eq_false_iff_ne, bne_eq_false_iff_eq, ne_eq, Classical.not_not, Int.toNat_natCast, vrow_I, Arm.eta2, Fld.eta, Grp.eta] at h1
        simp only [hH, stdH, decide_eq_true_eq, decide_eq_false_iff_not, Bool.not_eq_true', Bool.not_eq_false', peta, ncast, Int.ofNat_eq_natCast, beq_iff_eq, bne_iff_ne, beq_eq_false_iff_ne, bne_eq_false_iff_eq, ne_eq, Classical.not_not, Int.toNat_natCast, vrow_I, Arm.eta2, Fld.eta, Grp.eta] at h2
        refine ⟨⟨i + 1, by omega, fun j hj' => ?_⟩, by simp only; omega, ?_⟩
        · rcases Nat.lt_succ_iff_lt_or_eq.1 hj' with h | rfl
          · exact hj j h
          · exact h2
        · rw [hI]
          (conv in matchSt _ _ _ _ => cbv); simp only [AllG, AllP, and_true, hH, stdH, ncast, Int.ofNat_eq_natCast, vrow_I, Arm.eta2, Fld.eta, Grp.eta]
          rw [w1 (by omega)]
          (repeat' (first | rfl | trivial | exact RowsEq.self okI | exact RowsEq.ofT okI rfl (Shp_zero _) rfl | exact RowsEq.snoc okI rfl | exact RowsEq.more okI (Shp_I _ _) (Tl_I _) | exact RowsEq.self okI | exact RowsEq.self okRA | exact List.length_append | refine And.intro ?_ ?_))
      · simp only [hH, stdH, decide_eq_true_eq, decide_eq_false_iff_not, Bool.not_eq_true', Bool.not_eq_false', peta, ncast, Int.ofNat_eq_natCast, beq_iff_eq, bne_iff_ne, beq_eq_false_iff_ne, bne_eq_false_iff_eq, ne_eq, Classical.not_not, Int.toNat_natCast, vrow_I, Arm.eta2, Fld.eta, Grp.eta] at h1 ⊢
        obtain rfl : i = s.length := by omega
        refine List.ext_getElem hl fun j h1 h2 => ?_
        have := hj j h1
        simpa [List.getD_eq_getElem?_getD, h1, h2] using this
noncomputable def e_vIntsD : Entry := pureE 35 fun H a => match a with
  | [.vec 1 sn sf, .vec 1 tn tf] => some (.lit (.bool (H Bool fun _ => decide ((Tl rowI sn sf) = (Tl rowI tn tf)))), [H Prop fun _ => Shp rowI sn sf, H Prop fun _ => Shp rowI tn tf, H Prop fun _ => (Tl rowI sn sf).length ≤ 2000000])
  | _ => none
theorem eok_vIntsD : EntryOk Try.prog e_vIntsD := pureM_ok (by unfold isBody; kernel_rfl) (by
  intro a r ob e hob
  split at e
  · rename_i sn sf tn tf
    simp only [Option.some.injEq, Prod.mk.injEq] at e
    obtain ⟨rfl, rfl⟩ := e
    exact ConN.args (.cons (.toT okI rfl hob.1) (.cons (.toT okI rfl hob.2.1) .nil)) (c_vIntsD (Tl rowI sn sf) (Tl rowI tn tf) hob.2.2.1)
  · simp at e)

end Go.Proofs.Ytfamdalilcbloaa.AM
