import Derived.Test.YtmpbmbioeeckeaaAmT
import Derived.Test.YtmpbmbioeeckeaaPdq
import Derived.Test.YtmpbmbioeeckeaaArm
set_option linter.unusedVariables false
set_option linter.unusedSimpArgs false
set_option maxRecDepth 100000
set_option maxHeartbeats 4000000
set_option cbv.maxSteps 3000000
namespace Go.Proofs.Ytmpbmbioeeckeaa.AM
/- Fields with the same parts; conditions: none. -/
def tinP (f : Fld) : List Int := if f.d = 0 then [f.p] else [f.p, f.q]
theorem RowsEq.litI {L : List Int} {n : Nat} {f : Nat → List AV} (hn : L.length = n) (hf : ∀ j, j < n → f j = [.lit (.int .i64 (L.getD j 0))]) : RowsEq 1 L.length (rowsI stdH fun _ => L) n f := by
  subst hn
  refine ⟨rfl, fun j hj => ?_⟩
  have e := hf j hj
  have q := (RowsEq.self okI (L := L)).2 j hj
  rw [e]
  exact q
theorem c_tinctures2 (f : Fld)  : ConN Try.prog 48 [aT rowF stdH fun _ => f] [] 0 (.slc 0 0 1 (stdH Nat fun _ => (tinP f).length)) [.rows 1 (stdH Nat fun _ => (tinP f).length) (rowsI stdH fun _ => tinP f) 3] [] := by
  have hB : Base Try.prog (tabΓ []) tabA := base_of tabOkA (ents_nil)
  refine con_m (N := 14) hB (draw_ok hB mixed) Try.func48 rfl rfl (fun H => [aT rowF H fun _ => f]) (fun _ => []) 0 (fun H => .slc 0 0 1 (H Nat fun _ => (tinP f).length)) (fun H => [.rows 1 (H Nat fun _ => (tinP f).length) (rowsI H fun _ => tinP f) 3]) (fun _ => []) 100 (by simp) (fun x hx => ?_) (by simp [lk]) (by omega) (by simp) ?_
  · simp only [List.mem_cons, List.not_mem_nil, or_false] at hx
    rcases hx with rfl
    · exact aT_bl okRF _ _
  intro X hX hX0 H hH
  conv in Fin.chk _ _ => cbv
  try simp only [Plain_rowsA, Plain_rowsB, Plain_rowsF, Plain_rowsG, Plain_rowsI, Plain_rowsS, Plain_rowsU, Fin.satC_ret, Fin.satC_br, Fin.satC_need, Fin.satC_again, AllP, and_true, true_and, upd, List.length_nil, List.length_cons, Nat.zero_add, if_true, ncast, Int.ofNat_eq_natCast]
  subst hH
  simp only [stdH]
  unfold tinP
  refine ⟨fun h => ?_, fun h => ?_⟩
  · have h0 : f.d = 0 := by simpa using h
    rw [if_pos h0]
    refine ⟨RowsEq.litI rfl fun j hj => ?_, rfl⟩
    rcases (by omega : j = 0) with rfl
    rfl
  · have h0 : ¬ f.d = 0 := by simpa using h
    rw [if_neg h0]
    refine ⟨RowsEq.litI rfl fun j hj => ?_, rfl⟩
    rcases (by omega : j = 0 ∨ j = 1) with rfl | rfl <;> rfl
noncomputable def e_tinctures2 : Entry := pureN 48 fun H a => match a with
  | [.agg [.lit (.int .i64 f0), .lit (.int .i64 f1), .lit (.int .i64 f2), .lit (.int .i64 f3)]] => some (fun nx => .slc nx 0 1 (H Nat fun _ => (tinP (⟨f0, f1, f2, f3⟩ : Fld)).length), [.rows 1 (H Nat fun _ => (tinP (⟨f0, f1, f2, f3⟩ : Fld)).length) (rowsI H fun _ => tinP (⟨f0, f1, f2, f3⟩ : Fld)) 3], [])
  | _ => none
theorem eok_tinctures2 : EntryOk Try.prog e_tinctures2 := pureN_ok (by unfold isBody; kernel_rfl) (by
  intro a r nb ob e hob
  split at e
  · rename_i f0 f1 f2 f3
    simp only [Option.some.injEq, Prod.mk.injEq] at e
    obtain ⟨rfl, rfl, rfl⟩ := e
    refine ⟨ConN.args (.cons .rfl .nil) (c_tinctures2 (⟨f0, f1, f2, f3⟩ : Fld) ), fun x hx => ?_, fun nx => ?_, fun b hb => ?_⟩
    · simp only [List.mem_cons, List.not_mem_nil, or_false] at hx
      rcases hx with rfl
      · exact blq_ok 4 rfl
    · (first | exact .slc ⟨by omega, by simp⟩ (by omega) | (refine .tup rfl (fun c x y hx hy => ?_); rcases c with _ | _ | _ | c <;> simp at hx hy <;> (subst hx; subst hy; first | exact .slc ⟨by omega, by simp⟩ (by omega) | exact .pl .lit | exact .pl (blq_ok 4 rfl))))
    · simp only [List.mem_cons, List.not_mem_nil, or_false] at hb; subst hb; exact bT_bl okI _ (fun _ => tinP (⟨f0, f1, f2, f3⟩ : Fld)) _
  · simp at e)
theorem c_eqL (s : List Int) (t : List Int) (h0 : s.length ≤ 2000000) : ConN Try.prog 50 [.vec 1 (stdH Nat fun _ => (s).length) (rowsI stdH fun _ => s), .vec 1 (stdH Nat fun _ => (t).length) (rowsI stdH fun _ => t)] [] 0 (.lit (.bool (stdH Bool fun _ => decide (s = t)))) [] [] := by
  have hB : Base Try.prog (tabΓ []) tab := base_of tabOk (ents_nil)
  refine con_m (N := 26) hB (draw_ok hB mixed) Try.func50 rfl rfl (fun H => [.vec 1 (H Nat fun _ => (s).length) (rowsI H fun _ => s), .vec 1 (H Nat fun _ => (t).length) (rowsI H fun _ => t)]) (fun _ => []) 0 (fun H => .lit (.bool (H Bool fun _ => decide (s = t)))) (fun H => []) (fun _ => []) 100 (by simp) (fun x hx => ?_) (by simp [lk]) (by omega) (by simp) ?_
  · simp only [List.mem_cons, List.not_mem_nil, or_false] at hx
    rcases hx with rfl | rfl
    · exact vl_bl okI s _
    · exact vl_bl okI t _
  intro X hX hX0 H hH
  conv in Fin.chk _ _ => cbv
  try simp only [Plain_rowsA, Plain_rowsB, Plain_rowsF, Plain_rowsG, Plain_rowsI, Plain_rowsS, Plain_rowsU, Fin.satC_ret, Fin.satC_br, Fin.satC_need, Fin.satC_again, AllP, and_true, true_and, upd, List.length_nil, List.length_cons, Nat.zero_add, if_true, ncast, Int.ofNat_eq_natCast]
  refine ⟨fun h => ?_, fun h => ?_⟩
  · simp only [hH, stdH, decide_eq_true_eq, decide_eq_false_iff_not, Bool.not_eq_true', Bool.not_eq_false', peta, ncast, Int.ofNat_eq_natCast, beq_iff_eq, bne_iff_ne, beq_eq_false_iff_ne, bne_eq_false_iff_eq, ne_eq, Classical.not_not, Int.toNat_natCast, vrow_I, Arm.eta2, Fld.eta, Grp.eta] at h
    try simp only [hH, stdH, decide_eq_true_eq, decide_eq_false_iff_not, Bool.not_eq_true', Bool.not_eq_false', peta, ncast, Int.ofNat_eq_natCast, beq_iff_eq, bne_iff_ne, beq_eq_false_iff_ne, bne_eq_false_iff_eq, ne_eq, Classical.not_not, Int.toNat_natCast, vrow_I, Arm.eta2, Fld.eta, Grp.eta]
    have : ¬ s = t := fun e => h (by rw [e])
    simp [this]
  · simp only [hH, stdH, decide_eq_true_eq, decide_eq_false_iff_not, Bool.not_eq_true', Bool.not_eq_false', peta, ncast, Int.ofNat_eq_natCast, beq_iff_eq, bne_iff_ne, beq_eq_false_iff_ne, bne_eq_false_iff_eq, ne_eq, Classical.not_not, Int.toNat_natCast, vrow_I, Arm.eta2, Fld.eta, Grp.eta] at h
    have hl : s.length = t.length := by omega
    refine loop_a hB (draw_ok hB mixed) hX hX0 hH false (ι := { i : Nat // i ≤ s.length ∧ ∀ j, j < i → s.getD j 0 = t.getD j 0 }) 100 (fun i => [.i (H Int fun _ => (i.1 : Nat))]) (fun i => s.length - i.1) (⟨0, by omega, by omega⟩) ?_ ?_
    · (conv in matchSt _ _ _ _ => cbv); simp only [AllG, AllP, and_true, hH, stdH, ncast, Int.ofNat_eq_natCast, vrow_I, Arm.eta2, Fld.eta, Grp.eta]
      (repeat' (first | rfl | trivial | exact RowsEq.self okI | exact RowsEq.ofT okI rfl (Shp_zero _) rfl | exact RowsEq.snoc okI rfl | exact RowsEq.self okI | exact RowsEq.self okRA | exact List.length_append | refine And.intro ?_ ?_))
    · intro I hI i
      conv in Fin.chk _ _ => cbv
      try simp only [Plain_rowsA, Plain_rowsB, Plain_rowsF, Plain_rowsG, Plain_rowsI, Plain_rowsS, Plain_rowsU, Fin.satC_ret, Fin.satC_br, Fin.satC_need, Fin.satC_again, AllP, and_true, true_and, upd, List.length_nil, List.length_cons, Nat.zero_add, if_true, ncast, Int.ofNat_eq_natCast]
      obtain ⟨i, hi, hj⟩ := i
      refine ⟨fun h1 => ⟨?_, ?_, fun h2 => ?_, fun h2 => ?_⟩, fun h1 => ?_⟩
      · simp only [hH, stdH, decide_eq_true_eq, decide_eq_false_iff_not, Bool.not_eq_true', Bool.not_eq_false', peta, ncast, Int.ofNat_eq_natCast, beq_iff_eq, bne_iff_ne, beq_eq_false_iff_ne, bne_eq_false_iff_eq, ne_eq, Classical.not_not, Int.toNat_natCast, vrow_I, Arm.eta2, Fld.eta, Grp.eta] at h1 ⊢
        omega
      · simp only [hH, stdH, decide_eq_true_eq, decide_eq_false_iff_not, Bool.not_eq_true', Bool.not_eq_false', peta, ncast, Int.ofNat_eq_natCast, beq_iff_eq, bne_iff_ne, beq_eq_false_iff_ne, bne_eq_false_iff_eq, ne_eq, Classical.not_not, Int.toNat_natCast, vrow_I, Arm.eta2, Fld.eta, Grp.eta] at h1 ⊢
        omega
      · simp only [hH, stdH, decide_eq_true_eq, decide_eq_false_iff_not, Bool.not_eq_true', Bool.not_eq_false', peta, ncast, Int.ofNat_eq_natCast, beq_iff_eq, bne_iff_ne, beq_eq_false_iff_ne, bne_eq_false_iff_eq, ne_eq, Classical.not_not, Int.toNat_natCast, vrow_I, Arm.eta2, Fld.eta, Grp.eta] at h2
        try simp only [hH, stdH, decide_eq_true_eq, decide_eq_false_iff_not, Bool.not_eq_true', Bool.not_eq_false', peta, ncast, Int.ofNat_eq_natCast, beq_iff_eq, bne_iff_ne, beq_eq_false_iff_ne, bne_eq_false_iff_eq, ne_eq, Classical.not_not, Int.toNat_natCast, vrow_I, Arm.eta2, Fld.eta, Grp.eta]
        intro e
        exact h2 (by rw [e])
      · simp only [hH, stdH, decide_eq_true_eq, decide_eq_false_iff_not, Bool.not_eq_true', Bool.not_eq_false', peta, ncast, Int.ofNat_eq_natCast, beq_iff_eq, bne_iff_ne, beq_eq_false_iff_ne, bne_eq_false_iff_eq, ne_eq, Classical.not_not, Int.toNat_natCast, vrow_I, Arm.eta2, Fld.eta, Grp.eta] at h1
        simp only [hH, stdH, decide_eq_true_eq, decide_eq_false_iff_not, Bool.not_eq_true', Bool.not_eq_false', peta, ncast, Int.ofNat_eq_natCast, beq_iff_eq, bne_iff_ne, beq_eq_false_iff_ne, bne_eq_false_iff_eq, ne_eq, Classical.not_not, Int.toNat_natCast, vrow_I, Arm.eta2, Fld.eta, Grp.eta] at h2
        refine ⟨⟨i + 1, by omega, fun j hj' => ?_⟩, by simp only; omega, ?_⟩
        · rcases Nat.lt_succ_iff_lt_or_eq.1 hj' with h | rfl
          · exact hj j h
          · exact h2
        · rw [hI]
          (conv in matchSt _ _ _ _ => cbv); simp only [AllG, AllP, and_true, hH, stdH, ncast, Int.ofNat_eq_natCast, vrow_I, Arm.eta2, Fld.eta, Grp.eta]
          rw [w1 (by omega)]
          (repeat' (first | rfl | trivial | exact RowsEq.self okI | exact RowsEq.ofT okI rfl (Shp_zero _) rfl | exact RowsEq.snoc okI rfl | exact RowsEq.self okI | exact RowsEq.self okRA | exact List.length_append | refine And.intro ?_ ?_))
      · simp only [hH, stdH, decide_eq_true_eq, decide_eq_false_iff_not, Bool.not_eq_true', Bool.not_eq_false', peta, ncast, Int.ofNat_eq_natCast, beq_iff_eq, bne_iff_ne, beq_eq_false_iff_ne, bne_eq_false_iff_eq, ne_eq, Classical.not_not, Int.toNat_natCast, vrow_I, Arm.eta2, Fld.eta, Grp.eta] at h1 ⊢
        obtain rfl : i = s.length := by omega
        refine List.ext_getElem hl fun j h1 h2 => ?_
        have := hj j h1
        simpa [List.getD_eq_getElem?_getD, h1, h2] using this
noncomputable def e_eqL : Entry := pureE 50 fun H a => match a with
  | [.vec 1 sn sf, .vec 1 tn tf] => some (.lit (.bool (H Bool fun _ => decide ((Tl rowI sn sf) = (Tl rowI tn tf)))), [H Prop fun _ => Shp rowI sn sf, H Prop fun _ => Shp rowI tn tf, H Prop fun _ => (Tl rowI sn sf).length ≤ 2000000])
  | _ => none
theorem eok_eqL : EntryOk Try.prog e_eqL := pureM_ok (by unfold isBody; kernel_rfl) (by
  intro a r ob e hob
  split at e
  · rename_i sn sf tn tf
    simp only [Option.some.injEq, Prod.mk.injEq] at e
    obtain ⟨rfl, rfl⟩ := e
    exact ConN.args (.cons (.toT okI rfl hob.1) (.cons (.toT okI rfl hob.2.1) .nil)) (c_eqL (Tl rowI sn sf) (Tl rowI tn tf) hob.2.2.1)
  · simp at e)
theorem tinP_len (f : Fld) : (tinP f).length ≤ 2 := by
  unfold tinP
  split <;> simp
def sp2 (f g : Fld) : Bool := decide (isr ltI 0 (tinP f) ((tinP f).length - 1) = isr ltI 0 (tinP g) ((tinP g).length - 1))
theorem c_SameParts (f : Fld) (g : Fld)  : ConN Try.prog 22 [aT rowF stdH fun _ => f, aT rowF stdH fun _ => g] [] 0 (.tup [.lit (.bool (stdH Bool fun _ => okF f && okF g && sp2 f g)), .lit (.bool (stdH Bool fun _ => okF f && okF g))]) [] [] := by
  have hB : Base Try.prog (tabΓ [e_IsValidField, e_tinctures2, e_sortI, e_eqL]) tab := base_of tabOk (ents_cons eok_IsValidField <| ents_cons eok_tinctures2 <| ents_cons eok_sortI <| ents_cons eok_eqL <| ents_nil)
  refine con_m (N := 27) hB (draw_ok hB mixed) Try.func22 rfl rfl (fun H => [aT rowF H fun _ => f, aT rowF H fun _ => g]) (fun _ => []) 0 (fun H => .tup [.lit (.bool (H Bool fun _ => okF f && okF g && sp2 f g)), .lit (.bool (H Bool fun _ => okF f && okF g))]) (fun H => []) (fun _ => []) 200 (by simp) (fun x hx => ?_) (by simp [lk]) (by omega) (by simp) ?_
  · simp only [List.mem_cons, List.not_mem_nil, or_false] at hx
    rcases hx with rfl | rfl
    · exact aT_bl okRF _ _
    · exact aT_bl okRF _ _
  intro X hX hX0 H hH
  conv in Fin.chk _ _ => cbv
  try simp only [Plain_rowsA, Plain_rowsB, Plain_rowsF, Plain_rowsG, Plain_rowsI, Plain_rowsS, Plain_rowsU, Fin.satC_ret, Fin.satC_br, Fin.satC_need, Fin.satC_again, AllP, and_true, true_and, upd, List.length_nil, List.length_cons, Nat.zero_add, if_true, ncast, Int.ofNat_eq_natCast]
  have l1 := tinP_len f
  have l2 := tinP_len g
  refine ⟨fun h => ?_, fun h => ⟨⟨?_, ?_, ?_⟩, ⟨?_, ?_, ?_⟩, ?_⟩⟩
  · simp only [hH, stdH, Fld.eta] at h ⊢
    cases hf : okF f <;> cases hg : okF g <;> simp_all
  all_goals simp only [hH, stdH, Fld.eta, Tl_I] at h ⊢
  all_goals try first | exact Shp_I _ _ | omega
  have e : ∀ F : Fld, Tl rowI (tinP F).length (rowsI stdH fun _ => isr ltI 0 (tinP F) ((tinP F).length - 1)) = isr ltI 0 (tinP F) ((tinP F).length - 1) := fun F => by
    have := Tl_I (isr ltI 0 (tinP F) ((tinP F).length - 1))
    rw [isr_len] at this
    exact this
  rw [e, e, isr_len]
  have hh : (okF f && okF g) = true := by cases hf : okF f <;> cases hg : okF g <;> simp_all
  rw [hh, Bool.true_and]
  exact ⟨⟨fun _ _ => rfl, fun _ _ => rfl, Shp_I _ _, Shp_I _ _, by omega⟩, rfl, rfl⟩
noncomputable def e_SameParts : Entry := pureE 22 fun H a => match a with
  | [.agg [.lit (.int .i64 f0), .lit (.int .i64 f1), .lit (.int .i64 f2), .lit (.int .i64 f3)], .agg [.lit (.int .i64 g0), .lit (.int .i64 g1), .lit (.int .i64 g2), .lit (.int .i64 g3)]] => some (.tup [.lit (.bool (H Bool fun _ => okF (⟨f0, f1, f2, f3⟩ : Fld) && okF (⟨g0, g1, g2, g3⟩ : Fld) && sp2 (⟨f0, f1, f2, f3⟩ : Fld) (⟨g0, g1, g2, g3⟩ : Fld))), .lit (.bool (H Bool fun _ => okF (⟨f0, f1, f2, f3⟩ : Fld) && okF (⟨g0, g1, g2, g3⟩ : Fld)))], [])
  | _ => none
theorem eok_SameParts : EntryOk Try.prog e_SameParts := pureM_ok (by unfold isBody; kernel_rfl) (by
  intro a r ob e hob
  split at e
  · rename_i f0 f1 f2 f3 g0 g1 g2 g3
    simp only [Option.some.injEq, Prod.mk.injEq] at e
    obtain ⟨rfl, rfl⟩ := e
    exact ConN.args (.cons .rfl (.cons .rfl .nil)) (c_SameParts (⟨f0, f1, f2, f3⟩ : Fld) (⟨g0, g1, g2, g3⟩ : Fld) )
  · simp at e)

end Go.Proofs.Ytmpbmbioeeckeaa.AM
