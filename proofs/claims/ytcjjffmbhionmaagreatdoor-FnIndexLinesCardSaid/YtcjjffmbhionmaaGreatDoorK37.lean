/- Lemmas and contracts (Flu); conditions: none. -/
import Derived.Test.YtcjjffmbhionmaaGreatDoorK03
import Derived.Test.YtcjjffmbhionmaaGreatDoorK35
import Derived.Test.YtcjjffmbhionmaaGreatDoorK36
set_option linter.unusedVariables false
set_option linter.unusedSimpArgs false
set_option maxRecDepth 100000
set_option maxHeartbeats 4000000
set_option cbv.maxSteps 3000000
namespace Go.Proofs.YtcjjffmbhionmaaGreatDoor.AM
/- Grants looked up by features; conditions: none. -/
def okFi (l : List ByteArray) (i : Nat) : Bool := isF (l.getD i ByteArray.empty) && (decide (i = 0) || ltA (l.getD (i - 1) ByteArray.empty) (l.getD i ByteArray.empty))
def okFl (l : List ByteArray) : Bool := decide (l.length ≤ 10) && (List.range l.length).all (okFi l)
theorem okFl_all {l : List ByteArray} (h : ∀ i, i < l.length → okFi l i = true) : okFl l = decide (l.length ≤ 10) := by
  unfold okFl
  rw [List.all_eq_true.2 (fun i hi => h i (List.mem_range.1 hi)), Bool.and_true]
theorem okFl_bad {l : List ByteArray} {i : Nat} (hi : i < l.length) (h : okFi l i = false) : okFl l = false := by
  unfold okFl
  cases e : (List.range l.length).all (okFi l) with
  | false => rw [Bool.and_false]
  | true =>
    have := List.all_eq_true.1 e i (List.mem_range.2 hi)
    rw [h] at this; cases this
theorem cond_fi {l : List ByteArray} {i : Nat} (hi : i ≤ 100000) : (bif !isF (l.getD i ByteArray.empty) then true else bif decide ((0 : Int) < (i : Int)) then !Op.bytesLess (l.getD (IntKind.i64.wrap ((i : Int) - 1)).toNat ByteArray.empty).toList (l.getD i ByteArray.empty).toList else false) = !okFi l i := by
  unfold okFi
  rcases Nat.eq_zero_or_pos i with rfl | h
  · cases isF (l.getD 0 ByteArray.empty) <;> rfl
  · have e : (IntKind.i64.wrap ((i : Int) - 1)).toNat = i - 1 := by rw [wi (by omega) (by omega)]; omega
    rw [e, decide_eq_true (show (0 : Int) < (i : Int) by omega), decide_eq_false (show ¬ i = 0 by omega)]
    show (bif !isF (l.getD i ByteArray.empty) then true else bif true then !ltA (l.getD (i - 1) ByteArray.empty) (l.getD i ByteArray.empty) else false) = _
    cases isF (l.getD i ByteArray.empty) <;> cases ltA (l.getD (i - 1) ByteArray.empty) (l.getD i ByteArray.empty) <;> rfl
theorem c_areF (l : List ByteArray) (h0 : l.length ≤ 100000) : ConN Tryz.prog 40 [.vec 1 (stdH Nat fun _ => (l).length) (rowsS stdH fun _ => l)] [] 0 (.lit (.bool (stdH Bool fun _ => okFl l))) [] [] := by
  have hB : Base Tryz.prog (tabΓ [e_isFeat]) tab := base_of tabOk (ents_cons eok_isFeat <| ents_nil)
  refine con_m (N := 32) hB (draw_ok hB mixed) Tryz.func40 rfl rfl (fun H => [.vec 1 (H Nat fun _ => (l).length) (rowsS H fun _ => l)]) (fun _ => []) 0 (fun H => .lit (.bool (H Bool fun _ => okFl l))) (fun H => []) (fun _ => []) 300 (by simp) (fun x hx => ?_) (by simp [lk]) (by omega) (by simp) ?_
  · simp only [List.mem_cons, List.not_mem_nil, or_false] at hx
    rcases hx with rfl
    · exact vl_bl okS l _
  intro X hX hX0 H hH
  conv in Fin.chk _ _ => cbv
  try simp only [Plain_rowsA, Plain_rowsB, Plain_rowsC, Plain_rowsF, Plain_rowsG, Plain_rowsI, Plain_rowsS, Plain_rowsU, Plain_rowsW, Fin.satC_ret, Fin.satC_br, Fin.satC_need, Fin.satC_again, AllP, and_true, true_and, upd, List.length_nil, List.length_cons, Nat.zero_add, if_true, ncast, Int.ofNat_eq_natCast]
  refine loop_a hB (draw_ok hB mixed) hX hX0 hH false (ι := { i : Nat // i ≤ l.length ∧ ∀ j, j < i → okFi l j = true }) 300 (fun i => [.b (H Bool fun _ => false), .i (H Int fun _ => (i.1 : Nat))]) (fun i => l.length - i.1) (⟨0, Nat.zero_le _, fun j h => absurd h (Nat.not_lt_zero j)⟩) ?_ ?_
  · (conv in matchSt _ _ _ _ => cbv); simp only [AllG, AllP, and_true, hH, stdH, Nat.le_refl, ncast, Int.ofNat_eq_natCast, vrow_I, Arm.eta2, Fld.eta, Grp.eta]
    (repeat' (with_reducible refine And.intro ?_ ?_)) <;> (first | exact True.intro | exact Eq.refl _ | exact RowsEq.self okS)
  · intro I hI i
    conv in Fin.chk _ _ => cbv
    try simp only [Plain_rowsA, Plain_rowsB, Plain_rowsC, Plain_rowsF, Plain_rowsG, Plain_rowsI, Plain_rowsS, Plain_rowsU, Plain_rowsW, Fin.satC_ret, Fin.satC_br, Fin.satC_need, Fin.satC_again, AllP, and_true, true_and, upd, List.length_nil, List.length_cons, Nat.zero_add, if_true, ncast, Int.ofNat_eq_natCast]
    obtain ⟨i, hi, hj⟩ := i
    refine ⟨fun h1 => ⟨?_, ?_, fun h2 => ?_, fun h2 => ?_⟩, fun h1 => ?_⟩
    · simp only [hH, stdH, Nat.le_refl, decide_eq_true_eq, decide_eq_false_iff_not, Bool.not_eq_true', Bool.not_eq_false', peta, ncast, Int.ofNat_eq_natCast, beq_iff_eq, bne_iff_ne, beq_eq_false_iff_ne, bne_eq_false_iff_eq, ne_eq, Classical.not_not, Int.toNat_natCast, vrow_I, Arm.eta2, Fld.eta, Grp.eta] at h1 ⊢
      omega
    · simp only [hH, stdH, Nat.le_refl, decide_eq_true_eq, decide_eq_false_iff_not, Bool.not_eq_true', Bool.not_eq_false', peta, ncast, Int.ofNat_eq_natCast, beq_iff_eq, bne_iff_ne, beq_eq_false_iff_ne, bne_eq_false_iff_eq, ne_eq, Classical.not_not, Int.toNat_natCast, vrow_I, Arm.eta2, Fld.eta, Grp.eta] at h1
      try simp only [hH, stdH, Nat.le_refl, decide_eq_true_eq, decide_eq_false_iff_not, Bool.not_eq_true', Bool.not_eq_false', peta, ncast, Int.ofNat_eq_natCast, beq_iff_eq, bne_iff_ne, beq_eq_false_iff_ne, bne_eq_false_iff_eq, ne_eq, Classical.not_not, Int.toNat_natCast, vrow_I, Arm.eta2, Fld.eta, Grp.eta]
      intro h
      rw [wi (by omega) (by omega)]
      omega
    · simp only [hH, stdH, Nat.le_refl, decide_eq_true_eq, decide_eq_false_iff_not, Bool.not_eq_true', Bool.not_eq_false', peta, ncast, Int.ofNat_eq_natCast, beq_iff_eq, bne_iff_ne, beq_eq_false_iff_ne, bne_eq_false_iff_eq, ne_eq, Classical.not_not, Int.toNat_natCast, vrow_I, Arm.eta2, Fld.eta, Grp.eta] at h1
      simp only [hH, stdH, Int.toNat_natCast, cond_fi (l := l) (i := i) (by omega), Bool.not_eq_true'] at h2
      try simp only [hH, stdH, Nat.le_refl, decide_eq_true_eq, decide_eq_false_iff_not, Bool.not_eq_true', Bool.not_eq_false', peta, ncast, Int.ofNat_eq_natCast, beq_iff_eq, bne_iff_ne, beq_eq_false_iff_ne, bne_eq_false_iff_eq, ne_eq, Classical.not_not, Int.toNat_natCast, vrow_I, Arm.eta2, Fld.eta, Grp.eta]
      exact okFl_bad (by omega) h2
    · simp only [hH, stdH, Nat.le_refl, decide_eq_true_eq, decide_eq_false_iff_not, Bool.not_eq_true', Bool.not_eq_false', peta, ncast, Int.ofNat_eq_natCast, beq_iff_eq, bne_iff_ne, beq_eq_false_iff_ne, bne_eq_false_iff_eq, ne_eq, Classical.not_not, Int.toNat_natCast, vrow_I, Arm.eta2, Fld.eta, Grp.eta] at h1
      simp only [hH, stdH, Int.toNat_natCast, cond_fi (l := l) (i := i) (by omega), Bool.not_eq_false'] at h2
      refine ⟨⟨i + 1, by omega, fun j hj' => ?_⟩, by simp only; omega, ?_⟩
      · rcases Nat.lt_succ_iff_lt_or_eq.1 hj' with h | rfl
        · exact hj j h
        · exact h2
      · rw [hI]
        (conv in matchSt _ _ _ _ => cbv); simp only [AllG, AllP, and_true, hH, stdH, Nat.le_refl, ncast, Int.ofNat_eq_natCast, vrow_I, Arm.eta2, Fld.eta, Grp.eta]
        rw [w1 (by omega)]
        (repeat' (with_reducible refine And.intro ?_ ?_)) <;> (first | exact True.intro | exact Eq.refl _ | exact RowsEq.self okS)
    · simp only [hH, stdH, Nat.le_refl, decide_eq_true_eq, decide_eq_false_iff_not, Bool.not_eq_true', Bool.not_eq_false', peta, ncast, Int.ofNat_eq_natCast, beq_iff_eq, bne_iff_ne, beq_eq_false_iff_ne, bne_eq_false_iff_eq, ne_eq, Classical.not_not, Int.toNat_natCast, vrow_I, Arm.eta2, Fld.eta, Grp.eta] at h1
      try simp only [hH, stdH, Nat.le_refl, decide_eq_true_eq, decide_eq_false_iff_not, Bool.not_eq_true', Bool.not_eq_false', peta, ncast, Int.ofNat_eq_natCast, beq_iff_eq, bne_iff_ne, beq_eq_false_iff_ne, bne_eq_false_iff_eq, ne_eq, Classical.not_not, Int.toNat_natCast, vrow_I, Arm.eta2, Fld.eta, Grp.eta]
      rw [okFl_all fun j hj' => hj j (by omega), decide_eq_decide]
      omega
noncomputable def e_areF : Entry := pureE 40 fun H a => match a with
  | [.vec 1 ln lf] => some (.lit (.bool (H Bool fun _ => okFl (Tl rowS ln lf))), [H Prop fun _ => Shp rowS ln lf, H Prop fun _ => (Tl rowS ln lf).length ≤ 100000])
  | _ => none
theorem eok_areF : EntryOk Tryz.prog e_areF := pureM_ok (by unfold isBody; kernel_rfl) (by
  intro a r ob e hob
  split at e
  · rename_i ln lf
    simp only [Option.some.injEq, Prod.mk.injEq] at e
    obtain ⟨rfl, rfl⟩ := e
    exact ConN.args (.cons (.toT okS rfl hob.1) .nil) (c_areF (Tl rowS ln lf) hob.2.1)
  · simp at e)
theorem okRg_okA {l : List Grt} (h : okRg l = true) : ∀ g ∈ l, okA g.arms = true := fun g hg => by
  obtain ⟨i, hi, e⟩ := List.getElem_of_mem hg
  have := okRg_N h hi
  rw [List.getD_eq_getElem?_getD, List.getElem?_eq_getElem hi, Option.getD_some, e] at this
  exact (okN_in this).2.2.2
theorem c_lookUp (r : Rgr) (f : List ByteArray) (h0 : r.gs.length ≤ 2000000) (h1 : Nsz r.gs) (h2 : f.length ≤ 100000) : ConN Tryz.prog 9 [aT rowJ stdH fun _ => r, .vec 1 (stdH Nat fun _ => (f).length) (rowsS stdH fun _ => f)] [] 0 (.tup [.vec 1 (stdH Nat fun _ => (if okRg r.gs && okFl f then nmb (luE f) r.gs r.gs.length else []).length) (rowsI stdH fun _ => if okRg r.gs && okFl f then nmb (luE f) r.gs r.gs.length else []), .lit (.bool (stdH Bool fun _ => okRg r.gs && okFl f))]) [] [] := by
  have hB : Base Tryz.prog (tabΓ [e_validR, e_areF, e_numL]) tab := base_of tabOk (ents_cons eok_validR <| ents_cons eok_areF <| ents_cons eok_numL <| ents_nil)
  refine con_m (N := 17) hB (draw_ok hB mixed) Tryz.func9 rfl rfl (fun H => [aT rowJ H fun _ => r, .vec 1 (H Nat fun _ => (f).length) (rowsS H fun _ => f)]) (fun _ => []) 0 (fun H => .tup [.vec 1 (H Nat fun _ => (if okRg r.gs && okFl f then nmb (luE f) r.gs r.gs.length else []).length) (rowsI H fun _ => if okRg r.gs && okFl f then nmb (luE f) r.gs r.gs.length else []), .lit (.bool (H Bool fun _ => okRg r.gs && okFl f))]) (fun H => []) (fun _ => []) 300 (by simp) (fun x hx => ?_) (by simp [lk]) (by omega) (by simp) ?_
  · simp only [List.mem_cons, List.not_mem_nil, or_false] at hx
    rcases hx with rfl | rfl
    · exact aT_bl okRJ _ _
    · exact vl_bl okS f _
  intro X hX hX0 H hH
  conv in Fin.chk _ _ => cbv
  try simp only [Plain_rowsA, Plain_rowsB, Plain_rowsC, Plain_rowsF, Plain_rowsG, Plain_rowsI, Plain_rowsS, Plain_rowsU, Plain_rowsW, Fin.satC_ret, Fin.satC_br, Fin.satC_need, Fin.satC_again, AllP, and_true, true_and, upd, List.length_nil, List.length_cons, Nat.zero_add, if_true, ncast, Int.ofNat_eq_natCast]
  simp only [TlW_H hH]
  subst hH
  simp only [stdH, TlS']
  cases hR : okRg r.gs with
  | false =>
    simp only [Bool.not_false, cond_true, Bool.false_and, Bool.false_eq_true, if_false]
    (repeat' (first | exact Shp_W _ _ | exact Shp_rowsT okS _ (fun _ => _) | assumption | exact True.intro | exact Eq.refl _ | (with_reducible refine And.intro ?_ ?_) | (intro h9; first | exact absurd h9 (by decide) | skip)))
  | true =>
    have hA := okRg_okA hR
    cases hF : okFl f with
    | false =>
      simp only [Bool.not_false, Bool.not_true, cond_false, Bool.true_and, Bool.false_eq_true, if_false]
      (repeat' (first | exact Shp_W _ _ | exact Shp_rowsT okS _ (fun _ => _) | assumption | exact True.intro | exact Eq.refl _ | (with_reducible refine And.intro ?_ ?_) | (intro h9; first | exact absurd h9 (by decide) | skip)))
    | true =>
      simp only [Bool.not_true, cond_false, Bool.true_and, if_true]
      (repeat' (first | exact Shp_W _ _ | exact Shp_rowsT okS _ (fun _ => _) | assumption | exact True.intro | exact Eq.refl _ | exact Nat.le_refl _ | exact RowsEq.self okI | (with_reducible refine And.intro ?_ ?_) | (intro h9; first | exact absurd h9 (by decide) | skip)))
noncomputable def e_lookUp : Entry := pureE 9 fun H a => match a with
  | [.agg [.vec 18 r0n r0f], .vec 1 fn ff] => some (.tup [.vec 1 (H Nat fun _ => (if okRg (⟨(Tl rowW r0n r0f)⟩ : Rgr).gs && okFl (Tl rowS fn ff) then nmb (luE (Tl rowS fn ff)) (⟨(Tl rowW r0n r0f)⟩ : Rgr).gs (⟨(Tl rowW r0n r0f)⟩ : Rgr).gs.length else []).length) (rowsI H fun _ => if okRg (⟨(Tl rowW r0n r0f)⟩ : Rgr).gs && okFl (Tl rowS fn ff) then nmb (luE (Tl rowS fn ff)) (⟨(Tl rowW r0n r0f)⟩ : Rgr).gs (⟨(Tl rowW r0n r0f)⟩ : Rgr).gs.length else []), .lit (.bool (H Bool fun _ => okRg (⟨(Tl rowW r0n r0f)⟩ : Rgr).gs && okFl (Tl rowS fn ff)))], [H Prop fun _ => Shp rowW r0n r0f, H Prop fun _ => Shp rowS fn ff, H Prop fun _ => (⟨(Tl rowW r0n r0f)⟩ : Rgr).gs.length ≤ 2000000, H Prop fun _ => Nsz (⟨(Tl rowW r0n r0f)⟩ : Rgr).gs, H Prop fun _ => (Tl rowS fn ff).length ≤ 100000])
  | _ => none
theorem eok_lookUp : EntryOk Tryz.prog e_lookUp := pureM_ok (by unfold isBody; kernel_rfl) (by
  intro a r ob e hob
  split at e
  · rename_i r0n r0f fn ff
    simp only [Option.some.injEq, Prod.mk.injEq] at e
    obtain ⟨rfl, rfl⟩ := e
    exact ConN.args (.cons (.agg (.cons (.toT okRW rfl hob.1) .nil)) (.cons (.toT okS rfl hob.2.1) .nil)) (c_lookUp (⟨(Tl rowW r0n r0f)⟩ : Rgr) (Tl rowS fn ff) hob.2.2.1 hob.2.2.2.1 hob.2.2.2.2.1)
  · simp at e)

end Go.Proofs.YtcjjffmbhionmaaGreatDoor.AM

