/- Lemmas and contracts (Rgw); conditions: none. -/
import Derived.Test.YtcjjffmbhionmaaGreatDoorK03
import Derived.Test.YtcjjffmbhionmaaGreatDoorK30
set_option linter.unusedVariables false
set_option linter.unusedSimpArgs false
set_option maxRecDepth 100000
set_option maxHeartbeats 4000000
set_option cbv.maxSteps 3000000
namespace Go.Proofs.YtcjjffmbhionmaaGreatDoor.AM
/- Registers that are valid; conditions: none. -/
theorem Tl_prt {α : Type} {D : RowD α} (ok : RowOk D) {L : List α} {i : Nat} (h : i ≤ L.length) : Tl D i (fun j => rowsT D stdH (fun _ => L) (0 + j)) = L.take i := by
  refine List.ext_getElem (by simp [Tl]; omega) fun j h1 h2 => ?_
  have hj : j < L.length := by rw [List.length_take] at h2; omega
  simp only [Tl, List.getElem_map, List.getElem_range, List.getElem_take, Nat.zero_add]
  rw [rowsT, ok.row, ok.of_cells, List.getD_eq_getElem?_getD, List.getElem?_eq_getElem hj, Option.getD_some]
theorem Shp_prt {α : Type} {D : RowD α} (ok : RowOk D) {L : List α} (i : Nat) : Shp D i (fun j => rowsT D stdH (fun _ => L) (0 + j)) := ⟨fun j _ => (Shp_rowsT ok (0 + j + 1) (fun _ => L)).row (0 + j) (by omega)⟩
theorem okN_c (g : Grt) : (bif bif bif !inB g.num 1 999 then true else !okNm g.name then true else !inB g.year 1000 2999 then true else !okA g.arms) = !okN g := by
  unfold okN
  cases inB g.num 1 999 <;> cases okNm g.name <;> cases inB g.year 1000 2999 <;> cases okA g.arms <;> rfl
theorem ord_c (l : List Grt) {i : Nat} (h : i ≤ 2000000) : (bif decide ((0 : Int) < i) then bif decide ((l.getD i default).num ≤ (l.getD (IntKind.i64.wrap ((i : Int) - 1)).toNat default).num) then true else decide ((l.getD i default).year < (l.getD (IntKind.i64.wrap ((i : Int) - 1)).toNat default).year) else false) = !okOrd l i := by
  unfold okOrd
  rcases Nat.eq_zero_or_pos i with rfl | h0
  · rfl
  · rw [show (IntKind.i64.wrap ((i : Int) - 1)).toNat = i - 1 by rw [wi (by omega) (by omega)]; omega, decide_eq_true (by omega : (0 : Int) < i), decide_eq_false (by omega : ¬ i = 0)]
    generalize (l.getD i default).num = a1
    generalize (l.getD (i - 1) default).num = a2
    generalize (l.getD i default).year = a3
    generalize (l.getD (i - 1) default).year = a4
    by_cases q1 : a1 ≤ a2 <;> by_cases q2 : a3 < a4
    · rw [decide_eq_true q1, decide_eq_false (by omega : ¬ a2 < a1)]; rfl
    · rw [decide_eq_true q1, decide_eq_false (by omega : ¬ a2 < a1)]; rfl
    · rw [decide_eq_false q1, decide_eq_true q2, decide_eq_true (by omega : a2 < a1), decide_eq_false (by omega : ¬ a4 ≤ a3)]; rfl
    · rw [decide_eq_false q1, decide_eq_false q2, decide_eq_true (by omega : a2 < a1), decide_eq_true (by omega : a4 ≤ a3)]; rfl
theorem TlW_part {L : List Grt} {i : Nat} (h : i ≤ L.length) : Tl rowW (hiOf L.length (some (i : Int)) - loOf none) (fun j => rowsW stdH (fun _ => L) (loOf none + j)) = L.take i := by
  simp only [hiOf, loOf, Int.toNat_natCast, Nat.sub_zero]
  exact Tl_prt okRW h
theorem okAt_mk {l : List Grt} {i : Nat} (h1 : okN (l.getD i default) = true) (h2 : okOrd l i = true) : okAt l i = !(l.take i).any (cnfI (l.getD i default)) := by
  unfold okAt
  rw [h1, h2]; rfl
theorem okAt_n {l : List Grt} {i : Nat} (h : okN (l.getD i default) = false ∨ okOrd l i = false) : okAt l i = false := by
  unfold okAt
  rcases h with h | h <;> rw [h]
  · rfl
  · cases okN (l.getD i default) <;> rfl
theorem c_validR (r : Rgr) (h0 : r.gs.length ≤ 2000000) (h1 : Nsz r.gs) : ConN Tryz.prog 31 [aT rowJ stdH fun _ => r] [] 0 (.lit (.bool (stdH Bool fun _ => okRg r.gs))) [] [] := by
  have hB : Base Tryz.prog (tabΓ [e_inside, e_isName, e_IsValidArms, e_anyRg]) tabG := base_of tabOkG (ents_cons eok_inside <| ents_cons eok_isName <| ents_cons eok_IsValidArms <| ents_cons eok_anyRg <| ents_nil)
  refine con_m (N := 72) hB (draw_ok hB mixed) Tryz.func31 rfl rfl (fun H => [aT rowJ H fun _ => r]) (fun _ => []) 0 (fun H => .lit (.bool (H Bool fun _ => okRg r.gs))) (fun H => []) (fun _ => []) 300 (by simp) (fun x hx => ?_) (by simp [lk]) (by omega) (by simp) ?_
  · simp only [List.mem_cons, List.not_mem_nil, or_false] at hx
    rcases hx with rfl
    · exact aT_bl okRJ _ _
  intro X hX hX0 H hH
  conv in Fin.chk _ _ => cbv
  try simp only [Fin.satC_ret, Fin.satC_br, Fin.satC_need, Fin.satC_again, AllP, and_true, true_and, upd, List.length_nil, List.length_cons, Nat.zero_add, if_true, ncast, Int.ofNat_eq_natCast]
  refine loop_a hB (draw_ok hB mixed) hX hX0 hH false (ι := { i : Nat // i ≤ r.gs.length ∧ ∀ j, j < i → okAt r.gs j = true }) 300 (fun i => [.i (H Int fun _ => (i.1 : Nat))]) (fun i => r.gs.length - i.1) (⟨0, by omega, by omega⟩) ?_ ?_
  · (conv in matchSt _ _ _ _ => cbv); simp only [AllG, AllP, and_true, hH, stdH, Nat.le_refl, ncast, Int.ofNat_eq_natCast, vrow_I, Arm.eta2, Fld.eta, Grp.eta]
    all_goals (repeat' (with_reducible refine And.intro ?_ ?_)) <;> (first | exact Eq.refl _ | exact True.intro | exact Nat.le_refl _ | exact RowsEq.self okRW | exact RowsEq.ofT okRW rfl (Shp_zero _) rfl | exact RowsEq.snoc okRW rfl | exact List.length_append | exact c.rqN)
  · intro I hI i
    conv in Fin.chk _ _ => cbv
    try simp only [Fin.satC_ret, Fin.satC_br, Fin.satC_need, Fin.satC_again, AllP, and_true, true_and, upd, List.length_nil, List.length_cons, Nat.zero_add, if_true, ncast, Int.ofNat_eq_natCast]
    obtain ⟨i, hi, hj⟩ := i
    simp only [hetaA hH, hetaW hH]
    refine ⟨fun h2 => ⟨?_, ?_, fun h3 => ?_, fun h3 => ⟨?_, ?_, fun h4 => ?_, fun h4 => ⟨?_, ⟨?_, ?_⟩, fun h5 => ?_, fun h5 => ?_⟩⟩⟩, fun h2 => ?_⟩
    · simp only [hH, stdH, Nat.le_refl, decide_eq_true_eq, decide_eq_false_iff_not, Bool.not_eq_true', Bool.not_eq_false', peta, ncast, Int.ofNat_eq_natCast, beq_iff_eq, bne_iff_ne, beq_eq_false_iff_ne, bne_eq_false_iff_eq, ne_eq, Classical.not_not, Int.toNat_natCast, vrow_I, Arm.eta2, Fld.eta, Grp.eta] at h2 ⊢
      omega
    · try simp only [hH, stdH, Nat.le_refl, decide_eq_true_eq, decide_eq_false_iff_not, Bool.not_eq_true', Bool.not_eq_false', peta, ncast, Int.ofNat_eq_natCast, beq_iff_eq, bne_iff_ne, beq_eq_false_iff_ne, bne_eq_false_iff_eq, ne_eq, Classical.not_not, Int.toNat_natCast, vrow_I, Arm.eta2, Fld.eta, Grp.eta]
      exact fun _ => h1.at i
    · simp only [hH, stdH, Nat.le_refl, decide_eq_true_eq, decide_eq_false_iff_not, Bool.not_eq_true', Bool.not_eq_false', peta, ncast, Int.ofNat_eq_natCast, beq_iff_eq, bne_iff_ne, beq_eq_false_iff_ne, bne_eq_false_iff_eq, ne_eq, Classical.not_not, Int.toNat_natCast, vrow_I, Arm.eta2, Fld.eta, Grp.eta] at h2
      simp only [hH, stdH, Int.toNat_natCast] at h3
      rw [okN_c, Bool.not_eq_true'] at h3
      try simp only [hH, stdH, Nat.le_refl, decide_eq_true_eq, decide_eq_false_iff_not, Bool.not_eq_true', Bool.not_eq_false', peta, ncast, Int.ofNat_eq_natCast, beq_iff_eq, bne_iff_ne, beq_eq_false_iff_ne, bne_eq_false_iff_eq, ne_eq, Classical.not_not, Int.toNat_natCast, vrow_I, Arm.eta2, Fld.eta, Grp.eta]
      exact okRg_bad (by omega) (okAt_n (.inl h3))
    · simp only [hH, stdH, Nat.le_refl, decide_eq_true_eq, decide_eq_false_iff_not, Bool.not_eq_true', Bool.not_eq_false', peta, ncast, Int.ofNat_eq_natCast, beq_iff_eq, bne_iff_ne, beq_eq_false_iff_ne, bne_eq_false_iff_eq, ne_eq, Classical.not_not, Int.toNat_natCast, vrow_I, Arm.eta2, Fld.eta, Grp.eta] at h2 ⊢
      intro h6
      rw [wi (by omega) (by omega)]
      omega
    · simp only [hH, stdH, Nat.le_refl, decide_eq_true_eq, decide_eq_false_iff_not, Bool.not_eq_true', Bool.not_eq_false', peta, ncast, Int.ofNat_eq_natCast, beq_iff_eq, bne_iff_ne, beq_eq_false_iff_ne, bne_eq_false_iff_eq, ne_eq, Classical.not_not, Int.toNat_natCast, vrow_I, Arm.eta2, Fld.eta, Grp.eta] at h2 ⊢
      intro h6 h7
      rw [wi (by omega) (by omega)]
      omega
    · simp only [hH, stdH, Nat.le_refl, decide_eq_true_eq, decide_eq_false_iff_not, Bool.not_eq_true', Bool.not_eq_false', peta, ncast, Int.ofNat_eq_natCast, beq_iff_eq, bne_iff_ne, beq_eq_false_iff_ne, bne_eq_false_iff_eq, ne_eq, Classical.not_not, Int.toNat_natCast, vrow_I, Arm.eta2, Fld.eta, Grp.eta] at h2
      simp only [hH, stdH, Int.toNat_natCast] at h4
      rw [ord_c _ (by omega), Bool.not_eq_true'] at h4
      try simp only [hH, stdH, Nat.le_refl, decide_eq_true_eq, decide_eq_false_iff_not, Bool.not_eq_true', Bool.not_eq_false', peta, ncast, Int.ofNat_eq_natCast, beq_iff_eq, bne_iff_ne, beq_eq_false_iff_ne, bne_eq_false_iff_eq, ne_eq, Classical.not_not, Int.toNat_natCast, vrow_I, Arm.eta2, Fld.eta, Grp.eta]
      exact okRg_bad (by omega) (okAt_n (.inr h4))
    · simp only [hH, stdH, Nat.le_refl, decide_eq_true_eq, decide_eq_false_iff_not, Bool.not_eq_true', Bool.not_eq_false', peta, ncast, Int.ofNat_eq_natCast, beq_iff_eq, bne_iff_ne, beq_eq_false_iff_ne, bne_eq_false_iff_eq, ne_eq, Classical.not_not, Int.toNat_natCast, vrow_I, Arm.eta2, Fld.eta, Grp.eta] at h2
      try simp only [hH, stdH, Nat.le_refl, decide_eq_true_eq, decide_eq_false_iff_not, Bool.not_eq_true', Bool.not_eq_false', peta, ncast, Int.ofNat_eq_natCast, beq_iff_eq, bne_iff_ne, beq_eq_false_iff_ne, bne_eq_false_iff_eq, ne_eq, Classical.not_not, Int.toNat_natCast, vrow_I, Arm.eta2, Fld.eta, Grp.eta]
      exact ⟨trivial, by omega, by simp only [hiOf, loOf]; omega, by simp only [hiOf]; omega⟩
    · try simp only [hH, stdH, Nat.le_refl, decide_eq_true_eq, decide_eq_false_iff_not, Bool.not_eq_true', Bool.not_eq_false', peta, ncast, Int.ofNat_eq_natCast, beq_iff_eq, bne_iff_ne, beq_eq_false_iff_ne, bne_eq_false_iff_eq, ne_eq, Classical.not_not, Int.toNat_natCast, vrow_I, Arm.eta2, Fld.eta, Grp.eta]
      exact Shp_prt okRW _
    · try simp only [hH, stdH, Nat.le_refl, decide_eq_true_eq, decide_eq_false_iff_not, Bool.not_eq_true', Bool.not_eq_false', peta, ncast, Int.ofNat_eq_natCast, beq_iff_eq, bne_iff_ne, beq_eq_false_iff_ne, bne_eq_false_iff_eq, ne_eq, Classical.not_not, Int.toNat_natCast, vrow_I, Arm.eta2, Fld.eta, Grp.eta]
      rw [TlW_part hi, List.length_take]; omega
    · simp only [hH, stdH, Nat.le_refl, decide_eq_true_eq, decide_eq_false_iff_not, Bool.not_eq_true', Bool.not_eq_false', peta, ncast, Int.ofNat_eq_natCast, beq_iff_eq, bne_iff_ne, beq_eq_false_iff_ne, bne_eq_false_iff_eq, ne_eq, Classical.not_not, Int.toNat_natCast, vrow_I, Arm.eta2, Fld.eta, Grp.eta] at h2
      simp only [hH, stdH, Int.toNat_natCast] at h3
      simp only [hH, stdH, Int.toNat_natCast] at h4
      simp only [hH, stdH, Int.toNat_natCast] at h5
      rw [okN_c, Bool.not_eq_false'] at h3
      rw [ord_c _ (by omega), Bool.not_eq_false'] at h4
      rw [TlW_part hi] at h5
      try simp only [hH, stdH, Nat.le_refl, decide_eq_true_eq, decide_eq_false_iff_not, Bool.not_eq_true', Bool.not_eq_false', peta, ncast, Int.ofNat_eq_natCast, beq_iff_eq, bne_iff_ne, beq_eq_false_iff_ne, bne_eq_false_iff_eq, ne_eq, Classical.not_not, Int.toNat_natCast, vrow_I, Arm.eta2, Fld.eta, Grp.eta]
      refine okRg_bad (i := i) (by omega) ?_
      rw [okAt_mk h3 h4, h5]; rfl
    · simp only [hH, stdH, Nat.le_refl, decide_eq_true_eq, decide_eq_false_iff_not, Bool.not_eq_true', Bool.not_eq_false', peta, ncast, Int.ofNat_eq_natCast, beq_iff_eq, bne_iff_ne, beq_eq_false_iff_ne, bne_eq_false_iff_eq, ne_eq, Classical.not_not, Int.toNat_natCast, vrow_I, Arm.eta2, Fld.eta, Grp.eta] at h2
      simp only [hH, stdH, Int.toNat_natCast] at h3
      simp only [hH, stdH, Int.toNat_natCast] at h4
      simp only [hH, stdH, Int.toNat_natCast] at h5
      rw [okN_c, Bool.not_eq_false'] at h3
      rw [ord_c _ (by omega), Bool.not_eq_false'] at h4
      rw [TlW_part hi] at h5
      have h6 : okAt r.gs i = true := by rw [okAt_mk h3 h4, h5]; rfl
      refine ⟨⟨i + 1, by omega, fun j hj' => ?_⟩, by simp only; omega, ?_⟩
      · rcases Nat.lt_succ_iff_lt_or_eq.1 hj' with h | rfl
        · exact hj j h
        · exact h6
      · rw [hI]
        (conv in matchSt _ _ _ _ => cbv); simp only [AllG, AllP, and_true, hH, stdH, Nat.le_refl, ncast, Int.ofNat_eq_natCast, vrow_I, Arm.eta2, Fld.eta, Grp.eta]
        rw [w1 (by omega)]
        all_goals (repeat' (with_reducible refine And.intro ?_ ?_)) <;> (first | exact Eq.refl _ | exact True.intro | exact Nat.le_refl _ | exact RowsEq.self okRW | exact RowsEq.ofT okRW rfl (Shp_zero _) rfl | exact RowsEq.snoc okRW rfl | exact List.length_append | exact c.rqN)
    · simp only [hH, stdH, Nat.le_refl, decide_eq_true_eq, decide_eq_false_iff_not, Bool.not_eq_true', Bool.not_eq_false', peta, ncast, Int.ofNat_eq_natCast, beq_iff_eq, bne_iff_ne, beq_eq_false_iff_ne, bne_eq_false_iff_eq, ne_eq, Classical.not_not, Int.toNat_natCast, vrow_I, Arm.eta2, Fld.eta, Grp.eta] at h2
      try simp only [hH, stdH, Nat.le_refl, decide_eq_true_eq, decide_eq_false_iff_not, Bool.not_eq_true', Bool.not_eq_false', peta, ncast, Int.ofNat_eq_natCast, beq_iff_eq, bne_iff_ne, beq_eq_false_iff_ne, bne_eq_false_iff_eq, ne_eq, Classical.not_not, Int.toNat_natCast, vrow_I, Arm.eta2, Fld.eta, Grp.eta]
      rw [okRg_all fun j hj' => hj j (by omega), decide_eq_decide]
      omega
noncomputable def e_validR : Entry := pureE 31 fun H a => match a with
  | [.agg [.vec 18 r0n r0f]] => some (.lit (.bool (H Bool fun _ => okRg (⟨(Tl rowW r0n r0f)⟩ : Rgr).gs)), [H Prop fun _ => Shp rowW r0n r0f, H Prop fun _ => (⟨(Tl rowW r0n r0f)⟩ : Rgr).gs.length ≤ 2000000, H Prop fun _ => Nsz (⟨(Tl rowW r0n r0f)⟩ : Rgr).gs])
  | _ => none
theorem eok_validR : EntryOk Tryz.prog e_validR := pureM_ok (by unfold isBody; kernel_rfl) (by
  intro a r ob e hob
  split at e
  · rename_i r0n r0f
    simp only [Option.some.injEq, Prod.mk.injEq] at e
    obtain ⟨rfl, rfl⟩ := e
    exact ConN.args (.cons (.agg (.cons (.toT okRW rfl hob.1) .nil)) .nil) (c_validR (⟨(Tl rowW r0n r0f)⟩ : Rgr) hob.2.1 hob.2.2.1)
  · simp at e)

end Go.Proofs.YtcjjffmbhionmaaGreatDoor.AM

