/- Lemmas and contracts (Rgt); conditions: none. -/
import Derived.Test.YtbnohmfapmeaaaaGreatDoorK03
import Derived.Test.YtbnohmfapmeaaaaGreatDoorK23
import Derived.Test.YtbnohmfapmeaaaaGreatDoorK36
import Derived.Test.YtbnohmfapmeaaaaGreatDoorK37
set_option linter.unusedVariables false
set_option linter.unusedSimpArgs false
set_option maxRecDepth 100000
set_option maxHeartbeats 4000000
set_option cbv.maxSteps 3000000
namespace Go.Proofs.YtbnohmfapmeaaaaGreatDoor.AM
/- Registers as texts; conditions: none. -/
def lnW (g : Grt) : ByteArray := numD g.num.toNat ++ ((⟨⟨[32]⟩⟩ : ByteArray) ++ (g.name ++ ((⟨⟨[32]⟩⟩ : ByteArray) ++ (numD g.year.toNat ++ ((⟨⟨[32]⟩⟩ : ByteArray) ++ (armT g.arms ++ (⟨⟨[10]⟩⟩ : ByteArray)))))))
def rgT (l : List Grt) : Nat → ByteArray
  | 0 => ByteArray.empty
  | i + 1 => rgT l i ++ lnW (l.getD i default)
def rgR (l : List Grt) : ByteArray := if okRg l = true then rgT l l.length else ByteArray.empty
theorem rgR_y {l : List Grt} (h : okRg l = true) : rgR l = rgT l l.length := if_pos h
theorem rgR_n {l : List Grt} (h : okRg l = false) : rgR l = ByteArray.empty := if_neg (by rw [h]; simp)
theorem okAt_N {l : List Grt} {i : Nat} (h : okAt l i = true) : okN (l.getD i default) = true := by
  unfold okAt at h
  rw [Bool.and_eq_true] at h
  exact h.1
theorem okRg_N {l : List Grt} (h : okRg l = true) {i : Nat} (hi : i < l.length) : okN (l.getD i default) = true := okAt_N ((okRg_in h).2 i hi)
theorem lnW_sz {g : Grt} (h : okN g = true) : (lnW g).size ≤ 5023 := by
  obtain ⟨h1, h2, h3, h4⟩ := okN_in h
  have h5 := (okNm_in h2).1
  have h6 := numD_sz3 (i := g.num.toNat) (by omega)
  have h7 := numD_sz4 (i := g.year.toNat) (by omega)
  have h8 := armT_sz g.arms
  unfold lnW
  simp only [ByteArray.size_append, bsz, List.length_cons, List.length_nil]
  omega
theorem rgT_sz {l : List Grt} (h : okRg l = true) : ∀ i, i ≤ l.length → (rgT l i).size ≤ 5023 * i
  | 0, _ => Nat.le_refl 0
  | i + 1, hi => by
    have h1 := rgT_sz h i (by omega)
    have h2 := lnW_sz (okRg_N h (show i < l.length by omega))
    unfold rgT
    rw [ByteArray.size_append]
    omega
theorem c_l16Text (r : Rgr) (h0 : okRg r.gs = true) : ConN Tryz.prog 75 [aT rowJ stdH fun _ => r] [] 0 (.lit (.string (stdH ByteArray fun _ => rgT r.gs r.gs.length))) [] [] := by
  have hB : Base Tryz.prog (tabΓ [e_l1NumD, e_l6Text]) tab := base_of tabOk (ents_cons eok_l1NumD <| ents_cons eok_l6Text <| ents_nil)
  refine con_m (N := 39) hB (draw_ok hB mixed) Tryz.func75 rfl rfl (fun H => [aT rowJ H fun _ => r]) (fun _ => []) 0 (fun H => .lit (.string (H ByteArray fun _ => rgT r.gs r.gs.length))) (fun H => []) (fun _ => []) 300 (by simp) (fun x hx => ?_) (by simp [lk]) (by omega) (by simp) ?_
  · simp only [List.mem_cons, List.not_mem_nil, or_false] at hx
    rcases hx with rfl
    · exact aT_bl okRJ _ _
  intro X hX hX0 H hH
  conv in Fin.chk _ _ => cbv
  try simp only [Plain_rowsA, Plain_rowsB, Plain_rowsC, Plain_rowsF, Plain_rowsG, Plain_rowsI, Plain_rowsS, Plain_rowsU, Fin.satC_ret, Fin.satC_br, Fin.satC_need, Fin.satC_again, AllP, and_true, true_and, upd, List.length_nil, List.length_cons, Nat.zero_add, if_true, ncast, Int.ofNat_eq_natCast]
  have hl := (okRg_in h0).1
  refine loop_a hB (draw_ok hB mixed) hX hX0 hH false (ι := { i : Nat // i ≤ r.gs.length }) 300 (fun i => [.s (H ByteArray fun _ => rgT r.gs i.1), .i (H Int fun _ => (i.1 : Nat))]) (fun i => r.gs.length - i.1) (⟨0, by omega⟩) ?_ ?_
  · (conv in matchSt _ _ _ _ => cbv); simp only [AllG, AllP, and_true, hH, stdH, Nat.le_refl, ncast, Int.ofNat_eq_natCast, vrow_I, Arm.eta2, Fld.eta, Grp.eta]
    all_goals (repeat' (with_reducible refine And.intro ?_ ?_)) <;> (first | exact Eq.refl _ | exact True.intro | exact Nat.le_refl _ | exact RowsEq.self okRW | exact RowsEq.ofT okRW rfl (Shp_zero _) rfl | exact RowsEq.snoc okRW rfl | exact List.length_append | exact c.rqN)
  · intro I hI i
    conv in Fin.chk _ _ => cbv
    try simp only [Plain_rowsA, Plain_rowsB, Plain_rowsC, Plain_rowsF, Plain_rowsG, Plain_rowsI, Plain_rowsS, Plain_rowsU, Fin.satC_ret, Fin.satC_br, Fin.satC_need, Fin.satC_again, AllP, and_true, true_and, upd, List.length_nil, List.length_cons, Nat.zero_add, if_true, ncast, Int.ofNat_eq_natCast]
    obtain ⟨i, hi⟩ := i
    simp only [hetaA hH, hetaW hH]
    refine ⟨fun h2 => ?_, fun h2 => ?_⟩
    · simp only [hH, stdH, Nat.le_refl, decide_eq_true_eq, decide_eq_false_iff_not, Bool.not_eq_true', Bool.not_eq_false', peta, ncast, Int.ofNat_eq_natCast, beq_iff_eq, bne_iff_ne, beq_eq_false_iff_ne, bne_eq_false_iff_eq, ne_eq, Classical.not_not, Int.toNat_natCast, vrow_I, Arm.eta2, Fld.eta, Grp.eta] at h2
      have hi' : i < r.gs.length := by omega
      obtain ⟨n1, n2, n3, n4⟩ := okN_in (okRg_N h0 hi')
      have n5 := (okNm_in n2).1
      have n6 := numD_sz3 (i := (r.gs.getD i default).num.toNat) (by omega)
      have n7 := numD_sz4 (i := (r.gs.getD i default).year.toNat) (by omega)
      have n8 := armT_sz (r.gs.getD i default).arms
      have n9 := rgT_sz h0 i hi
      (repeat' (with_reducible refine And.intro ?_ ?_))
      all_goals try (simp only [hH, stdH, Int.toNat_natCast, ByteArray.size_append, bsz, List.length_cons, List.length_nil]; first | exact n4 | omega)
      refine ⟨⟨i + 1, by omega⟩, by simp only; omega, ?_⟩
      rw [hI]
      (conv in matchSt _ _ _ _ => cbv); simp only [AllG, AllP, and_true, hH, stdH, Nat.le_refl, ncast, Int.ofNat_eq_natCast, vrow_I, Arm.eta2, Fld.eta, Grp.eta]
      rw [w1 (by omega), show rgT r.gs (i + 1) = rgT r.gs i ++ lnW (r.gs.getD i default) from rfl]
      unfold lnW
      simp only [Int.toNat_natCast, ByteArray.append_assoc]
      all_goals (repeat' (with_reducible refine And.intro ?_ ?_)) <;> (first | exact Eq.refl _ | exact True.intro | exact Nat.le_refl _ | exact RowsEq.self okRW | exact RowsEq.ofT okRW rfl (Shp_zero _) rfl | exact RowsEq.snoc okRW rfl | exact List.length_append | exact c.rqN)
    · simp only [hH, stdH, Nat.le_refl, decide_eq_true_eq, decide_eq_false_iff_not, Bool.not_eq_true', Bool.not_eq_false', peta, ncast, Int.ofNat_eq_natCast, beq_iff_eq, bne_iff_ne, beq_eq_false_iff_ne, bne_eq_false_iff_eq, ne_eq, Classical.not_not, Int.toNat_natCast, vrow_I, Arm.eta2, Fld.eta, Grp.eta] at h2
      obtain rfl : i = r.gs.length := by omega
      try simp only [hH, stdH, Nat.le_refl, decide_eq_true_eq, decide_eq_false_iff_not, Bool.not_eq_true', Bool.not_eq_false', peta, ncast, Int.ofNat_eq_natCast, beq_iff_eq, bne_iff_ne, beq_eq_false_iff_ne, bne_eq_false_iff_eq, ne_eq, Classical.not_not, Int.toNat_natCast, vrow_I, Arm.eta2, Fld.eta, Grp.eta]
      first | done | exact ⟨trivial, trivial⟩
noncomputable def e_l16Text : Entry := pureE 75 fun H a => match a with
  | [.agg [.vec 18 r0n r0f]] => some (.lit (.string (H ByteArray fun _ => rgT (⟨(Tl rowW r0n r0f)⟩ : Rgr).gs (⟨(Tl rowW r0n r0f)⟩ : Rgr).gs.length)), [H Prop fun _ => Shp rowW r0n r0f, H Prop fun _ => okRg (⟨(Tl rowW r0n r0f)⟩ : Rgr).gs = true])
  | _ => none
theorem eok_l16Text : EntryOk Tryz.prog e_l16Text := pureM_ok (by unfold isBody; kernel_rfl) (by
  intro a r ob e hob
  split at e
  · rename_i r0n r0f
    simp only [Option.some.injEq, Prod.mk.injEq] at e
    obtain ⟨rfl, rfl⟩ := e
    exact ConN.args (.cons (.agg (.cons (.toT okRW rfl hob.1) .nil)) .nil) (c_l16Text (⟨(Tl rowW r0n r0f)⟩ : Rgr) hob.2.1)
  · simp at e)
theorem c_formatR (r : Rgr) (h0 : r.gs.length ≤ 2000000) (h1 : Nsz r.gs) : ConN Tryz.prog 15 [aT rowJ stdH fun _ => r] [] 0 (.tup [.lit (.string (stdH ByteArray fun _ => rgR r.gs)), .lit (.bool (stdH Bool fun _ => okRg r.gs))]) [] [] := by
  have hB : Base Tryz.prog (tabΓ [e_validR, e_itoaN, e_armText]) tab := base_of tabOk (ents_cons eok_validR <| ents_cons eok_itoaN <| ents_cons eok_armText <| ents_nil)
  refine con_m (N := 39) hB (draw_ok hB mixed) Tryz.func15 rfl rfl (fun H => [aT rowJ H fun _ => r]) (fun _ => []) 0 (fun H => .tup [.lit (.string (H ByteArray fun _ => rgR r.gs)), .lit (.bool (H Bool fun _ => okRg r.gs))]) (fun H => []) (fun _ => []) 300 (by simp) (fun x hx => ?_) (by simp [lk]) (by omega) (by simp) ?_
  · simp only [List.mem_cons, List.not_mem_nil, or_false] at hx
    rcases hx with rfl
    · exact aT_bl okRJ _ _
  intro X hX hX0 H hH
  conv in Fin.chk _ _ => cbv
  try simp only [Plain_rowsA, Plain_rowsB, Plain_rowsC, Plain_rowsF, Plain_rowsG, Plain_rowsI, Plain_rowsS, Plain_rowsU, Fin.satC_ret, Fin.satC_br, Fin.satC_need, Fin.satC_again, AllP, and_true, true_and, upd, List.length_nil, List.length_cons, Nat.zero_add, if_true, ncast, Int.ofNat_eq_natCast]
  simp only [TlW_H hH]
  refine ⟨?_, fun h => ?_, fun h => ?_⟩
  · try simp only [hH, stdH, Nat.le_refl, decide_eq_true_eq, decide_eq_false_iff_not, Bool.not_eq_true', Bool.not_eq_false', peta, ncast, Int.ofNat_eq_natCast, beq_iff_eq, bne_iff_ne, beq_eq_false_iff_ne, bne_eq_false_iff_eq, ne_eq, Classical.not_not, Int.toNat_natCast, vrow_I, Arm.eta2, Fld.eta, Grp.eta]
    exact ⟨Shp_W _ _, h0, h1⟩
  · simp only [hH, stdH, Nat.le_refl, decide_eq_true_eq, decide_eq_false_iff_not, Bool.not_eq_true', Bool.not_eq_false', peta, ncast, Int.ofNat_eq_natCast, beq_iff_eq, bne_iff_ne, beq_eq_false_iff_ne, bne_eq_false_iff_eq, ne_eq, Classical.not_not, Int.toNat_natCast, vrow_I, Arm.eta2, Fld.eta, Grp.eta] at h
    try simp only [hH, stdH, Nat.le_refl, decide_eq_true_eq, decide_eq_false_iff_not, Bool.not_eq_true', Bool.not_eq_false', peta, ncast, Int.ofNat_eq_natCast, beq_iff_eq, bne_iff_ne, beq_eq_false_iff_ne, bne_eq_false_iff_eq, ne_eq, Classical.not_not, Int.toNat_natCast, vrow_I, Arm.eta2, Fld.eta, Grp.eta]
    exact ⟨h, rgR_n h⟩
  · simp only [hH, stdH, Nat.le_refl, decide_eq_true_eq, decide_eq_false_iff_not, Bool.not_eq_true', Bool.not_eq_false', peta, ncast, Int.ofNat_eq_natCast, beq_iff_eq, bne_iff_ne, beq_eq_false_iff_ne, bne_eq_false_iff_eq, ne_eq, Classical.not_not, Int.toNat_natCast, vrow_I, Arm.eta2, Fld.eta, Grp.eta] at h
    rw [rgR_y h, h]
    have h0 := h
    have hl := (okRg_in h0).1
    refine loop_a hB (draw_ok hB mixed) hX hX0 hH false (ι := { i : Nat // i ≤ r.gs.length }) 300 (fun i => [.s (H ByteArray fun _ => rgT r.gs i.1), .i (H Int fun _ => (i.1 : Nat))]) (fun i => r.gs.length - i.1) (⟨0, by omega⟩) ?_ ?_
    · (conv in matchSt _ _ _ _ => cbv); simp only [AllG, AllP, and_true, hH, stdH, Nat.le_refl, ncast, Int.ofNat_eq_natCast, vrow_I, Arm.eta2, Fld.eta, Grp.eta]
      all_goals (repeat' (with_reducible refine And.intro ?_ ?_)) <;> (first | exact Eq.refl _ | exact True.intro | exact Nat.le_refl _ | exact RowsEq.self okRW | exact RowsEq.ofT okRW rfl (Shp_zero _) rfl | exact RowsEq.snoc okRW rfl | exact List.length_append | exact c.rqN)
    · intro I hI i
      conv in Fin.chk _ _ => cbv
      try simp only [Plain_rowsA, Plain_rowsB, Plain_rowsC, Plain_rowsF, Plain_rowsG, Plain_rowsI, Plain_rowsS, Plain_rowsU, Fin.satC_ret, Fin.satC_br, Fin.satC_need, Fin.satC_again, AllP, and_true, true_and, upd, List.length_nil, List.length_cons, Nat.zero_add, if_true, ncast, Int.ofNat_eq_natCast]
      obtain ⟨i, hi⟩ := i
      simp only [hetaA hH, hetaW hH]
      refine ⟨fun h2 => ?_, fun h2 => ?_⟩
      · simp only [hH, stdH, Nat.le_refl, decide_eq_true_eq, decide_eq_false_iff_not, Bool.not_eq_true', Bool.not_eq_false', peta, ncast, Int.ofNat_eq_natCast, beq_iff_eq, bne_iff_ne, beq_eq_false_iff_ne, bne_eq_false_iff_eq, ne_eq, Classical.not_not, Int.toNat_natCast, vrow_I, Arm.eta2, Fld.eta, Grp.eta] at h2
        have hi' : i < r.gs.length := by omega
        obtain ⟨n1, n2, n3, n4⟩ := okN_in (okRg_N h0 hi')
        have n5 := (okNm_in n2).1
        have n6 := numD_sz3 (i := (r.gs.getD i default).num.toNat) (by omega)
        have n7 := numD_sz4 (i := (r.gs.getD i default).year.toNat) (by omega)
        have n8 := armT_sz (r.gs.getD i default).arms
        have n9 := rgT_sz h0 i hi
        (repeat' (with_reducible refine And.intro ?_ ?_))
        all_goals try (simp only [hH, stdH, Int.toNat_natCast, ByteArray.size_append, bsz, List.length_cons, List.length_nil]; first | exact n4 | omega)
        refine ⟨⟨i + 1, by omega⟩, by simp only; omega, ?_⟩
        rw [hI]
        (conv in matchSt _ _ _ _ => cbv); simp only [AllG, AllP, and_true, hH, stdH, Nat.le_refl, ncast, Int.ofNat_eq_natCast, vrow_I, Arm.eta2, Fld.eta, Grp.eta]
        rw [w1 (by omega), show rgT r.gs (i + 1) = rgT r.gs i ++ lnW (r.gs.getD i default) from rfl]
        unfold lnW
        simp only [Int.toNat_natCast, ByteArray.append_assoc]
        all_goals (repeat' (with_reducible refine And.intro ?_ ?_)) <;> (first | exact Eq.refl _ | exact True.intro | exact Nat.le_refl _ | exact RowsEq.self okRW | exact RowsEq.ofT okRW rfl (Shp_zero _) rfl | exact RowsEq.snoc okRW rfl | exact List.length_append | exact c.rqN)
      · simp only [hH, stdH, Nat.le_refl, decide_eq_true_eq, decide_eq_false_iff_not, Bool.not_eq_true', Bool.not_eq_false', peta, ncast, Int.ofNat_eq_natCast, beq_iff_eq, bne_iff_ne, beq_eq_false_iff_ne, bne_eq_false_iff_eq, ne_eq, Classical.not_not, Int.toNat_natCast, vrow_I, Arm.eta2, Fld.eta, Grp.eta] at h2
        obtain rfl : i = r.gs.length := by omega
        try simp only [hH, stdH, Nat.le_refl, decide_eq_true_eq, decide_eq_false_iff_not, Bool.not_eq_true', Bool.not_eq_false', peta, ncast, Int.ofNat_eq_natCast, beq_iff_eq, bne_iff_ne, beq_eq_false_iff_ne, bne_eq_false_iff_eq, ne_eq, Classical.not_not, Int.toNat_natCast, vrow_I, Arm.eta2, Fld.eta, Grp.eta]
        first | done | exact ⟨trivial, trivial⟩
noncomputable def e_formatR : Entry := pureE 15 fun H a => match a with
  | [.agg [.vec 18 r0n r0f]] => some (.tup [.lit (.string (H ByteArray fun _ => rgR (⟨(Tl rowW r0n r0f)⟩ : Rgr).gs)), .lit (.bool (H Bool fun _ => okRg (⟨(Tl rowW r0n r0f)⟩ : Rgr).gs))], [H Prop fun _ => Shp rowW r0n r0f, H Prop fun _ => (⟨(Tl rowW r0n r0f)⟩ : Rgr).gs.length ≤ 2000000, H Prop fun _ => Nsz (⟨(Tl rowW r0n r0f)⟩ : Rgr).gs])
  | _ => none
theorem eok_formatR : EntryOk Tryz.prog e_formatR := pureM_ok (by unfold isBody; kernel_rfl) (by
  intro a r ob e hob
  split at e
  · rename_i r0n r0f
    simp only [Option.some.injEq, Prod.mk.injEq] at e
    obtain ⟨rfl, rfl⟩ := e
    exact ConN.args (.cons (.agg (.cons (.toT okRW rfl hob.1) .nil)) .nil) (c_formatR (⟨(Tl rowW r0n r0f)⟩ : Rgr) hob.2.1 hob.2.2.1)
  · simp at e)

end Go.Proofs.YtbnohmfapmeaaaaGreatDoor.AM

