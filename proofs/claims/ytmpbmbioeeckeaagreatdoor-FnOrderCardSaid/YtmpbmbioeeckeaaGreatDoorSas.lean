import Derived.Test.YtmpbmbioeeckeaaGreatDoorAmT
import Derived.Test.YtmpbmbioeeckeaaGreatDoorSar
set_option linter.unusedVariables false
set_option linter.unusedSimpArgs false
set_option maxRecDepth 100000
set_option maxHeartbeats 4000000
set_option cbv.maxSteps 3000000
namespace Go.Proofs.YtmpbmbioeeckeaaGreatDoor.AM
/- Arms sorted: the program's; conditions: none. -/
def iot (n : Nat) : List Int := (List.range n).map Int.ofNat
theorem iot_len (n : Nat) : (iot n).length = n := by simp [iot]
theorem iot_succ (n : Nat) : iot (n + 1) = iot n ++ [(n : Int)] := by simp only [iot, List.range_succ, List.map_append, List.map_cons, List.map_nil]; rfl
theorem iot_mem {n : Nat} {x : Int} (h : x ∈ iot n) : inR n x := by
  simp only [iot, List.mem_map, List.mem_range] at h
  obtain ⟨i, h1, rfl⟩ := h
  have : Int.ofNat i = (i : Int) := rfl
  exact ⟨by omega, by omega⟩
theorem okA_at {l : List Arm} (h : l.any (fun y => !okA y) = false) {i : Nat} (hi : i < l.length) : okA (l.getD i default) = true := by
  have := List.any_eq_false.1 h _ (getDm (d := default) hi)
  simpa using this
def srtA (l : List Arm) : List Int := isr (ltX (l.map armT)) 0 (iot l.length) (l.length - 1)
theorem srtA_len (l : List Arm) : (srtA l).length = l.length := by unfold srtA; rw [isr_len, iot_len]
theorem c_sortArmsY (l : List Arm) (h0 : l.length ≤ 20) (h1 : l.any (fun y => !okA y) = false) : ConN Tryz.prog 6 [.vec 15 (stdH Nat fun _ => (l).length) (rowsA stdH fun _ => l)] [] 0 (.tup [.slc 0 0 1 (stdH Nat fun _ => (srtA l).length), .lit (.bool (stdH Bool fun _ => true))]) [.rows 1 (stdH Nat fun _ => (srtA l).length) (rowsI stdH fun _ => srtA l) 3] [] := by
  have hB : Base Tryz.prog (tabΓ [e_areArms, e_armText, e_sortT]) tabO := base_of tabOkO (ents_cons eok_areArms <| ents_cons eok_armText <| ents_cons eok_sortT <| ents_nil)
  refine con_m (N := 34) hB (draw_ok hB mixed) Tryz.func6 rfl rfl (fun H => [.vec 15 (H Nat fun _ => (l).length) (rowsA H fun _ => l)]) (fun _ => []) 0 (fun H => .tup [.slc 0 0 1 (H Nat fun _ => (srtA l).length), .lit (.bool (H Bool fun _ => true))]) (fun H => [.rows 1 (H Nat fun _ => (srtA l).length) (rowsI H fun _ => srtA l) 3]) (fun _ => []) 300 (by simp) (fun x hx => ?_) (by simp [lk]) (by omega) (by simp) ?_
  · simp only [List.mem_cons, List.not_mem_nil, or_false] at hx
    rcases hx with rfl
    · exact vl_bl okRA l _
  intro X hX hX0 H hH
  conv in Fin.chk _ _ => cbv
  try simp only [Plain_rowsA, Plain_rowsB, Plain_rowsC, Plain_rowsF, Plain_rowsG, Plain_rowsI, Plain_rowsS, Plain_rowsU, Fin.satC_ret, Fin.satC_br, Fin.satC_need, Fin.satC_again, AllP, and_true, true_and, upd, List.length_nil, List.length_cons, Nat.zero_add, if_true, ncast, Int.ofNat_eq_natCast]
  refine ⟨?_, fun h => ?_, fun h => ?_⟩
  · try simp only [hH, stdH, decide_eq_true_eq, decide_eq_false_iff_not, Bool.not_eq_true', Bool.not_eq_false', peta, ncast, Int.ofNat_eq_natCast, beq_iff_eq, bne_iff_ne, beq_eq_false_iff_ne, bne_eq_false_iff_eq, ne_eq, Classical.not_not, Int.toNat_natCast, vrow_I, Arm.eta2, Fld.eta, Grp.eta]
    exact ⟨Shp_A _ _, by simp only [Tl_A]; omega⟩
  · exfalso
    simp only [hH, stdH, Tl_A, h1] at h
    simp at h
    omega
  · refine loop_a hB (draw_ok hB mixed) hX hX0 hH false (ι := { i : Nat // i ≤ l.length }) 300 (fun i => [.r (H Nat fun _ => (iot i.1).length) (rowsI H fun _ => iot i.1), .i (H Int fun _ => (i.1 : Nat)), .r (H Nat fun _ => ((l.map armT).take i.1).length) (rowsS H fun _ => (l.map armT).take i.1)]) (fun i => l.length - i.1) (⟨0, by omega⟩) ?_ ?_
    · (conv in matchSt _ _ _ _ => cbv); simp only [AllG, AllP, and_true, hH, stdH, ncast, Int.ofNat_eq_natCast, vrow_I, Arm.eta2, Fld.eta, Grp.eta]
      (repeat' (first | trivial | exact RowsEq.self okRA | exact RowsEq.ofT okS rfl (Shp_zero _) rfl | exact RowsEq.ofT okI rfl (Shp_zero _) rfl | refine And.intro ?_ ?_))
    · intro I hI i
      conv in Fin.chk _ _ => cbv
      try simp only [Plain_rowsA, Plain_rowsB, Plain_rowsC, Plain_rowsF, Plain_rowsG, Plain_rowsI, Plain_rowsS, Plain_rowsU, Fin.satC_ret, Fin.satC_br, Fin.satC_need, Fin.satC_again, AllP, and_true, true_and, upd, List.length_nil, List.length_cons, Nat.zero_add, if_true, ncast, Int.ofNat_eq_natCast]
      obtain ⟨i, hi⟩ := i
      have el : ((l.map armT).take i).length = i := by rw [List.length_take, List.length_map]; omega
      refine ⟨fun k1 => ⟨?_, ?_, ?_, ?_, ⟨i + 1, ?_⟩, ?_, ?_⟩, fun k1 => ?_⟩
      · simp only [hH, stdH, decide_eq_true_eq, decide_eq_false_iff_not, Bool.not_eq_true', Bool.not_eq_false', peta, ncast, Int.ofNat_eq_natCast, beq_iff_eq, bne_iff_ne, beq_eq_false_iff_ne, bne_eq_false_iff_eq, ne_eq, Classical.not_not, Int.toNat_natCast, vrow_I, Arm.eta2, Fld.eta, Grp.eta] at k1 ⊢
        omega
      · simp only [hH, stdH, decide_eq_true_eq, decide_eq_false_iff_not, Bool.not_eq_true', Bool.not_eq_false', peta, ncast, Int.ofNat_eq_natCast, beq_iff_eq, bne_iff_ne, beq_eq_false_iff_ne, bne_eq_false_iff_eq, ne_eq, Classical.not_not, Int.toNat_natCast, vrow_I, Arm.eta2, Fld.eta, Grp.eta] at k1 ⊢
        have hi' : i < l.length := by omega
        exact okA_at h1 hi'
      · simp only [hH, stdH, el, true_and]
        omega
      · simp only [hH, stdH, iot_len, true_and]
        omega
      · simp only [hH, stdH, decide_eq_true_eq, decide_eq_false_iff_not, Bool.not_eq_true', Bool.not_eq_false', peta, ncast, Int.ofNat_eq_natCast, beq_iff_eq, bne_iff_ne, beq_eq_false_iff_ne, bne_eq_false_iff_eq, ne_eq, Classical.not_not, Int.toNat_natCast, vrow_I, Arm.eta2, Fld.eta, Grp.eta] at k1
        omega
      · simp only [hH, stdH, decide_eq_true_eq, decide_eq_false_iff_not, Bool.not_eq_true', Bool.not_eq_false', peta, ncast, Int.ofNat_eq_natCast, beq_iff_eq, bne_iff_ne, beq_eq_false_iff_ne, bne_eq_false_iff_eq, ne_eq, Classical.not_not, Int.toNat_natCast, vrow_I, Arm.eta2, Fld.eta, Grp.eta] at k1
        simp only
        omega
      · simp only [hH, stdH, decide_eq_true_eq, decide_eq_false_iff_not, Bool.not_eq_true', Bool.not_eq_false', peta, ncast, Int.ofNat_eq_natCast, beq_iff_eq, bne_iff_ne, beq_eq_false_iff_ne, bne_eq_false_iff_eq, ne_eq, Classical.not_not, Int.toNat_natCast, vrow_I, Arm.eta2, Fld.eta, Grp.eta] at k1
        have hi' : i < l.length := by omega
        have e2 : (l.map armT).take (i + 1) = (l.map armT).take i ++ [armT (l.getD i default)] := by
          rw [List.take_succ_eq_append_getElem (by rw [List.length_map]; exact hi'), List.getElem_map, List.getD_eq_getElem?_getD, List.getElem?_eq_getElem hi', Option.getD_some]
        rw [hI]
        (conv in matchSt _ _ _ _ => cbv); simp only [AllG, AllP, and_true, hH, stdH, ncast, Int.ofNat_eq_natCast, vrow_I, Arm.eta2, Fld.eta, Grp.eta]
        simp only [Int.toNat_natCast]
        rw [w1 (by omega), e2, iot_succ]
        (repeat' (first | rfl | trivial | exact RowsEq.self okI | exact RowsEq.ofT okI rfl (Shp_zero _) rfl | exact RowsEq.snoc okI rfl | exact RowsEq.more okI (Shp_I _ _) (Tl_I _) | exact RowsEq.self okS | exact RowsEq.ofT okS rfl (Shp_zero _) rfl | exact RowsEq.snoc okS rfl | exact RowsEq.more okS (Shp_S _ _) (Tl_S _) | exact RowsEq.self okI | exact RowsEq.self okRA | exact List.length_append | refine And.intro ?_ ?_))
      · simp only [hH, stdH, decide_eq_true_eq, decide_eq_false_iff_not, Bool.not_eq_true', Bool.not_eq_false', peta, ncast, Int.ofNat_eq_natCast, beq_iff_eq, bne_iff_ne, beq_eq_false_iff_ne, bne_eq_false_iff_eq, ne_eq, Classical.not_not, Int.toNat_natCast, vrow_I, Arm.eta2, Fld.eta, Grp.eta] at k1
        obtain rfl : i = l.length := by omega
        have e3 : (l.map armT).take l.length = l.map armT := by rw [← List.length_map (f := armT), List.take_length]
        have e4 : Tl rowI l.length (rowsI stdH fun _ => iot l.length) = iot l.length := by
          have := Tl_I (iot l.length)
          rw [iot_len] at this
          exact this
        simp only [hH, stdH, Tl_I, Tl_S, iot_len, e3, e4]
        refine ⟨⟨fun _ _ => rfl, trivial, Shp_I _ _, Shp_S _ _, h0, fun x hx => ?_, trivial⟩, ?_, trivial, srtA_len l⟩
        · rw [List.length_map]; exact iot_mem hx
        · have := RowsEq.self okI (L := srtA l)
          rw [srtA_len] at this ⊢
          exact this
noncomputable def e_sortArmsY : Entry := pureN 6 fun H a => match a with
  | [.vec 15 ln lf] => some (fun nx => .tup [.slc nx 0 1 (H Nat fun _ => (srtA (Tl rowA ln lf)).length), .lit (.bool (H Bool fun _ => true))], [.rows 1 (H Nat fun _ => (srtA (Tl rowA ln lf)).length) (rowsI H fun _ => srtA (Tl rowA ln lf)) 3], [H Prop fun _ => Shp rowA ln lf, H Prop fun _ => (Tl rowA ln lf).length ≤ 20, H Prop fun _ => (Tl rowA ln lf).any (fun y => !okA y) = false])
  | _ => none
theorem eok_sortArmsY : EntryOk Tryz.prog e_sortArmsY := pureN_ok (by unfold isBody; kernel_rfl) (by
  intro a r nb ob e hob
  split at e
  · rename_i ln lf
    simp only [Option.some.injEq, Prod.mk.injEq] at e
    obtain ⟨rfl, rfl, rfl⟩ := e
    refine ⟨ConN.args (.cons (.toT okRA rfl hob.1) .nil) (c_sortArmsY (Tl rowA ln lf) hob.2.1 hob.2.2.1), fun x hx => ?_, fun nx => ?_, fun b hb => ?_⟩
    · simp only [List.mem_cons, List.not_mem_nil, or_false] at hx
      rcases hx with rfl
      · exact (hob.1).bl okRA _
    · (first | exact .slc ⟨by omega, by simp⟩ (by omega) | (refine .tup rfl (fun c x y hx hy => ?_); rcases c with _ | _ | _ | c <;> simp at hx hy <;> (subst hx; subst hy; first | exact .slc ⟨by omega, by simp⟩ (by omega) | exact .pl .lit | exact .pl (blq_ok 4 rfl))))
    · simp only [List.mem_cons, List.not_mem_nil, or_false] at hb; subst hb; exact bT_bl okI _ (fun _ => srtA (Tl rowA ln lf)) _
  · simp at e)
theorem c_sortArmsN (l : List Arm) (h0 : l.length ≤ 2000000) (h1 : (decide (l.length ≤ 20) && !l.any (fun y => !okA y)) = false) : ConN Tryz.prog 6 [.vec 15 (stdH Nat fun _ => (l).length) (rowsA stdH fun _ => l)] [] 0 (.tup [.lit (.slice none 0 0), .lit (.bool (stdH Bool fun _ => false))]) [] [] := by
  have hB : Base Tryz.prog (tabΓ [e_areArms, e_armText, e_sortT]) tabO := base_of tabOkO (ents_cons eok_areArms <| ents_cons eok_armText <| ents_cons eok_sortT <| ents_nil)
  refine con_m (N := 34) hB (draw_ok hB mixed) Tryz.func6 rfl rfl (fun H => [.vec 15 (H Nat fun _ => (l).length) (rowsA H fun _ => l)]) (fun _ => []) 0 (fun H => .tup [.lit (.slice none 0 0), .lit (.bool (H Bool fun _ => false))]) (fun H => []) (fun _ => []) 300 (by simp) (fun x hx => ?_) (by simp [lk]) (by omega) (by simp) ?_
  · simp only [List.mem_cons, List.not_mem_nil, or_false] at hx
    rcases hx with rfl
    · exact vl_bl okRA l _
  intro X hX hX0 H hH
  conv in Fin.chk _ _ => cbv
  try simp only [Plain_rowsA, Plain_rowsB, Plain_rowsC, Plain_rowsF, Plain_rowsG, Plain_rowsI, Plain_rowsS, Plain_rowsU, Fin.satC_ret, Fin.satC_br, Fin.satC_need, Fin.satC_again, AllP, and_true, true_and, upd, List.length_nil, List.length_cons, Nat.zero_add, if_true, ncast, Int.ofNat_eq_natCast]
  refine ⟨?_, fun h => ?_, fun h => ?_⟩
  · try simp only [hH, stdH, decide_eq_true_eq, decide_eq_false_iff_not, Bool.not_eq_true', Bool.not_eq_false', peta, ncast, Int.ofNat_eq_natCast, beq_iff_eq, bne_iff_ne, beq_eq_false_iff_ne, bne_eq_false_iff_eq, ne_eq, Classical.not_not, Int.toNat_natCast, vrow_I, Arm.eta2, Fld.eta, Grp.eta]
    exact ⟨Shp_A _ _, by simp only [Tl_A]; omega⟩
  · try simp only [hH, stdH, decide_eq_true_eq, decide_eq_false_iff_not, Bool.not_eq_true', Bool.not_eq_false', peta, ncast, Int.ofNat_eq_natCast, beq_iff_eq, bne_iff_ne, beq_eq_false_iff_ne, bne_eq_false_iff_eq, ne_eq, Classical.not_not, Int.toNat_natCast, vrow_I, Arm.eta2, Fld.eta, Grp.eta]
  · exfalso
    simp only [hH, stdH, Tl_A] at h
    rw [Bool.not_eq_false'] at h
    cases hc : decide (((l.length : Nat) : Int) ≤ 20) with
    | false => rw [hc] at h; cases h
    | true =>
      rw [hc, cond_true] at h
      rw [h, Bool.and_true, decide_eq_false_iff_not] at h1
      rw [decide_eq_true_eq] at hc
      omega
noncomputable def e_sortArmsN : Entry := pureE 6 fun H a => match a with
  | [.vec 15 ln lf] => some (.tup [.lit (.slice none 0 0), .lit (.bool (H Bool fun _ => false))], [H Prop fun _ => Shp rowA ln lf, H Prop fun _ => (Tl rowA ln lf).length ≤ 2000000, H Prop fun _ => (decide ((Tl rowA ln lf).length ≤ 20) && !(Tl rowA ln lf).any (fun y => !okA y)) = false])
  | _ => none
theorem eok_sortArmsN : EntryOk Tryz.prog e_sortArmsN := pureM_ok (by unfold isBody; kernel_rfl) (by
  intro a r ob e hob
  split at e
  · rename_i ln lf
    simp only [Option.some.injEq, Prod.mk.injEq] at e
    obtain ⟨rfl, rfl⟩ := e
    exact ConN.args (.cons (.toT okRA rfl hob.1) .nil) (c_sortArmsN (Tl rowA ln lf) hob.2.1 hob.2.2.1)
  · simp at e)

end Go.Proofs.YtmpbmbioeeckeaaGreatDoor.AM
