import Derived.Test.YthilcnfnbgbkdaaAmT
import Derived.Test.YthilcnfnbgbkdaaNea
set_option linter.unusedVariables false
set_option linter.unusedSimpArgs false
set_option maxRecDepth 100000
set_option maxHeartbeats 4000000
set_option cbv.maxSteps 3000000
namespace Go.Proofs.Ythilcnfnbgbkdaa.AM
/- The table of differences: the program's and the reference's; conditions: none. -/
def tbl (l : List Arm) : List (List Int) := l.map fun a => l.map fun b => dI a b
def tbl2 (l : List Arm) (i : Nat) : List (List Int) := (l.take i).map fun a => l.map fun b => dI a b
theorem c_tblH (l : List Arm) (h0 : l.length ≤ 100) : ConN Try.prog 10 [.vec 15 (stdH Nat fun _ => (l).length) (rowsA stdH fun _ => l)] [] 0 (.tup [.vec 1 (stdH Nat fun _ => (if okLs l then tbl l else []).length) (rowsL rowsI 1 stdH fun _ => if okLs l then tbl l else []), .lit (.bool (stdH Bool fun _ => okLs l))]) [] [] := by
  have hB : Base Try.prog (tabΓ [e_areArms, e_differences]) tabO := base_of tabOkO (ents_cons eok_areArms <| ents_cons eok_differences <| ents_nil)
  refine con_mN 41 (N := 40) hB (draw_ok hB mixed) Try.func10 rfl rfl (fun H => [.vec 15 (H Nat fun _ => (l).length) (rowsA H fun _ => l)]) (fun _ => []) 0 (fun H => .tup [.vec 1 (H Nat fun _ => (if okLs l then tbl l else []).length) (rowsL rowsI 1 H fun _ => if okLs l then tbl l else []), .lit (.bool (H Bool fun _ => okLs l))]) (fun H => []) (fun _ => []) 300 (by simp) (fun x hx => ?_) (by simp [lk]) (by omega) (by simp) ?_
  · simp only [List.mem_cons, List.not_mem_nil, or_false] at hx
    rcases hx with rfl
    · exact vl_bl okRA l _
  intro X hX hX0 H hH
  conv in Fin.chk _ _ => cbv
  try simp only [Fin.satC_ret, Fin.satC_br, Fin.satC_need, Fin.satC_again, AllP, and_true, true_and, upd, List.length_nil, List.length_cons, Nat.zero_add, if_true, ncast, Int.ofNat_eq_natCast]
  refine ⟨⟨?_, ?_⟩, fun h => ?_, fun h => ?_⟩
  · try simp only [hH, stdH, decide_eq_true_eq, decide_eq_false_iff_not, Bool.not_eq_true', Bool.not_eq_false', peta, ncast, Int.ofNat_eq_natCast, beq_iff_eq, bne_iff_ne, beq_eq_false_iff_ne, bne_eq_false_iff_eq, ne_eq, Classical.not_not, Int.toNat_natCast, vrow_I, Arm.eta2, Fld.eta, Grp.eta]
    exact Shp_A _ _
  · try simp only [hH, stdH, decide_eq_true_eq, decide_eq_false_iff_not, Bool.not_eq_true', Bool.not_eq_false', peta, ncast, Int.ofNat_eq_natCast, beq_iff_eq, bne_iff_ne, beq_eq_false_iff_ne, bne_eq_false_iff_eq, ne_eq, Classical.not_not, Int.toNat_natCast, vrow_I, Arm.eta2, Fld.eta, Grp.eta]
    simp only [Tl_A]; omega
  · simp only [hH, stdH, Int.toNat_natCast] at h
    simp only [Tl_A] at h
    change (!okLs l) = true at h
    rw [Bool.not_eq_true'] at h
    rw [h]
    try simp only [hH, stdH, decide_eq_true_eq, decide_eq_false_iff_not, Bool.not_eq_true', Bool.not_eq_false', peta, ncast, Int.ofNat_eq_natCast, beq_iff_eq, bne_iff_ne, beq_eq_false_iff_ne, bne_eq_false_iff_eq, ne_eq, Classical.not_not, Int.toNat_natCast, vrow_I, Arm.eta2, Fld.eta, Grp.eta]
    exact ⟨trivial, rfl⟩
  · simp only [hH, stdH, Int.toNat_natCast] at h
    simp only [Tl_A] at h
    change (!okLs l) = false at h
    rw [Bool.not_eq_false'] at h
    rw [h]
    simp only [if_true]
    refine loop_aN hB (draw_ok hB mixed) hX hX0 hH false 41 (ι := { i : Nat // i ≤ l.length }) 300 (fun i => [.r (H Nat fun _ => (tbl2 l i.1).length) (rowsL rowsI 1 H fun _ => tbl2 l i.1), .i (H Int fun _ => (i.1 : Nat))]) (fun i => l.length - i.1) (⟨0, by omega⟩) ?_ ?_
    · (conv in matchStN _ _ _ _ _ => cbv); simp only [AllG, AllP, and_true, hH, stdH, ncast, Int.ofNat_eq_natCast, vrow_I, Arm.eta2, Fld.eta, Grp.eta]
      exact ⟨(RowsEq.ofT (okL okI) rfl (Shp_zero _) rfl).fz, rfl, trivial, RowsEq.self okRA, rfl, trivial, RowsEq.self okRA⟩
    · intro I hI i
      conv in Fin.chk _ _ => cbv
      try simp only [Fin.satC_ret, Fin.satC_br, Fin.satC_need, Fin.satC_again, AllP, and_true, true_and, upd, List.length_nil, List.length_cons, Nat.zero_add, if_true, ncast, Int.ofNat_eq_natCast]
      obtain ⟨i, hi⟩ := i
      refine ⟨fun h1 => ⟨?_, ?_⟩, fun h1 => ?_⟩
      · simp only [hH, stdH, decide_eq_true_eq, decide_eq_false_iff_not, Bool.not_eq_true', Bool.not_eq_false', peta, ncast, Int.ofNat_eq_natCast, beq_iff_eq, bne_iff_ne, beq_eq_false_iff_ne, bne_eq_false_iff_eq, ne_eq, Classical.not_not, Int.toNat_natCast, vrow_I, Arm.eta2, Fld.eta, Grp.eta] at h1 ⊢
        omega
      · simp only [hH, stdH, decide_eq_true_eq, decide_eq_false_iff_not, Bool.not_eq_true', Bool.not_eq_false', peta, ncast, Int.ofNat_eq_natCast, beq_iff_eq, bne_iff_ne, beq_eq_false_iff_ne, bne_eq_false_iff_eq, ne_eq, Classical.not_not, Int.toNat_natCast, vrow_I, Arm.eta2, Fld.eta, Grp.eta] at h1
        refine loop_cN hB (draw_ok hB mixed) hX hX0 hH [0, 2, 3, 4, 5, 6, 7, 14, 15, 16, 21, 22, 23] 41 (ι := { k : Nat // k ≤ l.length }) 300 (fun k => [.r (H Nat fun _ => ((l.take k.1).map fun y => dI (l.getD i default) y).length) (rowsI H fun _ => (l.take k.1).map fun y => dI (l.getD i default) y), .i (H Int fun _ => (k.1 : Nat))]) (fun k => l.length - k.1) (⟨0, by omega⟩) ?_ ?_
        · (conv in matchStN _ _ _ _ _ => cbv); simp only [AllG, AllP, and_true, hH, stdH, ncast, Int.ofNat_eq_natCast, vrow_I, Arm.eta2, Fld.eta, Grp.eta]
          (repeat' (first | trivial | exact RowsEq.ofT okI rfl (Shp_zero _) rfl | exact RowsFz.self (okL okI) | exact RowsEq.self okRA | rfl | refine And.intro ?_ ?_))
        · intro I2 hI2 k
          conv in Fin.chk _ _ => cbv
          try simp only [Fin.satC_ret, Fin.satC_br, Fin.satC_need, Fin.satC_again, AllP, and_true, true_and, upd, List.length_nil, List.length_cons, Nat.zero_add, if_true, ncast, Int.ofNat_eq_natCast]
          obtain ⟨k, hk⟩ := k
          refine ⟨fun h2 => ⟨?_, ?_, ?_⟩, fun h2 => ?_⟩
          · simp only [hH, stdH, decide_eq_true_eq, decide_eq_false_iff_not, Bool.not_eq_true', Bool.not_eq_false', peta, ncast, Int.ofNat_eq_natCast, beq_iff_eq, bne_iff_ne, beq_eq_false_iff_ne, bne_eq_false_iff_eq, ne_eq, Classical.not_not, Int.toNat_natCast, vrow_I, Arm.eta2, Fld.eta, Grp.eta] at h2 ⊢
            omega
          · try simp only [hH, stdH, decide_eq_true_eq, decide_eq_false_iff_not, Bool.not_eq_true', Bool.not_eq_false', peta, ncast, Int.ofNat_eq_natCast, beq_iff_eq, bne_iff_ne, beq_eq_false_iff_ne, bne_eq_false_iff_eq, ne_eq, Classical.not_not, Int.toNat_natCast, vrow_I, Arm.eta2, Fld.eta, Grp.eta]
            simp only [List.length_map, List.length_take]
            exact ⟨trivial, by omega, by omega⟩
          · simp only [hH, stdH, decide_eq_true_eq, decide_eq_false_iff_not, Bool.not_eq_true', Bool.not_eq_false', peta, ncast, Int.ofNat_eq_natCast, beq_iff_eq, bne_iff_ne, beq_eq_false_iff_ne, bne_eq_false_iff_eq, ne_eq, Classical.not_not, Int.toNat_natCast, vrow_I, Arm.eta2, Fld.eta, Grp.eta] at h2
            have e8 : (l.take (k + 1)).map (fun y => dI (l.getD i default) y) = (l.take k).map (fun y => dI (l.getD i default) y) ++ [dI (l.getD i default) (l.getD k default)] := by
              rw [List.take_succ_eq_append_getElem (show k < l.length by omega), List.map_append, List.getD_eq_getElem?_getD (l := l) (i := k), List.getElem?_eq_getElem (show k < l.length by omega)]
              rfl
            refine ⟨⟨k + 1, by omega⟩, by simp only; omega, ?_⟩
            rw [hI2]
            (conv in matchStN _ _ _ _ _ => cbv); simp only [AllG, AllP, and_true, hH, stdH, ncast, Int.ofNat_eq_natCast, vrow_I, Arm.eta2, Fld.eta, Grp.eta]
            rw [w1 (by omega), e8]
            simp only [Int.toNat_natCast]
            (repeat' (first | trivial | exact RowsEq.more okI (Shp_I _ _) (Tl_I _) | exact RowsFz.self (okL okI) | exact RowsEq.self okRA | exact List.length_append | rfl | refine And.intro ?_ ?_))
          · simp only [hH, stdH, decide_eq_true_eq, decide_eq_false_iff_not, Bool.not_eq_true', Bool.not_eq_false', peta, ncast, Int.ofNat_eq_natCast, beq_iff_eq, bne_iff_ne, beq_eq_false_iff_ne, bne_eq_false_iff_eq, ne_eq, Classical.not_not, Int.toNat_natCast, vrow_I, Arm.eta2, Fld.eta, Grp.eta] at h2
            obtain rfl : k = l.length := by omega
            have e7 : tbl2 l (i + 1) = tbl2 l i ++ [l.map fun y => dI (l.getD i default) y] := by
              unfold tbl2
              rw [List.take_succ_eq_append_getElem (show i < l.length by omega), List.map_append, List.getD_eq_getElem?_getD, List.getElem?_eq_getElem (show i < l.length by omega)]
              rfl
            have tl : (tbl2 l i).length ≤ 100 := by unfold tbl2; rw [List.length_map, List.length_take]; omega
            refine ⟨?_, ?_⟩
            · try simp only [hH, stdH, decide_eq_true_eq, decide_eq_false_iff_not, Bool.not_eq_true', Bool.not_eq_false', peta, ncast, Int.ofNat_eq_natCast, beq_iff_eq, bne_iff_ne, beq_eq_false_iff_ne, bne_eq_false_iff_eq, ne_eq, Classical.not_not, Int.toNat_natCast, vrow_I, Arm.eta2, Fld.eta, Grp.eta]
              exact ⟨trivial, by omega, by omega⟩
            · rw [if_neg (by decide)]
              refine ⟨⟨i + 1, by omega⟩, by simp only; omega, ?_⟩
              rw [hI]
              (conv in matchStN _ _ _ _ _ => cbv); simp only [AllG, AllP, and_true, hH, stdH, ncast, Int.ofNat_eq_natCast, vrow_I, Arm.eta2, Fld.eta, Grp.eta]
              rw [w1 (by omega), e7]
              simp only [List.take_length]
              (repeat' (first | trivial | exact RowsFz.snoc (okL okI) rfl (.cons (CellFz.own okI rfl (RowsEq.self okI)) .nil) | exact RowsEq.self okRA | exact List.length_append | rfl | refine And.intro ?_ ?_))
      · simp only [hH, stdH, decide_eq_true_eq, decide_eq_false_iff_not, Bool.not_eq_true', Bool.not_eq_false', peta, ncast, Int.ofNat_eq_natCast, beq_iff_eq, bne_iff_ne, beq_eq_false_iff_ne, bne_eq_false_iff_eq, ne_eq, Classical.not_not, Int.toNat_natCast, vrow_I, Arm.eta2, Fld.eta, Grp.eta] at h1
        obtain rfl : i = l.length := by omega
        have e9 : tbl2 l l.length = tbl l := by unfold tbl2 tbl; rw [List.take_length]
        rw [e9]
        try simp only [hH, stdH, decide_eq_true_eq, decide_eq_false_iff_not, Bool.not_eq_true', Bool.not_eq_false', peta, ncast, Int.ofNat_eq_natCast, beq_iff_eq, bne_iff_ne, beq_eq_false_iff_ne, bne_eq_false_iff_eq, ne_eq, Classical.not_not, Int.toNat_natCast, vrow_I, Arm.eta2, Fld.eta, Grp.eta]
        exact ⟨trivial, RowsFz.self (okL okI)⟩
noncomputable def e_tblH : Entry := pureE 10 fun H a => match a with
  | [.vec 15 ln lf] => some (.tup [.vec 1 (H Nat fun _ => (if okLs (Tl rowA ln lf) then tbl (Tl rowA ln lf) else []).length) (rowsL rowsI 1 H fun _ => if okLs (Tl rowA ln lf) then tbl (Tl rowA ln lf) else []), .lit (.bool (H Bool fun _ => okLs (Tl rowA ln lf)))], [H Prop fun _ => Shp rowA ln lf, H Prop fun _ => (Tl rowA ln lf).length ≤ 100])
  | _ => none
theorem eok_tblH : EntryOk Try.prog e_tblH := pureM_ok (by unfold isBody; kernel_rfl) (by
  intro a r ob e hob
  split at e
  · rename_i ln lf
    simp only [Option.some.injEq, Prod.mk.injEq] at e
    obtain ⟨rfl, rfl⟩ := e
    exact ConN.args (.cons (.toT okRA rfl hob.1) .nil) (c_tblH (Tl rowA ln lf) hob.2.1)
  · simp at e)
theorem c_tblS (l : List Arm) (h0 : l.length ≤ 100) : ConN Try.prog 11 [.vec 15 (stdH Nat fun _ => (l).length) (rowsA stdH fun _ => l)] [] 0 (.tup [.vec 1 (stdH Nat fun _ => (if okLs l then tbl l else []).length) (rowsL rowsI 1 stdH fun _ => if okLs l then tbl l else []), .lit (.bool (stdH Bool fun _ => okLs l))]) [] [] := by
  have hB : Base Try.prog (tabΓ [e_l15List, e_l15Count]) tabO := base_of tabOkO (ents_cons eok_l15List <| ents_cons eok_l15Count <| ents_nil)
  refine con_mN 41 (N := 43) hB (draw_ok hB mixed) Try.func11 rfl rfl (fun H => [.vec 15 (H Nat fun _ => (l).length) (rowsA H fun _ => l)]) (fun _ => []) 0 (fun H => .tup [.vec 1 (H Nat fun _ => (if okLs l then tbl l else []).length) (rowsL rowsI 1 H fun _ => if okLs l then tbl l else []), .lit (.bool (H Bool fun _ => okLs l))]) (fun H => []) (fun _ => []) 300 (by simp) (fun x hx => ?_) (by simp [lk]) (by omega) (by simp) ?_
  · simp only [List.mem_cons, List.not_mem_nil, or_false] at hx
    rcases hx with rfl
    · exact vl_bl okRA l _
  intro X hX hX0 H hH
  conv in Fin.chk _ _ => cbv
  try simp only [Fin.satC_ret, Fin.satC_br, Fin.satC_need, Fin.satC_again, AllP, and_true, true_and, upd, List.length_nil, List.length_cons, Nat.zero_add, if_true, ncast, Int.ofNat_eq_natCast]
  refine ⟨⟨?_, ?_⟩, fun h => ?_, fun h => ?_⟩
  · try simp only [hH, stdH, decide_eq_true_eq, decide_eq_false_iff_not, Bool.not_eq_true', Bool.not_eq_false', peta, ncast, Int.ofNat_eq_natCast, beq_iff_eq, bne_iff_ne, beq_eq_false_iff_ne, bne_eq_false_iff_eq, ne_eq, Classical.not_not, Int.toNat_natCast, vrow_I, Arm.eta2, Fld.eta, Grp.eta]
    exact Shp_A _ _
  · try simp only [hH, stdH, decide_eq_true_eq, decide_eq_false_iff_not, Bool.not_eq_true', Bool.not_eq_false', peta, ncast, Int.ofNat_eq_natCast, beq_iff_eq, bne_iff_ne, beq_eq_false_iff_ne, bne_eq_false_iff_eq, ne_eq, Classical.not_not, Int.toNat_natCast, vrow_I, Arm.eta2, Fld.eta, Grp.eta]
    simp only [Tl_A]; omega
  · simp only [hH, stdH, Int.toNat_natCast] at h
    simp only [Tl_A] at h
    rw [Bool.not_eq_true'] at h
    rw [h]
    try simp only [hH, stdH, decide_eq_true_eq, decide_eq_false_iff_not, Bool.not_eq_true', Bool.not_eq_false', peta, ncast, Int.ofNat_eq_natCast, beq_iff_eq, bne_iff_ne, beq_eq_false_iff_ne, bne_eq_false_iff_eq, ne_eq, Classical.not_not, Int.toNat_natCast, vrow_I, Arm.eta2, Fld.eta, Grp.eta]
    exact ⟨trivial, (RowsEq.ofT (okL okI) rfl (Shp_zero _) rfl).fz⟩
  · simp only [hH, stdH, Int.toNat_natCast] at h
    simp only [Tl_A] at h
    rw [Bool.not_eq_false'] at h
    rw [h]
    simp only [if_true]
    have et : ∀ i, i < l.length → (l.map fun y => dS (l.getD i default) y) = l.map fun y => dI (l.getD i default) y := fun i hi => List.map_congr_left fun y hy => (dI_dS (okLs_at h hi) ((okLs_in h).2 y hy)).symm
    refine loop_aN hB (draw_ok hB mixed) hX hX0 hH false 41 (ι := { i : Nat // i ≤ l.length }) 300 (fun i => [.r (H Nat fun _ => (tbl2 l i.1).length) (rowsL rowsI 1 H fun _ => tbl2 l i.1), .i (H Int fun _ => (i.1 : Nat))]) (fun i => l.length - i.1) (⟨0, by omega⟩) ?_ ?_
    · (conv in matchStN _ _ _ _ _ => cbv); simp only [AllG, AllP, and_true, hH, stdH, ncast, Int.ofNat_eq_natCast, vrow_I, Arm.eta2, Fld.eta, Grp.eta]
      (repeat' (first | trivial | exact (RowsEq.ofT (okL okI) rfl (Shp_zero _) rfl).fz | exact RowsEq.self okRA | rfl | refine And.intro ?_ ?_))
    · intro I hI i
      conv in Fin.chk _ _ => cbv
      try simp only [Fin.satC_ret, Fin.satC_br, Fin.satC_need, Fin.satC_again, AllP, and_true, true_and, upd, List.length_nil, List.length_cons, Nat.zero_add, if_true, ncast, Int.ofNat_eq_natCast]
      obtain ⟨i, hi⟩ := i
      refine ⟨fun h1 => ?_, fun h1 => ?_⟩
      · simp only [hH, stdH, decide_eq_true_eq, decide_eq_false_iff_not, Bool.not_eq_true', Bool.not_eq_false', peta, ncast, Int.ofNat_eq_natCast, beq_iff_eq, bne_iff_ne, beq_eq_false_iff_ne, bne_eq_false_iff_eq, ne_eq, Classical.not_not, Int.toNat_natCast, vrow_I, Arm.eta2, Fld.eta, Grp.eta] at h1
        refine loop_cN hB (draw_ok hB mixed) hX hX0 hH [0, 2, 3, 4, 5, 6, 7] 41 (ι := { k : Nat // k ≤ l.length }) 300 (fun k => [.r (H Nat fun _ => ((l.take k.1).map fun y => dS (l.getD i default) y).length) (rowsI H fun _ => (l.take k.1).map fun y => dS (l.getD i default) y), .i (H Int fun _ => (k.1 : Nat))]) (fun k => l.length - k.1) (⟨0, by omega⟩) ?_ ?_
        · (conv in matchStN _ _ _ _ _ => cbv); simp only [AllG, AllP, and_true, hH, stdH, ncast, Int.ofNat_eq_natCast, vrow_I, Arm.eta2, Fld.eta, Grp.eta]
          (repeat' (first | trivial | exact RowsEq.ofT okI rfl (Shp_zero _) rfl | exact RowsFz.self (okL okI) | exact RowsEq.self okRA | rfl | refine And.intro ?_ ?_))
        · intro I2 hI2 k
          conv in Fin.chk _ _ => cbv
          try simp only [Fin.satC_ret, Fin.satC_br, Fin.satC_need, Fin.satC_again, AllP, and_true, true_and, upd, List.length_nil, List.length_cons, Nat.zero_add, if_true, ncast, Int.ofNat_eq_natCast]
          obtain ⟨k, hk⟩ := k
          refine ⟨fun h2 => ⟨?_, ?_, ?_, ?_⟩, fun h2 => ?_⟩
          · try simp only [hH, stdH, decide_eq_true_eq, decide_eq_false_iff_not, Bool.not_eq_true', Bool.not_eq_false', peta, ncast, Int.ofNat_eq_natCast, beq_iff_eq, bne_iff_ne, beq_eq_false_iff_ne, bne_eq_false_iff_eq, ne_eq, Classical.not_not, Int.toNat_natCast, vrow_I, Arm.eta2, Fld.eta, Grp.eta]
            omega
          · simp only [hH, stdH, decide_eq_true_eq, decide_eq_false_iff_not, Bool.not_eq_true', Bool.not_eq_false', peta, ncast, Int.ofNat_eq_natCast, beq_iff_eq, bne_iff_ne, beq_eq_false_iff_ne, bne_eq_false_iff_eq, ne_eq, Classical.not_not, Int.toNat_natCast, vrow_I, Arm.eta2, Fld.eta, Grp.eta] at h2 ⊢
            omega
          · try simp only [hH, stdH, decide_eq_true_eq, decide_eq_false_iff_not, Bool.not_eq_true', Bool.not_eq_false', peta, ncast, Int.ofNat_eq_natCast, beq_iff_eq, bne_iff_ne, beq_eq_false_iff_ne, bne_eq_false_iff_eq, ne_eq, Classical.not_not, Int.toNat_natCast, vrow_I, Arm.eta2, Fld.eta, Grp.eta]
            simp only [List.length_map, List.length_take]
            exact ⟨trivial, by omega, by omega⟩
          · simp only [hH, stdH, decide_eq_true_eq, decide_eq_false_iff_not, Bool.not_eq_true', Bool.not_eq_false', peta, ncast, Int.ofNat_eq_natCast, beq_iff_eq, bne_iff_ne, beq_eq_false_iff_ne, bne_eq_false_iff_eq, ne_eq, Classical.not_not, Int.toNat_natCast, vrow_I, Arm.eta2, Fld.eta, Grp.eta] at h2
            have e8 : (l.take (k + 1)).map (fun y => dS (l.getD i default) y) = (l.take k).map (fun y => dS (l.getD i default) y) ++ [dS (l.getD i default) (l.getD k default)] := by
              rw [List.take_succ_eq_append_getElem (show k < l.length by omega), List.map_append, List.getD_eq_getElem?_getD (l := l) (i := k), List.getElem?_eq_getElem (show k < l.length by omega)]
              rfl
            refine ⟨⟨k + 1, by omega⟩, by simp only; omega, ?_⟩
            rw [hI2]
            (conv in matchStN _ _ _ _ _ => cbv); simp only [AllG, AllP, and_true, hH, stdH, ncast, Int.ofNat_eq_natCast, vrow_I, Arm.eta2, Fld.eta, Grp.eta]
            rw [w1 (by omega), e8]
            simp only [Int.toNat_natCast]
            (repeat' (first | trivial | exact RowsEq.more okI (Shp_I _ _) (Tl_I _) | exact RowsFz.self (okL okI) | exact RowsEq.self okRA | exact List.length_append | rfl | refine And.intro ?_ ?_))
          · simp only [hH, stdH, decide_eq_true_eq, decide_eq_false_iff_not, Bool.not_eq_true', Bool.not_eq_false', peta, ncast, Int.ofNat_eq_natCast, beq_iff_eq, bne_iff_ne, beq_eq_false_iff_ne, bne_eq_false_iff_eq, ne_eq, Classical.not_not, Int.toNat_natCast, vrow_I, Arm.eta2, Fld.eta, Grp.eta] at h2
            obtain rfl : k = l.length := by omega
            have e7 : tbl2 l (i + 1) = tbl2 l i ++ [l.map fun y => dS (l.getD i default) y] := by
              rw [et i (by omega)]
              unfold tbl2
              rw [List.take_succ_eq_append_getElem (show i < l.length by omega), List.map_append, List.getD_eq_getElem?_getD, List.getElem?_eq_getElem (show i < l.length by omega)]
              rfl
            have tl : (tbl2 l i).length ≤ 100 := by unfold tbl2; rw [List.length_map, List.length_take]; omega
            refine ⟨?_, ?_⟩
            · try simp only [hH, stdH, decide_eq_true_eq, decide_eq_false_iff_not, Bool.not_eq_true', Bool.not_eq_false', peta, ncast, Int.ofNat_eq_natCast, beq_iff_eq, bne_iff_ne, beq_eq_false_iff_ne, bne_eq_false_iff_eq, ne_eq, Classical.not_not, Int.toNat_natCast, vrow_I, Arm.eta2, Fld.eta, Grp.eta]
              exact ⟨trivial, by omega, by omega⟩
            · rw [if_neg (by decide)]
              refine ⟨⟨i + 1, by omega⟩, by simp only; omega, ?_⟩
              rw [hI]
              (conv in matchStN _ _ _ _ _ => cbv); simp only [AllG, AllP, and_true, hH, stdH, ncast, Int.ofNat_eq_natCast, vrow_I, Arm.eta2, Fld.eta, Grp.eta]
              rw [w1 (by omega), e7]
              simp only [List.take_length]
              (repeat' (first | trivial | exact RowsFz.snoc (okL okI) rfl (.cons (CellFz.own okI rfl (RowsEq.self okI)) .nil) | exact RowsEq.self okRA | exact List.length_append | rfl | refine And.intro ?_ ?_))
      · simp only [hH, stdH, decide_eq_true_eq, decide_eq_false_iff_not, Bool.not_eq_true', Bool.not_eq_false', peta, ncast, Int.ofNat_eq_natCast, beq_iff_eq, bne_iff_ne, beq_eq_false_iff_ne, bne_eq_false_iff_eq, ne_eq, Classical.not_not, Int.toNat_natCast, vrow_I, Arm.eta2, Fld.eta, Grp.eta] at h1
        obtain rfl : i = l.length := by omega
        have e9 : tbl2 l l.length = tbl l := by unfold tbl2 tbl; rw [List.take_length]
        rw [e9]
        try simp only [hH, stdH, decide_eq_true_eq, decide_eq_false_iff_not, Bool.not_eq_true', Bool.not_eq_false', peta, ncast, Int.ofNat_eq_natCast, beq_iff_eq, bne_iff_ne, beq_eq_false_iff_ne, bne_eq_false_iff_eq, ne_eq, Classical.not_not, Int.toNat_natCast, vrow_I, Arm.eta2, Fld.eta, Grp.eta]
        exact ⟨trivial, RowsFz.self (okL okI)⟩
noncomputable def e_tblS : Entry := pureE 11 fun H a => match a with
  | [.vec 15 ln lf] => some (.tup [.vec 1 (H Nat fun _ => (if okLs (Tl rowA ln lf) then tbl (Tl rowA ln lf) else []).length) (rowsL rowsI 1 H fun _ => if okLs (Tl rowA ln lf) then tbl (Tl rowA ln lf) else []), .lit (.bool (H Bool fun _ => okLs (Tl rowA ln lf)))], [H Prop fun _ => Shp rowA ln lf, H Prop fun _ => (Tl rowA ln lf).length ≤ 100])
  | _ => none
theorem eok_tblS : EntryOk Try.prog e_tblS := pureM_ok (by unfold isBody; kernel_rfl) (by
  intro a r ob e hob
  split at e
  · rename_i ln lf
    simp only [Option.some.injEq, Prod.mk.injEq] at e
    obtain ⟨rfl, rfl⟩ := e
    exact ConN.args (.cons (.toT okRA rfl hob.1) .nil) (c_tblS (Tl rowA ln lf) hob.2.1)
  · simp at e)

end Go.Proofs.Ythilcnfnbgbkdaa.AM
