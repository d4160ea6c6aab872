/- Lemmas and contracts (Fbi); conditions: none. -/
import Derived.Test.YtcjjffmbhionmaaGreatDoorK03
import Derived.Test.YtcjjffmbhionmaaGreatDoorK05
import Derived.Test.YtcjjffmbhionmaaGreatDoorK37
set_option linter.unusedVariables false
set_option linter.unusedSimpArgs false
set_option maxRecDepth 100000
set_option maxHeartbeats 4000000
set_option cbv.maxSteps 3000000
namespace Go.Proofs.YtcjjffmbhionmaaGreatDoor.AM
/- The index of a register; conditions: none. -/
structure Ixl where
  ft : ByteArray
  ns : List Int
deriving Inhabited
def rowsX (H : Hold) (L : Unit → List Ixl) (j : Nat) : List AV := [.lit (.string (H ByteArray fun _ => ((L ()).getD j default).ft)), .vec 1 (H Nat fun _ => (((L ()).getD j default).ns).length) (rowsI H fun _ => ((L ()).getD j default).ns)]
def rowX : RowD Ixl := ⟨2, default, fun H x => [.lit (.string (H ByteArray fun _ => (x ()).ft)), .vec 1 (H Nat fun _ => ((x ()).ns).length) (rowsI H fun _ => (x ()).ns)], fun l => match l with
  | [.lit (.string x0), .vec _ x1n x1f] => ⟨x0, (Tl rowI x1n x1f)⟩
  | _ => default, rowsX⟩
theorem okRX : RowOk rowX := ⟨fun _ => rfl, fun x c hc => by simp only [rowX, List.mem_cons, List.not_mem_nil, or_false] at hc; rcases hc with rfl | rfl <;> (first | exact .lit | exact vT_bl okI (fun _ => (x ()).ns) 0), fun x => (by show (⟨x.ft, Tl rowI (x.ns).length (rowsT rowI stdH fun _ => x.ns)⟩ : Ixl) = x; rw [Tl_rowsT okI]), fun _ _ => rfl⟩
theorem Ixl.eta (a : Ixl) : (⟨a.ft, a.ns⟩ : Ixl) = a := rfl
def ixG (l : List Grt) (s : ByteArray) : Ixl := ⟨s, nmb (biE s) l l.length⟩
def bxL (l : List Grt) (i : Nat) : List Ixl := ((allF.take i).map (ixG l)).filter fun x => decide (0 < x.ns.length)
theorem bxL_y {l : List Grt} {i : Nat} (h : i < allF.length) (hp : 0 < (nmb (biE (allF.getD i ByteArray.empty)) l l.length).length) : bxL l (i + 1) = bxL l i ++ [ixG l (allF.getD i ByteArray.empty)] := by
  unfold bxL
  rw [List.take_succ_eq_append_getElem h, List.map_append, List.filter_append, List.map_cons, List.map_nil]
  rw [List.getD_eq_getElem?_getD, List.getElem?_eq_getElem h, Option.getD_some] at hp ⊢
  congr 1
  exact List.filter_cons_of_pos (decide_eq_true hp)
theorem bxL_n {l : List Grt} {i : Nat} (h : i < allF.length) (hp : ¬ 0 < (nmb (biE (allF.getD i ByteArray.empty)) l l.length).length) : bxL l (i + 1) = bxL l i := by
  unfold bxL
  rw [List.take_succ_eq_append_getElem h, List.map_append, List.filter_append, List.map_cons, List.map_nil]
  rw [List.getD_eq_getElem?_getD, List.getElem?_eq_getElem h, Option.getD_some] at hp
  have e : List.filter (fun x : Ixl => decide (0 < x.ns.length)) [ixG l allF[i]] = [] := List.filter_cons_of_neg (fun q => hp (of_decide_eq_true q))
  rw [e, List.append_nil]
theorem bxL_len (l : List Grt) (i : Nat) : (bxL l i).length ≤ 78 := by
  have := allF_len
  unfold bxL
  exact Nat.le_trans (List.length_filter_le _ _) (by rw [List.length_map, List.length_take]; omega)
theorem c_buildI (r : Rgr) (h0 : r.gs.length ≤ 2000000) (h1 : Nsz r.gs) : ConN Tryz.prog 7 [aT rowJ stdH fun _ => r] [] 0 (.tup [.vec 2 (stdH Nat fun _ => (if okRg r.gs then bxL r.gs allF.length else []).length) (rowsX stdH fun _ => if okRg r.gs then bxL r.gs allF.length else []), .lit (.bool (stdH Bool fun _ => okRg r.gs))]) [] [] := by
  have hB : Base Tryz.prog (tabΓ [e_validR, e_allFeat, e_numI]) tabO := base_of tabOkO (ents_cons eok_validR <| ents_cons eok_allFeat <| ents_cons eok_numI <| ents_nil)
  refine con_mN 35 (N := 32) hB (draw_ok hB mixed) Tryz.func7 rfl rfl (fun H => [aT rowJ H fun _ => r]) (fun _ => []) 0 (fun H => .tup [.vec 2 (H Nat fun _ => (if okRg r.gs then bxL r.gs allF.length else []).length) (rowsX H fun _ => if okRg r.gs then bxL r.gs allF.length else []), .lit (.bool (H Bool fun _ => okRg r.gs))]) (fun H => []) (fun _ => []) 300 (by simp) (fun x hx => ?_) (by simp [lk]) (by omega) (by simp) ?_
  · simp only [List.mem_cons, List.not_mem_nil, or_false] at hx
    rcases hx with rfl
    · exact aT_bl okRJ _ _
  intro X hX hX0 H hH
  conv in Fin.chk _ _ => cbv
  try simp only [Plain_rowsA, Plain_rowsB, Plain_rowsC, Plain_rowsF, Plain_rowsG, Plain_rowsI, Plain_rowsS, Plain_rowsU, Plain_rowsW, Fin.satC_ret, Fin.satC_br, Fin.satC_need, Fin.satC_again, AllP, and_true, true_and, upd, List.length_nil, List.length_cons, Nat.zero_add, if_true, ncast, Int.ofNat_eq_natCast]
  simp only [TlW_H hH]
  refine ⟨?_, fun h => ?_, fun h => ?_⟩
  · try simp only [hH, stdH, Nat.le_refl, decide_eq_true_eq, decide_eq_false_iff_not, Bool.not_eq_true', Bool.not_eq_false', peta, ncast, Int.ofNat_eq_natCast, beq_iff_eq, bne_iff_ne, beq_eq_false_iff_ne, bne_eq_false_iff_eq, ne_eq, Classical.not_not, Int.toNat_natCast, vrow_I, Arm.eta2, Fld.eta, Grp.eta]
    exact ⟨Shp_W _ _, h0, h1⟩
  · have hR : okRg r.gs = false := by
      simp only [hH, stdH, Bool.not_eq_true'] at h
      exact h
    try simp only [hH, stdH, Nat.le_refl, decide_eq_true_eq, decide_eq_false_iff_not, Bool.not_eq_true', Bool.not_eq_false', peta, ncast, Int.ofNat_eq_natCast, beq_iff_eq, bne_iff_ne, beq_eq_false_iff_ne, bne_eq_false_iff_eq, ne_eq, Classical.not_not, Int.toNat_natCast, vrow_I, Arm.eta2, Fld.eta, Grp.eta]
    rw [hR]
    exact ⟨rfl, rfl⟩
  · have hR : okRg r.gs = true := by
      simp only [hH, stdH, Bool.not_eq_false'] at h
      exact h
    have hA := okRg_okA hR
    have hl := allF_len
    clear h
    refine loop_cN hB (draw_ok hB mixed) hX hX0 hH [0, 1, 2, 3, 4, 12, 13, 14] 35 (ι := { i : Nat // i ≤ allF.length }) 300 (fun i => [.r (H Nat fun _ => (bxL r.gs i.1).length) (rowsX H fun _ => bxL r.gs i.1), .i (H Int fun _ => (i.1 : Nat))]) (fun i => allF.length - i.1) (⟨0, Nat.zero_le _⟩) ?_ ?_
    · (conv in matchStN _ _ _ _ _ => cbv); simp only [AllG, AllP, and_true, hH, stdH, Nat.le_refl, ncast, Int.ofNat_eq_natCast, vrow_I, Arm.eta2, Fld.eta, Grp.eta]
      (repeat' (with_reducible refine And.intro ?_ ?_)) <;> (first | exact True.intro | exact Eq.refl _ | exact RowsEq.self okRW | exact RowsEq.self okS | exact ⟨rfl, fun j hj => absurd hj (Nat.not_lt_zero j)⟩)
    · intro I hI i
      conv in Fin.chk _ _ => cbv
      try simp only [Plain_rowsA, Plain_rowsB, Plain_rowsC, Plain_rowsF, Plain_rowsG, Plain_rowsI, Plain_rowsS, Plain_rowsU, Plain_rowsW, Fin.satC_ret, Fin.satC_br, Fin.satC_need, Fin.satC_again, AllP, and_true, true_and, upd, List.length_nil, List.length_cons, Nat.zero_add, if_true, ncast, Int.ofNat_eq_natCast]
      obtain ⟨i, hi⟩ := i
      have hb := bxL_len r.gs i
      simp only [TlW_H hH]
      refine ⟨fun h2 => ⟨?_, ⟨?_, ?_, ?_, ?_⟩, fun h3 => ⟨⟨?_, ?_⟩, ?_⟩, fun h3 => ?_⟩, fun h2 => ⟨?_, ?_⟩⟩
      · simp only [hH, stdH, Nat.le_refl, decide_eq_true_eq, decide_eq_false_iff_not, Bool.not_eq_true', Bool.not_eq_false', peta, ncast, Int.ofNat_eq_natCast, beq_iff_eq, bne_iff_ne, beq_eq_false_iff_ne, bne_eq_false_iff_eq, ne_eq, Classical.not_not, Int.toNat_natCast, vrow_I, Arm.eta2, Fld.eta, Grp.eta] at h2 ⊢
        omega
      · try simp only [hH, stdH, Nat.le_refl, decide_eq_true_eq, decide_eq_false_iff_not, Bool.not_eq_true', Bool.not_eq_false', peta, ncast, Int.ofNat_eq_natCast, beq_iff_eq, bne_iff_ne, beq_eq_false_iff_ne, bne_eq_false_iff_eq, ne_eq, Classical.not_not, Int.toNat_natCast, vrow_I, Arm.eta2, Fld.eta, Grp.eta]
        exact Shp_W _ _
      · try simp only [hH, stdH, Nat.le_refl, decide_eq_true_eq, decide_eq_false_iff_not, Bool.not_eq_true', Bool.not_eq_false', peta, ncast, Int.ofNat_eq_natCast, beq_iff_eq, bne_iff_ne, beq_eq_false_iff_ne, bne_eq_false_iff_eq, ne_eq, Classical.not_not, Int.toNat_natCast, vrow_I, Arm.eta2, Fld.eta, Grp.eta]
        omega
      · try simp only [hH, stdH, Nat.le_refl, decide_eq_true_eq, decide_eq_false_iff_not, Bool.not_eq_true', Bool.not_eq_false', peta, ncast, Int.ofNat_eq_natCast, beq_iff_eq, bne_iff_ne, beq_eq_false_iff_ne, bne_eq_false_iff_eq, ne_eq, Classical.not_not, Int.toNat_natCast, vrow_I, Arm.eta2, Fld.eta, Grp.eta]
        exact hA
      · try simp only [hH, stdH, Nat.le_refl, decide_eq_true_eq, decide_eq_false_iff_not, Bool.not_eq_true', Bool.not_eq_false', peta, ncast, Int.ofNat_eq_natCast, beq_iff_eq, bne_iff_ne, beq_eq_false_iff_ne, bne_eq_false_iff_eq, ne_eq, Classical.not_not, Int.toNat_natCast, vrow_I, Arm.eta2, Fld.eta, Grp.eta]
      · try simp only [hH, stdH, Nat.le_refl, decide_eq_true_eq, decide_eq_false_iff_not, Bool.not_eq_true', Bool.not_eq_false', peta, ncast, Int.ofNat_eq_natCast, beq_iff_eq, bne_iff_ne, beq_eq_false_iff_ne, bne_eq_false_iff_eq, ne_eq, Classical.not_not, Int.toNat_natCast, vrow_I, Arm.eta2, Fld.eta, Grp.eta]
      · try simp only [hH, stdH, Nat.le_refl, decide_eq_true_eq, decide_eq_false_iff_not, Bool.not_eq_true', Bool.not_eq_false', peta, ncast, Int.ofNat_eq_natCast, beq_iff_eq, bne_iff_ne, beq_eq_false_iff_ne, bne_eq_false_iff_eq, ne_eq, Classical.not_not, Int.toNat_natCast, vrow_I, Arm.eta2, Fld.eta, Grp.eta]
        omega
      · simp only [hH, stdH, Nat.le_refl, decide_eq_true_eq, decide_eq_false_iff_not, Bool.not_eq_true', Bool.not_eq_false', peta, ncast, Int.ofNat_eq_natCast, beq_iff_eq, bne_iff_ne, beq_eq_false_iff_ne, bne_eq_false_iff_eq, ne_eq, Classical.not_not, Int.toNat_natCast, vrow_I, Arm.eta2, Fld.eta, Grp.eta] at h2
        simp only [hH, stdH, Int.toNat_natCast, decide_eq_true_eq] at h3
        refine ⟨⟨i + 1, by omega⟩, by simp only; omega, ?_⟩
        rw [hI]
        (conv in matchStN _ _ _ _ _ => cbv); simp only [AllG, AllP, and_true, hH, stdH, Nat.le_refl, ncast, Int.ofNat_eq_natCast, vrow_I, Arm.eta2, Fld.eta, Grp.eta]
        simp only [Int.toNat_natCast]
        rw [w1 (by omega), bxL_y (by omega) (by omega)]
        (repeat' (with_reducible refine And.intro ?_ ?_)) <;> (first | exact True.intro | exact Eq.refl _ | exact RowsEq.self okRW | exact RowsEq.self okS | exact RowsFz.snoc okRX rfl (.cons (.same .lit) (.cons (CellFz.own okI rfl (RowsEq.self okI)) .nil)) | exact List.length_append)
      · simp only [hH, stdH, Nat.le_refl, decide_eq_true_eq, decide_eq_false_iff_not, Bool.not_eq_true', Bool.not_eq_false', peta, ncast, Int.ofNat_eq_natCast, beq_iff_eq, bne_iff_ne, beq_eq_false_iff_ne, bne_eq_false_iff_eq, ne_eq, Classical.not_not, Int.toNat_natCast, vrow_I, Arm.eta2, Fld.eta, Grp.eta] at h2
        simp only [hH, stdH, Int.toNat_natCast, decide_eq_false_iff_not] at h3
        refine ⟨⟨i + 1, by omega⟩, by simp only; omega, ?_⟩
        rw [hI]
        (conv in matchStN _ _ _ _ _ => cbv); simp only [AllG, AllP, and_true, hH, stdH, Nat.le_refl, ncast, Int.ofNat_eq_natCast, vrow_I, Arm.eta2, Fld.eta, Grp.eta]
        rw [w1 (by omega), bxL_n (by omega) (by omega)]
        (repeat' (with_reducible refine And.intro ?_ ?_)) <;> (first | exact True.intro | exact Eq.refl _ | exact RowsEq.self okRW | exact RowsEq.self okS | exact RowsFz.self okRX)
      · try simp only [hH, stdH, Nat.le_refl, decide_eq_true_eq, decide_eq_false_iff_not, Bool.not_eq_true', Bool.not_eq_false', peta, ncast, Int.ofNat_eq_natCast, beq_iff_eq, bne_iff_ne, beq_eq_false_iff_ne, bne_eq_false_iff_eq, ne_eq, Classical.not_not, Int.toNat_natCast, vrow_I, Arm.eta2, Fld.eta, Grp.eta]
        exact hR
      · simp only [hH, stdH, Nat.le_refl, decide_eq_true_eq, decide_eq_false_iff_not, Bool.not_eq_true', Bool.not_eq_false', peta, ncast, Int.ofNat_eq_natCast, beq_iff_eq, bne_iff_ne, beq_eq_false_iff_ne, bne_eq_false_iff_eq, ne_eq, Classical.not_not, Int.toNat_natCast, vrow_I, Arm.eta2, Fld.eta, Grp.eta] at h2
        obtain rfl : i = allF.length := by omega
        try simp only [hH, stdH, Nat.le_refl, decide_eq_true_eq, decide_eq_false_iff_not, Bool.not_eq_true', Bool.not_eq_false', peta, ncast, Int.ofNat_eq_natCast, beq_iff_eq, bne_iff_ne, beq_eq_false_iff_ne, bne_eq_false_iff_eq, ne_eq, Classical.not_not, Int.toNat_natCast, vrow_I, Arm.eta2, Fld.eta, Grp.eta]
        rw [if_pos hR]
        exact RowsFz.self okRX
noncomputable def e_buildI : Entry := pureE 7 fun H a => match a with
  | [.agg [.vec 18 r0n r0f]] => some (.tup [.vec 2 (H Nat fun _ => (if okRg (⟨(Tl rowW r0n r0f)⟩ : Rgr).gs then bxL (⟨(Tl rowW r0n r0f)⟩ : Rgr).gs allF.length else []).length) (rowsX H fun _ => if okRg (⟨(Tl rowW r0n r0f)⟩ : Rgr).gs then bxL (⟨(Tl rowW r0n r0f)⟩ : Rgr).gs allF.length else []), .lit (.bool (H Bool fun _ => okRg (⟨(Tl rowW r0n r0f)⟩ : Rgr).gs))], [H Prop fun _ => Shp rowW r0n r0f, H Prop fun _ => (⟨(Tl rowW r0n r0f)⟩ : Rgr).gs.length ≤ 2000000, H Prop fun _ => Nsz (⟨(Tl rowW r0n r0f)⟩ : Rgr).gs])
  | _ => none
theorem eok_buildI : EntryOk Tryz.prog e_buildI := pureM_ok (by unfold isBody; kernel_rfl) (by
  intro a r ob e hob
  split at e
  · rename_i r0n r0f
    simp only [Option.some.injEq, Prod.mk.injEq] at e
    obtain ⟨rfl, rfl⟩ := e
    exact ConN.args (.cons (.agg (.cons (.toT okRW rfl hob.1) .nil)) .nil) (c_buildI (⟨(Tl rowW r0n r0f)⟩ : Rgr) hob.2.1 hob.2.2.1)
  · simp at e)

end Go.Proofs.YtcjjffmbhionmaaGreatDoor.AM

