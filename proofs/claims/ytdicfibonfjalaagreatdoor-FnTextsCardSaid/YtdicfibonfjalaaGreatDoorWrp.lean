import Derived.Test.YtdicfibonfjalaaGreatDoorAmT
import Derived.Test.YtdicfibonfjalaaGreatDoorSpl
import Derived.Test.YtdicfibonfjalaaGreatDoorLet
import Derived.Test.YtdicfibonfjalaaGreatDoorNum
set_option linter.unusedVariables false
set_option linter.unusedSimpArgs false
set_option maxRecDepth 100000
set_option maxHeartbeats 4000000
set_option cbv.maxSteps 3000000
namespace Go.Proofs.YtdicfibonfjalaaGreatDoor.AM
/- Texts divided into lines; conditions: none. -/
/-- Lines: those that are done, and the one that is being filled; words still to come. -/
def wrap2 (width : Int) (d : List ByteArray) (n : ByteArray) : List ByteArray → List ByteArray
  | [] => d ++ [n]
  | w :: ws => if (n.size : Int) + 1 + (w.size : Int) ≤ width then wrap2 width d (n ++ (spB ++ w)) ws else wrap2 width (d ++ [n]) w ws
def wrapL (width : Int) : List ByteArray → List ByteArray
  | [] => []
  | w :: ws => wrap2 width [] w ws
def wrapT (s : ByteArray) (width : Int) : List ByteArray := wrapL width (wordsB s)
theorem wrap2_y {width : Int} {d : List ByteArray} {n w : ByteArray} {ws : List ByteArray} (h : (n.size : Int) + 1 + (w.size : Int) ≤ width) : wrap2 width d n (w :: ws) = wrap2 width d (n ++ (spB ++ w)) ws := by
  conv => lhs; unfold wrap2
  rw [if_pos h]
theorem wrap2_n {width : Int} {d : List ByteArray} {n w : ByteArray} {ws : List ByteArray} (h : ¬ (n.size : Int) + 1 + (w.size : Int) ≤ width) : wrap2 width d n (w :: ws) = wrap2 width (d ++ [n]) w ws := by
  conv => lhs; unfold wrap2
  rw [if_neg h]
theorem dropW {s : ByteArray} {i : Nat} (h : i < (wordsB s).length) : (wordsB s).drop i = (wordsB s).getD i ByteArray.empty :: (wordsB s).drop (i + 1) := by
  rw [List.drop_eq_getElem_cons h, List.getD_eq_getElem?_getD, List.getElem?_eq_getElem h]; rfl
theorem words_pos (s : ByteArray) : 0 < (wordsB s).length := by
  unfold wordsB
  rw [List.length_map]
  exact List.length_pos_iff.2 (spl_ne _)
theorem set_last {d : List ByteArray} {n m : ByteArray} : (d ++ [n]).set d.length m = d ++ [m] := by
  rw [List.set_append_right _ _ (Nat.le_refl _), Nat.sub_self]; rfl
theorem getD_last {d : List ByteArray} {n m : ByteArray} : (d ++ [n]).getD d.length m = n := by
  rw [List.getD_eq_getElem?_getD, List.getElem?_append_right (Nat.le_refl _), Nat.sub_self]; rfl
theorem wrapT_0 (s : ByteArray) (width : Int) : wrapT s width = wrap2 width [] ((wordsB s).getD 0 ByteArray.empty) ((wordsB s).drop 1) := by
  have h := dropW (s := s) (i := 0) (words_pos s)
  rw [List.drop_zero] at h
  unfold wrapT
  conv => lhs; rw [h]
  rfl
theorem wrapT_end {s : ByteArray} {width : Int} {d : List ByteArray} {n : ByteArray} (h : wrapT s width = wrap2 width d n ((wordsB s).drop (wordsB s).length)) : wrapT s width = d ++ [n] := by
  rw [h, List.drop_length]; rfl
theorem len_last {d : List ByteArray} {n : ByteArray} (h : d.length ≤ 100000) : IntKind.i64.wrap (((d ++ [n]).length : Nat) - 1 : Int) = (d.length : Nat) := by
  rw [List.length_append, List.length_singleton, wi (by omega) (by omega)]; omega
theorem c_wrapped (s : ByteArray) (width : Int) (h0 : s.size ≤ 5000) (h1 : 0 ≤ width ∧ width ≤ 1000) : ConN Tryz.prog 36 [.lit (.string s), .lit (.int .i64 width)] [] 0 (.slc 0 0 1 (stdH Nat fun _ => (wrapT s width).length)) [.rows 1 (stdH Nat fun _ => (wrapT s width).length) (rowsS stdH fun _ => wrapT s width) 9] [] := by
  have hB : Base Tryz.prog (tabΓ [e_split]) tabO := base_of tabOkO (ents_cons eok_split <| ents_nil)
  refine con_m (N := 50) hB (draw_ok hB mixed) Tryz.func36 rfl rfl (fun H => [.lit (.string s), .lit (.int .i64 width)]) (fun _ => []) 0 (fun H => .slc 0 0 1 (H Nat fun _ => (wrapT s width).length)) (fun H => [.rows 1 (H Nat fun _ => (wrapT s width).length) (rowsS H fun _ => wrapT s width) 9]) (fun _ => []) 200 (by simp) (fun x hx => ?_) (by simp [lk]) (by omega) (by simp) ?_
  · simp only [List.mem_cons, List.not_mem_nil, or_false] at hx
    rcases hx with rfl | rfl
    · exact .lit
    · exact .lit
  intro X hX hX0 H hH
  conv in Fin.chk _ _ => cbv
  try simp only [Plain_rowsA, Plain_rowsB, Plain_rowsF, Plain_rowsG, Plain_rowsI, Plain_rowsS, Plain_rowsU, Fin.satC_ret, Fin.satC_br, Fin.satC_need, Fin.satC_again, AllP, and_true, true_and, upd, List.length_nil, List.length_cons, Nat.zero_add, if_true, ncast, Int.ofNat_eq_natCast]
  refine ⟨?_, ?_⟩
  · try simp only [hH, stdH, decide_eq_true_eq, decide_eq_false_iff_not, Bool.not_eq_true', Bool.not_eq_false', peta, ncast, Int.ofNat_eq_natCast, beq_iff_eq, bne_iff_ne, beq_eq_false_iff_ne, bne_eq_false_iff_eq, ne_eq, Classical.not_not, Int.toNat_natCast, vrow_I, Arm.eta2, Fld.eta, Grp.eta]
    first | exact ⟨by omega, rfl⟩ | exact ⟨by omega, trivial⟩
  have hl := words_len s
  have hp := words_pos s
  have hw0 : ((wordsB s).getD 0 ByteArray.empty).size ≤ 5000 := Nat.le_trans (words_sz (s := s) (getD_mem (l := wordsB s) hp)) h0
  refine loop_a hB (draw_ok hB mixed) hX hX0 hH false (ι := { x : Nat × List ByteArray // x.1 ≤ (wordsB s).length ∧ x.2.length ≤ x.1 ∧ ((x.1 = 0 ∧ x.2 = []) ∨ ∃ d n, x.2 = d ++ [n] ∧ n.size ≤ 5000 ∧ wrapT s width = wrap2 width d n ((wordsB s).drop x.1)) }) 200 (fun x => [.r (H Nat fun _ => (x.1.2).length) (rowsS H fun _ => x.1.2), .i (H Int fun _ => (x.1.1 : Nat))]) (fun x => (wordsB s).length - x.1.1) (⟨(0, []), Nat.zero_le _, Nat.zero_le _, .inl ⟨rfl, rfl⟩⟩) ?_ ?_
  · (conv in matchSt _ _ _ _ => cbv); simp only [AllG, AllP, and_true, hH, stdH, ncast, Int.ofNat_eq_natCast, vrow_I, Arm.eta2, Fld.eta, Grp.eta]
    (repeat' (first | rfl | trivial | exact RowsEq.self okS | exact RowsEq.ofT okS rfl (Shp_zero _) rfl | exact RowsEq.snoc okS rfl | exact RowsEq.self okI | exact RowsEq.self okRA | exact List.length_append | refine And.intro ?_ ?_))
  · intro I hI i
    conv in Fin.chk _ _ => cbv
    try simp only [Plain_rowsA, Plain_rowsB, Plain_rowsF, Plain_rowsG, Plain_rowsI, Plain_rowsS, Plain_rowsU, Fin.satC_ret, Fin.satC_br, Fin.satC_need, Fin.satC_again, AllP, and_true, true_and, upd, List.length_nil, List.length_cons, Nat.zero_add, if_true, ncast, Int.ofNat_eq_natCast]
    obtain ⟨⟨i, out⟩, hi, ho, hx⟩ := i
    dsimp only at hi ho hx
    rcases hx with ⟨rfl, rfl⟩ | ⟨d, n, rfl, hn, hw⟩
    · refine ⟨fun h1 => ⟨?_, ?_, ?_, fun h2 => ?_, fun h2 => ⟨?_, ?_⟩⟩, fun h1 => ?_⟩
      · try simp only [hH, stdH, decide_eq_true_eq, decide_eq_false_iff_not, Bool.not_eq_true', Bool.not_eq_false', peta, ncast, Int.ofNat_eq_natCast, beq_iff_eq, bne_iff_ne, beq_eq_false_iff_ne, bne_eq_false_iff_eq, ne_eq, Classical.not_not, Int.toNat_natCast, vrow_I, Arm.eta2, Fld.eta, Grp.eta]
        first | omega | (refine ⟨?_, ?_⟩ <;> omega)
      · try simp only [hH, stdH, decide_eq_true_eq, decide_eq_false_iff_not, Bool.not_eq_true', Bool.not_eq_false', peta, ncast, Int.ofNat_eq_natCast, beq_iff_eq, bne_iff_ne, beq_eq_false_iff_ne, bne_eq_false_iff_eq, ne_eq, Classical.not_not, Int.toNat_natCast, vrow_I, Arm.eta2, Fld.eta, Grp.eta]
        intro h; exact absurd h (by simp)
      · try simp only [hH, stdH, decide_eq_true_eq, decide_eq_false_iff_not, Bool.not_eq_true', Bool.not_eq_false', peta, ncast, Int.ofNat_eq_natCast, beq_iff_eq, bne_iff_ne, beq_eq_false_iff_ne, bne_eq_false_iff_eq, ne_eq, Classical.not_not, Int.toNat_natCast, vrow_I, Arm.eta2, Fld.eta, Grp.eta]
        intro h; exact absurd h (by simp)
      · exfalso
        simp only [hH, stdH, decide_eq_true_eq, decide_eq_false_iff_not, Bool.not_eq_true', Bool.not_eq_false', peta, ncast, Int.ofNat_eq_natCast, beq_iff_eq, bne_iff_ne, beq_eq_false_iff_ne, bne_eq_false_iff_eq, ne_eq, Classical.not_not, Int.toNat_natCast, vrow_I, Arm.eta2, Fld.eta, Grp.eta] at h2
        simp at h2
      · try simp only [hH, stdH, decide_eq_true_eq, decide_eq_false_iff_not, Bool.not_eq_true', Bool.not_eq_false', peta, ncast, Int.ofNat_eq_natCast, beq_iff_eq, bne_iff_ne, beq_eq_false_iff_ne, bne_eq_false_iff_eq, ne_eq, Classical.not_not, Int.toNat_natCast, vrow_I, Arm.eta2, Fld.eta, Grp.eta]
        simp
      · refine ⟨⟨(1, [(wordsB s).getD 0 ByteArray.empty]), by show 1 ≤ (wordsB s).length; omega, Nat.le_refl _, .inr ⟨[], _, rfl, hw0, wrapT_0 s width⟩⟩, by simp only; omega, ?_⟩
        rw [hI]
        (conv in matchSt _ _ _ _ => cbv); simp only [AllG, AllP, and_true, hH, stdH, ncast, Int.ofNat_eq_natCast, vrow_I, Arm.eta2, Fld.eta, Grp.eta]
        (repeat' (first | rfl | trivial | exact RowsEq.self okS | exact RowsEq.snocS (L := []) rfl | refine And.intro ?_ ?_))
      · exfalso
        simp only [hH, stdH, decide_eq_true_eq, decide_eq_false_iff_not, Bool.not_eq_true', Bool.not_eq_false', peta, ncast, Int.ofNat_eq_natCast, beq_iff_eq, bne_iff_ne, beq_eq_false_iff_ne, bne_eq_false_iff_eq, ne_eq, Classical.not_not, Int.toNat_natCast, vrow_I, Arm.eta2, Fld.eta, Grp.eta] at h1
        omega
    · have hd : d.length + 1 ≤ i := by rw [List.length_append, List.length_singleton] at ho; exact ho
      have eL := len_last (d := d) (n := n) (by omega)
      have eZ : decide ((0 : Int) < (((d ++ [n]).length : Nat) : Int)) = true := by rw [List.length_append, List.length_singleton]; exact decide_eq_true (by omega)
      refine ⟨fun h1 => ?_, fun h1 => ?_⟩
      · simp only [hH, stdH, decide_eq_true_eq, decide_eq_false_iff_not, Bool.not_eq_true', Bool.not_eq_false', peta, ncast, Int.ofNat_eq_natCast, beq_iff_eq, bne_iff_ne, beq_eq_false_iff_ne, bne_eq_false_iff_eq, ne_eq, Classical.not_not, Int.toNat_natCast, vrow_I, Arm.eta2, Fld.eta, Grp.eta] at h1
        have hwi : ((wordsB s).getD i ByteArray.empty).size ≤ 5000 := Nat.le_trans (words_sz (s := s) (getD_mem (l := wordsB s) (by omega))) h0
        have eW : IntKind.i64.wrap (IntKind.i64.wrap ((n.size : Int) + 1) + (((wordsB s).getD i ByteArray.empty).size : Nat)) = (n.size : Int) + 1 + (((wordsB s).getD i ByteArray.empty).size : Nat) := by
          rw [wi (x := (n.size : Int) + 1) (by omega) (by omega), wi (by omega) (by omega)]
        have eD := dropW (s := s) (i := i) (by omega)
        have hdl : d.length < (d ++ [n]).length := by rw [List.length_append, List.length_singleton]; omega
        refine ⟨?_, ?_, ?_, fun h2 => ⟨?_, ?_, ?_, ?_, ?_, ?_, ?_⟩, fun h2 => ⟨?_, ?_⟩⟩
        · try simp only [hH, stdH, decide_eq_true_eq, decide_eq_false_iff_not, Bool.not_eq_true', Bool.not_eq_false', peta, ncast, Int.ofNat_eq_natCast, beq_iff_eq, bne_iff_ne, beq_eq_false_iff_ne, bne_eq_false_iff_eq, ne_eq, Classical.not_not, Int.toNat_natCast, vrow_I, Arm.eta2, Fld.eta, Grp.eta]
          omega
        · simp only [hH, stdH, eL]
          intro _; exact ⟨by omega, by rw [List.length_append, List.length_singleton]; omega⟩
        · simp only [hH, stdH, eL, Int.toNat_natCast]
          intro _; exact ⟨hdl, rfl⟩
        · simp only [hH, stdH, eL]
          exact ⟨by omega, by rw [List.length_append, List.length_singleton]; omega⟩
        · simp only [hH, stdH, eL, Int.toNat_natCast]
          exact ⟨hdl, rfl⟩
        · try simp only [hH, stdH, decide_eq_true_eq, decide_eq_false_iff_not, Bool.not_eq_true', Bool.not_eq_false', peta, ncast, Int.ofNat_eq_natCast, beq_iff_eq, bne_iff_ne, beq_eq_false_iff_ne, bne_eq_false_iff_eq, ne_eq, Classical.not_not, Int.toNat_natCast, vrow_I, Arm.eta2, Fld.eta, Grp.eta]
          simp only [bszM, List.length_cons, List.length_nil]; omega
        · simp only [hH, stdH, eL, Int.toNat_natCast, getD_last, ByteArray.size_append, bszM, List.length_cons, List.length_nil]
          omega
        · simp only [hH, stdH, eL]
          exact ⟨by omega, by rw [List.length_append, List.length_singleton]; omega⟩
        · simp only [hH, stdH, eL, Int.toNat_natCast]
          exact ⟨hdl, rfl⟩
        · simp only [hH, stdH, eL, Int.toNat_natCast, getD_last, eW, eZ, cond_true, decide_eq_true_eq] at h2
          refine ⟨⟨(i + 1, d ++ [n ++ (spB ++ (wordsB s).getD i ByteArray.empty)]), by show i + 1 ≤ (wordsB s).length; omega, by show (d ++ [_]).length ≤ i + 1; rw [List.length_append, List.length_singleton]; omega, .inr ⟨d, _, rfl, ?_, ?_⟩⟩, by simp only; omega, ?_⟩
          · simp only [ByteArray.size_append]
            have : spB.size = 1 := rfl
            omega
          · show wrapT s width = wrap2 width d _ ((wordsB s).drop (i + 1))
            rw [hw, eD, wrap2_y h2]
          · rw [hI]
            (conv in matchSt _ _ _ _ => cbv); simp only [AllG, AllP, and_true, hH, stdH, ncast, Int.ofNat_eq_natCast, vrow_I, Arm.eta2, Fld.eta, Grp.eta]
            rw [w1 (by omega), eL, Int.toNat_natCast, getD_last]
            have hq := RowsEq.setS (L := d ++ [n]) (i := d.length) (x := n ++ (spB ++ (wordsB s).getD i ByteArray.empty)) (y := n ++ (spB ++ (wordsB s).getD i ByteArray.empty)) rfl set_last
            have hlen : (d ++ [n ++ (spB ++ (wordsB s).getD i ByteArray.empty)]).length = (d ++ [n]).length := by simp
            (repeat' (first | rfl | trivial | exact RowsEq.self okS | exact hq | exact hlen | refine And.intro ?_ ?_))
        · try simp only [hH, stdH, decide_eq_true_eq, decide_eq_false_iff_not, Bool.not_eq_true', Bool.not_eq_false', peta, ncast, Int.ofNat_eq_natCast, beq_iff_eq, bne_iff_ne, beq_eq_false_iff_ne, bne_eq_false_iff_eq, ne_eq, Classical.not_not, Int.toNat_natCast, vrow_I, Arm.eta2, Fld.eta, Grp.eta]
          rw [List.length_append, List.length_singleton]
          first | omega | exact ⟨by omega, by omega⟩ | exact ⟨trivial, by omega, by omega⟩
        · simp only [hH, stdH, eL, Int.toNat_natCast, getD_last, eW, eZ, cond_true, decide_eq_false_iff_not] at h2
          refine ⟨⟨(i + 1, (d ++ [n]) ++ [(wordsB s).getD i ByteArray.empty]), by show i + 1 ≤ (wordsB s).length; omega, by show ((d ++ [n]) ++ [_]).length ≤ i + 1; simp only [List.length_append, List.length_singleton]; omega, .inr ⟨d ++ [n], _, rfl, hwi, ?_⟩⟩, by simp only; omega, ?_⟩
          · show wrapT s width = wrap2 width (d ++ [n]) _ ((wordsB s).drop (i + 1))
            rw [hw, eD, wrap2_n h2]
          · rw [hI]
            (conv in matchSt _ _ _ _ => cbv); simp only [AllG, AllP, and_true, hH, stdH, ncast, Int.ofNat_eq_natCast, vrow_I, Arm.eta2, Fld.eta, Grp.eta]
            rw [w1 (by omega)]
            (repeat' (first | rfl | trivial | exact RowsEq.self okS | exact RowsEq.snocS rfl | exact List.length_append | refine And.intro ?_ ?_))
      · simp only [hH, stdH, decide_eq_true_eq, decide_eq_false_iff_not, Bool.not_eq_true', Bool.not_eq_false', peta, ncast, Int.ofNat_eq_natCast, beq_iff_eq, bne_iff_ne, beq_eq_false_iff_ne, bne_eq_false_iff_eq, ne_eq, Classical.not_not, Int.toNat_natCast, vrow_I, Arm.eta2, Fld.eta, Grp.eta] at h1
        obtain rfl : i = (wordsB s).length := by omega
        try simp only [hH, stdH, decide_eq_true_eq, decide_eq_false_iff_not, Bool.not_eq_true', Bool.not_eq_false', peta, ncast, Int.ofNat_eq_natCast, beq_iff_eq, bne_iff_ne, beq_eq_false_iff_ne, bne_eq_false_iff_eq, ne_eq, Classical.not_not, Int.toNat_natCast, vrow_I, Arm.eta2, Fld.eta, Grp.eta]
        rw [wrapT_end hw]
        first | exact RowsEq.self okS | exact ⟨RowsEq.self okS, rfl⟩ | exact ⟨RowsEq.self okS, trivial⟩
noncomputable def e_wrapped : Entry := pureN 36 fun H a => match a with
  | [.lit (.string s), .lit (.int .i64 width)] => some (fun nx => .slc nx 0 1 (H Nat fun _ => (wrapT s width).length), [.rows 1 (H Nat fun _ => (wrapT s width).length) (rowsS H fun _ => wrapT s width) 9], [H Prop fun _ => s.size ≤ 5000, H Prop fun _ => 0 ≤ width ∧ width ≤ 1000])
  | _ => none
theorem eok_wrapped : EntryOk Tryz.prog e_wrapped := pureN_ok (by unfold isBody; kernel_rfl) (by
  intro a r nb ob e hob
  split at e
  · rename_i s width
    simp only [Option.some.injEq, Prod.mk.injEq] at e
    obtain ⟨rfl, rfl, rfl⟩ := e
    refine ⟨ConN.args (.cons .rfl (.cons .rfl .nil)) (c_wrapped s width hob.1 hob.2.1), fun x hx => ?_, fun nx => ?_, fun b hb => ?_⟩
    · simp only [List.mem_cons, List.not_mem_nil, or_false] at hx
      rcases hx with rfl | rfl
      · exact .lit
      · exact .lit
    · (first | exact .slc ⟨by omega, by simp⟩ (by omega) | (refine .tup rfl (fun c x y hx hy => ?_); rcases c with _ | _ | _ | c <;> simp at hx hy <;> (subst hx; subst hy; first | exact .slc ⟨by omega, by simp⟩ (by omega) | exact .pl .lit | exact .pl (blq_ok 4 rfl))))
    · simp only [List.mem_cons, List.not_mem_nil, or_false] at hb; subst hb; exact bT_bl okS _ (fun _ => wrapT s width) _
  · simp at e)
theorem c_l6Wrap (s : ByteArray) (width : Int) (h0 : s.size ≤ 5000) (h1 : 0 ≤ width ∧ width ≤ 1000) : ConN Tryz.prog 38 [.lit (.string s), .lit (.int .i64 width)] [] 0 (.vec 1 (stdH Nat fun _ => (wrapT s width).length) (rowsS stdH fun _ => wrapT s width)) [] [] := by
  have hB : Base Tryz.prog (tabΓ [e_l1Split]) tabO := base_of tabOkO (ents_cons eok_l1Split <| ents_nil)
  refine con_m (N := 51) hB (draw_ok hB mixed) Tryz.func38 rfl rfl (fun H => [.lit (.string s), .lit (.int .i64 width)]) (fun _ => []) 0 (fun H => .vec 1 (H Nat fun _ => (wrapT s width).length) (rowsS H fun _ => wrapT s width)) (fun H => []) (fun _ => []) 200 (by simp) (fun x hx => ?_) (by simp [lk]) (by omega) (by simp) ?_
  · simp only [List.mem_cons, List.not_mem_nil, or_false] at hx
    rcases hx with rfl | rfl
    · exact .lit
    · exact .lit
  intro X hX hX0 H hH
  conv in Fin.chk _ _ => cbv
  try simp only [Plain_rowsA, Plain_rowsB, Plain_rowsF, Plain_rowsG, Plain_rowsI, Plain_rowsS, Plain_rowsU, Fin.satC_ret, Fin.satC_br, Fin.satC_need, Fin.satC_again, AllP, and_true, true_and, upd, List.length_nil, List.length_cons, Nat.zero_add, if_true, ncast, Int.ofNat_eq_natCast]
  have hp := words_pos s
  refine ⟨?_, ?_, ?_⟩
  · try simp only [hH, stdH, decide_eq_true_eq, decide_eq_false_iff_not, Bool.not_eq_true', Bool.not_eq_false', peta, ncast, Int.ofNat_eq_natCast, beq_iff_eq, bne_iff_ne, beq_eq_false_iff_ne, bne_eq_false_iff_eq, ne_eq, Classical.not_not, Int.toNat_natCast, vrow_I, Arm.eta2, Fld.eta, Grp.eta]
    first | exact ⟨by omega, rfl⟩ | exact ⟨by omega, trivial⟩
  · try simp only [hH, stdH, decide_eq_true_eq, decide_eq_false_iff_not, Bool.not_eq_true', Bool.not_eq_false', peta, ncast, Int.ofNat_eq_natCast, beq_iff_eq, bne_iff_ne, beq_eq_false_iff_ne, bne_eq_false_iff_eq, ne_eq, Classical.not_not, Int.toNat_natCast, vrow_I, Arm.eta2, Fld.eta, Grp.eta]
    omega
  have hl := words_len s
  have hw0 : ((wordsB s).getD 0 ByteArray.empty).size ≤ 5000 := Nat.le_trans (words_sz (s := s) (getD_mem (l := wordsB s) hp)) h0
  refine loop_a hB (draw_ok hB mixed) hX hX0 hH false (ι := { x : Nat × List ByteArray × ByteArray // x.1 ≤ (wordsB s).length ∧ x.2.1.length ≤ x.1 ∧ x.2.2.size ≤ 5000 ∧ wrapT s width = wrap2 width x.2.1 x.2.2 ((wordsB s).drop x.1) }) 200 (fun x => [.r (H Nat fun _ => (x.1.2.1).length) (rowsS H fun _ => x.1.2.1), .s (H ByteArray fun _ => x.1.2.2), .i (H Int fun _ => (x.1.1 : Nat))]) (fun x => (wordsB s).length - x.1.1) (⟨(1, [], (wordsB s).getD 0 ByteArray.empty), hp, Nat.zero_le _, hw0, wrapT_0 s width⟩) ?_ ?_
  · (conv in matchSt _ _ _ _ => cbv); simp only [AllG, AllP, and_true, hH, stdH, ncast, Int.ofNat_eq_natCast, vrow_I, Arm.eta2, Fld.eta, Grp.eta]
    (repeat' (first | rfl | trivial | exact RowsEq.self okS | exact RowsEq.ofT okS rfl (Shp_zero _) rfl | exact RowsEq.snoc okS rfl | exact RowsEq.self okI | exact RowsEq.self okRA | exact List.length_append | refine And.intro ?_ ?_))
  · intro I hI i
    conv in Fin.chk _ _ => cbv
    try simp only [Plain_rowsA, Plain_rowsB, Plain_rowsF, Plain_rowsG, Plain_rowsI, Plain_rowsS, Plain_rowsU, Fin.satC_ret, Fin.satC_br, Fin.satC_need, Fin.satC_again, AllP, and_true, true_and, upd, List.length_nil, List.length_cons, Nat.zero_add, if_true, ncast, Int.ofNat_eq_natCast]
    obtain ⟨⟨i, out, now⟩, hi, ho, hn, hw⟩ := i
    dsimp only at hi ho hn hw
    refine ⟨fun h1 => ?_, fun h1 => ⟨?_, ?_⟩⟩
    · simp only [hH, stdH, decide_eq_true_eq, decide_eq_false_iff_not, Bool.not_eq_true', Bool.not_eq_false', peta, ncast, Int.ofNat_eq_natCast, beq_iff_eq, bne_iff_ne, beq_eq_false_iff_ne, bne_eq_false_iff_eq, ne_eq, Classical.not_not, Int.toNat_natCast, vrow_I, Arm.eta2, Fld.eta, Grp.eta] at h1
      have hwi : ((wordsB s).getD i ByteArray.empty).size ≤ 5000 := Nat.le_trans (words_sz (s := s) (getD_mem (l := wordsB s) (by omega))) h0
      have eW : IntKind.i64.wrap (IntKind.i64.wrap ((now.size : Int) + 1) + (((wordsB s).getD i ByteArray.empty).size : Nat)) = (now.size : Int) + 1 + (((wordsB s).getD i ByteArray.empty).size : Nat) := by
        rw [wi (x := (now.size : Int) + 1) (by omega) (by omega), wi (by omega) (by omega)]
      have eD := dropW (s := s) (i := i) (by omega)
      refine ⟨?_, fun h2 => ⟨?_, ?_, ?_, ?_⟩, fun h2 => ⟨?_, ?_, ?_⟩⟩
      · try simp only [hH, stdH, decide_eq_true_eq, decide_eq_false_iff_not, Bool.not_eq_true', Bool.not_eq_false', peta, ncast, Int.ofNat_eq_natCast, beq_iff_eq, bne_iff_ne, beq_eq_false_iff_ne, bne_eq_false_iff_eq, ne_eq, Classical.not_not, Int.toNat_natCast, vrow_I, Arm.eta2, Fld.eta, Grp.eta]
        omega
      · try simp only [hH, stdH, decide_eq_true_eq, decide_eq_false_iff_not, Bool.not_eq_true', Bool.not_eq_false', peta, ncast, Int.ofNat_eq_natCast, beq_iff_eq, bne_iff_ne, beq_eq_false_iff_ne, bne_eq_false_iff_eq, ne_eq, Classical.not_not, Int.toNat_natCast, vrow_I, Arm.eta2, Fld.eta, Grp.eta]
        simp only [bszM, List.length_cons, List.length_nil]; omega
      · try simp only [hH, stdH, decide_eq_true_eq, decide_eq_false_iff_not, Bool.not_eq_true', Bool.not_eq_false', peta, ncast, Int.ofNat_eq_natCast, beq_iff_eq, bne_iff_ne, beq_eq_false_iff_ne, bne_eq_false_iff_eq, ne_eq, Classical.not_not, Int.toNat_natCast, vrow_I, Arm.eta2, Fld.eta, Grp.eta]
        omega
      · try simp only [hH, stdH, decide_eq_true_eq, decide_eq_false_iff_not, Bool.not_eq_true', Bool.not_eq_false', peta, ncast, Int.ofNat_eq_natCast, beq_iff_eq, bne_iff_ne, beq_eq_false_iff_ne, bne_eq_false_iff_eq, ne_eq, Classical.not_not, Int.toNat_natCast, vrow_I, Arm.eta2, Fld.eta, Grp.eta]
        simp only [ByteArray.size_append, bszM, List.length_cons, List.length_nil]; omega
      · simp only [hH, stdH, Int.toNat_natCast, eW, decide_eq_true_eq] at h2
        refine ⟨⟨(i + 1, out, now ++ (spB ++ (wordsB s).getD i ByteArray.empty)), by show i + 1 ≤ (wordsB s).length; omega, by show out.length ≤ i + 1; omega, ?_, ?_⟩, by simp only; omega, ?_⟩
        · simp only [ByteArray.size_append]
          have : spB.size = 1 := rfl
          omega
        · show wrapT s width = wrap2 width out _ ((wordsB s).drop (i + 1))
          rw [hw, eD, wrap2_y h2]
        · rw [hI]
          (conv in matchSt _ _ _ _ => cbv); simp only [AllG, AllP, and_true, hH, stdH, ncast, Int.ofNat_eq_natCast, vrow_I, Arm.eta2, Fld.eta, Grp.eta]
          rw [w1 (by omega)]
          (repeat' (first | rfl | trivial | exact RowsEq.self okS | (simp only [ByteArray.append_assoc]; rfl) | refine And.intro ?_ ?_))
      · try simp only [hH, stdH, decide_eq_true_eq, decide_eq_false_iff_not, Bool.not_eq_true', Bool.not_eq_false', peta, ncast, Int.ofNat_eq_natCast, beq_iff_eq, bne_iff_ne, beq_eq_false_iff_ne, bne_eq_false_iff_eq, ne_eq, Classical.not_not, Int.toNat_natCast, vrow_I, Arm.eta2, Fld.eta, Grp.eta]
        first | omega | exact ⟨by omega, by omega⟩ | exact ⟨trivial, by omega, by omega⟩
      · try simp only [hH, stdH, decide_eq_true_eq, decide_eq_false_iff_not, Bool.not_eq_true', Bool.not_eq_false', peta, ncast, Int.ofNat_eq_natCast, beq_iff_eq, bne_iff_ne, beq_eq_false_iff_ne, bne_eq_false_iff_eq, ne_eq, Classical.not_not, Int.toNat_natCast, vrow_I, Arm.eta2, Fld.eta, Grp.eta]
        omega
      · simp only [hH, stdH, Int.toNat_natCast, eW, decide_eq_false_iff_not] at h2
        refine ⟨⟨(i + 1, out ++ [now], (wordsB s).getD i ByteArray.empty), by show i + 1 ≤ (wordsB s).length; omega, by show (out ++ [now]).length ≤ i + 1; simp only [List.length_append, List.length_singleton]; omega, hwi, ?_⟩, by simp only; omega, ?_⟩
        · show wrapT s width = wrap2 width (out ++ [now]) _ ((wordsB s).drop (i + 1))
          rw [hw, eD, wrap2_n h2]
        · rw [hI]
          (conv in matchSt _ _ _ _ => cbv); simp only [AllG, AllP, and_true, hH, stdH, ncast, Int.ofNat_eq_natCast, vrow_I, Arm.eta2, Fld.eta, Grp.eta]
          rw [w1 (by omega)]
          (repeat' (first | rfl | trivial | exact RowsEq.self okS | exact RowsEq.snocS rfl | exact List.length_append | refine And.intro ?_ ?_))
    · try simp only [hH, stdH, decide_eq_true_eq, decide_eq_false_iff_not, Bool.not_eq_true', Bool.not_eq_false', peta, ncast, Int.ofNat_eq_natCast, beq_iff_eq, bne_iff_ne, beq_eq_false_iff_ne, bne_eq_false_iff_eq, ne_eq, Classical.not_not, Int.toNat_natCast, vrow_I, Arm.eta2, Fld.eta, Grp.eta]
      first | omega | exact ⟨by omega, by omega⟩ | exact ⟨trivial, by omega, by omega⟩
    · simp only [hH, stdH, decide_eq_true_eq, decide_eq_false_iff_not, Bool.not_eq_true', Bool.not_eq_false', peta, ncast, Int.ofNat_eq_natCast, beq_iff_eq, bne_iff_ne, beq_eq_false_iff_ne, bne_eq_false_iff_eq, ne_eq, Classical.not_not, Int.toNat_natCast, vrow_I, Arm.eta2, Fld.eta, Grp.eta] at h1
      obtain rfl : i = (wordsB s).length := by omega
      try simp only [hH, stdH, decide_eq_true_eq, decide_eq_false_iff_not, Bool.not_eq_true', Bool.not_eq_false', peta, ncast, Int.ofNat_eq_natCast, beq_iff_eq, bne_iff_ne, beq_eq_false_iff_ne, bne_eq_false_iff_eq, ne_eq, Classical.not_not, Int.toNat_natCast, vrow_I, Arm.eta2, Fld.eta, Grp.eta]
      rw [wrapT_end hw]
      exact RowsEq.snocS rfl
noncomputable def e_l6Wrap : Entry := pureE 38 fun H a => match a with
  | [.lit (.string s), .lit (.int .i64 width)] => some (.vec 1 (H Nat fun _ => (wrapT s width).length) (rowsS H fun _ => wrapT s width), [H Prop fun _ => s.size ≤ 5000, H Prop fun _ => 0 ≤ width ∧ width ≤ 1000])
  | _ => none
theorem eok_l6Wrap : EntryOk Tryz.prog e_l6Wrap := pureM_ok (by unfold isBody; kernel_rfl) (by
  intro a r ob e hob
  split at e
  · rename_i s width
    simp only [Option.some.injEq, Prod.mk.injEq] at e
    obtain ⟨rfl, rfl⟩ := e
    exact ConN.args (.cons .rfl (.cons .rfl .nil)) (c_l6Wrap s width hob.1 hob.2.1)
  · simp at e)

end Go.Proofs.YtdicfibonfjalaaGreatDoor.AM
