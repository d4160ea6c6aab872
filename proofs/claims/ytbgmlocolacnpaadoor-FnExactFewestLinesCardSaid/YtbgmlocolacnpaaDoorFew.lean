import Derived.Test.YtbgmlocolacnpaaDoorAmT
import Derived.Test.YtbgmlocolacnpaaDoorWrp
import Derived.Test.YtbgmlocolacnpaaDoorMot
set_option linter.unusedVariables false
set_option linter.unusedSimpArgs false
set_option maxRecDepth 100000
set_option maxHeartbeats 4000000
set_option cbv.maxSteps 3000000
namespace Go.Proofs.YtbgmlocolacnpaaDoor.AM
/- Mottoes in lines: the reference's filling, the fewest lines; conditions: none. -/
theorem empty_appB (a : ByteArray) : ByteArray.empty ++ a = a := by simp
def lnT (ws : List ByteArray) (i : Nat) : Nat → ByteArray
  | 0 => ByteArray.empty
  | m + 1 => if m = 0 then ws.getD i ByteArray.empty else lnT ws i m ++ (spB ++ ws.getD (i + m) ByteArray.empty)
theorem lnT_1 (ws : List ByteArray) (i : Nat) : lnT ws i 1 = ws.getD i ByteArray.empty := rfl
theorem lnT_s (ws : List ByteArray) (i : Nat) {m : Nat} (h : 0 < m) : lnT ws i (m + 1) = lnT ws i m ++ (spB ++ ws.getD (i + m) ByteArray.empty) := by
  conv => lhs; unfold lnT
  rw [if_neg (by omega)]
theorem getD_le {ws : List ByteArray} {k : Nat} (h : ∀ w ∈ ws, w.size ≤ k) (i : Nat) : (ws.getD i ByteArray.empty).size ≤ k := by
  rw [List.getD_eq_getElem?_getD]
  cases e : ws[i]? with
  | none => exact Nat.zero_le _
  | some s => exact h s (List.mem_of_getElem? e)
theorem lnT_sz {ws : List ByteArray} (h : ∀ w ∈ ws, w.size ≤ 100) (i : Nat) : ∀ m, (lnT ws i m).size ≤ 101 * m
  | 0 => Nat.zero_le _
  | m + 1 => by
    have ih := lnT_sz h i m
    have h1 := getD_le h i
    have h2 := getD_le h (i + m)
    have h3 : spB.size = 1 := rfl
    unfold lnT
    split
    · omega
    · simp only [ByteArray.size_append]; omega
theorem c_l23Line (ws : List ByteArray) (f : Int) (t : Int) (h0 : 0 ≤ f ∧ f ≤ t ∧ t ≤ (ws.length : Nat)) (h1 : ws.length ≤ 100) (h2 : ∀ w ∈ ws, w.size ≤ 100) : ConN Tryd.prog 59 [.vec 1 (stdH Nat fun _ => (ws).length) (rowsS stdH fun _ => ws), .lit (.int .i64 f), .lit (.int .i64 t)] [] 0 (.lit (.string (stdH ByteArray fun _ => lnT ws f.toNat (t - f).toNat))) [] [] := by
  have hB : Base Tryd.prog (tabΓ []) tab := base_of tabOk (ents_nil)
  refine con_m (N := 27) hB (draw_ok hB mixed) Tryd.func59 rfl rfl (fun H => [.vec 1 (H Nat fun _ => (ws).length) (rowsS H fun _ => ws), .lit (.int .i64 f), .lit (.int .i64 t)]) (fun _ => []) 0 (fun H => .lit (.string (H ByteArray fun _ => lnT ws f.toNat (t - f).toNat))) (fun H => []) (fun _ => []) 200 (by simp) (fun x hx => ?_) (by simp [lk]) (by omega) (by simp) ?_
  · simp only [List.mem_cons, List.not_mem_nil, or_false] at hx
    rcases hx with rfl | rfl | rfl
    · exact vl_bl okS ws _
    · exact .lit
    · exact .lit
  intro X hX hX0 H hH
  conv in Fin.chk _ _ => cbv
  try simp only [Plain_rowsA, Plain_rowsB, Plain_rowsF, Plain_rowsG, Plain_rowsI, Plain_rowsS, Plain_rowsU, Fin.satC_ret, Fin.satC_br, Fin.satC_need, Fin.satC_again, AllP, and_true, true_and, upd, List.length_nil, List.length_cons, Nat.zero_add, if_true, ncast, Int.ofNat_eq_natCast]
  refine loop_a hB (draw_ok hB mixed) hX hX0 hH false (ι := { m : Nat // m ≤ (t - f).toNat }) 200 (fun m => [.s (H ByteArray fun _ => lnT ws f.toNat m.1), .i (H Int fun _ => f + ((m.1 : Nat) : Int))]) (fun m => (t - f).toNat - m.1) (⟨0, by omega⟩) ?_ ?_
  · (conv in matchSt _ _ _ _ => cbv); simp only [AllG, AllP, and_true, hH, stdH, ncast, Int.ofNat_eq_natCast, vrow_I, Arm.eta2, Fld.eta, Grp.eta]
    (repeat' (first | exact RowsEq.self okS | rfl | trivial | omega | refine And.intro ?_ ?_))
  · intro I hI i
    conv in Fin.chk _ _ => cbv
    try simp only [Plain_rowsA, Plain_rowsB, Plain_rowsF, Plain_rowsG, Plain_rowsI, Plain_rowsS, Plain_rowsU, Fin.satC_ret, Fin.satC_br, Fin.satC_need, Fin.satC_again, AllP, and_true, true_and, upd, List.length_nil, List.length_cons, Nat.zero_add, if_true, ncast, Int.ofNat_eq_natCast]
    obtain ⟨m, hm⟩ := i
    have hz := lnT_sz h2 f.toNat m
    have hg := getD_le h2 (f.toNat + m)
    have eI : (f + (m : Int)).toNat = f.toNat + m := by omega
    have eW : IntKind.i64.wrap (f + (m : Int) + 1) = f + ((m + 1 : Nat) : Int) := by rw [wi (by omega) (by omega)]; omega
    refine ⟨fun h3 => ⟨fun h4 => ⟨?_, ?_, ?_, ?_⟩, fun h4 => ⟨?_, ?_, ?_⟩⟩, fun h3 => ?_⟩
    · try simp only [hH, stdH, decide_eq_true_eq, decide_eq_false_iff_not, Bool.not_eq_true', Bool.not_eq_false', peta, ncast, Int.ofNat_eq_natCast, beq_iff_eq, bne_iff_ne, beq_eq_false_iff_ne, bne_eq_false_iff_eq, ne_eq, Classical.not_not, Int.toNat_natCast, vrow_I, Arm.eta2, Fld.eta, Grp.eta]
      simp only [bszM, List.length_cons, List.length_nil]; omega
    · simp only [hH, stdH, decide_eq_true_eq, decide_eq_false_iff_not, Bool.not_eq_true', Bool.not_eq_false', peta, ncast, Int.ofNat_eq_natCast, beq_iff_eq, bne_iff_ne, beq_eq_false_iff_ne, bne_eq_false_iff_eq, ne_eq, Classical.not_not, Int.toNat_natCast, vrow_I, Arm.eta2, Fld.eta, Grp.eta] at h3
      try simp only [hH, stdH, decide_eq_true_eq, decide_eq_false_iff_not, Bool.not_eq_true', Bool.not_eq_false', peta, ncast, Int.ofNat_eq_natCast, beq_iff_eq, bne_iff_ne, beq_eq_false_iff_ne, bne_eq_false_iff_eq, ne_eq, Classical.not_not, Int.toNat_natCast, vrow_I, Arm.eta2, Fld.eta, Grp.eta]
      omega
    · simp only [hH, stdH, eI, ByteArray.size_append, bszM, List.length_cons, List.length_nil]; omega
    · simp only [hH, stdH, decide_eq_true_eq, decide_eq_false_iff_not, Bool.not_eq_true', Bool.not_eq_false', peta, ncast, Int.ofNat_eq_natCast, beq_iff_eq, bne_iff_ne, beq_eq_false_iff_ne, bne_eq_false_iff_eq, ne_eq, Classical.not_not, Int.toNat_natCast, vrow_I, Arm.eta2, Fld.eta, Grp.eta] at h3
      simp only [hH, stdH, decide_eq_true_eq, decide_eq_false_iff_not, Bool.not_eq_true', Bool.not_eq_false', peta, ncast, Int.ofNat_eq_natCast, beq_iff_eq, bne_iff_ne, beq_eq_false_iff_ne, bne_eq_false_iff_eq, ne_eq, Classical.not_not, Int.toNat_natCast, vrow_I, Arm.eta2, Fld.eta, Grp.eta] at h4
      refine ⟨⟨m + 1, by omega⟩, by simp only; omega, ?_⟩
      rw [hI]
      (conv in matchSt _ _ _ _ => cbv); simp only [AllG, AllP, and_true, hH, stdH, ncast, Int.ofNat_eq_natCast, vrow_I, Arm.eta2, Fld.eta, Grp.eta]
      rw [eW, eI, lnT_s _ _ (by omega)]
      (repeat' (first | exact RowsEq.self okS | rfl | trivial | (simp only [ByteArray.append_assoc]; rfl) | refine And.intro ?_ ?_))
    · simp only [hH, stdH, decide_eq_true_eq, decide_eq_false_iff_not, Bool.not_eq_true', Bool.not_eq_false', peta, ncast, Int.ofNat_eq_natCast, beq_iff_eq, bne_iff_ne, beq_eq_false_iff_ne, bne_eq_false_iff_eq, ne_eq, Classical.not_not, Int.toNat_natCast, vrow_I, Arm.eta2, Fld.eta, Grp.eta] at h3
      try simp only [hH, stdH, decide_eq_true_eq, decide_eq_false_iff_not, Bool.not_eq_true', Bool.not_eq_false', peta, ncast, Int.ofNat_eq_natCast, beq_iff_eq, bne_iff_ne, beq_eq_false_iff_ne, bne_eq_false_iff_eq, ne_eq, Classical.not_not, Int.toNat_natCast, vrow_I, Arm.eta2, Fld.eta, Grp.eta]
      omega
    · simp only [hH, stdH, eI]; omega
    · simp only [hH, stdH, decide_eq_true_eq, decide_eq_false_iff_not, Bool.not_eq_true', Bool.not_eq_false', peta, ncast, Int.ofNat_eq_natCast, beq_iff_eq, bne_iff_ne, beq_eq_false_iff_ne, bne_eq_false_iff_eq, ne_eq, Classical.not_not, Int.toNat_natCast, vrow_I, Arm.eta2, Fld.eta, Grp.eta] at h3
      simp only [hH, stdH, decide_eq_true_eq, decide_eq_false_iff_not, Bool.not_eq_true', Bool.not_eq_false', peta, ncast, Int.ofNat_eq_natCast, beq_iff_eq, bne_iff_ne, beq_eq_false_iff_ne, bne_eq_false_iff_eq, ne_eq, Classical.not_not, Int.toNat_natCast, vrow_I, Arm.eta2, Fld.eta, Grp.eta] at h4
      obtain rfl : m = 0 := by omega
      refine ⟨⟨0 + 1, by omega⟩, by simp only; omega, ?_⟩
      rw [hI]
      (conv in matchSt _ _ _ _ => cbv); simp only [AllG, AllP, and_true, hH, stdH, ncast, Int.ofNat_eq_natCast, vrow_I, Arm.eta2, Fld.eta, Grp.eta]
      rw [eW, eI, Nat.zero_add, lnT_1]
      (repeat' (first | exact RowsEq.self okS | rfl | trivial | (exact (empty_appB _).symm) | refine And.intro ?_ ?_))
    · simp only [hH, stdH, decide_eq_true_eq, decide_eq_false_iff_not, Bool.not_eq_true', Bool.not_eq_false', peta, ncast, Int.ofNat_eq_natCast, beq_iff_eq, bne_iff_ne, beq_eq_false_iff_ne, bne_eq_false_iff_eq, ne_eq, Classical.not_not, Int.toNat_natCast, vrow_I, Arm.eta2, Fld.eta, Grp.eta] at h3 ⊢
      obtain rfl : m = (t - f).toNat := by omega
      rfl
noncomputable def e_l23Line : Entry := pureE 59 fun H a => match a with
  | [.vec 1 wsn wsf, .lit (.int .i64 f), .lit (.int .i64 t)] => some (.lit (.string (H ByteArray fun _ => lnT (Tl rowS wsn wsf) f.toNat (t - f).toNat)), [H Prop fun _ => Shp rowS wsn wsf, H Prop fun _ => 0 ≤ f ∧ f ≤ t ∧ t ≤ ((Tl rowS wsn wsf).length : Nat), H Prop fun _ => (Tl rowS wsn wsf).length ≤ 100, H Prop fun _ => ∀ w ∈ (Tl rowS wsn wsf), w.size ≤ 100])
  | _ => none
theorem eok_l23Line : EntryOk Tryd.prog e_l23Line := pureM_ok (by unfold isBody; kernel_rfl) (by
  intro a r ob e hob
  split at e
  · rename_i wsn wsf f t
    simp only [Option.some.injEq, Prod.mk.injEq] at e
    obtain ⟨rfl, rfl⟩ := e
    exact ConN.args (.cons (.toT okS rfl hob.1) (.cons .rfl (.cons .rfl .nil))) (c_l23Line (Tl rowS wsn wsf) f t hob.2.1 hob.2.2.1 hob.2.2.2.1)
  · simp at e)
def fitB (s : ByteArray) (width : Int) : Bool := (isM s && inB width 1 40) && (wordsB s).all fun w => decide ((w.size : Int) ≤ width)
theorem bif_no (a b : Bool) : (bif !a then true else !b) = !(a && b) := by cases a <;> cases b <;> rfl
theorem c_l23Fits (s : ByteArray) (width : Int)  : ConN Tryd.prog 28 [.lit (.string s), .lit (.int .i64 width)] [] 0 (.lit (.bool (stdH Bool fun _ => fitB s width))) [] [] := by
  have hB : Base Tryd.prog (tabΓ [e_motGood, e_l1In, e_l1Split]) tab := base_of tabOk (ents_cons eok_motGood <| ents_cons eok_l1In <| ents_cons eok_l1Split <| ents_nil)
  refine con_m (N := 30) hB (draw_ok hB mixed) Tryd.func28 rfl rfl (fun H => [.lit (.string s), .lit (.int .i64 width)]) (fun _ => []) 0 (fun H => .lit (.bool (H Bool fun _ => fitB s width))) (fun H => []) (fun _ => []) 200 (by simp) (fun x hx => ?_) (by simp [lk]) (by omega) (by simp) ?_
  · simp only [List.mem_cons, List.not_mem_nil, or_false] at hx
    rcases hx with rfl | rfl
    · exact .lit
    · exact .lit
  intro X hX hX0 H hH
  conv in Fin.chk _ _ => cbv
  try simp only [Plain_rowsA, Plain_rowsB, Plain_rowsF, Plain_rowsG, Plain_rowsI, Plain_rowsS, Plain_rowsU, Fin.satC_ret, Fin.satC_br, Fin.satC_need, Fin.satC_again, AllP, and_true, true_and, upd, List.length_nil, List.length_cons, Nat.zero_add, if_true, ncast, Int.ofNat_eq_natCast]
  refine ⟨fun h => ?_, fun h => ⟨?_, ?_⟩⟩
  · simp only [hH, stdH, decide_eq_true_eq, decide_eq_false_iff_not, Bool.not_eq_true', Bool.not_eq_false', peta, ncast, Int.ofNat_eq_natCast, beq_iff_eq, bne_iff_ne, beq_eq_false_iff_ne, bne_eq_false_iff_eq, ne_eq, Classical.not_not, Int.toNat_natCast, vrow_I, Arm.eta2, Fld.eta, Grp.eta] at h ⊢
    rw [bif_no] at h
    unfold fitB
    cases hq : isM s && inB width 1 40 with
    | false => rfl
    | true => rw [hq] at h; simp at h
  · simp only [hH, stdH, bif_no, Bool.not_eq_false', Bool.and_eq_true] at h
    have := isM_sz h.1
    try simp only [hH, stdH, decide_eq_true_eq, decide_eq_false_iff_not, Bool.not_eq_true', Bool.not_eq_false', peta, ncast, Int.ofNat_eq_natCast, beq_iff_eq, bne_iff_ne, beq_eq_false_iff_ne, bne_eq_false_iff_eq, ne_eq, Classical.not_not, Int.toNat_natCast, vrow_I, Arm.eta2, Fld.eta, Grp.eta]
    first | exact ⟨by omega, rfl⟩ | exact ⟨by omega, trivial⟩
  simp only [hH, stdH, bif_no, Bool.not_eq_false', Bool.and_eq_true] at h
  have hz := isM_sz h.1
  have hl := words_len s
  have he : fitB s width = (wordsB s).all fun w => decide ((w.size : Int) ≤ width) := by unfold fitB; rw [h.1, h.2]; rfl
  rw [he]
  refine loop_a hB (draw_ok hB mixed) hX hX0 hH false (ι := { i : Nat // i ≤ (wordsB s).length ∧ ∀ j, j < i → decide ((((wordsB s).getD j ByteArray.empty).size : Int) ≤ width) = true }) 200 (fun i => [.i (H Int fun _ => (i.1 : Nat))]) (fun i => (wordsB s).length - i.1) (⟨0, by omega, by omega⟩) ?_ ?_
  · (conv in matchSt _ _ _ _ => cbv); simp only [AllG, AllP, and_true, hH, stdH, ncast, Int.ofNat_eq_natCast, vrow_I, Arm.eta2, Fld.eta, Grp.eta]
    (repeat' (first | rfl | trivial | exact RowsEq.self okS | exact RowsEq.ofT okS rfl (Shp_zero _) rfl | exact RowsEq.snoc okS rfl | exact RowsEq.self okI | exact RowsEq.self okRA | exact List.length_append | refine And.intro ?_ ?_))
  · intro I hI i
    conv in Fin.chk _ _ => cbv
    try simp only [Plain_rowsA, Plain_rowsB, Plain_rowsF, Plain_rowsG, Plain_rowsI, Plain_rowsS, Plain_rowsU, Fin.satC_ret, Fin.satC_br, Fin.satC_need, Fin.satC_again, AllP, and_true, true_and, upd, List.length_nil, List.length_cons, Nat.zero_add, if_true, ncast, Int.ofNat_eq_natCast]
    obtain ⟨i, hi, hj⟩ := i
    refine ⟨fun h1 => ⟨?_, fun h2 => ?_, fun h2 => ?_⟩, fun h1 => ?_⟩
    · simp only [hH, stdH, decide_eq_true_eq, decide_eq_false_iff_not, Bool.not_eq_true', Bool.not_eq_false', peta, ncast, Int.ofNat_eq_natCast, beq_iff_eq, bne_iff_ne, beq_eq_false_iff_ne, bne_eq_false_iff_eq, ne_eq, Classical.not_not, Int.toNat_natCast, vrow_I, Arm.eta2, Fld.eta, Grp.eta] at h1
      try simp only [hH, stdH, decide_eq_true_eq, decide_eq_false_iff_not, Bool.not_eq_true', Bool.not_eq_false', peta, ncast, Int.ofNat_eq_natCast, beq_iff_eq, bne_iff_ne, beq_eq_false_iff_ne, bne_eq_false_iff_eq, ne_eq, Classical.not_not, Int.toNat_natCast, vrow_I, Arm.eta2, Fld.eta, Grp.eta]
      omega
    · simp only [hH, stdH, decide_eq_true_eq, decide_eq_false_iff_not, Bool.not_eq_true', Bool.not_eq_false', peta, ncast, Int.ofNat_eq_natCast, beq_iff_eq, bne_iff_ne, beq_eq_false_iff_ne, bne_eq_false_iff_eq, ne_eq, Classical.not_not, Int.toNat_natCast, vrow_I, Arm.eta2, Fld.eta, Grp.eta] at h1
      simp only [hH, stdH, decide_eq_true_eq, decide_eq_false_iff_not, Bool.not_eq_true', Bool.not_eq_false', peta, ncast, Int.ofNat_eq_natCast, beq_iff_eq, bne_iff_ne, beq_eq_false_iff_ne, bne_eq_false_iff_eq, ne_eq, Classical.not_not, Int.toNat_natCast, vrow_I, Arm.eta2, Fld.eta, Grp.eta] at h2
      try simp only [hH, stdH, decide_eq_true_eq, decide_eq_false_iff_not, Bool.not_eq_true', Bool.not_eq_false', peta, ncast, Int.ofNat_eq_natCast, beq_iff_eq, bne_iff_ne, beq_eq_false_iff_ne, bne_eq_false_iff_eq, ne_eq, Classical.not_not, Int.toNat_natCast, vrow_I, Arm.eta2, Fld.eta, Grp.eta]
      rw [not_allB (p := fun w => decide ((w.size : Int) ≤ width)) (l := wordsB s) (i := i) (by omega) (decide_eq_false (by omega))]
    · simp only [hH, stdH, decide_eq_true_eq, decide_eq_false_iff_not, Bool.not_eq_true', Bool.not_eq_false', peta, ncast, Int.ofNat_eq_natCast, beq_iff_eq, bne_iff_ne, beq_eq_false_iff_ne, bne_eq_false_iff_eq, ne_eq, Classical.not_not, Int.toNat_natCast, vrow_I, Arm.eta2, Fld.eta, Grp.eta] at h1
      simp only [hH, stdH, decide_eq_true_eq, decide_eq_false_iff_not, Bool.not_eq_true', Bool.not_eq_false', peta, ncast, Int.ofNat_eq_natCast, beq_iff_eq, bne_iff_ne, beq_eq_false_iff_ne, bne_eq_false_iff_eq, ne_eq, Classical.not_not, Int.toNat_natCast, vrow_I, Arm.eta2, Fld.eta, Grp.eta] at h2
      refine ⟨⟨i + 1, by omega, fun j hj' => ?_⟩, by simp only; omega, ?_⟩
      · rcases Nat.lt_succ_iff_lt_or_eq.1 hj' with h | rfl
        · exact hj j h
        · exact decide_eq_true (by omega)
      · rw [hI]
        (conv in matchSt _ _ _ _ => cbv); simp only [AllG, AllP, and_true, hH, stdH, ncast, Int.ofNat_eq_natCast, vrow_I, Arm.eta2, Fld.eta, Grp.eta]
        rw [w1 (by omega)]
        (repeat' (first | rfl | trivial | exact RowsEq.self okS | exact RowsEq.ofT okS rfl (Shp_zero _) rfl | exact RowsEq.snoc okS rfl | exact RowsEq.self okI | exact RowsEq.self okRA | exact List.length_append | refine And.intro ?_ ?_))
    · simp only [hH, stdH, decide_eq_true_eq, decide_eq_false_iff_not, Bool.not_eq_true', Bool.not_eq_false', peta, ncast, Int.ofNat_eq_natCast, beq_iff_eq, bne_iff_ne, beq_eq_false_iff_ne, bne_eq_false_iff_eq, ne_eq, Classical.not_not, Int.toNat_natCast, vrow_I, Arm.eta2, Fld.eta, Grp.eta] at h1
      obtain rfl : i = (wordsB s).length := by omega
      try simp only [hH, stdH, decide_eq_true_eq, decide_eq_false_iff_not, Bool.not_eq_true', Bool.not_eq_false', peta, ncast, Int.ofNat_eq_natCast, beq_iff_eq, bne_iff_ne, beq_eq_false_iff_ne, bne_eq_false_iff_eq, ne_eq, Classical.not_not, Int.toNat_natCast, vrow_I, Arm.eta2, Fld.eta, Grp.eta]
      rw [allB (p := fun w => decide ((w.size : Int) ≤ width)) (l := wordsB s) hj]
noncomputable def e_l23Fits : Entry := pureE 28 fun H a => match a with
  | [.lit (.string s), .lit (.int .i64 width)] => some (.lit (.bool (H Bool fun _ => fitB s width)), [])
  | _ => none
theorem eok_l23Fits : EntryOk Tryd.prog e_l23Fits := pureM_ok (by unfold isBody; kernel_rfl) (by
  intro a r ob e hob
  split at e
  · rename_i s width
    simp only [Option.some.injEq, Prod.mk.injEq] at e
    obtain ⟨rfl, rfl⟩ := e
    exact ConN.args (.cons .rfl (.cons .rfl .nil)) (c_l23Fits s width )
  · simp at e)
theorem isM_w {s : ByteArray} (h : isM s = true) : (∀ w ∈ wordsB s, w.size ≤ 60) ∧ (wordsB s).length ≤ 61 := by
  have hz := isM_sz h
  exact ⟨fun w hw => Nat.le_trans (words_sz hw) hz.2, by have := words_len s; omega⟩
theorem TlS (L : List ByteArray) : Tl rowS L.length (rowsS stdH fun _ => L) = L := Tl_rowsT okS L
theorem ShpS (n : Nat) (L : List ByteArray) : Shp rowS n (rowsS stdH fun _ => L) := Shp_rowsT okS n (fun _ => L)
theorem c_l23Fill (s : ByteArray) (width : Int) (h0 : isM s = true) : ConN Tryd.prog 29 [.lit (.string s), .lit (.int .i64 width)] [] 0 (.vec 1 (stdH Nat fun _ => (wrapT s width).length) (rowsS stdH fun _ => wrapT s width)) [] [] := by
  have hB : Base Tryd.prog (tabΓ [e_l1Split, e_l23Line]) tabO := base_of tabOkO (ents_cons eok_l1Split <| ents_cons eok_l23Line <| ents_nil)
  refine con_m (N := 43) hB (draw_ok hB mixed) Tryd.func29 rfl rfl (fun H => [.lit (.string s), .lit (.int .i64 width)]) (fun _ => []) 0 (fun H => .vec 1 (H Nat fun _ => (wrapT s width).length) (rowsS H fun _ => wrapT s width)) (fun H => []) (fun _ => []) 300 (by simp) (fun x hx => ?_) (by simp [lk]) (by omega) (by simp) ?_
  · simp only [List.mem_cons, List.not_mem_nil, or_false] at hx
    rcases hx with rfl | rfl
    · exact .lit
    · exact .lit
  intro X hX hX0 H hH
  conv in Fin.chk _ _ => cbv
  try simp only [Plain_rowsA, Plain_rowsB, Plain_rowsF, Plain_rowsG, Plain_rowsI, Plain_rowsS, Plain_rowsU, Fin.satC_ret, Fin.satC_br, Fin.satC_need, Fin.satC_again, AllP, and_true, true_and, upd, List.length_nil, List.length_cons, Nat.zero_add, if_true, ncast, Int.ofNat_eq_natCast]
  have hz := isM_sz h0
  obtain ⟨hw, hl⟩ := isM_w h0
  have hp := words_pos s
  refine ⟨?_, ?_⟩
  · try simp only [hH, stdH, decide_eq_true_eq, decide_eq_false_iff_not, Bool.not_eq_true', Bool.not_eq_false', peta, ncast, Int.ofNat_eq_natCast, beq_iff_eq, bne_iff_ne, beq_eq_false_iff_ne, bne_eq_false_iff_eq, ne_eq, Classical.not_not, Int.toNat_natCast, vrow_I, Arm.eta2, Fld.eta, Grp.eta]
    first | exact ⟨by omega, rfl⟩ | exact ⟨by omega, trivial⟩
  refine loop_a hB (draw_ok hB mixed) hX hX0 hH false (ι := { x : Nat × List ByteArray // x.1 ≤ (wordsB s).length ∧ x.2.length ≤ x.1 ∧ ((x.1 = (wordsB s).length ∧ wrapT s width = x.2) ∨ (x.1 < (wordsB s).length ∧ wrapT s width = wrap2 width x.2 ((wordsB s).getD x.1 ByteArray.empty) ((wordsB s).drop (x.1 + 1)))) }) 300 (fun x => [.r (H Nat fun _ => (x.1.2).length) (rowsS H fun _ => x.1.2), .i (H Int fun _ => (x.1.1 : Nat))]) (fun x => (wordsB s).length - x.1.1) (⟨(0, []), Nat.zero_le _, Nat.zero_le _, .inr ⟨hp, wrapT_0 s width⟩⟩) ?_ ?_
  · (conv in matchSt _ _ _ _ => cbv); simp only [AllG, AllP, and_true, hH, stdH, ncast, Int.ofNat_eq_natCast, vrow_I, Arm.eta2, Fld.eta, Grp.eta]
    (repeat' (first | rfl | trivial | exact RowsEq.self okS | exact RowsEq.ofT okS rfl (Shp_zero _) rfl | exact RowsEq.snoc okS rfl | exact RowsEq.self okI | exact RowsEq.self okRA | exact List.length_append | refine And.intro ?_ ?_))
  · intro I hI i
    conv in Fin.chk _ _ => cbv
    try simp only [Plain_rowsA, Plain_rowsB, Plain_rowsF, Plain_rowsG, Plain_rowsI, Plain_rowsS, Plain_rowsU, Fin.satC_ret, Fin.satC_br, Fin.satC_need, Fin.satC_again, AllP, and_true, true_and, upd, List.length_nil, List.length_cons, Nat.zero_add, if_true, ncast, Int.ofNat_eq_natCast]
    obtain ⟨⟨i, out⟩, hi, ho, hx⟩ := i
    dsimp only at hi ho hx
    refine ⟨fun h1 => ?_, fun h1 => ?_⟩
    · simp only [hH, stdH, decide_eq_true_eq, decide_eq_false_iff_not, Bool.not_eq_true', Bool.not_eq_false', peta, ncast, Int.ofNat_eq_natCast, beq_iff_eq, bne_iff_ne, beq_eq_false_iff_ne, bne_eq_false_iff_eq, ne_eq, Classical.not_not, Int.toNat_natCast, vrow_I, Arm.eta2, Fld.eta, Grp.eta] at h1
      have hx : i < (wordsB s).length ∧ wrapT s width = wrap2 width out ((wordsB s).getD i ByteArray.empty) ((wordsB s).drop (i + 1)) := by
        rcases hx with hx | hx
        · omega
        · exact hx
      have hy : wrapT s width = wrap2 width out (lnT (wordsB s) i (i + 1 - i)) ((wordsB s).drop (i + 1)) := by rw [Nat.add_sub_cancel_left, lnT_1]; exact hx.2
      refine loop_a hB (draw_ok hB mixed) hX hX0 hH true (ι := { k : Nat // i < k ∧ k ≤ (wordsB s).length ∧ wrapT s width = wrap2 width out (lnT (wordsB s) i (k - i)) ((wordsB s).drop k) }) 300 (fun k => [.i (H Int fun _ => (k.1 : Nat))]) (fun k => (wordsB s).length - k.1) (⟨i + 1, Nat.lt_succ_self i, hx.1, hy⟩) ?_ ?_
      · (conv in matchSt _ _ _ _ => cbv); simp only [AllG, AllP, and_true, hH, stdH, ncast, Int.ofNat_eq_natCast, vrow_I, Arm.eta2, Fld.eta, Grp.eta]
        rw [w1 (by omega)]
        (repeat' (first | rfl | trivial | exact RowsEq.self okS | exact RowsEq.ofT okS rfl (Shp_zero _) rfl | exact RowsEq.snoc okS rfl | exact RowsEq.self okI | exact RowsEq.self okRA | exact List.length_append | refine And.intro ?_ ?_))
      · intro J hJ j
        conv in Fin.chk _ _ => cbv
        try simp only [Plain_rowsA, Plain_rowsB, Plain_rowsF, Plain_rowsG, Plain_rowsI, Plain_rowsS, Plain_rowsU, Fin.satC_ret, Fin.satC_br, Fin.satC_need, Fin.satC_again, AllP, and_true, true_and, upd, List.length_nil, List.length_cons, Nat.zero_add, if_true, ncast, Int.ofNat_eq_natCast]
        obtain ⟨k, hk1, hk2, hk3⟩ := j
        have hw' : ∀ w ∈ wordsB s, w.size ≤ 100 := fun w h => Nat.le_trans (hw w h) (by omega)
        have zl := lnT_sz hw' i (k - i)
        have eW : IntKind.i64.wrap ((k : Int) + 1) = ((k + 1 : Nat) : Int) := w1 (by omega)
        have eK : (((k + 1 : Nat) : Int) - (i : Int)).toNat = k + 1 - i := by omega
        have eK' : ((k : Int) - (i : Int)).toNat = k - i := by omega
        have eL : lnT (wordsB s) i (k + 1 - i) = lnT (wordsB s) i (k - i) ++ (spB ++ (wordsB s).getD k ByteArray.empty) := by
          rw [show k + 1 - i = (k - i) + 1 by omega, lnT_s _ _ (by omega), show i + (k - i) = k by omega]
        have zL : (lnT (wordsB s) i (k + 1 - i)).size = (lnT (wordsB s) i (k - i)).size + 1 + ((wordsB s).getD k ByteArray.empty).size := by
          rw [eL]
          simp only [ByteArray.size_append]
          have : spB.size = 1 := rfl
          omega
        refine ⟨⟨?_, ?_, ?_, ?_⟩, fun h2 => ?_, fun h2 => ⟨⟨?_, ?_, ?_, ?_⟩, ?_, ?_⟩⟩
        · try simp only [hH, stdH, decide_eq_true_eq, decide_eq_false_iff_not, Bool.not_eq_true', Bool.not_eq_false', peta, ncast, Int.ofNat_eq_natCast, beq_iff_eq, bne_iff_ne, beq_eq_false_iff_ne, bne_eq_false_iff_eq, ne_eq, Classical.not_not, Int.toNat_natCast, vrow_I, Arm.eta2, Fld.eta, Grp.eta]
          exact fun _ => ShpS _ _
        · simp only [hH, stdH, TlS, eW]
          intro h; have := of_decide_eq_true h; omega
        · simp only [hH, stdH, TlS]
          intro _; omega
        · simp only [hH, stdH, TlS]
          exact fun _ => hw'
        · simp only [hH, stdH, TlS, eW, eK, Int.toNat_natCast] at h2
          have h3 : k < (wordsB s).length := by
            apply Nat.lt_of_not_le
            intro h
            rw [decide_eq_false (by omega)] at h2
            cases h2
          rw [decide_eq_true (by omega), cond_true, decide_eq_true_eq] at h2
          refine ⟨⟨k + 1, by omega, by omega, ?_⟩, by simp only; omega, ?_⟩
          · rw [hk3, dropW h3, eL, wrap2_y (by omega)]
          · rw [hJ]
            (conv in matchSt _ _ _ _ => cbv); simp only [AllG, AllP, and_true, hH, stdH, ncast, Int.ofNat_eq_natCast, vrow_I, Arm.eta2, Fld.eta, Grp.eta]
            rw [eW]
            (repeat' (first | rfl | trivial | exact RowsEq.self okS | exact RowsEq.ofT okS rfl (Shp_zero _) rfl | exact RowsEq.snoc okS rfl | exact RowsEq.self okI | exact RowsEq.self okRA | exact List.length_append | refine And.intro ?_ ?_))
        · try simp only [hH, stdH, decide_eq_true_eq, decide_eq_false_iff_not, Bool.not_eq_true', Bool.not_eq_false', peta, ncast, Int.ofNat_eq_natCast, beq_iff_eq, bne_iff_ne, beq_eq_false_iff_ne, bne_eq_false_iff_eq, ne_eq, Classical.not_not, Int.toNat_natCast, vrow_I, Arm.eta2, Fld.eta, Grp.eta]
          exact ShpS _ _
        · simp only [hH, stdH, TlS]
          omega
        · simp only [hH, stdH, TlS]
          omega
        · simp only [hH, stdH, TlS]
          exact hw'
        · try simp only [hH, stdH, decide_eq_true_eq, decide_eq_false_iff_not, Bool.not_eq_true', Bool.not_eq_false', peta, ncast, Int.ofNat_eq_natCast, beq_iff_eq, bne_iff_ne, beq_eq_false_iff_ne, bne_eq_false_iff_eq, ne_eq, Classical.not_not, Int.toNat_natCast, vrow_I, Arm.eta2, Fld.eta, Grp.eta]
          first | omega | exact ⟨by omega, by omega⟩ | exact ⟨trivial, by omega, by omega⟩
        · simp only [hH, stdH, TlS, eW, eK, Int.toNat_natCast] at h2
          rw [if_neg (by decide)]
          refine ⟨⟨(k, out ++ [lnT (wordsB s) i (k - i)]), hk2, ?_, ?_⟩, by simp only; omega, ?_⟩
          · show (out ++ [_]).length ≤ k
            rw [List.length_append, List.length_singleton]; omega
          · by_cases h3 : k < (wordsB s).length
            · rw [decide_eq_true (by omega), cond_true, decide_eq_false_iff_not] at h2
              refine .inr ⟨h3, ?_⟩
              show wrapT s width = wrap2 width (out ++ [_]) _ _
              rw [hk3, dropW h3, wrap2_n (by omega)]
            · obtain rfl : k = (wordsB s).length := by omega
              refine .inl ⟨rfl, ?_⟩
              rw [hk3, List.drop_length]; rfl
          · rw [hI]
            (conv in matchSt _ _ _ _ => cbv); simp only [AllG, AllP, and_true, hH, stdH, ncast, Int.ofNat_eq_natCast, vrow_I, Arm.eta2, Fld.eta, Grp.eta]
            simp only [TlS, eK', Int.toNat_natCast]
            (repeat' (first | rfl | trivial | exact RowsEq.self okS | exact RowsEq.snocS rfl | exact List.length_append | refine And.intro ?_ ?_))
    · simp only [hH, stdH, decide_eq_true_eq, decide_eq_false_iff_not, Bool.not_eq_true', Bool.not_eq_false', peta, ncast, Int.ofNat_eq_natCast, beq_iff_eq, bne_iff_ne, beq_eq_false_iff_ne, bne_eq_false_iff_eq, ne_eq, Classical.not_not, Int.toNat_natCast, vrow_I, Arm.eta2, Fld.eta, Grp.eta] at h1
      have hx : i = (wordsB s).length ∧ wrapT s width = out := by
        rcases hx with hx | hx
        · exact hx
        · omega
      try simp only [hH, stdH, decide_eq_true_eq, decide_eq_false_iff_not, Bool.not_eq_true', Bool.not_eq_false', peta, ncast, Int.ofNat_eq_natCast, beq_iff_eq, bne_iff_ne, beq_eq_false_iff_ne, bne_eq_false_iff_eq, ne_eq, Classical.not_not, Int.toNat_natCast, vrow_I, Arm.eta2, Fld.eta, Grp.eta]
      rw [hx.2]
      first | exact RowsEq.self okS | exact ⟨RowsEq.self okS, rfl⟩
noncomputable def e_l23Fill : Entry := pureE 29 fun H a => match a with
  | [.lit (.string s), .lit (.int .i64 width)] => some (.vec 1 (H Nat fun _ => (wrapT s width).length) (rowsS H fun _ => wrapT s width), [H Prop fun _ => isM s = true])
  | _ => none
theorem eok_l23Fill : EntryOk Tryd.prog e_l23Fill := pureM_ok (by unfold isBody; kernel_rfl) (by
  intro a r ob e hob
  split at e
  · rename_i s width
    simp only [Option.some.injEq, Prod.mk.injEq] at e
    obtain ⟨rfl, rfl⟩ := e
    exact ConN.args (.cons .rfl (.cons .rfl .nil)) (c_l23Fill s width hob.1)
  · simp at e)
def lngW (ws : List ByteArray) : Nat := ws.foldl (fun m w => max m w.size) 0
theorem lngW_snoc {ws : List ByteArray} {i : Nat} (h : i < ws.length) : lngW (ws.take (i + 1)) = max (lngW (ws.take i)) (ws.getD i ByteArray.empty).size := by
  unfold lngW
  rw [List.take_succ_eq_append_getElem h, List.foldl_append, List.getD_eq_getElem?_getD, List.getElem?_eq_getElem h]
  rfl
theorem lngW_le {ws : List ByteArray} {k : Nat} : lngW ws ≤ k ↔ ∀ w ∈ ws, w.size ≤ k := by
  have : ∀ (ws : List ByteArray) (a : Nat), ws.foldl (fun m w => max m w.size) a ≤ k ↔ a ≤ k ∧ ∀ w ∈ ws, w.size ≤ k := by
    intro ws
    induction ws with
    | nil => intro a; simp
    | cons w ws ih =>
      intro a
      rw [List.foldl_cons, ih]
      constructor
      · rintro ⟨h1, h2⟩
        refine ⟨by omega, fun x hx => ?_⟩
        rcases List.mem_cons.1 hx with rfl | hx
        · omega
        · exact h2 x hx
      · rintro ⟨h1, h2⟩
        exact ⟨by have := h2 w (by simp); omega, fun x hx => h2 x (by simp [hx])⟩
  unfold lngW
  rw [this]; simp
theorem c_longest (s : ByteArray) (h0 : s.size ≤ 100000) : ConN Tryd.prog 30 [.lit (.string s)] [] 0 (.lit (.int .i64 (stdH Int fun _ => (lngW (wordsB s) : Nat)))) [] [] := by
  have hB : Base Tryd.prog (tabΓ [e_split]) tab := base_of tabOk (ents_cons eok_split <| ents_nil)
  refine con_m (N := 19) hB (draw_ok hB mixed) Tryd.func30 rfl rfl (fun H => [.lit (.string s)]) (fun _ => []) 0 (fun H => .lit (.int .i64 (H Int fun _ => (lngW (wordsB s) : Nat)))) (fun H => []) (fun _ => []) 200 (by simp) (fun x hx => ?_) (by simp [lk]) (by omega) (by simp) ?_
  · simp only [List.mem_cons, List.not_mem_nil, or_false] at hx
    rcases hx with rfl
    · exact .lit
  intro X hX hX0 H hH
  conv in Fin.chk _ _ => cbv
  try simp only [Plain_rowsA, Plain_rowsB, Plain_rowsF, Plain_rowsG, Plain_rowsI, Plain_rowsS, Plain_rowsU, Fin.satC_ret, Fin.satC_br, Fin.satC_need, Fin.satC_again, AllP, and_true, true_and, upd, List.length_nil, List.length_cons, Nat.zero_add, if_true, ncast, Int.ofNat_eq_natCast]
  have hl := words_len s
  refine ⟨?_, ?_⟩
  · try simp only [hH, stdH, decide_eq_true_eq, decide_eq_false_iff_not, Bool.not_eq_true', Bool.not_eq_false', peta, ncast, Int.ofNat_eq_natCast, beq_iff_eq, bne_iff_ne, beq_eq_false_iff_ne, bne_eq_false_iff_eq, ne_eq, Classical.not_not, Int.toNat_natCast, vrow_I, Arm.eta2, Fld.eta, Grp.eta]
    first | exact ⟨by omega, rfl⟩ | exact ⟨by omega, trivial⟩
  refine loop_a hB (draw_ok hB mixed) hX hX0 hH false (ι := { i : Nat // i ≤ (wordsB s).length }) 200 (fun i => [.i (H Int fun _ => (lngW ((wordsB s).take i.1) : Nat)), .i (H Int fun _ => (i.1 : Nat))]) (fun i => (wordsB s).length - i.1) (⟨0, by omega⟩) ?_ ?_
  · (conv in matchSt _ _ _ _ => cbv); simp only [AllG, AllP, and_true, hH, stdH, ncast, Int.ofNat_eq_natCast, vrow_I, Arm.eta2, Fld.eta, Grp.eta]
    (repeat' (first | exact RowsEq.self okS | rfl | trivial | omega | refine And.intro ?_ ?_))
  · intro I hI i
    conv in Fin.chk _ _ => cbv
    try simp only [Plain_rowsA, Plain_rowsB, Plain_rowsF, Plain_rowsG, Plain_rowsI, Plain_rowsS, Plain_rowsU, Fin.satC_ret, Fin.satC_br, Fin.satC_need, Fin.satC_again, AllP, and_true, true_and, upd, List.length_nil, List.length_cons, Nat.zero_add, if_true, ncast, Int.ofNat_eq_natCast]
    obtain ⟨i, hi⟩ := i
    refine ⟨fun h1 => ?_, fun h1 => ?_⟩
    · simp only [hH, stdH, decide_eq_true_eq, decide_eq_false_iff_not, Bool.not_eq_true', Bool.not_eq_false', peta, ncast, Int.ofNat_eq_natCast, beq_iff_eq, bne_iff_ne, beq_eq_false_iff_ne, bne_eq_false_iff_eq, ne_eq, Classical.not_not, Int.toNat_natCast, vrow_I, Arm.eta2, Fld.eta, Grp.eta] at h1
      repeat' (first | refine And.intro ?_ ?_ | intro _)
      all_goals try (simp only [hH, stdH]; omega)
      refine ⟨⟨i + 1, by omega⟩, by simp only; omega, ?_⟩
      rw [hI]
      (conv in matchSt _ _ _ _ => cbv); simp only [AllG, AllP, and_true, hH, stdH, ncast, Int.ofNat_eq_natCast, vrow_I, Arm.eta2, Fld.eta, Grp.eta]
      have eM : (if (((wordsB s).getD i ByteArray.empty).size : Int) > (lngW ((wordsB s).take i) : Nat) then (((wordsB s).getD i ByteArray.empty).size : Int) else (lngW ((wordsB s).take i) : Nat)) = ((lngW ((wordsB s).take (i + 1)) : Nat) : Int) := by
        rw [lngW_snoc (by omega)]
        split <;> omega
      simp only [Int.toNat_natCast]
      rw [w1 (by omega)]
      (repeat' (first | exact RowsEq.self okS | rfl | trivial | exact eM.symm | exact eM | omega | refine And.intro ?_ ?_))
    · simp only [hH, stdH, decide_eq_true_eq, decide_eq_false_iff_not, Bool.not_eq_true', Bool.not_eq_false', peta, ncast, Int.ofNat_eq_natCast, beq_iff_eq, bne_iff_ne, beq_eq_false_iff_ne, bne_eq_false_iff_eq, ne_eq, Classical.not_not, Int.toNat_natCast, vrow_I, Arm.eta2, Fld.eta, Grp.eta] at h1
      obtain rfl : i = (wordsB s).length := by omega
      try simp only [hH, stdH, decide_eq_true_eq, decide_eq_false_iff_not, Bool.not_eq_true', Bool.not_eq_false', peta, ncast, Int.ofNat_eq_natCast, beq_iff_eq, bne_iff_ne, beq_eq_false_iff_ne, bne_eq_false_iff_eq, ne_eq, Classical.not_not, Int.toNat_natCast, vrow_I, Arm.eta2, Fld.eta, Grp.eta]
      rw [List.take_length]
noncomputable def e_longest : Entry := pureE 30 fun H a => match a with
  | [.lit (.string s)] => some (.lit (.int .i64 (H Int fun _ => (lngW (wordsB s) : Nat))), [H Prop fun _ => s.size ≤ 100000])
  | _ => none
theorem eok_longest : EntryOk Tryd.prog e_longest := pureM_ok (by unfold isBody; kernel_rfl) (by
  intro a r ob e hob
  split at e
  · rename_i s
    simp only [Option.some.injEq, Prod.mk.injEq] at e
    obtain ⟨rfl, rfl⟩ := e
    exact ConN.args (.cons .rfl .nil) (c_longest s hob.1)
  · simp at e)
/-- The first width from k on, of n, at which the motto needs at most so many lines. -/
def fewF (s : ByteArray) (count : Int) (k : Nat) : Nat → Option Nat
  | 0 => none
  | n + 1 => if decide (((wrapT s (k : Nat)).length : Int) ≤ count) then some k else fewF s count (k + 1) n
def fewN (s : ByteArray) (count : Int) : Option Nat := fewF s count (lngW (wordsB s)) (41 - lngW (wordsB s))
def fewR (s : ByteArray) (count : Int) : Option Nat := if isM s && inB count 1 20 then fewN s count else none
def optI (o : Option Nat) : Int := ((o.getD 0 : Nat) : Int)
theorem lng_le {s : ByteArray} : lngW (wordsB s) ≤ s.size := lngW_le.2 fun _ h => words_sz h
theorem fewF_y {s : ByteArray} {count : Int} {k n : Nat} (h : ((wrapT s (k : Nat)).length : Int) ≤ count) : fewF s count k (n + 1) = some k := by
  unfold fewF; rw [decide_eq_true h]; rfl
theorem fewF_n {s : ByteArray} {count : Int} {k n : Nat} (h : ¬ ((wrapT s (k : Nat)).length : Int) ≤ count) : fewF s count k (n + 1) = fewF s count (k + 1) n := by
  conv => lhs; unfold fewF
  rw [decide_eq_false h]; rfl
theorem few_bad {s : ByteArray} {count : Int} (h : (isM s && inB count 1 20) = false) : fewR s count = none := by unfold fewR; rw [h]; rfl
theorem few_ok {s : ByteArray} {count : Int} (h : (isM s && inB count 1 20) = true) : fewR s count = fewN s count := by unfold fewR; rw [h]; rfl
theorem c_few (s : ByteArray) (count : Int)  : ConN Tryd.prog 15 [.lit (.string s), .lit (.int .i64 count)] [] 0 (.tup [.lit (.int .i64 (stdH Int fun _ => optI (fewR s count))), .lit (.bool (stdH Bool fun _ => (fewR s count).isSome))]) [] [] := by
  have hB : Base Tryd.prog (tabΓ [e_isMotto, e_inside, e_longest, e_wrapped]) tab := base_of tabOk (ents_cons eok_isMotto <| ents_cons eok_inside <| ents_cons eok_longest <| ents_cons eok_wrapped <| ents_nil)
  refine con_m (N := 28) hB (draw_ok hB mixed) Tryd.func15 rfl rfl (fun H => [.lit (.string s), .lit (.int .i64 count)]) (fun _ => []) 0 (fun H => .tup [.lit (.int .i64 (H Int fun _ => optI (fewR s count))), .lit (.bool (H Bool fun _ => (fewR s count).isSome))]) (fun H => []) (fun _ => []) 200 (by simp) (fun x hx => ?_) (by simp [lk]) (by omega) (by simp) ?_
  · simp only [List.mem_cons, List.not_mem_nil, or_false] at hx
    rcases hx with rfl | rfl
    · exact .lit
    · exact .lit
  intro X hX hX0 H hH
  conv in Fin.chk _ _ => cbv
  try simp only [Plain_rowsA, Plain_rowsB, Plain_rowsF, Plain_rowsG, Plain_rowsI, Plain_rowsS, Plain_rowsU, Fin.satC_ret, Fin.satC_br, Fin.satC_need, Fin.satC_again, AllP, and_true, true_and, upd, List.length_nil, List.length_cons, Nat.zero_add, if_true, ncast, Int.ofNat_eq_natCast]
  refine ⟨fun h => ?_, fun h => ⟨?_, ?_⟩⟩
  · simp only [hH, stdH, bif_no, Bool.not_eq_true'] at h ⊢
    rw [few_bad h]; exact ⟨rfl, rfl⟩
  · simp only [hH, stdH, bif_no, Bool.not_eq_false', Bool.and_eq_true] at h
    have := isM_sz h.1
    try simp only [hH, stdH, decide_eq_true_eq, decide_eq_false_iff_not, Bool.not_eq_true', Bool.not_eq_false', peta, ncast, Int.ofNat_eq_natCast, beq_iff_eq, bne_iff_ne, beq_eq_false_iff_ne, bne_eq_false_iff_eq, ne_eq, Classical.not_not, Int.toNat_natCast, vrow_I, Arm.eta2, Fld.eta, Grp.eta]
    omega
  simp only [hH, stdH, bif_no, Bool.not_eq_false'] at h
  rw [few_ok h]
  have hz := isM_sz (Bool.and_eq_true _ _ ▸ h).1
  have hg := lng_le (s := s)
  refine loop_a hB (draw_ok hB mixed) hX hX0 hH false (ι := { k : Nat // k ≤ 61 ∧ fewN s count = fewF s count k (41 - k) }) 200 (fun k => [.i (H Int fun _ => 0), .b (H Bool fun _ => false), .i (H Int fun _ => (k.1 : Nat))]) (fun k => 61 - k.1) (⟨lngW (wordsB s), by omega, rfl⟩) ?_ ?_
  · (conv in matchSt _ _ _ _ => cbv); simp only [AllG, AllP, and_true, hH, stdH, ncast, Int.ofNat_eq_natCast, vrow_I, Arm.eta2, Fld.eta, Grp.eta]
    (repeat' (first | exact RowsEq.self okS | rfl | trivial | omega | refine And.intro ?_ ?_))
  · intro I hI k
    conv in Fin.chk _ _ => cbv
    try simp only [Plain_rowsA, Plain_rowsB, Plain_rowsF, Plain_rowsG, Plain_rowsI, Plain_rowsS, Plain_rowsU, Fin.satC_ret, Fin.satC_br, Fin.satC_need, Fin.satC_again, AllP, and_true, true_and, upd, List.length_nil, List.length_cons, Nat.zero_add, if_true, ncast, Int.ofNat_eq_natCast]
    obtain ⟨k, hk, hf⟩ := k
    refine ⟨fun h1 => ?_, fun h1 => ?_⟩
    · simp only [hH, stdH, decide_eq_true_eq, decide_eq_false_iff_not, Bool.not_eq_true', Bool.not_eq_false', peta, ncast, Int.ofNat_eq_natCast, beq_iff_eq, bne_iff_ne, beq_eq_false_iff_ne, bne_eq_false_iff_eq, ne_eq, Classical.not_not, Int.toNat_natCast, vrow_I, Arm.eta2, Fld.eta, Grp.eta] at h1
      have e1 : 41 - k = (40 - k) + 1 := by omega
      refine ⟨⟨?_, ?_⟩, fun h2 => ?_, fun h2 => ?_⟩
      · try simp only [hH, stdH, decide_eq_true_eq, decide_eq_false_iff_not, Bool.not_eq_true', Bool.not_eq_false', peta, ncast, Int.ofNat_eq_natCast, beq_iff_eq, bne_iff_ne, beq_eq_false_iff_ne, bne_eq_false_iff_eq, ne_eq, Classical.not_not, Int.toNat_natCast, vrow_I, Arm.eta2, Fld.eta, Grp.eta]
        omega
      · try simp only [hH, stdH, decide_eq_true_eq, decide_eq_false_iff_not, Bool.not_eq_true', Bool.not_eq_false', peta, ncast, Int.ofNat_eq_natCast, beq_iff_eq, bne_iff_ne, beq_eq_false_iff_ne, bne_eq_false_iff_eq, ne_eq, Classical.not_not, Int.toNat_natCast, vrow_I, Arm.eta2, Fld.eta, Grp.eta]
        omega
      · simp only [hH, stdH, decide_eq_true_eq, decide_eq_false_iff_not, Bool.not_eq_true', Bool.not_eq_false', peta, ncast, Int.ofNat_eq_natCast, beq_iff_eq, bne_iff_ne, beq_eq_false_iff_ne, bne_eq_false_iff_eq, ne_eq, Classical.not_not, Int.toNat_natCast, vrow_I, Arm.eta2, Fld.eta, Grp.eta] at h2
        try simp only [hH, stdH, decide_eq_true_eq, decide_eq_false_iff_not, Bool.not_eq_true', Bool.not_eq_false', peta, ncast, Int.ofNat_eq_natCast, beq_iff_eq, bne_iff_ne, beq_eq_false_iff_ne, bne_eq_false_iff_eq, ne_eq, Classical.not_not, Int.toNat_natCast, vrow_I, Arm.eta2, Fld.eta, Grp.eta]
        rw [hf, e1, fewF_y h2]; exact ⟨rfl, rfl⟩
      · simp only [hH, stdH, decide_eq_true_eq, decide_eq_false_iff_not, Bool.not_eq_true', Bool.not_eq_false', peta, ncast, Int.ofNat_eq_natCast, beq_iff_eq, bne_iff_ne, beq_eq_false_iff_ne, bne_eq_false_iff_eq, ne_eq, Classical.not_not, Int.toNat_natCast, vrow_I, Arm.eta2, Fld.eta, Grp.eta] at h2
        refine ⟨⟨k + 1, by omega, ?_⟩, by simp only; omega, ?_⟩
        · rw [hf, e1, fewF_n h2, show 41 - (k + 1) = 40 - k by omega]
        · rw [hI]
          (conv in matchSt _ _ _ _ => cbv); simp only [AllG, AllP, and_true, hH, stdH, ncast, Int.ofNat_eq_natCast, vrow_I, Arm.eta2, Fld.eta, Grp.eta]
          rw [w1 (by omega)]
          (repeat' (first | exact RowsEq.self okS | rfl | trivial | omega | refine And.intro ?_ ?_))
    · simp only [hH, stdH, decide_eq_true_eq, decide_eq_false_iff_not, Bool.not_eq_true', Bool.not_eq_false', peta, ncast, Int.ofNat_eq_natCast, beq_iff_eq, bne_iff_ne, beq_eq_false_iff_ne, bne_eq_false_iff_eq, ne_eq, Classical.not_not, Int.toNat_natCast, vrow_I, Arm.eta2, Fld.eta, Grp.eta] at h1
      have e1 : 41 - k = 0 := by omega
      try simp only [hH, stdH, decide_eq_true_eq, decide_eq_false_iff_not, Bool.not_eq_true', Bool.not_eq_false', peta, ncast, Int.ofNat_eq_natCast, beq_iff_eq, bne_iff_ne, beq_eq_false_iff_ne, bne_eq_false_iff_eq, ne_eq, Classical.not_not, Int.toNat_natCast, vrow_I, Arm.eta2, Fld.eta, Grp.eta]
      rw [hf, e1]; exact ⟨rfl, rfl⟩
noncomputable def e_few : Entry := pureE 15 fun H a => match a with
  | [.lit (.string s), .lit (.int .i64 count)] => some (.tup [.lit (.int .i64 (H Int fun _ => optI (fewR s count))), .lit (.bool (H Bool fun _ => (fewR s count).isSome))], [])
  | _ => none
theorem eok_few : EntryOk Tryd.prog e_few := pureM_ok (by unfold isBody; kernel_rfl) (by
  intro a r ob e hob
  split at e
  · rename_i s count
    simp only [Option.some.injEq, Prod.mk.injEq] at e
    obtain ⟨rfl, rfl⟩ := e
    exact ConN.args (.cons .rfl (.cons .rfl .nil)) (c_few s count )
  · simp at e)
theorem c_fewS (s : ByteArray) (count : Int)  : ConN Tryd.prog 14 [.lit (.string s), .lit (.int .i64 count)] [] 0 (.tup [.lit (.int .i64 (stdH Int fun _ => optI (fewR s count))), .lit (.bool (stdH Bool fun _ => (fewR s count).isSome))]) [] [] := by
  have hB : Base Tryd.prog (tabΓ [e_motGood, e_l1In, e_l23Fits, e_l23Fill]) tab := base_of tabOk (ents_cons eok_motGood <| ents_cons eok_l1In <| ents_cons eok_l23Fits <| ents_cons eok_l23Fill <| ents_nil)
  refine con_m (N := 31) hB (draw_ok hB mixed) Tryd.func14 rfl rfl (fun H => [.lit (.string s), .lit (.int .i64 count)]) (fun _ => []) 0 (fun H => .tup [.lit (.int .i64 (H Int fun _ => optI (fewR s count))), .lit (.bool (H Bool fun _ => (fewR s count).isSome))]) (fun H => []) (fun _ => []) 200 (by simp) (fun x hx => ?_) (by simp [lk]) (by omega) (by simp) ?_
  · simp only [List.mem_cons, List.not_mem_nil, or_false] at hx
    rcases hx with rfl | rfl
    · exact .lit
    · exact .lit
  intro X hX hX0 H hH
  conv in Fin.chk _ _ => cbv
  try simp only [Plain_rowsA, Plain_rowsB, Plain_rowsF, Plain_rowsG, Plain_rowsI, Plain_rowsS, Plain_rowsU, Fin.satC_ret, Fin.satC_br, Fin.satC_need, Fin.satC_again, AllP, and_true, true_and, upd, List.length_nil, List.length_cons, Nat.zero_add, if_true, ncast, Int.ofNat_eq_natCast]
  refine ⟨fun h => ?_, fun h => ?_⟩
  · simp only [hH, stdH, bif_no, Bool.not_eq_true'] at h ⊢
    rw [few_bad h]; exact ⟨rfl, rfl⟩
  simp only [hH, stdH, bif_no, Bool.not_eq_false'] at h
  rw [few_ok h]
  have hz := isM_sz (Bool.and_eq_true _ _ ▸ h).1
  have hg := lng_le (s := s)
  have hp := words_pos s
  have hl1 : 1 ≤ lngW (wordsB s) := Nat.le_trans (word_ne (Bool.and_eq_true _ _ ▸ h).1 hp) (lngW_le.1 (Nat.le_refl _) _ (getD_mem hp))
  have hz1 : fewN s count = fewF s count (max 1 (lngW (wordsB s))) (41 - max 1 (lngW (wordsB s))) := by rw [show max 1 (lngW (wordsB s)) = lngW (wordsB s) by omega]; rfl
  refine loop_a hB (draw_ok hB mixed) hX hX0 hH false (ι := { k : Nat // 1 ≤ k ∧ k ≤ 41 ∧ fewN s count = fewF s count (max k (lngW (wordsB s))) (41 - max k (lngW (wordsB s))) }) 200 (fun k => [.i (H Int fun _ => 0), .b (H Bool fun _ => false), .i (H Int fun _ => (k.1 : Nat))]) (fun k => 61 - k.1) (⟨1, by omega, by omega, hz1⟩) ?_ ?_
  · (conv in matchSt _ _ _ _ => cbv); simp only [AllG, AllP, and_true, hH, stdH, ncast, Int.ofNat_eq_natCast, vrow_I, Arm.eta2, Fld.eta, Grp.eta]
    (repeat' (first | exact RowsEq.self okS | rfl | trivial | omega | refine And.intro ?_ ?_))
  · intro I hI k
    conv in Fin.chk _ _ => cbv
    try simp only [Plain_rowsA, Plain_rowsB, Plain_rowsF, Plain_rowsG, Plain_rowsI, Plain_rowsS, Plain_rowsU, Fin.satC_ret, Fin.satC_br, Fin.satC_need, Fin.satC_again, AllP, and_true, true_and, upd, List.length_nil, List.length_cons, Nat.zero_add, if_true, ncast, Int.ofNat_eq_natCast]
    obtain ⟨k, hk1, hk, hf⟩ := k
    refine ⟨fun h1 => ?_, fun h1 => ?_⟩
    · simp only [hH, stdH, decide_eq_true_eq, decide_eq_false_iff_not, Bool.not_eq_true', Bool.not_eq_false', peta, ncast, Int.ofNat_eq_natCast, beq_iff_eq, bne_iff_ne, beq_eq_false_iff_ne, bne_eq_false_iff_eq, ne_eq, Classical.not_not, Int.toNat_natCast, vrow_I, Arm.eta2, Fld.eta, Grp.eta] at h1
      have hb := Bool.and_eq_true _ _ ▸ h
      have e0 : fitB s (k : Nat) = decide (lngW (wordsB s) ≤ k) := by
        unfold fitB
        rw [hb.1, show inB ((k : Nat) : Int) 1 40 = true by unfold inB; simp; omega, Bool.eq_iff_iff, decide_eq_true_eq, lngW_le]
        simp
      refine ⟨?_, fun h2 => ?_, fun h2 => ?_⟩
      · try simp only [hH, stdH, decide_eq_true_eq, decide_eq_false_iff_not, Bool.not_eq_true', Bool.not_eq_false', peta, ncast, Int.ofNat_eq_natCast, beq_iff_eq, bne_iff_ne, beq_eq_false_iff_ne, bne_eq_false_iff_eq, ne_eq, Classical.not_not, Int.toNat_natCast, vrow_I, Arm.eta2, Fld.eta, Grp.eta]
        exact fun _ => hb.1
      · simp only [hH, stdH, e0] at h2
        by_cases hq : lngW (wordsB s) ≤ k
        · rw [decide_eq_true hq, cond_true, decide_eq_true_eq] at h2
          rw [show max k (lngW (wordsB s)) = k by omega, show 41 - k = (40 - k) + 1 by omega] at hf
          try simp only [hH, stdH, decide_eq_true_eq, decide_eq_false_iff_not, Bool.not_eq_true', Bool.not_eq_false', peta, ncast, Int.ofNat_eq_natCast, beq_iff_eq, bne_iff_ne, beq_eq_false_iff_ne, bne_eq_false_iff_eq, ne_eq, Classical.not_not, Int.toNat_natCast, vrow_I, Arm.eta2, Fld.eta, Grp.eta]
          rw [hf, fewF_y h2]; exact ⟨rfl, rfl⟩
        · rw [decide_eq_false hq] at h2; cases h2
      · simp only [hH, stdH, e0] at h2
        refine ⟨⟨k + 1, by omega, by omega, ?_⟩, by simp only; omega, ?_⟩
        · by_cases hq : lngW (wordsB s) ≤ k
          · rw [decide_eq_true hq, cond_true, decide_eq_false_iff_not] at h2
            rw [show max k (lngW (wordsB s)) = k by omega, show 41 - k = (40 - k) + 1 by omega, fewF_n h2] at hf
            rw [hf, show max (k + 1) (lngW (wordsB s)) = k + 1 by omega, show 41 - (k + 1) = 40 - k by omega]
          · rw [hf, show max (k + 1) (lngW (wordsB s)) = max k (lngW (wordsB s)) by omega]
        · rw [hI]
          (conv in matchSt _ _ _ _ => cbv); simp only [AllG, AllP, and_true, hH, stdH, ncast, Int.ofNat_eq_natCast, vrow_I, Arm.eta2, Fld.eta, Grp.eta]
          rw [w1 (by omega)]
          (repeat' (first | exact RowsEq.self okS | rfl | trivial | omega | refine And.intro ?_ ?_))
    · simp only [hH, stdH, decide_eq_true_eq, decide_eq_false_iff_not, Bool.not_eq_true', Bool.not_eq_false', peta, ncast, Int.ofNat_eq_natCast, beq_iff_eq, bne_iff_ne, beq_eq_false_iff_ne, bne_eq_false_iff_eq, ne_eq, Classical.not_not, Int.toNat_natCast, vrow_I, Arm.eta2, Fld.eta, Grp.eta] at h1
      have e1 : 41 - max k (lngW (wordsB s)) = 0 := by omega
      try simp only [hH, stdH, decide_eq_true_eq, decide_eq_false_iff_not, Bool.not_eq_true', Bool.not_eq_false', peta, ncast, Int.ofNat_eq_natCast, beq_iff_eq, bne_iff_ne, beq_eq_false_iff_ne, bne_eq_false_iff_eq, ne_eq, Classical.not_not, Int.toNat_natCast, vrow_I, Arm.eta2, Fld.eta, Grp.eta]
      rw [hf, e1]; exact ⟨rfl, rfl⟩
noncomputable def e_fewS : Entry := pureE 14 fun H a => match a with
  | [.lit (.string s), .lit (.int .i64 count)] => some (.tup [.lit (.int .i64 (H Int fun _ => optI (fewR s count))), .lit (.bool (H Bool fun _ => (fewR s count).isSome))], [])
  | _ => none
theorem eok_fewS : EntryOk Tryd.prog e_fewS := pureM_ok (by unfold isBody; kernel_rfl) (by
  intro a r ob e hob
  split at e
  · rename_i s count
    simp only [Option.some.injEq, Prod.mk.injEq] at e
    obtain ⟨rfl, rfl⟩ := e
    exact ConN.args (.cons .rfl (.cons .rfl .nil)) (c_fewS s count )
  · simp at e)
theorem c_lawFewestLines (s : ByteArray) (count : Int)  : ConN Tryd.prog 6 [.lit (.string s), .lit (.int .i64 count)] [] 0 (.lit (.bool (stdH Bool fun _ => true))) [] [] := by
  have hB : Base Tryd.prog (tabΓ [e_few, e_fewS]) tab := base_of tabOk (ents_cons eok_few <| ents_cons eok_fewS <| ents_nil)
  refine con_m (N := 32) hB (draw_ok hB mixed) Tryd.func6 rfl rfl (fun H => [.lit (.string s), .lit (.int .i64 count)]) (fun _ => []) 0 (fun H => .lit (.bool (H Bool fun _ => true))) (fun H => []) (fun _ => []) 200 (by simp) (fun x hx => ?_) (by simp [lk]) (by omega) (by simp) ?_
  · simp only [List.mem_cons, List.not_mem_nil, or_false] at hx
    rcases hx with rfl | rfl
    · exact .lit
    · exact .lit
  intro X hX hX0 H hH
  conv in Fin.chk _ _ => cbv
  try simp only [Plain_rowsA, Plain_rowsB, Plain_rowsF, Plain_rowsG, Plain_rowsI, Plain_rowsS, Plain_rowsU, Fin.satC_ret, Fin.satC_br, Fin.satC_need, Fin.satC_again, AllP, and_true, true_and, upd, List.length_nil, List.length_cons, Nat.zero_add, if_true, ncast, Int.ofNat_eq_natCast]
  subst hH
  simp only [stdH]
  exact ⟨fun _ => trivial, fun _ => ⟨fun h => by simp at h, fun _ => trivial⟩⟩
noncomputable def e_lawFewestLines : Entry := pureE 6 fun H a => match a with
  | [.lit (.string s), .lit (.int .i64 count)] => some (.lit (.bool (H Bool fun _ => true)), [])
  | _ => none
theorem eok_lawFewestLines : EntryOk Tryd.prog e_lawFewestLines := pureM_ok (by unfold isBody; kernel_rfl) (by
  intro a r ob e hob
  split at e
  · rename_i s count
    simp only [Option.some.injEq, Prod.mk.injEq] at e
    obtain ⟨rfl, rfl⟩ := e
    exact ConN.args (.cons .rfl (.cons .rfl .nil)) (c_lawFewestLines s count )
  · simp at e)
theorem law_FewestLines (s : ByteArray) (count : Int) : ConN Tryd.prog 6 [.lit (.string s), .lit (.int .i64 count)] [] 0 (.lit (.bool true)) [] [] := c_lawFewestLines s count

end Go.Proofs.YtbgmlocolacnpaaDoor.AM
