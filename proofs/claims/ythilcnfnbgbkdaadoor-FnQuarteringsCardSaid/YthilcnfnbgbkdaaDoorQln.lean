import Derived.Test.YthilcnfnbgbkdaaDoorAmT
import Derived.Test.YthilcnfnbgbkdaaDoorAtx
import Derived.Test.YthilcnfnbgbkdaaDoorQtr
import Derived.Test.YthilcnfnbgbkdaaDoorNum
import Derived.Test.YthilcnfnbgbkdaaDoorShf
import Derived.Test.YthilcnfnbgbkdaaDoorWra
import Derived.Test.YthilcnfnbgbkdaaDoorExm
set_option linter.unusedVariables false
set_option linter.unusedSimpArgs false
set_option maxRecDepth 100000
set_option maxHeartbeats 4000000
set_option cbv.maxSteps 3000000
namespace Go.Proofs.YthilcnfnbgbkdaaDoor.AM
/- Small numbers as texts; lines of quarterings; conditions: none. -/
def numD (i : Nat) : ByteArray := ⟨(Lib.decDigits i).toArray⟩
theorem c_itoaS (x : Int) (h : 0 ≤ x ∧ x ≤ 99) : Con Tryd.prog 22 [.lit (.int .i64 x)] [] (.lit (.string (numD x.toNat))) [] :=
  con_below (l := [.int .i64 x]) (fun _ => .lit rfl) fun w _ => by
    have := Tryd.strconv_Itoa_small x.toNat (by omega) w
    rw [show ((x.toNat : Nat) : Int) = x by omega] at this
    exact this.mono fun e w' ⟨h1, h2⟩ => ⟨h1, by subst h2; exact .refl _ _⟩
noncomputable def e_itoaS : Entry := pureE 22 fun H a => match a with
  | [.lit (.int .i64 x)] => some (.lit (.string (H ByteArray fun _ => (numD (x).toNat))), [H Prop fun _ => 0 ≤ x ∧ x ≤ 99])
  | _ => none
theorem eok_itoaS : EntryOk Tryd.prog e_itoaS := pureE_ok (by unfold isBody; kernel_rfl) (by
  intro a r ob e hob
  split at e
  · simp only [Option.some.injEq, Prod.mk.injEq] at e
    obtain ⟨rfl, rfl⟩ := e
    obtain ⟨h0, _⟩ := hob
    exact c_itoaS _ h0
  · simp at e)
/-- A call that is never reached. -/
theorem numD_one {i : Nat} (h : i < 10) : numD i = ⟨⟨[UInt8.ofNat (48 + i)]⟩⟩ := by unfold numD; rw [Lib.decDigits_one h]
theorem numD_step {i : Nat} (h : ¬ i < 10) : numD i = numD (i / 10) ++ ⟨⟨[UInt8.ofNat (48 + i % 10)]⟩⟩ := by
  unfold numD
  rw [Lib.decDigits, dif_neg h]
  apply ByteArray.ext; apply Array.ext'
  simp
theorem dig_at {i : Nat} (h : i < 10) : ((⟨⟨[48, 49, 50, 51, 52, 53, 54, 55, 56, 57]⟩⟩ : ByteArray)).extract i (i + 1) = ⟨⟨[UInt8.ofNat (48 + i)]⟩⟩ := by
  have : ∀ i : Nat, i < 10 → ((⟨⟨[48, 49, 50, 51, 52, 53, 54, 55, 56, 57]⟩⟩ : ByteArray)).extract i (i + 1) = (⟨⟨[UInt8.ofNat (48 + i)]⟩⟩ : ByteArray) := by decide
  exact this i h
theorem numD_sz {i : Nat} (h : i < 100) : (numD i).size ≤ 2 := by
  by_cases h1 : i < 10
  · rw [numD_one h1]; exact Nat.le_succ 1
  · rw [numD_step h1, numD_one (by omega)]; exact Nat.le_refl 2
def qln (i : Nat) (a : Arm) : ByteArray := numD (i + 1) ++ ((⟨⟨[46, 32]⟩⟩ : ByteArray) ++ armT a)
def qlT (l : List Arm) : List ByteArray := (List.range l.length).map fun i => qln i (l.getD i default)
def qlK (l : List Arm) (k : Nat) : List ByteArray := (List.range k).map fun i => qln i (l.getD i default)
theorem qlK_s (l : List Arm) (k : Nat) : qlK l (k + 1) = qlK l k ++ [qln k (l.getD k default)] := by simp [qlK, List.range_succ]
theorem qlK_len (l : List Arm) (k : Nat) : (qlK l k).length = k := by simp [qlK]
theorem okQ_ok {l : List Arm} (h : okQ l = true) {i : Nat} (hi : i < l.length) : okA (l.getD i default) = true := by
  cases e : okA (l.getD i default) with
  | true => rfl
  | false => rw [okQ_bad hi e] at h; cases h
theorem qln_sz {i : Nat} (h : i < 99) (a : Arm) : (qln i a).size ≤ 5010 := by
  have h1 := numD_sz (i := i + 1) (by omega); have h2 := armT_sz a
  unfold qln
  simp only [ByteArray.size_append, bsz, List.length_cons, List.length_nil]; omega
theorem qlT_K (l : List Arm) : qlT l = qlK l l.length := rfl
theorem c_QLinesY (list : List Arm) (h0 : list.length ≤ 1048576) (h1 : okQ list = true) : ConN Tryd.prog 12 [.vec 15 (stdH Nat fun _ => (list).length) (rowsA stdH fun _ => list)] [] 0 (.tup [.slc 0 0 1 (stdH Nat fun _ => (qlT list).length), .lit (.bool (stdH Bool fun _ => true))]) [.rows 1 (stdH Nat fun _ => (qlT list).length) (rowsS stdH fun _ => qlT list) 9] [] := by
  have hB : Base Tryd.prog (tabΓ [e_validQ, e_itoaS, e_armText]) tabO := base_of tabOkO (ents_cons eok_validQ <| ents_cons eok_itoaS <| ents_cons eok_armText <| ents_nil)
  refine con_m (N := 30) hB (draw_ok hB mixed) Tryd.func12 rfl rfl (fun H => [.vec 15 (H Nat fun _ => (list).length) (rowsA H fun _ => list)]) (fun _ => []) 0 (fun H => .tup [.slc 0 0 1 (H Nat fun _ => (qlT list).length), .lit (.bool (H Bool fun _ => true))]) (fun H => [.rows 1 (H Nat fun _ => (qlT list).length) (rowsS H fun _ => qlT list) 9]) (fun _ => []) 200 (by simp) (fun x hx => ?_) (by simp [lk]) (by omega) (by simp) ?_
  · simp only [List.mem_cons, List.not_mem_nil, or_false] at hx
    rcases hx with rfl
    · exact vl_bl okRA list _
  intro X hX hX0 H hH
  conv in Fin.chk _ _ => cbv
  try simp only [Plain_rowsA, Plain_rowsB, Plain_rowsC, Plain_rowsF, Plain_rowsG, Plain_rowsI, Plain_rowsS, Plain_rowsU, Fin.satC_ret, Fin.satC_br, Fin.satC_need, Fin.satC_again, AllP, and_true, true_and, upd, List.length_nil, List.length_cons, Nat.zero_add, if_true, ncast, Int.ofNat_eq_natCast]
  have hl := okQ_len h1
  rw [qlT_K]
  refine ⟨⟨?_, ?_⟩, fun h => ?_, fun h => ?_⟩
  · try simp only [hH, stdH, decide_eq_true_eq, decide_eq_false_iff_not, Bool.not_eq_true', Bool.not_eq_false', peta, ncast, Int.ofNat_eq_natCast, beq_iff_eq, bne_iff_ne, beq_eq_false_iff_ne, bne_eq_false_iff_eq, ne_eq, Classical.not_not, Int.toNat_natCast, vrow_I, Arm.eta2, Fld.eta, Grp.eta]
    exact Shp_A _ _
  · try simp only [hH, stdH, decide_eq_true_eq, decide_eq_false_iff_not, Bool.not_eq_true', Bool.not_eq_false', peta, ncast, Int.ofNat_eq_natCast, beq_iff_eq, bne_iff_ne, beq_eq_false_iff_ne, bne_eq_false_iff_eq, ne_eq, Classical.not_not, Int.toNat_natCast, vrow_I, Arm.eta2, Fld.eta, Grp.eta]
    simp only [Tl_A]; omega
  · exfalso
    simp only [hH, stdH, Tl_A, h1] at h; simp at h
  refine loop_a hB (draw_ok hB mixed) hX hX0 hH false (ι := { i : Nat // i ≤ list.length }) 200 (fun i => [.r (H Nat fun _ => (qlK list i.1).length) (rowsS H fun _ => qlK list i.1), .i (H Int fun _ => (i.1 : Nat))]) (fun i => list.length - i.1) (⟨0, by omega⟩) ?_ ?_
  · (conv in matchSt _ _ _ _ => cbv); simp only [AllG, AllP, and_true, hH, stdH, ncast, Int.ofNat_eq_natCast, vrow_I, Arm.eta2, Fld.eta, Grp.eta]
    (repeat' (first | rfl | trivial | exact RowsEq.self okRA | exact RowsEq.self okS | exact RowsEq.ofT okS rfl (Shp_zero _) rfl | omega | refine And.intro ?_ ?_))
  · intro I hI i
    conv in Fin.chk _ _ => cbv
    try simp only [Plain_rowsA, Plain_rowsB, Plain_rowsC, Plain_rowsF, Plain_rowsG, Plain_rowsI, Plain_rowsS, Plain_rowsU, Fin.satC_ret, Fin.satC_br, Fin.satC_need, Fin.satC_again, AllP, and_true, true_and, upd, List.length_nil, List.length_cons, Nat.zero_add, if_true, ncast, Int.ofNat_eq_natCast]
    obtain ⟨i, hi⟩ := i
    refine ⟨fun h3 => ?_, fun h3 => ?_⟩
    · simp only [hH, stdH, decide_eq_true_eq, decide_eq_false_iff_not, Bool.not_eq_true', Bool.not_eq_false', peta, ncast, Int.ofNat_eq_natCast, beq_iff_eq, bne_iff_ne, beq_eq_false_iff_ne, bne_eq_false_iff_eq, ne_eq, Classical.not_not, Int.toNat_natCast, vrow_I, Arm.eta2, Fld.eta, Grp.eta] at h3
      have hz := numD_sz (i := i + 1) (by omega)
      have hy := armT_sz (list.getD i default)
      have ha := okQ_ok h1 (i := i) (by omega)
      have eW : IntKind.i64.wrap ((i : Int) + 1) = ((i + 1 : Nat) : Int) := w1 (by omega)
      repeat' (first | refine And.intro ?_ ?_ | intro _)
      all_goals try (first | (simp only [hH, stdH]; done) | (simp only [hH, stdH, eW, Int.toNat_natCast, qlK_len, Arm.eta2, Fld.eta, Grp.eta]; first | omega | exact ha | exact trivial | exact ⟨by omega, by omega⟩ | (simp only [ByteArray.size_append, bsz, List.length_cons, List.length_nil]; omega)))
      refine ⟨⟨i + 1, by omega⟩, by simp only; omega, ?_⟩
      rw [hI]
      (conv in matchSt _ _ _ _ => cbv); simp only [AllG, AllP, and_true, hH, stdH, ncast, Int.ofNat_eq_natCast, vrow_I, Arm.eta2, Fld.eta, Grp.eta]
      rw [eW, qlK_s]
      simp only [Int.toNat_natCast]
      (repeat' (first | rfl | trivial | exact RowsEq.self okRA | exact RowsEq.self okS | exact RowsEq.snocS (by unfold qln; simp only [ByteArray.append_assoc]) | exact List.length_append | refine And.intro ?_ ?_))
    · simp only [hH, stdH, decide_eq_true_eq, decide_eq_false_iff_not, Bool.not_eq_true', Bool.not_eq_false', peta, ncast, Int.ofNat_eq_natCast, beq_iff_eq, bne_iff_ne, beq_eq_false_iff_ne, bne_eq_false_iff_eq, ne_eq, Classical.not_not, Int.toNat_natCast, vrow_I, Arm.eta2, Fld.eta, Grp.eta] at h3
      obtain rfl : i = list.length := by omega
      try simp only [hH, stdH, decide_eq_true_eq, decide_eq_false_iff_not, Bool.not_eq_true', Bool.not_eq_false', peta, ncast, Int.ofNat_eq_natCast, beq_iff_eq, bne_iff_ne, beq_eq_false_iff_ne, bne_eq_false_iff_eq, ne_eq, Classical.not_not, Int.toNat_natCast, vrow_I, Arm.eta2, Fld.eta, Grp.eta]
      (repeat' (first | rfl | trivial | exact RowsEq.self okS | refine And.intro ?_ ?_))
noncomputable def e_QLinesY : Entry := pureN 12 fun H a => match a with
  | [.vec 15 listn listf] => some (fun nx => .tup [.slc nx 0 1 (H Nat fun _ => (qlT (Tl rowA listn listf)).length), .lit (.bool (H Bool fun _ => true))], [.rows 1 (H Nat fun _ => (qlT (Tl rowA listn listf)).length) (rowsS H fun _ => qlT (Tl rowA listn listf)) 9], [H Prop fun _ => Shp rowA listn listf, H Prop fun _ => (Tl rowA listn listf).length ≤ 1048576, H Prop fun _ => okQ (Tl rowA listn listf) = true])
  | _ => none
theorem eok_QLinesY : EntryOk Tryd.prog e_QLinesY := pureN_ok (by unfold isBody; kernel_rfl) (by
  intro a r nb ob e hob
  split at e
  · rename_i listn listf
    simp only [Option.some.injEq, Prod.mk.injEq] at e
    obtain ⟨rfl, rfl, rfl⟩ := e
    refine ⟨ConN.args (.cons (.toT okRA rfl hob.1) .nil) (c_QLinesY (Tl rowA listn listf) hob.2.1 hob.2.2.1), fun x hx => ?_, fun nx => ?_, fun b hb => ?_⟩
    · simp only [List.mem_cons, List.not_mem_nil, or_false] at hx
      rcases hx with rfl
      · exact (hob.1).bl okRA _
    · (first | exact .slc ⟨by omega, by simp⟩ (by omega) | (refine .tup rfl (fun c x y hx hy => ?_); rcases c with _ | _ | _ | c <;> simp at hx hy <;> (subst hx; subst hy; first | exact .slc ⟨by omega, by simp⟩ (by omega) | exact .pl .lit | exact .pl (blq_ok 4 rfl))))
    · simp only [List.mem_cons, List.not_mem_nil, or_false] at hb; subst hb; exact bT_bl okS _ (fun _ => qlT (Tl rowA listn listf)) _
  · simp at e)
theorem c_QLinesN (list : List Arm) (h0 : list.length ≤ 1048576) (h1 : okQ list = false) : ConN Tryd.prog 12 [.vec 15 (stdH Nat fun _ => (list).length) (rowsA stdH fun _ => list)] [] 0 (.tup [.lit (.slice none 0 0), .lit (.bool (stdH Bool fun _ => false))]) [] [] := by
  have hB : Base Tryd.prog (tabΓ [e_validQ, e_itoaS, e_armText]) tabO := base_of tabOkO (ents_cons eok_validQ <| ents_cons eok_itoaS <| ents_cons eok_armText <| ents_nil)
  refine con_m (N := 30) hB (draw_ok hB mixed) Tryd.func12 rfl rfl (fun H => [.vec 15 (H Nat fun _ => (list).length) (rowsA H fun _ => list)]) (fun _ => []) 0 (fun H => .tup [.lit (.slice none 0 0), .lit (.bool (H Bool fun _ => false))]) (fun H => []) (fun _ => []) 200 (by simp) (fun x hx => ?_) (by simp [lk]) (by omega) (by simp) ?_
  · simp only [List.mem_cons, List.not_mem_nil, or_false] at hx
    rcases hx with rfl
    · exact vl_bl okRA list _
  intro X hX hX0 H hH
  conv in Fin.chk _ _ => cbv
  try simp only [Plain_rowsA, Plain_rowsB, Plain_rowsC, Plain_rowsF, Plain_rowsG, Plain_rowsI, Plain_rowsS, Plain_rowsU, Fin.satC_ret, Fin.satC_br, Fin.satC_need, Fin.satC_again, AllP, and_true, true_and, upd, List.length_nil, List.length_cons, Nat.zero_add, if_true, ncast, Int.ofNat_eq_natCast]
  refine ⟨⟨?_, ?_⟩, fun h => ?_, fun h => ?_⟩
  · try simp only [hH, stdH, decide_eq_true_eq, decide_eq_false_iff_not, Bool.not_eq_true', Bool.not_eq_false', peta, ncast, Int.ofNat_eq_natCast, beq_iff_eq, bne_iff_ne, beq_eq_false_iff_ne, bne_eq_false_iff_eq, ne_eq, Classical.not_not, Int.toNat_natCast, vrow_I, Arm.eta2, Fld.eta, Grp.eta]
    exact Shp_A _ _
  · try simp only [hH, stdH, decide_eq_true_eq, decide_eq_false_iff_not, Bool.not_eq_true', Bool.not_eq_false', peta, ncast, Int.ofNat_eq_natCast, beq_iff_eq, bne_iff_ne, beq_eq_false_iff_ne, bne_eq_false_iff_eq, ne_eq, Classical.not_not, Int.toNat_natCast, vrow_I, Arm.eta2, Fld.eta, Grp.eta]
    simp only [Tl_A]; omega
  · try simp only [hH, stdH, decide_eq_true_eq, decide_eq_false_iff_not, Bool.not_eq_true', Bool.not_eq_false', peta, ncast, Int.ofNat_eq_natCast, beq_iff_eq, bne_iff_ne, beq_eq_false_iff_ne, bne_eq_false_iff_eq, ne_eq, Classical.not_not, Int.toNat_natCast, vrow_I, Arm.eta2, Fld.eta, Grp.eta]
  · exfalso
    simp only [hH, stdH, Tl_A, h1] at h; simp at h
noncomputable def e_QLinesN : Entry := pureE 12 fun H a => match a with
  | [.vec 15 listn listf] => some (.tup [.lit (.slice none 0 0), .lit (.bool (H Bool fun _ => false))], [H Prop fun _ => Shp rowA listn listf, H Prop fun _ => (Tl rowA listn listf).length ≤ 1048576, H Prop fun _ => okQ (Tl rowA listn listf) = false])
  | _ => none
theorem eok_QLinesN : EntryOk Tryd.prog e_QLinesN := pureM_ok (by unfold isBody; kernel_rfl) (by
  intro a r ob e hob
  split at e
  · rename_i listn listf
    simp only [Option.some.injEq, Prod.mk.injEq] at e
    obtain ⟨rfl, rfl⟩ := e
    exact ConN.args (.cons (.toT okRA rfl hob.1) .nil) (c_QLinesN (Tl rowA listn listf) hob.2.1 hob.2.2.1)
  · simp at e)
def noTx : List ByteArray := []

end Go.Proofs.YthilcnfnbgbkdaaDoor.AM
