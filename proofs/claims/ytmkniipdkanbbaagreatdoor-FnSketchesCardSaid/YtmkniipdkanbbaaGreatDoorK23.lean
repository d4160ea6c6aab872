/- Lemmas and contracts (Pad); conditions: none. -/
import Derived.Test.YtmkniipdkanbbaaGreatDoorK04
import Derived.Test.YtmkniipdkanbbaaGreatDoorK22
set_option linter.unusedVariables false
set_option linter.unusedSimpArgs false
set_option maxRecDepth 100000
set_option maxHeartbeats 4000000
set_option cbv.maxSteps 3000000
namespace Go.Proofs.YtmkniipdkanbbaaGreatDoor.AM
/- The program's parsers of ordinaries and arms; conditions: none. -/
theorem c_isOrd (o : Int) (l : Int) (t : Int)  : ConN Tryz.prog 81 [.lit (.int .i64 o), .lit (.int .i64 l), .lit (.int .i64 t)] [] 0 (.lit (.bool (stdH Bool fun _ => okO ⟨o, l, t⟩))) [] [] := by
  have hB : Base Tryz.prog (tabΓ [e_inside, e_isLine, e_IsTincture]) tab := base_of tabOk (ents_cons eok_inside <| ents_cons eok_isLine <| ents_cons eok_IsTincture <| ents_nil)
  refine con_m (N := 17) hB (draw_ok hB mixed) Tryz.func81 rfl rfl (fun H => [.lit (.int .i64 o), .lit (.int .i64 l), .lit (.int .i64 t)]) (fun _ => []) 0 (fun H => .lit (.bool (H Bool fun _ => okO ⟨o, l, t⟩))) (fun H => []) (fun _ => []) 60 (by simp) (fun x hx => ?_) (by simp [lk]) (by omega) (by simp) ?_
  · simp only [zqu] at hx
    rcases hx with rfl | rfl | rfl
    · exact .lit
    · exact .lit
    · exact .lit
  intro X hX hX0 H hH
  conv in Fin.chk _ _ => cbv
  try simp only [zqs, Plain_rowsC, zqx, AllP, zqw, upd, if_true]
  subst hH
  simp only [stdH]
  show (inB o 1 7 && (inB l 0 4 && inB t 1 9)) = _
  cases inB o 1 7 <;> cases inB l 0 4 <;> cases inB t 1 9 <;> rfl
noncomputable def e_isOrd : Entry := pureE 81 fun H a => match a with
  | [.lit (.int .i64 o), .lit (.int .i64 l), .lit (.int .i64 t)] => some (.lit (.bool (H Bool fun _ => okO ⟨o, l, t⟩)), [])
  | _ => none
theorem eok_isOrd : EntryOk Tryz.prog e_isOrd := pureM_ok (by unfold isBody; kernel_rfl) (by
  intro a r ob e hob
  split at e
  · rename_i o l t
    simp only [zqt] at e
    obtain ⟨rfl, rfl⟩ := e
    exact ConN.args (.cons .rfl (.cons .rfl (.cons .rfl .nil))) (c_isOrd o l t )
  · simp at e)
theorem c_ordTx (o : Int) (l : Int) (t : Int)  : ConN Tryz.prog 124 [.lit (.int .i64 o), .lit (.int .i64 l), .lit (.int .i64 t)] [] 0 (.tup [.lit (.string (stdH ByteArray fun _ => if okO ⟨o, l, t⟩ then oT ⟨o, l, t⟩ else ByteArray.empty)), .lit (.bool (stdH Bool fun _ => okO ⟨o, l, t⟩))]) [] [] := by
  have hB : Base Tryz.prog (tabΓ [e_isOrd, e_ordStart, e_tinWords]) tab := base_of tabOk (ents_cons eok_isOrd <| ents_cons eok_ordStart <| ents_cons eok_tinWords <| ents_nil)
  refine con_m (N := 23) hB (draw_ok hB mixed) Tryz.func124 rfl rfl (fun H => [.lit (.int .i64 o), .lit (.int .i64 l), .lit (.int .i64 t)]) (fun _ => []) 0 (fun H => .tup [.lit (.string (H ByteArray fun _ => if okO ⟨o, l, t⟩ then oT ⟨o, l, t⟩ else ByteArray.empty)), .lit (.bool (H Bool fun _ => okO ⟨o, l, t⟩))]) (fun H => []) (fun _ => []) 100 (by simp) (fun x hx => ?_) (by simp [lk]) (by omega) (by simp) ?_
  · simp only [zqu] at hx
    rcases hx with rfl | rfl | rfl
    · exact .lit
    · exact .lit
    · exact .lit
  intro X hX hX0 H hH
  conv in Fin.chk _ _ => cbv
  try simp only [zqs, Plain_rowsC, zqx, AllP, zqw, upd, if_true]
  subst hH
  simp only [stdH]
  have s1 := ordS_sz o l
  have s2 := tinL_sz t
  cases hg : okO ⟨o, l, t⟩
  · simp only [Bool.not_false, Bool.false_eq_true, if_false]
    (repeat' (first | with_reducible exact True.intro | rfl | refine And.intro ?_ ?_ | (intro h; first | (cases h; done) | skip) | trivial))
  · obtain ⟨b1, b2, b3⟩ := okO_b hg
    simp only at b1 b2 b3
    have eT : IntKind.i64.wrap (t - 1) = t - 1 := wi (by omega) (by omega)
    have l9 : (tinL.length : Int) = 9 := rfl
    simp only [Bool.not_true, if_true, eT, wordOf_eq, l9]
    repeat' (first | rfl | exact trivial | exact b1 | exact b2 | refine And.intro ?_ ?_ | (intro h; first | (cases h; done) | skip) | omega | (simp only [ByteArray.size_append, bsz, List.length_cons, List.length_nil]; omega) | (simp only [ByteArray.append_assoc]; rfl))
noncomputable def e_ordTx : Entry := pureE 124 fun H a => match a with
  | [.lit (.int .i64 o), .lit (.int .i64 l), .lit (.int .i64 t)] => some (.tup [.lit (.string (H ByteArray fun _ => if okO ⟨o, l, t⟩ then oT ⟨o, l, t⟩ else ByteArray.empty)), .lit (.bool (H Bool fun _ => okO ⟨o, l, t⟩))], [])
  | _ => none
theorem eok_ordTx : EntryOk Tryz.prog e_ordTx := pureM_ok (by unfold isBody; kernel_rfl) (by
  intro a r ob e hob
  split at e
  · rename_i o l t
    simp only [zqt] at e
    obtain ⟨rfl, rfl⟩ := e
    exact ConN.args (.cons .rfl (.cons .rfl (.cons .rfl .nil))) (c_ordTx o l t )
  · simp at e)
theorem condO {C : Od} {s : ByteArray} : (bif !okO C then true else !((if okO C = true then oT C else ByteArray.empty).toList == s.toList)) = !decide (okO C = true ∧ oT C = s) := by
  rw [beqT]
  cases h : okO C <;> simp
theorem c_parseO (s : ByteArray) (h0 : s.size ≤ 4000000) : ConN Tryz.prog 68 [.lit (.string s)] [] 0 (.tup [.lit (.int .i64 (stdH Int fun _ => ((pO s).getD zO).o)), .lit (.int .i64 (stdH Int fun _ => ((pO s).getD zO).l)), .lit (.int .i64 (stdH Int fun _ => ((pO s).getD zO).t)), .lit (.bool (stdH Bool fun _ => (pO s).isSome))]) [] [] := by
  have hB : Base Tryz.prog (tabΓ [e_split, e_ordWords, e_linWords, e_idxS, e_parseTin, e_ordTx]) tab := base_of tabOk (ents_cons eok_split <| ents_cons eok_ordWords <| ents_cons eok_linWords <| ents_cons eok_idxS <| ents_cons eok_parseTin <| ents_cons eok_ordTx <| ents_nil)
  refine con_m (N := 65) hB (draw_ok hB mixed) Tryz.func68 rfl rfl (fun H => [.lit (.string s)]) (fun _ => []) 0 (fun H => .tup [.lit (.int .i64 (H Int fun _ => ((pO s).getD zO).o)), .lit (.int .i64 (H Int fun _ => ((pO s).getD zO).l)), .lit (.int .i64 (H Int fun _ => ((pO s).getD zO).t)), .lit (.bool (H Bool fun _ => (pO s).isSome))]) (fun H => []) (fun _ => []) 200 (by simp) (fun x hx => ?_) (by simp [lk]) (by omega) (by simp) ?_
  · simp only [zqu] at hx
    rcases hx with rfl
    · exact .lit
  intro X hX hX0 H hH
  conv in Fin.chk _ _ => cbv
  try simp only [zqs, Plain_rowsC, zqx, AllP, zqw, upd, if_true]
  subst hH
  have hl := words_len s
  have z1 : Int.toNat 1 = 1 := rfl
  have z2 : Int.toNat 2 = 2 := rfl
  have i1 := ixS_ge ordL ((wordsB s).getD 1 ByteArray.empty)
  have i2 := ixS_ge linL ((wordsB s).getD 2 ByteArray.empty)
  have n1 : (ordL.length : Int) = 7 := rfl
  have n2 : (linL.length : Int) = 4 := rfl
  have m1 : ordL.length = 7 := rfl
  have m2 : linL.length = 4 := rfl
  have w1' : IntKind.i64.wrap (ixS ordL ((wordsB s).getD 1 ByteArray.empty) + 1) = ixS ordL ((wordsB s).getD 1 ByteArray.empty) + 1 := wi (by omega) (by omega)
  have w2' : IntKind.i64.wrap (ixS linL ((wordsB s).getD 2 ByteArray.empty) + 1) = ixS linL ((wordsB s).getD 2 ByteArray.empty) + 1 := wi (by omega) (by omega)
  have eb : (bif decide (((wordsB s).length : Int) < 3) then true else decide (4 < ((wordsB s).length : Int))) = !decide (3 ≤ (wordsB s).length ∧ (wordsB s).length ≤ 4) := by
    rw [Bool.eq_iff_iff]
    simp only [bif_or, Bool.or_eq_true, zqa, zqc, zqb]
    omega
  simp only [stdH, TlS', ShpS']
  simp only [z1, z2, w1', w2', eb, m1, m2]
  refine ⟨⟨by omega, rfl⟩, fun h => ?_, fun h => ?_⟩
  · rw [Bool.not_eq_true', decide_eq_false_iff_not] at h
    rw [pO_len h]; exact ⟨rfl, rfl, rfl, rfl⟩
  rw [Bool.not_eq_false', decide_eq_true_eq] at h
  have eL : IntKind.i64.wrap (((wordsB s).length : Int) - 1) = (((wordsB s).length - 1 : Nat) : Int) := by rw [wi (by omega) (by omega)]; omega
  simp only [eL, Int.toNat_natCast]
  refine ⟨by omega, ⟨trivial, by omega⟩, fun h2 => ?_, fun h2 => ?_⟩
  · have h2 : (wordsB s).length = 4 := by have := beq_iff_eq.1 h2; omega
    have hC : (⟨ixS ordL ((wordsB s).getD 1 ByteArray.empty) + 1, ixS linL ((wordsB s).getD 2 ByteArray.empty) + 1, pT ((wordsB s).getD ((wordsB s).length - 1) ByteArray.empty)⟩ : Od) = candO (wordsB s) := by unfold candO; rw [if_pos h2]
    refine ⟨by omega, ⟨trivial, by omega⟩, by omega, fun h3 => ?_, fun h3 => ?_⟩
    · rw [hC, condO, Bool.not_eq_true', decide_eq_false_iff_not] at h3
      rw [pO_cand, if_neg h3]; exact ⟨rfl, rfl, rfl, rfl⟩
    · rw [hC, condO, Bool.not_eq_false', decide_eq_true_eq] at h3
      rw [pO_cand, if_pos h3, Option.getD_some, ← hC]; exact ⟨rfl, rfl, rfl, rfl⟩
  · have h2 : ¬ (wordsB s).length = 4 := by have := beq_eq_false_iff_ne.1 h2; omega
    have hC : (⟨ixS ordL ((wordsB s).getD 1 ByteArray.empty) + 1, 0, pT ((wordsB s).getD ((wordsB s).length - 1) ByteArray.empty)⟩ : Od) = candO (wordsB s) := by unfold candO; rw [if_neg h2]
    refine ⟨by omega, fun h3 => ?_, fun h3 => ?_⟩
    · rw [hC, condO, Bool.not_eq_true', decide_eq_false_iff_not] at h3
      rw [pO_cand, if_neg h3]; exact ⟨rfl, rfl, rfl, rfl⟩
    · rw [hC, condO, Bool.not_eq_false', decide_eq_true_eq] at h3
      rw [pO_cand, if_pos h3, Option.getD_some, ← hC]; exact ⟨rfl, rfl, rfl, rfl⟩
noncomputable def e_parseO : Entry := pureE 68 fun H a => match a with
  | [.lit (.string s)] => some (.tup [.lit (.int .i64 (H Int fun _ => ((pO s).getD zO).o)), .lit (.int .i64 (H Int fun _ => ((pO s).getD zO).l)), .lit (.int .i64 (H Int fun _ => ((pO s).getD zO).t)), .lit (.bool (H Bool fun _ => (pO s).isSome))], [H Prop fun _ => s.size ≤ 4000000])
  | _ => none
theorem eok_parseO : EntryOk Tryz.prog e_parseO := pureM_ok (by unfold isBody; kernel_rfl) (by
  intro a r ob e hob
  split at e
  · rename_i s
    simp only [zqt] at e
    obtain ⟨rfl, rfl⟩ := e
    exact ConN.args (.cons .rfl .nil) (c_parseO s hob.1)
  · simp at e)
theorem tkn_y {s : ByteArray} (h : (bif decide (((wordsB (cutB s comB).2.1).length : Int) < 2) then true else !isIn ((wordsB (cutB s comB).2.1).getD 1 ByteArray.empty) ordL) = true) : tkn s = ⟨(cutB s comB).1, ByteArray.empty, ByteArray.empty, (cutB s comB).2.1, false⟩ := by
  rw [bif_or, Bool.or_eq_true, decide_eq_true_eq, Bool.not_eq_true'] at h
  unfold tkn tkR
  rw [if_pos (by rcases h with h | h; exact .inl (by omega); exact .inr h)]
theorem tkn_n1 {s : ByteArray} (h : (bif decide (((wordsB (cutB s comB).2.1).length : Int) < 2) then true else !isIn ((wordsB (cutB s comB).2.1).getD 1 ByteArray.empty) ordL) = false) (h2 : (cutB (cutB s comB).2.1 abvB).2.2 = false) : tkn s = ⟨(cutB s comB).1, (cutB (cutB (cutB s comB).2.1 btwB).1 chgB).1, (cutB (cutB (cutB s comB).2.1 btwB).1 chgB).2.1, (cutB (cutB s comB).2.1 btwB).2.1, decide ((wordsB (cutB s comB).2.1).getD 1 ByteArray.empty = (⟨⟨[99, 104, 105, 101, 102]⟩⟩ : ByteArray))⟩ := by
  rw [bif_or, Bool.or_eq_false_iff, decide_eq_false_iff_not, Bool.not_eq_false'] at h
  unfold tkn tkR
  rw [if_neg (by rw [h.2]; simp; omega)]
  simp only [h2, Bool.false_eq_true, if_false]
theorem tkn_n2 {s : ByteArray} (h : (bif decide (((wordsB (cutB s comB).2.1).length : Int) < 2) then true else !isIn ((wordsB (cutB s comB).2.1).getD 1 ByteArray.empty) ordL) = false) (h2 : (cutB (cutB s comB).2.1 abvB).2.2 = true) : tkn s = ⟨(cutB s comB).1, (cutB (cutB (cutB s comB).2.1 abvB).1 chgB).1, (cutB (cutB (cutB s comB).2.1 abvB).1 chgB).2.1, (cutB (cutB s comB).2.1 abvB).2.1, decide ((wordsB (cutB s comB).2.1).getD 1 ByteArray.empty = (⟨⟨[99, 104, 105, 101, 102]⟩⟩ : ByteArray))⟩ := by
  rw [bif_or, Bool.or_eq_false_iff, decide_eq_false_iff_not, Bool.not_eq_false'] at h
  unfold tkn tkR
  rw [if_neg (by rw [h.2]; simp; omega)]
  simp only [h2, if_true]
theorem tkn_sz (s : ByteArray) : (tkn s).f.size ≤ s.size ∧ (tkn s).o.size ≤ s.size ∧ (tkn s).n.size ≤ s.size ∧ (tkn s).r.size ≤ s.size := by
  have s1 := cutB_sz s comB
  have s2 := cutB_sz (cutB s comB).2.1 abvB
  have s3 := cutB_sz (cutB s comB).2.1 btwB
  have s4 := cutB_sz (cutB (cutB s comB).2.1 abvB).1 chgB
  have s5 := cutB_sz (cutB (cutB s comB).2.1 btwB).1 chgB
  have e0 : ByteArray.empty.size = 0 := rfl
  cases h : (bif decide (((wordsB (cutB s comB).2.1).length : Int) < 2) then true else !isIn ((wordsB (cutB s comB).2.1).getD 1 ByteArray.empty) ordL)
  · cases h2 : (cutB (cutB s comB).2.1 abvB).2.2
    · rw [tkn_n1 h h2]; exact ⟨by show (cutB s comB).1.size ≤ _; omega, by show (cutB (cutB (cutB s comB).2.1 btwB).1 chgB).1.size ≤ _; omega, by show (cutB (cutB (cutB s comB).2.1 btwB).1 chgB).2.1.size ≤ _; omega, by show (cutB (cutB s comB).2.1 btwB).2.1.size ≤ _; omega⟩
    · rw [tkn_n2 h h2]; exact ⟨by show (cutB s comB).1.size ≤ _; omega, by show (cutB (cutB (cutB s comB).2.1 abvB).1 chgB).1.size ≤ _; omega, by show (cutB (cutB (cutB s comB).2.1 abvB).1 chgB).2.1.size ≤ _; omega, by show (cutB (cutB s comB).2.1 abvB).2.1.size ≤ _; omega⟩
  · rw [tkn_y h]; exact ⟨by show (cutB s comB).1.size ≤ _; omega, Nat.zero_le _, Nat.zero_le _, by show (cutB s comB).2.1.size ≤ _; omega⟩
theorem condA {C : Arm} {s : ByteArray} : (bif !okA C then true else !((if okA C = true then armT C else ByteArray.empty).toList == s.toList)) = !decide (okA C = true ∧ armT C = s) := by
  rw [beqT]
  cases h : okA C <;> simp
theorem c_taken (s : ByteArray) (h0 : s.size ≤ 4000000) : ConN Tryz.prog 26 [.lit (.string s)] [] 0 (.agg [.lit (.string (stdH ByteArray fun _ => (tkn s).f)), .lit (.string (stdH ByteArray fun _ => (tkn s).o)), .lit (.string (stdH ByteArray fun _ => (tkn s).n)), .lit (.string (stdH ByteArray fun _ => (tkn s).r)), .lit (.bool (stdH Bool fun _ => (tkn s).c))]) [] [] := by
  have hB : Base Tryz.prog (tabΓ [e_cutB, e_split, e_ordWords, e_hasS]) tab := base_of tabOk (ents_cons eok_cutB <| ents_cons eok_split <| ents_cons eok_ordWords <| ents_cons eok_hasS <| ents_nil)
  refine con_m (N := 65) hB (draw_ok hB mixed) Tryz.func26 rfl rfl (fun H => [.lit (.string s)]) (fun _ => []) 0 (fun H => .agg [.lit (.string (H ByteArray fun _ => (tkn s).f)), .lit (.string (H ByteArray fun _ => (tkn s).o)), .lit (.string (H ByteArray fun _ => (tkn s).n)), .lit (.string (H ByteArray fun _ => (tkn s).r)), .lit (.bool (H Bool fun _ => (tkn s).c))]) (fun H => []) (fun _ => []) 200 (by simp) (fun x hx => ?_) (by simp [lk]) (by omega) (by simp) ?_
  · simp only [zqu] at hx
    rcases hx with rfl
    · exact .lit
  intro X hX hX0 H hH
  conv in Fin.chk _ _ => cbv
  try simp only [zqs, Plain_rowsC, zqx, AllP, zqw, upd, if_true]
  subst hH
  have ec : (⟨⟨[44, 32]⟩⟩ : ByteArray) = comB := rfl
  have ea : (⟨⟨[32, 97, 98, 111, 118, 101, 32]⟩⟩ : ByteArray) = abvB := rfl
  have eb : (⟨⟨[32, 98, 101, 116, 119, 101, 101, 110, 32]⟩⟩ : ByteArray) = btwB := rfl
  have eg : (⟨⟨[32, 99, 104, 97, 114, 103, 101, 100, 32, 119, 105, 116, 104, 32]⟩⟩ : ByteArray) = chgB := rfl
  have z1 : Int.toNat 1 = 1 := rfl
  have s1 := cutB_sz s comB
  have s2 := cutB_sz (cutB s comB).2.1 abvB
  have s3 := cutB_sz (cutB s comB).2.1 btwB
  have m1 : ordL.length = 7 := rfl
  simp only [stdH, TlS', ShpS']
  simp only [ec, ea, eb, eg, z1, m1]
  rw [show (ordL.any fun y => decide (y = (wordsB (cutB s comB).2.1).getD 1 ByteArray.empty)) = isIn ((wordsB (cutB s comB).2.1).getD 1 ByteArray.empty) ordL from rfl]
  refine ⟨by omega, ⟨by omega, rfl⟩, fun h => ?_, ⟨fun _ => trivial, fun _ => by omega⟩, fun h => ?_, fun h => ?_⟩
  · have := of_decide_eq_false h; omega
  · rw [tkn_y h]; exact ⟨rfl, rfl, rfl, rfl, rfl⟩
  · have h' := h
    rw [bif_or, Bool.or_eq_false_iff, decide_eq_false_iff_not] at h'
    refine ⟨by omega, by omega, fun h2 => ⟨by omega, by omega, ?_⟩, fun h2 => ⟨by omega, ?_⟩⟩
    · rw [tkn_n1 h (by simpa using h2), beqT]; exact ⟨rfl, rfl, rfl, rfl, rfl⟩
    · rw [tkn_n2 h (by simpa using h2), beqT]; exact ⟨rfl, rfl, rfl, rfl, rfl⟩
noncomputable def e_taken : Entry := pureE 26 fun H a => match a with
  | [.lit (.string s)] => some (.agg [.lit (.string (H ByteArray fun _ => (tkn s).f)), .lit (.string (H ByteArray fun _ => (tkn s).o)), .lit (.string (H ByteArray fun _ => (tkn s).n)), .lit (.string (H ByteArray fun _ => (tkn s).r)), .lit (.bool (H Bool fun _ => (tkn s).c))], [H Prop fun _ => s.size ≤ 4000000])
  | _ => none
theorem eok_taken : EntryOk Tryz.prog e_taken := pureM_ok (by unfold isBody; kernel_rfl) (by
  intro a r ob e hob
  split at e
  · rename_i s
    simp only [zqt] at e
    obtain ⟨rfl, rfl⟩ := e
    exact ConN.args (.cons .rfl .nil) (c_taken s hob.1)
  · simp at e)
theorem c_armsTx (a : Arm)  : ConN Tryz.prog 21 [aT rowA stdH fun _ => a] [] 0 (.tup [.lit (.string (stdH ByteArray fun _ => if okA a then armT a else ByteArray.empty)), .lit (.bool (stdH Bool fun _ => okA a))]) [] [] := by
  have hB : Base Tryz.prog (tabΓ [e_IsValidArms, e_armText]) tab := base_of tabOk (ents_cons eok_IsValidArms <| ents_cons eok_armText <| ents_nil)
  refine con_m (N := 9) hB (draw_ok hB mixed) Tryz.func21 rfl rfl (fun H => [aT rowA H fun _ => a]) (fun _ => []) 0 (fun H => .tup [.lit (.string (H ByteArray fun _ => if okA a then armT a else ByteArray.empty)), .lit (.bool (H Bool fun _ => okA a))]) (fun H => []) (fun _ => []) 100 (by simp) (fun x hx => ?_) (by simp [lk]) (by omega) (by simp) ?_
  · simp only [zqu] at hx
    rcases hx with rfl
    · exact aT_bl okRA _ _
  intro X hX hX0 H hH
  conv in Fin.chk _ _ => cbv
  try simp only [zqs, Plain_rowsC, zqx, AllP, zqw, upd, if_true]
  subst hH
  simp only [stdH, Arm.eta2, Fld.eta, Grp.eta]
  cases hg : okA a
  · simp only [Bool.not_false, Bool.false_eq_true, if_false]
    (repeat' (first | with_reducible exact True.intro | rfl | refine And.intro ?_ ?_ | (intro h; first | (cases h; done) | skip) | trivial))
  · simp only [Bool.not_true, if_true]
    (repeat' (first | with_reducible exact True.intro | rfl | exact hg | refine And.intro ?_ ?_ | (intro h; first | (cases h; done) | skip) | trivial))
noncomputable def e_armsTx : Entry := pureE 21 fun H a => match a with
  | [.agg [.lit (.int .i64 a0), .lit (.int .i64 a1), .lit (.int .i64 a2), .lit (.int .i64 a3), .lit (.int .i64 a4), .lit (.int .i64 a5), .lit (.int .i64 a6), .lit (.int .i64 a7), .lit (.int .i64 a8), .lit (.int .i64 a9), .lit (.int .i64 a10), .lit (.int .i64 a11), .lit (.int .i64 a12), .lit (.int .i64 a13), .lit (.int .i64 a14)]] => some (.tup [.lit (.string (H ByteArray fun _ => if okA (⟨⟨a0, a1, a2, a3⟩, a4, a5, a6, ⟨a7, a8, a9, a10⟩, ⟨a11, a12, a13, a14⟩⟩ : Arm) then armT (⟨⟨a0, a1, a2, a3⟩, a4, a5, a6, ⟨a7, a8, a9, a10⟩, ⟨a11, a12, a13, a14⟩⟩ : Arm) else ByteArray.empty)), .lit (.bool (H Bool fun _ => okA (⟨⟨a0, a1, a2, a3⟩, a4, a5, a6, ⟨a7, a8, a9, a10⟩, ⟨a11, a12, a13, a14⟩⟩ : Arm)))], [])
  | _ => none
theorem eok_armsTx : EntryOk Tryz.prog e_armsTx := pureM_ok (by unfold isBody; kernel_rfl) (by
  intro a r ob e hob
  split at e
  · rename_i a0 a1 a2 a3 a4 a5 a6 a7 a8 a9 a10 a11 a12 a13 a14
    simp only [zqt] at e
    obtain ⟨rfl, rfl⟩ := e
    exact ConN.args (.cons .rfl .nil) (c_armsTx (⟨⟨a0, a1, a2, a3⟩, a4, a5, a6, ⟨a7, a8, a9, a10⟩, ⟨a11, a12, a13, a14⟩⟩ : Arm) )
  · simp at e)
theorem c_parseA (s : ByteArray) (h0 : s.size ≤ 4000000) : ConN Tryz.prog 28 [.lit (.string s)] [] 0 (.tup [aT rowA stdH fun _ => (pA s).getD zA, .lit (.bool (stdH Bool fun _ => (pA s).isSome))]) [] [] := by
  have hB : Base Tryz.prog (tabΓ [e_taken, e_parseF, e_parseO, e_parseG, e_armsTx]) tab := base_of tabOk (ents_cons eok_taken <| ents_cons eok_parseF <| ents_cons eok_parseO <| ents_cons eok_parseG <| ents_cons eok_armsTx <| ents_nil)
  refine con_m (N := 57) hB (draw_ok hB mixed) Tryz.func28 rfl rfl (fun H => [.lit (.string s)]) (fun _ => []) 0 (fun H => .tup [aT rowA H fun _ => (pA s).getD zA, .lit (.bool (H Bool fun _ => (pA s).isSome))]) (fun H => []) (fun _ => []) 200 (by simp) (fun x hx => ?_) (by simp [lk]) (by omega) (by simp) ?_
  · simp only [zqu] at hx
    rcases hx with rfl
    · exact .lit
  intro X hX hX0 H hH
  conv in Fin.chk _ _ => cbv
  try simp only [zqs, Plain_rowsC, zqx, AllP, zqw, upd, if_true]
  subst hH
  have hs := tkn_sz s
  simp only [stdH, Arm.eta2, Fld.eta, Grp.eta]
  rw [show (⟨(pF (tkn s).f).getD zF, ((pO (tkn s).o).getD zO).o, ((pO (tkn s).o).getD zO).l, ((pO (tkn s).o).getD zO).t, (pG (tkn s).n).getD zG, (pG (tkn s).r).getD zG⟩ : Arm) = candA (tkn s) from rfl, condA]
  refine ⟨h0, by omega, by omega, by omega, by omega, fun h => ?_, fun h => ?_⟩
  · rw [Bool.not_eq_true', decide_eq_false_iff_not] at h
    rw [pA_cand, if_neg h]
    (repeat' (first | rfl | refine And.intro ?_ ?_))
  · rw [Bool.not_eq_false', decide_eq_true_eq] at h
    rw [pA_cand, if_pos h]
    (repeat' (first | rfl | refine And.intro ?_ ?_))
noncomputable def e_parseA : Entry := pureE 28 fun H a => match a with
  | [.lit (.string s)] => some (.tup [aT rowA H fun _ => (pA s).getD zA, .lit (.bool (H Bool fun _ => (pA s).isSome))], [H Prop fun _ => s.size ≤ 4000000])
  | _ => none
theorem eok_parseA : EntryOk Tryz.prog e_parseA := pureM_ok (by unfold isBody; kernel_rfl) (by
  intro a r ob e hob
  split at e
  · rename_i s
    simp only [zqt] at e
    obtain ⟨rfl, rfl⟩ := e
    exact ConN.args (.cons .rfl .nil) (c_parseA s hob.1)
  · simp at e)

end Go.Proofs.YtmkniipdkanbbaaGreatDoor.AM

