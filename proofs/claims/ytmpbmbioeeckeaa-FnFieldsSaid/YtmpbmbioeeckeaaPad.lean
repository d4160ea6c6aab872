import Derived.Test.YtmpbmbioeeckeaaAmT
import Derived.Test.YtmpbmbioeeckeaaPac
set_option linter.unusedVariables false
set_option linter.unusedSimpArgs false
set_option maxRecDepth 100000
set_option maxHeartbeats 4000000
set_option cbv.maxSteps 3000000
namespace Go.Proofs.Ytmpbmbioeeckeaa.AM
/- The program's parsers of ordinaries and arms; conditions: none. -/
theorem c_isOrd (o : Int) (l : Int) (t : Int)  : ConN Try.prog 90 [.lit (.int .i64 o), .lit (.int .i64 l), .lit (.int .i64 t)] [] 0 (.lit (.bool (stdH Bool fun _ => okO ⟨o, l, t⟩))) [] [] := by
  have hB : Base Try.prog (tabΓ [e_inside, e_isLine, e_IsTincture]) tab := base_of tabOk (ents_cons eok_inside <| ents_cons eok_isLine <| ents_cons eok_IsTincture <| ents_nil)
  refine con_m (N := 17) hB (draw_ok hB mixed) Try.func90 rfl rfl (fun H => [.lit (.int .i64 o), .lit (.int .i64 l), .lit (.int .i64 t)]) (fun _ => []) 0 (fun H => .lit (.bool (H Bool fun _ => okO ⟨o, l, t⟩))) (fun H => []) (fun _ => []) 60 (by simp) (fun x hx => ?_) (by simp [lk]) (by omega) (by simp) ?_
  · simp only [List.mem_cons, List.not_mem_nil, or_false] at hx
    rcases hx with rfl | rfl | rfl
    · exact .lit
    · exact .lit
    · exact .lit
  intro X hX hX0 H hH
  conv in Fin.chk _ _ => cbv
  try simp only [Plain_rowsA, Plain_rowsB, Plain_rowsC, Plain_rowsF, Plain_rowsG, Plain_rowsI, Plain_rowsS, Plain_rowsU, Fin.satC_ret, Fin.satC_br, Fin.satC_need, Fin.satC_again, AllP, and_true, true_and, upd, List.length_nil, List.length_cons, Nat.zero_add, if_true, ncast, Int.ofNat_eq_natCast]
  subst hH
  simp only [stdH]
  show (inB o 1 7 && (inB l 0 4 && inB t 1 9)) = _
  cases inB o 1 7 <;> cases inB l 0 4 <;> cases inB t 1 9 <;> rfl
noncomputable def e_isOrd : Entry := pureE 90 fun H a => match a with
  | [.lit (.int .i64 o), .lit (.int .i64 l), .lit (.int .i64 t)] => some (.lit (.bool (H Bool fun _ => okO ⟨o, l, t⟩)), [])
  | _ => none
theorem eok_isOrd : EntryOk Try.prog e_isOrd := pureM_ok (by unfold isBody; kernel_rfl) (by
  intro a r ob e hob
  split at e
  · rename_i o l t
    simp only [Option.some.injEq, Prod.mk.injEq] at e
    obtain ⟨rfl, rfl⟩ := e
    exact ConN.args (.cons .rfl (.cons .rfl (.cons .rfl .nil))) (c_isOrd o l t )
  · simp at e)
theorem condO {C : Od} {s : ByteArray} : (bif !okO C then true else !((if okO C = true then oT C else ByteArray.empty).toList == s.toList)) = !decide (okO C = true ∧ oT C = s) := by
  rw [beqT]
  cases h : okO C <;> simp
theorem tkn_y {s : ByteArray} (h : (bif decide (((wordsB (cutB s comB).2.1).length : Int) < 2) then true else !isIn ((wordsB (cutB s comB).2.1).getD 1 ByteArray.empty) ordL) = true) : tkn s = ⟨(cutB s comB).1, ByteArray.empty, ByteArray.empty, (cutB s comB).2.1, false⟩ := by
  rw [bif_or, Bool.or_eq_true, decide_eq_true_eq, Bool.not_eq_true'] at h
  unfold tkn tkR
  rw [if_pos (by rcases h with h | h; exact .inl (by omega); exact .inr h)]
theorem tkn_n1 {s : ByteArray} (h : (bif decide (((wordsB (cutB s comB).2.1).length : Int) < 2) then true else !isIn ((wordsB (cutB s comB).2.1).getD 1 ByteArray.empty) ordL) = false) (h2 : (cutB (cutB s comB).2.1 abvB).2.2 = false) : tkn s = ⟨(cutB s comB).1, (cutB (cutB (cutB s comB).2.1 btwB).1 chgB).1, (cutB (cutB (cutB s comB).2.1 btwB).1 chgB).2.1, (cutB (cutB s comB).2.1 btwB).2.1, decide ((wordsB (cutB s comB).2.1).getD 1 ByteArray.empty = (⟨⟨[99, 104, 105, 101, 102]⟩⟩ : ByteArray))⟩ := by
  rw [bif_or, Bool.or_eq_false_iff, decide_eq_false_iff_not, Bool.not_eq_false'] at h
  unfold tkn tkR
  rw [if_neg (by rw [h.2]; simp; omega)]
  simp only [h2, Bool.false_eq_true, if_false]
theorem tkn_n2 {s : ByteArray} (h : (bif decide (((wordsB (cutB s comB).2.1).length : Int) < 2) then true else !isIn ((wordsB (cutB s comB).2.1).getD 1 ByteArray.empty) ordL) = false) (h2 : (cutB (cutB s comB).2.1 abvB).2.2 = true) : tkn s = ⟨(cutB s comB).1, (cutB (cutB (cutB s comB).2.1 abvB).1 chgB).1, (cutB (cutB (cutB s comB).2.1 abvB).1 chgB).2.1, (cutB (cutB s comB).2.1 abvB).2.1, decide ((wordsB (cutB s comB).2.1).getD 1 ByteArray.empty = (⟨⟨[99, 104, 105, 101, 102]⟩⟩ : ByteArray))⟩ := by
  rw [bif_or, Bool.or_eq_false_iff, decide_eq_false_iff_not, Bool.not_eq_false'] at h
  unfold tkn tkR
  rw [if_neg (by rw [h.2]; simp; omega)]
  simp only [h2, if_true]
theorem tkn_sz (s : ByteArray) : (tkn s).f.size ≤ s.size ∧ (tkn s).o.size ≤ s.size ∧ (tkn s).n.size ≤ s.size ∧ (tkn s).r.size ≤ s.size := by
  have s1 := cutB_sz s comB
  have s2 := cutB_sz (cutB s comB).2.1 abvB
  have s3 := cutB_sz (cutB s comB).2.1 btwB
  have s4 := cutB_sz (cutB (cutB s comB).2.1 abvB).1 chgB
  have s5 := cutB_sz (cutB (cutB s comB).2.1 btwB).1 chgB
  have e0 : ByteArray.empty.size = 0 := rfl
  cases h : (bif decide (((wordsB (cutB s comB).2.1).length : Int) < 2) then true else !isIn ((wordsB (cutB s comB).2.1).getD 1 ByteArray.empty) ordL)
  · cases h2 : (cutB (cutB s comB).2.1 abvB).2.2
    · rw [tkn_n1 h h2]; exact ⟨by show (cutB s comB).1.size ≤ _; omega, by show (cutB (cutB (cutB s comB).2.1 btwB).1 chgB).1.size ≤ _; omega, by show (cutB (cutB (cutB s comB).2.1 btwB).1 chgB).2.1.size ≤ _; omega, by show (cutB (cutB s comB).2.1 btwB).2.1.size ≤ _; omega⟩
    · rw [tkn_n2 h h2]; exact ⟨by show (cutB s comB).1.size ≤ _; omega, by show (cutB (cutB (cutB s comB).2.1 abvB).1 chgB).1.size ≤ _; omega, by show (cutB (cutB (cutB s comB).2.1 abvB).1 chgB).2.1.size ≤ _; omega, by show (cutB (cutB s comB).2.1 abvB).2.1.size ≤ _; omega⟩
  · rw [tkn_y h]; exact ⟨by show (cutB s comB).1.size ≤ _; omega, Nat.zero_le _, Nat.zero_le _, by show (cutB s comB).2.1.size ≤ _; omega⟩
theorem condA {C : Arm} {s : ByteArray} : (bif !okA C then true else !((if okA C = true then armT C else ByteArray.empty).toList == s.toList)) = !decide (okA C = true ∧ armT C = s) := by
  rw [beqT]
  cases h : okA C <;> simp

end Go.Proofs.Ytmpbmbioeeckeaa.AM
