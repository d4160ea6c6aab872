import Derived.Test.YtmpbmbioeeckeaaAmT
import Derived.Test.YtmpbmbioeeckeaaFfd
import Derived.Test.YtmpbmbioeeckeaaSmp
set_option linter.unusedVariables false
set_option linter.unusedSimpArgs false
set_option maxRecDepth 100000
set_option maxHeartbeats 4000000
set_option cbv.maxSteps 3000000
namespace Go.Proofs.Ytmpbmbioeeckeaa.AM
/- The law FnFields holds; conditions: none. -/
theorem c_ValidFieldS (f : Fld)  : Con Try.prog 18 [.agg [.lit (.int .i64 (f).d), .lit (.int .i64 (f).l), .lit (.int .i64 (f).p), .lit (.int .i64 (f).q)]] [] (.lit (.bool (okF f))) [] := by
  obtain ⟨f0, f1, f2, f3⟩ := f
  have hB : Base Try.prog (tabΓ [e_l3Good]) tab := base_of tabOk (ents_cons eok_l3Good <| ents_nil)
  refine con_eq (N := 5) hB (draw_ok hB mixed) Try.func18 rfl rfl _ _ 60 (by simp) (by intro x hx; simp only [List.mem_cons, List.not_mem_nil, or_false] at hx; rcases hx with rfl <;> (first | (first | exact .lit | exact blq_ok 4 rfl) | exact .vec (fun j hj x hx => by simp [vrow] at hx; subst hx; exact .lit))) (by (first | exact .lit | exact blq_ok 4 rfl)) ?_
  intro H hH
  conv in finish _ _ _ _ _ _ _ _ => cbv
  subst hH
  simp only [Fin.sat0, Fin.sat1, stdH, Option.some.injEq, AV.lit.injEq, AV.agg.injEq, AV.tup.injEq, List.cons.injEq, Value.bool.injEq, Value.int.injEq, AllP, and_true, true_and, eq_self, decide_eq_true_eq, decide_eq_false_iff_not, Bool.not_eq_true', Bool.not_eq_false', peta, ncast]
noncomputable def e_ValidFieldS : Entry := pureE 18 fun H a => match a with
  | [.agg [.lit (.int .i64 f0), .lit (.int .i64 f1), .lit (.int .i64 f2), .lit (.int .i64 f3)]] => some (.lit (.bool (H Bool fun _ => (okF (⟨f0, f1, f2, f3⟩ : Fld)))), [])
  | _ => none
theorem eok_ValidFieldS : EntryOk Try.prog e_ValidFieldS := pureE_ok (by unfold isBody; kernel_rfl) (by
  intro a r ob e hob
  split at e
  · rename_i f0 f1 f2 f3
    simp only [Option.some.injEq, Prod.mk.injEq] at e
    obtain ⟨rfl, rfl⟩ := e
    exact c_ValidFieldS (⟨f0, f1, f2, f3⟩ : Fld)
  · simp at e)
theorem swF_sp {f : Fld} : sp2 f (swF f) = true := by
  unfold sp2 swF
  by_cases h0 : f.d = 0
  · simp [h0]
  · rw [if_neg h0]
    have h1 : tinP f = [f.p, f.q] := if_neg h0
    have h2 : tinP ⟨f.d, f.l, f.q, f.p⟩ = [f.q, f.p] := if_neg h0
    rw [h1, h2]
    rcases Int.lt_trichotomy f.p f.q with h | h | h
    · have n : ¬ f.q < f.p := by omega
      simp [isr, bub, ltI, swp, h, n]
    · simp [h]
    · have n : ¬ f.p < f.q := by omega
      simp [isr, bub, ltI, swp, h, n]
theorem prtF_0 (f : Fld) : 0 < (prtF f).length ∧ (prtF f).getD 0 0 = f.p := by
  unfold prtF
  (repeat' split) <;> exact ⟨Nat.succ_pos _, rfl⟩
theorem law_Fields (c : Cd) : Con Try.prog 4 [codeAV c] [] (.lit (.bool true)) [] := by
  have hB : Base Try.prog (tabΓ [e_vBig c, e_DrawFieldText c, e_fieldTx, e_parseF, e_ValidFieldS, e_IsValidField, e_DrawParseField c, e_SwapField, e_SameParts, e_FieldParts]) tab := base_of tabOk (ents_cons (eok_vBig c) <| ents_cons (eok_DrawFieldText c) <| ents_cons eok_fieldTx <| ents_cons eok_parseF <| ents_cons eok_ValidFieldS <| ents_cons eok_IsValidField <| ents_cons (eok_DrawParseField c) <| ents_cons eok_SwapField <| ents_cons eok_SameParts <| ents_cons eok_FieldParts <| ents_nil)
  refine ConN.con (n := 0) (con_m (N := 141) hB (draw_ok hB mixed) Try.func4 rfl rfl (fun _ => [codeAV c]) (fun _ => []) 0 (fun H => .lit (.bool (H Bool fun _ => true))) (fun _ => []) (fun _ => []) 400 (by simp) (codeAV_bl c) (by simp [lk]) (by omega) (by simp) ?_)
  intro X hX hX0 H hH
  conv in Fin.chk _ _ => cbv
  try simp only [Plain_rowsA, Plain_rowsB, Plain_rowsC, Plain_rowsF, Plain_rowsG, Plain_rowsI, Plain_rowsS, Plain_rowsU, Fin.satC_ret, Fin.satC_br, Fin.satC_need, Fin.satC_again, AllP, and_true, true_and, upd, List.length_nil, List.length_cons, Nat.zero_add, if_true, ncast, Int.ofNat_eq_natCast]
  have ht := p_DrawParseField c
  generalize F_DrawFieldText c = f at *
  generalize F_DrawParseField c = t at *
  clear hB hX hX0
  subst hH
  simp only [stdH, Fld.eta, eqFE]
  have e2 : okF f = true → pF (fldT f) = some f := fun h => pF_of h
  have sf := fldT_sz f
  have h0 : okF zF = false := rfl
  have ep := swF_ok (f := f)
  have es := swF_sp (f := f)
  obtain ⟨p1, p2⟩ := prtF_0 f
  refine ⟨trivial, fun _ => trivial, fun _ => ⟨trivial, ?_, ?_, fun _ => ⟨trivial, ?_, ?_, fun _ => ⟨?_, fun _ => ⟨?_, ?_⟩⟩⟩⟩⟩
  · split
    · omega
    · exact Nat.zero_le _
  · cases ho : okF f
    · simp
    · simp [e2 ho]
  · omega
  · cases hp : pF t with
    | none => simp
    | some g =>
      have hg := pF_iff.1 hp
      simp [hg.1, hg.2]
  · cases ho : okF f
    · simp [h0]
    · simp [ep ho]
  · cases ho : okF f
    · simp [h0]
    · simp [ep ho, p1]
  · cases ho : okF f
    · simp
    · simp only [ep ho, es, p1, p2, if_true, decide_true, Bool.and_self, cond_true, Bool.not_true, cond_false, show (0 : Int).toNat = 0 from rfl, beq_self_eq_true]
      simpa using p1

end Go.Proofs.Ytmpbmbioeeckeaa.AM
