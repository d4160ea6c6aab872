import Derived.Test.YtmpbmbioeeckeaaAmT
import Derived.Test.YtmpbmbioeeckeaaFtx
set_option linter.unusedVariables false
set_option linter.unusedSimpArgs false
set_option maxRecDepth 100000
set_option maxHeartbeats 4000000
set_option cbv.maxSteps 3000000
namespace Go.Proofs.Ytmpbmbioeeckeaa.AM
/- Fields drawn, swapped, their parts; conditions: none. -/
def enc_DrawIsValidField (H : Hold) (y : Unit → Fld) : AV := .agg [.lit (.int .i64 (H Int fun _ => (((y ())).d))), .lit (.int .i64 (H Int fun _ => (((y ())).l))), .lit (.int .i64 (H Int fun _ => (((y ())).p))), .lit (.int .i64 (H Int fun _ => (((y ())).q)))]
theorem x_DrawIsValidField (c : Cd) : ∃ y : Fld, Con Try.prog 33 [codeAV c] [] (enc_DrawIsValidField stdH fun _ => y) [] ∧ Bl 0 (enc_DrawIsValidField stdH fun _ => y) ∧ (fun _ => True) y := by
  have hB : Base Try.prog (tabΓ [e_anyField c]) tab := base_of tabOk (ents_cons (eok_anyField c) <| ents_nil)
  refine df_ok (N := 9) hB (draw_ok hB mixed) Try.func33 rfl rfl _ _ _ 60 (by simp) ?_
  intro H hH
  conv in finish _ _ _ _ _ _ _ _ => cbv
  subst hH
  simp only [Fin.sat0, Fin.sat1, stdH, Option.some.injEq, AV.lit.injEq, AV.agg.injEq, AV.tup.injEq, List.cons.injEq, Value.bool.injEq, Value.int.injEq, AllP, and_true, true_and, eq_self, decide_eq_true_eq, decide_eq_false_iff_not, Bool.not_eq_true', Bool.not_eq_false', peta, ncast]
  have h : Bd 64 (0, 0) := ⟨by decide, by decide⟩
  exact ⟨h.mono, (F_anyField c (0, 0)).1, .refl, by unfold enc_DrawIsValidField; (first | exact .lit | exact blq_ok 4 rfl)⟩
noncomputable def F_DrawIsValidField (c : Cd) : Fld := dfw Try.prog 33 enc_DrawIsValidField (fun _ => True) c
noncomputable def e_DrawIsValidField (c : Cd) : Entry := codeE 33 c fun H => enc_DrawIsValidField H fun _ => F_DrawIsValidField c
theorem eok_DrawIsValidField (c : Cd) : EntryOk Try.prog (e_DrawIsValidField c) := codeE_ok (by unfold isBody; kernel_rfl) (dfw_spec (x_DrawIsValidField c)).1
theorem p_DrawIsValidField (c : Cd) : (fun _ => True) (F_DrawIsValidField c) := (dfw_spec (x_DrawIsValidField c)).2.2
def enc_DrawFieldText (H : Hold) (y : Unit → Fld) : AV := .agg [.lit (.int .i64 (H Int fun _ => (((y ())).d))), .lit (.int .i64 (H Int fun _ => (((y ())).l))), .lit (.int .i64 (H Int fun _ => (((y ())).p))), .lit (.int .i64 (H Int fun _ => (((y ())).q)))]
theorem x_DrawFieldText (c : Cd) : ∃ y : Fld, Con Try.prog 15 [codeAV c] [] (enc_DrawFieldText stdH fun _ => y) [] ∧ Bl 0 (enc_DrawFieldText stdH fun _ => y) ∧ (fun _ => True) y := by
  have hB : Base Try.prog (tabΓ [e_DrawIsValidField c]) tab := base_of tabOk (ents_cons (eok_DrawIsValidField c) <| ents_nil)
  refine df_ok (N := 5) hB (draw_ok hB mixed) Try.func15 rfl rfl _ _ _ 60 (by simp) ?_
  intro H hH
  conv in finish _ _ _ _ _ _ _ _ => cbv
  subst hH
  simp only [Fin.sat0, Fin.sat1, stdH, Option.some.injEq, AV.lit.injEq, AV.agg.injEq, AV.tup.injEq, List.cons.injEq, Value.bool.injEq, Value.int.injEq, AllP, and_true, true_and, eq_self, decide_eq_true_eq, decide_eq_false_iff_not, Bool.not_eq_true', Bool.not_eq_false', peta, ncast]
  exact ⟨F_DrawIsValidField c, .refl, by unfold enc_DrawFieldText; (first | exact .lit | exact blq_ok 4 rfl)⟩
noncomputable def F_DrawFieldText (c : Cd) : Fld := dfw Try.prog 15 enc_DrawFieldText (fun _ => True) c
noncomputable def e_DrawFieldText (c : Cd) : Entry := codeE 15 c fun H => enc_DrawFieldText H fun _ => F_DrawFieldText c
theorem eok_DrawFieldText (c : Cd) : EntryOk Try.prog (e_DrawFieldText c) := codeE_ok (by unfold isBody; kernel_rfl) (dfw_spec (x_DrawFieldText c)).1
theorem p_DrawFieldText (c : Cd) : (fun _ => True) (F_DrawFieldText c) := (dfw_spec (x_DrawFieldText c)).2.2
theorem okFT_of {f : Fld} (h : okF f = true) : okFT f := okF_T h
def enc_DrawParseField (H : Hold) (y : Unit → ByteArray) : AV := .lit (.string (H ByteArray fun _ => ((y ()))))
theorem x_DrawParseField (c : Cd) : ∃ y : ByteArray, Con Try.prog 20 [codeAV c] [] (enc_DrawParseField stdH fun _ => y) [] ∧ Bl 0 (enc_DrawParseField stdH fun _ => y) ∧ (fun y => y.size ≤ 6000) y := by
  have hB : Base Try.prog (tabΓ [e_fieldV c, e_l3Text, e_one c, e_spoilt c]) tab := base_of tabOk (ents_cons (eok_fieldV c) <| ents_cons eok_l3Text <| ents_cons (eok_one c) <| ents_cons (eok_spoilt c) <| ents_nil)
  refine df_ok (N := 17) hB (draw_ok hB mixed) Try.func20 rfl rfl _ _ _ 60 (by simp) ?_
  intro H hH
  conv in finish _ _ _ _ _ _ _ _ => cbv
  subst hH
  simp only [Fin.sat0, Fin.sat1, stdH, Option.some.injEq, AV.lit.injEq, AV.agg.injEq, AV.tup.injEq, List.cons.injEq, Value.bool.injEq, Value.int.injEq, AllP, and_true, true_and, eq_self, decide_eq_true_eq, decide_eq_false_iff_not, Bool.not_eq_true', Bool.not_eq_false', peta, ncast]
  have h : Bd 64 (0, 0) := ⟨by decide, by decide⟩
  obtain ⟨a1, q1⟩ := p_fieldV c (0, 0) h.mono
  generalize F_fieldV c (0, 0) = y1 at *
  have b1 : Bd 54 y1.2 := a1.bd h
  have a2 := (p_one c 4 y1.2 (Bd.mono (by assumption))).1; generalize F_one c 4 y1.2 = y2 at *; have b2 : Bd 52 y2.2 := a2.bd (by assumption)
  have s1 := fldT_sz y1.1
  obtain ⟨a3, q3⟩ := p_spoilt c (fldT y1.1) (⟨⟨[112, 101, 114, 32, 97, 110, 100, 32]⟩⟩ : ByteArray) y2.2 b2.mono (by omega) (by decide) (by decide)
  exact ⟨h.mono, okFT_of q1, b1.mono, fun _ => ⟨⟨b2.mono, by show (fldT y1.1).size ≤ _; omega, by decide, by decide⟩, _, .refl, by unfold enc_DrawParseField; exact .lit, Nat.le_trans q3 (by omega)⟩, fun _ => ⟨_, .refl, by unfold enc_DrawParseField; exact .lit, by show (fldT y1.1).size ≤ _; omega⟩⟩
noncomputable def F_DrawParseField (c : Cd) : ByteArray := dfw Try.prog 20 enc_DrawParseField (fun y => y.size ≤ 6000) c
noncomputable def e_DrawParseField (c : Cd) : Entry := codeE 20 c fun H => enc_DrawParseField H fun _ => F_DrawParseField c
theorem eok_DrawParseField (c : Cd) : EntryOk Try.prog (e_DrawParseField c) := codeE_ok (by unfold isBody; kernel_rfl) (dfw_spec (x_DrawParseField c)).1
theorem p_DrawParseField (c : Cd) : (fun y => y.size ≤ 6000) (F_DrawParseField c) := (dfw_spec (x_DrawParseField c)).2.2
def swF (f : Fld) : Fld := if f.d = 0 then f else ⟨f.d, f.l, f.q, f.p⟩
theorem swF_ok {f : Fld} (h : okF f = true) : okF (swF f) = true ∧ swF (swF f) = f := by
  unfold swF
  by_cases h0 : f.d = 0
  · simp [h0, h]
  · simp only [h0, if_false, and_true]
    unfold okF inB at *
    simp only [h0, if_false, Bool.and_eq_true, decide_eq_true_eq, Bool.not_eq_true', decide_eq_false_iff_not] at h ⊢
    omega
theorem c_SwapField (f : Fld)  : ConN Try.prog 21 [aT rowF stdH fun _ => f] [] 0 (.tup [aT rowF stdH fun _ => if okF f then swF f else zF, .lit (.bool (stdH Bool fun _ => okF f))]) [] [] := by
  have hB : Base Try.prog (tabΓ [e_IsValidField]) tab := base_of tabOk (ents_cons eok_IsValidField <| ents_nil)
  refine con_m (N := 18) hB (draw_ok hB mixed) Try.func21 rfl rfl (fun H => [aT rowF H fun _ => f]) (fun _ => []) 0 (fun H => .tup [aT rowF H fun _ => if okF f then swF f else zF, .lit (.bool (H Bool fun _ => okF f))]) (fun H => []) (fun _ => []) 100 (by simp) (fun x hx => ?_) (by simp [lk]) (by omega) (by simp) ?_
  · simp only [List.mem_cons, List.not_mem_nil, or_false] at hx
    rcases hx with rfl
    · exact aT_bl okRF _ _
  intro X hX hX0 H hH
  conv in Fin.chk _ _ => cbv
  try simp only [Plain_rowsA, Plain_rowsB, Plain_rowsC, Plain_rowsF, Plain_rowsG, Plain_rowsI, Plain_rowsS, Plain_rowsU, Fin.satC_ret, Fin.satC_br, Fin.satC_need, Fin.satC_again, AllP, and_true, true_and, upd, List.length_nil, List.length_cons, Nat.zero_add, if_true, ncast, Int.ofNat_eq_natCast]
  subst hH
  simp only [stdH, Fld.eta]
  unfold swF
  cases okF f
  · exact ⟨fun _ => ⟨rfl, rfl, rfl, rfl, rfl⟩, fun h => (by cases h)⟩
  · refine ⟨fun h => (by cases h), fun _ => ⟨fun h1 => ?_, fun h1 => ?_⟩⟩
    · have h0 : ¬ f.d = 0 := by simpa using h1
      simp only [if_true, if_neg h0]
      exact ⟨trivial, trivial, trivial, trivial, trivial⟩
    · have h0 : f.d = 0 := by simpa using h1
      simp only [if_true, if_pos h0]
      exact ⟨trivial, trivial, trivial, trivial, trivial⟩
noncomputable def e_SwapField : Entry := pureE 21 fun H a => match a with
  | [.agg [.lit (.int .i64 f0), .lit (.int .i64 f1), .lit (.int .i64 f2), .lit (.int .i64 f3)]] => some (.tup [aT rowF H fun _ => if okF (⟨f0, f1, f2, f3⟩ : Fld) then swF (⟨f0, f1, f2, f3⟩ : Fld) else zF, .lit (.bool (H Bool fun _ => okF (⟨f0, f1, f2, f3⟩ : Fld)))], [])
  | _ => none
theorem eok_SwapField : EntryOk Try.prog e_SwapField := pureM_ok (by unfold isBody; kernel_rfl) (by
  intro a r ob e hob
  split at e
  · rename_i f0 f1 f2 f3
    simp only [Option.some.injEq, Prod.mk.injEq] at e
    obtain ⟨rfl, rfl⟩ := e
    exact ConN.args (.cons .rfl .nil) (c_SwapField (⟨f0, f1, f2, f3⟩ : Fld) )
  · simp at e)
def prtF (f : Fld) : List Int := if f.d = 0 then [f.p] else if f.d = 4 then [f.p, f.q, f.q, f.p] else if f.d = 5 then [f.p, f.q, f.q, f.p] else if f.d = 6 then [f.p, f.q, f.p, f.q, f.p, f.q] else if f.d = 7 then [f.p, f.q, f.p, f.q, f.p, f.q] else [f.p, f.q]
theorem c_FieldParts (f : Fld)  : ConN Try.prog 23 [aT rowF stdH fun _ => f] [] 0 (.tup [.vec 1 (stdH Nat fun _ => (if okF f then prtF f else []).length) (rowsI stdH fun _ => if okF f then prtF f else []), .lit (.bool (stdH Bool fun _ => okF f))]) [] [] := by
  have hB : Base Try.prog (tabΓ [e_IsValidField]) tabO := base_of tabOkO (ents_cons eok_IsValidField <| ents_nil)
  refine con_m (N := 40) hB (draw_ok hB mixed) Try.func23 rfl rfl (fun H => [aT rowF H fun _ => f]) (fun _ => []) 0 (fun H => .tup [.vec 1 (H Nat fun _ => (if okF f then prtF f else []).length) (rowsI H fun _ => if okF f then prtF f else []), .lit (.bool (H Bool fun _ => okF f))]) (fun H => []) (fun _ => []) 100 (by simp) (fun x hx => ?_) (by simp [lk]) (by omega) (by simp) ?_
  · simp only [List.mem_cons, List.not_mem_nil, or_false] at hx
    rcases hx with rfl
    · exact aT_bl okRF _ _
  intro X hX hX0 H hH
  conv in Fin.chk _ _ => cbv
  try simp only [Plain_rowsA, Plain_rowsB, Plain_rowsC, Plain_rowsF, Plain_rowsG, Plain_rowsI, Plain_rowsS, Plain_rowsU, Fin.satC_ret, Fin.satC_br, Fin.satC_need, Fin.satC_again, AllP, and_true, true_and, upd, List.length_nil, List.length_cons, Nat.zero_add, if_true, ncast, Int.ofNat_eq_natCast]
  subst hH
  simp only [stdH, Fld.eta]
  unfold prtF
  cases okF f
  · exact ⟨fun _ => ⟨rfl, rfl⟩, fun h => (by cases h)⟩
  · refine ⟨fun h => (by cases h), fun _ => ?_⟩
    simp only [if_true, beq_iff_eq, beq_eq_false_iff_ne, ne_eq]
    (repeat' (first | refine And.intro ?_ ?_ | intro _))
    all_goals first | exact trivial | (exfalso; omega) | ((repeat (first | rw [if_pos (by omega)] | rw [if_neg (by omega)])); exact RowsEq.self okI)
noncomputable def e_FieldParts : Entry := pureE 23 fun H a => match a with
  | [.agg [.lit (.int .i64 f0), .lit (.int .i64 f1), .lit (.int .i64 f2), .lit (.int .i64 f3)]] => some (.tup [.vec 1 (H Nat fun _ => (if okF (⟨f0, f1, f2, f3⟩ : Fld) then prtF (⟨f0, f1, f2, f3⟩ : Fld) else []).length) (rowsI H fun _ => if okF (⟨f0, f1, f2, f3⟩ : Fld) then prtF (⟨f0, f1, f2, f3⟩ : Fld) else []), .lit (.bool (H Bool fun _ => okF (⟨f0, f1, f2, f3⟩ : Fld)))], [])
  | _ => none
theorem eok_FieldParts : EntryOk Try.prog e_FieldParts := pureM_ok (by unfold isBody; kernel_rfl) (by
  intro a r ob e hob
  split at e
  · rename_i f0 f1 f2 f3
    simp only [Option.some.injEq, Prod.mk.injEq] at e
    obtain ⟨rfl, rfl⟩ := e
    exact ConN.args (.cons .rfl .nil) (c_FieldParts (⟨f0, f1, f2, f3⟩ : Fld) )
  · simp at e)

end Go.Proofs.Ytmpbmbioeeckeaa.AM
