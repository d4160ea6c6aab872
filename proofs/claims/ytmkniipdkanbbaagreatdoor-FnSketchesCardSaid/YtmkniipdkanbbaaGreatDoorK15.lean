/- Lemmas and contracts (Atx); conditions: none. -/
import Derived.Test.YtmkniipdkanbbaaGreatDoorK04
import Derived.Test.YtmkniipdkanbbaaGreatDoorK13
set_option linter.unusedVariables false
set_option linter.unusedSimpArgs false
set_option maxRecDepth 100000
set_option maxHeartbeats 4000000
set_option cbv.maxSteps 3000000
namespace Go.Proofs.YtmkniipdkanbbaaGreatDoor.AM
/- Texts of fields and arms; conditions: none. -/
structure Pcs where
  f : ByteArray
  o : ByteArray
  n : ByteArray
  r : ByteArray
  c : Bool
def divL : List ByteArray := [(⟨⟨[112, 101, 114, 32, 112, 97, 108, 101]⟩⟩ : ByteArray), (⟨⟨[112, 101, 114, 32, 102, 101, 115, 115]⟩⟩ : ByteArray), (⟨⟨[112, 101, 114, 32, 98, 101, 110, 100]⟩⟩ : ByteArray), (⟨⟨[113, 117, 97, 114, 116, 101, 114, 108, 121]⟩⟩ : ByteArray), (⟨⟨[112, 101, 114, 32, 115, 97, 108, 116, 105, 114, 101]⟩⟩ : ByteArray), (⟨⟨[112, 97, 108, 121]⟩⟩ : ByteArray), (⟨⟨[98, 97, 114, 114, 121]⟩⟩ : ByteArray)]
def linL : List ByteArray := [(⟨⟨[101, 110, 103, 114, 97, 105, 108, 101, 100]⟩⟩ : ByteArray), (⟨⟨[119, 97, 118, 121]⟩⟩ : ByteArray), (⟨⟨[101, 109, 98, 97, 116, 116, 108, 101, 100]⟩⟩ : ByteArray), (⟨⟨[105, 110, 100, 101, 110, 116, 101, 100]⟩⟩ : ByteArray)]
def ordL : List ByteArray := [(⟨⟨[112, 97, 108, 101]⟩⟩ : ByteArray), (⟨⟨[102, 101, 115, 115]⟩⟩ : ByteArray), (⟨⟨[98, 101, 110, 100]⟩⟩ : ByteArray), (⟨⟨[99, 104, 101, 118, 114, 111, 110]⟩⟩ : ByteArray), (⟨⟨[99, 114, 111, 115, 115]⟩⟩ : ByteArray), (⟨⟨[115, 97, 108, 116, 105, 114, 101]⟩⟩ : ByteArray), (⟨⟨[99, 104, 105, 101, 102]⟩⟩ : ByteArray)]
theorem divL_sz (x : Int) : (wordOf divL x).size ≤ 20 := getD_sz (by decide) _
theorem linL_sz (x : Int) : (wordOf linL x).size ≤ 20 := getD_sz (by decide) _
theorem ordL_sz (x : Int) : (wordOf ordL x).size ≤ 20 := getD_sz (by decide) _
def wlT (t : ByteArray) (l : Int) : ByteArray := if l = 0 then t else t ++ ((⟨⟨[32]⟩⟩ : ByteArray) ++ wordOf linL l)
theorem wlT_sz (t : ByteArray) (l : Int) : (wlT t l).size ≤ t.size + 21 := by
  have := linL_sz l
  unfold wlT; split
  · omega
  · simp only [ByteArray.size_append, bsz, List.length_cons, List.length_nil]; omega
theorem wlT_y {t : ByteArray} {l : Int} (h : l = 0) : wlT t l = t := if_pos h
theorem wlT_n {t : ByteArray} {l : Int} (h : ¬ l = 0) : wlT t l = t ++ ((⟨⟨[32]⟩⟩ : ByteArray) ++ wordOf linL l) := if_neg h
theorem c_linWords   : ConN Tryz.prog 123 [] [] 0 (.vec 1 (stdH Nat fun _ => (linL).length) (rowsS stdH fun _ => linL)) [] [] := by
  have hB : Base Tryz.prog (tabΓ []) tab := base_of tabOk (ents_nil)
  refine con_m (N := 2) hB (draw_ok hB mixed) Tryz.func123 rfl rfl (fun H => []) (fun _ => []) 0 (fun H => .vec 1 (H Nat fun _ => (linL).length) (rowsS H fun _ => linL)) (fun H => []) (fun _ => []) 60 (by simp) (fun x hx => ?_) (by simp [lk]) (by omega) (by simp) ?_
  · cases hx
  intro X hX hX0 H hH
  conv in Fin.chk _ _ => cbv
  try simp only [zqs, Plain_rowsC, zqx, AllP, zqw, upd, if_true]
  subst hH
  exact RowsEq.self okS (L := linL)
noncomputable def e_linWords : Entry := pureE 123 fun H a => match a with
  | [] => some (.vec 1 (H Nat fun _ => (linL).length) (rowsS H fun _ => linL), [])
  | _ => none
theorem eok_linWords : EntryOk Tryz.prog e_linWords := pureM_ok (by unfold isBody; kernel_rfl) (by
  intro a r ob e hob
  split at e
  · simp only [zqt] at e
    obtain ⟨rfl, rfl⟩ := e
    exact ConN.args .nil (c_linWords  )
  · simp at e)
theorem c_divWords   : ConN Tryz.prog 118 [] [] 0 (.vec 1 (stdH Nat fun _ => (divL).length) (rowsS stdH fun _ => divL)) [] [] := by
  have hB : Base Tryz.prog (tabΓ []) tab := base_of tabOk (ents_nil)
  refine con_m (N := 2) hB (draw_ok hB mixed) Tryz.func118 rfl rfl (fun H => []) (fun _ => []) 0 (fun H => .vec 1 (H Nat fun _ => (divL).length) (rowsS H fun _ => divL)) (fun H => []) (fun _ => []) 60 (by simp) (fun x hx => ?_) (by simp [lk]) (by omega) (by simp) ?_
  · cases hx
  intro X hX hX0 H hH
  conv in Fin.chk _ _ => cbv
  try simp only [zqs, Plain_rowsC, zqx, AllP, zqw, upd, if_true]
  subst hH
  exact RowsEq.self okS (L := divL)
noncomputable def e_divWords : Entry := pureE 118 fun H a => match a with
  | [] => some (.vec 1 (H Nat fun _ => (divL).length) (rowsS H fun _ => divL), [])
  | _ => none
theorem eok_divWords : EntryOk Tryz.prog e_divWords := pureM_ok (by unfold isBody; kernel_rfl) (by
  intro a r ob e hob
  split at e
  · simp only [zqt] at e
    obtain ⟨rfl, rfl⟩ := e
    exact ConN.args .nil (c_divWords  )
  · simp at e)
theorem c_ordWords   : ConN Tryz.prog 63 [] [] 0 (.vec 1 (stdH Nat fun _ => (ordL).length) (rowsS stdH fun _ => ordL)) [] [] := by
  have hB : Base Tryz.prog (tabΓ []) tab := base_of tabOk (ents_nil)
  refine con_m (N := 2) hB (draw_ok hB mixed) Tryz.func63 rfl rfl (fun H => []) (fun _ => []) 0 (fun H => .vec 1 (H Nat fun _ => (ordL).length) (rowsS H fun _ => ordL)) (fun H => []) (fun _ => []) 60 (by simp) (fun x hx => ?_) (by simp [lk]) (by omega) (by simp) ?_
  · cases hx
  intro X hX hX0 H hH
  conv in Fin.chk _ _ => cbv
  try simp only [zqs, Plain_rowsC, zqx, AllP, zqw, upd, if_true]
  subst hH
  exact RowsEq.self okS (L := ordL)
noncomputable def e_ordWords : Entry := pureE 63 fun H a => match a with
  | [] => some (.vec 1 (H Nat fun _ => (ordL).length) (rowsS H fun _ => ordL), [])
  | _ => none
theorem eok_ordWords : EntryOk Tryz.prog e_ordWords := pureM_ok (by unfold isBody; kernel_rfl) (by
  intro a r ob e hob
  split at e
  · simp only [zqt] at e
    obtain ⟨rfl, rfl⟩ := e
    exact ConN.args .nil (c_ordWords  )
  · simp at e)
theorem c_withL (t : ByteArray) (l : Int) (h0 : (0 ≤ l ∧ l ≤ 4) ∧ t.size ≤ 10000) : ConN Tryz.prog 161 [.lit (.string t), .lit (.int .i64 l)] [] 0 (.lit (.string (stdH ByteArray fun _ => wlT t l))) [] [] := by
  have hB : Base Tryz.prog (tabΓ [e_linWords]) tab := base_of tabOk (ents_cons eok_linWords <| ents_nil)
  refine con_m (N := 16) hB (draw_ok hB mixed) Tryz.func161 rfl rfl (fun H => [.lit (.string t), .lit (.int .i64 l)]) (fun _ => []) 0 (fun H => .lit (.string (H ByteArray fun _ => wlT t l))) (fun H => []) (fun _ => []) 90 (by simp) (fun x hx => ?_) (by simp [lk]) (by omega) (by simp) ?_
  · simp only [zqu] at hx
    rcases hx with rfl | rfl
    · exact .lit
    · exact .lit
  intro X hX hX0 H hH
  conv in Fin.chk _ _ => cbv
  try simp only [zqs, Plain_rowsC, zqx, AllP, zqw, upd, if_true]
  subst hH
  simp only [stdH, beq_iff_eq, beq_eq_false_iff_ne, ne_eq]
  have s1 := linL_sz l
  refine ⟨fun h => (wlT_y h), fun h => ?_⟩
  have e : IntKind.i64.wrap (l - 1) = l - 1 := wi (by omega) (by omega)
  simp only [e, wordOf_eq, wlT_n h]
  have l4 : (linL.length : Int) = 4 := rfl
  repeat' (first | refine And.intro ?_ ?_ | intro _)
  all_goals first | omega | (simp only [ByteArray.size_append, bsz, List.length_cons, List.length_nil]; omega) | (simp only [ByteArray.append_assoc])
noncomputable def e_withL : Entry := pureE 161 fun H a => match a with
  | [.lit (.string t), .lit (.int .i64 l)] => some (.lit (.string (H ByteArray fun _ => wlT t l)), [H Prop fun _ => (0 ≤ l ∧ l ≤ 4) ∧ t.size ≤ 10000])
  | _ => none
theorem eok_withL : EntryOk Tryz.prog e_withL := pureM_ok (by unfold isBody; kernel_rfl) (by
  intro a r ob e hob
  split at e
  · rename_i t l
    simp only [zqt] at e
    obtain ⟨rfl, rfl⟩ := e
    exact ConN.args (.cons .rfl (.cons .rfl .nil)) (c_withL t l hob.1)
  · simp at e)
theorem c_l3LineWord (x : Int) (h0 : 1 ≤ x ∧ x ≤ 4) : ConN Tryz.prog 136 [.lit (.int .i64 x)] [] 0 (.lit (.string (stdH ByteArray fun _ => wordOf linL x))) [] [] := by
  have hB : Base Tryz.prog (tabΓ []) tab := base_of tabOk (ents_nil)
  refine con_m (N := 7) hB (draw_ok hB mixed) Tryz.func136 rfl rfl (fun H => [.lit (.int .i64 x)]) (fun _ => []) 0 (fun H => .lit (.string (H ByteArray fun _ => wordOf linL x))) (fun H => []) (fun _ => []) 60 (by simp) (fun x hx => ?_) (by simp [lk]) (by omega) (by simp) ?_
  · simp only [zqu] at hx
    rcases hx with rfl
    · exact .lit
  intro X hX hX0 H hH
  conv in Fin.chk _ _ => cbv
  try simp only [zqs, Plain_rowsC, zqx, AllP, zqw, upd, if_true]
  subst hH
  simp only [stdH]
  exact ⟨⟨by omega, by show x < (5 : Int); omega⟩, (wordE (l := linL) h0.1).symm⟩
noncomputable def e_l3LineWord : Entry := pureE 136 fun H a => match a with
  | [.lit (.int .i64 x)] => some (.lit (.string (H ByteArray fun _ => wordOf linL x)), [H Prop fun _ => 1 ≤ x ∧ x ≤ 4])
  | _ => none
theorem eok_l3LineWord : EntryOk Tryz.prog e_l3LineWord := pureM_ok (by unfold isBody; kernel_rfl) (by
  intro a r ob e hob
  split at e
  · rename_i x
    simp only [zqt] at e
    obtain ⟨rfl, rfl⟩ := e
    exact ConN.args (.cons .rfl .nil) (c_l3LineWord x hob.1)
  · simp at e)
def okFT (f : Fld) : Prop := (0 ≤ f.d ∧ f.d ≤ 7) ∧ (0 ≤ f.l ∧ f.l ≤ 4) ∧ (1 ≤ f.p ∧ f.p ≤ 9) ∧ (f.d ≠ 0 → 1 ≤ f.q ∧ f.q ≤ 9)
def fldT (f : Fld) : ByteArray := if f.d = 0 then wordOf tinL f.p else wlT (wordOf divL f.d) f.l ++ ((⟨⟨[32]⟩⟩ : ByteArray) ++ (wordOf tinL f.p ++ ((⟨⟨[32, 97, 110, 100, 32]⟩⟩ : ByteArray) ++ wordOf tinL f.q)))
theorem fldT_y {f : Fld} (h : f.d = 0) : fldT f = wordOf tinL f.p := if_pos h
theorem fldT_n {f : Fld} (h : ¬ f.d = 0) : fldT f = wlT (wordOf divL f.d) f.l ++ ((⟨⟨[32]⟩⟩ : ByteArray) ++ (wordOf tinL f.p ++ ((⟨⟨[32, 97, 110, 100, 32]⟩⟩ : ByteArray) ++ wordOf tinL f.q))) := if_neg h
theorem fldT_sz (f : Fld) : (fldT f).size ≤ 100 := by
  have h1 := tinL_sz f.p; have h2 := tinL_sz f.q; have h3 := divL_sz f.d; have h4 := wlT_sz (wordOf divL f.d) f.l
  unfold fldT; split
  · omega
  · simp only [ByteArray.size_append, bsz, List.length_cons, List.length_nil]; omega
theorem c_fldText (f : Fld) (h0 : okFT f) : ConN Tryz.prog 129 [aT rowF stdH fun _ => f] [] 0 (.lit (.string (stdH ByteArray fun _ => fldT f))) [] [] := by
  have hB : Base Tryz.prog (tabΓ [e_tincW, e_divWords, e_withL]) tab := base_of tabOk (ents_cons eok_tincW <| ents_cons eok_divWords <| ents_cons eok_withL <| ents_nil)
  refine con_m (N := 28) hB (draw_ok hB mixed) Tryz.func129 rfl rfl (fun H => [aT rowF H fun _ => f]) (fun _ => []) 0 (fun H => .lit (.string (H ByteArray fun _ => fldT f))) (fun H => []) (fun _ => []) 120 (by simp) (fun x hx => ?_) (by simp [lk]) (by omega) (by simp) ?_
  · simp only [zqu] at hx
    rcases hx with rfl
    · exact aT_bl okRF _ _
  intro X hX hX0 H hH
  conv in Fin.chk _ _ => cbv
  try simp only [zqs, Plain_rowsC, zqx, AllP, zqw, upd, if_true]
  subst hH
  simp only [stdH, beq_iff_eq, beq_eq_false_iff_ne, ne_eq]
  obtain ⟨hd, hl, hp, hq⟩ := h0
  have s1 := tinL_sz f.p; have s2 := tinL_sz f.q; have s3 := divL_sz f.d; have s4 := wlT_sz (wordOf divL f.d) f.l
  refine ⟨fun h => ⟨hp, fldT_y h⟩, fun h => ?_⟩
  have e : IntKind.i64.wrap (f.d - 1) = f.d - 1 := wi (by omega) (by omega)
  have l7 : (divL.length : Int) = 7 := rfl
  have hq := hq h
  simp only [e, wordOf_eq, fldT_n h]
  repeat' (first | refine And.intro ?_ ?_ | intro _)
  all_goals first | assumption | omega | (simp only [ByteArray.size_append, bsz, List.length_cons, List.length_nil]; omega) | (simp only [ByteArray.append_assoc])
noncomputable def e_fldText : Entry := pureE 129 fun H a => match a with
  | [.agg [.lit (.int .i64 f0), .lit (.int .i64 f1), .lit (.int .i64 f2), .lit (.int .i64 f3)]] => some (.lit (.string (H ByteArray fun _ => fldT (⟨f0, f1, f2, f3⟩ : Fld))), [H Prop fun _ => okFT (⟨f0, f1, f2, f3⟩ : Fld)])
  | _ => none
theorem eok_fldText : EntryOk Tryz.prog e_fldText := pureM_ok (by unfold isBody; kernel_rfl) (by
  intro a r ob e hob
  split at e
  · rename_i f0 f1 f2 f3
    simp only [zqt] at e
    obtain ⟨rfl, rfl⟩ := e
    exact ConN.args (.cons .rfl .nil) (c_fldText (⟨f0, f1, f2, f3⟩ : Fld) hob.1)
  · simp at e)
theorem c_l3Text (f : Fld) (h0 : okFT f) : ConN Tryz.prog 86 [aT rowF stdH fun _ => f] [] 0 (.lit (.string (stdH ByteArray fun _ => fldT f))) [] [] := by
  have hB : Base Tryz.prog (tabΓ [e_l2Word, e_l3LineWord]) tab := base_of tabOk (ents_cons eok_l2Word <| ents_cons eok_l3LineWord <| ents_nil)
  refine con_m (N := 35) hB (draw_ok hB mixed) Tryz.func86 rfl rfl (fun H => [aT rowF H fun _ => f]) (fun _ => []) 0 (fun H => .lit (.string (H ByteArray fun _ => fldT f))) (fun H => []) (fun _ => []) 120 (by simp) (fun x hx => ?_) (by simp [lk]) (by omega) (by simp) ?_
  · simp only [zqu] at hx
    rcases hx with rfl
    · exact aT_bl okRF _ _
  intro X hX hX0 H hH
  conv in Fin.chk _ _ => cbv
  try simp only [zqs, Plain_rowsC, zqx, AllP, zqw, upd, if_true]
  subst hH
  simp only [stdH, zqf, zqh, ne_eq, zqa, zqb]
  obtain ⟨hd, hl, hp, hq⟩ := h0
  have s1 := tinL_sz f.p; have s2 := tinL_sz f.q; have s3 := divL_sz f.d; have s4 := linL_sz f.l
  refine ⟨fun h => ⟨hp, fldT_y h⟩, fun h => ?_⟩
  have hq := hq h
  have l8 : List.getD [(⟨⟨[]⟩⟩ : ByteArray), (⟨⟨[112, 101, 114, 32, 112, 97, 108, 101]⟩⟩ : ByteArray), (⟨⟨[112, 101, 114, 32, 102, 101, 115, 115]⟩⟩ : ByteArray), (⟨⟨[112, 101, 114, 32, 98, 101, 110, 100]⟩⟩ : ByteArray), (⟨⟨[113, 117, 97, 114, 116, 101, 114, 108, 121]⟩⟩ : ByteArray), (⟨⟨[112, 101, 114, 32, 115, 97, 108, 116, 105, 114, 101]⟩⟩ : ByteArray), (⟨⟨[112, 97, 108, 121]⟩⟩ : ByteArray), (⟨⟨[98, 97, 114, 114, 121]⟩⟩ : ByteArray)] f.d.toNat ByteArray.empty = wordOf divL f.d := wordE (l := divL) (by omega)
  simp only [l8, fldT_n h]
  by_cases hz : f.l = 0
  · rw [wlT_y hz]
    repeat' (first | refine And.intro ?_ ?_ | intro _)
    all_goals first | assumption | omega | (show f.d < (8 : Int); omega) | (simp only [ByteArray.size_append, bsz, List.length_cons, List.length_nil]; omega) | (simp only [ByteArray.append_assoc])
  · rw [wlT_n hz]
    repeat' (first | refine And.intro ?_ ?_ | intro _)
    all_goals first | assumption | omega | (show f.d < (8 : Int); omega) | (simp only [ByteArray.size_append, bsz, List.length_cons, List.length_nil]; omega) | (simp only [ByteArray.append_assoc])
noncomputable def e_l3Text : Entry := pureE 86 fun H a => match a with
  | [.agg [.lit (.int .i64 f0), .lit (.int .i64 f1), .lit (.int .i64 f2), .lit (.int .i64 f3)]] => some (.lit (.string (H ByteArray fun _ => fldT (⟨f0, f1, f2, f3⟩ : Fld))), [H Prop fun _ => okFT (⟨f0, f1, f2, f3⟩ : Fld)])
  | _ => none
theorem eok_l3Text : EntryOk Tryz.prog e_l3Text := pureM_ok (by unfold isBody; kernel_rfl) (by
  intro a r ob e hob
  split at e
  · rename_i f0 f1 f2 f3
    simp only [zqt] at e
    obtain ⟨rfl, rfl⟩ := e
    exact ConN.args (.cons .rfl .nil) (c_l3Text (⟨f0, f1, f2, f3⟩ : Fld) hob.1)
  · simp at e)
def ordS (o l : Int) : ByteArray := wlT ((⟨⟨[97, 32]⟩⟩ : ByteArray) ++ wordOf ordL o) l
theorem ordS_sz (o l : Int) : (ordS o l).size ≤ 50 := by
  have h1 := ordL_sz o; have h2 := wlT_sz ((⟨⟨[97, 32]⟩⟩ : ByteArray) ++ wordOf ordL o) l
  unfold ordS
  simp only [ByteArray.size_append, bsz, List.length_cons, List.length_nil] at h2
  omega
theorem c_ordStart (o : Int) (l : Int) (h0 : (1 ≤ o ∧ o ≤ 7) ∧ 0 ≤ l ∧ l ≤ 4) : ConN Tryz.prog 130 [.lit (.int .i64 o), .lit (.int .i64 l)] [] 0 (.lit (.string (stdH ByteArray fun _ => ordS o l))) [] [] := by
  have hB : Base Tryz.prog (tabΓ [e_ordWords, e_withL]) tab := base_of tabOk (ents_cons eok_ordWords <| ents_cons eok_withL <| ents_nil)
  refine con_m (N := 13) hB (draw_ok hB mixed) Tryz.func130 rfl rfl (fun H => [.lit (.int .i64 o), .lit (.int .i64 l)]) (fun _ => []) 0 (fun H => .lit (.string (H ByteArray fun _ => ordS o l))) (fun H => []) (fun _ => []) 90 (by simp) (fun x hx => ?_) (by simp [lk]) (by omega) (by simp) ?_
  · simp only [zqu] at hx
    rcases hx with rfl | rfl
    · exact .lit
    · exact .lit
  intro X hX hX0 H hH
  conv in Fin.chk _ _ => cbv
  try simp only [zqs, Plain_rowsC, zqx, AllP, zqw, upd, if_true]
  subst hH
  simp only [stdH]
  have s1 := ordL_sz o
  have e : IntKind.i64.wrap (o - 1) = o - 1 := wi (by omega) (by omega)
  have l7 : (ordL.length : Int) = 7 := rfl
  simp only [e, wordOf_eq]
  repeat' (first | refine And.intro ?_ ?_ | intro _)
  all_goals first | exact trivial | rfl | omega | (simp only [ByteArray.size_append, bsz, List.length_cons, List.length_nil]; omega)
noncomputable def e_ordStart : Entry := pureE 130 fun H a => match a with
  | [.lit (.int .i64 o), .lit (.int .i64 l)] => some (.lit (.string (H ByteArray fun _ => ordS o l)), [H Prop fun _ => (1 ≤ o ∧ o ≤ 7) ∧ 0 ≤ l ∧ l ≤ 4])
  | _ => none
theorem eok_ordStart : EntryOk Tryz.prog e_ordStart := pureM_ok (by unfold isBody; kernel_rfl) (by
  intro a r ob e hob
  split at e
  · rename_i o l
    simp only [zqt] at e
    obtain ⟨rfl, rfl⟩ := e
    exact ConN.args (.cons .rfl (.cons .rfl .nil)) (c_ordStart o l hob.1)
  · simp at e)
theorem c_l6Ordinary (o : Int) (l : Int) (h0 : (1 ≤ o ∧ o ≤ 7) ∧ 0 ≤ l ∧ l ≤ 4) : ConN Tryz.prog 87 [.lit (.int .i64 o), .lit (.int .i64 l)] [] 0 (.lit (.string (stdH ByteArray fun _ => ordS o l))) [] [] := by
  have hB : Base Tryz.prog (tabΓ [e_l3LineWord]) tab := base_of tabOk (ents_cons eok_l3LineWord <| ents_nil)
  refine con_m (N := 19) hB (draw_ok hB mixed) Tryz.func87 rfl rfl (fun H => [.lit (.int .i64 o), .lit (.int .i64 l)]) (fun _ => []) 0 (fun H => .lit (.string (H ByteArray fun _ => ordS o l))) (fun H => []) (fun _ => []) 90 (by simp) (fun x hx => ?_) (by simp [lk]) (by omega) (by simp) ?_
  · simp only [zqu] at hx
    rcases hx with rfl | rfl
    · exact .lit
    · exact .lit
  intro X hX hX0 H hH
  conv in Fin.chk _ _ => cbv
  try simp only [zqs, Plain_rowsC, zqx, AllP, zqw, upd, if_true]
  subst hH
  simp only [stdH, decide_eq_true_eq, decide_eq_false_iff_not]
  have s1 := ordL_sz o; have s2 := linL_sz l
  have l8 : List.getD [(⟨⟨[]⟩⟩ : ByteArray), (⟨⟨[112, 97, 108, 101]⟩⟩ : ByteArray), (⟨⟨[102, 101, 115, 115]⟩⟩ : ByteArray), (⟨⟨[98, 101, 110, 100]⟩⟩ : ByteArray), (⟨⟨[99, 104, 101, 118, 114, 111, 110]⟩⟩ : ByteArray), (⟨⟨[99, 114, 111, 115, 115]⟩⟩ : ByteArray), (⟨⟨[115, 97, 108, 116, 105, 114, 101]⟩⟩ : ByteArray), (⟨⟨[99, 104, 105, 101, 102]⟩⟩ : ByteArray)] o.toNat ByteArray.empty = wordOf ordL o := wordE (l := ordL) (by omega)
  simp only [l8]
  unfold ordS
  by_cases hz : l = 0
  · rw [wlT_y hz]
    repeat' (first | refine And.intro ?_ ?_ | intro _)
    all_goals first | exact trivial | rfl | assumption | omega | (show o < (8 : Int); omega) | (simp only [ByteArray.size_append, bsz, List.length_cons, List.length_nil]; omega) | (simp only [ByteArray.append_assoc])
  · rw [wlT_n hz]
    repeat' (first | refine And.intro ?_ ?_ | intro _)
    all_goals first | exact trivial | rfl | assumption | omega | (show o < (8 : Int); omega) | (simp only [ByteArray.size_append, bsz, List.length_cons, List.length_nil]; omega) | (simp only [ByteArray.append_assoc])
noncomputable def e_l6Ordinary : Entry := pureE 87 fun H a => match a with
  | [.lit (.int .i64 o), .lit (.int .i64 l)] => some (.lit (.string (H ByteArray fun _ => ordS o l)), [H Prop fun _ => (1 ≤ o ∧ o ≤ 7) ∧ 0 ≤ l ∧ l ≤ 4])
  | _ => none
theorem eok_l6Ordinary : EntryOk Tryz.prog e_l6Ordinary := pureM_ok (by unfold isBody; kernel_rfl) (by
  intro a r ob e hob
  split at e
  · rename_i o l
    simp only [zqt] at e
    obtain ⟨rfl, rfl⟩ := e
    exact ConN.args (.cons .rfl (.cons .rfl .nil)) (c_l6Ordinary o l hob.1)
  · simp at e)
def orE (b : Bool) (t : ByteArray) : ByteArray := if b then ByteArray.empty else t
def pcsA (a : Arm) : Pcs := ⟨fldT a.f, orE (decide (a.o = 0)) (ordS a.o a.l ++ ((⟨⟨[32]⟩⟩ : ByteArray) ++ wordOf tinL a.t)), orE (noG a.n) (grpT a.n), orE (noG a.r) (grpT a.r), a.o == 7⟩
def emp (t : ByteArray) : Bool := t.toList == (⟨⟨[]⟩⟩ : ByteArray).toList
theorem emp_iff (t : ByteArray) : emp t = true ↔ t.size = 0 := by
  unfold emp
  rw [ByteArray.toList_eq, ByteArray.toList_eq, beq_iff_eq]
  exact (List.length_eq_zero_iff (l := t.data.toList)).symm
def jnT (p : Pcs) : ByteArray := if emp p.o then (if emp p.r then p.f else p.f ++ ((⟨⟨[44, 32]⟩⟩ : ByteArray) ++ p.r)) else p.f ++ ((⟨⟨[44, 32]⟩⟩ : ByteArray) ++ (p.o ++ ((if emp p.n then ByteArray.empty else (⟨⟨[32, 99, 104, 97, 114, 103, 101, 100, 32, 119, 105, 116, 104, 32]⟩⟩ : ByteArray) ++ p.n) ++ (if emp p.r then ByteArray.empty else (if p.c then (⟨⟨[32, 97, 98, 111, 118, 101, 32]⟩⟩ : ByteArray) else (⟨⟨[32, 98, 101, 116, 119, 101, 101, 110, 32]⟩⟩ : ByteArray)) ++ p.r))))
def szP (p : Pcs) : Prop := p.f.size ≤ 1000 ∧ p.o.size ≤ 1000 ∧ p.n.size ≤ 1000 ∧ p.r.size ≤ 1000
theorem c_joined (p : Pcs) (h0 : szP p) : ConN Tryz.prog 29 [.agg [.lit (.string (stdH ByteArray fun _ => p.f)), .lit (.string (stdH ByteArray fun _ => p.o)), .lit (.string (stdH ByteArray fun _ => p.n)), .lit (.string (stdH ByteArray fun _ => p.r)), .lit (.bool (stdH Bool fun _ => p.c))]] [] 0 (.lit (.string (stdH ByteArray fun _ => jnT p))) [] [] := by
  have hB : Base Tryz.prog (tabΓ []) tab := base_of tabOk (ents_nil)
  refine con_m (N := 56) hB (draw_ok hB mixed) Tryz.func29 rfl rfl (fun H => [.agg [.lit (.string (H ByteArray fun _ => p.f)), .lit (.string (H ByteArray fun _ => p.o)), .lit (.string (H ByteArray fun _ => p.n)), .lit (.string (H ByteArray fun _ => p.r)), .lit (.bool (H Bool fun _ => p.c))]]) (fun _ => []) 0 (fun H => .lit (.string (H ByteArray fun _ => jnT p))) (fun H => []) (fun _ => []) 160 (by simp) (fun x hx => ?_) (by simp [lk]) (by omega) (by simp) ?_
  · simp only [zqu] at hx
    rcases hx with rfl
    · exact blq_ok 4 rfl
  intro X hX hX0 H hH
  conv in Fin.chk _ _ => cbv
  try simp only [zqs, Plain_rowsC, zqx, AllP, zqw, upd, if_true]
  subst hH
  simp only [stdH]
  obtain ⟨z1, z2, z3, z4⟩ := h0
  obtain ⟨pf, po, pn, pr, pc⟩ := p
  simp only at z1 z2 z3 z4 ⊢
  unfold jnT
  simp only
  have eo : (po.toList == (⟨⟨[]⟩⟩ : ByteArray).toList) = emp po := rfl
  have en : (pn.toList == (⟨⟨[]⟩⟩ : ByteArray).toList) = emp pn := rfl
  have er : (pr.toList == (⟨⟨[]⟩⟩ : ByteArray).toList) = emp pr := rfl
  simp only [eo, en, er]
  generalize emp po = b1
  generalize emp pn = b2
  generalize emp pr = b3
  cases b1 <;> cases b2 <;> cases b3 <;> cases pc
  all_goals simp only [cond_true, cond_false, Bool.not_true, Bool.not_false, if_true, Bool.false_eq_true, if_false, ByteArray.append_assoc, app_empty, empty_app]
  all_goals repeat' (first | exact trivial | rfl | (intro h; first | (cases h; done) | skip) | refine And.intro ?_ ?_ | (simp only [ByteArray.size_append, bsz, List.length_cons, List.length_nil]; omega))
noncomputable def e_joined : Entry := pureE 29 fun H a => match a with
  | [.agg [.lit (.string p0), .lit (.string p1), .lit (.string p2), .lit (.string p3), .lit (.bool p4)]] => some (.lit (.string (H ByteArray fun _ => jnT (⟨p0, p1, p2, p3, p4⟩ : Pcs))), [H Prop fun _ => szP (⟨p0, p1, p2, p3, p4⟩ : Pcs)])
  | _ => none
theorem eok_joined : EntryOk Tryz.prog e_joined := pureM_ok (by unfold isBody; kernel_rfl) (by
  intro a r ob e hob
  split at e
  · rename_i p0 p1 p2 p3 p4
    simp only [zqt] at e
    obtain ⟨rfl, rfl⟩ := e
    exact ConN.args (.cons .rfl .nil) (c_joined (⟨p0, p1, p2, p3, p4⟩ : Pcs) hob.1)
  · simp at e)
theorem okG_T {g : Grp} (h : okG g = true) : okT g := by
  unfold okG attF inB at h
  simp only [Bool.and_eq_true, decide_eq_true_eq] at h
  obtain ⟨⟨h1, h2, h3⟩, h4⟩ := h
  refine ⟨h1, h2, ?_, h4⟩
  show g.a ≤ ((attL g.k).length : Nat)
  by_cases hk : g.k ≤ 3
  · rw [if_pos hk] at h3
    have h3 := of_decide_eq_true h3
    have : (attL g.k).length = 2 := by
      unfold attL
      rcases (by omega : g.k = 1 ∨ g.k = 2 ∨ g.k = 3) with e | e | e <;> rw [e] <;> rfl
    omega
  · rw [if_neg hk] at h3
    have h3 := of_decide_eq_true h3
    omega
theorem okF_T {f : Fld} (h : okF f = true) : okFT f := by
  unfold okF inB at h
  simp only [Bool.and_eq_true, decide_eq_true_eq] at h
  obtain ⟨⟨⟨h1, h2⟩, h3⟩, h4⟩ := h
  refine ⟨h1, h2, h3, fun hd => ?_⟩
  rw [if_neg hd] at h4
  simp only [Bool.and_eq_true, decide_eq_true_eq] at h4
  exact h4.1
theorem okA_F {a : Arm} (h : okA a = true) : okFT a.f := by
  unfold okA at h
  simp only [Bool.and_eq_true] at h
  exact okF_T h.1.1
theorem okA_O {a : Arm} (h : okA a = true) (ho : a.o ≠ 0) : (1 ≤ a.o ∧ a.o ≤ 7) ∧ (0 ≤ a.l ∧ a.l ≤ 4) ∧ 1 ≤ a.t ∧ a.t ≤ 9 := by
  unfold okA at h
  rw [if_neg ho] at h
  unfold inB at h
  simp only [Bool.and_eq_true, decide_eq_true_eq] at h
  exact ⟨h.2.1.1.1, h.2.1.1.2, h.2.1.2⟩
theorem okA_N {a : Arm} (h : okA a = true) (hn : noG a.n = false) : okT a.n ∧ a.o ≠ 0 := by
  unfold okA at h
  by_cases ho : a.o = 0
  · rw [if_pos ho] at h
    simp only [Bool.and_eq_true, hn] at h
    exact absurd h.2.2 (by simp)
  · rw [if_neg ho] at h
    simp only [Bool.and_eq_true, hn, Bool.false_or] at h
    exact ⟨okG_T h.2.2, ho⟩
theorem okA_R {a : Arm} (h : okA a = true) (hr : noG a.r = false) : okT a.r := by
  unfold okA at h
  simp only [Bool.and_eq_true, hr, Bool.false_or] at h
  exact okG_T h.1.2
theorem szPA (a : Arm) : szP (pcsA a) := by
  have h1 := fldT_sz a.f; have h2 := ordS_sz a.o a.l; have h3 := tinL_sz a.t; have h4 := grpT_sz a.n; have h5 := grpT_sz a.r
  have orE_sz : ∀ (b : Bool) (t : ByteArray), t.size ≤ 1000 → (orE b t).size ≤ 1000 := fun b t h => by
    unfold orE; split
    · exact Nat.zero_le _
    · exact h
  unfold szP pcsA
  exact ⟨by show (fldT a.f).size ≤ 1000; omega, orE_sz _ _ (by simp only [ByteArray.size_append, bsz, List.length_cons, List.length_nil]; omega), orE_sz _ _ (by omega), orE_sz _ _ (by omega)⟩
def armT (a : Arm) : ByteArray := jnT (pcsA a)
theorem allGn (g : Grp) : allT [fun _ => g.c == 0, fun _ => g.k == 0, fun _ => g.a == 0, fun _ => g.t == 0] = noG g := allG _ _ _ _
theorem c_pieces (a : Arm) (h0 : okA a = true) : ConN Tryz.prog 74 [aT rowA stdH fun _ => a] [] 0 (.agg [.lit (.string (stdH ByteArray fun _ => (pcsA a).f)), .lit (.string (stdH ByteArray fun _ => (pcsA a).o)), .lit (.string (stdH ByteArray fun _ => (pcsA a).n)), .lit (.string (stdH ByteArray fun _ => (pcsA a).r)), .lit (.bool (stdH Bool fun _ => (pcsA a).c))]) [] [] := by
  have hB : Base Tryz.prog (tabΓ [e_fldText, e_ordStart, e_tincW, e_grpText]) tab := base_of tabOk (ents_cons eok_fldText <| ents_cons eok_ordStart <| ents_cons eok_tincW <| ents_cons eok_grpText <| ents_nil)
  refine con_m (N := 42) hB (draw_ok hB mixed) Tryz.func74 rfl rfl (fun H => [aT rowA H fun _ => a]) (fun _ => []) 0 (fun H => .agg [.lit (.string (H ByteArray fun _ => (pcsA a).f)), .lit (.string (H ByteArray fun _ => (pcsA a).o)), .lit (.string (H ByteArray fun _ => (pcsA a).n)), .lit (.string (H ByteArray fun _ => (pcsA a).r)), .lit (.bool (H Bool fun _ => (pcsA a).c))]) (fun H => []) (fun _ => []) 160 (by simp) (fun x hx => ?_) (by simp [lk]) (by omega) (by simp) ?_
  · simp only [zqu] at hx
    rcases hx with rfl
    · exact aT_bl okRA _ _
  intro X hX hX0 H hH
  conv in Fin.chk _ _ => cbv
  try simp only [zqs, Plain_rowsC, zqx, AllP, zqw, upd, if_true]
  subst hH
  simp only [stdH, Arm.eta2, Fld.eta, Grp.eta, allGn]
  have f1 := okA_F h0
  have s1 := ordS_sz a.o a.l
  have s2 := tinL_sz a.t
  have n1 : noG a.n = false → okT a.n := fun h => (okA_N h0 h).1
  have r1 : noG a.r = false → okT a.r := okA_R h0
  have o1 : a.o ≠ 0 → (1 ≤ a.o ∧ a.o ≤ 7) ∧ (0 ≤ a.l ∧ a.l ≤ 4) ∧ 1 ≤ a.t ∧ a.t ≤ 9 := okA_O h0
  unfold pcsA orE
  simp only
  generalize noG a.n = bn at *
  generalize noG a.r = br at *
  refine ⟨f1, fun ho => ?_, fun ho => ?_⟩
  · have ho' : a.o ≠ 0 := by simpa using ho
    have ⟨o2, o3, o4⟩ := o1 ho'
    refine ⟨⟨o2, o3⟩, by simp only [bsz, List.length_cons, List.length_nil]; omega, o4, by simp only [ByteArray.size_append, bsz, List.length_cons, List.length_nil]; omega, ?_, ?_⟩
    all_goals rw [decide_eq_false ho']
    all_goals cases bn <;> cases br
    all_goals simp only [ByteArray.append_assoc, if_true, Bool.false_eq_true, if_false, Bool.not_true, Bool.not_false]
    all_goals repeat' (first | exact trivial | rfl | exact n1 rfl | exact r1 rfl | refine And.intro ?_ ?_ | (intro h; first | (cases h; done) | skip))
  · have ho' : a.o = 0 := by simpa using ho
    rw [decide_eq_true ho']
    cases bn <;> cases br
    all_goals simp only [ByteArray.append_assoc, if_true, Bool.false_eq_true, if_false, Bool.not_true, Bool.not_false]
    all_goals repeat' (first | exact trivial | rfl | exact n1 rfl | exact r1 rfl | refine And.intro ?_ ?_ | (intro h; first | (cases h; done) | skip))
noncomputable def e_pieces : Entry := pureE 74 fun H a => match a with
  | [.agg [.lit (.int .i64 a0), .lit (.int .i64 a1), .lit (.int .i64 a2), .lit (.int .i64 a3), .lit (.int .i64 a4), .lit (.int .i64 a5), .lit (.int .i64 a6), .lit (.int .i64 a7), .lit (.int .i64 a8), .lit (.int .i64 a9), .lit (.int .i64 a10), .lit (.int .i64 a11), .lit (.int .i64 a12), .lit (.int .i64 a13), .lit (.int .i64 a14)]] => some (.agg [.lit (.string (H ByteArray fun _ => (pcsA (⟨⟨a0, a1, a2, a3⟩, a4, a5, a6, ⟨a7, a8, a9, a10⟩, ⟨a11, a12, a13, a14⟩⟩ : Arm)).f)), .lit (.string (H ByteArray fun _ => (pcsA (⟨⟨a0, a1, a2, a3⟩, a4, a5, a6, ⟨a7, a8, a9, a10⟩, ⟨a11, a12, a13, a14⟩⟩ : Arm)).o)), .lit (.string (H ByteArray fun _ => (pcsA (⟨⟨a0, a1, a2, a3⟩, a4, a5, a6, ⟨a7, a8, a9, a10⟩, ⟨a11, a12, a13, a14⟩⟩ : Arm)).n)), .lit (.string (H ByteArray fun _ => (pcsA (⟨⟨a0, a1, a2, a3⟩, a4, a5, a6, ⟨a7, a8, a9, a10⟩, ⟨a11, a12, a13, a14⟩⟩ : Arm)).r)), .lit (.bool (H Bool fun _ => (pcsA (⟨⟨a0, a1, a2, a3⟩, a4, a5, a6, ⟨a7, a8, a9, a10⟩, ⟨a11, a12, a13, a14⟩⟩ : Arm)).c))], [H Prop fun _ => okA (⟨⟨a0, a1, a2, a3⟩, a4, a5, a6, ⟨a7, a8, a9, a10⟩, ⟨a11, a12, a13, a14⟩⟩ : Arm) = true])
  | _ => none
theorem eok_pieces : EntryOk Tryz.prog e_pieces := pureM_ok (by unfold isBody; kernel_rfl) (by
  intro a r ob e hob
  split at e
  · rename_i a0 a1 a2 a3 a4 a5 a6 a7 a8 a9 a10 a11 a12 a13 a14
    simp only [zqt] at e
    obtain ⟨rfl, rfl⟩ := e
    exact ConN.args (.cons .rfl .nil) (c_pieces (⟨⟨a0, a1, a2, a3⟩, a4, a5, a6, ⟨a7, a8, a9, a10⟩, ⟨a11, a12, a13, a14⟩⟩ : Arm) hob.1)
  · simp at e)
theorem c_armText (a : Arm) (h0 : okA a = true) : ConN Tryz.prog 51 [aT rowA stdH fun _ => a] [] 0 (.lit (.string (stdH ByteArray fun _ => armT a))) [] [] := by
  have hB : Base Tryz.prog (tabΓ [e_pieces, e_joined]) tab := base_of tabOk (ents_cons eok_pieces <| ents_cons eok_joined <| ents_nil)
  refine con_m (N := 6) hB (draw_ok hB mixed) Tryz.func51 rfl rfl (fun H => [aT rowA H fun _ => a]) (fun _ => []) 0 (fun H => .lit (.string (H ByteArray fun _ => armT a))) (fun H => []) (fun _ => []) 160 (by simp) (fun x hx => ?_) (by simp [lk]) (by omega) (by simp) ?_
  · simp only [zqu] at hx
    rcases hx with rfl
    · exact aT_bl okRA _ _
  intro X hX hX0 H hH
  conv in Fin.chk _ _ => cbv
  try simp only [zqs, Plain_rowsC, zqx, AllP, zqw, upd, if_true]
  subst hH
  simp only [stdH, Arm.eta2, Fld.eta, Grp.eta]
  exact ⟨h0, szPA a, rfl⟩
noncomputable def e_armText : Entry := pureE 51 fun H a => match a with
  | [.agg [.lit (.int .i64 a0), .lit (.int .i64 a1), .lit (.int .i64 a2), .lit (.int .i64 a3), .lit (.int .i64 a4), .lit (.int .i64 a5), .lit (.int .i64 a6), .lit (.int .i64 a7), .lit (.int .i64 a8), .lit (.int .i64 a9), .lit (.int .i64 a10), .lit (.int .i64 a11), .lit (.int .i64 a12), .lit (.int .i64 a13), .lit (.int .i64 a14)]] => some (.lit (.string (H ByteArray fun _ => armT (⟨⟨a0, a1, a2, a3⟩, a4, a5, a6, ⟨a7, a8, a9, a10⟩, ⟨a11, a12, a13, a14⟩⟩ : Arm))), [H Prop fun _ => okA (⟨⟨a0, a1, a2, a3⟩, a4, a5, a6, ⟨a7, a8, a9, a10⟩, ⟨a11, a12, a13, a14⟩⟩ : Arm) = true])
  | _ => none
theorem eok_armText : EntryOk Tryz.prog e_armText := pureM_ok (by unfold isBody; kernel_rfl) (by
  intro a r ob e hob
  split at e
  · rename_i a0 a1 a2 a3 a4 a5 a6 a7 a8 a9 a10 a11 a12 a13 a14
    simp only [zqt] at e
    obtain ⟨rfl, rfl⟩ := e
    exact ConN.args (.cons .rfl .nil) (c_armText (⟨⟨a0, a1, a2, a3⟩, a4, a5, a6, ⟨a7, a8, a9, a10⟩, ⟨a11, a12, a13, a14⟩⟩ : Arm) hob.1)
  · simp at e)
def jnO (o : Int) : ByteArray := if o = 0 then (⟨⟨[44, 32]⟩⟩ : ByteArray) else if o = 7 then (⟨⟨[32, 97, 98, 111, 118, 101, 32]⟩⟩ : ByteArray) else (⟨⟨[32, 98, 101, 116, 119, 101, 101, 110, 32]⟩⟩ : ByteArray)
theorem jnO_sz (o : Int) : (jnO o).size ≤ 9 := by unfold jnO; split <;> (try split) <;> decide
theorem c_l6Join (o : Int)  : ConN Tryz.prog 91 [.lit (.int .i64 o)] [] 0 (.lit (.string (stdH ByteArray fun _ => jnO o))) [] [] := by
  have hB : Base Tryz.prog (tabΓ []) tab := base_of tabOk (ents_nil)
  refine con_m (N := 8) hB (draw_ok hB mixed) Tryz.func91 rfl rfl (fun H => [.lit (.int .i64 o)]) (fun _ => []) 0 (fun H => .lit (.string (H ByteArray fun _ => jnO o))) (fun H => []) (fun _ => []) 90 (by simp) (fun x hx => ?_) (by simp [lk]) (by omega) (by simp) ?_
  · simp only [zqu] at hx
    rcases hx with rfl
    · exact .lit
  intro X hX hX0 H hH
  conv in Fin.chk _ _ => cbv
  try simp only [zqs, Plain_rowsC, zqx, AllP, zqw, upd, if_true]
  subst hH
  simp only [stdH, beq_iff_eq, beq_eq_false_iff_ne, ne_eq]
  unfold jnO
  exact ⟨fun h => if_pos h, fun h => ⟨fun h2 => by rw [if_neg h, if_pos h2], fun h2 => by rw [if_neg h, if_neg h2]⟩⟩
noncomputable def e_l6Join : Entry := pureE 91 fun H a => match a with
  | [.lit (.int .i64 o)] => some (.lit (.string (H ByteArray fun _ => jnO o)), [])
  | _ => none
theorem eok_l6Join : EntryOk Tryz.prog e_l6Join := pureM_ok (by unfold isBody; kernel_rfl) (by
  intro a r ob e hob
  split at e
  · rename_i o
    simp only [zqt] at e
    obtain ⟨rfl, rfl⟩ := e
    exact ConN.args (.cons .rfl .nil) (c_l6Join o )
  · simp at e)
theorem emp_no {t : ByteArray} (h : 1 ≤ t.size) : emp t = false := by
  cases e : emp t with
  | false => rfl
  | true => rw [emp_iff] at e; omega
theorem emp_y : emp ByteArray.empty = true := (emp_iff _).2 rfl
theorem grpT_pos (g : Grp) : 1 ≤ (grpT g).size := by
  unfold grpT
  simp only [ByteArray.size_append, bsz, List.length_cons, List.length_nil]; omega
theorem ordS_pos (o l : Int) : 1 ≤ (ordS o l).size := by
  unfold ordS wlT
  split
  · simp only [ByteArray.size_append, bsz, List.length_cons, List.length_nil]; omega
  · simp only [ByteArray.size_append, bsz, List.length_cons, List.length_nil]; omega
def ordP (a : Arm) : ByteArray := if a.o = 0 then ByteArray.empty else (⟨⟨[44, 32]⟩⟩ : ByteArray) ++ (ordS a.o a.l ++ ((⟨⟨[32]⟩⟩ : ByteArray) ++ wordOf tinL a.t))
def onP (a : Arm) : ByteArray := if noG a.n then ByteArray.empty else (⟨⟨[32, 99, 104, 97, 114, 103, 101, 100, 32, 119, 105, 116, 104, 32]⟩⟩ : ByteArray) ++ grpT a.n
def arP (a : Arm) : ByteArray := if noG a.r then ByteArray.empty else jnO a.o ++ grpT a.r
theorem okA_o0 {a : Arm} (h : okA a = true) (ho : a.o = 0) : noG a.n = true := by
  cases e : noG a.n with
  | true => rfl
  | false => exact absurd ho (okA_N h e).2
theorem armT_eq {a : Arm} (h : okA a = true) : armT a = fldT a.f ++ (ordP a ++ (onP a ++ arP a)) := by
  have p1 := grpT_pos a.n; have p2 := grpT_pos a.r; have p3 := ordS_pos a.o a.l
  have q1 : emp (grpT a.n) = false := emp_no p1
  have q2 : emp (grpT a.r) = false := emp_no p2
  have q3 : emp (ordS a.o a.l ++ ((⟨⟨[32]⟩⟩ : ByteArray) ++ wordOf tinL a.t)) = false := emp_no (by simp only [ByteArray.size_append]; omega)
  unfold armT jnT pcsA ordP onP arP orE jnO
  simp only
  by_cases ho : a.o = 0
  · have hn := okA_o0 h ho
    rw [decide_eq_true ho, hn]
    cases hr : noG a.r
    all_goals simp only [ho, if_true, Bool.false_eq_true, if_false, emp_y, q2, app_empty, empty_app]
  · rw [decide_eq_false ho]
    by_cases h7 : a.o = 7
    · have e7 : (a.o == 7) = true := by rw [h7]; rfl
      rw [e7, if_pos h7]
      cases hn : noG a.n <;> cases hr : noG a.r
      all_goals simp only [if_neg ho, if_true, Bool.false_eq_true, if_false, emp_y, q1, q2, q3, app_empty, empty_app, ByteArray.append_assoc]
    · have e7 : (a.o == 7) = false := by rw [beq_eq_false_iff_ne]; exact h7
      rw [e7, if_neg h7]
      cases hn : noG a.n <;> cases hr : noG a.r
      all_goals simp only [if_neg ho, if_true, Bool.false_eq_true, if_false, emp_y, q1, q2, q3, app_empty, empty_app, ByteArray.append_assoc]
end Go.Proofs.YtmkniipdkanbbaaGreatDoor.AM

