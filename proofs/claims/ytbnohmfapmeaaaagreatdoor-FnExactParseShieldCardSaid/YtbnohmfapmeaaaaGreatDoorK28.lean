/- Lemmas and contracts (Shz); conditions: none. -/
import Derived.Test.YtbnohmfapmeaaaaGreatDoorK03
import Derived.Test.YtbnohmfapmeaaaaGreatDoorK21
import Derived.Test.YtbnohmfapmeaaaaGreatDoorK27
set_option linter.unusedVariables false
set_option linter.unusedSimpArgs false
set_option maxRecDepth 100000
set_option maxHeartbeats 4000000
set_option cbv.maxSteps 3000000
namespace Go.Proofs.YtbnohmfapmeaaaaGreatDoor.AM
/- Texts of shields: of both, and what the law asks beside; conditions: none. -/
def shR (s : Shd) : ByteArray := if okH s = true then shT s else ByteArray.empty
theorem shR_y {s : Shd} (h : okH s = true) : shR s = shT s := if_pos h
theorem shR_n {s : Shd} (h : okH s = false) : shR s = ByteArray.empty := if_neg (by rw [h]; simp)
theorem c_shieldTx (s : Shd) (h0 : s.parts.length ≤ 2000000) : ConN Tryz.prog 65 [aT rowH stdH fun _ => s] [] 0 (.tup [.lit (.string (stdH ByteArray fun _ => shR s)), .lit (.bool (stdH Bool fun _ => okH s))]) [] [] := by
  have hB : Base Tryz.prog (tabΓ [e_validH, e_textH]) tab := base_of tabOk (ents_cons eok_validH <| ents_cons eok_textH <| ents_nil)
  refine con_m (N := 9) hB (draw_ok hB mixed) Tryz.func65 rfl rfl (fun H => [aT rowH H fun _ => s]) (fun _ => []) 0 (fun H => .tup [.lit (.string (H ByteArray fun _ => shR s)), .lit (.bool (H Bool fun _ => okH s))]) (fun H => []) (fun _ => []) 100 (by simp) (fun x hx => ?_) (by simp [lk]) (by omega) (by simp) ?_
  · simp only [List.mem_cons, List.not_mem_nil, or_false] at hx
    rcases hx with rfl
    · exact aT_bl okRH _ _
  intro X hX hX0 H hH
  conv in Fin.chk _ _ => cbv
  try simp only [Plain_rowsA, Plain_rowsB, Plain_rowsC, Plain_rowsF, Plain_rowsG, Plain_rowsI, Plain_rowsS, Plain_rowsU, Fin.satC_ret, Fin.satC_br, Fin.satC_need, Fin.satC_again, AllP, and_true, true_and, upd, List.length_nil, List.length_cons, Nat.zero_add, if_true, ncast, Int.ofNat_eq_natCast]
  subst hH
  simp only [stdH, Tl_A]
  refine ⟨⟨Shp_A _ _, h0⟩, fun h => ?_, fun h => ⟨⟨Shp_A _ _, ?_⟩, ?_⟩⟩
  · have h : okH s = false := by simpa using h
    exact ⟨h, shR_n h⟩
  · simpa using h
  · have h : okH s = true := by simpa using h
    exact ⟨h, shR_y h⟩
noncomputable def e_shieldTx : Entry := pureE 65 fun H a => match a with
  | [.agg [.lit (.int .i64 s0), .vec 15 s1n s1f]] => some (.tup [.lit (.string (H ByteArray fun _ => shR (⟨s0, (Tl rowA s1n s1f)⟩ : Shd))), .lit (.bool (H Bool fun _ => okH (⟨s0, (Tl rowA s1n s1f)⟩ : Shd)))], [H Prop fun _ => Shp rowA s1n s1f, H Prop fun _ => (⟨s0, (Tl rowA s1n s1f)⟩ : Shd).parts.length ≤ 2000000])
  | _ => none
theorem eok_shieldTx : EntryOk Tryz.prog e_shieldTx := pureM_ok (by unfold isBody; kernel_rfl) (by
  intro a r ob e hob
  split at e
  · rename_i s0 s1n s1f
    simp only [Option.some.injEq, Prod.mk.injEq] at e
    obtain ⟨rfl, rfl⟩ := e
    exact ConN.args (.cons (.agg (.cons .rfl (.cons (.toT okRA rfl hob.1) .nil))) .nil) (c_shieldTx (⟨s0, (Tl rowA s1n s1f)⟩ : Shd) hob.2.1)
  · simp at e)
theorem c_eqShield (a : Shd) (b : Shd) (h0 : a.parts.length ≤ 100000000) : ConN Tryz.prog 10 [aT rowH stdH fun _ => a, aT rowH stdH fun _ => b] [] 0 (.lit (.bool (stdH Bool fun _ => decide (a.mode = b.mode ∧ a.parts = b.parts)))) [] [] := by
  have hB : Base Tryz.prog (tabΓ [e_eqArmsS]) tab := base_of tabOk (ents_cons eok_eqArmsS <| ents_nil)
  refine con_m (N := 16) hB (draw_ok hB mixed) Tryz.func10 rfl rfl (fun H => [aT rowH H fun _ => a, aT rowH H fun _ => b]) (fun _ => []) 0 (fun H => .lit (.bool (H Bool fun _ => decide (a.mode = b.mode ∧ a.parts = b.parts)))) (fun H => []) (fun _ => []) 100 (by simp) (fun x hx => ?_) (by simp [lk]) (by omega) (by simp) ?_
  · simp only [List.mem_cons, List.not_mem_nil, or_false] at hx
    rcases hx with rfl | rfl
    · exact aT_bl okRH _ _
    · exact aT_bl okRH _ _
  intro X hX hX0 H hH
  conv in Fin.chk _ _ => cbv
  try simp only [Plain_rowsA, Plain_rowsB, Plain_rowsC, Plain_rowsF, Plain_rowsG, Plain_rowsI, Plain_rowsS, Plain_rowsU, Fin.satC_ret, Fin.satC_br, Fin.satC_need, Fin.satC_again, AllP, and_true, true_and, upd, List.length_nil, List.length_cons, Nat.zero_add, if_true, ncast, Int.ofNat_eq_natCast]
  subst hH
  simp only [stdH, Tl_A]
  refine ⟨fun h => ?_, fun h => ⟨⟨Shp_A _ _, Shp_A _ _, h0⟩, fun h2 => ?_, fun h2 => ?_⟩⟩
  · have h : ¬ a.mode = b.mode := by simpa using h
    exact decide_eq_false fun q => h q.1
  · have h2 : ¬ a.parts = b.parts := by simpa using h2
    exact decide_eq_false fun q => h2 q.2
  · have h : a.mode = b.mode := by simpa using h
    have h2 : a.parts = b.parts := by simpa using h2
    exact decide_eq_true ⟨h, h2⟩
noncomputable def e_eqShield : Entry := pureE 10 fun H a => match a with
  | [.agg [.lit (.int .i64 a0), .vec 15 a1n a1f], .agg [.lit (.int .i64 b0), .vec 15 b1n b1f]] => some (.lit (.bool (H Bool fun _ => decide ((⟨a0, (Tl rowA a1n a1f)⟩ : Shd).mode = (⟨b0, (Tl rowA b1n b1f)⟩ : Shd).mode ∧ (⟨a0, (Tl rowA a1n a1f)⟩ : Shd).parts = (⟨b0, (Tl rowA b1n b1f)⟩ : Shd).parts))), [H Prop fun _ => Shp rowA a1n a1f, H Prop fun _ => Shp rowA b1n b1f, H Prop fun _ => (⟨a0, (Tl rowA a1n a1f)⟩ : Shd).parts.length ≤ 100000000])
  | _ => none
theorem eok_eqShield : EntryOk Tryz.prog e_eqShield := pureM_ok (by unfold isBody; kernel_rfl) (by
  intro a r ob e hob
  split at e
  · rename_i a0 a1n a1f b0 b1n b1f
    simp only [Option.some.injEq, Prod.mk.injEq] at e
    obtain ⟨rfl, rfl⟩ := e
    exact ConN.args (.cons (.agg (.cons .rfl (.cons (.toT okRA rfl hob.1) .nil))) (.cons (.agg (.cons .rfl (.cons (.toT okRA rfl hob.2.1) .nil))) .nil)) (c_eqShield (⟨a0, (Tl rowA a1n a1f)⟩ : Shd) (⟨b0, (Tl rowA b1n b1f)⟩ : Shd) hob.2.2.1)
  · simp at e)

end Go.Proofs.YtbnohmfapmeaaaaGreatDoor.AM

