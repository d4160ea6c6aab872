/- Lemmas and contracts (Shz); conditions: none. -/
import Derived.Test.YtgjjedpoclhkfaaGreatDoorK03
import Derived.Test.YtgjjedpoclhkfaaGreatDoorK09
import Derived.Test.YtgjjedpoclhkfaaGreatDoorK24
set_option linter.unusedVariables false
set_option linter.unusedSimpArgs false
set_option maxRecDepth 100000
set_option maxHeartbeats 4000000
set_option cbv.maxSteps 3000000
namespace Go.Proofs.YtgjjedpoclhkfaaGreatDoor.AM
/- Texts of shields: of both, and what the law asks beside; conditions: none. -/
def shR (s : Shd) : ByteArray := if okH s = true then shT s else ByteArray.empty
theorem shR_y {s : Shd} (h : okH s = true) : shR s = shT s := if_pos h
theorem shR_n {s : Shd} (h : okH s = false) : shR s = ByteArray.empty := if_neg (by rw [h]; simp)
theorem c_shieldTx (s : Shd) (h0 : s.parts.length ≤ 2000000) : ConN Tryz.prog 13 [aT rowH stdH fun _ => s] [] 0 (.tup [.lit (.string (stdH ByteArray fun _ => shR s)), .lit (.bool (stdH Bool fun _ => okH s))]) [] [] := by
  have hB : Base Tryz.prog (tabΓ [e_validH, e_textH]) tab := base_of tabOk (ents_cons eok_validH <| ents_cons eok_textH <| ents_nil)
  refine con_m (N := 9) hB (draw_ok hB mixed) Tryz.func13 rfl rfl (fun H => [aT rowH H fun _ => s]) (fun _ => []) 0 (fun H => .tup [.lit (.string (H ByteArray fun _ => shR s)), .lit (.bool (H Bool fun _ => okH s))]) (fun H => []) (fun _ => []) 100 (by simp) (fun x hx => ?_) (by simp [lk]) (by omega) (by simp) ?_
  · simp only [List.mem_cons, List.not_mem_nil, or_false] at hx
    rcases hx with rfl
    · exact aT_bl okRH _ _
  intro X hX hX0 H hH
  conv in Fin.chk _ _ => cbv
  try simp only [Plain_rowsA, Plain_rowsB, Plain_rowsC, Plain_rowsF, Plain_rowsG, Plain_rowsI, Plain_rowsS, Plain_rowsU, Fin.satC_ret, Fin.satC_br, Fin.satC_need, Fin.satC_again, AllP, and_true, true_and, upd, List.length_nil, List.length_cons, Nat.zero_add, if_true, ncast, Int.ofNat_eq_natCast]
  subst hH
  simp only [stdH, Tl_A]
  refine ⟨⟨Shp_A _ _, h0⟩, fun h => ?_, fun h => ⟨⟨Shp_A _ _, ?_⟩, ?_⟩⟩
  · have h : okH s = false := by simpa using h
    exact ⟨h, shR_n h⟩
  · simpa using h
  · have h : okH s = true := by simpa using h
    exact ⟨h, shR_y h⟩
noncomputable def e_shieldTx : Entry := pureE 13 fun H a => match a with
  | [.agg [.lit (.int .i64 s0), .vec 15 s1n s1f]] => some (.tup [.lit (.string (H ByteArray fun _ => shR (⟨s0, (Tl rowA s1n s1f)⟩ : Shd))), .lit (.bool (H Bool fun _ => okH (⟨s0, (Tl rowA s1n s1f)⟩ : Shd)))], [H Prop fun _ => Shp rowA s1n s1f, H Prop fun _ => (⟨s0, (Tl rowA s1n s1f)⟩ : Shd).parts.length ≤ 2000000])
  | _ => none
theorem eok_shieldTx : EntryOk Tryz.prog e_shieldTx := pureM_ok (by unfold isBody; kernel_rfl) (by
  intro a r ob e hob
  split at e
  · rename_i s0 s1n s1f
    simp only [Option.some.injEq, Prod.mk.injEq] at e
    obtain ⟨rfl, rfl⟩ := e
    exact ConN.args (.cons (.agg (.cons .rfl (.cons (.toT okRA rfl hob.1) .nil))) .nil) (c_shieldTx (⟨s0, (Tl rowA s1n s1f)⟩ : Shd) hob.2.1)
  · simp at e)
end Go.Proofs.YtgjjedpoclhkfaaGreatDoor.AM

