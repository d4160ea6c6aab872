/- Lemmas and contracts (Dil Dal Frs); conditions: none. -/
import Derived.Test.YtcjjffmbhionmaaGreatDoorK03
import Derived.Test.YtcjjffmbhionmaaGreatDoorK05
import Derived.Test.YtcjjffmbhionmaaGreatDoorK09
import Derived.Test.YtcjjffmbhionmaaGreatDoorK12
import Derived.Test.YtcjjffmbhionmaaGreatDoorK13
import Derived.Test.YtcjjffmbhionmaaGreatDoorK18
set_option linter.unusedVariables false
set_option linter.unusedSimpArgs false
set_option maxRecDepth 100000
set_option maxHeartbeats 4000000
set_option cbv.maxSteps 3000000
namespace Go.Proofs.YtcjjffmbhionmaaGreatDoor.AM
/- What the numbers of differences have in common; conditions: none. -/
theorem eqG_iff {a b : Grp} : eqG a b = true ↔ a = b := by
  obtain ⟨a0, a1, a2, a3⟩ := a; obtain ⟨b0, b1, b2, b3⟩ := b
  simp [eqG, allT]
theorem noG_iff {a : Grp} : noG a = true ↔ a = ⟨0, 0, 0, 0⟩ := by
  obtain ⟨a0, a1, a2, a3⟩ := a
  simp [noG, and_assoc]
theorem gd_self (a : Grp) : gd a a = 0 := by unfold gd; rw [eqG_iff.2 rfl]; rfl
theorem gd_ls (a b : Grp) : gd a b = ls a b := by
  by_cases h : a = b
  · subst h; rw [gd_self]; unfold ls; cases noG a <;> simp [nB]
  · have e : eqG a b = false := by cases h1 : eqG a b with | false => rfl | true => exact absurd (eqG_iff.1 h1) h
    unfold gd ls
    rw [e]
    cases ha : noG a <;> cases hb : noG b
    · simp only [Bool.or_self, cond_false, bne_self_eq_false]; omega
    · rfl
    · rfl
    · exact absurd ((noG_iff.1 ha).trans (noG_iff.1 hb).symm) h
theorem okA_f {a : Arm} (h : okA a = true) : okF a.f = true := by simp only [okA, Bool.and_eq_true] at h; exact h.1.1
theorem dI_dS {a b : Arm} (ha : okA a = true) (hb : okA b = true) : dI a b = dS a b := by
  unfold dI dS dv
  rw [okA_f ha, okA_f hb, gd_ls, gd_ls]
  simp only [Bool.and_self, cond_true]; omega
end Go.Proofs.YtcjjffmbhionmaaGreatDoor.AM

set_option maxRecDepth 100000
set_option maxHeartbeats 4000000
set_option cbv.maxSteps 3000000
namespace Go.Proofs.YtcjjffmbhionmaaGreatDoor.AM
/- Lists of arms like each other are drawn; conditions: none. -/
theorem and_c2 {p q : Prop} [Decidable p] [Decidable q] (h : (bif decide p then decide q else false) = true) : p ∧ q := by
  by_cases hp : p
  · rw [decide_eq_true hp, cond_true, decide_eq_true_eq] at h; exact ⟨hp, h⟩
  · rw [decide_eq_false hp] at h; cases h
theorem and_n2 {p q : Prop} [Decidable p] [Decidable q] (h : (bif decide p then decide q else false) = false) : ¬ p ∨ ¬ q := by
  by_cases hp : p
  · rw [decide_eq_true hp, cond_true, decide_eq_false_iff_not] at h; exact .inr h
  · exact .inl hp

end Go.Proofs.YtcjjffmbhionmaaGreatDoor.AM

set_option maxRecDepth 100000
set_option maxHeartbeats 4000000
set_option cbv.maxSteps 3000000
namespace Go.Proofs.YtcjjffmbhionmaaGreatDoor.AM
/- Free tinctures: the reference's; conditions: none. -/
theorem c_l15Conflict (a : Arm) (v : Arm)  : ConN Tryz.prog 78 [aT rowA stdH fun _ => a, aT rowA stdH fun _ => v] [] 0 (.lit (.bool (stdH Bool fun _ => decide (dS a v < 2)))) [] [] := by
  have hB : Base Tryz.prog (tabΓ [e_l15Count]) tab := base_of tabOk (ents_cons eok_l15Count <| ents_nil)
  refine con_m (N := 9) hB (draw_ok hB mixed) Tryz.func78 rfl rfl (fun H => [aT rowA H fun _ => a, aT rowA H fun _ => v]) (fun _ => []) 0 (fun H => .lit (.bool (H Bool fun _ => decide (dS a v < 2)))) (fun H => []) (fun _ => []) 100 (by simp) (fun x hx => ?_) (by simp [lk]) (by omega) (by simp) ?_
  · simp only [zqu] at hx
    rcases hx with rfl | rfl
    · exact aT_bl okRA _ _
    · exact aT_bl okRA _ _
  intro X hX hX0 H hH
  conv in Fin.chk _ _ => cbv
  try simp only [zqx, AllP, zqw, upd, if_true]
  try simp only [hH, stdH, zqz, ne_eq, zqy]
noncomputable def e_l15Conflict : Entry := pureE 78 fun H a => match a with
  | [.agg [.lit (.int .i64 a0), .lit (.int .i64 a1), .lit (.int .i64 a2), .lit (.int .i64 a3), .lit (.int .i64 a4), .lit (.int .i64 a5), .lit (.int .i64 a6), .lit (.int .i64 a7), .lit (.int .i64 a8), .lit (.int .i64 a9), .lit (.int .i64 a10), .lit (.int .i64 a11), .lit (.int .i64 a12), .lit (.int .i64 a13), .lit (.int .i64 a14)], .agg [.lit (.int .i64 v0), .lit (.int .i64 v1), .lit (.int .i64 v2), .lit (.int .i64 v3), .lit (.int .i64 v4), .lit (.int .i64 v5), .lit (.int .i64 v6), .lit (.int .i64 v7), .lit (.int .i64 v8), .lit (.int .i64 v9), .lit (.int .i64 v10), .lit (.int .i64 v11), .lit (.int .i64 v12), .lit (.int .i64 v13), .lit (.int .i64 v14)]] => some (.lit (.bool (H Bool fun _ => decide (dS (⟨⟨a0, a1, a2, a3⟩, a4, a5, a6, ⟨a7, a8, a9, a10⟩, ⟨a11, a12, a13, a14⟩⟩ : Arm) (⟨⟨v0, v1, v2, v3⟩, v4, v5, v6, ⟨v7, v8, v9, v10⟩, ⟨v11, v12, v13, v14⟩⟩ : Arm) < 2))), [])
  | _ => none
theorem eok_l15Conflict : EntryOk Tryz.prog e_l15Conflict := pureM_ok (by unfold isBody; kernel_rfl) (by
  intro a r ob e hob
  split at e
  · rename_i a0 a1 a2 a3 a4 a5 a6 a7 a8 a9 a10 a11 a12 a13 a14 v0 v1 v2 v3 v4 v5 v6 v7 v8 v9 v10 v11 v12 v13 v14
    simp only [zqt] at e
    obtain ⟨rfl, rfl⟩ := e
    exact ConN.args (.cons .rfl (.cons .rfl .nil)) (c_l15Conflict (⟨⟨a0, a1, a2, a3⟩, a4, a5, a6, ⟨a7, a8, a9, a10⟩, ⟨a11, a12, a13, a14⟩⟩ : Arm) (⟨⟨v0, v1, v2, v3⟩, v4, v5, v6, ⟨v7, v8, v9, v10⟩, ⟨v11, v12, v13, v14⟩⟩ : Arm) )
  · simp at e)

end Go.Proofs.YtcjjffmbhionmaaGreatDoor.AM

