import Derived.Test.YtgjjedpoclhkfaaDoorAmT
import Derived.Test.YtgjjedpoclhkfaaDoorShz
import Derived.Test.YtgjjedpoclhkfaaDoorArx
set_option linter.unusedVariables false
set_option linter.unusedSimpArgs false
set_option maxRecDepth 100000
set_option maxHeartbeats 4000000
set_option cbv.maxSteps 3000000
namespace Go.Proofs.YtgjjedpoclhkfaaDoor.AM
/- The law FnExactShieldText; conditions: none. -/
section
variable {H : Type} {enc : TypeId × Value → H} {w : World}
theorem rt_H : RTy enc w 24 rowH := fun base spare held m cs y h => by
  have h1 := leaf_open 4 24 m cs y (by kernel_rfl) h
  rw [show leaves Tryd.prog 4 24 = [3, 22] from by kernel_rfl] at h1
  obtain ⟨c0, s0, rfl, ⟨m0, y0, g0⟩, h1⟩ := leaf_cons h1
  obtain ⟨x0, r0, o0⟩ := (rt_int Tryd.underlying3) base spare held m0 [c0] y0 g0
  obtain ⟨c1, s1, rfl, ⟨m1, y1, g1⟩, h1⟩ := leaf_cons h1
  obtain ⟨x1, r1, o1⟩ := (rt_sl okRA Tryd.underlying22 (by kernel_rfl) (by show 0 < 15; omega) rt_A) base spare held m1 [c1] y1 g1
  obtain rfl := leaf_nil h1
  refine ⟨⟨x0, x1⟩, (.cons r0.one (.cons r1.one (.nil _))), fun v hv => ?_⟩
  simp only [List.mem_cons, List.not_mem_nil, or_false] at hv
  rcases hv with rfl | rfl
  · exact o0 _ List.mem_cons_self
  · exact o1 _ List.mem_cons_self
end
theorem szs_yes {x y : Int} (h : x - y < 0) : (if x - y < 0 then -1 else x - y) = -1 := if_pos h
theorem szs_no {x y : Int} (h : ¬ x - y < 0) : (if x - y < 0 then -1 else x - y) = x - y := if_neg h
theorem c_lawShieldText (s : Shd) (h0 : s.parts.length ≤ 9223372036854775807) : ConN Tryd.prog 3 [aT rowH stdH fun _ => s] [] 0 (.lit (.bool (stdH Bool fun _ => true))) [] [] := by
  have hB : Base Tryd.prog (tabΓ [e_szShield, e_toShield, e_shieldTx, e_shieldTxS, e_eqShield]) tabO := base_of tabOkO (ents_cons eok_szShield <| ents_cons eok_toShield <| ents_cons eok_shieldTx <| ents_cons eok_shieldTxS <| ents_cons eok_eqShield <| ents_nil)
  refine con_m (N := 40) hB (draw_ok hB mixed) Tryd.func3 rfl rfl (fun H => [aT rowH H fun _ => s]) (fun _ => []) 0 (fun H => .lit (.bool (H Bool fun _ => true))) (fun H => []) (fun _ => []) 600 (by simp) (fun x hx => ?_) (by simp [lk]) (by omega) (by simp) ?_
  · simp only [List.mem_cons, List.not_mem_nil, or_false] at hx
    rcases hx with rfl
    · exact aT_bl okRH _ _
  intro X hX hX0 H hH
  conv in Fin.chk _ _ => cbv
  try simp only [Plain_rowsA, Plain_rowsB, Plain_rowsC, Plain_rowsF, Plain_rowsG, Plain_rowsI, Plain_rowsS, Plain_rowsU, Fin.satC_ret, Fin.satC_br, Fin.satC_need, Fin.satC_again, AllP, and_true, true_and, upd, List.length_nil, List.length_cons, Nat.zero_add, if_true, ncast, Int.ofNat_eq_natCast]
  subst hH
  simp only [stdH, Tl_A, Shp_A, rowsA_len, implies_true, and_true, true_and]
  by_cases e1 : 1048576 - (s.parts.length : Int) < 0
  · simp only [szs_yes e1]
    repeat' (first | exact trivial | rfl | omega | refine And.intro ?_ ?_ | (intro h; first | (simp at h; done) | skip))
  simp only [szs_no e1, beq_self_eq_true, bne_self_eq_false, Bool.not_true, cond_false, decide_true]
  repeat' (first | exact trivial | rfl | omega | refine And.intro ?_ ?_ | (intro h; first | (simp at h; done) | skip))
noncomputable def e_lawShieldText : Entry := pureE 3 fun H a => match a with
  | [.agg [.lit (.int .i64 s0), .vec 15 s1n s1f]] => some (.lit (.bool (H Bool fun _ => true)), [H Prop fun _ => Shp rowA s1n s1f, H Prop fun _ => (⟨s0, (Tl rowA s1n s1f)⟩ : Shd).parts.length ≤ 9223372036854775807])
  | _ => none
theorem eok_lawShieldText : EntryOk Tryd.prog e_lawShieldText := pureM_ok (by unfold isBody; kernel_rfl) (by
  intro a r ob e hob
  split at e
  · rename_i s0 s1n s1f
    simp only [Option.some.injEq, Prod.mk.injEq] at e
    obtain ⟨rfl, rfl⟩ := e
    exact ConN.args (.cons (.agg (.cons .rfl (.cons (.toT okRA rfl hob.1) .nil))) .nil) (c_lawShieldText (⟨s0, (Tl rowA s1n s1f)⟩ : Shd) hob.2.1)
  · simp at e)
theorem law_ShieldText (s : Shd) (h : s.parts.length ≤ 9223372036854775807) : ConN Tryd.prog 3 [aT rowH stdH fun _ => s] [] 0 (.lit (.bool true)) [] [] := c_lawShieldText s h

end Go.Proofs.YtgjjedpoclhkfaaDoor.AM
