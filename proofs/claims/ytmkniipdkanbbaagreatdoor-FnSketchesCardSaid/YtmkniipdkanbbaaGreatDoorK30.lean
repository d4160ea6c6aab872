/- Lemmas and contracts (Skt); conditions: none. -/
import Derived.Test.YtmkniipdkanbbaaGreatDoorK04
import Derived.Test.YtmkniipdkanbbaaGreatDoorK24
import Derived.Test.YtmkniipdkanbbaaGreatDoorK25
set_option linter.unusedVariables false
set_option linter.unusedSimpArgs false
set_option maxRecDepth 100000
set_option maxHeartbeats 4000000
set_option cbv.maxSteps 3000000
namespace Go.Proofs.YtmkniipdkanbbaaGreatDoor.AM
/- Sketches by the program: their texts; conditions: none. -/
theorem okY_e {m n : Int} (h1 : ¬ m = 1) (h3 : ¬ m = 3) : okY ⟨m, n⟩ = (inB m 2 5 && decide (n = 0)) := by
  unfold okY
  simp only
  rw [if_neg h1, if_neg h3]
theorem c_isSlot (y : Slo)  : ConN Tryz.prog 40 [aT rowY stdH fun _ => y] [] 0 (.lit (.bool (stdH Bool fun _ => okY y))) [] [] := by
  have hB : Base Tryz.prog (tabΓ [e_IsTincture, e_inside]) tab := base_of tabOk (ents_cons eok_IsTincture <| ents_cons eok_inside <| ents_nil)
  refine con_m (N := 22) hB (draw_ok hB mixed) Tryz.func40 rfl rfl (fun H => [aT rowY H fun _ => y]) (fun _ => []) 0 (fun H => .lit (.bool (H Bool fun _ => okY y))) (fun H => []) (fun _ => []) 100 (by simp) (fun x hx => ?_) (by simp [lk]) (by omega) (by simp) ?_
  · simp only [zqu] at hx
    rcases hx with rfl
    · exact aT_bl okRY _ _
  intro X hX hX0 H hH
  conv in Fin.chk _ _ => cbv
  try simp only [zqs, Plain_rowsC, Plain_rowsY, zqx, AllP, zqw, upd, if_true]
  subst hH
  obtain ⟨m, n⟩ := y
  simp only [stdH, beq_iff_eq, beq_eq_false_iff_ne, ne_eq]
  have en : (n == 0) = decide (n = 0) := by rw [Bool.eq_iff_iff, beq_iff_eq, decide_eq_true_eq]
  refine ⟨fun h => by subst h; rfl, fun h => ⟨fun h2 => by subst h2; rfl, fun h2 => ?_⟩⟩
  rw [okY_e h h2, en]
  refine ⟨fun h3 => ⟨fun _ => ?_, fun h4 => absurd h3 h4⟩, fun h3 => ⟨fun h4 => ⟨fun _ => ?_, fun h5 => absurd h4 h5⟩, fun h4 => ⟨fun h5 => ?_, fun h5 => ?_⟩⟩⟩
  · subst h3; rfl
  · subst h4; rfl
  · subst h5; rfl
  · have : inB m 2 5 = false := by
      unfold inB
      exact decide_eq_false (by omega)
    rw [this]; rfl
noncomputable def e_isSlot : Entry := pureE 40 fun H a => match a with
  | [.agg [.lit (.int .i64 y0), .lit (.int .i64 y1)]] => some (.lit (.bool (H Bool fun _ => okY (⟨y0, y1⟩ : Slo))), [])
  | _ => none
theorem eok_isSlot : EntryOk Tryz.prog e_isSlot := pureM_ok (by unfold isBody; kernel_rfl) (by
  intro a r ob e hob
  split at e
  · rename_i y0 y1
    simp only [zqt] at e
    obtain ⟨rfl, rfl⟩ := e
    exact ConN.args (.cons .rfl .nil) (c_isSlot (⟨y0, y1⟩ : Slo) )
  · simp at e)
theorem v01 : IntKind.i64.wrap (0 + 1) = 1 := by decide
theorem v11 : IntKind.i64.wrap (1 + 1) = 2 := by decide
theorem n0 : Int.toNat 0 = 0 := rfl
theorem n1 : Int.toNat 1 = 1 := rfl
theorem n2 : Int.toNat 2 = 2 := rfl
theorem szQ {c : Bool} (f o n r : ByteArray) (h1 : f.size ≤ 1000) (h2 : o.size ≤ 1000) (h3 : n.size ≤ 1000) (h4 : r.size ≤ 1000) : szP ⟨f, o, n, r, c⟩ := ⟨h1, h2, h3, h4⟩
theorem jnO_7 {o : Int} (ho : ¬ o = 0) : jnO o = if (o == 7) = true then (⟨⟨[32, 97, 98, 111, 118, 101, 32]⟩⟩ : ByteArray) else (⟨⟨[32, 98, 101, 116, 119, 101, 101, 110, 32]⟩⟩ : ByteArray) := by
  unfold jnO
  rw [if_neg ho]
  by_cases h7 : o = 7
  · subst h7; rfl
  · rw [if_neg h7, show (o == 7) = false by rw [beq_eq_false_iff_ne]; exact h7]; rfl
theorem c_sktText (k : Skt) (h0 : okK k = true) : ConN Tryz.prog 35 [aT rowK stdH fun _ => k] [] 0 (.lit (.string (stdH ByteArray fun _ => kT k))) [] [] := by
  have hB : Base Tryz.prog (tabΓ [e_pieces, e_trimSuf, e_slotTx, e_joined]) tabU := base_of tabOkU (ents_cons eok_pieces <| ents_cons eok_trimSuf <| ents_cons eok_slotTx <| ents_cons eok_joined <| ents_nil)
  refine con_m (N := 41) hB (draw_ok hB mixed) Tryz.func35 rfl rfl (fun H => [aT rowK H fun _ => k]) (fun _ => []) 0 (fun H => .lit (.string (H ByteArray fun _ => kT k))) (fun H => []) (fun _ => []) 600 (by simp) (fun x hx => ?_) (by simp [lk]) (by omega) (by simp) ?_
  · simp only [zqu] at hx
    rcases hx with rfl
    · exact aT_bl okRK _ _
  intro X hX hX0 H hH
  conv in Fin.chk _ _ => cbv
  try simp only [zqs, Plain_rowsC, Plain_rowsY, zqx, AllP, zqw, upd, if_true]
  subst hH
  have hk := okK_iff.1 h0
  obtain ⟨g1, g2, g3⟩ := gldA_in hk.g
  have hlen := hk.len
  have s1 := fldT_sz k.arms.f
  have s2 := ordS_sz k.arms.o k.arms.l
  have s3 := cntT_sz k.arms.n.c k.arms.n.k
  have s4 := kndT_sz k.arms.n.k k.arms.n.c
  have s5 := attT_sz k.arms.n
  have s6 := cntT_sz k.arms.r.c k.arms.r.k
  have s7 := kndT_sz k.arms.r.k k.arms.r.c
  have s8 := attT_sz k.arms.r
  have bn : (barT k.arms.n).size ≤ 70 := by unfold barT; simp only [ByteArray.size_append, bsz, List.length_cons, List.length_nil]; omega
  have br : (barT k.arms.r).size ≤ 70 := by unfold barT; simp only [ByteArray.size_append, bsz, List.length_cons, List.length_nil]; omega
  have z : ∀ i, (kS k i).size ≤ 14 := kS_sz hk
  unfold kS at z
  have z0 := z 0; have z1 := z 1; have z2 := z 2
  have gsz : golB.size = 5 := rfl
  have e0 : ByteArray.empty.size = 0 := rfl
  have em : ∀ t : ByteArray, (t.toList == (⟨⟨[]⟩⟩ : ByteArray).toList) = emp t := fun _ => rfl
  have eg : (⟨⟨[32, 103, 111, 108, 100]⟩⟩ : ByteArray) = golB := rfl
  have po : ∀ x, emp (ordS k.arms.o k.arms.l ++ x) = false := fun x => emp_app (ordS_pos _ _)
  have pn : ∀ x, emp (barT k.arms.n ++ x) = false := fun x => emp_app (barT_pos _)
  have pr : ∀ x, emp (barT k.arms.r ++ x) = false := fun x => emp_app (barT_pos _)
  have ef : (pcsA k.arms).f = fldT k.arms.f := rfl
  have ec : (pcsA k.arms).c = (k.arms.o == 7) := rfl
  have eo : (pcsA k.arms).o = if k.arms.o = 0 then ByteArray.empty else ordS k.arms.o k.arms.l ++ golB := by
    unfold pcsA orE
    simp only [decide_eq_true_eq]
    by_cases ho : k.arms.o = 0
    · rw [if_pos ho, if_pos ho]
    · rw [if_neg ho, if_neg ho, g1.resolve_left ho]; rfl
  have en : (pcsA k.arms).n = if noG k.arms.n then ByteArray.empty else barT k.arms.n ++ golB := by
    unfold pcsA orE
    cases hn : noG k.arms.n
    · simp only [Bool.false_eq_true, if_false]
      rw [barT_grp, g2.resolve_left (by rw [hn]; simp)]; rfl
    · rfl
  have er : (pcsA k.arms).r = if noG k.arms.r then ByteArray.empty else barT k.arms.r ++ golB := by
    unfold pcsA orE
    cases hr : noG k.arms.r
    · simp only [Bool.false_eq_true, if_false]
      rw [barT_grp, g3.resolve_left (by rw [hr]; simp)]; rfl
    · rfl
  have hn0 := okA_o0 hk.a
  simp only [stdH, Arm.eta2, Fld.eta, Grp.eta, Slo.eta, v01, v11, n0, n1, n2, em, eg, ef, ec, eo, en, er]
  unfold cntP i2 i1 at hlen
  unfold kT kO kN kR kS i2 i1
  by_cases ho : k.arms.o = 0 <;> cases hn : noG k.arms.n <;> cases hr : noG k.arms.r
  all_goals first | (rw [hn0 ho] at hn; cases hn; done) | skip
  all_goals simp only [ho, hn, hr, if_true, if_false, Bool.false_eq_true, emp_y, po, pn, pr, befS_app, Bool.not_true, Bool.not_false, app_empty, empty_app] at hlen ⊢
  all_goals
    repeat' (first | exact trivial | exact hk.a | exact hk.y _ (by unfold cntP i2 i1; simp only [ho, hn, hr, if_true, if_false, Bool.false_eq_true]; omega) | exact szQ _ _ _ _ (by omega) (by simp only [ByteArray.size_append]; omega) (by simp only [ByteArray.size_append]; omega) (by simp only [ByteArray.size_append]; omega) | omega | (simp only [ByteArray.size_append, gsz]; omega) | refine And.intro ?_ ?_ | (intro h; first | (cases h; done) | (simp at h; done) | skip))
  all_goals (unfold jnT; simp only [emp_y, po, pn, pr, if_true, Bool.false_eq_true, if_false, app_empty, empty_app])
  all_goals first
    | rfl
    | (simp only [ByteArray.append_assoc]; rfl)
    | (rw [jnO_7 ho]; simp only [ByteArray.append_assoc]; rfl)
noncomputable def e_sktText : Entry := pureE 35 fun H a => match a with
  | [.agg [.lit (.int .i64 k0), .lit (.int .i64 k1), .lit (.int .i64 k2), .lit (.int .i64 k3), .lit (.int .i64 k4), .lit (.int .i64 k5), .lit (.int .i64 k6), .lit (.int .i64 k7), .lit (.int .i64 k8), .lit (.int .i64 k9), .lit (.int .i64 k10), .lit (.int .i64 k11), .lit (.int .i64 k12), .lit (.int .i64 k13), .lit (.int .i64 k14), .vec 2 k15n k15f]] => some (.lit (.string (H ByteArray fun _ => kT (⟨⟨⟨k0, k1, k2, k3⟩, k4, k5, k6, ⟨k7, k8, k9, k10⟩, ⟨k11, k12, k13, k14⟩⟩, (Tl rowY k15n k15f)⟩ : Skt))), [H Prop fun _ => Shp rowY k15n k15f, H Prop fun _ => okK (⟨⟨⟨k0, k1, k2, k3⟩, k4, k5, k6, ⟨k7, k8, k9, k10⟩, ⟨k11, k12, k13, k14⟩⟩, (Tl rowY k15n k15f)⟩ : Skt) = true])
  | _ => none
theorem eok_sktText : EntryOk Tryz.prog e_sktText := pureM_ok (by unfold isBody; kernel_rfl) (by
  intro a r ob e hob
  split at e
  · rename_i k0 k1 k2 k3 k4 k5 k6 k7 k8 k9 k10 k11 k12 k13 k14 k15n k15f
    simp only [zqt] at e
    obtain ⟨rfl, rfl⟩ := e
    exact ConN.args (.cons (.agg (.cons .rfl (.cons .rfl (.cons .rfl (.cons .rfl (.cons .rfl (.cons .rfl (.cons .rfl (.cons .rfl (.cons .rfl (.cons .rfl (.cons .rfl (.cons .rfl (.cons .rfl (.cons .rfl (.cons .rfl (.cons (.toT okRY rfl hob.1) .nil))))))))))))))))) .nil) (c_sktText (⟨⟨⟨k0, k1, k2, k3⟩, k4, k5, k6, ⟨k7, k8, k9, k10⟩, ⟨k11, k12, k13, k14⟩⟩, (Tl rowY k15n k15f)⟩ : Skt) hob.2.1)
  · simp at e)

end Go.Proofs.YtmkniipdkanbbaaGreatDoor.AM

