/- Lemmas and contracts (Skf); conditions: none. -/
import Derived.Test.YtmkniipdkanbbaaGreatDoorK04
import Derived.Test.YtmkniipdkanbbaaGreatDoorK17
import Derived.Test.YtmkniipdkanbbaaGreatDoorK24
import Derived.Test.YtmkniipdkanbbaaGreatDoorK25
set_option linter.unusedVariables false
set_option linter.unusedSimpArgs false
set_option maxRecDepth 100000
set_option maxHeartbeats 4000000
set_option cbv.maxSteps 3000000
namespace Go.Proofs.YtmkniipdkanbbaaGreatDoor.AM
/- Sketches by the reference: valid ones, their texts; conditions: none. -/
theorem c_slotOkS (y : Slo)  : ConN Tryz.prog 78 [aT rowY stdH fun _ => y] [] 0 (.lit (.bool (stdH Bool fun _ => okY y))) [] [] := by
  have hB : Base Tryz.prog (tabΓ [e_l2Good, e_l1In]) tab := base_of tabOk (ents_cons eok_l2Good <| ents_cons eok_l1In <| ents_nil)
  refine con_m (N := 23) hB (draw_ok hB mixed) Tryz.func78 rfl rfl (fun H => [aT rowY H fun _ => y]) (fun _ => []) 0 (fun H => .lit (.bool (H Bool fun _ => okY y))) (fun H => []) (fun _ => []) 100 (by simp) (fun x hx => ?_) (by simp [lk]) (by omega) (by simp) ?_
  · simp only [zqu] at hx
    rcases hx with rfl
    · exact aT_bl okRY _ _
  intro X hX hX0 H hH
  conv in Fin.chk _ _ => cbv
  try simp only [zqs, Plain_rowsC, Plain_rowsY, zqx, AllP, zqw, upd, if_true]
  subst hH
  simp only [stdH, beq_iff_eq, beq_eq_false_iff_ne, ne_eq]
  unfold okY
  refine ⟨fun h => by rw [if_pos h], fun h => ⟨fun h2 => by rw [if_neg h, if_pos h2], fun h2 => ?_⟩⟩
  rw [if_neg h, if_neg h2]
  cases inB y.m 2 5
  · rfl
  · simp only [cond_true, Bool.true_and]
    rw [Bool.eq_iff_iff, decide_eq_true_eq, beq_iff_eq]
noncomputable def e_slotOkS : Entry := pureE 78 fun H a => match a with
  | [.agg [.lit (.int .i64 y0), .lit (.int .i64 y1)]] => some (.lit (.bool (H Bool fun _ => okY (⟨y0, y1⟩ : Slo))), [])
  | _ => none
theorem eok_slotOkS : EntryOk Tryz.prog e_slotOkS := pureM_ok (by unfold isBody; kernel_rfl) (by
  intro a r ob e hob
  split at e
  · rename_i y0 y1
    simp only [zqt] at e
    obtain ⟨rfl, rfl⟩ := e
    exact ConN.args (.cons .rfl .nil) (c_slotOkS (⟨y0, y1⟩ : Slo) )
  · simp at e)
def filA (a : Arm) (l : List Int) : Arm := ⟨a.f, a.o, a.l, if a.o = 0 then a.t else l.getD 0 0, ⟨a.n.c, a.n.k, a.n.a, if noG a.n then a.n.t else l.getD (i1 a) 0⟩, ⟨a.r.c, a.r.k, a.r.a, if noG a.r then a.r.t else l.getD (i2 a) 0⟩⟩
theorem x01 : IntKind.i64.wrap (0 + 1) = 1 := by decide
theorem x11 : IntKind.i64.wrap (1 + 1) = 2 := by decide
theorem x21 : IntKind.i64.wrap (2 + 1) = 3 := by decide
theorem x31 : IntKind.i64.wrap (3 + 1) = 4 := by decide
theorem t0 : Int.toNat 0 = 0 := rfl
theorem t1 : Int.toNat 1 = 1 := rfl
theorem t2 : Int.toNat 2 = 2 := rfl
theorem oPos {a : Arm} (h : okA a = true) : decide (0 < a.o) = !decide (a.o = 0) := by
  by_cases ho : a.o = 0
  · rw [decide_eq_true ho, decide_eq_false (by omega)]; rfl
  · have := okA_O h ho
    rw [decide_eq_false ho, decide_eq_true (by omega)]; rfl
theorem c_fillS7 (a : Arm) (l : List Int) (h0 : okA a = true) (h1 : cntP a ≤ l.length) : ConN Tryz.prog 105 [aT rowA stdH fun _ => a, .vec 1 (stdH Nat fun _ => (l).length) (rowsI stdH fun _ => l)] [] 0 (aT rowA stdH fun _ => filA a l) [] [] := by
  have hB : Base Tryz.prog (tabΓ [e_l4None]) tab := base_of tabOk (ents_cons eok_l4None <| ents_nil)
  refine con_m (N := 39) hB (draw_ok hB mixed) Tryz.func105 rfl rfl (fun H => [aT rowA H fun _ => a, .vec 1 (H Nat fun _ => (l).length) (rowsI H fun _ => l)]) (fun _ => []) 0 (fun H => aT rowA H fun _ => filA a l) (fun H => []) (fun _ => []) 160 (by simp) (fun x hx => ?_) (by simp [lk]) (by omega) (by simp) ?_
  · simp only [zqu] at hx
    rcases hx with rfl | rfl
    · exact aT_bl okRA _ _
    · exact vl_bl okI l _
  intro X hX hX0 H hH
  conv in Fin.chk _ _ => cbv
  try simp only [zqs, Plain_rowsC, Plain_rowsY, zqx, AllP, zqw, upd, if_true]
  subst hH
  simp only [stdH, Arm.eta2, Fld.eta, Grp.eta, x01, x11, t0, t1, t2, oPos h0]
  unfold cntP i2 i1 at h1
  unfold filA i2 i1
  by_cases ho : a.o = 0 <;> cases hn : noG a.n <;> cases hr : noG a.r
  all_goals simp only [ho, hn, hr, if_true, if_false, Bool.false_eq_true, decide_true, decide_false, Bool.not_true, Bool.not_false] at h1 ⊢
  all_goals
    repeat' (first | exact trivial | rfl | assumption | omega | refine And.intro ?_ ?_ | (intro h; first | (cases h; done) | (simp at h; done) | skip))
noncomputable def e_fillS7 : Entry := pureE 105 fun H a => match a with
  | [.agg [.lit (.int .i64 a0), .lit (.int .i64 a1), .lit (.int .i64 a2), .lit (.int .i64 a3), .lit (.int .i64 a4), .lit (.int .i64 a5), .lit (.int .i64 a6), .lit (.int .i64 a7), .lit (.int .i64 a8), .lit (.int .i64 a9), .lit (.int .i64 a10), .lit (.int .i64 a11), .lit (.int .i64 a12), .lit (.int .i64 a13), .lit (.int .i64 a14)], .vec 1 ln lf] => some (aT rowA H fun _ => filA (⟨⟨a0, a1, a2, a3⟩, a4, a5, a6, ⟨a7, a8, a9, a10⟩, ⟨a11, a12, a13, a14⟩⟩ : Arm) (Tl rowI ln lf), [H Prop fun _ => Shp rowI ln lf, H Prop fun _ => okA (⟨⟨a0, a1, a2, a3⟩, a4, a5, a6, ⟨a7, a8, a9, a10⟩, ⟨a11, a12, a13, a14⟩⟩ : Arm) = true, H Prop fun _ => cntP (⟨⟨a0, a1, a2, a3⟩, a4, a5, a6, ⟨a7, a8, a9, a10⟩, ⟨a11, a12, a13, a14⟩⟩ : Arm) ≤ (Tl rowI ln lf).length])
  | _ => none
theorem eok_fillS7 : EntryOk Tryz.prog e_fillS7 := pureM_ok (by unfold isBody; kernel_rfl) (by
  intro a r ob e hob
  split at e
  · rename_i a0 a1 a2 a3 a4 a5 a6 a7 a8 a9 a10 a11 a12 a13 a14 ln lf
    simp only [zqt] at e
    obtain ⟨rfl, rfl⟩ := e
    exact ConN.args (.cons .rfl (.cons (.toT okI rfl hob.1) .nil)) (c_fillS7 (⟨⟨a0, a1, a2, a3⟩, a4, a5, a6, ⟨a7, a8, a9, a10⟩, ⟨a11, a12, a13, a14⟩⟩ : Arm) (Tl rowI ln lf) hob.2.1 hob.2.2.1)
  · simp at e)
theorem c_lays7 (a : Arm) (h0 : okA a = true) : ConN Tryz.prog 133 [aT rowA stdH fun _ => a] [] 0 (.lit (.int .i64 (stdH Int fun _ => ((cntP a + 1 : Nat) : Int)))) [] [] := by
  have hB : Base Tryz.prog (tabΓ [e_l4None]) tab := base_of tabOk (ents_cons eok_l4None <| ents_nil)
  refine con_m (N := 22) hB (draw_ok hB mixed) Tryz.func133 rfl rfl (fun H => [aT rowA H fun _ => a]) (fun _ => []) 0 (fun H => .lit (.int .i64 (H Int fun _ => ((cntP a + 1 : Nat) : Int)))) (fun H => []) (fun _ => []) 120 (by simp) (fun x hx => ?_) (by simp [lk]) (by omega) (by simp) ?_
  · simp only [zqu] at hx
    rcases hx with rfl
    · exact aT_bl okRA _ _
  intro X hX hX0 H hH
  conv in Fin.chk _ _ => cbv
  try simp only [zqs, Plain_rowsC, Plain_rowsY, zqx, AllP, zqw, upd, if_true]
  subst hH
  simp only [stdH, Arm.eta2, Fld.eta, Grp.eta, x11, x21, x31, oPos h0]
  unfold cntP i2 i1
  by_cases ho : a.o = 0 <;> cases hn : noG a.n <;> cases hr : noG a.r
  all_goals simp only [ho, hn, hr, if_true, if_false, Bool.false_eq_true, decide_true, decide_false, Bool.not_true, Bool.not_false]
  all_goals
    repeat' (first | exact trivial | rfl | assumption | omega | refine And.intro ?_ ?_ | (intro h; first | (cases h; done) | (simp at h; done) | skip))
noncomputable def e_lays7 : Entry := pureE 133 fun H a => match a with
  | [.agg [.lit (.int .i64 a0), .lit (.int .i64 a1), .lit (.int .i64 a2), .lit (.int .i64 a3), .lit (.int .i64 a4), .lit (.int .i64 a5), .lit (.int .i64 a6), .lit (.int .i64 a7), .lit (.int .i64 a8), .lit (.int .i64 a9), .lit (.int .i64 a10), .lit (.int .i64 a11), .lit (.int .i64 a12), .lit (.int .i64 a13), .lit (.int .i64 a14)]] => some (.lit (.int .i64 (H Int fun _ => ((cntP (⟨⟨a0, a1, a2, a3⟩, a4, a5, a6, ⟨a7, a8, a9, a10⟩, ⟨a11, a12, a13, a14⟩⟩ : Arm) + 1 : Nat) : Int))), [H Prop fun _ => okA (⟨⟨a0, a1, a2, a3⟩, a4, a5, a6, ⟨a7, a8, a9, a10⟩, ⟨a11, a12, a13, a14⟩⟩ : Arm) = true])
  | _ => none
theorem eok_lays7 : EntryOk Tryz.prog e_lays7 := pureM_ok (by unfold isBody; kernel_rfl) (by
  intro a r ob e hob
  split at e
  · rename_i a0 a1 a2 a3 a4 a5 a6 a7 a8 a9 a10 a11 a12 a13 a14
    simp only [zqt] at e
    obtain ⟨rfl, rfl⟩ := e
    exact ConN.args (.cons .rfl .nil) (c_lays7 (⟨⟨a0, a1, a2, a3⟩, a4, a5, a6, ⟨a7, a8, a9, a10⟩, ⟨a11, a12, a13, a14⟩⟩ : Arm) hob.1)
  · simp at e)
theorem c_countS7 (a : Arm) (h0 : okA a = true) : ConN Tryz.prog 77 [aT rowA stdH fun _ => a] [] 0 (.lit (.int .i64 (stdH Int fun _ => ((cntP a : Nat) : Int)))) [] [] := by
  have hB : Base Tryz.prog (tabΓ [e_lays7]) tab := base_of tabOk (ents_cons eok_lays7 <| ents_nil)
  refine con_m (N := 6) hB (draw_ok hB mixed) Tryz.func77 rfl rfl (fun H => [aT rowA H fun _ => a]) (fun _ => []) 0 (fun H => .lit (.int .i64 (H Int fun _ => ((cntP a : Nat) : Int)))) (fun H => []) (fun _ => []) 100 (by simp) (fun x hx => ?_) (by simp [lk]) (by omega) (by simp) ?_
  · simp only [zqu] at hx
    rcases hx with rfl
    · exact aT_bl okRA _ _
  intro X hX hX0 H hH
  conv in Fin.chk _ _ => cbv
  try simp only [zqs, Plain_rowsC, Plain_rowsY, zqx, AllP, zqw, upd, if_true]
  subst hH
  simp only [stdH, Arm.eta2, Fld.eta, Grp.eta]
  have : cntP a ≤ 3 := by unfold cntP i2 i1; split <;> split <;> split <;> omega
  refine ⟨h0, ?_⟩
  rw [wi (by omega) (by omega)]; omega
noncomputable def e_countS7 : Entry := pureE 77 fun H a => match a with
  | [.agg [.lit (.int .i64 a0), .lit (.int .i64 a1), .lit (.int .i64 a2), .lit (.int .i64 a3), .lit (.int .i64 a4), .lit (.int .i64 a5), .lit (.int .i64 a6), .lit (.int .i64 a7), .lit (.int .i64 a8), .lit (.int .i64 a9), .lit (.int .i64 a10), .lit (.int .i64 a11), .lit (.int .i64 a12), .lit (.int .i64 a13), .lit (.int .i64 a14)]] => some (.lit (.int .i64 (H Int fun _ => ((cntP (⟨⟨a0, a1, a2, a3⟩, a4, a5, a6, ⟨a7, a8, a9, a10⟩, ⟨a11, a12, a13, a14⟩⟩ : Arm) : Nat) : Int))), [H Prop fun _ => okA (⟨⟨a0, a1, a2, a3⟩, a4, a5, a6, ⟨a7, a8, a9, a10⟩, ⟨a11, a12, a13, a14⟩⟩ : Arm) = true])
  | _ => none
theorem eok_countS7 : EntryOk Tryz.prog e_countS7 := pureM_ok (by unfold isBody; kernel_rfl) (by
  intro a r ob e hob
  split at e
  · rename_i a0 a1 a2 a3 a4 a5 a6 a7 a8 a9 a10 a11 a12 a13 a14
    simp only [zqt] at e
    obtain ⟨rfl, rfl⟩ := e
    exact ConN.args (.cons .rfl .nil) (c_countS7 (⟨⟨a0, a1, a2, a3⟩, a4, a5, a6, ⟨a7, a8, a9, a10⟩, ⟨a11, a12, a13, a14⟩⟩ : Arm) hob.1)
  · simp at e)
theorem c_bareS7 (a : Arm) (h0 : okA a = true) : ConN Tryz.prog 76 [aT rowA stdH fun _ => a] [] 0 (aT rowA stdH fun _ => filA a [1, 1, 1]) [] [] := by
  have hB : Base Tryz.prog (tabΓ [e_fillS7]) tab := base_of tabOk (ents_cons eok_fillS7 <| ents_nil)
  refine con_m (N := 6) hB (draw_ok hB mixed) Tryz.func76 rfl rfl (fun H => [aT rowA H fun _ => a]) (fun _ => []) 0 (fun H => aT rowA H fun _ => filA a [1, 1, 1]) (fun H => []) (fun _ => []) 100 (by simp) (fun x hx => ?_) (by simp [lk]) (by omega) (by simp) ?_
  · simp only [zqu] at hx
    rcases hx with rfl
    · exact aT_bl okRA _ _
  intro X hX hX0 H hH
  conv in Fin.chk _ _ => cbv
  try simp only [zqs, Plain_rowsC, Plain_rowsY, zqx, AllP, zqw, upd, if_true]
  subst hH
  simp only [stdH, Arm.eta2, Fld.eta, Grp.eta]
  have : cntP a ≤ 3 := by unfold cntP i2 i1; split <;> split <;> split <;> omega
  have e : Tl rowI 3 (rowsOf 1 [AV.lit (.int .i64 1), AV.lit (.int .i64 1), AV.lit (.int .i64 1)]) = [1, 1, 1] := rfl
  have s : Shp rowI 3 (rowsOf 1 [AV.lit (.int .i64 1), AV.lit (.int .i64 1), AV.lit (.int .i64 1)]) := ⟨fun j hj => by rcases (by omega : j = 0 ∨ j = 1 ∨ j = 2) with rfl | rfl | rfl <;> rfl⟩
  simp only [e]
  have l3 : ([1, 1, 1] : List Int).length = 3 := rfl
  repeat' (first | exact trivial | rfl | assumption | omega | refine And.intro ?_ ?_ | (intro h; first | (cases h; done) | (simp at h; done) | skip))
noncomputable def e_bareS7 : Entry := pureE 76 fun H a => match a with
  | [.agg [.lit (.int .i64 a0), .lit (.int .i64 a1), .lit (.int .i64 a2), .lit (.int .i64 a3), .lit (.int .i64 a4), .lit (.int .i64 a5), .lit (.int .i64 a6), .lit (.int .i64 a7), .lit (.int .i64 a8), .lit (.int .i64 a9), .lit (.int .i64 a10), .lit (.int .i64 a11), .lit (.int .i64 a12), .lit (.int .i64 a13), .lit (.int .i64 a14)]] => some (aT rowA H fun _ => filA (⟨⟨a0, a1, a2, a3⟩, a4, a5, a6, ⟨a7, a8, a9, a10⟩, ⟨a11, a12, a13, a14⟩⟩ : Arm) [1, 1, 1], [H Prop fun _ => okA (⟨⟨a0, a1, a2, a3⟩, a4, a5, a6, ⟨a7, a8, a9, a10⟩, ⟨a11, a12, a13, a14⟩⟩ : Arm) = true])
  | _ => none
theorem eok_bareS7 : EntryOk Tryz.prog e_bareS7 := pureM_ok (by unfold isBody; kernel_rfl) (by
  intro a r ob e hob
  split at e
  · rename_i a0 a1 a2 a3 a4 a5 a6 a7 a8 a9 a10 a11 a12 a13 a14
    simp only [zqt] at e
    obtain ⟨rfl, rfl⟩ := e
    exact ConN.args (.cons .rfl .nil) (c_bareS7 (⟨⟨a0, a1, a2, a3⟩, a4, a5, a6, ⟨a7, a8, a9, a10⟩, ⟨a11, a12, a13, a14⟩⟩ : Arm) hob.1)
  · simp at e)
theorem c_textS7 (k : Skt) (h0 : okK k = true) : ConN Tryz.prog 44 [aT rowK stdH fun _ => k] [] 0 (.lit (.string (stdH ByteArray fun _ => kT k))) [] [] := by
  have hB : Base Tryz.prog (tabΓ [e_l3Text, e_l6Ordinary, e_slotTxS, e_l4None, e_l4Bare, e_l6Join]) tab := base_of tabOk (ents_cons eok_l3Text <| ents_cons eok_l6Ordinary <| ents_cons eok_slotTxS <| ents_cons eok_l4None <| ents_cons eok_l4Bare <| ents_cons eok_l6Join <| ents_nil)
  refine con_m (N := 71) hB (draw_ok hB mixed) Tryz.func44 rfl rfl (fun H => [aT rowK H fun _ => k]) (fun _ => []) 0 (fun H => .lit (.string (H ByteArray fun _ => kT k))) (fun H => []) (fun _ => []) 300 (by simp) (fun x hx => ?_) (by simp [lk]) (by omega) (by simp) ?_
  · simp only [zqu] at hx
    rcases hx with rfl
    · exact aT_bl okRK _ _
  intro X hX hX0 H hH
  conv in Fin.chk _ _ => cbv
  try simp only [zqs, Plain_rowsC, Plain_rowsY, zqx, AllP, zqw, upd, if_true]
  subst hH
  have hk := okK_iff.1 h0
  have hy := hk.y
  have hlen := hk.len
  have f1 := okA_F hk.a
  have f2 := okA_O hk.a
  have f3 := okA_N hk.a
  have f4 := okA_R hk.a
  have s1 := fldT_sz k.arms.f
  have s2 := ordS_sz k.arms.o k.arms.l
  have s3 := cntT_sz k.arms.n.c k.arms.n.k
  have s4 := kndT_sz k.arms.n.k k.arms.n.c
  have s5 := attT_sz k.arms.n
  have s6 := cntT_sz k.arms.r.c k.arms.r.k
  have s7 := kndT_sz k.arms.r.k k.arms.r.c
  have s8 := attT_sz k.arms.r
  have s9 := jnO_sz k.arms.o
  have z : ∀ i, (kS k i).size ≤ 14 := kS_sz hk
  unfold kS at z
  have z0 := z 0; have z1 := z 1; have z2 := z 2
  simp only [stdH, Arm.eta2, Fld.eta, Grp.eta, Slo.eta, x01, x11, t0, t1, t2, oPos hk.a]
  have op := oPos hk.a
  unfold cntP i2 i1 at hy hlen
  unfold kT kO kN kR kS i2 i1 barT
  by_cases ho : k.arms.o = 0
  · have hn := okA_o0 hk.a ho
    cases hr : noG k.arms.r
    all_goals simp only [ho, hn, hr, if_true, if_false, Bool.false_eq_true, decide_true, decide_false, Bool.not_true, Bool.not_false, app_empty, empty_app] at hy hlen s9 ⊢
    all_goals
      repeat' (first | exact trivial | exact f1 | exact o2 | exact o3 | exact (f3 hn).1 | exact f4 hr | exact hy _ (by omega) | omega | (simp only [ByteArray.size_append, bsz, List.length_cons, List.length_nil]; omega) | refine And.intro ?_ ?_ | (intro h; first | (cases h; done) | (simp at h; done) | skip) | (simp only [ByteArray.append_assoc]; rfl) | (simp only [ByteArray.append_assoc, Nat.add_zero]; done))
  · obtain ⟨o2, o3, _⟩ := f2 ho
    cases hn : noG k.arms.n <;> cases hr : noG k.arms.r
    all_goals simp only [ho, hn, hr, if_true, if_false, Bool.false_eq_true, decide_true, decide_false, Bool.not_true, Bool.not_false, app_empty, empty_app] at hy hlen ⊢
    all_goals
      repeat' (first | exact trivial | exact f1 | exact o2 | exact o3 | exact (f3 hn).1 | exact f4 hr | exact hy _ (by omega) | omega | (simp only [ByteArray.size_append, bsz, List.length_cons, List.length_nil]; omega) | refine And.intro ?_ ?_ | (intro h; first | (cases h; done) | (simp at h; done) | skip) | (simp only [ByteArray.append_assoc]; rfl) | (simp only [ByteArray.append_assoc, Nat.add_zero]; done))
noncomputable def e_textS7 : Entry := pureE 44 fun H a => match a with
  | [.agg [.lit (.int .i64 k0), .lit (.int .i64 k1), .lit (.int .i64 k2), .lit (.int .i64 k3), .lit (.int .i64 k4), .lit (.int .i64 k5), .lit (.int .i64 k6), .lit (.int .i64 k7), .lit (.int .i64 k8), .lit (.int .i64 k9), .lit (.int .i64 k10), .lit (.int .i64 k11), .lit (.int .i64 k12), .lit (.int .i64 k13), .lit (.int .i64 k14), .vec 2 k15n k15f]] => some (.lit (.string (H ByteArray fun _ => kT (⟨⟨⟨k0, k1, k2, k3⟩, k4, k5, k6, ⟨k7, k8, k9, k10⟩, ⟨k11, k12, k13, k14⟩⟩, (Tl rowY k15n k15f)⟩ : Skt))), [H Prop fun _ => Shp rowY k15n k15f, H Prop fun _ => okK (⟨⟨⟨k0, k1, k2, k3⟩, k4, k5, k6, ⟨k7, k8, k9, k10⟩, ⟨k11, k12, k13, k14⟩⟩, (Tl rowY k15n k15f)⟩ : Skt) = true])
  | _ => none
theorem eok_textS7 : EntryOk Tryz.prog e_textS7 := pureM_ok (by unfold isBody; kernel_rfl) (by
  intro a r ob e hob
  split at e
  · rename_i k0 k1 k2 k3 k4 k5 k6 k7 k8 k9 k10 k11 k12 k13 k14 k15n k15f
    simp only [zqt] at e
    obtain ⟨rfl, rfl⟩ := e
    exact ConN.args (.cons (.agg (.cons .rfl (.cons .rfl (.cons .rfl (.cons .rfl (.cons .rfl (.cons .rfl (.cons .rfl (.cons .rfl (.cons .rfl (.cons .rfl (.cons .rfl (.cons .rfl (.cons .rfl (.cons .rfl (.cons .rfl (.cons (.toT okRY rfl hob.1) .nil))))))))))))))))) .nil) (c_textS7 (⟨⟨⟨k0, k1, k2, k3⟩, k4, k5, k6, ⟨k7, k8, k9, k10⟩, ⟨k11, k12, k13, k14⟩⟩, (Tl rowY k15n k15f)⟩ : Skt) hob.2.1)
  · simp at e)

end Go.Proofs.YtmkniipdkanbbaaGreatDoor.AM

