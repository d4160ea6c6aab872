/- Lemmas and contracts (Ske); conditions: none. -/
import Derived.Test.YtmkniipdkanbbaaGreatDoorK04
import Derived.Test.YtmkniipdkanbbaaGreatDoorK10
import Derived.Test.YtmkniipdkanbbaaGreatDoorK12
import Derived.Test.YtmkniipdkanbbaaGreatDoorK27
import Derived.Test.YtmkniipdkanbbaaGreatDoorK35
import Derived.Test.YtmkniipdkanbbaaGreatDoorK36
set_option linter.unusedVariables false
set_option linter.unusedSimpArgs false
set_option maxRecDepth 100000
set_option maxHeartbeats 4000000
set_option cbv.maxSteps 3000000
namespace Go.Proofs.YtmkniipdkanbbaaGreatDoor.AM
/- Sketches of any kind, drawn; their texts drawn; conditions: none. -/
theorem okK_le {k : Skt} (h : okK k = true) : k.slots.length ≤ 3 := by
  rw [(okK_iff.1 h).len]; exact cntP_3 _
def r_anySketchD (n : Nat) (H : Hold) (y : Unit → Skt) : AV := .agg [.lit (.int .i64 (H Int fun _ => (y ()).arms.f.d)), .lit (.int .i64 (H Int fun _ => (y ()).arms.f.l)), .lit (.int .i64 (H Int fun _ => (y ()).arms.f.p)), .lit (.int .i64 (H Int fun _ => (y ()).arms.f.q)), .lit (.int .i64 (H Int fun _ => (y ()).arms.o)), .lit (.int .i64 (H Int fun _ => (y ()).arms.l)), .lit (.int .i64 (H Int fun _ => (y ()).arms.t)), .lit (.int .i64 (H Int fun _ => (y ()).arms.n.c)), .lit (.int .i64 (H Int fun _ => (y ()).arms.n.k)), .lit (.int .i64 (H Int fun _ => (y ()).arms.n.a)), .lit (.int .i64 (H Int fun _ => (y ()).arms.n.t)), .lit (.int .i64 (H Int fun _ => (y ()).arms.r.c)), .lit (.int .i64 (H Int fun _ => (y ()).arms.r.k)), .lit (.int .i64 (H Int fun _ => (y ()).arms.r.a)), .lit (.int .i64 (H Int fun _ => (y ()).arms.r.t)), .vec 2 (H Nat fun _ => ((y ()).slots).length) (rowsY H fun _ => (y ()).slots)]
def nb_anySketchD (H : Hold) (y : Unit → Skt) : List Blk := []
theorem x_anySketchD (c : Cd)  (st : DS) (h : Bd 106 st)  : ∃ y, DrwM Tryz.prog 74 73 106 r_anySketchD nb_anySketchD (fun y => y.slots.length ≤ 4) c [] st y := by
  have hB : Base Tryz.prog (tabΓ [e_sketchD c, e_pick c, e_anyArms c, e_slotD c]) tab := base_of tabOk (ents_cons (eok_sketchD c) <| ents_cons (eok_pick c) <| ents_cons (eok_anyArms c) <| ents_cons (eok_slotD c) <| ents_nil)
  refine drwM_ok (N := 42) hB (draw_ok hB mixed) Tryz.func73 rfl rfl 74 106 r_anySketchD nb_anySketchD (fun y => y.slots.length ≤ 4) c (fun H => []) st 400 (by simp) (fun x hx => ?_) ?_
  · cases hx
  intro H hH
  conv in finish _ _ _ _ _ _ _ _ => cbv
  simp only [Fin.sat0, AllP, and_true, true_and, ncast, Int.ofNat_eq_natCast, heta hH]
  obtain ⟨a1, m0⟩ := p_sketchD c st (Bd.mono (by assumption))
  have m0 := okK_le m0
  generalize F_sketchD c st = y1 at *
  have b1 : Bd 56 y1.2 := a1.bd h
  obtain ⟨⟨ar, sl⟩, st1⟩ := y1
  dsimp only at *
  simp only [hlen hH, hetaA hH, heta hH]
  have a2 := (p_pick c 16 st1 (Bd.mono (by assumption))).1; generalize F_pick c 16 st1 = y2 at *; have b2 : Bd 54 y2.2 := a2.bd (by assumption)
  have a3 := (p_anyArms c y2.2 (Bd.mono (by assumption))).1; generalize F_anyArms c y2.2 = y3 at *; have b3 : Bd 0 y3.2 := a3.bd (by assumption)
  obtain ⟨a4, k4⟩ := p_slotD c y2.2 b2.mono
  generalize F_slotD c y2.2 = y4 at *
  obtain ⟨a5, m5, n5⟩ := p_pick c (sl.length) y2.2 (Bd.mono (by assumption)); generalize F_pick c (sl.length) y2.2 = y5 at *; have b5 : Bd 52 y5.2 := Adv.bd a5 (by assumption)
  have a6 := (p_pick c 7 y5.2 (Bd.mono (by assumption))).1; generalize F_pick c 7 y5.2 = y6 at *; have b6 : Bd 50 y6.2 := a6.bd (by assumption)
  have a7 := (p_pick c 5 y6.2 (Bd.mono (by assumption))).1; generalize F_pick c 5 y6.2 = y7 at *; have b7 : Bd 48 y7.2 := a7.bd (by assumption)
  (repeat' (with_reducible first | refine And.intro ?_ ?_ | intro hh))
  · try simp only [hH, stdH, zqz, ne_eq, zqy]
    exact h.mono
  · try simp only [hH, stdH, zqz, ne_eq, zqy]
    exact b1.mono
  · try simp only [hH, stdH, zqz, ne_eq, zqy]
    exact b2.mono
  · refine ⟨((⟨y3.1, sl⟩ : Skt), y3.2), ((a1.t a2).t a3).le (by decide), by simp only [List.length_append, List.length_set, List.length_cons, List.length_nil]; omega, ?_⟩
    (conv in matchEx _ _ _ _ _ _ _ => cbv); simp only [AllG, AllP, and_true, hH, stdH, zql, ncast, zqe, zqy]
    (repeat' (first | exact trivial | exact c.rqN | exact RowsEq.self okRY | exact RowsEq.snoc okRY rfl | exact RowsEq.putT okRY rfl | rfl | refine And.intro ?_ ?_))
  · try simp only [hH, stdH, zqz, ne_eq, zqy]
    exact b2.mono
  · rw [hH]; exact trivial
  · try simp only [hH, stdH, zqz, ne_eq, zqy]
    omega
  · refine ⟨((⟨ar, sl ++ [y4.1]⟩ : Skt), y4.2), ((a1.t a2).t a4).le (by decide), by simp only [List.length_append, List.length_set, List.length_cons, List.length_nil]; omega, ?_⟩
    (conv in matchEx _ _ _ _ _ _ _ => cbv); simp only [AllG, AllP, and_true, hH, stdH, zql, ncast, zqe, zqy]
    (repeat' (first | exact trivial | exact c.rqN | exact RowsEq.self okRY | exact RowsEq.snoc okRY rfl | exact RowsEq.putT okRY rfl | rfl | refine And.intro ?_ ?_))
  · try simp only [hH, stdH, zqz, ne_eq, zqy]
    exact b2.mono
  · try simp only [hH, stdH, zqz, ne_eq, zqy]
    exact b5.mono
  · try simp only [hH, stdH, zqz, ne_eq, zqy]
    exact b6.mono
  · simp only [hH, stdH, decide_eq_true_eq] at hh ⊢
    omega
  · simp only [hH, stdH, decide_eq_true_eq] at hh ⊢
    exact ⟨by omega, rfl⟩
  · refine ⟨((⟨ar, sl.set y5.1.toNat ⟨y6.1, y7.1⟩⟩ : Skt), y7.2), ((((a1.t a2).t a5).t a6).t a7).le (by decide), by simp only [List.length_append, List.length_set, List.length_cons, List.length_nil]; omega, ?_⟩
    (conv in matchEx _ _ _ _ _ _ _ => cbv); simp only [AllG, AllP, and_true, hH, stdH, zql, ncast, zqe, zqy]
    (repeat' (first | exact trivial | exact c.rqN | exact RowsEq.self okRY | exact RowsEq.snoc okRY rfl | exact RowsEq.putT okRY rfl | rfl | refine And.intro ?_ ?_))
  · refine ⟨((⟨ar, sl⟩ : Skt), y2.2), (a1.t a2).le (by decide), by simp only [List.length_append, List.length_set, List.length_cons, List.length_nil]; omega, ?_⟩
    (conv in matchEx _ _ _ _ _ _ _ => cbv); simp only [AllG, AllP, and_true, hH, stdH, zql, ncast, zqe, zqy]
    (repeat' (first | exact trivial | exact c.rqN | exact RowsEq.self okRY | exact RowsEq.snoc okRY rfl | exact RowsEq.putT okRY rfl | rfl | refine And.intro ?_ ?_))
  · refine ⟨((⟨ar, sl⟩ : Skt), y2.2), (a1.t a2).le (by decide), by simp only [List.length_append, List.length_set, List.length_cons, List.length_nil]; omega, ?_⟩
    (conv in matchEx _ _ _ _ _ _ _ => cbv); simp only [AllG, AllP, and_true, hH, stdH, zql, ncast, zqe, zqy]
    (repeat' (first | exact trivial | exact c.rqN | exact RowsEq.self okRY | exact RowsEq.snoc okRY rfl | exact RowsEq.putT okRY rfl | rfl | refine And.intro ?_ ?_))
noncomputable def F_anySketchD (c : Cd)  (st : DS) : Skt × DS := drwM Tryz.prog 74 73 106 r_anySketchD nb_anySketchD (fun y => y.slots.length ≤ 4) c [] st
noncomputable def e_anySketchD (c : Cd) : Entry := curEN 74 73 106 c fun H st a nx => match a with
  | [] => some (r_anySketchD nx H (fun _ => (F_anySketchD c  st).1), nb_anySketchD H (fun _ => (F_anySketchD c  st).1), (fun _ => (F_anySketchD c  st).2), [])
  | _ => none
theorem eok_anySketchD (c : Cd) : EntryOk Tryz.prog (e_anySketchD c) := curEN_ok (by unfold isBody; kernel_rfl) (by
  intro st a nx r nb y ob e hb hob
  split at e
  · simp only [zqt] at e
    obtain ⟨rfl, rfl, rfl, rfl⟩ := e
    have hd := drwM_spec (x_anySketchD c  st hb )
    refine ⟨_, _, ConN.args (.cons .rfl .nil) hd.1, fun x hx => ?_, rfl, ?_, fun q b hq => ⟨b, hq, .same ?_⟩⟩
    · cases hx
    · (repeat' (first | exact .nil | exact .slc ⟨by omega, by simp [nb_anySketchD]⟩ (by omega) | exact .pl .lit | exact .pl (vT_bl okRY (fun _ => (F_anySketchD c  st).1.slots) _) | apply ReL.cons | apply Re.aggL | apply Re.tupL))
    · replace hq := List.mem_of_getElem? hq
      simp [nb_anySketchD] at hq
  · simp at e)
theorem p_anySketchD (c : Cd)  (st : DS) (h : Bd 106 st)  : Adv 106 st (F_anySketchD c  st).2 ∧ (fun y => y.slots.length ≤ 4) (F_anySketchD c  st).1 := (drwM_spec (x_anySketchD c  st h )).2
theorem allYE (x y : Slo) : allT [fun _ => x.m == y.m, fun _ => x.n == y.n] = decide (x = y) := by
  obtain ⟨m, n⟩ := x
  obtain ⟨p, q⟩ := y
  by_cases h0 : m = p <;> by_cases h1 : n = q <;> simp [allT, h0, h1]
theorem extY {l l' : List Slo} (h : l.length = l'.length) (he : ∀ j, j < l.length → l.getD j default = l'.getD j default) : l = l' := by
  refine List.ext_getElem h fun j h1 h2 => ?_
  have := he j h1
  rwa [List.getD_eq_getElem?_getD, List.getD_eq_getElem?_getD, List.getElem?_eq_getElem h1, List.getElem?_eq_getElem h2] at this
theorem c_vSketch (a : Skt) (b : Skt) (h0 : a.slots.length ≤ 100000000) : ConN Tryz.prog 16 [aT rowK stdH fun _ => a, aT rowK stdH fun _ => b] [] 0 (.lit (.bool (stdH Bool fun _ => decide (a.arms = b.arms ∧ a.slots = b.slots)))) [] [] := by
  have hB : Base Tryz.prog (tabΓ []) tab := base_of tabOk (ents_nil)
  refine con_m (N := 38) hB (draw_ok hB mixed) Tryz.func16 rfl rfl (fun H => [aT rowK H fun _ => a, aT rowK H fun _ => b]) (fun _ => []) 0 (fun H => .lit (.bool (H Bool fun _ => decide (a.arms = b.arms ∧ a.slots = b.slots)))) (fun H => []) (fun _ => []) 100 (by simp) (fun x hx => ?_) (by simp [lk]) (by omega) (by simp) ?_
  · simp only [zqu] at hx
    rcases hx with rfl | rfl
    · exact aT_bl okRK _ _
    · exact aT_bl okRK _ _
  intro X hX hX0 H hH
  conv in Fin.chk _ _ => cbv
  try simp only [zqs, Plain_rowsC, Plain_rowsY, zqx, AllP, zqw, upd, if_true]
  refine ⟨fun h1 => ?_, fun h1 => ?_⟩
  · simp only [hH, stdH, eqAE] at h1 ⊢
    refine decide_eq_false fun q => ?_
    rw [q.1, q.2] at h1
    simp at h1
  · simp only [hH, stdH, eqAE] at h1
    have ea : a.arms = b.arms := by
      by_cases e : a.arms = b.arms
      · exact e
      · simp [e] at h1
    have el : a.slots.length = b.slots.length := by
      simp [ea] at h1
      omega
    refine loop_a hB (draw_ok hB mixed) hX hX0 hH false (ι := { i : Nat // i ≤ a.slots.length ∧ ∀ j, j < i → a.slots.getD j default = b.slots.getD j default }) 100 (fun i => [.i (H Int fun _ => (i.1 : Nat))]) (fun i => a.slots.length - i.1) (⟨0, by omega, by omega⟩) ?_ ?_
    · (conv in matchSt _ _ _ _ => cbv); simp only [AllG, AllP, and_true, hH, stdH, zql, ncast, zqe, zqy]
      (repeat' (with_reducible refine And.intro ?_ ?_)) <;> (first | exact True.intro | exact Eq.refl _ | exact RowsEq.self okRY)
    · intro I hI i
      conv in Fin.chk _ _ => cbv
      try simp only [zqs, Plain_rowsC, Plain_rowsY, zqx, AllP, zqw, upd, if_true]
      obtain ⟨i, hi, hj⟩ := i
      (repeat' (with_reducible first | refine And.intro ?_ ?_ | intro hh))
      all_goals try (clear hI hX hX0 hB I X; subst hH; simp only [stdH, Int.toNat_natCast, decide_eq_true_eq, decide_eq_false_iff_not] at *; (repeat' refine And.intro ?_ ?_) <;> first | exact trivial | omega)
      · rename_i h2
        simp only [hH, stdH, Int.toNat_natCast, decide_eq_true_eq, Bool.not_eq_true'] at h2 hh ⊢
        rw [allYE] at hh
        refine decide_eq_false fun q => ?_
        rw [q.2] at hh
        simp at hh
      · rename_i h2
        simp only [hH, stdH, Int.toNat_natCast, decide_eq_true_eq, Bool.not_eq_false'] at h2 hh
        have e3 : a.slots.getD i default = b.slots.getD i default := by
          rw [allYE] at hh
          exact of_decide_eq_true hh
        refine ⟨⟨i + 1, by omega, fun j hj' => ?_⟩, by simp only; omega, ?_⟩
        · rcases Nat.lt_succ_iff_lt_or_eq.1 hj' with h | rfl
          · exact hj j h
          · exact e3
        · rw [hI]
          (conv in matchSt _ _ _ _ => cbv); simp only [AllG, AllP, and_true, hH, stdH, zql, ncast, zqe, zqy]
          rw [w1 (by omega)]
          (repeat' (with_reducible refine And.intro ?_ ?_)) <;> (first | exact True.intro | exact RowsEq.self okRY | exact Eq.refl _)
      · simp only [hH, stdH, decide_eq_false_iff_not] at hh ⊢
        exact decide_eq_true ⟨ea, extY el fun j hj' => hj j (by omega)⟩
noncomputable def e_vSketch : Entry := pureE 16 fun H a => match a with
  | [.agg [.lit (.int .i64 a0), .lit (.int .i64 a1), .lit (.int .i64 a2), .lit (.int .i64 a3), .lit (.int .i64 a4), .lit (.int .i64 a5), .lit (.int .i64 a6), .lit (.int .i64 a7), .lit (.int .i64 a8), .lit (.int .i64 a9), .lit (.int .i64 a10), .lit (.int .i64 a11), .lit (.int .i64 a12), .lit (.int .i64 a13), .lit (.int .i64 a14), .vec 2 a15n a15f], .agg [.lit (.int .i64 b0), .lit (.int .i64 b1), .lit (.int .i64 b2), .lit (.int .i64 b3), .lit (.int .i64 b4), .lit (.int .i64 b5), .lit (.int .i64 b6), .lit (.int .i64 b7), .lit (.int .i64 b8), .lit (.int .i64 b9), .lit (.int .i64 b10), .lit (.int .i64 b11), .lit (.int .i64 b12), .lit (.int .i64 b13), .lit (.int .i64 b14), .vec 2 b15n b15f]] => some (.lit (.bool (H Bool fun _ => decide ((⟨⟨⟨a0, a1, a2, a3⟩, a4, a5, a6, ⟨a7, a8, a9, a10⟩, ⟨a11, a12, a13, a14⟩⟩, (Tl rowY a15n a15f)⟩ : Skt).arms = (⟨⟨⟨b0, b1, b2, b3⟩, b4, b5, b6, ⟨b7, b8, b9, b10⟩, ⟨b11, b12, b13, b14⟩⟩, (Tl rowY b15n b15f)⟩ : Skt).arms ∧ (⟨⟨⟨a0, a1, a2, a3⟩, a4, a5, a6, ⟨a7, a8, a9, a10⟩, ⟨a11, a12, a13, a14⟩⟩, (Tl rowY a15n a15f)⟩ : Skt).slots = (⟨⟨⟨b0, b1, b2, b3⟩, b4, b5, b6, ⟨b7, b8, b9, b10⟩, ⟨b11, b12, b13, b14⟩⟩, (Tl rowY b15n b15f)⟩ : Skt).slots))), [H Prop fun _ => Shp rowY a15n a15f, H Prop fun _ => Shp rowY b15n b15f, H Prop fun _ => (⟨⟨⟨a0, a1, a2, a3⟩, a4, a5, a6, ⟨a7, a8, a9, a10⟩, ⟨a11, a12, a13, a14⟩⟩, (Tl rowY a15n a15f)⟩ : Skt).slots.length ≤ 100000000])
  | _ => none
theorem eok_vSketch : EntryOk Tryz.prog e_vSketch := pureM_ok (by unfold isBody; kernel_rfl) (by
  intro a r ob e hob
  split at e
  · rename_i a0 a1 a2 a3 a4 a5 a6 a7 a8 a9 a10 a11 a12 a13 a14 a15n a15f b0 b1 b2 b3 b4 b5 b6 b7 b8 b9 b10 b11 b12 b13 b14 b15n b15f
    simp only [zqt] at e
    obtain ⟨rfl, rfl⟩ := e
    exact ConN.args (.cons (.agg (.cons .rfl (.cons .rfl (.cons .rfl (.cons .rfl (.cons .rfl (.cons .rfl (.cons .rfl (.cons .rfl (.cons .rfl (.cons .rfl (.cons .rfl (.cons .rfl (.cons .rfl (.cons .rfl (.cons .rfl (.cons (.toT okRY rfl hob.1) .nil))))))))))))))))) (.cons (.agg (.cons .rfl (.cons .rfl (.cons .rfl (.cons .rfl (.cons .rfl (.cons .rfl (.cons .rfl (.cons .rfl (.cons .rfl (.cons .rfl (.cons .rfl (.cons .rfl (.cons .rfl (.cons .rfl (.cons .rfl (.cons (.toT okRY rfl hob.2.1) .nil))))))))))))))))) .nil)) (c_vSketch (⟨⟨⟨a0, a1, a2, a3⟩, a4, a5, a6, ⟨a7, a8, a9, a10⟩, ⟨a11, a12, a13, a14⟩⟩, (Tl rowY a15n a15f)⟩ : Skt) (⟨⟨⟨b0, b1, b2, b3⟩, b4, b5, b6, ⟨b7, b8, b9, b10⟩, ⟨b11, b12, b13, b14⟩⟩, (Tl rowY b15n b15f)⟩ : Skt) hob.2.2.1)
  · simp at e)
theorem c_IsValidSkS (k : Skt) (h0 : k.slots.length ≤ 1000) : ConN Tryz.prog 14 [aT rowK stdH fun _ => k] [] 0 (.lit (.bool (stdH Bool fun _ => okK k))) [] [] := by
  have hB : Base Tryz.prog (tabΓ [e_goodS7]) tab := base_of tabOk (ents_cons eok_goodS7 <| ents_nil)
  refine con_m (N := 5) hB (draw_ok hB mixed) Tryz.func14 rfl rfl (fun H => [aT rowK H fun _ => k]) (fun _ => []) 0 (fun H => .lit (.bool (H Bool fun _ => okK k))) (fun H => []) (fun _ => []) 100 (by simp) (fun x hx => ?_) (by simp [lk]) (by omega) (by simp) ?_
  · simp only [zqu] at hx
    rcases hx with rfl
    · exact aT_bl okRK _ _
  intro X hX hX0 H hH
  conv in Fin.chk _ _ => cbv
  try simp only [zqs, Plain_rowsC, Plain_rowsY, zqx, AllP, zqw, upd, if_true]
  subst hH
  simp only [stdH, Arm.eta2, Fld.eta, Grp.eta, Tl_Y]
  exact ⟨⟨Shp_Y _ _, h0⟩, trivial⟩
noncomputable def e_IsValidSkS : Entry := pureE 14 fun H a => match a with
  | [.agg [.lit (.int .i64 k0), .lit (.int .i64 k1), .lit (.int .i64 k2), .lit (.int .i64 k3), .lit (.int .i64 k4), .lit (.int .i64 k5), .lit (.int .i64 k6), .lit (.int .i64 k7), .lit (.int .i64 k8), .lit (.int .i64 k9), .lit (.int .i64 k10), .lit (.int .i64 k11), .lit (.int .i64 k12), .lit (.int .i64 k13), .lit (.int .i64 k14), .vec 2 k15n k15f]] => some (.lit (.bool (H Bool fun _ => okK (⟨⟨⟨k0, k1, k2, k3⟩, k4, k5, k6, ⟨k7, k8, k9, k10⟩, ⟨k11, k12, k13, k14⟩⟩, (Tl rowY k15n k15f)⟩ : Skt))), [H Prop fun _ => Shp rowY k15n k15f, H Prop fun _ => (⟨⟨⟨k0, k1, k2, k3⟩, k4, k5, k6, ⟨k7, k8, k9, k10⟩, ⟨k11, k12, k13, k14⟩⟩, (Tl rowY k15n k15f)⟩ : Skt).slots.length ≤ 1000])
  | _ => none
theorem eok_IsValidSkS : EntryOk Tryz.prog e_IsValidSkS := pureM_ok (by unfold isBody; kernel_rfl) (by
  intro a r ob e hob
  split at e
  · rename_i k0 k1 k2 k3 k4 k5 k6 k7 k8 k9 k10 k11 k12 k13 k14 k15n k15f
    simp only [zqt] at e
    obtain ⟨rfl, rfl⟩ := e
    exact ConN.args (.cons (.agg (.cons .rfl (.cons .rfl (.cons .rfl (.cons .rfl (.cons .rfl (.cons .rfl (.cons .rfl (.cons .rfl (.cons .rfl (.cons .rfl (.cons .rfl (.cons .rfl (.cons .rfl (.cons .rfl (.cons .rfl (.cons (.toT okRY rfl hob.1) .nil))))))))))))))))) .nil) (c_IsValidSkS (⟨⟨⟨k0, k1, k2, k3⟩, k4, k5, k6, ⟨k7, k8, k9, k10⟩, ⟨k11, k12, k13, k14⟩⟩, (Tl rowY k15n k15f)⟩ : Skt) hob.2.1)
  · simp at e)

end Go.Proofs.YtmkniipdkanbbaaGreatDoor.AM

