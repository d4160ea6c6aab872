/- Lemmas and contracts (DrL); conditions: none. -/
import Derived.Test.YtgjjedpoclhkfaaGreatDoorK03
import Derived.Test.YtgjjedpoclhkfaaGreatDoorK11
set_option linter.unusedVariables false
set_option linter.unusedSimpArgs false
set_option maxRecDepth 100000
set_option maxHeartbeats 4000000
set_option cbv.maxSteps 3000000
namespace Go.Proofs.YtgjjedpoclhkfaaGreatDoor.AM
/- Arms like others are drawn; conditions: none. -/
def enc_like (H : Hold) (y : Unit → Arm) : AV := .agg [.lit (.int .i64 (H Int fun _ => (((y ())).f.d))), .lit (.int .i64 (H Int fun _ => (((y ())).f.l))), .lit (.int .i64 (H Int fun _ => (((y ())).f.p))), .lit (.int .i64 (H Int fun _ => (((y ())).f.q))), .lit (.int .i64 (H Int fun _ => (((y ())).o))), .lit (.int .i64 (H Int fun _ => (((y ())).l))), .lit (.int .i64 (H Int fun _ => (((y ())).t))), .lit (.int .i64 (H Int fun _ => (((y ())).n.c))), .lit (.int .i64 (H Int fun _ => (((y ())).n.k))), .lit (.int .i64 (H Int fun _ => (((y ())).n.a))), .lit (.int .i64 (H Int fun _ => (((y ())).n.t))), .lit (.int .i64 (H Int fun _ => (((y ())).r.c))), .lit (.int .i64 (H Int fun _ => (((y ())).r.k))), .lit (.int .i64 (H Int fun _ => (((y ())).r.a))), .lit (.int .i64 (H Int fun _ => (((y ())).r.t)))]
theorem x_like (c : Cd) (x : Arm) (st : DS) (h : Bd 40 st)  : ∃ y, Drw Tryz.prog 83 90 40 enc_like (fun _ => True) c [.agg [.lit (.int .i64 (x).f.d), .lit (.int .i64 (x).f.l), .lit (.int .i64 (x).f.p), .lit (.int .i64 (x).f.q), .lit (.int .i64 (x).o), .lit (.int .i64 (x).l), .lit (.int .i64 (x).t), .lit (.int .i64 (x).n.c), .lit (.int .i64 (x).n.k), .lit (.int .i64 (x).n.a), .lit (.int .i64 (x).n.t), .lit (.int .i64 (x).r.c), .lit (.int .i64 (x).r.k), .lit (.int .i64 (x).r.a), .lit (.int .i64 (x).r.t)]] st y := by
  obtain ⟨⟨x0, x1, x2, x3⟩, x4, x5, x6, ⟨x7, x8, x9, x10⟩, ⟨x11, x12, x13, x14⟩⟩ := x
  have hB : Base Tryz.prog (tabΓ [e_pick c, e_field c, e_tincture c, e_group c, e_arms c, e_l4None]) tab := base_of tabOk (ents_cons (eok_pick c) <| ents_cons (eok_field c) <| ents_cons (eok_tincture c) <| ents_cons (eok_group c) <| ents_cons (eok_arms c) <| ents_cons eok_l4None <| ents_nil)
  refine drw_ok (N := 52) hB (draw_ok hB mixed) Tryz.func90 rfl rfl _ _ _ _ _ _ _ 200 (by simp) (by intro x hx; simp at hx; (first | done | (subst hx; first | (first | exact .lit | exact blq_ok 4 rfl) | exact .vec (fun j hj x hx => by simp [vrow] at hx; subst hx; exact .lit)) | (rcases hx with rfl | rfl <;> (first | exact .lit | exact blq_ok 4 rfl)) | (rcases hx with rfl | rfl | rfl <;> (first | exact .lit | exact blq_ok 4 rfl)))) ?_
  intro H hH
  conv in finish _ _ _ _ _ _ _ _ => cbv
  subst hH
  simp only [Fin.sat0, Fin.sat1, stdH, Option.some.injEq, AV.lit.injEq, AV.agg.injEq, AV.tup.injEq, List.cons.injEq, Value.bool.injEq, Value.int.injEq, AllP, and_true, true_and, eq_self, decide_eq_true_eq, decide_eq_false_iff_not, Bool.not_eq_true', Bool.not_eq_false', peta, ncast]
  have a1 := (p_pick c 7 st (Bd.mono (by assumption))).1; generalize F_pick c 7 st = y1 at *; have b1 : Bd 38 y1.2 := a1.bd (by assumption)
  have a2 := (p_field c y1.2 (Bd.mono (by assumption))).1; generalize F_field c y1.2 = y2 at *; have b2 : Bd 28 y2.2 := a2.bd (by assumption)
  have a3 := (p_tincture c y1.2 (Bd.mono (by assumption))).1; generalize F_tincture c y1.2 = y3 at *; have b3 : Bd 36 y3.2 := a3.bd (by assumption)
  have a4 := (p_group c y1.2 (Bd.mono (by assumption))).1; generalize F_group c y1.2 = y4 at *; have b4 : Bd 30 y4.2 := a4.bd (by assumption)
  obtain ⟨a5, m5, n5⟩ := p_pick c (7) y1.2 (Bd.mono (by assumption)); generalize F_pick c (7) y1.2 = y5 at *; have b5 : Bd 36 y5.2 := Adv.bd a5 (by assumption)
  have a6 := (p_arms c y1.2 (Bd.mono (by assumption))).1; generalize F_arms c y1.2 = y6 at *; have b6 : Bd 0 y6.2 := a6.bd (by assumption)
  obtain ⟨a7, m7, n7⟩ := p_pick c (6) y1.2 (Bd.mono (by assumption)); generalize F_pick c (6) y1.2 = y7 at *; have b7 : Bd 36 y7.2 := Adv.bd a7 (by assumption)
  have w5 : IntKind.i64.wrap (1 + y5.1) = 1 + y5.1 := wi (by omega) (by omega)
  have w7 : IntKind.i64.wrap (1 + y7.1) = 1 + y7.1 := wi (by omega) (by omega)
  have q0 : Adv 40 st y1.2 := a1.le (by omega)
  simp only [w5, w7]
  exact ⟨h.mono, fun _ => ⟨b1.mono, (⟨y2.1, x4, x5, x6, ⟨x7, x8, x9, x10⟩, ⟨x11, x12, x13, x14⟩⟩, y2.2), .refl, blq_ok 4 rfl, rfl, a1.trans a2⟩, fun _ => ⟨fun _ => ⟨fun _ => ⟨b1.mono, (⟨⟨x0, x1, x2, x3⟩, x4, x5, y3.1, ⟨x7, x8, x9, x10⟩, ⟨x11, x12, x13, x14⟩⟩, y3.2), .refl, blq_ok 4 rfl, rfl, a1.trans a3⟩, fun _ => ⟨(⟨⟨x0, x1, x2, x3⟩, x4, x5, x6, ⟨x7, x8, x9, x10⟩, ⟨x11, x12, x13, x14⟩⟩, y1.2), .refl, blq_ok 4 rfl, rfl, q0⟩⟩, fun _ => ⟨fun _ => ⟨b1.mono, (⟨⟨x0, x1, x2, x3⟩, x4, x5, x6, ⟨x7, x8, x9, x10⟩, y4.1⟩, y4.2), .refl, blq_ok 4 rfl, rfl, a1.trans a4⟩, fun _ => ⟨fun _ => ⟨fun _ => ⟨b1.mono, (⟨⟨x0, x1, x2, x3⟩, 1 + y5.1, x5, x6, ⟨x7, x8, x9, x10⟩, ⟨x11, x12, x13, x14⟩⟩, y5.2), .refl, blq_ok 4 rfl, rfl, a1.trans a5⟩, fun _ => ⟨(⟨⟨x0, x1, x2, x3⟩, x4, x5, x6, ⟨x7, x8, x9, x10⟩, ⟨x11, x12, x13, x14⟩⟩, y1.2), .refl, blq_ok 4 rfl, rfl, q0⟩⟩, fun _ => ⟨fun _ => ⟨b1.mono, (y6.1, y6.2), .refl, blq_ok 4 rfl, rfl, a1.trans a6⟩, fun _ => ⟨fun _ => ⟨fun _ => ⟨b1.mono, (⟨⟨x0, x1, x2, x3⟩, x4, x5, x6, ⟨x7, x8, x9, x10⟩, ⟨1 + y7.1, x12, x13, x14⟩⟩, y7.2), .refl, blq_ok 4 rfl, rfl, a1.trans a7⟩, fun _ => ⟨(⟨⟨x0, x1, x2, x3⟩, x4, x5, x6, ⟨x7, x8, x9, x10⟩, ⟨x11, x12, x13, x14⟩⟩, y1.2), .refl, blq_ok 4 rfl, rfl, q0⟩⟩, fun _ => ⟨(⟨⟨x0, x1, x2, x3⟩, x4, x5, x6, ⟨x7, x8, x9, x10⟩, ⟨x11, x12, x13, x14⟩⟩, y1.2), .refl, blq_ok 4 rfl, rfl, q0⟩⟩⟩⟩⟩⟩⟩
noncomputable def F_like (c : Cd) (x : Arm) (st : DS) : Arm × DS := drw Tryz.prog 83 90 40 enc_like (fun _ => True) c [.agg [.lit (.int .i64 (x).f.d), .lit (.int .i64 (x).f.l), .lit (.int .i64 (x).f.p), .lit (.int .i64 (x).f.q), .lit (.int .i64 (x).o), .lit (.int .i64 (x).l), .lit (.int .i64 (x).t), .lit (.int .i64 (x).n.c), .lit (.int .i64 (x).n.k), .lit (.int .i64 (x).n.a), .lit (.int .i64 (x).n.t), .lit (.int .i64 (x).r.c), .lit (.int .i64 (x).r.k), .lit (.int .i64 (x).r.a), .lit (.int .i64 (x).r.t)]] st
noncomputable def e_like (c : Cd) : Entry := curE 83 90 40 c fun H st a => match a with
  | [.agg [.lit (.int .i64 x0), .lit (.int .i64 x1), .lit (.int .i64 x2), .lit (.int .i64 x3), .lit (.int .i64 x4), .lit (.int .i64 x5), .lit (.int .i64 x6), .lit (.int .i64 x7), .lit (.int .i64 x8), .lit (.int .i64 x9), .lit (.int .i64 x10), .lit (.int .i64 x11), .lit (.int .i64 x12), .lit (.int .i64 x13), .lit (.int .i64 x14)]] => some (enc_like H (fun _ => (F_like c (⟨⟨x0, x1, x2, x3⟩, x4, x5, x6, ⟨x7, x8, x9, x10⟩, ⟨x11, x12, x13, x14⟩⟩ : Arm) st).1), (fun _ => (F_like c (⟨⟨x0, x1, x2, x3⟩, x4, x5, x6, ⟨x7, x8, x9, x10⟩, ⟨x11, x12, x13, x14⟩⟩ : Arm) st).2), [])
  | _ => none
theorem eok_like (c : Cd) : EntryOk Tryz.prog (e_like c) := curE_ok (by unfold isBody; kernel_rfl) (by
  intro st a r y ob e hb hob
  split at e
  · rename_i x0 x1 x2 x3 x4 x5 x6 x7 x8 x9 x10 x11 x12 x13 x14
    simp only [Option.some.injEq, Prod.mk.injEq] at e
    obtain ⟨rfl, rfl, rfl⟩ := e
    exact ⟨(drw_spec (x_like c (⟨⟨x0, x1, x2, x3⟩, x4, x5, x6, ⟨x7, x8, x9, x10⟩, ⟨x11, x12, x13, x14⟩⟩ : Arm) st hb)).1, (by intro x hx; simp only [List.mem_cons, List.not_mem_nil, or_false] at hx; rcases hx with rfl <;> (first | (first | exact .lit | exact blq_ok 4 rfl) | exact .vec (fun j hj x hx => by rw [hob.1 j hj] at hx; simp [vrow] at hx; subst hx; exact .lit))), (by unfold enc_like; (first | exact .lit | exact blq_ok 4 rfl))⟩
  · simp at e)
theorem p_like (c : Cd) (x : Arm) (st : DS) (h : Bd 40 st)  : Adv 40 st (F_like c x st).2 ∧ (fun _ => True) (F_like c x st).1 := (drw_spec (x_like c x st h )).2
end Go.Proofs.YtgjjedpoclhkfaaGreatDoor.AM

