/- Lemmas and contracts (Dsh); conditions: none. -/
import Derived.Test.YtbnohmfapmeaaaaGreatDoorK03
import Derived.Test.YtbnohmfapmeaaaaGreatDoorK13
import Derived.Test.YtbnohmfapmeaaaaGreatDoorK36
import Derived.Test.YtbnohmfapmeaaaaGreatDoorK37
set_option linter.unusedVariables false
set_option linter.unusedSimpArgs false
set_option maxRecDepth 100000
set_option maxHeartbeats 4000000
set_option cbv.maxSteps 3000000
namespace Go.Proofs.YtbnohmfapmeaaaaGreatDoor.AM
/- Valid shields are drawn, and their texts; conditions: none. -/
theorem vA_in {a : Arm} : okA a = true ↔ okF a.f = true ∧ (noG a.r || okG a.r) = true ∧ (if a.o = 0 then (a.l = 0 ∧ a.t = 0) ∧ noG a.n = true else (1 ≤ a.o ∧ a.o ≤ 7) ∧ (0 ≤ a.l ∧ a.l ≤ 4) ∧ (1 ≤ a.t ∧ a.t ≤ 9) ∧ (noG a.n || okG a.n) = true) := by
  unfold okA inB
  by_cases h : a.o = 0
  · simp [h, and_assoc]
  · simp [h, and_assoc]
theorem vA_F {a : Arm} {f : Fld} (h : okA a = true) (hf : okF f = true) : okA ⟨f, a.o, a.l, a.t, a.n, a.r⟩ = true := vA_in.2 ⟨hf, (vA_in.1 h).2⟩
theorem vA_R {a : Arm} {r : Grp} (h : okA a = true) (hr : (noG r || okG r) = true) : okA ⟨a.f, a.o, a.l, a.t, a.n, r⟩ = true := vA_in.2 ⟨(vA_in.1 h).1, hr, (vA_in.1 h).2.2⟩
theorem vA_T {a : Arm} {t : Int} (h : okA a = true) (h0 : 0 < a.o) (ht : 1 ≤ t ∧ t ≤ 9) : okA ⟨a.f, a.o, a.l, t, a.n, a.r⟩ = true := by
  obtain ⟨h1, h2, h3⟩ := vA_in.1 h
  refine vA_in.2 ⟨h1, h2, ?_⟩
  have h0 : ¬ a.o = 0 := by omega
  rw [if_neg h0] at h3 ⊢
  exact ⟨h3.1, h3.2.1, ht, h3.2.2.2⟩
theorem vA_O {a : Arm} {o : Int} (h : okA a = true) (h0 : 0 < a.o) (ho : 1 ≤ o ∧ o ≤ 7) : okA ⟨a.f, o, a.l, a.t, a.n, a.r⟩ = true := by
  obtain ⟨h1, h2, h3⟩ := vA_in.1 h
  refine vA_in.2 ⟨h1, h2, ?_⟩
  have h0 : ¬ a.o = 0 := by omega
  have h4 : ¬ o = 0 := by omega
  rw [if_neg h0] at h3
  show (if o = 0 then _ else _)
  rw [if_neg h4]
  exact ⟨ho, h3.2⟩
theorem vA_C {a : Arm} {k : Int} (h : okA a = true) (h0 : noG a.r = false) (hk : 1 ≤ k ∧ k ≤ 6) : okA ⟨a.f, a.o, a.l, a.t, a.n, ⟨k, a.r.k, a.r.a, a.r.t⟩⟩ = true := by
  refine vA_R h ?_
  have := (vA_in.1 h).2.1
  rw [h0, Bool.false_or] at this
  refine orG ?_
  unfold okG inB at *
  simp only [Bool.and_eq_true, decide_eq_true_eq] at *
  exact ⟨⟨hk, this.1.2⟩, this.2⟩
def r_likeV (n : Nat) (H : Hold) (y : Unit → Arm) : AV := aT rowA H fun _ => (y ())
def nb_likeV (H : Hold) (y : Unit → Arm) : List Blk := []
theorem x_likeV (c : Cd) (x : Arm) (st : DS) (h : Bd 40 st) (h0 : okA x = true) : ∃ y, DrwM Tryz.prog 107 158 40 r_likeV nb_likeV (fun y => okA y = true) c [aT rowA stdH fun _ => x] st y := by
  have hB : Base Tryz.prog (tabΓ [e_pick c, e_fieldV c, e_tincture c, e_group c, e_armsV c, e_l4None]) tab := base_of tabOk (ents_cons (eok_pick c) <| ents_cons (eok_fieldV c) <| ents_cons (eok_tincture c) <| ents_cons (eok_group c) <| ents_cons (eok_armsV c) <| ents_cons eok_l4None <| ents_nil)
  refine drwM_ok (N := 52) hB (draw_ok hB mixed) Tryz.func158 rfl rfl 107 40 r_likeV nb_likeV (fun y => okA y = true) c (fun H => [aT rowA H fun _ => x]) st 400 (by simp) (fun x hx => ?_) ?_
  · simp only [List.mem_cons, List.not_mem_nil, or_false] at hx; rcases hx with rfl
    · exact aT_bl okRA _ _
  intro H hH
  conv in finish _ _ _ _ _ _ _ _ => cbv
  simp only [Fin.sat0, AllP, and_true, true_and, ncast, Int.ofNat_eq_natCast, heta hH]
  obtain ⟨a1, m1, n1⟩ := p_pick c (7) st (Bd.mono (by assumption)); generalize F_pick c (7) st = y1 at *; have b1 : Bd 38 y1.2 := Adv.bd a1 (by assumption)
  obtain ⟨a2, k2⟩ := p_fieldV c y1.2 b1.mono
  generalize F_fieldV c y1.2 = y2 at *
  obtain ⟨a3, m3, n3⟩ := p_tincture c y1.2 b1.mono
  generalize F_tincture c y1.2 = y3 at *
  obtain ⟨a4, k4⟩ := p_group c y1.2 b1.mono
  generalize F_group c y1.2 = y4 at *
  have k4 := orG (grp_ok k4)
  obtain ⟨a5, m5, n5⟩ := p_pick c (7) y1.2 (Bd.mono (by assumption)); generalize F_pick c (7) y1.2 = y5 at *; have b5 : Bd 36 y5.2 := Adv.bd a5 (by assumption)
  obtain ⟨a6, k6⟩ := p_armsV c y1.2 b1.mono
  generalize F_armsV c y1.2 = y6 at *
  obtain ⟨a7, m7, n7⟩ := p_pick c (6) y1.2 (Bd.mono (by assumption)); generalize F_pick c (6) y1.2 = y7 at *; have b7 : Bd 36 y7.2 := Adv.bd a7 (by assumption)
  have w5 : IntKind.i64.wrap (1 + y5.1) = 1 + y5.1 := wi (by omega) (by omega)
  have w7 : IntKind.i64.wrap (1 + y7.1) = 1 + y7.1 := wi (by omega) (by omega)
  have q0 : Adv 40 st y1.2 := a1.le (by omega)
  refine ⟨?_, fun _ => ⟨?_, ?_⟩, fun _ => ⟨fun _ => ⟨fun h3 => ⟨?_, ?_⟩, fun _ => ?_⟩, fun _ => ⟨fun _ => ⟨?_, ?_⟩, fun _ => ⟨fun _ => ⟨fun h3 => ⟨?_, ?_⟩, fun _ => ?_⟩, fun _ => ⟨fun _ => ⟨?_, ?_⟩, fun _ => ⟨fun _ => ⟨fun h3 => ⟨?_, ?_⟩, fun _ => ?_⟩, fun _ => ?_⟩⟩⟩⟩⟩⟩
  · try simp only [hH, stdH, zql, zqa, zqb, zqc, zqd, peta, ncast, zqe, zqf, zqg, zqh, zqi, ne_eq, zqj, zqk, vrow_I, Arm.eta2, Fld.eta, Grp.eta]
    exact h.mono
  · try simp only [hH, stdH, zql, zqa, zqb, zqc, zqd, peta, ncast, zqe, zqf, zqg, zqh, zqi, ne_eq, zqj, zqk, vrow_I, Arm.eta2, Fld.eta, Grp.eta]
    exact b1.mono
  · refine ⟨((⟨y2.1, x.o, x.l, x.t, x.n, x.r⟩ : Arm), y2.2), a1.trans a2, vA_F h0 k2, ?_⟩
    (conv in matchEx _ _ _ _ _ _ _ => cbv); simp only [AllG, AllP, and_true, hH, stdH, zql, ncast, zqe, vrow_I, Arm.eta2, Fld.eta, Grp.eta]
    first | done | exact trivial | (repeat' (first | rfl | exact c.rqN | assumption | exact w5.symm | exact w7.symm | exact trivial | refine And.intro ?_ ?_))
  · try simp only [hH, stdH, zql, zqa, zqb, zqc, zqd, peta, ncast, zqe, zqf, zqg, zqh, zqi, ne_eq, zqj, zqk, vrow_I, Arm.eta2, Fld.eta, Grp.eta]
    exact b1.mono
  · simp only [hH, stdH, decide_eq_true_eq] at h3
    refine ⟨((⟨x.f, x.o, x.l, y3.1, x.n, x.r⟩ : Arm), y3.2), a1.trans a3, vA_T h0 h3 ⟨m3, n3⟩, ?_⟩
    (conv in matchEx _ _ _ _ _ _ _ => cbv); simp only [AllG, AllP, and_true, hH, stdH, zql, ncast, zqe, vrow_I, Arm.eta2, Fld.eta, Grp.eta]
    first | done | exact trivial | (repeat' (first | rfl | exact c.rqN | assumption | exact w5.symm | exact w7.symm | exact trivial | refine And.intro ?_ ?_))
  · refine ⟨(x, y1.2), q0, h0, ?_⟩
    (conv in matchEx _ _ _ _ _ _ _ => cbv); simp only [AllG, AllP, and_true, hH, stdH, zql, ncast, zqe, vrow_I, Arm.eta2, Fld.eta, Grp.eta]
    first | done | exact trivial | (repeat' (first | rfl | exact c.rqN | assumption | exact w5.symm | exact w7.symm | exact trivial | refine And.intro ?_ ?_))
  · try simp only [hH, stdH, zql, zqa, zqb, zqc, zqd, peta, ncast, zqe, zqf, zqg, zqh, zqi, ne_eq, zqj, zqk, vrow_I, Arm.eta2, Fld.eta, Grp.eta]
    exact b1.mono
  · refine ⟨((⟨x.f, x.o, x.l, x.t, x.n, y4.1⟩ : Arm), y4.2), a1.trans a4, vA_R h0 k4, ?_⟩
    (conv in matchEx _ _ _ _ _ _ _ => cbv); simp only [AllG, AllP, and_true, hH, stdH, zql, ncast, zqe, vrow_I, Arm.eta2, Fld.eta, Grp.eta]
    first | done | exact trivial | (repeat' (first | rfl | exact c.rqN | assumption | exact w5.symm | exact w7.symm | exact trivial | refine And.intro ?_ ?_))
  · try simp only [hH, stdH, zql, zqa, zqb, zqc, zqd, peta, ncast, zqe, zqf, zqg, zqh, zqi, ne_eq, zqj, zqk, vrow_I, Arm.eta2, Fld.eta, Grp.eta]
    exact b1.mono
  · simp only [hH, stdH, decide_eq_true_eq] at h3
    refine ⟨((⟨x.f, 1 + y5.1, x.l, x.t, x.n, x.r⟩ : Arm), y5.2), a1.trans a5, vA_O h0 h3 ⟨by omega, by omega⟩, ?_⟩
    (conv in matchEx _ _ _ _ _ _ _ => cbv); simp only [AllG, AllP, and_true, hH, stdH, zql, ncast, zqe, vrow_I, Arm.eta2, Fld.eta, Grp.eta]
    first | done | exact trivial | (repeat' (first | rfl | exact c.rqN | assumption | exact w5.symm | exact w7.symm | exact trivial | refine And.intro ?_ ?_))
  · refine ⟨(x, y1.2), q0, h0, ?_⟩
    (conv in matchEx _ _ _ _ _ _ _ => cbv); simp only [AllG, AllP, and_true, hH, stdH, zql, ncast, zqe, vrow_I, Arm.eta2, Fld.eta, Grp.eta]
    first | done | exact trivial | (repeat' (first | rfl | exact c.rqN | assumption | exact w5.symm | exact w7.symm | exact trivial | refine And.intro ?_ ?_))
  · try simp only [hH, stdH, zql, zqa, zqb, zqc, zqd, peta, ncast, zqe, zqf, zqg, zqh, zqi, ne_eq, zqj, zqk, vrow_I, Arm.eta2, Fld.eta, Grp.eta]
    exact b1.mono
  · refine ⟨(y6.1, y6.2), a1.trans a6, k6, ?_⟩
    (conv in matchEx _ _ _ _ _ _ _ => cbv); simp only [AllG, AllP, and_true, hH, stdH, zql, ncast, zqe, vrow_I, Arm.eta2, Fld.eta, Grp.eta]
    first | done | exact trivial | (repeat' (first | rfl | exact c.rqN | assumption | exact w5.symm | exact w7.symm | exact trivial | refine And.intro ?_ ?_))
  · try simp only [hH, stdH, zql, zqa, zqb, zqc, zqd, peta, ncast, zqe, zqf, zqg, zqh, zqi, ne_eq, zqj, zqk, vrow_I, Arm.eta2, Fld.eta, Grp.eta]
    exact b1.mono
  · simp only [hH, stdH, Bool.not_eq_true'] at h3
    refine ⟨((⟨x.f, x.o, x.l, x.t, x.n, ⟨1 + y7.1, x.r.k, x.r.a, x.r.t⟩⟩ : Arm), y7.2), a1.trans a7, vA_C h0 h3 ⟨by omega, by omega⟩, ?_⟩
    (conv in matchEx _ _ _ _ _ _ _ => cbv); simp only [AllG, AllP, and_true, hH, stdH, zql, ncast, zqe, vrow_I, Arm.eta2, Fld.eta, Grp.eta]
    first | done | exact trivial | (repeat' (first | rfl | exact c.rqN | assumption | exact w5.symm | exact w7.symm | exact trivial | refine And.intro ?_ ?_))
  · refine ⟨(x, y1.2), q0, h0, ?_⟩
    (conv in matchEx _ _ _ _ _ _ _ => cbv); simp only [AllG, AllP, and_true, hH, stdH, zql, ncast, zqe, vrow_I, Arm.eta2, Fld.eta, Grp.eta]
    first | done | exact trivial | (repeat' (first | rfl | exact c.rqN | assumption | exact w5.symm | exact w7.symm | exact trivial | refine And.intro ?_ ?_))
  · refine ⟨(x, y1.2), q0, h0, ?_⟩
    (conv in matchEx _ _ _ _ _ _ _ => cbv); simp only [AllG, AllP, and_true, hH, stdH, zql, ncast, zqe, vrow_I, Arm.eta2, Fld.eta, Grp.eta]
    first | done | exact trivial | (repeat' (first | rfl | exact c.rqN | assumption | exact w5.symm | exact w7.symm | exact trivial | refine And.intro ?_ ?_))
noncomputable def F_likeV (c : Cd) (x : Arm) (st : DS) : Arm × DS := drwM Tryz.prog 107 158 40 r_likeV nb_likeV (fun y => okA y = true) c [aT rowA stdH fun _ => x] st
noncomputable def e_likeV (c : Cd) : Entry := curEN 107 158 40 c fun H st a nx => match a with
  | [.agg [.lit (.int .i64 x0), .lit (.int .i64 x1), .lit (.int .i64 x2), .lit (.int .i64 x3), .lit (.int .i64 x4), .lit (.int .i64 x5), .lit (.int .i64 x6), .lit (.int .i64 x7), .lit (.int .i64 x8), .lit (.int .i64 x9), .lit (.int .i64 x10), .lit (.int .i64 x11), .lit (.int .i64 x12), .lit (.int .i64 x13), .lit (.int .i64 x14)]] => some (r_likeV nx H (fun _ => (F_likeV c (⟨⟨x0, x1, x2, x3⟩, x4, x5, x6, ⟨x7, x8, x9, x10⟩, ⟨x11, x12, x13, x14⟩⟩ : Arm) st).1), nb_likeV H (fun _ => (F_likeV c (⟨⟨x0, x1, x2, x3⟩, x4, x5, x6, ⟨x7, x8, x9, x10⟩, ⟨x11, x12, x13, x14⟩⟩ : Arm) st).1), (fun _ => (F_likeV c (⟨⟨x0, x1, x2, x3⟩, x4, x5, x6, ⟨x7, x8, x9, x10⟩, ⟨x11, x12, x13, x14⟩⟩ : Arm) st).2), [H Prop fun _ => okA (⟨⟨x0, x1, x2, x3⟩, x4, x5, x6, ⟨x7, x8, x9, x10⟩, ⟨x11, x12, x13, x14⟩⟩ : Arm) = true])
  | _ => none
theorem eok_likeV (c : Cd) : EntryOk Tryz.prog (e_likeV c) := curEN_ok (by unfold isBody; kernel_rfl) (by
  intro st a nx r nb y ob e hb hob
  split at e
  · rename_i x0 x1 x2 x3 x4 x5 x6 x7 x8 x9 x10 x11 x12 x13 x14
    simp only [Option.some.injEq, Prod.mk.injEq] at e
    obtain ⟨rfl, rfl, rfl, rfl⟩ := e
    have hd := drwM_spec (x_likeV c (⟨⟨x0, x1, x2, x3⟩, x4, x5, x6, ⟨x7, x8, x9, x10⟩, ⟨x11, x12, x13, x14⟩⟩ : Arm) st hb hob.1)
    refine ⟨_, _, ConN.args (.cons .rfl (.cons .rfl .nil)) hd.1, fun x hx => ?_, rfl, ?_, fun q b hq => ⟨b, hq, .same ?_⟩⟩
    · simp only [List.mem_cons, List.not_mem_nil, or_false] at hx
      rcases hx with rfl
      · exact blq_ok 4 rfl
    · (repeat' (first | exact .nil | exact .slc ⟨by omega, by simp [nb_likeV]⟩ (by omega) | exact .pl .lit | exact .pl (aT_bl okRA (fun _ => (F_likeV c (⟨⟨x0, x1, x2, x3⟩, x4, x5, x6, ⟨x7, x8, x9, x10⟩, ⟨x11, x12, x13, x14⟩⟩ : Arm) st).1) _) | apply ReL.cons | apply Re.aggL | apply Re.tupL))
    · replace hq := List.mem_of_getElem? hq
      simp [nb_likeV] at hq
  · simp at e)
theorem p_likeV (c : Cd) (x : Arm) (st : DS) (h : Bd 40 st) (h0 : okA x = true) : Adv 40 st (F_likeV c x st).2 ∧ (fun y => okA y = true) (F_likeV c x st).1 := (drwM_spec (x_likeV c x st h h0)).2
end Go.Proofs.YtbnohmfapmeaaaaGreatDoor.AM

