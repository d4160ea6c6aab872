/- Lemmas and contracts (Dsh); conditions: none. -/
import Derived.Test.YtgjjedpoclhkfaaGreatDoorK03
import Derived.Test.YtgjjedpoclhkfaaGreatDoorK13
import Derived.Test.YtgjjedpoclhkfaaGreatDoorK34
import Derived.Test.YtgjjedpoclhkfaaGreatDoorK36
set_option linter.unusedVariables false
set_option linter.unusedSimpArgs false
set_option maxRecDepth 100000
set_option maxHeartbeats 4000000
set_option cbv.maxSteps 3000000
namespace Go.Proofs.YtgjjedpoclhkfaaGreatDoor.AM
/- Valid shields are drawn, and their texts; conditions: none. -/
theorem vA_in {a : Arm} : okA a = true ↔ okF a.f = true ∧ (noG a.r || okG a.r) = true ∧ (if a.o = 0 then (a.l = 0 ∧ a.t = 0) ∧ noG a.n = true else (1 ≤ a.o ∧ a.o ≤ 7) ∧ (0 ≤ a.l ∧ a.l ≤ 4) ∧ (1 ≤ a.t ∧ a.t ≤ 9) ∧ (noG a.n || okG a.n) = true) := by
  unfold okA inB
  by_cases h : a.o = 0
  · simp [h, and_assoc]
  · simp [h, and_assoc]
theorem vA_F {a : Arm} {f : Fld} (h : okA a = true) (hf : okF f = true) : okA ⟨f, a.o, a.l, a.t, a.n, a.r⟩ = true := vA_in.2 ⟨hf, (vA_in.1 h).2⟩
theorem vA_R {a : Arm} {r : Grp} (h : okA a = true) (hr : (noG r || okG r) = true) : okA ⟨a.f, a.o, a.l, a.t, a.n, r⟩ = true := vA_in.2 ⟨(vA_in.1 h).1, hr, (vA_in.1 h).2.2⟩
theorem vA_T {a : Arm} {t : Int} (h : okA a = true) (h0 : 0 < a.o) (ht : 1 ≤ t ∧ t ≤ 9) : okA ⟨a.f, a.o, a.l, t, a.n, a.r⟩ = true := by
  obtain ⟨h1, h2, h3⟩ := vA_in.1 h
  refine vA_in.2 ⟨h1, h2, ?_⟩
  have h0 : ¬ a.o = 0 := by omega
  rw [if_neg h0] at h3 ⊢
  exact ⟨h3.1, h3.2.1, ht, h3.2.2.2⟩
theorem vA_O {a : Arm} {o : Int} (h : okA a = true) (h0 : 0 < a.o) (ho : 1 ≤ o ∧ o ≤ 7) : okA ⟨a.f, o, a.l, a.t, a.n, a.r⟩ = true := by
  obtain ⟨h1, h2, h3⟩ := vA_in.1 h
  refine vA_in.2 ⟨h1, h2, ?_⟩
  have h0 : ¬ a.o = 0 := by omega
  have h4 : ¬ o = 0 := by omega
  rw [if_neg h0] at h3
  show (if o = 0 then _ else _)
  rw [if_neg h4]
  exact ⟨ho, h3.2⟩
theorem vA_C {a : Arm} {k : Int} (h : okA a = true) (h0 : noG a.r = false) (hk : 1 ≤ k ∧ k ≤ 6) : okA ⟨a.f, a.o, a.l, a.t, a.n, ⟨k, a.r.k, a.r.a, a.r.t⟩⟩ = true := by
  refine vA_R h ?_
  have := (vA_in.1 h).2.1
  rw [h0, Bool.false_or] at this
  refine orG ?_
  unfold okG inB at *
  simp only [Bool.and_eq_true, decide_eq_true_eq] at *
  exact ⟨⟨hk, this.1.2⟩, this.2⟩
def r_likeV (n : Nat) (H : Hold) (y : Unit → Arm) : AV := aT rowA H fun _ => (y ())
def nb_likeV (H : Hold) (y : Unit → Arm) : List Blk := []
theorem x_likeV (c : Cd) (x : Arm) (st : DS) (h : Bd 40 st) (h0 : okA x = true) : ∃ y, DrwM Tryz.prog 83 90 40 r_likeV nb_likeV (fun y => okA y = true) c [aT rowA stdH fun _ => x] st y := by
  have hB : Base Tryz.prog (tabΓ [e_pick c, e_fieldV c, e_tincture c, e_group c, e_armsV c, e_l4None]) tab := base_of tabOk (ents_cons (eok_pick c) <| ents_cons (eok_fieldV c) <| ents_cons (eok_tincture c) <| ents_cons (eok_group c) <| ents_cons (eok_armsV c) <| ents_cons eok_l4None <| ents_nil)
  refine drwM_ok (N := 52) hB (draw_ok hB mixed) Tryz.func90 rfl rfl 83 40 r_likeV nb_likeV (fun y => okA y = true) c (fun H => [aT rowA H fun _ => x]) st 400 (by simp) (fun x hx => ?_) ?_
  · simp only [List.mem_cons, List.not_mem_nil, or_false] at hx; rcases hx with rfl
    · exact aT_bl okRA _ _
  intro H hH
  conv in finish _ _ _ _ _ _ _ _ => cbv
  simp only [Fin.sat0, AllP, and_true, true_and, ncast, Int.ofNat_eq_natCast, heta hH]
  obtain ⟨a1, m1, n1⟩ := p_pick c (7) st (Bd.mono (by assumption)); generalize F_pick c (7) st = y1 at *; have b1 : Bd 38 y1.2 := Adv.bd a1 (by assumption)
  obtain ⟨a2, k2⟩ := p_fieldV c y1.2 b1.mono
  generalize F_fieldV c y1.2 = y2 at *
  obtain ⟨a3, m3, n3⟩ := p_tincture c y1.2 b1.mono
  generalize F_tincture c y1.2 = y3 at *
  obtain ⟨a4, k4⟩ := p_group c y1.2 b1.mono
  generalize F_group c y1.2 = y4 at *
  have k4 := orG (grp_ok k4)
  obtain ⟨a5, m5, n5⟩ := p_pick c (7) y1.2 (Bd.mono (by assumption)); generalize F_pick c (7) y1.2 = y5 at *; have b5 : Bd 36 y5.2 := Adv.bd a5 (by assumption)
  obtain ⟨a6, k6⟩ := p_armsV c y1.2 b1.mono
  generalize F_armsV c y1.2 = y6 at *
  obtain ⟨a7, m7, n7⟩ := p_pick c (6) y1.2 (Bd.mono (by assumption)); generalize F_pick c (6) y1.2 = y7 at *; have b7 : Bd 36 y7.2 := Adv.bd a7 (by assumption)
  have w5 : IntKind.i64.wrap (1 + y5.1) = 1 + y5.1 := wi (by omega) (by omega)
  have w7 : IntKind.i64.wrap (1 + y7.1) = 1 + y7.1 := wi (by omega) (by omega)
  have q0 : Adv 40 st y1.2 := a1.le (by omega)
  refine ⟨?_, fun _ => ⟨?_, ?_⟩, fun _ => ⟨fun _ => ⟨fun h3 => ⟨?_, ?_⟩, fun _ => ?_⟩, fun _ => ⟨fun _ => ⟨?_, ?_⟩, fun _ => ⟨fun _ => ⟨fun h3 => ⟨?_, ?_⟩, fun _ => ?_⟩, fun _ => ⟨fun _ => ⟨?_, ?_⟩, fun _ => ⟨fun _ => ⟨fun h3 => ⟨?_, ?_⟩, fun _ => ?_⟩, fun _ => ?_⟩⟩⟩⟩⟩⟩
  · try simp only [hH, stdH, Nat.le_refl, decide_eq_true_eq, decide_eq_false_iff_not, Bool.not_eq_true', Bool.not_eq_false', peta, ncast, Int.ofNat_eq_natCast, beq_iff_eq, bne_iff_ne, beq_eq_false_iff_ne, bne_eq_false_iff_eq, ne_eq, Classical.not_not, Int.toNat_natCast, vrow_I, Arm.eta2, Fld.eta, Grp.eta]
    exact h.mono
  · try simp only [hH, stdH, Nat.le_refl, decide_eq_true_eq, decide_eq_false_iff_not, Bool.not_eq_true', Bool.not_eq_false', peta, ncast, Int.ofNat_eq_natCast, beq_iff_eq, bne_iff_ne, beq_eq_false_iff_ne, bne_eq_false_iff_eq, ne_eq, Classical.not_not, Int.toNat_natCast, vrow_I, Arm.eta2, Fld.eta, Grp.eta]
    exact b1.mono
  · refine ⟨((⟨y2.1, x.o, x.l, x.t, x.n, x.r⟩ : Arm), y2.2), a1.trans a2, vA_F h0 k2, ?_⟩
    (conv in matchEx _ _ _ _ _ _ _ => cbv); simp only [AllG, AllP, and_true, hH, stdH, Nat.le_refl, ncast, Int.ofNat_eq_natCast, vrow_I, Arm.eta2, Fld.eta, Grp.eta]
    first | done | exact trivial | (repeat' (first | rfl | exact c.rqN | assumption | exact w5.symm | exact w7.symm | exact trivial | refine And.intro ?_ ?_))
  · try simp only [hH, stdH, Nat.le_refl, decide_eq_true_eq, decide_eq_false_iff_not, Bool.not_eq_true', Bool.not_eq_false', peta, ncast, Int.ofNat_eq_natCast, beq_iff_eq, bne_iff_ne, beq_eq_false_iff_ne, bne_eq_false_iff_eq, ne_eq, Classical.not_not, Int.toNat_natCast, vrow_I, Arm.eta2, Fld.eta, Grp.eta]
    exact b1.mono
  · simp only [hH, stdH, decide_eq_true_eq] at h3
    refine ⟨((⟨x.f, x.o, x.l, y3.1, x.n, x.r⟩ : Arm), y3.2), a1.trans a3, vA_T h0 h3 ⟨m3, n3⟩, ?_⟩
    (conv in matchEx _ _ _ _ _ _ _ => cbv); simp only [AllG, AllP, and_true, hH, stdH, Nat.le_refl, ncast, Int.ofNat_eq_natCast, vrow_I, Arm.eta2, Fld.eta, Grp.eta]
    first | done | exact trivial | (repeat' (first | rfl | exact c.rqN | assumption | exact w5.symm | exact w7.symm | exact trivial | refine And.intro ?_ ?_))
  · refine ⟨(x, y1.2), q0, h0, ?_⟩
    (conv in matchEx _ _ _ _ _ _ _ => cbv); simp only [AllG, AllP, and_true, hH, stdH, Nat.le_refl, ncast, Int.ofNat_eq_natCast, vrow_I, Arm.eta2, Fld.eta, Grp.eta]
    first | done | exact trivial | (repeat' (first | rfl | exact c.rqN | assumption | exact w5.symm | exact w7.symm | exact trivial | refine And.intro ?_ ?_))
  · try simp only [hH, stdH, Nat.le_refl, decide_eq_true_eq, decide_eq_false_iff_not, Bool.not_eq_true', Bool.not_eq_false', peta, ncast, Int.ofNat_eq_natCast, beq_iff_eq, bne_iff_ne, beq_eq_false_iff_ne, bne_eq_false_iff_eq, ne_eq, Classical.not_not, Int.toNat_natCast, vrow_I, Arm.eta2, Fld.eta, Grp.eta]
    exact b1.mono
  · refine ⟨((⟨x.f, x.o, x.l, x.t, x.n, y4.1⟩ : Arm), y4.2), a1.trans a4, vA_R h0 k4, ?_⟩
    (conv in matchEx _ _ _ _ _ _ _ => cbv); simp only [AllG, AllP, and_true, hH, stdH, Nat.le_refl, ncast, Int.ofNat_eq_natCast, vrow_I, Arm.eta2, Fld.eta, Grp.eta]
    first | done | exact trivial | (repeat' (first | rfl | exact c.rqN | assumption | exact w5.symm | exact w7.symm | exact trivial | refine And.intro ?_ ?_))
  · try simp only [hH, stdH, Nat.le_refl, decide_eq_true_eq, decide_eq_false_iff_not, Bool.not_eq_true', Bool.not_eq_false', peta, ncast, Int.ofNat_eq_natCast, beq_iff_eq, bne_iff_ne, beq_eq_false_iff_ne, bne_eq_false_iff_eq, ne_eq, Classical.not_not, Int.toNat_natCast, vrow_I, Arm.eta2, Fld.eta, Grp.eta]
    exact b1.mono
  · simp only [hH, stdH, decide_eq_true_eq] at h3
    refine ⟨((⟨x.f, 1 + y5.1, x.l, x.t, x.n, x.r⟩ : Arm), y5.2), a1.trans a5, vA_O h0 h3 ⟨by omega, by omega⟩, ?_⟩
    (conv in matchEx _ _ _ _ _ _ _ => cbv); simp only [AllG, AllP, and_true, hH, stdH, Nat.le_refl, ncast, Int.ofNat_eq_natCast, vrow_I, Arm.eta2, Fld.eta, Grp.eta]
    first | done | exact trivial | (repeat' (first | rfl | exact c.rqN | assumption | exact w5.symm | exact w7.symm | exact trivial | refine And.intro ?_ ?_))
  · refine ⟨(x, y1.2), q0, h0, ?_⟩
    (conv in matchEx _ _ _ _ _ _ _ => cbv); simp only [AllG, AllP, and_true, hH, stdH, Nat.le_refl, ncast, Int.ofNat_eq_natCast, vrow_I, Arm.eta2, Fld.eta, Grp.eta]
    first | done | exact trivial | (repeat' (first | rfl | exact c.rqN | assumption | exact w5.symm | exact w7.symm | exact trivial | refine And.intro ?_ ?_))
  · try simp only [hH, stdH, Nat.le_refl, decide_eq_true_eq, decide_eq_false_iff_not, Bool.not_eq_true', Bool.not_eq_false', peta, ncast, Int.ofNat_eq_natCast, beq_iff_eq, bne_iff_ne, beq_eq_false_iff_ne, bne_eq_false_iff_eq, ne_eq, Classical.not_not, Int.toNat_natCast, vrow_I, Arm.eta2, Fld.eta, Grp.eta]
    exact b1.mono
  · refine ⟨(y6.1, y6.2), a1.trans a6, k6, ?_⟩
    (conv in matchEx _ _ _ _ _ _ _ => cbv); simp only [AllG, AllP, and_true, hH, stdH, Nat.le_refl, ncast, Int.ofNat_eq_natCast, vrow_I, Arm.eta2, Fld.eta, Grp.eta]
    first | done | exact trivial | (repeat' (first | rfl | exact c.rqN | assumption | exact w5.symm | exact w7.symm | exact trivial | refine And.intro ?_ ?_))
  · try simp only [hH, stdH, Nat.le_refl, decide_eq_true_eq, decide_eq_false_iff_not, Bool.not_eq_true', Bool.not_eq_false', peta, ncast, Int.ofNat_eq_natCast, beq_iff_eq, bne_iff_ne, beq_eq_false_iff_ne, bne_eq_false_iff_eq, ne_eq, Classical.not_not, Int.toNat_natCast, vrow_I, Arm.eta2, Fld.eta, Grp.eta]
    exact b1.mono
  · simp only [hH, stdH, Bool.not_eq_true'] at h3
    refine ⟨((⟨x.f, x.o, x.l, x.t, x.n, ⟨1 + y7.1, x.r.k, x.r.a, x.r.t⟩⟩ : Arm), y7.2), a1.trans a7, vA_C h0 h3 ⟨by omega, by omega⟩, ?_⟩
    (conv in matchEx _ _ _ _ _ _ _ => cbv); simp only [AllG, AllP, and_true, hH, stdH, Nat.le_refl, ncast, Int.ofNat_eq_natCast, vrow_I, Arm.eta2, Fld.eta, Grp.eta]
    first | done | exact trivial | (repeat' (first | rfl | exact c.rqN | assumption | exact w5.symm | exact w7.symm | exact trivial | refine And.intro ?_ ?_))
  · refine ⟨(x, y1.2), q0, h0, ?_⟩
    (conv in matchEx _ _ _ _ _ _ _ => cbv); simp only [AllG, AllP, and_true, hH, stdH, Nat.le_refl, ncast, Int.ofNat_eq_natCast, vrow_I, Arm.eta2, Fld.eta, Grp.eta]
    first | done | exact trivial | (repeat' (first | rfl | exact c.rqN | assumption | exact w5.symm | exact w7.symm | exact trivial | refine And.intro ?_ ?_))
  · refine ⟨(x, y1.2), q0, h0, ?_⟩
    (conv in matchEx _ _ _ _ _ _ _ => cbv); simp only [AllG, AllP, and_true, hH, stdH, Nat.le_refl, ncast, Int.ofNat_eq_natCast, vrow_I, Arm.eta2, Fld.eta, Grp.eta]
    first | done | exact trivial | (repeat' (first | rfl | exact c.rqN | assumption | exact w5.symm | exact w7.symm | exact trivial | refine And.intro ?_ ?_))
noncomputable def F_likeV (c : Cd) (x : Arm) (st : DS) : Arm × DS := drwM Tryz.prog 83 90 40 r_likeV nb_likeV (fun y => okA y = true) c [aT rowA stdH fun _ => x] st
noncomputable def e_likeV (c : Cd) : Entry := curEN 83 90 40 c fun H st a nx => match a with
  | [.agg [.lit (.int .i64 x0), .lit (.int .i64 x1), .lit (.int .i64 x2), .lit (.int .i64 x3), .lit (.int .i64 x4), .lit (.int .i64 x5), .lit (.int .i64 x6), .lit (.int .i64 x7), .lit (.int .i64 x8), .lit (.int .i64 x9), .lit (.int .i64 x10), .lit (.int .i64 x11), .lit (.int .i64 x12), .lit (.int .i64 x13), .lit (.int .i64 x14)]] => some (r_likeV nx H (fun _ => (F_likeV c (⟨⟨x0, x1, x2, x3⟩, x4, x5, x6, ⟨x7, x8, x9, x10⟩, ⟨x11, x12, x13, x14⟩⟩ : Arm) st).1), nb_likeV H (fun _ => (F_likeV c (⟨⟨x0, x1, x2, x3⟩, x4, x5, x6, ⟨x7, x8, x9, x10⟩, ⟨x11, x12, x13, x14⟩⟩ : Arm) st).1), (fun _ => (F_likeV c (⟨⟨x0, x1, x2, x3⟩, x4, x5, x6, ⟨x7, x8, x9, x10⟩, ⟨x11, x12, x13, x14⟩⟩ : Arm) st).2), [H Prop fun _ => okA (⟨⟨x0, x1, x2, x3⟩, x4, x5, x6, ⟨x7, x8, x9, x10⟩, ⟨x11, x12, x13, x14⟩⟩ : Arm) = true])
  | _ => none
theorem eok_likeV (c : Cd) : EntryOk Tryz.prog (e_likeV c) := curEN_ok (by unfold isBody; kernel_rfl) (by
  intro st a nx r nb y ob e hb hob
  split at e
  · rename_i x0 x1 x2 x3 x4 x5 x6 x7 x8 x9 x10 x11 x12 x13 x14
    simp only [Option.some.injEq, Prod.mk.injEq] at e
    obtain ⟨rfl, rfl, rfl, rfl⟩ := e
    have hd := drwM_spec (x_likeV c (⟨⟨x0, x1, x2, x3⟩, x4, x5, x6, ⟨x7, x8, x9, x10⟩, ⟨x11, x12, x13, x14⟩⟩ : Arm) st hb hob.1)
    refine ⟨_, _, ConN.args (.cons .rfl (.cons .rfl .nil)) hd.1, fun x hx => ?_, rfl, ?_, fun q b hq => ⟨b, hq, .same ?_⟩⟩
    · simp only [List.mem_cons, List.not_mem_nil, or_false] at hx
      rcases hx with rfl
      · exact blq_ok 4 rfl
    · (repeat' (first | exact .nil | exact .slc ⟨by omega, by simp [nb_likeV]⟩ (by omega) | exact .pl .lit | exact .pl (aT_bl okRA (fun _ => (F_likeV c (⟨⟨x0, x1, x2, x3⟩, x4, x5, x6, ⟨x7, x8, x9, x10⟩, ⟨x11, x12, x13, x14⟩⟩ : Arm) st).1) _) | apply ReL.cons | apply Re.aggL | apply Re.tupL))
    · replace hq := List.mem_of_getElem? hq
      simp [nb_likeV] at hq
  · simp at e)
theorem p_likeV (c : Cd) (x : Arm) (st : DS) (h : Bd 40 st) (h0 : okA x = true) : Adv 40 st (F_likeV c x st).2 ∧ (fun y => okA y = true) (F_likeV c x st).1 := (drwM_spec (x_likeV c x st h h0)).2
theorem okH_1 {a : Arm} (h : okA a = true) : okH ⟨1, [a]⟩ = true := by simp [okH, inB, cntH, h]
theorem okH_2 {a b : Arm} (h : okA a = true) (k : okA b = true) : okH ⟨2, [a, b]⟩ = true := by simp [okH, inB, cntH, h, k]
theorem okH_4 {a b d e : Arm} (h : okA a = true) (k : okA b = true) (l : okA d = true) (m : okA e = true) : okH ⟨3, [a, b, d, e]⟩ = true := by simp [okH, inB, cntH, h, k, l, m]
def r_shieldV (n : Nat) (H : Hold) (y : Unit → Shd) : AV := .agg [.lit (.int .i64 (H Int fun _ => (y ()).mode)), .slc n 0 15 (H Nat fun _ => ((y ()).parts).length)]
def nb_shieldV (H : Hold) (y : Unit → Shd) : List Blk := [.rows 15 (H Nat fun _ => ((y ()).parts).length) (rowsA H fun _ => (y ()).parts) 53]
theorem x_shieldV (c : Cd)  (st : DS) (h : Bd 158 st)  : ∃ y, DrwM Tryz.prog 83 46 158 r_shieldV nb_shieldV (fun y => okH y = true) c [] st y := by
  have hB : Base Tryz.prog (tabΓ [e_armsV c, e_pick c, e_likeV c]) tabA := base_of tabOkA (ents_cons (eok_armsV c) <| ents_cons (eok_pick c) <| ents_cons (eok_likeV c) <| ents_nil)
  refine drwM_ok (N := 62) hB (draw_ok hB mixed) Tryz.func46 rfl rfl 83 158 r_shieldV nb_shieldV (fun y => okH y = true) c (fun H => []) st 400 (by simp) (fun x hx => ?_) ?_
  · cases hx
  intro H hH
  conv in finish _ _ _ _ _ _ _ _ => cbv
  simp only [Fin.sat0, AllP, and_true, true_and, ncast, Int.ofNat_eq_natCast, heta hH]
  simp only [hetaA hH, heta hH]
  obtain ⟨a1, k1⟩ := p_armsV c st h.mono
  generalize F_armsV c st = y1 at *
  have b1 : Bd 120 y1.2 := a1.bd h
  obtain ⟨a2, k2⟩ := p_armsV c y1.2 b1.mono
  generalize F_armsV c y1.2 = y2 at *
  have b2 : Bd 82 y2.2 := a2.bd b1
  have a3 := (p_pick c 7 y2.2 (Bd.mono (by assumption))).1; generalize F_pick c 7 y2.2 = y3 at *; have b3 : Bd 80 y3.2 := a3.bd (by assumption)
  obtain ⟨a4, k4⟩ := p_likeV c y1.1 y3.2 b3.mono k1
  generalize F_likeV c y1.1 y3.2 = y4 at *
  have b4 : Bd 40 y4.2 := a4.bd b3
  obtain ⟨a5, k5⟩ := p_likeV c y2.1 y4.2 b4.mono k2
  generalize F_likeV c y2.1 y4.2 = y5 at *
  have a15 : Adv 158 st y5.2 := ((((a1.t a2).t a3).t a4).t a5).le (by decide)
  have a13 : Adv 158 st y3.2 := ((a1.t a2).t a3).le (by decide)
  refine ⟨?_, ?_, ?_, fun _ => ?_, fun _ => ⟨fun _ => ?_, fun _ => ⟨fun _ => ?_, fun _ => ⟨fun _ => ?_, fun _ => ⟨fun _ => ?_, fun _ => ⟨fun _ => ?_, fun _ => ⟨⟨?_, ?_⟩, ⟨?_, ?_⟩, ?_⟩⟩⟩⟩⟩⟩⟩
  · try simp only [hH, stdH, Nat.le_refl, decide_eq_true_eq, decide_eq_false_iff_not, Bool.not_eq_true', Bool.not_eq_false', peta, ncast, Int.ofNat_eq_natCast, beq_iff_eq, bne_iff_ne, beq_eq_false_iff_ne, bne_eq_false_iff_eq, ne_eq, Classical.not_not, Int.toNat_natCast, vrow_I, Arm.eta2, Fld.eta, Grp.eta]
    exact h.mono
  · try simp only [hH, stdH, Nat.le_refl, decide_eq_true_eq, decide_eq_false_iff_not, Bool.not_eq_true', Bool.not_eq_false', peta, ncast, Int.ofNat_eq_natCast, beq_iff_eq, bne_iff_ne, beq_eq_false_iff_ne, bne_eq_false_iff_eq, ne_eq, Classical.not_not, Int.toNat_natCast, vrow_I, Arm.eta2, Fld.eta, Grp.eta]
    exact b1.mono
  · try simp only [hH, stdH, Nat.le_refl, decide_eq_true_eq, decide_eq_false_iff_not, Bool.not_eq_true', Bool.not_eq_false', peta, ncast, Int.ofNat_eq_natCast, beq_iff_eq, bne_iff_ne, beq_eq_false_iff_ne, bne_eq_false_iff_eq, ne_eq, Classical.not_not, Int.toNat_natCast, vrow_I, Arm.eta2, Fld.eta, Grp.eta]
    exact b2.mono
  · refine ⟨(⟨1, [y1.1]⟩, y3.2), a13, okH_1 k1, ?_⟩
    (conv in matchEx _ _ _ _ _ _ _ => cbv); simp only [AllG, AllP, and_true, hH, stdH, Nat.le_refl, ncast, Int.ofNat_eq_natCast, vrow_I, Arm.eta2, Fld.eta, Grp.eta]
    (repeat' (first | with_reducible exact True.intro | exact c.rqN | exact RowsEq.lit okRA rfl rfl | rfl | refine And.intro ?_ ?_ | trivial))
  · refine ⟨(⟨2, [y1.1, y2.1]⟩, y3.2), a13, okH_2 k1 k2, ?_⟩
    (conv in matchEx _ _ _ _ _ _ _ => cbv); simp only [AllG, AllP, and_true, hH, stdH, Nat.le_refl, ncast, Int.ofNat_eq_natCast, vrow_I, Arm.eta2, Fld.eta, Grp.eta]
    (repeat' (first | with_reducible exact True.intro | exact c.rqN | exact RowsEq.lit okRA rfl rfl | rfl | refine And.intro ?_ ?_ | trivial))
  · refine ⟨(⟨3, [y1.1, y2.1, y2.1, y1.1]⟩, y3.2), a13, okH_4 k1 k2 k2 k1, ?_⟩
    (conv in matchEx _ _ _ _ _ _ _ => cbv); simp only [AllG, AllP, and_true, hH, stdH, Nat.le_refl, ncast, Int.ofNat_eq_natCast, vrow_I, Arm.eta2, Fld.eta, Grp.eta]
    (repeat' (first | with_reducible exact True.intro | exact c.rqN | exact RowsEq.lit okRA rfl rfl | rfl | refine And.intro ?_ ?_ | trivial))
  · refine ⟨(⟨3, [y1.1, y2.1, y1.1, y2.1]⟩, y3.2), a13, okH_4 k1 k2 k1 k2, ?_⟩
    (conv in matchEx _ _ _ _ _ _ _ => cbv); simp only [AllG, AllP, and_true, hH, stdH, Nat.le_refl, ncast, Int.ofNat_eq_natCast, vrow_I, Arm.eta2, Fld.eta, Grp.eta]
    (repeat' (first | with_reducible exact True.intro | exact c.rqN | exact RowsEq.lit okRA rfl rfl | rfl | refine And.intro ?_ ?_ | trivial))
  · refine ⟨(⟨3, [y1.1, y1.1, y1.1, y1.1]⟩, y3.2), a13, okH_4 k1 k1 k1 k1, ?_⟩
    (conv in matchEx _ _ _ _ _ _ _ => cbv); simp only [AllG, AllP, and_true, hH, stdH, Nat.le_refl, ncast, Int.ofNat_eq_natCast, vrow_I, Arm.eta2, Fld.eta, Grp.eta]
    (repeat' (first | with_reducible exact True.intro | exact c.rqN | exact RowsEq.lit okRA rfl rfl | rfl | refine And.intro ?_ ?_ | trivial))
  · refine ⟨(⟨2, [y1.1, y1.1]⟩, y3.2), a13, okH_2 k1 k1, ?_⟩
    (conv in matchEx _ _ _ _ _ _ _ => cbv); simp only [AllG, AllP, and_true, hH, stdH, Nat.le_refl, ncast, Int.ofNat_eq_natCast, vrow_I, Arm.eta2, Fld.eta, Grp.eta]
    (repeat' (first | with_reducible exact True.intro | exact c.rqN | exact RowsEq.lit okRA rfl rfl | rfl | refine And.intro ?_ ?_ | trivial))
  · try simp only [hH, stdH, Nat.le_refl, decide_eq_true_eq, decide_eq_false_iff_not, Bool.not_eq_true', Bool.not_eq_false', peta, ncast, Int.ofNat_eq_natCast, beq_iff_eq, bne_iff_ne, beq_eq_false_iff_ne, bne_eq_false_iff_eq, ne_eq, Classical.not_not, Int.toNat_natCast, vrow_I, Arm.eta2, Fld.eta, Grp.eta]
    exact b3.mono
  · try simp only [hH, stdH, Nat.le_refl, decide_eq_true_eq, decide_eq_false_iff_not, Bool.not_eq_true', Bool.not_eq_false', peta, ncast, Int.ofNat_eq_natCast, beq_iff_eq, bne_iff_ne, beq_eq_false_iff_ne, bne_eq_false_iff_eq, ne_eq, Classical.not_not, Int.toNat_natCast, vrow_I, Arm.eta2, Fld.eta, Grp.eta]
    exact k1
  · try simp only [hH, stdH, Nat.le_refl, decide_eq_true_eq, decide_eq_false_iff_not, Bool.not_eq_true', Bool.not_eq_false', peta, ncast, Int.ofNat_eq_natCast, beq_iff_eq, bne_iff_ne, beq_eq_false_iff_ne, bne_eq_false_iff_eq, ne_eq, Classical.not_not, Int.toNat_natCast, vrow_I, Arm.eta2, Fld.eta, Grp.eta]
    exact b4.mono
  · try simp only [hH, stdH, Nat.le_refl, decide_eq_true_eq, decide_eq_false_iff_not, Bool.not_eq_true', Bool.not_eq_false', peta, ncast, Int.ofNat_eq_natCast, beq_iff_eq, bne_iff_ne, beq_eq_false_iff_ne, bne_eq_false_iff_eq, ne_eq, Classical.not_not, Int.toNat_natCast, vrow_I, Arm.eta2, Fld.eta, Grp.eta]
    exact k2
  · refine ⟨(⟨3, [y1.1, y2.1, y4.1, y5.1]⟩, y5.2), a15, okH_4 k1 k2 k4 k5, ?_⟩
    (conv in matchEx _ _ _ _ _ _ _ => cbv); simp only [AllG, AllP, and_true, hH, stdH, Nat.le_refl, ncast, Int.ofNat_eq_natCast, vrow_I, Arm.eta2, Fld.eta, Grp.eta]
    (repeat' (first | with_reducible exact True.intro | exact c.rqN | exact RowsEq.lit okRA rfl rfl | rfl | refine And.intro ?_ ?_ | trivial))
noncomputable def F_shieldV (c : Cd)  (st : DS) : Shd × DS := drwM Tryz.prog 83 46 158 r_shieldV nb_shieldV (fun y => okH y = true) c [] st
noncomputable def e_shieldV (c : Cd) : Entry := curEN 83 46 158 c fun H st a nx => match a with
  | [] => some (r_shieldV nx H (fun _ => (F_shieldV c  st).1), nb_shieldV H (fun _ => (F_shieldV c  st).1), (fun _ => (F_shieldV c  st).2), [])
  | _ => none
theorem eok_shieldV (c : Cd) : EntryOk Tryz.prog (e_shieldV c) := curEN_ok (by unfold isBody; kernel_rfl) (by
  intro st a nx r nb y ob e hb hob
  split at e
  · simp only [Option.some.injEq, Prod.mk.injEq] at e
    obtain ⟨rfl, rfl, rfl, rfl⟩ := e
    have hd := drwM_spec (x_shieldV c  st hb )
    refine ⟨_, _, ConN.args (.cons .rfl .nil) hd.1, fun x hx => ?_, rfl, ?_, fun q b hq => ⟨b, hq, .same ?_⟩⟩
    · cases hx
    · (repeat' (first | exact .nil | exact .slc ⟨by omega, by simp [nb_shieldV]⟩ (by omega) | exact .pl .lit | apply ReL.cons | apply Re.aggL | apply Re.tupL))
    · replace hq := List.mem_of_getElem? hq
      simp only [nb_shieldV, List.mem_cons, List.not_mem_nil, or_false] at hq; subst hq; exact bT_bl okRA _ (fun _ => (F_shieldV c  st).1.parts) _
  · simp at e)
theorem p_shieldV (c : Cd)  (st : DS) (h : Bd 158 st)  : Adv 158 st (F_shieldV c  st).2 ∧ (fun y => okH y = true) (F_shieldV c  st).1 := (drwM_spec (x_shieldV c  st h )).2
theorem shT_sz {s : Shd} (h : okH s = true) : (shT s).size ≤ 24011 := by
  obtain ⟨g1, g2, g3⟩ := okH_inQ h
  have a0 := armT_sz (s.parts.getD 0 default)
  have a1 := armT_sz (s.parts.getD 1 default)
  by_cases h1 : s.mode = 1
  · rw [show shT s = armT (s.parts.getD 0 default) from if_pos h1]; omega
  · by_cases h2 : s.mode = 2
    · rw [show shT s = (⟨⟨[105, 109, 112, 97, 108, 101, 100, 58, 32, 49, 58, 32]⟩⟩ : ByteArray) ++ (armT (s.parts.getD 0 default) ++ ((⟨⟨[59, 32, 50, 58, 32]⟩⟩ : ByteArray) ++ armT (s.parts.getD 1 default))) from (if_neg h1).trans (if_pos h2)]
      simp only [ByteArray.size_append, bsz, List.length_cons, List.length_nil]
      omega
    · have g3' : s.mode = 3 := by omega
      rw [g3'] at g2
      have g2 : (s.parts.length : Int) = 4 := g2
      have hF := fs1_len s.parts s.parts.length
      have e : shT s = shK s.parts (fs1 s.parts s.parts.length) (fs1 s.parts s.parts.length).length := by
        unfold shK
        rw [List.take_length]
        exact (if_neg h1).trans (if_neg h2)
      rw [e]
      have := shK_sz (l := s.parts) (F := fs1 s.parts s.parts.length) (by omega) (fs1 s.parts s.parts.length).length
      omega
def r_DrawParseShield (n : Nat) (H : Hold) (y : Unit → ByteArray) : AV := .lit (.string (H ByteArray fun _ => (y ())))
def nb_DrawParseShield (H : Hold) (y : Unit → ByteArray) : List Blk := []
theorem x_DrawParseShield (c : Cd) : ∃ y, DrfM Tryz.prog 18 r_DrawParseShield nb_DrawParseShield (fun y => y.size ≤ 60000) c y := by
  have hB : Base Tryz.prog (tabΓ [e_shieldV c, e_l20Text, e_one c, e_spoilt c]) tab := base_of tabOk (ents_cons (eok_shieldV c) <| ents_cons eok_l20Text <| ents_cons (eok_one c) <| ents_cons (eok_spoilt c) <| ents_nil)
  refine drfM_ok (N := 17) hB (draw_ok hB mixed) Tryz.func18 rfl rfl r_DrawParseShield nb_DrawParseShield (fun y => y.size ≤ 60000) c 200 (by simp) ?_
  intro H hH
  conv in finish _ _ _ _ _ _ _ _ => cbv
  simp only [Fin.sat0, AllP, and_true, true_and, ncast, Int.ofNat_eq_natCast, heta hH]
  have h : Bd 312 (0, 0) := ⟨by decide, by decide⟩
  obtain ⟨a1, m1⟩ := p_shieldV c (0, 0) (Bd.mono (by assumption))
  generalize F_shieldV c (0, 0) = y1 at *
  have b1 : Bd 154 y1.2 := a1.bd h
  simp only [TlA_HS hH]
  obtain ⟨⟨mo, pa⟩, st1⟩ := y1
  dsimp only at *
  have hz := shT_sz m1
  have a2 := (p_one c 4 st1 (Bd.mono (by assumption))).1; generalize F_one c 4 st1 = y2 at *; have b2 : Bd 152 y2.2 := a2.bd (by assumption)
  obtain ⟨a3, q3⟩ := p_spoilt c (shT ⟨mo, pa⟩) (⟨⟨[49, 58, 32, 97, 110, 100, 59]⟩⟩ : ByteArray) y2.2 b2.mono (by omega) (by decide) (by decide)
  refine ⟨?_, ⟨?_, ?_, ?_⟩, ?_, fun _ => ⟨?_, ?_⟩, fun _ => ?_⟩
  · try simp only [hH, stdH, Nat.le_refl, decide_eq_true_eq, decide_eq_false_iff_not, Bool.not_eq_true', Bool.not_eq_false', peta, ncast, Int.ofNat_eq_natCast, beq_iff_eq, bne_iff_ne, beq_eq_false_iff_ne, bne_eq_false_iff_eq, ne_eq, Classical.not_not, Int.toNat_natCast, vrow_I, Arm.eta2, Fld.eta, Grp.eta]
    exact h.mono
  · try simp only [hH, stdH, Nat.le_refl, decide_eq_true_eq, decide_eq_false_iff_not, Bool.not_eq_true', Bool.not_eq_false', peta, ncast, Int.ofNat_eq_natCast, beq_iff_eq, bne_iff_ne, beq_eq_false_iff_ne, bne_eq_false_iff_eq, ne_eq, Classical.not_not, Int.toNat_natCast, vrow_I, Arm.eta2, Fld.eta, Grp.eta]
    exact fun _ _ => rfl
  · try simp only [hH, stdH, Nat.le_refl, decide_eq_true_eq, decide_eq_false_iff_not, Bool.not_eq_true', Bool.not_eq_false', peta, ncast, Int.ofNat_eq_natCast, beq_iff_eq, bne_iff_ne, beq_eq_false_iff_ne, bne_eq_false_iff_eq, ne_eq, Classical.not_not, Int.toNat_natCast, vrow_I, Arm.eta2, Fld.eta, Grp.eta]
    exact Shp_A _ _
  · try simp only [hH, stdH, Nat.le_refl, decide_eq_true_eq, decide_eq_false_iff_not, Bool.not_eq_true', Bool.not_eq_false', peta, ncast, Int.ofNat_eq_natCast, beq_iff_eq, bne_iff_ne, beq_eq_false_iff_ne, bne_eq_false_iff_eq, ne_eq, Classical.not_not, Int.toNat_natCast, vrow_I, Arm.eta2, Fld.eta, Grp.eta]
    exact m1
  · try simp only [hH, stdH, Nat.le_refl, decide_eq_true_eq, decide_eq_false_iff_not, Bool.not_eq_true', Bool.not_eq_false', peta, ncast, Int.ofNat_eq_natCast, beq_iff_eq, bne_iff_ne, beq_eq_false_iff_ne, bne_eq_false_iff_eq, ne_eq, Classical.not_not, Int.toNat_natCast, vrow_I, Arm.eta2, Fld.eta, Grp.eta]
    exact b1.mono
  · try simp only [hH, stdH, Nat.le_refl, decide_eq_true_eq, decide_eq_false_iff_not, Bool.not_eq_true', Bool.not_eq_false', peta, ncast, Int.ofNat_eq_natCast, beq_iff_eq, bne_iff_ne, beq_eq_false_iff_ne, bne_eq_false_iff_eq, ne_eq, Classical.not_not, Int.toNat_natCast, vrow_I, Arm.eta2, Fld.eta, Grp.eta]
    exact ⟨b2.mono, by omega, by decide, by decide⟩
  · refine ⟨(F_spoilt c (shT ⟨mo, pa⟩) (⟨⟨[49, 58, 32, 97, 110, 100, 59]⟩⟩ : ByteArray) y2.2).1, by show _ ≤ 60000; omega, ?_⟩
    (conv in matchEx _ _ _ _ _ _ _ => cbv); simp only [AllG, AllP, and_true, hH, stdH, Nat.le_refl, ncast, Int.ofNat_eq_natCast, vrow_I, Arm.eta2, Fld.eta, Grp.eta]
    skip
  · refine ⟨shT ⟨mo, pa⟩, by show _ ≤ 60000; omega, ?_⟩
    (conv in matchEx _ _ _ _ _ _ _ => cbv); simp only [AllG, AllP, and_true, hH, stdH, Nat.le_refl, ncast, Int.ofNat_eq_natCast, vrow_I, Arm.eta2, Fld.eta, Grp.eta]
    skip
noncomputable def F_DrawParseShield (c : Cd) : ByteArray := drfM Tryz.prog 18 r_DrawParseShield nb_DrawParseShield (fun y => y.size ≤ 60000) c
noncomputable def e_DrawParseShield (c : Cd) : Entry := codeEN 18 c (fun nx H => r_DrawParseShield nx H fun _ => F_DrawParseShield c) (fun H => nb_DrawParseShield H fun _ => F_DrawParseShield c)
theorem eok_DrawParseShield (c : Cd) : EntryOk Tryz.prog (e_DrawParseShield c) := codeEN_ok (by unfold isBody; kernel_rfl) (drfM_spec (x_DrawParseShield c)).1 (fun nx => by (repeat' (first | exact .nil | exact .slc ⟨by omega, by simp [nb_DrawParseShield]⟩ (by omega) | exact .pl .lit | apply ReL.cons | apply Re.aggL | apply Re.tupL))) (fun b hq => by
      simp [nb_DrawParseShield] at hq)
theorem p_DrawParseShield (c : Cd) : (fun y => y.size ≤ 60000) (F_DrawParseShield c) := (drfM_spec (x_DrawParseShield c)).2
def r_DrawIsValidShield (n : Nat) (H : Hold) (y : Unit → Shd) : AV := aT rowH H fun _ => (y ())
def nb_DrawIsValidShield (H : Hold) (y : Unit → Shd) : List Blk := []
theorem x_DrawIsValidShield (c : Cd) : ∃ y, DrfM Tryz.prog 34 r_DrawIsValidShield nb_DrawIsValidShield (fun y => y.parts.length ≤ 5) c y := by
  have hB : Base Tryz.prog (tabΓ [e_anyShield c]) tab := base_of tabOk (ents_cons (eok_anyShield c) <| ents_nil)
  refine drfM_ok (N := 9) hB (draw_ok hB mixed) Tryz.func34 rfl rfl r_DrawIsValidShield nb_DrawIsValidShield (fun y => y.parts.length ≤ 5) c 100 (by simp) ?_
  intro H hH
  conv in finish _ _ _ _ _ _ _ _ => cbv
  simp only [Fin.sat0, AllP, and_true, true_and, ncast, Int.ofNat_eq_natCast, heta hH]
  have h : Bd 312 (0, 0) := ⟨by decide, by decide⟩
  obtain ⟨a1, m1⟩ := p_anyShield c (0, 0) (Bd.mono (by assumption))
  generalize F_anyShield c (0, 0) = y1 at *
  obtain ⟨⟨mo, pa⟩, st1⟩ := y1
  dsimp only at *
  refine ⟨?_, ⟨⟨mo, pa⟩, m1, ?_⟩⟩
  · try simp only [hH, stdH, Nat.le_refl, decide_eq_true_eq, decide_eq_false_iff_not, Bool.not_eq_true', Bool.not_eq_false', peta, ncast, Int.ofNat_eq_natCast, beq_iff_eq, bne_iff_ne, beq_eq_false_iff_ne, bne_eq_false_iff_eq, ne_eq, Classical.not_not, Int.toNat_natCast, vrow_I, Arm.eta2, Fld.eta, Grp.eta]
    exact h.mono
  · (conv in matchEx _ _ _ _ _ _ _ => cbv); simp only [AllG, AllP, and_true, hH, stdH, Nat.le_refl, ncast, Int.ofNat_eq_natCast, vrow_I, Arm.eta2, Fld.eta, Grp.eta]
    (repeat' (first | with_reducible exact True.intro | exact RowsEq.self okRA | rfl | refine And.intro ?_ ?_ | trivial))
noncomputable def F_DrawIsValidShield (c : Cd) : Shd := drfM Tryz.prog 34 r_DrawIsValidShield nb_DrawIsValidShield (fun y => y.parts.length ≤ 5) c
noncomputable def e_DrawIsValidShield (c : Cd) : Entry := codeEN 34 c (fun nx H => r_DrawIsValidShield nx H fun _ => F_DrawIsValidShield c) (fun H => nb_DrawIsValidShield H fun _ => F_DrawIsValidShield c)
theorem eok_DrawIsValidShield (c : Cd) : EntryOk Tryz.prog (e_DrawIsValidShield c) := codeEN_ok (by unfold isBody; kernel_rfl) (drfM_spec (x_DrawIsValidShield c)).1 (fun nx => by (repeat' (first | exact .nil | exact .slc ⟨by omega, by simp [nb_DrawIsValidShield]⟩ (by omega) | exact .pl .lit | exact .pl (aT_bl okRH (fun _ => (F_DrawIsValidShield c)) _) | apply ReL.cons | apply Re.aggL | apply Re.tupL))) (fun b hq => by
      simp [nb_DrawIsValidShield] at hq)
theorem p_DrawIsValidShield (c : Cd) : (fun y => y.parts.length ≤ 5) (F_DrawIsValidShield c) := (drfM_spec (x_DrawIsValidShield c)).2
def r_DrawShieldText (n : Nat) (H : Hold) (y : Unit → Shd) : AV := aT rowH H fun _ => (y ())
def nb_DrawShieldText (H : Hold) (y : Unit → Shd) : List Blk := []
theorem x_DrawShieldText (c : Cd) : ∃ y, DrfM Tryz.prog 12 r_DrawShieldText nb_DrawShieldText (fun y => y.parts.length ≤ 5) c y := by
  have hB : Base Tryz.prog (tabΓ [e_DrawIsValidShield c]) tab := base_of tabOk (ents_cons (eok_DrawIsValidShield c) <| ents_nil)
  refine drfM_ok (N := 5) hB (draw_ok hB mixed) Tryz.func12 rfl rfl r_DrawShieldText nb_DrawShieldText (fun y => y.parts.length ≤ 5) c 100 (by simp) ?_
  intro H hH
  conv in finish _ _ _ _ _ _ _ _ => cbv
  simp only [Fin.sat0, AllP, and_true, true_and, ncast, Int.ofNat_eq_natCast, heta hH]
  have m1 := p_DrawIsValidShield c
  generalize F_DrawIsValidShield c = y1 at *
  obtain ⟨mo, pa⟩ := y1
  dsimp only at *
  refine ⟨?_, ⟨⟨mo, pa⟩, m1, ?_⟩⟩
  · try simp only [hH, stdH, Nat.le_refl, decide_eq_true_eq, decide_eq_false_iff_not, Bool.not_eq_true', Bool.not_eq_false', peta, ncast, Int.ofNat_eq_natCast, beq_iff_eq, bne_iff_ne, beq_eq_false_iff_ne, bne_eq_false_iff_eq, ne_eq, Classical.not_not, Int.toNat_natCast, vrow_I, Arm.eta2, Fld.eta, Grp.eta]
  · (conv in matchEx _ _ _ _ _ _ _ => cbv); simp only [AllG, AllP, and_true, hH, stdH, Nat.le_refl, ncast, Int.ofNat_eq_natCast, vrow_I, Arm.eta2, Fld.eta, Grp.eta]
    (repeat' (first | with_reducible exact True.intro | exact RowsEq.self okRA | rfl | refine And.intro ?_ ?_ | trivial))
noncomputable def F_DrawShieldText (c : Cd) : Shd := drfM Tryz.prog 12 r_DrawShieldText nb_DrawShieldText (fun y => y.parts.length ≤ 5) c
noncomputable def e_DrawShieldText (c : Cd) : Entry := codeEN 12 c (fun nx H => r_DrawShieldText nx H fun _ => F_DrawShieldText c) (fun H => nb_DrawShieldText H fun _ => F_DrawShieldText c)
theorem eok_DrawShieldText (c : Cd) : EntryOk Tryz.prog (e_DrawShieldText c) := codeEN_ok (by unfold isBody; kernel_rfl) (drfM_spec (x_DrawShieldText c)).1 (fun nx => by (repeat' (first | exact .nil | exact .slc ⟨by omega, by simp [nb_DrawShieldText]⟩ (by omega) | exact .pl .lit | exact .pl (aT_bl okRH (fun _ => (F_DrawShieldText c)) _) | apply ReL.cons | apply Re.aggL | apply Re.tupL))) (fun b hq => by
      simp [nb_DrawShieldText] at hq)
theorem p_DrawShieldText (c : Cd) : (fun y => y.parts.length ≤ 5) (F_DrawShieldText c) := (drfM_spec (x_DrawShieldText c)).2

end Go.Proofs.YtgjjedpoclhkfaaGreatDoor.AM

