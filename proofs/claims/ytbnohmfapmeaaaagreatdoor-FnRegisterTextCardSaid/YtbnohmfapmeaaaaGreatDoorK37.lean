/- Lemmas and contracts (Ftx); conditions: none. -/
import Derived.Test.YtbnohmfapmeaaaaGreatDoorK03
import Derived.Test.YtbnohmfapmeaaaaGreatDoorK28
import Derived.Test.YtbnohmfapmeaaaaGreatDoorK35
import Derived.Test.YtbnohmfapmeaaaaGreatDoorK36
set_option linter.unusedVariables false
set_option linter.unusedSimpArgs false
set_option maxRecDepth 100000
set_option maxHeartbeats 4000000
set_option cbv.maxSteps 3000000
namespace Go.Proofs.YtbnohmfapmeaaaaGreatDoor.AM
/- Arms and their texts: draws, lines joined; conditions: none. -/
theorem okF_0 {p : Int} (h : 1 ≤ p ∧ p ≤ 9) : okF ⟨0, 0, p, 0⟩ = true := by
  simp [okF, inB]
  omega
theorem okF_1 {d l p q k : Int} (hd : 1 ≤ d ∧ d ≤ 7) (hl : 0 ≤ l ∧ l ≤ 4) (hp : 1 ≤ p ∧ p ≤ 9) (hk : 0 ≤ k ∧ k < 8) (hq : q = 1 + Int.tmod (p + k) 9) : okF ⟨d, l, p, q⟩ = true := by
  rw [Int.tmod_eq_emod_of_nonneg (by omega)] at hq
  unfold okF inB
  have h0 : ¬ d = 0 := by omega
  simp only [Bool.and_eq_true, zqa, h0, if_false, zqc, zqb]
  omega
theorem okA_1 {f : Fld} {o l t : Int} {n r : Grp} (hf : okF f = true) (ho : 1 ≤ o ∧ o ≤ 7) (hl : 0 ≤ l ∧ l ≤ 4) (ht : 1 ≤ t ∧ t ≤ 9) (hn : (noG n || okG n) = true) (hr : (noG r || okG r) = true) : okA ⟨f, o, l, t, n, r⟩ = true := by
  have h0 : ¬ o = 0 := by omega
  unfold okA inB
  simp only [hf, hr, hn, h0, if_false, Bool.and_eq_true, zqa, Bool.true_and, Bool.and_true, true_and, and_true]
  omega
theorem okA_0 {f : Fld} {r : Grp} (hf : okF f = true) (hr : (noG r || okG r) = true) : okA ⟨f, 0, 0, 0, zG, r⟩ = true := by
  unfold okA
  simp only [hf, hr, if_true, Bool.and_eq_true, decide_eq_true_eq, true_and]
  rfl
theorem orG {g : Grp} (h : okG g = true) : (noG g || okG g) = true := by rw [h]; simp
theorem orZ : (noG zG || okG zG) = true := rfl
def enc_fieldV (H : Hold) (y : Unit → Fld) : AV := .agg [.lit (.int .i64 (H Int fun _ => (((y ())).d))), .lit (.int .i64 (H Int fun _ => (((y ())).l))), .lit (.int .i64 (H Int fun _ => (((y ())).p))), .lit (.int .i64 (H Int fun _ => (((y ())).q)))]
theorem x_fieldV (c : Cd)  (st : DS) (h : Bd 10 st)  : ∃ y, Drw Tryz.prog 107 228 10 enc_fieldV (fun y => okF y = true) c [] st y := by
  have hB : Base Tryz.prog (tabΓ [e_tincture c, e_one c, e_pick c, e_among c]) tab := base_of tabOk (ents_cons (eok_tincture c) <| ents_cons (eok_one c) <| ents_cons (eok_pick c) <| ents_cons (eok_among c) <| ents_nil)
  refine drw_ok (N := 27) hB (draw_ok hB mixed) Tryz.func228 rfl rfl _ _ _ _ _ _ _ 100 (by simp) (by intro x hx; simp at hx; (first | done | (subst hx; first | (first | exact .lit | exact blq_ok 4 rfl) | exact .vec (fun j hj x hx => by simp [vrow] at hx; subst hx; exact .lit)) | (rcases hx with rfl | rfl <;> (first | exact .lit | exact blq_ok 4 rfl)) | (rcases hx with rfl | rfl | rfl <;> (first | exact .lit | exact blq_ok 4 rfl)))) ?_
  intro H hH
  conv in finish _ _ _ _ _ _ _ _ => cbv
  subst hH
  simp only [Fin.sat0, Fin.sat1, stdH, Option.some.injEq, AV.lit.injEq, AV.agg.injEq, AV.tup.injEq, List.cons.injEq, Value.bool.injEq, Value.int.injEq, AllP, and_true, true_and, eq_self, zqa, zqb, zqc, zqd, peta, ncast]
  obtain ⟨a1, m1, n1⟩ := p_tincture c st h.mono
  generalize F_tincture c st = y1 at *
  have b1 : Bd 8 y1.2 := a1.bd h
  have a2 := (p_one c 2 y1.2 (Bd.mono (by assumption))).1; generalize F_one c 2 y1.2 = y2 at *; have b2 : Bd 6 y2.2 := a2.bd (by assumption)
  obtain ⟨a3, m3, n3⟩ := p_pick c (7) y2.2 (Bd.mono (by assumption)); generalize F_pick c (7) y2.2 = y3 at *; have b3 : Bd 4 y3.2 := Adv.bd a3 (by assumption)
  have q4 := p_amongL c [.lit (.int .i64 0), .lit (.int .i64 0), .lit (.int .i64 1), .lit (.int .i64 2), .lit (.int .i64 3), .lit (.int .i64 4)] 6 y3.2 (by first | assumption | exact Bd.mono (by assumption)) rfl (by decide) (by decide); generalize F_among c 6 (ints (rowsOf 1 [.lit (.int .i64 0), .lit (.int .i64 0), .lit (.int .i64 1), .lit (.int .i64 2), .lit (.int .i64 3), .lit (.int .i64 4)])) y3.2 = y4 at *; simp only [List.map_cons, List.map_nil, intOf, List.mem_cons, List.not_mem_nil, or_false] at q4; obtain ⟨a4, q4⟩ := q4
  have b4 : Bd 2 y4.2 := a4.bd b3
  obtain ⟨a5, m5, n5⟩ := p_pick c (8) y4.2 (Bd.mono (by assumption)); generalize F_pick c (8) y4.2 = y5 at *; have b5 : Bd 0 y5.2 := Adv.bd a5 (by assumption)
  have w3 : IntKind.i64.wrap (1 + y3.1) = 1 + y3.1 := wi (by omega) (by omega)
  have w4 : IntKind.i64.wrap (y1.1 + y5.1) = y1.1 + y5.1 := wi (by omega) (by omega)
  have t1 := Int.tmod_nonneg 9 (a := y1.1 + y5.1) (by omega)
  have t2 := Int.tmod_lt_of_pos (y1.1 + y5.1) (show (0 : Int) < 9 by omega)
  have w5 : IntKind.i64.wrap (Int.tmod (y1.1 + y5.1) 9) = Int.tmod (y1.1 + y5.1) 9 := wi (by omega) (by omega)
  have w6 : IntKind.i64.wrap (1 + Int.tmod (y1.1 + y5.1) 9) = 1 + Int.tmod (y1.1 + y5.1) 9 := wi (by omega) (by omega)
  simp only [w3, w4, w5, w6]
  exact ⟨h.mono, b1.mono, fun _ => ⟨(⟨0, 0, y1.1, 0⟩, y2.2), .refl, by unfold enc_fieldV; (first | exact .lit | exact blq_ok 4 rfl), rfl, (a1.t a2).le (by decide), okF_0 ⟨m1, n1⟩⟩, fun _ => ⟨b2.mono, ⟨b3.mono, vrow_ok _ rfl (by decide), by decide, by decide⟩, b4, by decide, ⟨(⟨1 + y3.1, y4.1, y1.1, 1 + Int.tmod (y1.1 + y5.1) 9⟩, y5.2), .refl, by unfold enc_fieldV; (first | exact .lit | exact blq_ok 4 rfl), rfl, ((((a1.t a2).t a3).t a4).t a5).le (by decide), okF_1 ⟨by omega, by omega⟩ ⟨by omega, by omega⟩ ⟨m1, n1⟩ ⟨by omega, by omega⟩ rfl⟩⟩⟩
noncomputable def F_fieldV (c : Cd)  (st : DS) : Fld × DS := drw Tryz.prog 107 228 10 enc_fieldV (fun y => okF y = true) c [] st
noncomputable def e_fieldV (c : Cd) : Entry := curE 107 228 10 c fun H st a => match a with
  | [] => some (enc_fieldV H (fun _ => (F_fieldV c  st).1), (fun _ => (F_fieldV c  st).2), [])
  | _ => none
theorem eok_fieldV (c : Cd) : EntryOk Tryz.prog (e_fieldV c) := curE_ok (by unfold isBody; kernel_rfl) (by
  intro st a r y ob e hb hob
  split at e
  · simp only [Option.some.injEq, Prod.mk.injEq] at e
    obtain ⟨rfl, rfl, rfl⟩ := e
    exact ⟨(drw_spec (x_fieldV c  st hb)).1, (by intro x hx; cases hx), (by unfold enc_fieldV; (first | exact .lit | exact blq_ok 4 rfl))⟩
  · simp at e)
theorem p_fieldV (c : Cd)  (st : DS) (h : Bd 10 st)  : Adv 10 st (F_fieldV c  st).2 ∧ (fun y => okF y = true) (F_fieldV c  st).1 := (drw_spec (x_fieldV c  st h )).2
def enc_armsV (H : Hold) (y : Unit → Arm) : AV := .agg [.lit (.int .i64 (H Int fun _ => (((y ())).f.d))), .lit (.int .i64 (H Int fun _ => (((y ())).f.l))), .lit (.int .i64 (H Int fun _ => (((y ())).f.p))), .lit (.int .i64 (H Int fun _ => (((y ())).f.q))), .lit (.int .i64 (H Int fun _ => (((y ())).o))), .lit (.int .i64 (H Int fun _ => (((y ())).l))), .lit (.int .i64 (H Int fun _ => (((y ())).t))), .lit (.int .i64 (H Int fun _ => (((y ())).n.c))), .lit (.int .i64 (H Int fun _ => (((y ())).n.k))), .lit (.int .i64 (H Int fun _ => (((y ())).n.a))), .lit (.int .i64 (H Int fun _ => (((y ())).n.t))), .lit (.int .i64 (H Int fun _ => (((y ())).r.c))), .lit (.int .i64 (H Int fun _ => (((y ())).r.k))), .lit (.int .i64 (H Int fun _ => (((y ())).r.a))), .lit (.int .i64 (H Int fun _ => (((y ())).r.t)))]
theorem x_armsV (c : Cd)  (st : DS) (h : Bd 38 st)  : ∃ y, Drw Tryz.prog 107 157 38 enc_armsV (fun y => okA y = true) c [] st y := by
  have hB : Base Tryz.prog (tabΓ [e_fieldV c, e_one c, e_pick c, e_among c, e_tincture c, e_group c]) tab := base_of tabOk (ents_cons (eok_fieldV c) <| ents_cons (eok_one c) <| ents_cons (eok_pick c) <| ents_cons (eok_among c) <| ents_cons (eok_tincture c) <| ents_cons (eok_group c) <| ents_nil)
  refine drw_ok (N := 33) hB (draw_ok hB mixed) Tryz.func157 rfl rfl _ _ _ _ _ _ _ 150 (by simp) (by intro x hx; simp at hx; (first | done | (subst hx; first | (first | exact .lit | exact blq_ok 4 rfl) | exact .vec (fun j hj x hx => by simp [vrow] at hx; subst hx; exact .lit)) | (rcases hx with rfl | rfl <;> (first | exact .lit | exact blq_ok 4 rfl)) | (rcases hx with rfl | rfl | rfl <;> (first | exact .lit | exact blq_ok 4 rfl)))) ?_
  intro H hH
  conv in finish _ _ _ _ _ _ _ _ => cbv
  subst hH
  simp only [Fin.sat0, Fin.sat1, stdH, Option.some.injEq, AV.lit.injEq, AV.agg.injEq, AV.tup.injEq, List.cons.injEq, Value.bool.injEq, Value.int.injEq, AllP, and_true, true_and, eq_self, zqa, zqb, zqc, zqd, peta, ncast]
  obtain ⟨a1, k1⟩ := p_fieldV c st h.mono
  generalize F_fieldV c st = y1 at *
  have b1 : Bd 28 y1.2 := a1.bd h
  have a2 := (p_one c 3 y1.2 (Bd.mono (by assumption))).1; generalize F_one c 3 y1.2 = y2 at *; have b2 : Bd 26 y2.2 := a2.bd (by assumption)
  obtain ⟨a3, m3, n3⟩ := p_pick c (7) y2.2 (Bd.mono (by assumption)); generalize F_pick c (7) y2.2 = y3 at *; have b3 : Bd 24 y3.2 := Adv.bd a3 (by assumption)
  have q4 := p_amongL c [.lit (.int .i64 0), .lit (.int .i64 0), .lit (.int .i64 0), .lit (.int .i64 1), .lit (.int .i64 2), .lit (.int .i64 3), .lit (.int .i64 4)] 7 y3.2 (by first | assumption | exact Bd.mono (by assumption)) rfl (by decide) (by decide); generalize F_among c 7 (ints (rowsOf 1 [.lit (.int .i64 0), .lit (.int .i64 0), .lit (.int .i64 0), .lit (.int .i64 1), .lit (.int .i64 2), .lit (.int .i64 3), .lit (.int .i64 4)])) y3.2 = y4 at *; simp only [List.map_cons, List.map_nil, intOf, List.mem_cons, List.not_mem_nil, or_false] at q4; obtain ⟨a4, q4⟩ := q4
  have b4 : Bd 22 y4.2 := a4.bd b3
  obtain ⟨a5, m5, n5⟩ := p_tincture c y4.2 b4.mono
  generalize F_tincture c y4.2 = y5 at *
  have b5 : Bd 20 y5.2 := a5.bd b4
  have a6 := (p_one c 3 y5.2 (Bd.mono (by assumption))).1; generalize F_one c 3 y5.2 = y6 at *; have b6 : Bd 18 y6.2 := a6.bd (by assumption)
  obtain ⟨a7, k7⟩ := p_group c y6.2 b6.mono
  generalize F_group c y6.2 = y7 at *
  have b7 : Bd 10 y7.2 := a7.bd b6
  have a8 := (p_one c 3 y7.2 (Bd.mono (by assumption))).1; generalize F_one c 3 y7.2 = y8 at *; have b8 : Bd 8 y8.2 := a8.bd (by assumption)
  obtain ⟨a9, k9⟩ := p_group c y8.2 b8.mono
  generalize F_group c y8.2 = y9 at *
  have b9 : Bd 0 y9.2 := a9.bd b8
  have a10 := (p_one c 3 y6.2 (Bd.mono (by assumption))).1; generalize F_one c 3 y6.2 = y10 at *; have b10 : Bd 16 y10.2 := a10.bd (by assumption)
  obtain ⟨a11, k11⟩ := p_group c y10.2 b10.mono
  generalize F_group c y10.2 = y11 at *
  have b11 : Bd 8 y11.2 := a11.bd b10
  have a12 := (p_one c 3 y2.2 (Bd.mono (by assumption))).1; generalize F_one c 3 y2.2 = y12 at *; have b12 : Bd 24 y12.2 := a12.bd (by assumption)
  obtain ⟨a13, k13⟩ := p_group c y12.2 b12.mono
  generalize F_group c y12.2 = y13 at *
  have b13 : Bd 16 y13.2 := a13.bd b12
  have k7 := orG (grp_ok k7)
  have k9 := orG (grp_ok k9)
  have k11 := orG (grp_ok k11)
  have k13 := orG (grp_ok k13)
  have w3 : IntKind.i64.wrap (1 + y3.1) = 1 + y3.1 := wi (by omega) (by omega)
  simp only [w3]
  have ho : 1 ≤ 1 + y3.1 ∧ 1 + y3.1 ≤ 7 := ⟨by omega, by omega⟩
  have hl : 0 ≤ y4.1 ∧ y4.1 ≤ 4 := ⟨by omega, by omega⟩
  exact ⟨h.mono, b1.mono, fun _ => ⟨b2.mono, ⟨b3.mono, vrow_ok _ rfl (by decide), by decide, by decide⟩, b4.mono, b5.mono, fun _ => ⟨b6.mono, b7.mono, fun _ => ⟨b8, ⟨(⟨y1.1, 1 + y3.1, y4.1, y5.1, y7.1, y9.1⟩, y9.2), .refl, by unfold enc_armsV; (first | exact .lit | exact blq_ok 4 rfl), rfl, ((((((((a1.t a2).t a3).t a4).t a5).t a6).t a7).t a8).t a9).le (by decide), okA_1 k1 ho hl ⟨m5, n5⟩ k7 k9⟩⟩, fun _ => ⟨(⟨y1.1, 1 + y3.1, y4.1, y5.1, y7.1, zG⟩, y8.2), .refl, by unfold enc_armsV; (first | exact .lit | exact blq_ok 4 rfl), rfl, (((((((a1.t a2).t a3).t a4).t a5).t a6).t a7).t a8).le (by decide), okA_1 k1 ho hl ⟨m5, n5⟩ k7 orZ⟩⟩,
    fun _ => ⟨b6.mono, fun _ => ⟨b10.mono, ⟨(⟨y1.1, 1 + y3.1, y4.1, y5.1, zG, y11.1⟩, y11.2), .refl, by unfold enc_armsV; (first | exact .lit | exact blq_ok 4 rfl), rfl, (((((((a1.t a2).t a3).t a4).t a5).t a6).t a10).t a11).le (by decide), okA_1 k1 ho hl ⟨m5, n5⟩ orZ k11⟩⟩, fun _ => ⟨(⟨y1.1, 1 + y3.1, y4.1, y5.1, zG, zG⟩, y10.2), .refl, by unfold enc_armsV; (first | exact .lit | exact blq_ok 4 rfl), rfl, ((((((a1.t a2).t a3).t a4).t a5).t a6).t a10).le (by decide), okA_1 k1 ho hl ⟨m5, n5⟩ orZ orZ⟩⟩⟩, fun _ => ⟨b2.mono, fun _ => ⟨b12.mono, ⟨(⟨y1.1, 0, 0, 0, zG, y13.1⟩, y13.2), .refl, by unfold enc_armsV; (first | exact .lit | exact blq_ok 4 rfl), rfl, (((a1.t a2).t a12).t a13).le (by decide), okA_0 k1 k13⟩⟩, fun _ => ⟨(⟨y1.1, 0, 0, 0, zG, zG⟩, y12.2), .refl, by unfold enc_armsV; (first | exact .lit | exact blq_ok 4 rfl), rfl, ((a1.t a2).t a12).le (by decide), okA_0 k1 orZ⟩⟩⟩
noncomputable def F_armsV (c : Cd)  (st : DS) : Arm × DS := drw Tryz.prog 107 157 38 enc_armsV (fun y => okA y = true) c [] st
noncomputable def e_armsV (c : Cd) : Entry := curE 107 157 38 c fun H st a => match a with
  | [] => some (enc_armsV H (fun _ => (F_armsV c  st).1), (fun _ => (F_armsV c  st).2), [])
  | _ => none
theorem eok_armsV (c : Cd) : EntryOk Tryz.prog (e_armsV c) := curE_ok (by unfold isBody; kernel_rfl) (by
  intro st a r y ob e hb hob
  split at e
  · simp only [Option.some.injEq, Prod.mk.injEq] at e
    obtain ⟨rfl, rfl, rfl⟩ := e
    exact ⟨(drw_spec (x_armsV c  st hb)).1, (by intro x hx; cases hx), (by unfold enc_armsV; (first | exact .lit | exact blq_ok 4 rfl))⟩
  · simp at e)
theorem p_armsV (c : Cd)  (st : DS) (h : Bd 38 st)  : Adv 38 st (F_armsV c  st).2 ∧ (fun y => okA y = true) (F_armsV c  st).1 := (drw_spec (x_armsV c  st h )).2
/-! ### Lines joined -/
end Go.Proofs.YtbnohmfapmeaaaaGreatDoor.AM

