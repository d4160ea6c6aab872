import Derived.Test.YtdicfibonfjalaaGreatDoorAmT
import Derived.Test.YtdicfibonfjalaaGreatDoorSpo
import Derived.Test.YtdicfibonfjalaaGreatDoorPad
import Derived.Test.YtdicfibonfjalaaGreatDoorWra
set_option linter.unusedVariables false
set_option linter.unusedSimpArgs false
set_option maxRecDepth 100000
set_option maxHeartbeats 4000000
set_option cbv.maxSteps 3000000
namespace Go.Proofs.YtdicfibonfjalaaGreatDoor.AM
/- Arms and their texts: draws, lines joined; conditions: none. -/
theorem okF_0 {p : Int} (h : 1 ≤ p ∧ p ≤ 9) : okF ⟨0, 0, p, 0⟩ = true := by
  simp [okF, inB]
  omega
theorem okF_1 {d l p q k : Int} (hd : 1 ≤ d ∧ d ≤ 7) (hl : 0 ≤ l ∧ l ≤ 4) (hp : 1 ≤ p ∧ p ≤ 9) (hk : 0 ≤ k ∧ k < 8) (hq : q = 1 + Int.tmod (p + k) 9) : okF ⟨d, l, p, q⟩ = true := by
  rw [Int.tmod_eq_emod_of_nonneg (by omega)] at hq
  unfold okF inB
  have h0 : ¬ d = 0 := by omega
  simp only [Bool.and_eq_true, decide_eq_true_eq, h0, if_false, Bool.not_eq_true', decide_eq_false_iff_not]
  omega
theorem okA_1 {f : Fld} {o l t : Int} {n r : Grp} (hf : okF f = true) (ho : 1 ≤ o ∧ o ≤ 7) (hl : 0 ≤ l ∧ l ≤ 4) (ht : 1 ≤ t ∧ t ≤ 9) (hn : (noG n || okG n) = true) (hr : (noG r || okG r) = true) : okA ⟨f, o, l, t, n, r⟩ = true := by
  have h0 : ¬ o = 0 := by omega
  unfold okA inB
  simp only [hf, hr, hn, h0, if_false, Bool.and_eq_true, decide_eq_true_eq, Bool.true_and, Bool.and_true, true_and, and_true]
  omega
theorem okA_0 {f : Fld} {r : Grp} (hf : okF f = true) (hr : (noG r || okG r) = true) : okA ⟨f, 0, 0, 0, zG, r⟩ = true := by
  unfold okA
  simp only [hf, hr, if_true, Bool.and_eq_true, decide_eq_true_eq, true_and]
  rfl
theorem orG {g : Grp} (h : okG g = true) : (noG g || okG g) = true := by rw [h]; simp
theorem orZ : (noG zG || okG zG) = true := rfl
def enc_fieldV (H : Hold) (y : Unit → Fld) : AV := .agg [.lit (.int .i64 (H Int fun _ => (((y ())).d))), .lit (.int .i64 (H Int fun _ => (((y ())).l))), .lit (.int .i64 (H Int fun _ => (((y ())).p))), .lit (.int .i64 (H Int fun _ => (((y ())).q)))]
theorem x_fieldV (c : Cd)  (st : DS) (h : Bd 10 st)  : ∃ y, Drw Tryz.prog 58 80 10 enc_fieldV (fun y => okF y = true) c [] st y := by
  have hB : Base Tryz.prog (tabΓ [e_tincture c, e_one c, e_pick c, e_among c]) tab := base_of tabOk (ents_cons (eok_tincture c) <| ents_cons (eok_one c) <| ents_cons (eok_pick c) <| ents_cons (eok_among c) <| ents_nil)
  refine drw_ok (N := 27) hB (draw_ok hB mixed) Tryz.func80 rfl rfl _ _ _ _ _ _ _ 100 (by simp) (by intro x hx; simp at hx; (first | done | (subst hx; first | (first | exact .lit | exact blq_ok 4 rfl) | exact .vec (fun j hj x hx => by simp [vrow] at hx; subst hx; exact .lit)) | (rcases hx with rfl | rfl <;> (first | exact .lit | exact blq_ok 4 rfl)) | (rcases hx with rfl | rfl | rfl <;> (first | exact .lit | exact blq_ok 4 rfl)))) ?_
  intro H hH
  conv in finish _ _ _ _ _ _ _ _ => cbv
  subst hH
  simp only [Fin.sat0, Fin.sat1, stdH, Option.some.injEq, AV.lit.injEq, AV.agg.injEq, AV.tup.injEq, List.cons.injEq, Value.bool.injEq, Value.int.injEq, AllP, and_true, true_and, eq_self, decide_eq_true_eq, decide_eq_false_iff_not, Bool.not_eq_true', Bool.not_eq_false', peta, ncast]
  obtain ⟨a1, m1, n1⟩ := p_tincture c st h.mono
  generalize F_tincture c st = y1 at *
  have b1 : Bd 8 y1.2 := a1.bd h
  have a2 := (p_one c 2 y1.2 (Bd.mono (by assumption))).1; generalize F_one c 2 y1.2 = y2 at *; have b2 : Bd 6 y2.2 := a2.bd (by assumption)
  obtain ⟨a3, m3, n3⟩ := p_pick c (7) y2.2 (Bd.mono (by assumption)); generalize F_pick c (7) y2.2 = y3 at *; have b3 : Bd 4 y3.2 := Adv.bd a3 (by assumption)
  have q4 := p_amongL c [.lit (.int .i64 0), .lit (.int .i64 0), .lit (.int .i64 1), .lit (.int .i64 2), .lit (.int .i64 3), .lit (.int .i64 4)] 6 y3.2 (by first | assumption | exact Bd.mono (by assumption)) rfl (by decide) (by decide); generalize F_among c 6 (ints (rowsOf 1 [.lit (.int .i64 0), .lit (.int .i64 0), .lit (.int .i64 1), .lit (.int .i64 2), .lit (.int .i64 3), .lit (.int .i64 4)])) y3.2 = y4 at *; simp only [List.map_cons, List.map_nil, intOf, List.mem_cons, List.not_mem_nil, or_false] at q4; obtain ⟨a4, q4⟩ := q4
  have b4 : Bd 2 y4.2 := a4.bd b3
  obtain ⟨a5, m5, n5⟩ := p_pick c (8) y4.2 (Bd.mono (by assumption)); generalize F_pick c (8) y4.2 = y5 at *; have b5 : Bd 0 y5.2 := Adv.bd a5 (by assumption)
  have w3 : IntKind.i64.wrap (1 + y3.1) = 1 + y3.1 := wi (by omega) (by omega)
  have w4 : IntKind.i64.wrap (y1.1 + y5.1) = y1.1 + y5.1 := wi (by omega) (by omega)
  have t1 := Int.tmod_nonneg 9 (a := y1.1 + y5.1) (by omega)
  have t2 := Int.tmod_lt_of_pos (y1.1 + y5.1) (show (0 : Int) < 9 by omega)
  have w5 : IntKind.i64.wrap (Int.tmod (y1.1 + y5.1) 9) = Int.tmod (y1.1 + y5.1) 9 := wi (by omega) (by omega)
  have w6 : IntKind.i64.wrap (1 + Int.tmod (y1.1 + y5.1) 9) = 1 + Int.tmod (y1.1 + y5.1) 9 := wi (by omega) (by omega)
  simp only [w3, w4, w5, w6]
  exact ⟨h.mono, b1.mono, fun _ => ⟨(⟨0, 0, y1.1, 0⟩, y2.2), .refl, by unfold enc_fieldV; (first | exact .lit | exact blq_ok 4 rfl), rfl, (a1.t a2).le (by decide), okF_0 ⟨m1, n1⟩⟩, fun _ => ⟨b2.mono, ⟨b3.mono, vrow_ok _ rfl (by decide), by decide, by decide⟩, b4, by decide, ⟨(⟨1 + y3.1, y4.1, y1.1, 1 + Int.tmod (y1.1 + y5.1) 9⟩, y5.2), .refl, by unfold enc_fieldV; (first | exact .lit | exact blq_ok 4 rfl), rfl, ((((a1.t a2).t a3).t a4).t a5).le (by decide), okF_1 ⟨by omega, by omega⟩ ⟨by omega, by omega⟩ ⟨m1, n1⟩ ⟨by omega, by omega⟩ rfl⟩⟩⟩
noncomputable def F_fieldV (c : Cd)  (st : DS) : Fld × DS := drw Tryz.prog 58 80 10 enc_fieldV (fun y => okF y = true) c [] st
noncomputable def e_fieldV (c : Cd) : Entry := curE 58 80 10 c fun H st a => match a with
  | [] => some (enc_fieldV H (fun _ => (F_fieldV c  st).1), (fun _ => (F_fieldV c  st).2), [])
  | _ => none
theorem eok_fieldV (c : Cd) : EntryOk Tryz.prog (e_fieldV c) := curE_ok (by unfold isBody; kernel_rfl) (by
  intro st a r y ob e hb hob
  split at e
  · simp only [Option.some.injEq, Prod.mk.injEq] at e
    obtain ⟨rfl, rfl, rfl⟩ := e
    exact ⟨(drw_spec (x_fieldV c  st hb)).1, (by intro x hx; cases hx), (by unfold enc_fieldV; (first | exact .lit | exact blq_ok 4 rfl))⟩
  · simp at e)
theorem p_fieldV (c : Cd)  (st : DS) (h : Bd 10 st)  : Adv 10 st (F_fieldV c  st).2 ∧ (fun y => okF y = true) (F_fieldV c  st).1 := (drw_spec (x_fieldV c  st h )).2
def enc_armsV (H : Hold) (y : Unit → Arm) : AV := .agg [.lit (.int .i64 (H Int fun _ => (((y ())).f.d))), .lit (.int .i64 (H Int fun _ => (((y ())).f.l))), .lit (.int .i64 (H Int fun _ => (((y ())).f.p))), .lit (.int .i64 (H Int fun _ => (((y ())).f.q))), .lit (.int .i64 (H Int fun _ => (((y ())).o))), .lit (.int .i64 (H Int fun _ => (((y ())).l))), .lit (.int .i64 (H Int fun _ => (((y ())).t))), .lit (.int .i64 (H Int fun _ => (((y ())).n.c))), .lit (.int .i64 (H Int fun _ => (((y ())).n.k))), .lit (.int .i64 (H Int fun _ => (((y ())).n.a))), .lit (.int .i64 (H Int fun _ => (((y ())).n.t))), .lit (.int .i64 (H Int fun _ => (((y ())).r.c))), .lit (.int .i64 (H Int fun _ => (((y ())).r.k))), .lit (.int .i64 (H Int fun _ => (((y ())).r.a))), .lit (.int .i64 (H Int fun _ => (((y ())).r.t)))]
theorem x_armsV (c : Cd)  (st : DS) (h : Bd 38 st)  : ∃ y, Drw Tryz.prog 58 32 38 enc_armsV (fun y => okA y = true) c [] st y := by
  have hB : Base Tryz.prog (tabΓ [e_fieldV c, e_one c, e_pick c, e_among c, e_tincture c, e_group c]) tab := base_of tabOk (ents_cons (eok_fieldV c) <| ents_cons (eok_one c) <| ents_cons (eok_pick c) <| ents_cons (eok_among c) <| ents_cons (eok_tincture c) <| ents_cons (eok_group c) <| ents_nil)
  refine drw_ok (N := 33) hB (draw_ok hB mixed) Tryz.func32 rfl rfl _ _ _ _ _ _ _ 150 (by simp) (by intro x hx; simp at hx; (first | done | (subst hx; first | (first | exact .lit | exact blq_ok 4 rfl) | exact .vec (fun j hj x hx => by simp [vrow] at hx; subst hx; exact .lit)) | (rcases hx with rfl | rfl <;> (first | exact .lit | exact blq_ok 4 rfl)) | (rcases hx with rfl | rfl | rfl <;> (first | exact .lit | exact blq_ok 4 rfl)))) ?_
  intro H hH
  conv in finish _ _ _ _ _ _ _ _ => cbv
  subst hH
  simp only [Fin.sat0, Fin.sat1, stdH, Option.some.injEq, AV.lit.injEq, AV.agg.injEq, AV.tup.injEq, List.cons.injEq, Value.bool.injEq, Value.int.injEq, AllP, and_true, true_and, eq_self, decide_eq_true_eq, decide_eq_false_iff_not, Bool.not_eq_true', Bool.not_eq_false', peta, ncast]
  obtain ⟨a1, k1⟩ := p_fieldV c st h.mono
  generalize F_fieldV c st = y1 at *
  have b1 : Bd 28 y1.2 := a1.bd h
  have a2 := (p_one c 3 y1.2 (Bd.mono (by assumption))).1; generalize F_one c 3 y1.2 = y2 at *; have b2 : Bd 26 y2.2 := a2.bd (by assumption)
  obtain ⟨a3, m3, n3⟩ := p_pick c (7) y2.2 (Bd.mono (by assumption)); generalize F_pick c (7) y2.2 = y3 at *; have b3 : Bd 24 y3.2 := Adv.bd a3 (by assumption)
  have q4 := p_amongL c [.lit (.int .i64 0), .lit (.int .i64 0), .lit (.int .i64 0), .lit (.int .i64 1), .lit (.int .i64 2), .lit (.int .i64 3), .lit (.int .i64 4)] 7 y3.2 (by first | assumption | exact Bd.mono (by assumption)) rfl (by decide) (by decide); generalize F_among c 7 (ints (rowsOf 1 [.lit (.int .i64 0), .lit (.int .i64 0), .lit (.int .i64 0), .lit (.int .i64 1), .lit (.int .i64 2), .lit (.int .i64 3), .lit (.int .i64 4)])) y3.2 = y4 at *; simp only [List.map_cons, List.map_nil, intOf, List.mem_cons, List.not_mem_nil, or_false] at q4; obtain ⟨a4, q4⟩ := q4
  have b4 : Bd 22 y4.2 := a4.bd b3
  obtain ⟨a5, m5, n5⟩ := p_tincture c y4.2 b4.mono
  generalize F_tincture c y4.2 = y5 at *
  have b5 : Bd 20 y5.2 := a5.bd b4
  have a6 := (p_one c 3 y5.2 (Bd.mono (by assumption))).1; generalize F_one c 3 y5.2 = y6 at *; have b6 : Bd 18 y6.2 := a6.bd (by assumption)
  obtain ⟨a7, k7⟩ := p_group c y6.2 b6.mono
  generalize F_group c y6.2 = y7 at *
  have b7 : Bd 10 y7.2 := a7.bd b6
  have a8 := (p_one c 3 y7.2 (Bd.mono (by assumption))).1; generalize F_one c 3 y7.2 = y8 at *; have b8 : Bd 8 y8.2 := a8.bd (by assumption)
  obtain ⟨a9, k9⟩ := p_group c y8.2 b8.mono
  generalize F_group c y8.2 = y9 at *
  have b9 : Bd 0 y9.2 := a9.bd b8
  have a10 := (p_one c 3 y6.2 (Bd.mono (by assumption))).1; generalize F_one c 3 y6.2 = y10 at *; have b10 : Bd 16 y10.2 := a10.bd (by assumption)
  obtain ⟨a11, k11⟩ := p_group c y10.2 b10.mono
  generalize F_group c y10.2 = y11 at *
  have b11 : Bd 8 y11.2 := a11.bd b10
  have a12 := (p_one c 3 y2.2 (Bd.mono (by assumption))).1; generalize F_one c 3 y2.2 = y12 at *; have b12 : Bd 24 y12.2 := a12.bd (by assumption)
  obtain ⟨a13, k13⟩ := p_group c y12.2 b12.mono
  generalize F_group c y12.2 = y13 at *
  have b13 : Bd 16 y13.2 := a13.bd b12
  have k7 := orG (grp_ok k7)
  have k9 := orG (grp_ok k9)
  have k11 := orG (grp_ok k11)
  have k13 := orG (grp_ok k13)
  have w3 : IntKind.i64.wrap (1 + y3.1) = 1 + y3.1 := wi (by omega) (by omega)
  simp only [w3]
  have ho : 1 ≤ 1 + y3.1 ∧ 1 + y3.1 ≤ 7 := ⟨by omega, by omega⟩
  have hl : 0 ≤ y4.1 ∧ y4.1 ≤ 4 := ⟨by omega, by omega⟩
  exact ⟨h.mono, b1.mono, fun _ => ⟨b2.mono, ⟨b3.mono, vrow_ok _ rfl (by decide), by decide, by decide⟩, b4.mono, b5.mono, fun _ => ⟨b6.mono, b7.mono, fun _ => ⟨b8, ⟨(⟨y1.1, 1 + y3.1, y4.1, y5.1, y7.1, y9.1⟩, y9.2), .refl, by unfold enc_armsV; (first | exact .lit | exact blq_ok 4 rfl), rfl, ((((((((a1.t a2).t a3).t a4).t a5).t a6).t a7).t a8).t a9).le (by decide), okA_1 k1 ho hl ⟨m5, n5⟩ k7 k9⟩⟩, fun _ => ⟨(⟨y1.1, 1 + y3.1, y4.1, y5.1, y7.1, zG⟩, y8.2), .refl, by unfold enc_armsV; (first | exact .lit | exact blq_ok 4 rfl), rfl, (((((((a1.t a2).t a3).t a4).t a5).t a6).t a7).t a8).le (by decide), okA_1 k1 ho hl ⟨m5, n5⟩ k7 orZ⟩⟩,
    fun _ => ⟨b6.mono, fun _ => ⟨b10.mono, ⟨(⟨y1.1, 1 + y3.1, y4.1, y5.1, zG, y11.1⟩, y11.2), .refl, by unfold enc_armsV; (first | exact .lit | exact blq_ok 4 rfl), rfl, (((((((a1.t a2).t a3).t a4).t a5).t a6).t a10).t a11).le (by decide), okA_1 k1 ho hl ⟨m5, n5⟩ orZ k11⟩⟩, fun _ => ⟨(⟨y1.1, 1 + y3.1, y4.1, y5.1, zG, zG⟩, y10.2), .refl, by unfold enc_armsV; (first | exact .lit | exact blq_ok 4 rfl), rfl, ((((((a1.t a2).t a3).t a4).t a5).t a6).t a10).le (by decide), okA_1 k1 ho hl ⟨m5, n5⟩ orZ orZ⟩⟩⟩, fun _ => ⟨b2.mono, fun _ => ⟨b12.mono, ⟨(⟨y1.1, 0, 0, 0, zG, y13.1⟩, y13.2), .refl, by unfold enc_armsV; (first | exact .lit | exact blq_ok 4 rfl), rfl, (((a1.t a2).t a12).t a13).le (by decide), okA_0 k1 k13⟩⟩, fun _ => ⟨(⟨y1.1, 0, 0, 0, zG, zG⟩, y12.2), .refl, by unfold enc_armsV; (first | exact .lit | exact blq_ok 4 rfl), rfl, ((a1.t a2).t a12).le (by decide), okA_0 k1 orZ⟩⟩⟩
noncomputable def F_armsV (c : Cd)  (st : DS) : Arm × DS := drw Tryz.prog 58 32 38 enc_armsV (fun y => okA y = true) c [] st
noncomputable def e_armsV (c : Cd) : Entry := curE 58 32 38 c fun H st a => match a with
  | [] => some (enc_armsV H (fun _ => (F_armsV c  st).1), (fun _ => (F_armsV c  st).2), [])
  | _ => none
theorem eok_armsV (c : Cd) : EntryOk Tryz.prog (e_armsV c) := curE_ok (by unfold isBody; kernel_rfl) (by
  intro st a r y ob e hb hob
  split at e
  · simp only [Option.some.injEq, Prod.mk.injEq] at e
    obtain ⟨rfl, rfl, rfl⟩ := e
    exact ⟨(drw_spec (x_armsV c  st hb)).1, (by intro x hx; cases hx), (by unfold enc_armsV; (first | exact .lit | exact blq_ok 4 rfl))⟩
  · simp at e)
theorem p_armsV (c : Cd)  (st : DS) (h : Bd 38 st)  : Adv 38 st (F_armsV c  st).2 ∧ (fun y => okA y = true) (F_armsV c  st).1 := (drw_spec (x_armsV c  st h )).2
structure AW where
  a : Arm
  w : Int
deriving Inhabited
def enc_DrawWrapArms (H : Hold) (y : Unit → AW) : AV := .tup [.agg [.lit (.int .i64 (H Int fun _ => (((y ()).a).f.d))), .lit (.int .i64 (H Int fun _ => (((y ()).a).f.l))), .lit (.int .i64 (H Int fun _ => (((y ()).a).f.p))), .lit (.int .i64 (H Int fun _ => (((y ()).a).f.q))), .lit (.int .i64 (H Int fun _ => (((y ()).a).o))), .lit (.int .i64 (H Int fun _ => (((y ()).a).l))), .lit (.int .i64 (H Int fun _ => (((y ()).a).t))), .lit (.int .i64 (H Int fun _ => (((y ()).a).n.c))), .lit (.int .i64 (H Int fun _ => (((y ()).a).n.k))), .lit (.int .i64 (H Int fun _ => (((y ()).a).n.a))), .lit (.int .i64 (H Int fun _ => (((y ()).a).n.t))), .lit (.int .i64 (H Int fun _ => (((y ()).a).r.c))), .lit (.int .i64 (H Int fun _ => (((y ()).a).r.k))), .lit (.int .i64 (H Int fun _ => (((y ()).a).r.a))), .lit (.int .i64 (H Int fun _ => (((y ()).a).r.t)))], .lit (.int .i64 (H Int fun _ => ((y ()).w)))]
theorem x_DrawWrapArms (c : Cd) : ∃ y : AW, Con Tryz.prog 6 [codeAV c] [] (enc_DrawWrapArms stdH fun _ => y) [] ∧ Bl 0 (enc_DrawWrapArms stdH fun _ => y) ∧ (fun _ => True) y := by
  have hB : Base Tryz.prog (tabΓ [e_anyArms c, e_among c]) tab := base_of tabOk (ents_cons (eok_anyArms c) <| ents_cons (eok_among c) <| ents_nil)
  refine df_ok (N := 13) hB (draw_ok hB mixed) Tryz.func6 rfl rfl _ _ _ 90 (by simp) ?_
  intro H hH
  conv in finish _ _ _ _ _ _ _ _ => cbv
  subst hH
  simp only [Fin.sat0, Fin.sat1, stdH, Option.some.injEq, AV.lit.injEq, AV.agg.injEq, AV.tup.injEq, List.cons.injEq, Value.bool.injEq, Value.int.injEq, AllP, and_true, true_and, eq_self, decide_eq_true_eq, decide_eq_false_iff_not, Bool.not_eq_true', Bool.not_eq_false', peta, ncast]
  have h : Bd 64 (0, 0) := ⟨by decide, by decide⟩
  have a1 := (p_anyArms c (0, 0) (Bd.mono (by assumption))).1; generalize F_anyArms c (0, 0) = y1 at *; have b1 : Bd 10 y1.2 := a1.bd (by assumption)
  have q2 := p_amongL c [.lit (.int .i64 12), .lit (.int .i64 20), .lit (.int .i64 30), .lit (.int .i64 80), .lit (.int .i64 11), .lit (.int .i64 81), .lit (.int .i64 16)] 7 y1.2 (by first | assumption | exact Bd.mono (by assumption)) rfl (by decide) (by decide); generalize F_among c 7 (ints (rowsOf 1 [.lit (.int .i64 12), .lit (.int .i64 20), .lit (.int .i64 30), .lit (.int .i64 80), .lit (.int .i64 11), .lit (.int .i64 81), .lit (.int .i64 16)])) y1.2 = y2 at *; simp only [List.map_cons, List.map_nil, intOf, List.mem_cons, List.not_mem_nil, or_false] at q2; obtain ⟨a2, q2⟩ := q2
  exact ⟨h.mono, ⟨b1.mono, vrow_ok _ rfl (by decide), by decide, by decide⟩, ⟨y1.1, y2.1⟩, .refl, by unfold enc_DrawWrapArms; (first | exact .lit | exact blq_ok 4 rfl)⟩
noncomputable def F_DrawWrapArms (c : Cd) : AW := dfw Tryz.prog 6 enc_DrawWrapArms (fun _ => True) c
noncomputable def e_DrawWrapArms (c : Cd) : Entry := codeE 6 c fun H => enc_DrawWrapArms H fun _ => F_DrawWrapArms c
theorem eok_DrawWrapArms (c : Cd) : EntryOk Tryz.prog (e_DrawWrapArms c) := codeE_ok (by unfold isBody; kernel_rfl) (dfw_spec (x_DrawWrapArms c)).1
theorem p_DrawWrapArms (c : Cd) : (fun _ => True) (F_DrawWrapArms c) := (dfw_spec (x_DrawWrapArms c)).2.2
def enc_DrawParseArms (H : Hold) (y : Unit → ByteArray) : AV := .lit (.string (H ByteArray fun _ => ((y ()))))
theorem x_DrawParseArms (c : Cd) : ∃ y : ByteArray, Con Tryz.prog 10 [codeAV c] [] (enc_DrawParseArms stdH fun _ => y) [] ∧ Bl 0 (enc_DrawParseArms stdH fun _ => y) ∧ (fun y => y.size ≤ 6000) y := by
  have hB : Base Tryz.prog (tabΓ [e_armsV c, e_l6Text, e_one c, e_spoilt c]) tab := base_of tabOk (ents_cons (eok_armsV c) <| ents_cons eok_l6Text <| ents_cons (eok_one c) <| ents_cons (eok_spoilt c) <| ents_nil)
  refine df_ok (N := 17) hB (draw_ok hB mixed) Tryz.func10 rfl rfl _ _ _ 60 (by simp) ?_
  intro H hH
  conv in finish _ _ _ _ _ _ _ _ => cbv
  subst hH
  simp only [Fin.sat0, Fin.sat1, stdH, Option.some.injEq, AV.lit.injEq, AV.agg.injEq, AV.tup.injEq, List.cons.injEq, Value.bool.injEq, Value.int.injEq, AllP, and_true, true_and, eq_self, decide_eq_true_eq, decide_eq_false_iff_not, Bool.not_eq_true', Bool.not_eq_false', peta, ncast]
  have h : Bd 64 (0, 0) := ⟨by decide, by decide⟩
  obtain ⟨a1, q1⟩ := p_armsV c (0, 0) h.mono
  generalize F_armsV c (0, 0) = y1 at *
  have b1 : Bd 26 y1.2 := a1.bd h
  have a2 := (p_one c 4 y1.2 (Bd.mono (by assumption))).1; generalize F_one c 4 y1.2 = y2 at *; have b2 : Bd 24 y2.2 := a2.bd (by assumption)
  have s1 := armT_sz y1.1
  obtain ⟨a3, q3⟩ := p_spoilt c (armT y1.1) (⟨⟨[97, 44, 32, 115]⟩⟩ : ByteArray) y2.2 b2.mono (by omega) (by decide) (by decide)
  exact ⟨h.mono, q1, b1.mono, fun _ => ⟨⟨b2.mono, by show (armT y1.1).size ≤ _; omega, by decide, by decide⟩, _, .refl, by unfold enc_DrawParseArms; exact .lit, Nat.le_trans q3 (by omega)⟩, fun _ => ⟨_, .refl, by unfold enc_DrawParseArms; exact .lit, by show (armT y1.1).size ≤ _; omega⟩⟩
noncomputable def F_DrawParseArms (c : Cd) : ByteArray := dfw Tryz.prog 10 enc_DrawParseArms (fun y => y.size ≤ 6000) c
noncomputable def e_DrawParseArms (c : Cd) : Entry := codeE 10 c fun H => enc_DrawParseArms H fun _ => F_DrawParseArms c
theorem eok_DrawParseArms (c : Cd) : EntryOk Tryz.prog (e_DrawParseArms c) := codeE_ok (by unfold isBody; kernel_rfl) (dfw_spec (x_DrawParseArms c)).1
theorem p_DrawParseArms (c : Cd) : (fun y => y.size ≤ 6000) (F_DrawParseArms c) := (dfw_spec (x_DrawParseArms c)).2.2
theorem c_WrapArmsU (a : Arm) (width : Int)  : ConN Tryz.prog 11 [aT rowA stdH fun _ => a, .lit (.int .i64 width)] [] 0 (.tup [.vec 1 (stdH Nat fun _ => (if okA a && inB width 12 80 then wrapT (armT a) width else []).length) (rowsS stdH fun _ => if okA a && inB width 12 80 then wrapT (armT a) width else []), .lit (.bool (stdH Bool fun _ => okA a && inB width 12 80))]) [] [] := by
  have hB : Base Tryz.prog (tabΓ [e_IsValidArms, e_inside, e_armText, e_wrapped]) tabO := base_of tabOkO (ents_cons eok_IsValidArms <| ents_cons eok_inside <| ents_cons eok_armText <| ents_cons eok_wrapped <| ents_nil)
  refine con_m (N := 18) hB (draw_ok hB mixed) Tryz.func11 rfl rfl (fun H => [aT rowA H fun _ => a, .lit (.int .i64 width)]) (fun _ => []) 0 (fun H => .tup [.vec 1 (H Nat fun _ => (if okA a && inB width 12 80 then wrapT (armT a) width else []).length) (rowsS H fun _ => if okA a && inB width 12 80 then wrapT (armT a) width else []), .lit (.bool (H Bool fun _ => okA a && inB width 12 80))]) (fun H => []) (fun _ => []) 200 (by simp) (fun x hx => ?_) (by simp [lk]) (by omega) (by simp) ?_
  · simp only [List.mem_cons, List.not_mem_nil, or_false] at hx
    rcases hx with rfl | rfl
    · exact aT_bl okRA _ _
    · exact .lit
  intro X hX hX0 H hH
  conv in Fin.chk _ _ => cbv
  try simp only [Plain_rowsA, Plain_rowsB, Plain_rowsC, Plain_rowsF, Plain_rowsG, Plain_rowsI, Plain_rowsS, Plain_rowsU, Fin.satC_ret, Fin.satC_br, Fin.satC_need, Fin.satC_again, AllP, and_true, true_and, upd, List.length_nil, List.length_cons, Nat.zero_add, if_true, ncast, Int.ofNat_eq_natCast]
  subst hH
  simp only [stdH, Arm.eta2, Fld.eta, Grp.eta]
  have hz := armT_sz a
  cases hx : okA a <;> cases hy : inB width 12 80
  all_goals simp only [Bool.and_self, Bool.and_true, Bool.and_false, Bool.not_true, Bool.not_false, cond_true, cond_false, if_true, Bool.false_eq_true, if_false]
  all_goals repeat' (first | exact trivial | rfl | exact hx | exact RowsEq.self okS | exact RowsEq.ofT okS rfl (Shp_zero _) rfl | refine And.intro ?_ ?_ | (intro h; first | (cases h; done) | skip) | omega | (unfold inB at hy; simp at hy; omega))
noncomputable def e_WrapArmsU : Entry := pureE 11 fun H a => match a with
  | [.agg [.lit (.int .i64 a0), .lit (.int .i64 a1), .lit (.int .i64 a2), .lit (.int .i64 a3), .lit (.int .i64 a4), .lit (.int .i64 a5), .lit (.int .i64 a6), .lit (.int .i64 a7), .lit (.int .i64 a8), .lit (.int .i64 a9), .lit (.int .i64 a10), .lit (.int .i64 a11), .lit (.int .i64 a12), .lit (.int .i64 a13), .lit (.int .i64 a14)], .lit (.int .i64 width)] => some (.tup [.vec 1 (H Nat fun _ => (if okA (⟨⟨a0, a1, a2, a3⟩, a4, a5, a6, ⟨a7, a8, a9, a10⟩, ⟨a11, a12, a13, a14⟩⟩ : Arm) && inB width 12 80 then wrapT (armT (⟨⟨a0, a1, a2, a3⟩, a4, a5, a6, ⟨a7, a8, a9, a10⟩, ⟨a11, a12, a13, a14⟩⟩ : Arm)) width else []).length) (rowsS H fun _ => if okA (⟨⟨a0, a1, a2, a3⟩, a4, a5, a6, ⟨a7, a8, a9, a10⟩, ⟨a11, a12, a13, a14⟩⟩ : Arm) && inB width 12 80 then wrapT (armT (⟨⟨a0, a1, a2, a3⟩, a4, a5, a6, ⟨a7, a8, a9, a10⟩, ⟨a11, a12, a13, a14⟩⟩ : Arm)) width else []), .lit (.bool (H Bool fun _ => okA (⟨⟨a0, a1, a2, a3⟩, a4, a5, a6, ⟨a7, a8, a9, a10⟩, ⟨a11, a12, a13, a14⟩⟩ : Arm) && inB width 12 80))], [])
  | _ => none
theorem eok_WrapArmsU : EntryOk Tryz.prog e_WrapArmsU := pureM_ok (by unfold isBody; kernel_rfl) (by
  intro a r ob e hob
  split at e
  · rename_i a0 a1 a2 a3 a4 a5 a6 a7 a8 a9 a10 a11 a12 a13 a14 width
    simp only [Option.some.injEq, Prod.mk.injEq] at e
    obtain ⟨rfl, rfl⟩ := e
    exact ConN.args (.cons .rfl (.cons .rfl .nil)) (c_WrapArmsU (⟨⟨a0, a1, a2, a3⟩, a4, a5, a6, ⟨a7, a8, a9, a10⟩, ⟨a11, a12, a13, a14⟩⟩ : Arm) width )
  · simp at e)
theorem c_vTexts (a : List ByteArray) (b : List ByteArray) (h0 : a.length ≤ 100000000) : ConN Tryz.prog 13 [.vec 1 (stdH Nat fun _ => (a).length) (rowsS stdH fun _ => a), .vec 1 (stdH Nat fun _ => (b).length) (rowsS stdH fun _ => b)] [] 0 (.lit (.bool (stdH Bool fun _ => decide (a = b)))) [] [] := by
  have hB : Base Tryz.prog (tabΓ []) tab := base_of tabOk (ents_nil)
  refine con_m (N := 26) hB (draw_ok hB mixed) Tryz.func13 rfl rfl (fun H => [.vec 1 (H Nat fun _ => (a).length) (rowsS H fun _ => a), .vec 1 (H Nat fun _ => (b).length) (rowsS H fun _ => b)]) (fun _ => []) 0 (fun H => .lit (.bool (H Bool fun _ => decide (a = b)))) (fun H => []) (fun _ => []) 100 (by simp) (fun x hx => ?_) (by simp [lk]) (by omega) (by simp) ?_
  · simp only [List.mem_cons, List.not_mem_nil, or_false] at hx
    rcases hx with rfl | rfl
    · exact vl_bl okS a _
    · exact vl_bl okS b _
  intro X hX hX0 H hH
  conv in Fin.chk _ _ => cbv
  try simp only [Plain_rowsA, Plain_rowsB, Plain_rowsC, Plain_rowsF, Plain_rowsG, Plain_rowsI, Plain_rowsS, Plain_rowsU, Fin.satC_ret, Fin.satC_br, Fin.satC_need, Fin.satC_again, AllP, and_true, true_and, upd, List.length_nil, List.length_cons, Nat.zero_add, if_true, ncast, Int.ofNat_eq_natCast]
  refine ⟨fun h => ?_, fun h => ?_⟩
  · simp only [hH, stdH, decide_eq_true_eq, decide_eq_false_iff_not, Bool.not_eq_true', Bool.not_eq_false', peta, ncast, Int.ofNat_eq_natCast, beq_iff_eq, bne_iff_ne, beq_eq_false_iff_ne, bne_eq_false_iff_eq, ne_eq, Classical.not_not, Int.toNat_natCast, vrow_I, Arm.eta2, Fld.eta, Grp.eta] at h ⊢
    rintro rfl; exact h rfl
  simp only [hH, stdH, decide_eq_true_eq, decide_eq_false_iff_not, Bool.not_eq_true', Bool.not_eq_false', peta, ncast, Int.ofNat_eq_natCast, beq_iff_eq, bne_iff_ne, beq_eq_false_iff_ne, bne_eq_false_iff_eq, ne_eq, Classical.not_not, Int.toNat_natCast, vrow_I, Arm.eta2, Fld.eta, Grp.eta] at h
  refine loop_a hB (draw_ok hB mixed) hX hX0 hH false (ι := { i : Nat // i ≤ a.length ∧ ∀ j, j < i → a.getD j ByteArray.empty = b.getD j ByteArray.empty }) 100 (fun i => [.i (H Int fun _ => (i.1 : Nat))]) (fun i => a.length - i.1) (⟨0, by omega, by omega⟩) ?_ ?_
  · (conv in matchSt _ _ _ _ => cbv); simp only [AllG, AllP, and_true, hH, stdH, ncast, Int.ofNat_eq_natCast, vrow_I, Arm.eta2, Fld.eta, Grp.eta]
    (repeat' (first | rfl | trivial | exact RowsEq.self okS | exact RowsEq.ofT okS rfl (Shp_zero _) rfl | exact RowsEq.snoc okS rfl | exact RowsEq.self okI | exact RowsEq.self okRA | exact List.length_append | refine And.intro ?_ ?_))
  · intro I hI i
    conv in Fin.chk _ _ => cbv
    try simp only [Plain_rowsA, Plain_rowsB, Plain_rowsC, Plain_rowsF, Plain_rowsG, Plain_rowsI, Plain_rowsS, Plain_rowsU, Fin.satC_ret, Fin.satC_br, Fin.satC_need, Fin.satC_again, AllP, and_true, true_and, upd, List.length_nil, List.length_cons, Nat.zero_add, if_true, ncast, Int.ofNat_eq_natCast]
    obtain ⟨i, hi, hj⟩ := i
    refine ⟨fun h1 => ⟨?_, ?_, fun h2 => ?_, fun h2 => ?_⟩, fun h1 => ?_⟩
    · simp only [hH, stdH, decide_eq_true_eq, decide_eq_false_iff_not, Bool.not_eq_true', Bool.not_eq_false', peta, ncast, Int.ofNat_eq_natCast, beq_iff_eq, bne_iff_ne, beq_eq_false_iff_ne, bne_eq_false_iff_eq, ne_eq, Classical.not_not, Int.toNat_natCast, vrow_I, Arm.eta2, Fld.eta, Grp.eta] at h1 ⊢
      omega
    · simp only [hH, stdH, decide_eq_true_eq, decide_eq_false_iff_not, Bool.not_eq_true', Bool.not_eq_false', peta, ncast, Int.ofNat_eq_natCast, beq_iff_eq, bne_iff_ne, beq_eq_false_iff_ne, bne_eq_false_iff_eq, ne_eq, Classical.not_not, Int.toNat_natCast, vrow_I, Arm.eta2, Fld.eta, Grp.eta] at h1 ⊢
      omega
    · simp only [hH, stdH, Int.toNat_natCast, beqT, Bool.not_eq_true', decide_eq_false_iff_not] at h2 ⊢
      rintro rfl; exact h2 rfl
    · simp only [hH, stdH, decide_eq_true_eq, decide_eq_false_iff_not, Bool.not_eq_true', Bool.not_eq_false', peta, ncast, Int.ofNat_eq_natCast, beq_iff_eq, bne_iff_ne, beq_eq_false_iff_ne, bne_eq_false_iff_eq, ne_eq, Classical.not_not, Int.toNat_natCast, vrow_I, Arm.eta2, Fld.eta, Grp.eta] at h1
      simp only [hH, stdH, Int.toNat_natCast, beqT, Bool.not_eq_false', decide_eq_true_eq] at h2
      refine ⟨⟨i + 1, by omega, fun j hj' => ?_⟩, by simp only; omega, ?_⟩
      · rcases Nat.lt_succ_iff_lt_or_eq.1 hj' with h | rfl
        · exact hj j h
        · exact h2
      · rw [hI]
        (conv in matchSt _ _ _ _ => cbv); simp only [AllG, AllP, and_true, hH, stdH, ncast, Int.ofNat_eq_natCast, vrow_I, Arm.eta2, Fld.eta, Grp.eta]
        rw [w1 (by omega)]
        (repeat' (first | rfl | trivial | exact RowsEq.self okS | exact RowsEq.ofT okS rfl (Shp_zero _) rfl | exact RowsEq.snoc okS rfl | exact RowsEq.self okI | exact RowsEq.self okRA | exact List.length_append | refine And.intro ?_ ?_))
    · simp only [hH, stdH, decide_eq_true_eq, decide_eq_false_iff_not, Bool.not_eq_true', Bool.not_eq_false', peta, ncast, Int.ofNat_eq_natCast, beq_iff_eq, bne_iff_ne, beq_eq_false_iff_ne, bne_eq_false_iff_eq, ne_eq, Classical.not_not, Int.toNat_natCast, vrow_I, Arm.eta2, Fld.eta, Grp.eta] at h1 ⊢
      obtain rfl : i = a.length := by omega
      exact list_extS (by omega) hj
noncomputable def e_vTexts : Entry := pureE 13 fun H a => match a with
  | [.vec 1 an af, .vec 1 bn bf] => some (.lit (.bool (H Bool fun _ => decide ((Tl rowS an af) = (Tl rowS bn bf)))), [H Prop fun _ => Shp rowS an af, H Prop fun _ => Shp rowS bn bf, H Prop fun _ => (Tl rowS an af).length ≤ 100000000])
  | _ => none
theorem eok_vTexts : EntryOk Tryz.prog e_vTexts := pureM_ok (by unfold isBody; kernel_rfl) (by
  intro a r ob e hob
  split at e
  · rename_i an af bn bf
    simp only [Option.some.injEq, Prod.mk.injEq] at e
    obtain ⟨rfl, rfl⟩ := e
    exact ConN.args (.cons (.toT okS rfl hob.1) (.cons (.toT okS rfl hob.2.1) .nil)) (c_vTexts (Tl rowS an af) (Tl rowS bn bf) hob.2.2.1)
  · simp at e)
/-! ### Lines joined -/
def jf (a x : ByteArray) : ByteArray := a ++ (spB ++ x)
def jW : List ByteArray → ByteArray
  | [] => ByteArray.empty
  | w :: ws => ws.foldl jf w
theorem jf_pre (x : ByteArray) : ∀ (ws : List ByteArray) (a : ByteArray), ws.foldl jf (x ++ a) = x ++ ws.foldl jf a
  | [], _ => rfl
  | w :: ws, a => by
    show ws.foldl jf (jf (x ++ a) w) = x ++ ws.foldl jf (jf a w)
    rw [← jf_pre x ws (jf a w)]
    unfold jf
    rw [ByteArray.append_assoc]
theorem jW_snoc (d : List ByteArray) (n : ByteArray) (h : d ≠ []) : jW (d ++ [n]) = jW d ++ (spB ++ n) := by
  cases d with
  | nil => exact absurd rfl h
  | cons e d => show (d ++ [n]).foldl jf e = jf (d.foldl jf e) n; rw [List.foldl_append]; rfl
theorem jW_merge (d : List ByteArray) (n w : ByteArray) (ws : List ByteArray) : jW (d ++ (n ++ (spB ++ w)) :: ws) = jW (d ++ n :: w :: ws) := by
  cases d with
  | nil => rfl
  | cons e d =>
    show (d ++ (n ++ (spB ++ w)) :: ws).foldl jf e = (d ++ n :: w :: ws).foldl jf e
    rw [List.foldl_append, List.foldl_append]
    show ws.foldl jf (jf (d.foldl jf e) (n ++ (spB ++ w))) = ws.foldl jf (jf (jf (d.foldl jf e) n) w)
    congr 1
    unfold jf
    simp only [ByteArray.append_assoc]
theorem jW_wrap2 (width : Int) : ∀ (ws d : List ByteArray) (n : ByteArray), jW (wrap2 width d n ws) = jW (d ++ n :: ws)
  | [], d, n => by unfold wrap2; rfl
  | w :: ws, d, n => by
    unfold wrap2
    split
    · rw [jW_wrap2 width ws d (n ++ (spB ++ w)), jW_merge]
    · rw [jW_wrap2 width ws (d ++ [n]) w, List.append_assoc]; rfl
theorem ofL_cons (b : UInt8) (l : List UInt8) : ofL (b :: l) = ofL [b] ++ ofL l := by
  apply ByteArray.ext; apply Array.ext'; simp [ofL]
theorem jW_spl : ∀ l : List UInt8, jW ((spl l).map ofL) = ofL l
  | [] => rfl
  | b :: l => by
    have ih := jW_spl l
    rw [spl_cons, ofL_cons]
    cases e : spl l with
    | nil => exact absurd e (spl_ne _)
    | cons w ws =>
      rw [e] at ih
      split
      · rename_i hb
        subst hb
        show (ws.map ofL).foldl jf (jf (ofL []) (ofL w)) = _
        have : jf (ofL []) (ofL w) = ofL [32] ++ ofL w := empty_app _
        rw [this, jf_pre]
        exact congrArg _ ih
      · show (ws.map ofL).foldl jf (ofL (b :: w)) = _
        rw [ofL_cons, jf_pre]
        exact congrArg _ ih
theorem jW_words (s : ByteArray) : jW (wordsB s) = s := by
  have := jW_spl s.data.toList
  exact this
theorem jW_wrapT (s : ByteArray) (width : Int) : jW (wrapT s width) = s := by
  have h := jW_words s
  unfold wrapT wrapL
  cases e : wordsB s with
  | nil => rw [e] at h; exact h
  | cons w ws =>
    rw [e] at h
    show jW (wrap2 width [] w ws) = s
    rw [jW_wrap2]; exact h
theorem jW_take {L : List ByteArray} {i : Nat} (h : i < L.length) : jW (L.take (i + 1)) = if i = 0 then L.getD i ByteArray.empty else jW (L.take i) ++ (spB ++ L.getD i ByteArray.empty) := by
  rw [List.take_succ_eq_append_getElem h, List.getD_eq_getElem?_getD, List.getElem?_eq_getElem h]
  split
  · rename_i h0; subst h0; rfl
  · rename_i h0
    refine jW_snoc _ _ fun e => ?_
    have := congrArg List.length e
    rw [List.length_take, List.length_nil] at this
    omega
theorem jf_sz : ∀ (ws : List ByteArray) (a : ByteArray), a.size ≤ (ws.foldl jf a).size
  | [], _ => Nat.le_refl _
  | w :: ws, a => by
    refine Nat.le_trans ?_ (jf_sz ws (jf a w))
    unfold jf
    rw [ByteArray.size_append]; omega
theorem jW_sz (L : List ByteArray) (i : Nat) : (jW (L.take i)).size ≤ (jW L).size := by
  cases L with
  | nil => rw [List.take_nil]; exact Nat.le_refl _
  | cons w ws =>
    cases i with
    | zero => exact Nat.zero_le _
    | succ i =>
      show ((ws.take i).foldl jf w).size ≤ (ws.foldl jf w).size
      conv => rhs; rw [← List.take_append_drop i ws, List.foldl_append]
      exact jf_sz _ _

end Go.Proofs.YtdicfibonfjalaaGreatDoor.AM
