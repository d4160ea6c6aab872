import Derived.Test.YthacffbofjfcjaaWre
set_option linter.unusedVariables false
set_option linter.unusedSimpArgs false
set_option maxRecDepth 100000
set_option maxHeartbeats 4000000
set_option cbv.maxSteps 3000000
namespace Go.Proofs.Ythacffbofjfcjaa.AM
/- Crests are drawn; conditions: none. -/
def enc_crest (H : Hold) (y : Unit → Crs) : AV := .agg [.lit (.int .i64 (H Int fun _ => (((y ())).k))), .lit (.int .i64 (H Int fun _ => (((y ())).a))), .lit (.int .i64 (H Int fun _ => (((y ())).t))), .lit (.int .i64 (H Int fun _ => (((y ())).r)))]
theorem x_crest (c : Cd)  (st : DS) (h : Bd 16 st)  : ∃ y, Drw Try.prog 76 90 16 enc_crest (fun _ => True) c [] st y := by
  have hB : Base Try.prog (tabΓ [e_group c, e_pick c, e_among c, e_anyTincture c]) tab := base_of tabOk (ents_cons (eok_group c) <| ents_cons (eok_pick c) <| ents_cons (eok_among c) <| ents_cons (eok_anyTincture c) <| ents_nil)
  refine drw_ok (N := 43) hB (draw_ok hB mixed) Try.func90 rfl rfl _ _ _ _ _ _ _ 150 (by simp) (by intro x hx; simp at hx; (first | done | (subst hx; first | (first | exact .lit | exact blq_ok 4 rfl) | exact .vec (fun j hj x hx => by simp [vrow] at hx; subst hx; exact .lit)) | (rcases hx with rfl | rfl <;> (first | exact .lit | exact blq_ok 4 rfl)) | (rcases hx with rfl | rfl | rfl <;> (first | exact .lit | exact blq_ok 4 rfl)))) ?_
  intro H hH
  conv in finish _ _ _ _ _ _ _ _ => cbv
  subst hH
  simp only [Fin.sat0, Fin.sat1, stdH, Option.some.injEq, AV.lit.injEq, AV.agg.injEq, AV.tup.injEq, List.cons.injEq, Value.bool.injEq, Value.int.injEq, AllP, and_true, true_and, eq_self, decide_eq_true_eq, decide_eq_false_iff_not, Bool.not_eq_true', Bool.not_eq_false', peta, ncast]
  have a1 := (p_group c st (Bd.mono (by assumption))).1; generalize F_group c st = y1 at *; have b1 : Bd 8 y1.2 := a1.bd (by assumption)
  have a2 := (p_pick c 5 y1.2 (Bd.mono (by assumption))).1; generalize F_pick c 5 y1.2 = y2 at *; have b2 : Bd 6 y2.2 := a2.bd (by assumption)
  have a3 := (p_pick c 30 y2.2 (Bd.mono (by assumption))).1; generalize F_pick c 30 y2.2 = y3 at *; have b3 : Bd 4 y3.2 := a3.bd (by assumption)
  have q4 := p_amongL c [.lit (.int .i64 0), .lit (.int .i64 6)] 2 y3.2 (by first | assumption | exact Bd.mono (by assumption)) rfl (by decide) (by decide); generalize F_among c 2 (ints (rowsOf 1 [.lit (.int .i64 0), .lit (.int .i64 6)])) y3.2 = y4 at *; simp only [List.map_cons, List.map_nil, intOf, List.mem_cons, List.not_mem_nil, or_false] at q4; obtain ⟨a4, q4⟩ := q4
  have q5 := p_amongL c [.lit (.int .i64 0), .lit (.int .i64 1), .lit (.int .i64 3)] 3 y3.2 (by first | assumption | exact Bd.mono (by assumption)) rfl (by decide) (by decide); generalize F_among c 3 (ints (rowsOf 1 [.lit (.int .i64 0), .lit (.int .i64 1), .lit (.int .i64 3)])) y3.2 = y5 at *; simp only [List.map_cons, List.map_nil, intOf, List.mem_cons, List.not_mem_nil, or_false] at q5; obtain ⟨a5, q5⟩ := q5
  have a6 := (p_anyTincture c y3.2 (Bd.mono (by assumption))).1; generalize F_anyTincture c y3.2 = y6 at *; have b6 : Bd 0 y6.2 := a6.bd (by assumption)
  have q7 := p_amongL c [.lit (.int .i64 0), .lit (.int .i64 9), .lit (.int .i64 1)] 3 y3.2 (by first | assumption | exact Bd.mono (by assumption)) rfl (by decide) (by decide); generalize F_among c 3 (ints (rowsOf 1 [.lit (.int .i64 0), .lit (.int .i64 9), .lit (.int .i64 1)])) y3.2 = y7 at *; simp only [List.map_cons, List.map_nil, intOf, List.mem_cons, List.not_mem_nil, or_false] at q7; obtain ⟨a7, q7⟩ := q7
  exact ⟨h.mono, b1.mono, b2.mono, fun _ => ⟨⟨b3.mono, vrow_ok _ rfl (by decide), by decide, by decide⟩, ⟨(⟨y1.1.k, y1.1.a, y1.1.t, y4.1⟩, y4.2), .refl, by unfold enc_crest; (first | exact .lit | exact blq_ok 4 rfl), rfl, (((a1.t a2).t a3).t a4).le (by decide)⟩⟩, fun _ => ⟨fun _ => ⟨⟨b3.mono, vrow_ok _ rfl (by decide), by decide, by decide⟩, ⟨(⟨y1.1.k, y5.1, y1.1.t, IntKind.i64.wrap (1 + y2.1)⟩, y5.2), .refl, by unfold enc_crest; (first | exact .lit | exact blq_ok 4 rfl), rfl, (((a1.t a2).t a3).t a5).le (by decide)⟩⟩,
    fun _ => ⟨fun _ => ⟨b3.mono, ⟨(⟨y1.1.k, y1.1.a, y6.1, IntKind.i64.wrap (1 + y2.1)⟩, y6.2), .refl, by unfold enc_crest; (first | exact .lit | exact blq_ok 4 rfl), rfl, (((a1.t a2).t a3).t a6).le (by decide)⟩⟩, fun _ => ⟨fun _ => ⟨⟨b3.mono, vrow_ok _ rfl (by decide), by decide, by decide⟩, ⟨(⟨y7.1, y1.1.a, y1.1.t, IntKind.i64.wrap (1 + y2.1)⟩, y7.2), .refl, by unfold enc_crest; (first | exact .lit | exact blq_ok 4 rfl), rfl, (((a1.t a2).t a3).t a7).le (by decide)⟩⟩, fun _ => ⟨(⟨y1.1.k, y1.1.a, y1.1.t, IntKind.i64.wrap (1 + y2.1)⟩, y3.2), .refl, by unfold enc_crest; (first | exact .lit | exact blq_ok 4 rfl), rfl, ((a1.t a2).t a3).le (by decide)⟩⟩⟩⟩⟩
noncomputable def F_crest (c : Cd)  (st : DS) : Crs × DS := drw Try.prog 76 90 16 enc_crest (fun _ => True) c [] st
noncomputable def e_crest (c : Cd) : Entry := curE 76 90 16 c fun H st a => match a with
  | [] => some (enc_crest H (fun _ => (F_crest c  st).1), (fun _ => (F_crest c  st).2), [])
  | _ => none
theorem eok_crest (c : Cd) : EntryOk Try.prog (e_crest c) := curE_ok (by unfold isBody; kernel_rfl) (by
  intro st a r y ob e hb hob
  split at e
  · simp only [Option.some.injEq, Prod.mk.injEq] at e
    obtain ⟨rfl, rfl, rfl⟩ := e
    exact ⟨(drw_spec (x_crest c  st hb)).1, (by intro x hx; cases hx), (by unfold enc_crest; (first | exact .lit | exact blq_ok 4 rfl))⟩
  · simp at e)
theorem p_crest (c : Cd)  (st : DS) (h : Bd 16 st)  : Adv 16 st (F_crest c  st).2 ∧ (fun _ => True) (F_crest c  st).1 := (drw_spec (x_crest c  st h )).2
def enc_rBig (H : Hold) (y : Unit → Bool) : AV := .lit (.bool (H Bool fun _ => ((y ()))))
theorem x_rBig (c : Cd) : ∃ y : Bool, Con Try.prog 39 [codeAV c] [] (enc_rBig stdH fun _ => y) [] ∧ Bl 0 (enc_rBig stdH fun _ => y) ∧ (fun _ => True) y := by
  have hB : Base Try.prog (tabΓ []) tab := base_of tabOk (ents_nil)
  refine df_ok (N := 6) hB (draw_ok hB mixed) Try.func39 rfl rfl _ _ _ 50 (by simp) ?_
  intro H hH
  conv in finish _ _ _ _ _ _ _ _ => cbv
  subst hH
  simp only [Fin.sat0, Fin.sat1, stdH, Option.some.injEq, AV.lit.injEq, AV.agg.injEq, AV.tup.injEq, List.cons.injEq, Value.bool.injEq, Value.int.injEq, AllP, and_true, true_and, eq_self, decide_eq_true_eq, decide_eq_false_iff_not, Bool.not_eq_true', Bool.not_eq_false', peta, ncast]
  exact ⟨_, .refl, .lit⟩
noncomputable def F_rBig (c : Cd) : Bool := dfw Try.prog 39 enc_rBig (fun _ => True) c
noncomputable def e_rBig (c : Cd) : Entry := codeE 39 c fun H => enc_rBig H fun _ => F_rBig c
theorem eok_rBig (c : Cd) : EntryOk Try.prog (e_rBig c) := codeE_ok (by unfold isBody; kernel_rfl) (dfw_spec (x_rBig c)).1
theorem p_rBig (c : Cd) : (fun _ => True) (F_rBig c) := (dfw_spec (x_rBig c)).2.2
def enc_DrawWreathOf (H : Hold) (y : Unit → Arm) : AV := .agg [.lit (.int .i64 (H Int fun _ => (((y ())).f.d))), .lit (.int .i64 (H Int fun _ => (((y ())).f.l))), .lit (.int .i64 (H Int fun _ => (((y ())).f.p))), .lit (.int .i64 (H Int fun _ => (((y ())).f.q))), .lit (.int .i64 (H Int fun _ => (((y ())).o))), .lit (.int .i64 (H Int fun _ => (((y ())).l))), .lit (.int .i64 (H Int fun _ => (((y ())).t))), .lit (.int .i64 (H Int fun _ => (((y ())).n.c))), .lit (.int .i64 (H Int fun _ => (((y ())).n.k))), .lit (.int .i64 (H Int fun _ => (((y ())).n.a))), .lit (.int .i64 (H Int fun _ => (((y ())).n.t))), .lit (.int .i64 (H Int fun _ => (((y ())).r.c))), .lit (.int .i64 (H Int fun _ => (((y ())).r.k))), .lit (.int .i64 (H Int fun _ => (((y ())).r.a))), .lit (.int .i64 (H Int fun _ => (((y ())).r.t)))]
theorem x_DrawWreathOf (c : Cd) : ∃ y : Arm, Con Try.prog 40 [codeAV c] [] (enc_DrawWreathOf stdH fun _ => y) [] ∧ Bl 0 (enc_DrawWreathOf stdH fun _ => y) ∧ (fun _ => True) y := by
  have hB : Base Try.prog (tabΓ [e_anyArms c]) tab := base_of tabOk (ents_cons (eok_anyArms c) <| ents_nil)
  refine df_ok (N := 9) hB (draw_ok hB mixed) Try.func40 rfl rfl _ _ _ 60 (by simp) ?_
  intro H hH
  conv in finish _ _ _ _ _ _ _ _ => cbv
  subst hH
  simp only [Fin.sat0, Fin.sat1, stdH, Option.some.injEq, AV.lit.injEq, AV.agg.injEq, AV.tup.injEq, List.cons.injEq, Value.bool.injEq, Value.int.injEq, AllP, and_true, true_and, eq_self, decide_eq_true_eq, decide_eq_false_iff_not, Bool.not_eq_true', Bool.not_eq_false', peta, ncast]
  have h : Bd 64 (0, 0) := ⟨by decide, by decide⟩
  exact ⟨h.mono, (F_anyArms c (0, 0)).1, .refl, by unfold enc_DrawWreathOf; (first | exact .lit | exact blq_ok 4 rfl)⟩
noncomputable def F_DrawWreathOf (c : Cd) : Arm := dfw Try.prog 40 enc_DrawWreathOf (fun _ => True) c
noncomputable def e_DrawWreathOf (c : Cd) : Entry := codeE 40 c fun H => enc_DrawWreathOf H fun _ => F_DrawWreathOf c
theorem eok_DrawWreathOf (c : Cd) : EntryOk Try.prog (e_DrawWreathOf c) := codeE_ok (by unfold isBody; kernel_rfl) (dfw_spec (x_DrawWreathOf c)).1
theorem p_DrawWreathOf (c : Cd) : (fun _ => True) (F_DrawWreathOf c) := (dfw_spec (x_DrawWreathOf c)).2.2
structure AN where
  a : Arm
  n : Int
deriving Inhabited
def enc_DrawWreathRow (H : Hold) (y : Unit → AN) : AV := .tup [.agg [.lit (.int .i64 (H Int fun _ => (((y ()).a).f.d))), .lit (.int .i64 (H Int fun _ => (((y ()).a).f.l))), .lit (.int .i64 (H Int fun _ => (((y ()).a).f.p))), .lit (.int .i64 (H Int fun _ => (((y ()).a).f.q))), .lit (.int .i64 (H Int fun _ => (((y ()).a).o))), .lit (.int .i64 (H Int fun _ => (((y ()).a).l))), .lit (.int .i64 (H Int fun _ => (((y ()).a).t))), .lit (.int .i64 (H Int fun _ => (((y ()).a).n.c))), .lit (.int .i64 (H Int fun _ => (((y ()).a).n.k))), .lit (.int .i64 (H Int fun _ => (((y ()).a).n.a))), .lit (.int .i64 (H Int fun _ => (((y ()).a).n.t))), .lit (.int .i64 (H Int fun _ => (((y ()).a).r.c))), .lit (.int .i64 (H Int fun _ => (((y ()).a).r.k))), .lit (.int .i64 (H Int fun _ => (((y ()).a).r.a))), .lit (.int .i64 (H Int fun _ => (((y ()).a).r.t)))], .lit (.int .i64 (H Int fun _ => ((y ()).n)))]
theorem x_DrawWreathRow (c : Cd) : ∃ y : AN, Con Try.prog 46 [codeAV c] [] (enc_DrawWreathRow stdH fun _ => y) [] ∧ Bl 0 (enc_DrawWreathRow stdH fun _ => y) ∧ (fun _ => True) y := by
  have hB : Base Try.prog (tabΓ [e_anyArms c, e_pick c, e_among c]) tab := base_of tabOk (ents_cons (eok_anyArms c) <| ents_cons (eok_pick c) <| ents_cons (eok_among c) <| ents_nil)
  refine df_ok (N := 18) hB (draw_ok hB mixed) Try.func46 rfl rfl _ _ _ 60 (by simp) ?_
  intro H hH
  conv in finish _ _ _ _ _ _ _ _ => cbv
  subst hH
  simp only [Fin.sat0, Fin.sat1, stdH, Option.some.injEq, AV.lit.injEq, AV.agg.injEq, AV.tup.injEq, List.cons.injEq, Value.bool.injEq, Value.int.injEq, AllP, and_true, true_and, eq_self, decide_eq_true_eq, decide_eq_false_iff_not, Bool.not_eq_true', Bool.not_eq_false', peta, ncast]
  have h : Bd 64 (0, 0) := ⟨by decide, by decide⟩
  have a1 := (p_anyArms c (0, 0) (Bd.mono (by assumption))).1; generalize F_anyArms c (0, 0) = y1 at *; have b1 : Bd 10 y1.2 := a1.bd (by assumption)
  obtain ⟨a2, m2, n2⟩ := p_pick c 24 y1.2 b1.mono
  generalize F_pick c 24 y1.2 = y2 at *
  have b2 : Bd 8 y2.2 := a2.bd b1
  have t1 : y2.1.tdiv 11 = y2.1 / 11 := Int.tdiv_eq_ediv_of_nonneg m2
  rw [t1, wi (x := y2.1 / 11) (by omega) (by omega), wi (x := 4 + y2.1 / 11) (by omega) (by omega)]
  obtain ⟨w, hw⟩ : ∃ w, w = 4 + y2.1 / 11 := ⟨_, rfl⟩
  have hw1 : 4 ≤ w ∧ w ≤ 6 := by omega
  rw [← hw]
  have hl : loOf none = 0 := rfl
  have hh : hiOf 6 (some w) = w.toNat := rfl
  refine ⟨h.mono, b1.mono, by decide, ⟨trivial, by simp only; omega, by rw [hl]; omega, by rw [hh]; omega⟩, ⟨b2.mono, fun j hj => vrow_ok _ rfl (Nat.le_refl 6) (0 + j) (by rw [hh, hl] at hj; omega), by rw [hh, hl]; omega, by rw [hh, hl]; omega⟩, ⟨y1.1, _⟩, .refl, by unfold enc_DrawWreathRow; (first | exact .lit | exact blq_ok 4 rfl)⟩
noncomputable def F_DrawWreathRow (c : Cd) : AN := dfw Try.prog 46 enc_DrawWreathRow (fun _ => True) c
noncomputable def e_DrawWreathRow (c : Cd) : Entry := codeE 46 c fun H => enc_DrawWreathRow H fun _ => F_DrawWreathRow c
theorem eok_DrawWreathRow (c : Cd) : EntryOk Try.prog (e_DrawWreathRow c) := codeE_ok (by unfold isBody; kernel_rfl) (dfw_spec (x_DrawWreathRow c)).1
theorem p_DrawWreathRow (c : Cd) : (fun _ => True) (F_DrawWreathRow c) := (dfw_spec (x_DrawWreathRow c)).2.2
structure CA where
  z : Crs
  a : Arm
deriving Inhabited
def enc_DrawMatchesArms (H : Hold) (y : Unit → CA) : AV := .tup [.agg [.lit (.int .i64 (H Int fun _ => (((y ()).z).k))), .lit (.int .i64 (H Int fun _ => (((y ()).z).a))), .lit (.int .i64 (H Int fun _ => (((y ()).z).t))), .lit (.int .i64 (H Int fun _ => (((y ()).z).r)))], .agg [.lit (.int .i64 (H Int fun _ => (((y ()).a).f.d))), .lit (.int .i64 (H Int fun _ => (((y ()).a).f.l))), .lit (.int .i64 (H Int fun _ => (((y ()).a).f.p))), .lit (.int .i64 (H Int fun _ => (((y ()).a).f.q))), .lit (.int .i64 (H Int fun _ => (((y ()).a).o))), .lit (.int .i64 (H Int fun _ => (((y ()).a).l))), .lit (.int .i64 (H Int fun _ => (((y ()).a).t))), .lit (.int .i64 (H Int fun _ => (((y ()).a).n.c))), .lit (.int .i64 (H Int fun _ => (((y ()).a).n.k))), .lit (.int .i64 (H Int fun _ => (((y ()).a).n.a))), .lit (.int .i64 (H Int fun _ => (((y ()).a).n.t))), .lit (.int .i64 (H Int fun _ => (((y ()).a).r.c))), .lit (.int .i64 (H Int fun _ => (((y ()).a).r.k))), .lit (.int .i64 (H Int fun _ => (((y ()).a).r.a))), .lit (.int .i64 (H Int fun _ => (((y ()).a).r.t)))]]
theorem x_DrawMatchesArms (c : Cd) : ∃ y : CA, Con Try.prog 48 [codeAV c] [] (enc_DrawMatchesArms stdH fun _ => y) [] ∧ Bl 0 (enc_DrawMatchesArms stdH fun _ => y) ∧ (fun _ => True) y := by
  have hB : Base Try.prog (tabΓ [e_anyArms c, e_crest c, e_l4None, e_one c, e_l5Good, e_l22Wreath]) tab := base_of tabOk (ents_cons (eok_anyArms c) <| ents_cons (eok_crest c) <| ents_cons eok_l4None <| ents_cons (eok_one c) <| ents_cons eok_l5Good <| ents_cons eok_l22Wreath <| ents_nil)
  refine df_ok (N := 44) hB (draw_ok hB mixed) Try.func48 rfl rfl _ _ _ 90 (by simp) ?_
  intro H hH
  conv in finish _ _ _ _ _ _ _ _ => cbv
  subst hH
  simp only [Fin.sat0, Fin.sat1, stdH, Option.some.injEq, AV.lit.injEq, AV.agg.injEq, AV.tup.injEq, List.cons.injEq, Value.bool.injEq, Value.int.injEq, AllP, and_true, true_and, eq_self, decide_eq_true_eq, decide_eq_false_iff_not, Bool.not_eq_true', Bool.not_eq_false', peta, ncast]
  have h : Bd 84 (0, 0) := ⟨by decide, by decide⟩
  have a1 := (p_anyArms c (0, 0) (Bd.mono (by assumption))).1; generalize F_anyArms c (0, 0) = y1 at *; have b1 : Bd 30 y1.2 := a1.bd (by assumption)
  have a2 := (p_crest c y1.2 (Bd.mono (by assumption))).1; generalize F_crest c y1.2 = y2 at *; have b2 : Bd 14 y2.2 := a2.bd (by assumption)
  have a3 := (p_one c 2 y2.2 (Bd.mono (by assumption))).1; generalize F_one c 2 y2.2 = y3 at *; have b3 : Bd 12 y3.2 := a3.bd (by assumption)
  have a4 := (p_one c 2 y3.2 (Bd.mono (by assumption))).1; generalize F_one c 2 y3.2 = y4 at *; have b4 : Bd 10 y4.2 := a4.bd (by assumption)
  repeat' (first | exact Bd.mono (by assumption) | apply And.intro | intro _)
  all_goals first | exact ⟨⟨⟨y2.1.k, y2.1.a, y2.1.t, y2.1.r⟩, y1.1⟩, .refl, by unfold enc_DrawMatchesArms; (first | exact .lit | exact blq_ok 4 rfl)⟩ | exact ⟨⟨⟨y2.1.k, y2.1.a, wreM (tinS y1.1), y2.1.r⟩, y1.1⟩, .refl, by unfold enc_DrawMatchesArms; (first | exact .lit | exact blq_ok 4 rfl)⟩ | exact ⟨⟨⟨y1.1.r.k, y1.1.r.a, y2.1.t, y2.1.r⟩, y1.1⟩, .refl, by unfold enc_DrawMatchesArms; (first | exact .lit | exact blq_ok 4 rfl)⟩ | exact ⟨⟨⟨y1.1.r.k, y1.1.r.a, wreM (tinS y1.1), y2.1.r⟩, y1.1⟩, .refl, by unfold enc_DrawMatchesArms; (first | exact .lit | exact blq_ok 4 rfl)⟩
noncomputable def F_DrawMatchesArms (c : Cd) : CA := dfw Try.prog 48 enc_DrawMatchesArms (fun _ => True) c
noncomputable def e_DrawMatchesArms (c : Cd) : Entry := codeE 48 c fun H => enc_DrawMatchesArms H fun _ => F_DrawMatchesArms c
theorem eok_DrawMatchesArms (c : Cd) : EntryOk Try.prog (e_DrawMatchesArms c) := codeE_ok (by unfold isBody; kernel_rfl) (dfw_spec (x_DrawMatchesArms c)).1
theorem p_DrawMatchesArms (c : Cd) : (fun _ => True) (F_DrawMatchesArms c) := (dfw_spec (x_DrawMatchesArms c)).2.2

end Go.Proofs.Ythacffbofjfcjaa.AM
