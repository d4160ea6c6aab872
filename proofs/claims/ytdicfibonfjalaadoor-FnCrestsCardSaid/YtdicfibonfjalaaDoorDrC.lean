import Derived.Test.YtdicfibonfjalaaDoorWre
set_option linter.unusedVariables false
set_option linter.unusedSimpArgs false
set_option maxRecDepth 100000
set_option maxHeartbeats 4000000
set_option cbv.maxSteps 3000000
namespace Go.Proofs.YtdicfibonfjalaaDoor.AM
/- Crests are drawn; conditions: none. -/
def enc_crest (H : Hold) (y : Unit → Crs) : AV := .agg [.lit (.int .i64 (H Int fun _ => (((y ())).k))), .lit (.int .i64 (H Int fun _ => (((y ())).a))), .lit (.int .i64 (H Int fun _ => (((y ())).t))), .lit (.int .i64 (H Int fun _ => (((y ())).r)))]
theorem x_crest (c : Cd)  (st : DS) (h : Bd 16 st)  : ∃ y, Drw Tryd.prog 74 63 16 enc_crest (fun _ => True) c [] st y := by
  have hB : Base Tryd.prog (tabΓ [e_group c, e_pick c, e_among c, e_anyTincture c]) tab := base_of tabOk (ents_cons (eok_group c) <| ents_cons (eok_pick c) <| ents_cons (eok_among c) <| ents_cons (eok_anyTincture c) <| ents_nil)
  refine drw_ok (N := 43) hB (draw_ok hB mixed) Tryd.func63 rfl rfl _ _ _ _ _ _ _ 150 (by simp) (by intro x hx; simp at hx; (first | done | (subst hx; first | (first | exact .lit | exact blq_ok 4 rfl) | exact .vec (fun j hj x hx => by simp [vrow] at hx; subst hx; exact .lit)) | (rcases hx with rfl | rfl <;> (first | exact .lit | exact blq_ok 4 rfl)) | (rcases hx with rfl | rfl | rfl <;> (first | exact .lit | exact blq_ok 4 rfl)))) ?_
  intro H hH
  conv in finish _ _ _ _ _ _ _ _ => cbv
  subst hH
  simp only [Fin.sat0, Fin.sat1, stdH, Option.some.injEq, AV.lit.injEq, AV.agg.injEq, AV.tup.injEq, List.cons.injEq, Value.bool.injEq, Value.int.injEq, AllP, and_true, true_and, eq_self, decide_eq_true_eq, decide_eq_false_iff_not, Bool.not_eq_true', Bool.not_eq_false', peta, ncast]
  have a1 := (p_group c st (Bd.mono (by assumption))).1; generalize F_group c st = y1 at *; have b1 : Bd 8 y1.2 := a1.bd (by assumption)
  have a2 := (p_pick c 5 y1.2 (Bd.mono (by assumption))).1; generalize F_pick c 5 y1.2 = y2 at *; have b2 : Bd 6 y2.2 := a2.bd (by assumption)
  have a3 := (p_pick c 30 y2.2 (Bd.mono (by assumption))).1; generalize F_pick c 30 y2.2 = y3 at *; have b3 : Bd 4 y3.2 := a3.bd (by assumption)
  have q4 := p_amongL c [.lit (.int .i64 0), .lit (.int .i64 6)] 2 y3.2 (by first | assumption | exact Bd.mono (by assumption)) rfl (by decide) (by decide); generalize F_among c 2 (ints (rowsOf 1 [.lit (.int .i64 0), .lit (.int .i64 6)])) y3.2 = y4 at *; simp only [List.map_cons, List.map_nil, intOf, List.mem_cons, List.not_mem_nil, or_false] at q4; obtain ⟨a4, q4⟩ := q4
  have q5 := p_amongL c [.lit (.int .i64 0), .lit (.int .i64 1), .lit (.int .i64 3)] 3 y3.2 (by first | assumption | exact Bd.mono (by assumption)) rfl (by decide) (by decide); generalize F_among c 3 (ints (rowsOf 1 [.lit (.int .i64 0), .lit (.int .i64 1), .lit (.int .i64 3)])) y3.2 = y5 at *; simp only [List.map_cons, List.map_nil, intOf, List.mem_cons, List.not_mem_nil, or_false] at q5; obtain ⟨a5, q5⟩ := q5
  have a6 := (p_anyTincture c y3.2 (Bd.mono (by assumption))).1; generalize F_anyTincture c y3.2 = y6 at *; have b6 : Bd 0 y6.2 := a6.bd (by assumption)
  have q7 := p_amongL c [.lit (.int .i64 0), .lit (.int .i64 9), .lit (.int .i64 1)] 3 y3.2 (by first | assumption | exact Bd.mono (by assumption)) rfl (by decide) (by decide); generalize F_among c 3 (ints (rowsOf 1 [.lit (.int .i64 0), .lit (.int .i64 9), .lit (.int .i64 1)])) y3.2 = y7 at *; simp only [List.map_cons, List.map_nil, intOf, List.mem_cons, List.not_mem_nil, or_false] at q7; obtain ⟨a7, q7⟩ := q7
  exact ⟨h.mono, b1.mono, b2.mono, fun _ => ⟨⟨b3.mono, vrow_ok _ rfl (by decide), by decide, by decide⟩, ⟨(⟨y1.1.k, y1.1.a, y1.1.t, y4.1⟩, y4.2), .refl, by unfold enc_crest; (first | exact .lit | exact blq_ok 4 rfl), rfl, (((a1.t a2).t a3).t a4).le (by decide)⟩⟩, fun _ => ⟨fun _ => ⟨⟨b3.mono, vrow_ok _ rfl (by decide), by decide, by decide⟩, ⟨(⟨y1.1.k, y5.1, y1.1.t, IntKind.i64.wrap (1 + y2.1)⟩, y5.2), .refl, by unfold enc_crest; (first | exact .lit | exact blq_ok 4 rfl), rfl, (((a1.t a2).t a3).t a5).le (by decide)⟩⟩,
    fun _ => ⟨fun _ => ⟨b3.mono, ⟨(⟨y1.1.k, y1.1.a, y6.1, IntKind.i64.wrap (1 + y2.1)⟩, y6.2), .refl, by unfold enc_crest; (first | exact .lit | exact blq_ok 4 rfl), rfl, (((a1.t a2).t a3).t a6).le (by decide)⟩⟩, fun _ => ⟨fun _ => ⟨⟨b3.mono, vrow_ok _ rfl (by decide), by decide, by decide⟩, ⟨(⟨y7.1, y1.1.a, y1.1.t, IntKind.i64.wrap (1 + y2.1)⟩, y7.2), .refl, by unfold enc_crest; (first | exact .lit | exact blq_ok 4 rfl), rfl, (((a1.t a2).t a3).t a7).le (by decide)⟩⟩, fun _ => ⟨(⟨y1.1.k, y1.1.a, y1.1.t, IntKind.i64.wrap (1 + y2.1)⟩, y3.2), .refl, by unfold enc_crest; (first | exact .lit | exact blq_ok 4 rfl), rfl, ((a1.t a2).t a3).le (by decide)⟩⟩⟩⟩⟩
noncomputable def F_crest (c : Cd)  (st : DS) : Crs × DS := drw Tryd.prog 74 63 16 enc_crest (fun _ => True) c [] st
noncomputable def e_crest (c : Cd) : Entry := curE 74 63 16 c fun H st a => match a with
  | [] => some (enc_crest H (fun _ => (F_crest c  st).1), (fun _ => (F_crest c  st).2), [])
  | _ => none
theorem eok_crest (c : Cd) : EntryOk Tryd.prog (e_crest c) := curE_ok (by unfold isBody; kernel_rfl) (by
  intro st a r y ob e hb hob
  split at e
  · simp only [Option.some.injEq, Prod.mk.injEq] at e
    obtain ⟨rfl, rfl, rfl⟩ := e
    exact ⟨(drw_spec (x_crest c  st hb)).1, (by intro x hx; cases hx), (by unfold enc_crest; (first | exact .lit | exact blq_ok 4 rfl))⟩
  · simp at e)
theorem p_crest (c : Cd)  (st : DS) (h : Bd 16 st)  : Adv 16 st (F_crest c  st).2 ∧ (fun _ => True) (F_crest c  st).1 := (drw_spec (x_crest c  st h )).2
def enc_rBig (H : Hold) (y : Unit → Bool) : AV := .lit (.bool (H Bool fun _ => ((y ()))))
theorem x_rBig (c : Cd) : ∃ y : Bool, Con Tryd.prog 17 [codeAV c] [] (enc_rBig stdH fun _ => y) [] ∧ Bl 0 (enc_rBig stdH fun _ => y) ∧ (fun _ => True) y := by
  have hB : Base Tryd.prog (tabΓ []) tab := base_of tabOk (ents_nil)
  refine df_ok (N := 6) hB (draw_ok hB mixed) Tryd.func17 rfl rfl _ _ _ 50 (by simp) ?_
  intro H hH
  conv in finish _ _ _ _ _ _ _ _ => cbv
  subst hH
  simp only [Fin.sat0, Fin.sat1, stdH, Option.some.injEq, AV.lit.injEq, AV.agg.injEq, AV.tup.injEq, List.cons.injEq, Value.bool.injEq, Value.int.injEq, AllP, and_true, true_and, eq_self, decide_eq_true_eq, decide_eq_false_iff_not, Bool.not_eq_true', Bool.not_eq_false', peta, ncast]
  exact ⟨_, .refl, .lit⟩
noncomputable def F_rBig (c : Cd) : Bool := dfw Tryd.prog 17 enc_rBig (fun _ => True) c
noncomputable def e_rBig (c : Cd) : Entry := codeE 17 c fun H => enc_rBig H fun _ => F_rBig c
theorem eok_rBig (c : Cd) : EntryOk Tryd.prog (e_rBig c) := codeE_ok (by unfold isBody; kernel_rfl) (dfw_spec (x_rBig c)).1
theorem p_rBig (c : Cd) : (fun _ => True) (F_rBig c) := (dfw_spec (x_rBig c)).2.2
structure AN where
  a : Arm
  n : Int
deriving Inhabited
structure CA where
  z : Crs
  a : Arm
deriving Inhabited

end Go.Proofs.YtdicfibonfjalaaDoor.AM
