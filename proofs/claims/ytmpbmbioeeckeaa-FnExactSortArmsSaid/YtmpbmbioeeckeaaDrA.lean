import Derived.Test.YtmpbmbioeeckeaaArm
set_option linter.unusedVariables false
set_option linter.unusedSimpArgs false
set_option maxRecDepth 100000
set_option maxHeartbeats 4000000
set_option cbv.maxSteps 3000000
namespace Go.Proofs.Ytmpbmbioeeckeaa.AM
/- Arms are drawn; conditions: none. -/
def enc_field (H : Hold) (y : Unit → Fld) : AV := .agg [.lit (.int .i64 (H Int fun _ => (((y ())).d))), .lit (.int .i64 (H Int fun _ => (((y ())).l))), .lit (.int .i64 (H Int fun _ => (((y ())).p))), .lit (.int .i64 (H Int fun _ => (((y ())).q)))]
theorem x_field (c : Cd)  (st : DS) (h : Bd 10 st)  : ∃ y, Drw Try.prog 80 45 10 enc_field (fun _ => True) c [] st y := by
  have hB : Base Try.prog (tabΓ [e_tincture c, e_one c, e_pick c, e_among c]) tab := base_of tabOk (ents_cons (eok_tincture c) <| ents_cons (eok_one c) <| ents_cons (eok_pick c) <| ents_cons (eok_among c) <| ents_nil)
  refine drw_ok (N := 27) hB (draw_ok hB mixed) Try.func45 rfl rfl _ _ _ _ _ _ _ 100 (by simp) (by intro x hx; simp at hx; (first | done | (subst hx; first | (first | exact .lit | exact blq_ok 4 rfl) | exact .vec (fun j hj x hx => by simp [vrow] at hx; subst hx; exact .lit)) | (rcases hx with rfl | rfl <;> (first | exact .lit | exact blq_ok 4 rfl)) | (rcases hx with rfl | rfl | rfl <;> (first | exact .lit | exact blq_ok 4 rfl)))) ?_
  intro H hH
  conv in finish _ _ _ _ _ _ _ _ => cbv
  subst hH
  simp only [Fin.sat0, Fin.sat1, stdH, Option.some.injEq, AV.lit.injEq, AV.agg.injEq, AV.tup.injEq, List.cons.injEq, Value.bool.injEq, Value.int.injEq, AllP, and_true, true_and, eq_self, decide_eq_true_eq, decide_eq_false_iff_not, Bool.not_eq_true', Bool.not_eq_false', peta, ncast]
  have a1 := (p_tincture c st (Bd.mono (by assumption))).1; generalize F_tincture c st = y1 at *; have b1 : Bd 8 y1.2 := a1.bd (by assumption)
  have a2 := (p_one c 2 y1.2 (Bd.mono (by assumption))).1; generalize F_one c 2 y1.2 = y2 at *; have b2 : Bd 6 y2.2 := a2.bd (by assumption)
  have a3 := (p_pick c 7 y2.2 (Bd.mono (by assumption))).1; generalize F_pick c 7 y2.2 = y3 at *; have b3 : Bd 4 y3.2 := a3.bd (by assumption)
  have q4 := p_amongL c [.lit (.int .i64 0), .lit (.int .i64 0), .lit (.int .i64 1), .lit (.int .i64 2), .lit (.int .i64 3), .lit (.int .i64 4)] 6 y3.2 (by first | assumption | exact Bd.mono (by assumption)) rfl (by decide) (by decide); generalize F_among c 6 (ints (rowsOf 1 [.lit (.int .i64 0), .lit (.int .i64 0), .lit (.int .i64 1), .lit (.int .i64 2), .lit (.int .i64 3), .lit (.int .i64 4)])) y3.2 = y4 at *; simp only [List.map_cons, List.map_nil, intOf, List.mem_cons, List.not_mem_nil, or_false] at q4; obtain ⟨a4, q4⟩ := q4
  have b4 : Bd 2 y4.2 := a4.bd b3
  have a5 := (p_pick c 8 y4.2 (Bd.mono (by assumption))).1; generalize F_pick c 8 y4.2 = y5 at *; have b5 : Bd 0 y5.2 := a5.bd (by assumption)
  exact ⟨h.mono, b1.mono, fun _ => ⟨(⟨_, _, _, _⟩, y2.2), .refl, by unfold enc_field; (first | exact .lit | exact blq_ok 4 rfl), rfl, (a1.t a2).le (by decide)⟩, fun _ => ⟨b2.mono, ⟨b3.mono, vrow_ok _ rfl (by decide), by decide, by decide⟩, b4, by decide, ⟨(⟨_, _, _, _⟩, y5.2), .refl, by unfold enc_field; (first | exact .lit | exact blq_ok 4 rfl), rfl, ((((a1.t a2).t a3).t a4).t a5).le (by decide)⟩⟩⟩
noncomputable def F_field (c : Cd)  (st : DS) : Fld × DS := drw Try.prog 80 45 10 enc_field (fun _ => True) c [] st
noncomputable def e_field (c : Cd) : Entry := curE 80 45 10 c fun H st a => match a with
  | [] => some (enc_field H (fun _ => (F_field c  st).1), (fun _ => (F_field c  st).2), [])
  | _ => none
theorem eok_field (c : Cd) : EntryOk Try.prog (e_field c) := curE_ok (by unfold isBody; kernel_rfl) (by
  intro st a r y ob e hb hob
  split at e
  · simp only [Option.some.injEq, Prod.mk.injEq] at e
    obtain ⟨rfl, rfl, rfl⟩ := e
    exact ⟨(drw_spec (x_field c  st hb)).1, (by intro x hx; cases hx), (by unfold enc_field; (first | exact .lit | exact blq_ok 4 rfl))⟩
  · simp at e)
theorem p_field (c : Cd)  (st : DS) (h : Bd 10 st)  : Adv 10 st (F_field c  st).2 ∧ (fun _ => True) (F_field c  st).1 := (drw_spec (x_field c  st h )).2
def enc_anyField (H : Hold) (y : Unit → Fld) : AV := .agg [.lit (.int .i64 (H Int fun _ => (((y ())).d))), .lit (.int .i64 (H Int fun _ => (((y ())).l))), .lit (.int .i64 (H Int fun _ => (((y ())).p))), .lit (.int .i64 (H Int fun _ => (((y ())).q)))]
theorem x_anyField (c : Cd)  (st : DS) (h : Bd 14 st)  : ∃ y, Drw Try.prog 80 71 14 enc_anyField (fun _ => True) c [] st y := by
  have hB : Base Try.prog (tabΓ [e_field c, e_pick c, e_among c]) tab := base_of tabOk (ents_cons (eok_field c) <| ents_cons (eok_pick c) <| ents_cons (eok_among c) <| ents_nil)
  refine drw_ok (N := 35) hB (draw_ok hB mixed) Try.func71 rfl rfl _ _ _ _ _ _ _ 100 (by simp) (by intro x hx; simp at hx; (first | done | (subst hx; first | (first | exact .lit | exact blq_ok 4 rfl) | exact .vec (fun j hj x hx => by simp [vrow] at hx; subst hx; exact .lit)) | (rcases hx with rfl | rfl <;> (first | exact .lit | exact blq_ok 4 rfl)) | (rcases hx with rfl | rfl | rfl <;> (first | exact .lit | exact blq_ok 4 rfl)))) ?_
  intro H hH
  conv in finish _ _ _ _ _ _ _ _ => cbv
  subst hH
  simp only [Fin.sat0, Fin.sat1, stdH, Option.some.injEq, AV.lit.injEq, AV.agg.injEq, AV.tup.injEq, List.cons.injEq, Value.bool.injEq, Value.int.injEq, AllP, and_true, true_and, eq_self, decide_eq_true_eq, decide_eq_false_iff_not, Bool.not_eq_true', Bool.not_eq_false', peta, ncast]
  have a1 := (p_field c st (Bd.mono (by assumption))).1; generalize F_field c st = y1 at *; have b1 : Bd 4 y1.2 := a1.bd (by assumption)
  have a2 := (p_pick c 24 y1.2 (Bd.mono (by assumption))).1; generalize F_pick c 24 y1.2 = y2 at *; have b2 : Bd 2 y2.2 := a2.bd (by assumption)
  have q3 := p_amongL c [.lit (.int .i64 (-1)), .lit (.int .i64 8), .lit (.int .i64 0), .lit (.int .i64 7), .lit (.int .i64 1)] 5 y2.2 (by first | assumption | exact Bd.mono (by assumption)) rfl (by decide) (by decide); generalize F_among c 5 (ints (rowsOf 1 [.lit (.int .i64 (-1)), .lit (.int .i64 8), .lit (.int .i64 0), .lit (.int .i64 7), .lit (.int .i64 1)])) y2.2 = y3 at *; simp only [List.map_cons, List.map_nil, intOf, List.mem_cons, List.not_mem_nil, or_false] at q3; obtain ⟨a3, q3⟩ := q3
  have q4 := p_amongL c [.lit (.int .i64 (-1)), .lit (.int .i64 5), .lit (.int .i64 1), .lit (.int .i64 4)] 4 y2.2 (by first | assumption | exact Bd.mono (by assumption)) rfl (by decide) (by decide); generalize F_among c 4 (ints (rowsOf 1 [.lit (.int .i64 (-1)), .lit (.int .i64 5), .lit (.int .i64 1), .lit (.int .i64 4)])) y2.2 = y4 at *; simp only [List.map_cons, List.map_nil, intOf, List.mem_cons, List.not_mem_nil, or_false] at q4; obtain ⟨a4, q4⟩ := q4
  have q5 := p_amongL c [.lit (.int .i64 0), .lit (.int .i64 10), .lit (.int .i64 9)] 3 y2.2 (by first | assumption | exact Bd.mono (by assumption)) rfl (by decide) (by decide); generalize F_among c 3 (ints (rowsOf 1 [.lit (.int .i64 0), .lit (.int .i64 10), .lit (.int .i64 9)])) y2.2 = y5 at *; simp only [List.map_cons, List.map_nil, intOf, List.mem_cons, List.not_mem_nil, or_false] at q5; obtain ⟨a5, q5⟩ := q5
  obtain ⟨a6, q6⟩ := p_amongL c [.lit (.int .i64 0), .lit (.int .i64 10), .lit (.int .i64 y1.1.p), .lit (.int .i64 9)] 4 y2.2 b2 rfl (by decide) (by decide)
  clear q6
  generalize F_among c 4 (ints (rowsOf 1 [.lit (.int .i64 0), .lit (.int .i64 10), .lit (.int .i64 y1.1.p), .lit (.int .i64 9)])) y2.2 = y6 at *
  exact ⟨h.mono, b1.mono, fun _ => ⟨⟨by assumption, vrow_ok _ rfl (by decide), by decide, by decide⟩, ⟨({ y1.1 with d := y3.1 }, y3.2), .refl, by unfold enc_anyField; (first | exact .lit | exact blq_ok 4 rfl), rfl, ((a1.t a2).t a3).le (by decide)⟩⟩, fun _ => ⟨fun _ => ⟨⟨by assumption, vrow_ok _ rfl (by decide), by decide, by decide⟩, ⟨({ y1.1 with l := y4.1 }, y4.2), .refl, by unfold enc_anyField; (first | exact .lit | exact blq_ok 4 rfl), rfl, ((a1.t a2).t a4).le (by decide)⟩⟩, fun _ => ⟨fun _ => ⟨⟨by assumption, vrow_ok _ rfl (by decide), by decide, by decide⟩, ⟨({ y1.1 with p := y5.1 }, y5.2), .refl, by unfold enc_anyField; (first | exact .lit | exact blq_ok 4 rfl), rfl, ((a1.t a2).t a5).le (by decide)⟩⟩, fun _ => ⟨fun _ => ⟨⟨by assumption, vrow_ok _ rfl (Nat.le_refl 4), by decide, by decide⟩, ⟨({ y1.1 with q := y6.1 }, y6.2), .refl, by unfold enc_anyField; (first | exact .lit | exact blq_ok 4 rfl), rfl, ((a1.t a2).t a6).le (by decide)⟩⟩, fun _ => ⟨(y1.1, y2.2), .refl, by unfold enc_anyField; (first | exact .lit | exact blq_ok 4 rfl), rfl, (a1.t a2).le (by decide)⟩⟩⟩⟩⟩
noncomputable def F_anyField (c : Cd)  (st : DS) : Fld × DS := drw Try.prog 80 71 14 enc_anyField (fun _ => True) c [] st
noncomputable def e_anyField (c : Cd) : Entry := curE 80 71 14 c fun H st a => match a with
  | [] => some (enc_anyField H (fun _ => (F_anyField c  st).1), (fun _ => (F_anyField c  st).2), [])
  | _ => none
theorem eok_anyField (c : Cd) : EntryOk Try.prog (e_anyField c) := curE_ok (by unfold isBody; kernel_rfl) (by
  intro st a r y ob e hb hob
  split at e
  · simp only [Option.some.injEq, Prod.mk.injEq] at e
    obtain ⟨rfl, rfl, rfl⟩ := e
    exact ⟨(drw_spec (x_anyField c  st hb)).1, (by intro x hx; cases hx), (by unfold enc_anyField; (first | exact .lit | exact blq_ok 4 rfl))⟩
  · simp at e)
theorem p_anyField (c : Cd)  (st : DS) (h : Bd 14 st)  : Adv 14 st (F_anyField c  st).2 ∧ (fun _ => True) (F_anyField c  st).1 := (drw_spec (x_anyField c  st h )).2
structure AOX where
  a : Arm
  o : Int
  x : Int
deriving Inhabited

end Go.Proofs.Ytmpbmbioeeckeaa.AM
