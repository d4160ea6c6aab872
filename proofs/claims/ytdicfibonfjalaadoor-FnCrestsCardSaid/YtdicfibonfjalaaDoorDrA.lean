import Derived.Test.YtdicfibonfjalaaDoorArm
set_option linter.unusedVariables false
set_option linter.unusedSimpArgs false
set_option maxRecDepth 100000
set_option maxHeartbeats 4000000
set_option cbv.maxSteps 3000000
namespace Go.Proofs.YtdicfibonfjalaaDoor.AM
/- Arms are drawn; conditions: none. -/
def enc_anyTincture (H : Hold) (y : Unit → Int) : AV := .lit (.int .i64 (H Int fun _ => ((y ()))))
theorem x_anyTincture (c : Cd)  (st : DS) (h : Bd 4 st)  : ∃ y, Drw Tryd.prog 74 93 4 enc_anyTincture (fun _ => True) c [] st y := by
  have hB : Base Tryd.prog (tabΓ [e_one c, e_among c, e_tincture c]) tab := base_of tabOk (ents_cons (eok_one c) <| ents_cons (eok_among c) <| ents_cons (eok_tincture c) <| ents_nil)
  refine drw_ok (N := 10) hB (draw_ok hB mixed) Tryd.func93 rfl rfl _ _ _ _ _ _ _ 60 (by simp) (by intro x hx; simp at hx; (first | done | (subst hx; first | (first | exact .lit | exact blq_ok 4 rfl) | exact .vec (fun j hj x hx => by simp [vrow] at hx; subst hx; exact .lit)) | (rcases hx with rfl | rfl <;> (first | exact .lit | exact blq_ok 4 rfl)) | (rcases hx with rfl | rfl | rfl <;> (first | exact .lit | exact blq_ok 4 rfl)))) ?_
  intro H hH
  conv in finish _ _ _ _ _ _ _ _ => cbv
  subst hH
  simp only [Fin.sat0, Fin.sat1, stdH, Option.some.injEq, AV.lit.injEq, AV.agg.injEq, AV.tup.injEq, List.cons.injEq, Value.bool.injEq, Value.int.injEq, AllP, and_true, true_and, eq_self, decide_eq_true_eq, decide_eq_false_iff_not, Bool.not_eq_true', Bool.not_eq_false', peta, ncast]
  have a1 := (p_one c 16 st (Bd.mono (by assumption))).1; generalize F_one c 16 st = y1 at *; have b1 : Bd 2 y1.2 := a1.bd (by assumption)
  have q2 := p_amongL c [.lit (.int .i64 0), .lit (.int .i64 10), .lit (.int .i64 (-1)), .lit (.int .i64 9), .lit (.int .i64 1)] 5 y1.2 (by first | assumption | exact Bd.mono (by assumption)) rfl (by decide) (by decide); generalize F_among c 5 (ints (rowsOf 1 [.lit (.int .i64 0), .lit (.int .i64 10), .lit (.int .i64 (-1)), .lit (.int .i64 9), .lit (.int .i64 1)])) y1.2 = y2 at *; simp only [List.map_cons, List.map_nil, intOf, List.mem_cons, List.not_mem_nil, or_false] at q2; obtain ⟨a2, q2⟩ := q2
  have a3 := (p_tincture c y1.2 (Bd.mono (by assumption))).1; generalize F_tincture c y1.2 = y3 at *; have b3 : Bd 0 y3.2 := a3.bd (by assumption)
  exact ⟨h.mono, fun _ => ⟨⟨by assumption, vrow_ok _ rfl (by decide), by decide, by decide⟩, ⟨(_, y2.2), .refl, by unfold enc_anyTincture; (first | exact .lit | exact blq_ok 4 rfl), rfl, (a1.t a2).le (by decide)⟩⟩, fun _ => ⟨b1.mono, ⟨(_, y3.2), .refl, by unfold enc_anyTincture; (first | exact .lit | exact blq_ok 4 rfl), rfl, (a1.t a3).le (by decide)⟩⟩⟩
noncomputable def F_anyTincture (c : Cd)  (st : DS) : Int × DS := drw Tryd.prog 74 93 4 enc_anyTincture (fun _ => True) c [] st
noncomputable def e_anyTincture (c : Cd) : Entry := curE 74 93 4 c fun H st a => match a with
  | [] => some (enc_anyTincture H (fun _ => (F_anyTincture c  st).1), (fun _ => (F_anyTincture c  st).2), [])
  | _ => none
theorem eok_anyTincture (c : Cd) : EntryOk Tryd.prog (e_anyTincture c) := curE_ok (by unfold isBody; kernel_rfl) (by
  intro st a r y ob e hb hob
  split at e
  · simp only [Option.some.injEq, Prod.mk.injEq] at e
    obtain ⟨rfl, rfl, rfl⟩ := e
    exact ⟨(drw_spec (x_anyTincture c  st hb)).1, (by intro x hx; cases hx), (by unfold enc_anyTincture; (first | exact .lit | exact blq_ok 4 rfl))⟩
  · simp at e)
theorem p_anyTincture (c : Cd)  (st : DS) (h : Bd 4 st)  : Adv 4 st (F_anyTincture c  st).2 ∧ (fun _ => True) (F_anyTincture c  st).1 := (drw_spec (x_anyTincture c  st h )).2
structure AOX where
  a : Arm
  o : Int
  x : Int
deriving Inhabited

end Go.Proofs.YtdicfibonfjalaaDoor.AM
