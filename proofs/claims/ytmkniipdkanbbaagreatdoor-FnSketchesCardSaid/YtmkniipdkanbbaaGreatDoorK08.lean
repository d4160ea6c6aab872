/- Lemmas and contracts (Grp Bas); conditions: none. -/
import Derived.Test.YtmkniipdkanbbaaGreatDoorK07
set_option linter.unusedVariables false
set_option linter.unusedSimpArgs false
set_option maxRecDepth 100000
set_option maxHeartbeats 4000000
set_option cbv.maxSteps 3000000
namespace Go.Proofs.YtmkniipdkanbbaaGreatDoor.AM
/- Groups of charges: their draws, and small functions; conditions: none. -/
structure Grp where
  c : Int
  k : Int
  a : Int
  t : Int
deriving Inhabited
def inB (x a b : Int) : Bool := decide (a ≤ x ∧ x ≤ b)
theorem c_l4Beast (k : Int)  : Con Tryz.prog 150 [.lit (.int .i64 k)] [] (.lit (.bool (decide (k ≤ 3)))) [] := by
  have hB : Base Tryz.prog (tabΓ []) tab := base_of tabOk (ents_nil)
  refine con_eq (N := 5) hB (draw_ok hB mixed) Tryz.func150 rfl rfl _ _ 50 (by simp) (by intro x hx; simp only [zqu] at hx; rcases hx with rfl <;> (first | (first | exact .lit | exact blq_ok 4 rfl) | exact .vec (fun j hj x hx => by simp [vrow] at hx; subst hx; exact .lit))) (by (first | exact .lit | exact blq_ok 4 rfl)) ?_
  intro H hH
  conv in finish _ _ _ _ _ _ _ _ => cbv
  subst hH
  simp only [Fin.sat0, Fin.sat1, stdH, Option.some.injEq, AV.lit.injEq, AV.agg.injEq, AV.tup.injEq, List.cons.injEq, Value.bool.injEq, Value.int.injEq, AllP, and_true, true_and, eq_self, zqa, zqb, zqc, zqd, peta, ncast]
noncomputable def e_l4Beast : Entry := pureE 150 fun H a => match a with
  | [.lit (.int .i64 k)] => some (.lit (.bool (H Bool fun _ => (decide (k ≤ 3)))), [])
  | _ => none
theorem eok_l4Beast : EntryOk Tryz.prog e_l4Beast := pureE_ok (by unfold isBody; kernel_rfl) (by
  intro a r ob e hob
  split at e
  · simp only [zqt] at e
    obtain ⟨rfl, rfl⟩ := e
    exact c_l4Beast _
  · simp at e)
theorem c_l1In (x : Int) (a : Int) (b : Int)  : Con Tryz.prog 100 [.lit (.int .i64 x), .lit (.int .i64 a), .lit (.int .i64 b)] [] (.lit (.bool (inB x a b))) [] := by
  have hB : Base Tryz.prog (tabΓ []) tab := base_of tabOk (ents_nil)
  refine con_eq (N := 15) hB (draw_ok hB mixed) Tryz.func100 rfl rfl _ _ 50 (by simp) (by intro x hx; simp only [zqu] at hx; rcases hx with rfl | rfl | rfl <;> (first | (first | exact .lit | exact blq_ok 4 rfl) | exact .vec (fun j hj x hx => by simp [vrow] at hx; subst hx; exact .lit))) (by (first | exact .lit | exact blq_ok 4 rfl)) ?_
  intro H hH
  conv in finish _ _ _ _ _ _ _ _ => cbv
  subst hH
  simp only [Fin.sat0, Fin.sat1, stdH, Option.some.injEq, AV.lit.injEq, AV.agg.injEq, AV.tup.injEq, List.cons.injEq, Value.bool.injEq, Value.int.injEq, AllP, and_true, true_and, eq_self, zqa, zqb, zqc, zqd, peta, ncast]
  have e : (bif decide (a ≤ x) then decide (x ≤ b) else false) = inB x a b := by unfold inB; cases h1 : decide (a ≤ x) <;> simp_all <;> omega
  exact e
noncomputable def e_l1In : Entry := pureE 100 fun H a => match a with
  | [.lit (.int .i64 x), .lit (.int .i64 a), .lit (.int .i64 b)] => some (.lit (.bool (H Bool fun _ => (inB x a b))), [])
  | _ => none
theorem eok_l1In : EntryOk Tryz.prog e_l1In := pureE_ok (by unfold isBody; kernel_rfl) (by
  intro a r ob e hob
  split at e
  · simp only [zqt] at e
    obtain ⟨rfl, rfl⟩ := e
    exact c_l1In _ _ _
  · simp at e)
def enc_group (H : Hold) (y : Unit → Grp) : AV := .agg [.lit (.int .i64 (H Int fun _ => ((y ()).c))), .lit (.int .i64 (H Int fun _ => ((y ()).k))), .lit (.int .i64 (H Int fun _ => ((y ()).a))), .lit (.int .i64 (H Int fun _ => ((y ()).t)))]
theorem x_group (c : Cd)  (st : DS) (h : Bd 8 st)  : ∃ y, Drw Tryz.prog 74 144 8 enc_group (fun g => (1 ≤ g.c ∧ g.c ≤ 6) ∧ (1 ≤ g.k ∧ g.k ≤ 8) ∧ (if g.k ≤ 3 then 1 ≤ g.a ∧ g.a ≤ 2 else g.a = 0) ∧ (1 ≤ g.t ∧ g.t ≤ 9)) c [] st y := by
  have hB : Base Tryz.prog (tabΓ [e_among c, e_pick c, e_tincture c, e_l4Beast]) tab := base_of tabOk (ents_cons (eok_among c) <| ents_cons (eok_pick c) <| ents_cons (eok_tincture c) <| ents_cons eok_l4Beast <| ents_nil)
  refine drw_ok (N := 21) hB (draw_ok hB mixed) Tryz.func144 rfl rfl _ _ _ _ _ _ _ 100 (by simp) (by intro x hx; simp at hx; (first | done | (subst hx; first | (first | exact .lit | exact blq_ok 4 rfl) | exact .vec (fun j hj x hx => by simp [vrow] at hx; subst hx; exact .lit)) | (rcases hx with rfl | rfl <;> (first | exact .lit | exact blq_ok 4 rfl)) | (rcases hx with rfl | rfl | rfl <;> (first | exact .lit | exact blq_ok 4 rfl)))) ?_
  intro H hH
  conv in finish _ _ _ _ _ _ _ _ => cbv
  subst hH
  simp only [Fin.sat0, Fin.sat1, stdH, Option.some.injEq, AV.lit.injEq, AV.agg.injEq, AV.tup.injEq, List.cons.injEq, Value.bool.injEq, Value.int.injEq, AllP, and_true, true_and, eq_self, zqa, zqb, zqc, zqd, peta, ncast]
  refine ⟨⟨h.mono, vrow_ok _ rfl (by decide), by decide, by decide⟩, ?_⟩
  have h2 : Bd 2 st := h.mono
  have q1 := p_amongL c [.lit (.int .i64 1), .lit (.int .i64 1), .lit (.int .i64 2), .lit (.int .i64 3), .lit (.int .i64 3), .lit (.int .i64 4), .lit (.int .i64 5), .lit (.int .i64 6)] 8 st (by first | assumption | exact Bd.mono (by assumption)) rfl (by decide) (by decide); generalize F_among c 8 (ints (rowsOf 1 [.lit (.int .i64 1), .lit (.int .i64 1), .lit (.int .i64 2), .lit (.int .i64 3), .lit (.int .i64 3), .lit (.int .i64 4), .lit (.int .i64 5), .lit (.int .i64 6)])) st = y1 at *; simp only [List.map_cons, List.map_nil, intOf, zqu] at q1; obtain ⟨a1, q1⟩ := q1
  have b1 : Bd 6 y1.2 := a1.bd h
  obtain ⟨a2, m2, n2⟩ := p_pick c 8 y1.2 b1.mono
  generalize F_pick c 8 y1.2 = y2 at *
  have b2 : Bd 4 y2.2 := a2.bd b1
  obtain ⟨a3, m3, n3⟩ := p_tincture c y2.2 b2.mono
  generalize F_tincture c y2.2 = y3 at *
  have b3 : Bd 2 y3.2 := a3.bd b2
  obtain ⟨a4, m4, n4⟩ := p_pick c 2 y3.2 b3.mono
  generalize F_pick c 2 y3.2 = y4 at *
  have w2 : IntKind.i64.wrap (1 + y2.1) = 1 + y2.1 := wi (by omega) (by omega)
  have w4 : IntKind.i64.wrap (1 + y4.1) = 1 + y4.1 := wi (by omega) (by omega)
  simp only [w2, w4]
  refine ⟨b1.mono, b2.mono, fun hk => ⟨b3, (⟨y1.1, 1 + y2.1, 1 + y4.1, y3.1⟩, y4.2), .refl, ?_, rfl, (((a1.t a2).t a3).t a4).le (by decide), ?_⟩, fun hk => ⟨(⟨y1.1, 1 + y2.1, 0, y3.1⟩, y3.2), .refl, ?_, rfl, ((a1.t a2).t a3).le (by decide), ?_⟩⟩
  · unfold enc_group; (first | exact .lit | exact blq_ok 4 rfl)
  · simp only; rw [if_pos hk]; omega
  · unfold enc_group; (first | exact .lit | exact blq_ok 4 rfl)
  · dsimp only
    refine ⟨⟨by omega, by omega⟩, ⟨by omega, by omega⟩, ?_, by omega, by omega⟩
    rw [if_neg hk]
noncomputable def F_group (c : Cd)  (st : DS) : Grp × DS := drw Tryz.prog 74 144 8 enc_group (fun g => (1 ≤ g.c ∧ g.c ≤ 6) ∧ (1 ≤ g.k ∧ g.k ≤ 8) ∧ (if g.k ≤ 3 then 1 ≤ g.a ∧ g.a ≤ 2 else g.a = 0) ∧ (1 ≤ g.t ∧ g.t ≤ 9)) c [] st
noncomputable def e_group (c : Cd) : Entry := curE 74 144 8 c fun H st a => match a with
  | [] => some (enc_group H (fun _ => (F_group c  st).1), (fun _ => (F_group c  st).2), [])
  | _ => none
theorem eok_group (c : Cd) : EntryOk Tryz.prog (e_group c) := curE_ok (by unfold isBody; kernel_rfl) (by
  intro st a r y ob e hb hob
  split at e
  · simp only [zqt] at e
    obtain ⟨rfl, rfl, rfl⟩ := e
    exact ⟨(drw_spec (x_group c  st hb)).1, (by intro x hx; cases hx), (by unfold enc_group; (first | exact .lit | exact blq_ok 4 rfl))⟩
  · simp at e)
theorem p_group (c : Cd)  (st : DS) (h : Bd 8 st)  : Adv 8 st (F_group c  st).2 ∧ (fun g => (1 ≤ g.c ∧ g.c ≤ 6) ∧ (1 ≤ g.k ∧ g.k ≤ 8) ∧ (if g.k ≤ 3 then 1 ≤ g.a ∧ g.a ≤ 2 else g.a = 0) ∧ (1 ≤ g.t ∧ g.t ≤ 9)) (F_group c  st).1 := (drw_spec (x_group c  st h )).2
def enc_anyGroup (H : Hold) (y : Unit → Grp) : AV := .agg [.lit (.int .i64 (H Int fun _ => ((y ()).c))), .lit (.int .i64 (H Int fun _ => ((y ()).k))), .lit (.int .i64 (H Int fun _ => ((y ()).a))), .lit (.int .i64 (H Int fun _ => ((y ()).t)))]
theorem x_anyGroup (c : Cd)  (st : DS) (h : Bd 12 st)  : ∃ y, Drw Tryz.prog 74 147 12 enc_anyGroup (fun g => (-1 ≤ g.c ∧ g.c ≤ 10) ∧ (-1 ≤ g.k ∧ g.k ≤ 10) ∧ (-1 ≤ g.a ∧ g.a ≤ 10) ∧ (-1 ≤ g.t ∧ g.t ≤ 10)) c [] st y := by
  have hB : Base Tryz.prog (tabΓ [e_group c, e_pick c, e_among c]) tab := base_of tabOk (ents_cons (eok_group c) <| ents_cons (eok_pick c) <| ents_cons (eok_among c) <| ents_nil)
  refine drw_ok (N := 36) hB (draw_ok hB mixed) Tryz.func147 rfl rfl _ _ _ _ _ _ _ 100 (by simp) (by intro x hx; simp at hx; (first | done | (subst hx; first | (first | exact .lit | exact blq_ok 4 rfl) | exact .vec (fun j hj x hx => by simp [vrow] at hx; subst hx; exact .lit)) | (rcases hx with rfl | rfl <;> (first | exact .lit | exact blq_ok 4 rfl)) | (rcases hx with rfl | rfl | rfl <;> (first | exact .lit | exact blq_ok 4 rfl)))) ?_
  intro H hH
  conv in finish _ _ _ _ _ _ _ _ => cbv
  subst hH
  simp only [Fin.sat0, Fin.sat1, stdH, Option.some.injEq, AV.lit.injEq, AV.agg.injEq, AV.tup.injEq, List.cons.injEq, Value.bool.injEq, Value.int.injEq, AllP, and_true, true_and, eq_self, zqa, zqb, zqc, zqd, peta, ncast]
  obtain ⟨a1, ⟨p1, p2⟩, ⟨p3, p4⟩, p5, p6, p7⟩ := p_group c st h.mono
  generalize F_group c st = y1 at *
  have b1 : Bd 4 y1.2 := a1.bd h
  obtain ⟨a2, m2, n2⟩ := p_pick c 24 y1.2 b1.mono
  generalize F_pick c 24 y1.2 = y2 at *
  have b2 : Bd 2 y2.2 := a2.bd b1
  have p8 : -1 ≤ y1.1.a ∧ y1.1.a ≤ 2 := by split at p5 <;> omega
  have q3 := p_amongL c [.lit (.int .i64 0), .lit (.int .i64 7), .lit (.int .i64 (-1))] 3 y2.2 (by first | assumption | exact Bd.mono (by assumption)) rfl (by decide) (by decide); generalize F_among c 3 (ints (rowsOf 1 [.lit (.int .i64 0), .lit (.int .i64 7), .lit (.int .i64 (-1))])) y2.2 = y3 at *; simp only [List.map_cons, List.map_nil, intOf, zqu] at q3; obtain ⟨a3, q3⟩ := q3
  have q4 := p_amongL c [.lit (.int .i64 0), .lit (.int .i64 9), .lit (.int .i64 3), .lit (.int .i64 4)] 4 y2.2 (by first | assumption | exact Bd.mono (by assumption)) rfl (by decide) (by decide); generalize F_among c 4 (ints (rowsOf 1 [.lit (.int .i64 0), .lit (.int .i64 9), .lit (.int .i64 3), .lit (.int .i64 4)])) y2.2 = y4 at *; simp only [List.map_cons, List.map_nil, intOf, zqu] at q4; obtain ⟨a4, q4⟩ := q4
  have q5 := p_amongL c [.lit (.int .i64 0), .lit (.int .i64 1), .lit (.int .i64 2), .lit (.int .i64 3), .lit (.int .i64 (-1))] 5 y2.2 (by first | assumption | exact Bd.mono (by assumption)) rfl (by decide) (by decide); generalize F_among c 5 (ints (rowsOf 1 [.lit (.int .i64 0), .lit (.int .i64 1), .lit (.int .i64 2), .lit (.int .i64 3), .lit (.int .i64 (-1))])) y2.2 = y5 at *; simp only [List.map_cons, List.map_nil, intOf, zqu] at q5; obtain ⟨a5, q5⟩ := q5
  have q6 := p_amongL c [.lit (.int .i64 0), .lit (.int .i64 10)] 2 y2.2 (by first | assumption | exact Bd.mono (by assumption)) rfl (by decide) (by decide); generalize F_among c 2 (ints (rowsOf 1 [.lit (.int .i64 0), .lit (.int .i64 10)])) y2.2 = y6 at *; simp only [List.map_cons, List.map_nil, intOf, zqu] at q6; obtain ⟨a6, q6⟩ := q6
  refine ⟨h.mono, b1.mono, fun _ => ⟨⟨b2, vrow_ok _ rfl (by decide), by decide, by decide⟩, (⟨y3.1, y1.1.k, y1.1.a, y1.1.t⟩, y3.2), .refl, by unfold enc_anyGroup; (first | exact .lit | exact blq_ok 4 rfl), rfl, ((a1.t a2).t a3).le (by decide), by simp only; omega⟩, fun _ => ⟨fun _ => ⟨⟨b2, vrow_ok _ rfl (by decide), by decide, by decide⟩, (⟨y1.1.c, y4.1, y1.1.a, y1.1.t⟩, y4.2), .refl, by unfold enc_anyGroup; (first | exact .lit | exact blq_ok 4 rfl), rfl, ((a1.t a2).t a4).le (by decide), by simp only; omega⟩, fun _ => ⟨fun _ => ⟨⟨b2, vrow_ok _ rfl (by decide), by decide, by decide⟩, (⟨y1.1.c, y1.1.k, y5.1, y1.1.t⟩, y5.2), .refl, by unfold enc_anyGroup; (first | exact .lit | exact blq_ok 4 rfl), rfl, ((a1.t a2).t a5).le (by decide), by simp only; omega⟩, fun _ => ⟨fun _ => ⟨⟨b2, vrow_ok _ rfl (by decide), by decide, by decide⟩, (⟨y1.1.c, y1.1.k, y1.1.a, y6.1⟩, y6.2), .refl, by unfold enc_anyGroup; (first | exact .lit | exact blq_ok 4 rfl), rfl, ((a1.t a2).t a6).le (by decide), by simp only; omega⟩, fun _ => ⟨fun _ => ⟨(⟨0, 0, 0, 0⟩, y2.2), .refl, by unfold enc_anyGroup; (first | exact .lit | exact blq_ok 4 rfl), rfl, (a1.t a2).le (by decide), by dsimp only; decide⟩, fun _ => ⟨(⟨y1.1.c, y1.1.k, y1.1.a, y1.1.t⟩, y2.2), .refl, by unfold enc_anyGroup; (first | exact .lit | exact blq_ok 4 rfl), rfl, (a1.t a2).le (by decide), by simp only; omega⟩⟩⟩⟩⟩⟩
noncomputable def F_anyGroup (c : Cd)  (st : DS) : Grp × DS := drw Tryz.prog 74 147 12 enc_anyGroup (fun g => (-1 ≤ g.c ∧ g.c ≤ 10) ∧ (-1 ≤ g.k ∧ g.k ≤ 10) ∧ (-1 ≤ g.a ∧ g.a ≤ 10) ∧ (-1 ≤ g.t ∧ g.t ≤ 10)) c [] st
noncomputable def e_anyGroup (c : Cd) : Entry := curE 74 147 12 c fun H st a => match a with
  | [] => some (enc_anyGroup H (fun _ => (F_anyGroup c  st).1), (fun _ => (F_anyGroup c  st).2), [])
  | _ => none
theorem eok_anyGroup (c : Cd) : EntryOk Tryz.prog (e_anyGroup c) := curE_ok (by unfold isBody; kernel_rfl) (by
  intro st a r y ob e hb hob
  split at e
  · simp only [zqt] at e
    obtain ⟨rfl, rfl, rfl⟩ := e
    exact ⟨(drw_spec (x_anyGroup c  st hb)).1, (by intro x hx; cases hx), (by unfold enc_anyGroup; (first | exact .lit | exact blq_ok 4 rfl))⟩
  · simp at e)
theorem p_anyGroup (c : Cd)  (st : DS) (h : Bd 12 st)  : Adv 12 st (F_anyGroup c  st).2 ∧ (fun g => (-1 ≤ g.c ∧ g.c ≤ 10) ∧ (-1 ≤ g.k ∧ g.k ≤ 10) ∧ (-1 ≤ g.a ∧ g.a ≤ 10) ∧ (-1 ≤ g.t ∧ g.t ≤ 10)) (F_anyGroup c  st).1 := (drw_spec (x_anyGroup c  st h )).2

end Go.Proofs.YtmkniipdkanbbaaGreatDoor.AM

set_option maxRecDepth 100000
set_option maxHeartbeats 4000000
set_option cbv.maxSteps 3000000
namespace Go.Proofs.YtmkniipdkanbbaaGreatDoor.AM
/- Small functions; conditions: none. -/
theorem c_inside (x : Int) (a : Int) (b : Int)  : Con Tryz.prog 84 [.lit (.int .i64 x), .lit (.int .i64 a), .lit (.int .i64 b)] [] (.lit (.bool (inB x a b))) [] := by
  have hB : Base Tryz.prog (tabΓ []) tab := base_of tabOk (ents_nil)
  refine con_eq (N := 15) hB (draw_ok hB mixed) Tryz.func84 rfl rfl _ _ 50 (by simp) (by intro x hx; simp only [zqu] at hx; rcases hx with rfl | rfl | rfl <;> (first | (first | exact .lit | exact blq_ok 4 rfl) | exact .vec (fun j hj x hx => by simp [vrow] at hx; subst hx; exact .lit))) (by (first | exact .lit | exact blq_ok 4 rfl)) ?_
  intro H hH
  conv in finish _ _ _ _ _ _ _ _ => cbv
  subst hH
  simp only [Fin.sat0, Fin.sat1, stdH, Option.some.injEq, AV.lit.injEq, AV.agg.injEq, AV.tup.injEq, List.cons.injEq, Value.bool.injEq, Value.int.injEq, AllP, and_true, true_and, eq_self, zqa, zqb, zqc, zqd, peta, ncast]
  have e : (bif decide (a ≤ x) then decide (x ≤ b) else false) = inB x a b := by unfold inB; cases h1 : decide (a ≤ x) <;> simp_all <;> omega
  exact e
noncomputable def e_inside : Entry := pureE 84 fun H a => match a with
  | [.lit (.int .i64 x), .lit (.int .i64 a), .lit (.int .i64 b)] => some (.lit (.bool (H Bool fun _ => (inB x a b))), [])
  | _ => none
theorem eok_inside : EntryOk Tryz.prog e_inside := pureE_ok (by unfold isBody; kernel_rfl) (by
  intro a r ob e hob
  split at e
  · simp only [zqt] at e
    obtain ⟨rfl, rfl⟩ := e
    exact c_inside _ _ _
  · simp at e)
def attF (k a : Int) : Bool := inB k 1 8 && (if k ≤ 3 then inB a 1 2 else decide (a = 0))
theorem c_isKind (k : Int)  : Con Tryz.prog 162 [.lit (.int .i64 k)] [] (.lit (.bool (inB k 1 8))) [] := by
  have hB : Base Tryz.prog (tabΓ [e_inside]) tab := base_of tabOk (ents_cons eok_inside <| ents_nil)
  refine con_eq (N := 5) hB (draw_ok hB mixed) Tryz.func162 rfl rfl _ _ 50 (by simp) (by intro x hx; simp only [zqu] at hx; rcases hx with rfl <;> (first | (first | exact .lit | exact blq_ok 4 rfl) | exact .vec (fun j hj x hx => by simp [vrow] at hx; subst hx; exact .lit))) (by (first | exact .lit | exact blq_ok 4 rfl)) ?_
  intro H hH
  conv in finish _ _ _ _ _ _ _ _ => cbv
  subst hH
  simp only [Fin.sat0, Fin.sat1, stdH, Option.some.injEq, AV.lit.injEq, AV.agg.injEq, AV.tup.injEq, List.cons.injEq, Value.bool.injEq, Value.int.injEq, AllP, and_true, true_and, eq_self, zqa, zqb, zqc, zqd, peta, ncast]
noncomputable def e_isKind : Entry := pureE 162 fun H a => match a with
  | [.lit (.int .i64 k)] => some (.lit (.bool (H Bool fun _ => (inB k 1 8))), [])
  | _ => none
theorem eok_isKind : EntryOk Tryz.prog e_isKind := pureE_ok (by unfold isBody; kernel_rfl) (by
  intro a r ob e hob
  split at e
  · simp only [zqt] at e
    obtain ⟨rfl, rfl⟩ := e
    exact c_isKind _
  · simp at e)
theorem c_l4Kind (k : Int)  : Con Tryz.prog 149 [.lit (.int .i64 k)] [] (.lit (.bool (inB k 1 8))) [] := by
  have hB : Base Tryz.prog (tabΓ [e_l1In]) tab := base_of tabOk (ents_cons eok_l1In <| ents_nil)
  refine con_eq (N := 5) hB (draw_ok hB mixed) Tryz.func149 rfl rfl _ _ 50 (by simp) (by intro x hx; simp only [zqu] at hx; rcases hx with rfl <;> (first | (first | exact .lit | exact blq_ok 4 rfl) | exact .vec (fun j hj x hx => by simp [vrow] at hx; subst hx; exact .lit))) (by (first | exact .lit | exact blq_ok 4 rfl)) ?_
  intro H hH
  conv in finish _ _ _ _ _ _ _ _ => cbv
  subst hH
  simp only [Fin.sat0, Fin.sat1, stdH, Option.some.injEq, AV.lit.injEq, AV.agg.injEq, AV.tup.injEq, List.cons.injEq, Value.bool.injEq, Value.int.injEq, AllP, and_true, true_and, eq_self, zqa, zqb, zqc, zqd, peta, ncast]
noncomputable def e_l4Kind : Entry := pureE 149 fun H a => match a with
  | [.lit (.int .i64 k)] => some (.lit (.bool (H Bool fun _ => (inB k 1 8))), [])
  | _ => none
theorem eok_l4Kind : EntryOk Tryz.prog e_l4Kind := pureE_ok (by unfold isBody; kernel_rfl) (by
  intro a r ob e hob
  split at e
  · simp only [zqt] at e
    obtain ⟨rfl, rfl⟩ := e
    exact c_l4Kind _
  · simp at e)
theorem c_l2Good (x : Int)  : Con Tryz.prog 103 [.lit (.int .i64 x)] [] (.lit (.bool (inB x 1 9))) [] := by
  have hB : Base Tryz.prog (tabΓ [e_l1In]) tab := base_of tabOk (ents_cons eok_l1In <| ents_nil)
  refine con_eq (N := 5) hB (draw_ok hB mixed) Tryz.func103 rfl rfl _ _ 50 (by simp) (by intro x hx; simp only [zqu] at hx; rcases hx with rfl <;> (first | (first | exact .lit | exact blq_ok 4 rfl) | exact .vec (fun j hj x hx => by simp [vrow] at hx; subst hx; exact .lit))) (by (first | exact .lit | exact blq_ok 4 rfl)) ?_
  intro H hH
  conv in finish _ _ _ _ _ _ _ _ => cbv
  subst hH
  simp only [Fin.sat0, Fin.sat1, stdH, Option.some.injEq, AV.lit.injEq, AV.agg.injEq, AV.tup.injEq, List.cons.injEq, Value.bool.injEq, Value.int.injEq, AllP, and_true, true_and, eq_self, zqa, zqb, zqc, zqd, peta, ncast]
noncomputable def e_l2Good : Entry := pureE 103 fun H a => match a with
  | [.lit (.int .i64 x)] => some (.lit (.bool (H Bool fun _ => (inB x 1 9))), [])
  | _ => none
theorem eok_l2Good : EntryOk Tryz.prog e_l2Good := pureE_ok (by unfold isBody; kernel_rfl) (by
  intro a r ob e hob
  split at e
  · simp only [zqt] at e
    obtain ⟨rfl, rfl⟩ := e
    exact c_l2Good _
  · simp at e)
theorem c_l4Group (g0 g1 g2 g3 : Int)  : Con Tryz.prog 101 [.agg [.lit (.int .i64 g0), .lit (.int .i64 g1), .lit (.int .i64 g2), .lit (.int .i64 g3)]] [] (.lit (.bool (inB g0 1 6 && attF g1 g2 && inB g3 1 9))) [] := by
  have hB : Base Tryz.prog (tabΓ [e_l1In, e_l4Kind, e_l2Good, e_l4Beast]) tab := base_of tabOk (ents_cons eok_l1In <| ents_cons eok_l4Kind <| ents_cons eok_l2Good <| ents_cons eok_l4Beast <| ents_nil)
  refine con_eq (N := 28) hB (draw_ok hB mixed) Tryz.func101 rfl rfl _ _ 60 (by simp) (by intro x hx; simp only [zqu] at hx; rcases hx with rfl <;> (first | (first | exact .lit | exact blq_ok 4 rfl) | exact .vec (fun j hj x hx => by simp [vrow] at hx; subst hx; exact .lit))) (by (first | exact .lit | exact blq_ok 4 rfl)) ?_
  intro H hH
  conv in finish _ _ _ _ _ _ _ _ => cbv
  subst hH
  simp only [Fin.sat0, Fin.sat1, stdH, Option.some.injEq, AV.lit.injEq, AV.agg.injEq, AV.tup.injEq, List.cons.injEq, Value.bool.injEq, Value.int.injEq, AllP, and_true, true_and, eq_self, zqa, zqb, zqc, zqd, peta, ncast]
  unfold attF
  generalize inB g0 1 6 = b0
  generalize inB g1 1 8 = b1
  generalize inB g3 1 9 = b3
  refine ⟨fun h => ?_, fun h => ⟨fun hk => ?_, fun hk => ?_⟩⟩
  · cases b0 <;> cases b1 <;> cases b3 <;> simp_all
  · rw [if_pos hk]; cases b0 <;> cases b1 <;> cases b3 <;> simp_all
  · rw [if_neg hk]
    have e5 : (g2 == 0) = decide (g2 = 0) := by by_cases h5 : g2 = 0 <;> simp [h5]
    rw [e5]; cases b0 <;> cases b1 <;> cases b3 <;> simp_all
noncomputable def e_l4Group : Entry := pureE 101 fun H a => match a with
  | [.agg [.lit (.int .i64 g0), .lit (.int .i64 g1), .lit (.int .i64 g2), .lit (.int .i64 g3)]] => some (.lit (.bool (H Bool fun _ => (inB g0 1 6 && attF g1 g2 && inB g3 1 9))), [])
  | _ => none
theorem eok_l4Group : EntryOk Tryz.prog e_l4Group := pureE_ok (by unfold isBody; kernel_rfl) (by
  intro a r ob e hob
  split at e
  · simp only [zqt] at e
    obtain ⟨rfl, rfl⟩ := e
    exact c_l4Group _ _ _ _
  · simp at e)
def attN (k : Int) : Nat := if 1 ≤ k ∧ k ≤ 3 then 2 else 0
theorem x_attitudes (k : Int) : ∃ f, Con Tryz.prog 127 [.lit (.int .i64 k)] [] (.vec 1 (attN k) f) [] := by
  have hB : Base Tryz.prog (tabΓ []) tab := base_of tabOk (ents_nil)
  have main : ∃ r u, Con Tryz.prog 127 [.lit (.int .i64 k)] [] r u ∧ u = [] ∧ ∃ f, r = .vec 1 (attN k) f := by
    refine con_ex (N := 14) hB (draw_ok hB mixed) Tryz.func127 rfl rfl _ [] 0 _ 60 (by simp) (by intro x hx; simp only [zqu] at hx; subst hx; exact .lit) (by simp [lk]) ?_
    intro H hH
    conv in finish _ _ _ _ _ _ _ _ => cbv
    subst hH
    simp only [Fin.sat0, stdH, beq_iff_eq, beq_eq_false_iff_ne, ne_eq]
    have e2 : ∀ j, 1 ≤ j ∧ j ≤ 3 → attN j = 2 := fun j hj => if_pos hj
    have e0 : ∀ j, ¬ j = 1 → ¬ j = 2 → ¬ j = 3 → attN j = 0 := fun j h1 h2 h3 => if_neg (by omega)
    have bl : ∀ L : List ByteArray, Bl 0 (.vec 1 2 (rowsS stdH fun _ => L)) := fun L => .vec fun j _ x hx => by simp [rowsS] at hx; subst hx; exact .lit
    refine ⟨fun h => ⟨_, [], .ful (fun _ _ => rfl), bl _, by simp, by simp [lk], rfl, _, by rw [e2 k (by omega)]⟩, fun h1 => ⟨fun h => ⟨_, [], .ful (fun _ _ => rfl), bl _, by simp, by simp [lk], rfl, _, by rw [e2 k (by omega)]⟩, fun h2 => ⟨fun h => ⟨_, [], .ful (fun _ _ => rfl), bl _, by simp, by simp [lk], rfl, _, by rw [e2 k (by omega)]⟩, fun h3 => ?_⟩⟩⟩
    exact ⟨.vec 1 0 fun _ => [], [], .ful0, .vec (by omega), by simp, by simp [lk], rfl, _, by rw [e0 k h1 h2 h3]⟩
  obtain ⟨r, u, h, rfl, f, rfl⟩ := main
  exact ⟨f, h⟩
noncomputable def F_attitudes (k : Int) : Nat → List AV := Classical.epsilon fun f => Con Tryz.prog 127 [.lit (.int .i64 k)] [] (.vec 1 (attN k) f) []
noncomputable def e_attitudes : Entry := pureE 127 fun H a => match a with
  | [.lit (.int .i64 k)] => some (.vec 1 (H Nat fun _ => attN k) (H (Nat → List AV) fun _ => F_attitudes k), [])
  | _ => none
theorem eok_attitudes : EntryOk Tryz.prog e_attitudes := pureE_ok (by unfold isBody; kernel_rfl) (by
  intro a r ob e hob
  split at e
  · simp only [zqt] at e
    obtain ⟨rfl, rfl⟩ := e
    exact Classical.epsilon_spec (x_attitudes _)
  · simp at e)

end Go.Proofs.YtmkniipdkanbbaaGreatDoor.AM

