/- Lemmas and contracts (DrA Shd); conditions: none. -/
import Derived.Test.YtpilblmncpeelaaK04
import Derived.Test.YtpilblmncpeelaaK07
import Derived.Test.YtpilblmncpeelaaK08
set_option linter.unusedVariables false
set_option linter.unusedSimpArgs false
set_option linter.unusedVariables false
set_option linter.unusedSimpArgs false
set_option maxRecDepth 100000
set_option maxHeartbeats 4000000
set_option cbv.maxSteps 3000000
namespace Go.Proofs.Ytpilblmncpeelaa.AM
/- Arms are drawn; conditions: none. -/
def enc_field (H : Hold) (y : Unit → Fld) : AV := .agg [.lit (.int .i64 (H Int fun _ => (((y ())).d))), .lit (.int .i64 (H Int fun _ => (((y ())).l))), .lit (.int .i64 (H Int fun _ => (((y ())).p))), .lit (.int .i64 (H Int fun _ => (((y ())).q)))]
theorem x_field (c : Cd)  (st : DS) (h : Bd 10 st)  : ∃ y, Drw Try.prog 56 71 10 enc_field (fun _ => True) c [] st y := by
  have hB : Base Try.prog (tabΓ [e_tincture c, e_one c, e_pick c, e_among c]) tab := base_of tabOk (ents_cons (eok_tincture c) <| ents_cons (eok_one c) <| ents_cons (eok_pick c) <| ents_cons (eok_among c) <| ents_nil)
  refine drw_ok (N := 27) hB (draw_ok hB mixed) Try.func71 rfl rfl _ _ _ _ _ _ _ 100 (by simp) (by intro x hx; simp at hx; (first | done | (subst hx; first | (first | exact .lit | exact blq_ok 4 rfl) | exact .vec (fun j hj x hx => by simp [vrow] at hx; subst hx; exact .lit)) | (rcases hx with rfl | rfl <;> (first | exact .lit | exact blq_ok 4 rfl)) | (rcases hx with rfl | rfl | rfl <;> (first | exact .lit | exact blq_ok 4 rfl)))) ?_
  intro H hH
  conv in finish _ _ _ _ _ _ _ _ => cbv
  subst hH
  simp only [Fin.sat0, Fin.sat1, stdH, Option.some.injEq, AV.lit.injEq, AV.agg.injEq, AV.tup.injEq, List.cons.injEq, Value.bool.injEq, Value.int.injEq, AllP, and_true, true_and, eq_self, decide_eq_true_eq, decide_eq_false_iff_not, Bool.not_eq_true', Bool.not_eq_false', peta, ncast]
  have a1 := (p_tincture c st (Bd.mono (by assumption))).1; generalize F_tincture c st = y1 at *; have b1 : Bd 8 y1.2 := a1.bd (by assumption)
  have a2 := (p_one c 2 y1.2 (Bd.mono (by assumption))).1; generalize F_one c 2 y1.2 = y2 at *; have b2 : Bd 6 y2.2 := a2.bd (by assumption)
  have a3 := (p_pick c 7 y2.2 (Bd.mono (by assumption))).1; generalize F_pick c 7 y2.2 = y3 at *; have b3 : Bd 4 y3.2 := a3.bd (by assumption)
  have q4 := p_amongL c [.lit (.int .i64 0), .lit (.int .i64 0), .lit (.int .i64 1), .lit (.int .i64 2), .lit (.int .i64 3), .lit (.int .i64 4)] 6 y3.2 (by first | assumption | exact Bd.mono (by assumption)) rfl (by decide) (by decide); generalize F_among c 6 (ints (rowsOf 1 [.lit (.int .i64 0), .lit (.int .i64 0), .lit (.int .i64 1), .lit (.int .i64 2), .lit (.int .i64 3), .lit (.int .i64 4)])) y3.2 = y4 at *; simp only [List.map_cons, List.map_nil, intOf, List.mem_cons, List.not_mem_nil, or_false] at q4; obtain ⟨a4, q4⟩ := q4
  have b4 : Bd 2 y4.2 := a4.bd b3
  have a5 := (p_pick c 8 y4.2 (Bd.mono (by assumption))).1; generalize F_pick c 8 y4.2 = y5 at *; have b5 : Bd 0 y5.2 := a5.bd (by assumption)
  exact ⟨h.mono, b1.mono, fun _ => ⟨(⟨_, _, _, _⟩, y2.2), .refl, by unfold enc_field; (first | exact .lit | exact blq_ok 4 rfl), rfl, (a1.t a2).le (by decide)⟩, fun _ => ⟨b2.mono, ⟨b3.mono, vrow_ok _ rfl (by decide), by decide, by decide⟩, b4, by decide, ⟨(⟨_, _, _, _⟩, y5.2), .refl, by unfold enc_field; (first | exact .lit | exact blq_ok 4 rfl), rfl, ((((a1.t a2).t a3).t a4).t a5).le (by decide)⟩⟩⟩
noncomputable def F_field (c : Cd)  (st : DS) : Fld × DS := drw Try.prog 56 71 10 enc_field (fun _ => True) c [] st
noncomputable def e_field (c : Cd) : Entry := curE 56 71 10 c fun H st a => match a with
  | [] => some (enc_field H (fun _ => (F_field c  st).1), (fun _ => (F_field c  st).2), [])
  | _ => none
theorem eok_field (c : Cd) : EntryOk Try.prog (e_field c) := curE_ok (by unfold isBody; kernel_rfl) (by
  intro st a r y ob e hb hob
  split at e
  · simp only [Option.some.injEq, Prod.mk.injEq] at e
    obtain ⟨rfl, rfl, rfl⟩ := e
    exact ⟨(drw_spec (x_field c  st hb)).1, (by intro x hx; cases hx), (by unfold enc_field; (first | exact .lit | exact blq_ok 4 rfl))⟩
  · simp at e)
theorem p_field (c : Cd)  (st : DS) (h : Bd 10 st)  : Adv 10 st (F_field c  st).2 ∧ (fun _ => True) (F_field c  st).1 := (drw_spec (x_field c  st h )).2
def enc_arms (H : Hold) (y : Unit → Arm) : AV := .agg [.lit (.int .i64 (H Int fun _ => (((y ())).f.d))), .lit (.int .i64 (H Int fun _ => (((y ())).f.l))), .lit (.int .i64 (H Int fun _ => (((y ())).f.p))), .lit (.int .i64 (H Int fun _ => (((y ())).f.q))), .lit (.int .i64 (H Int fun _ => (((y ())).o))), .lit (.int .i64 (H Int fun _ => (((y ())).l))), .lit (.int .i64 (H Int fun _ => (((y ())).t))), .lit (.int .i64 (H Int fun _ => (((y ())).n.c))), .lit (.int .i64 (H Int fun _ => (((y ())).n.k))), .lit (.int .i64 (H Int fun _ => (((y ())).n.a))), .lit (.int .i64 (H Int fun _ => (((y ())).n.t))), .lit (.int .i64 (H Int fun _ => (((y ())).r.c))), .lit (.int .i64 (H Int fun _ => (((y ())).r.k))), .lit (.int .i64 (H Int fun _ => (((y ())).r.a))), .lit (.int .i64 (H Int fun _ => (((y ())).r.t)))]
theorem x_arms (c : Cd)  (st : DS) (h : Bd 38 st)  : ∃ y, Drw Try.prog 56 47 38 enc_arms (fun _ => True) c [] st y := by
  have hB : Base Try.prog (tabΓ [e_field c, e_one c, e_pick c, e_among c, e_tincture c, e_group c]) tab := base_of tabOk (ents_cons (eok_field c) <| ents_cons (eok_one c) <| ents_cons (eok_pick c) <| ents_cons (eok_among c) <| ents_cons (eok_tincture c) <| ents_cons (eok_group c) <| ents_nil)
  refine drw_ok (N := 33) hB (draw_ok hB mixed) Try.func47 rfl rfl _ _ _ _ _ _ _ 150 (by simp) (by intro x hx; simp at hx; (first | done | (subst hx; first | (first | exact .lit | exact blq_ok 4 rfl) | exact .vec (fun j hj x hx => by simp [vrow] at hx; subst hx; exact .lit)) | (rcases hx with rfl | rfl <;> (first | exact .lit | exact blq_ok 4 rfl)) | (rcases hx with rfl | rfl | rfl <;> (first | exact .lit | exact blq_ok 4 rfl)))) ?_
  intro H hH
  conv in finish _ _ _ _ _ _ _ _ => cbv
  subst hH
  simp only [Fin.sat0, Fin.sat1, stdH, Option.some.injEq, AV.lit.injEq, AV.agg.injEq, AV.tup.injEq, List.cons.injEq, Value.bool.injEq, Value.int.injEq, AllP, and_true, true_and, eq_self, decide_eq_true_eq, decide_eq_false_iff_not, Bool.not_eq_true', Bool.not_eq_false', peta, ncast]
  have a1 := (p_field c st (Bd.mono (by assumption))).1; generalize F_field c st = y1 at *; have b1 : Bd 28 y1.2 := a1.bd (by assumption)
  have a2 := (p_one c 3 y1.2 (Bd.mono (by assumption))).1; generalize F_one c 3 y1.2 = y2 at *; have b2 : Bd 26 y2.2 := a2.bd (by assumption)
  have a3 := (p_pick c 7 y2.2 (Bd.mono (by assumption))).1; generalize F_pick c 7 y2.2 = y3 at *; have b3 : Bd 24 y3.2 := a3.bd (by assumption)
  have q4 := p_amongL c [.lit (.int .i64 0), .lit (.int .i64 0), .lit (.int .i64 0), .lit (.int .i64 1), .lit (.int .i64 2), .lit (.int .i64 3), .lit (.int .i64 4)] 7 y3.2 (by first | assumption | exact Bd.mono (by assumption)) rfl (by decide) (by decide); generalize F_among c 7 (ints (rowsOf 1 [.lit (.int .i64 0), .lit (.int .i64 0), .lit (.int .i64 0), .lit (.int .i64 1), .lit (.int .i64 2), .lit (.int .i64 3), .lit (.int .i64 4)])) y3.2 = y4 at *; simp only [List.map_cons, List.map_nil, intOf, List.mem_cons, List.not_mem_nil, or_false] at q4; obtain ⟨a4, q4⟩ := q4
  have b4 : Bd 22 y4.2 := a4.bd b3
  have a5 := (p_tincture c y4.2 (Bd.mono (by assumption))).1; generalize F_tincture c y4.2 = y5 at *; have b5 : Bd 20 y5.2 := a5.bd (by assumption)
  have a6 := (p_one c 3 y5.2 (Bd.mono (by assumption))).1; generalize F_one c 3 y5.2 = y6 at *; have b6 : Bd 18 y6.2 := a6.bd (by assumption)
  have a7 := (p_group c y6.2 (Bd.mono (by assumption))).1; generalize F_group c y6.2 = y7 at *; have b7 : Bd 10 y7.2 := a7.bd (by assumption)
  have a8 := (p_one c 3 y7.2 (Bd.mono (by assumption))).1; generalize F_one c 3 y7.2 = y8 at *; have b8 : Bd 8 y8.2 := a8.bd (by assumption)
  have a9 := (p_group c y8.2 (Bd.mono (by assumption))).1; generalize F_group c y8.2 = y9 at *; have b9 : Bd 0 y9.2 := a9.bd (by assumption)
  have a10 := (p_one c 3 y6.2 (Bd.mono (by assumption))).1; generalize F_one c 3 y6.2 = y10 at *; have b10 : Bd 16 y10.2 := a10.bd (by assumption)
  have a11 := (p_group c y10.2 (Bd.mono (by assumption))).1; generalize F_group c y10.2 = y11 at *; have b11 : Bd 8 y11.2 := a11.bd (by assumption)
  have a12 := (p_one c 3 y2.2 (Bd.mono (by assumption))).1; generalize F_one c 3 y2.2 = y12 at *; have b12 : Bd 24 y12.2 := a12.bd (by assumption)
  have a13 := (p_group c y12.2 (Bd.mono (by assumption))).1; generalize F_group c y12.2 = y13 at *; have b13 : Bd 16 y13.2 := a13.bd (by assumption)
  exact ⟨h.mono, b1.mono, fun _ => ⟨b2.mono, ⟨b3.mono, vrow_ok _ rfl (by decide), by decide, by decide⟩, b4.mono, b5.mono, fun _ => ⟨b6.mono, b7.mono, fun _ => ⟨b8, ⟨(⟨⟨_, _, _, _⟩, _, _, _, ⟨_, _, _, _⟩, ⟨_, _, _, _⟩⟩, y9.2), .refl, by unfold enc_arms; (first | exact .lit | exact blq_ok 4 rfl), rfl, ((((((((a1.t a2).t a3).t a4).t a5).t a6).t a7).t a8).t a9).le (by decide)⟩⟩, fun _ => ⟨(⟨⟨_, _, _, _⟩, _, _, _, ⟨_, _, _, _⟩, ⟨_, _, _, _⟩⟩, y8.2), .refl, by unfold enc_arms; (first | exact .lit | exact blq_ok 4 rfl), rfl, (((((((a1.t a2).t a3).t a4).t a5).t a6).t a7).t a8).le (by decide)⟩⟩,
    fun _ => ⟨b6.mono, fun _ => ⟨b10.mono, ⟨(⟨⟨_, _, _, _⟩, _, _, _, ⟨_, _, _, _⟩, ⟨_, _, _, _⟩⟩, y11.2), .refl, by unfold enc_arms; (first | exact .lit | exact blq_ok 4 rfl), rfl, (((((((a1.t a2).t a3).t a4).t a5).t a6).t a10).t a11).le (by decide)⟩⟩, fun _ => ⟨(⟨⟨_, _, _, _⟩, _, _, _, ⟨_, _, _, _⟩, ⟨_, _, _, _⟩⟩, y10.2), .refl, by unfold enc_arms; (first | exact .lit | exact blq_ok 4 rfl), rfl, ((((((a1.t a2).t a3).t a4).t a5).t a6).t a10).le (by decide)⟩⟩⟩, fun _ => ⟨b2.mono, fun _ => ⟨b12.mono, ⟨(⟨⟨_, _, _, _⟩, _, _, _, ⟨_, _, _, _⟩, ⟨_, _, _, _⟩⟩, y13.2), .refl, by unfold enc_arms; (first | exact .lit | exact blq_ok 4 rfl), rfl, (((a1.t a2).t a12).t a13).le (by decide)⟩⟩, fun _ => ⟨(⟨⟨_, _, _, _⟩, _, _, _, ⟨_, _, _, _⟩, ⟨_, _, _, _⟩⟩, y12.2), .refl, by unfold enc_arms; (first | exact .lit | exact blq_ok 4 rfl), rfl, ((a1.t a2).t a12).le (by decide)⟩⟩⟩
noncomputable def F_arms (c : Cd)  (st : DS) : Arm × DS := drw Try.prog 56 47 38 enc_arms (fun _ => True) c [] st
noncomputable def e_arms (c : Cd) : Entry := curE 56 47 38 c fun H st a => match a with
  | [] => some (enc_arms H (fun _ => (F_arms c  st).1), (fun _ => (F_arms c  st).2), [])
  | _ => none
theorem eok_arms (c : Cd) : EntryOk Try.prog (e_arms c) := curE_ok (by unfold isBody; kernel_rfl) (by
  intro st a r y ob e hb hob
  split at e
  · simp only [Option.some.injEq, Prod.mk.injEq] at e
    obtain ⟨rfl, rfl, rfl⟩ := e
    exact ⟨(drw_spec (x_arms c  st hb)).1, (by intro x hx; cases hx), (by unfold enc_arms; (first | exact .lit | exact blq_ok 4 rfl))⟩
  · simp at e)
theorem p_arms (c : Cd)  (st : DS) (h : Bd 38 st)  : Adv 38 st (F_arms c  st).2 ∧ (fun _ => True) (F_arms c  st).1 := (drw_spec (x_arms c  st h )).2
end Go.Proofs.Ytpilblmncpeelaa.AM

set_option linter.unusedVariables false
set_option linter.unusedSimpArgs false
set_option maxRecDepth 100000
set_option maxHeartbeats 4000000
set_option cbv.maxSteps 3000000
namespace Go.Proofs.Ytpilblmncpeelaa.AM
/- Shields are drawn; conditions: none. -/
structure Shd where
  mode : Int
  parts : List Arm
deriving Inhabited
theorem Shd.eta (a : Shd) : (⟨a.mode, a.parts⟩ : Shd) = a := rfl
theorem flat_at {α : Type} {f : α → List AV} {k : Nat} (hf : ∀ x, (f x).length = k) : ∀ (L : List α) (j : Nat) (h : j < L.length), ((L.flatMap f).drop (j * k)).take k = f L[j]
  | x :: L, 0, _ => by
    simp only [List.flatMap_cons, Nat.zero_mul, List.drop_zero, List.getElem_cons_zero]
    rw [List.take_append_of_le_length (by rw [hf]; exact Nat.le_refl _), List.take_of_length_le (by rw [hf]; exact Nat.le_refl _)]
  | x :: L, j + 1, h => by
    simp only [List.flatMap_cons, List.getElem_cons_succ]
    have e : (j + 1) * k = (f x).length + j * k := by rw [hf, Nat.add_mul, Nat.one_mul, Nat.add_comm]
    rw [e, List.drop_append, List.drop_of_length_le (by omega), List.nil_append, Nat.add_sub_cancel_left]
    exact flat_at hf L j (by simpa using h)
/-- A literal's rows. -/
theorem RowsEq.lit {α : Type} {D : RowD α} (ok : RowOk D) {L : List α} {cs : List AV} {n : Nat} (hn : L.length = n) (h : cs = L.flatMap fun x => D.cells stdH fun _ => x) : RowsEq D.k L.length (rowsT D stdH fun _ => L) n (rowsOf D.k cs) := by
  subst hn
  refine ⟨rfl, fun j hj => ⟨?_, by rw [rowsT, ok.row]; exact ok.len _, rows_blx ok L j⟩⟩
  rw [rowsT, ok.row, rowsOf, h, flat_at (fun x => ok.len fun _ => x) L j hj, List.getD_eq_getElem?_getD, List.getElem?_eq_getElem hj, Option.getD_some]
theorem Cd.rqN (c : Cd) : RowsEq 1 c.n c.rows c.n c.rows := ⟨rfl, fun j _ => ⟨rfl, rfl, fun x hx => by simp [Cd.rows] at hx; subst hx; exact .lit⟩⟩
theorem hlen {H : Hold} (hH : H = stdH) (n : Nat) : (H Int fun _ => ((H Nat fun _ => n : Nat) : Int)) = (n : Int) := by subst hH; rfl
end Go.Proofs.Ytpilblmncpeelaa.AM

