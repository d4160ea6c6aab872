import Derived.Test.YtoommgpcmgnpaaaAmT
import Derived.Test.YtoommgpcmgnpaaaFdt
import Derived.Test.YtoommgpcmgnpaaaSpt
import Derived.Test.YtoommgpcmgnpaaaDrA
import Derived.Test.YtoommgpcmgnpaaaShd
set_option linter.unusedVariables false
set_option linter.unusedSimpArgs false
set_option maxRecDepth 100000
set_option maxHeartbeats 4000000
set_option cbv.maxSteps 3000000
namespace Go.Proofs.Ytoommgpcmgnpaaa.AM
/- Findings drawn; conditions: none. -/
def enc_DrawRuleFindings (H : Hold) (y : Unit → Arm) : AV := .agg [.lit (.int .i64 (H Int fun _ => (((y ())).f.d))), .lit (.int .i64 (H Int fun _ => (((y ())).f.l))), .lit (.int .i64 (H Int fun _ => (((y ())).f.p))), .lit (.int .i64 (H Int fun _ => (((y ())).f.q))), .lit (.int .i64 (H Int fun _ => (((y ())).o))), .lit (.int .i64 (H Int fun _ => (((y ())).l))), .lit (.int .i64 (H Int fun _ => (((y ())).t))), .lit (.int .i64 (H Int fun _ => (((y ())).n.c))), .lit (.int .i64 (H Int fun _ => (((y ())).n.k))), .lit (.int .i64 (H Int fun _ => (((y ())).n.a))), .lit (.int .i64 (H Int fun _ => (((y ())).n.t))), .lit (.int .i64 (H Int fun _ => (((y ())).r.c))), .lit (.int .i64 (H Int fun _ => (((y ())).r.k))), .lit (.int .i64 (H Int fun _ => (((y ())).r.a))), .lit (.int .i64 (H Int fun _ => (((y ())).r.t)))]
theorem x_DrawRuleFindings (c : Cd) : ∃ y : Arm, Con Try.prog 6 [codeAV c] [] (enc_DrawRuleFindings stdH fun _ => y) [] ∧ Bl 0 (enc_DrawRuleFindings stdH fun _ => y) ∧ (fun _ => True) y := by
  have hB : Base Try.prog (tabΓ [e_anyArms c]) tab := base_of tabOk (ents_cons (eok_anyArms c) <| ents_nil)
  refine df_ok (N := 9) hB (draw_ok hB mixed) Try.func6 rfl rfl _ _ _ 60 (by simp) ?_
  intro H hH
  conv in finish _ _ _ _ _ _ _ _ => cbv
  subst hH
  simp only [Fin.sat0, Fin.sat1, stdH, Option.some.injEq, AV.lit.injEq, AV.agg.injEq, AV.tup.injEq, List.cons.injEq, Value.bool.injEq, Value.int.injEq, AllP, and_true, true_and, eq_self, decide_eq_true_eq, decide_eq_false_iff_not, Bool.not_eq_true', Bool.not_eq_false', peta, ncast]
  have h : Bd 64 (0, 0) := ⟨by decide, by decide⟩
  exact ⟨h.mono, (F_anyArms c (0, 0)).1, .refl, by unfold enc_DrawRuleFindings; (first | exact .lit | exact blq_ok 4 rfl)⟩
noncomputable def F_DrawRuleFindings (c : Cd) : Arm := dfw Try.prog 6 enc_DrawRuleFindings (fun _ => True) c
noncomputable def e_DrawRuleFindings (c : Cd) : Entry := codeE 6 c fun H => enc_DrawRuleFindings H fun _ => F_DrawRuleFindings c
theorem eok_DrawRuleFindings (c : Cd) : EntryOk Try.prog (e_DrawRuleFindings c) := codeE_ok (by unfold isBody; kernel_rfl) (dfw_spec (x_DrawRuleFindings c)).1
theorem p_DrawRuleFindings (c : Cd) : (fun _ => True) (F_DrawRuleFindings c) := (dfw_spec (x_DrawRuleFindings c)).2.2
def enc_DrawRepairArms (H : Hold) (y : Unit → Arm) : AV := .agg [.lit (.int .i64 (H Int fun _ => (((y ())).f.d))), .lit (.int .i64 (H Int fun _ => (((y ())).f.l))), .lit (.int .i64 (H Int fun _ => (((y ())).f.p))), .lit (.int .i64 (H Int fun _ => (((y ())).f.q))), .lit (.int .i64 (H Int fun _ => (((y ())).o))), .lit (.int .i64 (H Int fun _ => (((y ())).l))), .lit (.int .i64 (H Int fun _ => (((y ())).t))), .lit (.int .i64 (H Int fun _ => (((y ())).n.c))), .lit (.int .i64 (H Int fun _ => (((y ())).n.k))), .lit (.int .i64 (H Int fun _ => (((y ())).n.a))), .lit (.int .i64 (H Int fun _ => (((y ())).n.t))), .lit (.int .i64 (H Int fun _ => (((y ())).r.c))), .lit (.int .i64 (H Int fun _ => (((y ())).r.k))), .lit (.int .i64 (H Int fun _ => (((y ())).r.a))), .lit (.int .i64 (H Int fun _ => (((y ())).r.t)))]
theorem x_DrawRepairArms (c : Cd) : ∃ y : Arm, Con Try.prog 13 [codeAV c] [] (enc_DrawRepairArms stdH fun _ => y) [] ∧ Bl 0 (enc_DrawRepairArms stdH fun _ => y) ∧ (fun _ => True) y := by
  have hB : Base Try.prog (tabΓ [e_DrawRuleFindings c]) tab := base_of tabOk (ents_cons (eok_DrawRuleFindings c) <| ents_nil)
  refine df_ok (N := 5) hB (draw_ok hB mixed) Try.func13 rfl rfl _ _ _ 60 (by simp) ?_
  intro H hH
  conv in finish _ _ _ _ _ _ _ _ => cbv
  subst hH
  simp only [Fin.sat0, Fin.sat1, stdH, Option.some.injEq, AV.lit.injEq, AV.agg.injEq, AV.tup.injEq, List.cons.injEq, Value.bool.injEq, Value.int.injEq, AllP, and_true, true_and, eq_self, decide_eq_true_eq, decide_eq_false_iff_not, Bool.not_eq_true', Bool.not_eq_false', peta, ncast]
  exact ⟨F_DrawRuleFindings c, .refl, by unfold enc_DrawRepairArms; (first | exact .lit | exact blq_ok 4 rfl)⟩
noncomputable def F_DrawRepairArms (c : Cd) : Arm := dfw Try.prog 13 enc_DrawRepairArms (fun _ => True) c
noncomputable def e_DrawRepairArms (c : Cd) : Entry := codeE 13 c fun H => enc_DrawRepairArms H fun _ => F_DrawRepairArms c
theorem eok_DrawRepairArms (c : Cd) : EntryOk Try.prog (e_DrawRepairArms c) := codeE_ok (by unfold isBody; kernel_rfl) (dfw_spec (x_DrawRepairArms c)).1
theorem p_DrawRepairArms (c : Cd) : (fun _ => True) (F_DrawRepairArms c) := (dfw_spec (x_DrawRepairArms c)).2.2
structure Sz (n : Nat) (l : List ByteArray) : Prop where
  le : ∀ s ∈ l, s.size ≤ n
theorem Sz.at {n : Nat} {l : List ByteArray} (h : Sz n l) (j : Nat) : (l.getD j ByteArray.empty).size ≤ n := by
  rcases Nat.lt_or_ge j l.length with g | g
  · rw [List.getD_eq_getElem?_getD, List.getElem?_eq_getElem g, Option.getD_some]
    exact h.le _ (List.getElem_mem g)
  · rw [List.getD_eq_getElem?_getD, List.getElem?_eq_none g, Option.getD_none]
    exact Nat.zero_le _
def r_ofS (n : Nat) (H : Hold) (y : Unit → ByteArray) : AV := .lit (.string (H ByteArray fun _ => (y ())))
def nb_ofS (H : Hold) (y : Unit → ByteArray) : List Blk := []
theorem x_ofS (c : Cd) (l : List ByteArray) (st : DS) (h : Bd 2 st) (h0 : 1 ≤ l.length) (h1 : l.length ≤ 100) (h2 : Sz 200 l) : ∃ y, DrwM Try.prog 68 46 2 r_ofS nb_ofS (fun y => y.size ≤ 200) c [.vec 1 (stdH Nat fun _ => (l).length) (rowsS stdH fun _ => l)] st y := by
  have hB : Base Try.prog (tabΓ [e_pick c]) tab := base_of tabOk (ents_cons (eok_pick c) <| ents_nil)
  refine drwM_ok (N := 12) hB (draw_ok hB mixed) Try.func46 rfl rfl 68 2 r_ofS nb_ofS (fun y => y.size ≤ 200) c (fun H => [.vec 1 (H Nat fun _ => (l).length) (rowsS H fun _ => l)]) st 100 (by simp) (fun x hx => ?_) ?_
  · simp only [List.mem_cons, List.not_mem_nil, or_false] at hx; rcases hx with rfl
    · exact vl_bl okS l _
  intro H hH
  conv in finish _ _ _ _ _ _ _ _ => cbv
  simp only [Fin.sat0, AllP, and_true, true_and, ncast, Int.ofNat_eq_natCast, heta hH]
  simp only [hlen hH]
  obtain ⟨a1, m1, n1⟩ := p_pick c (l.length) st (Bd.mono (by assumption)); generalize F_pick c (l.length) st = y1 at *; have b1 : Bd 0 y1.2 := Adv.bd a1 (by assumption)
  refine ⟨?_, ?_, ?_⟩
  · try simp only [hH, stdH, decide_eq_true_eq, decide_eq_false_iff_not, Bool.not_eq_true', Bool.not_eq_false', peta, ncast, Int.ofNat_eq_natCast, beq_iff_eq, bne_iff_ne, beq_eq_false_iff_ne, bne_eq_false_iff_eq, ne_eq, Classical.not_not, Int.toNat_natCast, vrow_I, Arm.eta2, Fld.eta, Grp.eta]
    exact h.mono
  · try simp only [hH, stdH, decide_eq_true_eq, decide_eq_false_iff_not, Bool.not_eq_true', Bool.not_eq_false', peta, ncast, Int.ofNat_eq_natCast, beq_iff_eq, bne_iff_ne, beq_eq_false_iff_ne, bne_eq_false_iff_eq, ne_eq, Classical.not_not, Int.toNat_natCast, vrow_I, Arm.eta2, Fld.eta, Grp.eta]
    omega
  · refine ⟨(l.getD y1.1.toNat ByteArray.empty, y1.2), a1, h2.at _, ?_⟩
    (conv in matchEx _ _ _ _ _ _ _ => cbv); simp only [AllG, AllP, and_true, hH, stdH, ncast, Int.ofNat_eq_natCast, vrow_I, Arm.eta2, Fld.eta, Grp.eta]
    (repeat' (first | trivial | exact c.rqN | rfl | refine And.intro ?_ ?_))
noncomputable def F_ofS (c : Cd) (l : List ByteArray) (st : DS) : ByteArray × DS := drwM Try.prog 68 46 2 r_ofS nb_ofS (fun y => y.size ≤ 200) c [.vec 1 (stdH Nat fun _ => (l).length) (rowsS stdH fun _ => l)] st
noncomputable def e_ofS (c : Cd) : Entry := curEN 68 46 2 c fun H st a nx => match a with
  | [.vec 1 ln lf] => some (r_ofS nx H (fun _ => (F_ofS c (Tl rowS ln lf) st).1), nb_ofS H (fun _ => (F_ofS c (Tl rowS ln lf) st).1), (fun _ => (F_ofS c (Tl rowS ln lf) st).2), [H Prop fun _ => Shp rowS ln lf, H Prop fun _ => 1 ≤ (Tl rowS ln lf).length, H Prop fun _ => (Tl rowS ln lf).length ≤ 100, H Prop fun _ => Sz 200 (Tl rowS ln lf)])
  | _ => none
theorem eok_ofS (c : Cd) : EntryOk Try.prog (e_ofS c) := curEN_ok (by unfold isBody; kernel_rfl) (by
  intro st a nx r nb y ob e hb hob
  split at e
  · rename_i ln lf
    simp only [Option.some.injEq, Prod.mk.injEq] at e
    obtain ⟨rfl, rfl, rfl, rfl⟩ := e
    have hd := drwM_spec (x_ofS c (Tl rowS ln lf) st hb hob.2.1 hob.2.2.1 hob.2.2.2.1)
    refine ⟨_, _, ConN.args (.cons .rfl (.cons (.toT okS rfl hob.1) .nil)) hd.1, fun x hx => ?_, rfl, ?_, fun q b hq => ⟨b, hq, .same ?_⟩⟩
    · simp only [List.mem_cons, List.not_mem_nil, or_false] at hx
      rcases hx with rfl
      · exact (hob.1).bl okS _
    · (repeat' (first | exact .nil | exact .slc ⟨by omega, by simp [nb_ofS]⟩ (by omega) | exact .pl .lit | apply ReL.cons | apply Re.aggL | apply Re.tupL))
    · replace hq := List.mem_of_getElem? hq
      simp [nb_ofS] at hq
  · simp at e)
theorem p_ofS (c : Cd) (l : List ByteArray) (st : DS) (h : Bd 2 st) (h0 : 1 ≤ l.length) (h1 : l.length ≤ 100) (h2 : Sz 200 l) : Adv 2 st (F_ofS c l st).2 ∧ (fun y => y.size ≤ 200) (F_ofS c l st).1 := (drwM_spec (x_ofS c l st h h0 h1 h2)).2
def r_finding (n : Nat) (H : Hold) (y : Unit → Fdg) : AV := aT rowD H fun _ => (y ())
def nb_finding (H : Hold) (y : Unit → Fdg) : List Blk := []
theorem x_finding (c : Cd)  (st : DS) (h : Bd 14 st)  : ∃ y, DrwM Try.prog 68 45 14 r_finding nb_finding (fun _ => True) c [] st y := by
  have hB : Base Try.prog (tabΓ [e_pick c, e_one c, e_among c, e_anyTincture c]) tab := base_of tabOk (ents_cons (eok_pick c) <| ents_cons (eok_one c) <| ents_cons (eok_among c) <| ents_cons (eok_anyTincture c) <| ents_nil)
  refine drwM_ok (N := 40) hB (draw_ok hB mixed) Try.func45 rfl rfl 68 14 r_finding nb_finding (fun _ => True) c (fun H => []) st 200 (by simp) (fun x hx => ?_) ?_
  · cases hx
  intro H hH
  conv in finish _ _ _ _ _ _ _ _ => cbv
  simp only [Fin.sat0, AllP, and_true, true_and, ncast, Int.ofNat_eq_natCast, heta hH]
  try simp only [heta hH]
  have a1 := (p_pick c 3 st (Bd.mono (by assumption))).1; generalize F_pick c 3 st = y1 at *; have b1 : Bd 12 y1.2 := a1.bd (by assumption)
  have a2 := (p_one c 2 y1.2 (Bd.mono (by assumption))).1; generalize F_one c 2 y1.2 = y2 at *; have b2 : Bd 10 y2.2 := a2.bd (by assumption)
  have q3 := p_amongL c [.lit (.int .i64 1), .lit (.int .i64 2)] 2 y2.2 (by first | assumption | exact Bd.mono (by assumption)) rfl (by decide) (by decide); generalize F_among c 2 (ints (rowsOf 1 [.lit (.int .i64 1), .lit (.int .i64 2)])) y2.2 = y3 at *; simp only [List.map_cons, List.map_nil, intOf, List.mem_cons, List.not_mem_nil, or_false] at q3; obtain ⟨a3, q3⟩ := q3
  have b3 : Bd 8 y3.2 := a3.bd b2
  have q4 := p_amongL c [.lit (.int .i64 1), .lit (.int .i64 2)] 2 y3.2 (by first | assumption | exact Bd.mono (by assumption)) rfl (by decide) (by decide); generalize F_among c 2 (ints (rowsOf 1 [.lit (.int .i64 1), .lit (.int .i64 2)])) y3.2 = y4 at *; simp only [List.map_cons, List.map_nil, intOf, List.mem_cons, List.not_mem_nil, or_false] at q4; obtain ⟨a4, q4⟩ := q4
  have b4 : Bd 6 y4.2 := a4.bd b3
  have a5 := (p_pick c 30 y4.2 (Bd.mono (by assumption))).1; generalize F_pick c 30 y4.2 = y5 at *; have b5 : Bd 4 y5.2 := a5.bd (by assumption)
  have q6 := p_amongL c [.lit (.int .i64 0), .lit (.int .i64 4)] 2 y5.2 (by first | assumption | exact Bd.mono (by assumption)) rfl (by decide) (by decide); generalize F_among c 2 (ints (rowsOf 1 [.lit (.int .i64 0), .lit (.int .i64 4)])) y5.2 = y6 at *; simp only [List.map_cons, List.map_nil, intOf, List.mem_cons, List.not_mem_nil, or_false] at q6; obtain ⟨a6, q6⟩ := q6
  have a7 := (p_anyTincture c y5.2 (Bd.mono (by assumption))).1; generalize F_anyTincture c y5.2 = y7 at *; have b7 : Bd 0 y7.2 := a7.bd (by assumption)
  have a13 := (p_pick c 5 y2.2 (Bd.mono (by assumption))).1; generalize F_pick c 5 y2.2 = y13 at *; have b13 : Bd 8 y13.2 := a13.bd (by assumption)
  have a14 := (p_pick c 5 y13.2 (Bd.mono (by assumption))).1; generalize F_pick c 5 y13.2 = y14 at *; have b14 : Bd 6 y14.2 := a14.bd (by assumption)
  have a15 := (p_pick c 30 y14.2 (Bd.mono (by assumption))).1; generalize F_pick c 30 y14.2 = y15 at *; have b15 : Bd 4 y15.2 := a15.bd (by assumption)
  have q16 := p_amongL c [.lit (.int .i64 0), .lit (.int .i64 4)] 2 y15.2 (by first | assumption | exact Bd.mono (by assumption)) rfl (by decide) (by decide); generalize F_among c 2 (ints (rowsOf 1 [.lit (.int .i64 0), .lit (.int .i64 4)])) y15.2 = y16 at *; simp only [List.map_cons, List.map_nil, intOf, List.mem_cons, List.not_mem_nil, or_false] at q16; obtain ⟨a16, q16⟩ := q16
  have a17 := (p_anyTincture c y15.2 (Bd.mono (by assumption))).1; generalize F_anyTincture c y15.2 = y17 at *; have b17 : Bd 0 y17.2 := a17.bd (by assumption)
  repeat' (first | refine And.intro ?_ ?_ | intro _)
  all_goals (try ((try simp only [hH, stdH, decide_eq_true_eq, decide_eq_false_iff_not, Bool.not_eq_true', Bool.not_eq_false', peta, ncast, Int.ofNat_eq_natCast, beq_iff_eq, bne_iff_ne, beq_eq_false_iff_ne, bne_eq_false_iff_eq, ne_eq, Classical.not_not, Int.toNat_natCast, vrow_I, Arm.eta2, Fld.eta, Grp.eta]); first | done | trivial | omega | exact vrow_ok _ rfl (by decide) | exact Bd.mono (by assumption)))
  · refine ⟨(⟨y6.1, y3.1, y4.1⟩, y6.2), (((((a1.t a2).t a3).t a4).t a5).t a6).le (by decide), trivial, ?_⟩
    (conv in matchEx _ _ _ _ _ _ _ => cbv); simp only [AllG, AllP, and_true, hH, stdH, ncast, Int.ofNat_eq_natCast, vrow_I, Arm.eta2, Fld.eta, Grp.eta]
    (repeat' (first | trivial | exact c.rqN | rfl | refine And.intro ?_ ?_))
  · refine ⟨(⟨IntKind.i64.wrap (1 + y1.1), y3.1, y7.1⟩, y7.2), (((((a1.t a2).t a3).t a4).t a5).t a7).le (by decide), trivial, ?_⟩
    (conv in matchEx _ _ _ _ _ _ _ => cbv); simp only [AllG, AllP, and_true, hH, stdH, ncast, Int.ofNat_eq_natCast, vrow_I, Arm.eta2, Fld.eta, Grp.eta]
    (repeat' (first | trivial | exact c.rqN | rfl | refine And.intro ?_ ?_))
  · refine ⟨(⟨IntKind.i64.wrap (1 + y1.1), y3.1, y4.1⟩, y5.2), ((((a1.t a2).t a3).t a4).t a5).le (by decide), trivial, ?_⟩
    (conv in matchEx _ _ _ _ _ _ _ => cbv); simp only [AllG, AllP, and_true, hH, stdH, ncast, Int.ofNat_eq_natCast, vrow_I, Arm.eta2, Fld.eta, Grp.eta]
    (repeat' (first | trivial | exact c.rqN | rfl | refine And.intro ?_ ?_))
  · refine ⟨(⟨y16.1, IntKind.i64.wrap (3 + y13.1), IntKind.i64.wrap (3 + y14.1)⟩, y16.2), (((((a1.t a2).t a13).t a14).t a15).t a16).le (by decide), trivial, ?_⟩
    (conv in matchEx _ _ _ _ _ _ _ => cbv); simp only [AllG, AllP, and_true, hH, stdH, ncast, Int.ofNat_eq_natCast, vrow_I, Arm.eta2, Fld.eta, Grp.eta]
    (repeat' (first | trivial | exact c.rqN | rfl | refine And.intro ?_ ?_))
  · refine ⟨(⟨IntKind.i64.wrap (1 + y1.1), IntKind.i64.wrap (3 + y13.1), y17.1⟩, y17.2), (((((a1.t a2).t a13).t a14).t a15).t a17).le (by decide), trivial, ?_⟩
    (conv in matchEx _ _ _ _ _ _ _ => cbv); simp only [AllG, AllP, and_true, hH, stdH, ncast, Int.ofNat_eq_natCast, vrow_I, Arm.eta2, Fld.eta, Grp.eta]
    (repeat' (first | trivial | exact c.rqN | rfl | refine And.intro ?_ ?_))
  · refine ⟨(⟨IntKind.i64.wrap (1 + y1.1), IntKind.i64.wrap (3 + y13.1), IntKind.i64.wrap (3 + y14.1)⟩, y15.2), ((((a1.t a2).t a13).t a14).t a15).le (by decide), trivial, ?_⟩
    (conv in matchEx _ _ _ _ _ _ _ => cbv); simp only [AllG, AllP, and_true, hH, stdH, ncast, Int.ofNat_eq_natCast, vrow_I, Arm.eta2, Fld.eta, Grp.eta]
    (repeat' (first | trivial | exact c.rqN | rfl | refine And.intro ?_ ?_))
noncomputable def F_finding (c : Cd)  (st : DS) : Fdg × DS := drwM Try.prog 68 45 14 r_finding nb_finding (fun _ => True) c [] st
noncomputable def e_finding (c : Cd) : Entry := curEN 68 45 14 c fun H st a nx => match a with
  | [] => some (r_finding nx H (fun _ => (F_finding c  st).1), nb_finding H (fun _ => (F_finding c  st).1), (fun _ => (F_finding c  st).2), [])
  | _ => none
theorem eok_finding (c : Cd) : EntryOk Try.prog (e_finding c) := curEN_ok (by unfold isBody; kernel_rfl) (by
  intro st a nx r nb y ob e hb hob
  split at e
  · simp only [Option.some.injEq, Prod.mk.injEq] at e
    obtain ⟨rfl, rfl, rfl, rfl⟩ := e
    have hd := drwM_spec (x_finding c  st hb )
    refine ⟨_, _, ConN.args (.cons .rfl .nil) hd.1, fun x hx => ?_, rfl, ?_, fun q b hq => ⟨b, hq, .same ?_⟩⟩
    · cases hx
    · (repeat' (first | exact .nil | exact .slc ⟨by omega, by simp [nb_finding]⟩ (by omega) | exact .pl .lit | exact .pl (aT_bl okRD (fun _ => (F_finding c  st).1) _) | apply ReL.cons | apply Re.aggL | apply Re.tupL))
    · replace hq := List.mem_of_getElem? hq
      simp [nb_finding] at hq
  · simp at e)
theorem p_finding (c : Cd)  (st : DS) (h : Bd 14 st)  : Adv 14 st (F_finding c  st).2 ∧ (fun _ => True) (F_finding c  st).1 := (drwM_spec (x_finding c  st h )).2
theorem hetaD {H : Hold} (hH : H = stdH) (a : Fdg) : (⟨H Int fun _ => a.p, H Int fun _ => a.u, H Int fun _ => a.l⟩ : Fdg) = a := by subst hH; rfl
theorem TlS3_H {H : Hold} (hH : H = stdH) (x y z : ByteArray) : Tl rowS 3 (rowsS H fun _ => [x, y, z]) = [x, y, z] := by subst hH; exact Tl_rowsT okS [x, y, z]
theorem hs {H : Hold} (hH : H = stdH) (x : ByteArray) : (H ByteArray fun _ => x) = x := by subst hH; rfl
theorem hb {H : Hold} (hH : H = stdH) (x : Bool) : (H Bool fun _ => x) = x := by subst hH; rfl
theorem ShS3_H {H : Hold} (hH : H = stdH) (L : List ByteArray) : Shp rowS 3 (rowsS H fun _ => L) := by subst hH; exact Shp_rowsT okS 3 (fun _ => L)
def r_DrawParseFinding (n : Nat) (H : Hold) (y : Unit → ByteArray) : AV := .lit (.string (H ByteArray fun _ => (y ())))
def nb_DrawParseFinding (H : Hold) (y : Unit → ByteArray) : List Blk := []
theorem x_DrawParseFinding (c : Cd) : ∃ y, DrfM Try.prog 17 r_DrawParseFinding nb_DrawParseFinding (fun _ => True) c y := by
  have hB : Base Try.prog (tabΓ [e_finding c, e_fdTextS, e_ofS c, e_one c, e_spoilt c]) tab := base_of tabOk (ents_cons (eok_finding c) <| ents_cons eok_fdTextS <| ents_cons (eok_ofS c) <| ents_cons (eok_one c) <| ents_cons (eok_spoilt c) <| ents_nil)
  refine drfM_ok (N := 26) hB (draw_ok hB mixed) Try.func17 rfl rfl r_DrawParseFinding nb_DrawParseFinding (fun _ => True) c 200 (by simp) ?_
  intro H hH
  conv in finish _ _ _ _ _ _ _ _ => cbv
  simp only [Fin.sat0, AllP, and_true, true_and, ncast, Int.ofNat_eq_natCast, heta hH]
  simp only [hlen hH, hetaD hH, heta hH, TlS3_H hH, hs hH, hb hH]
  have h : Bd 24 (0, 0) := ⟨by decide, by decide⟩
  have a1 := (p_finding c (0, 0) (Bd.mono (by assumption))).1; generalize F_finding c (0, 0) = y1 at *; have b1 : Bd 10 y1.2 := a1.bd (by assumption)
  have sz : Sz 200 [(⟨⟨[]⟩⟩ : ByteArray), (⟨⟨[84, 104, 101, 32, 111, 114, 100, 105, 110, 97, 114, 121, 32, 105, 115, 32, 114, 101, 100, 32, 111, 110, 32, 103, 111, 108, 100, 46]⟩⟩ : ByteArray), (⟨⟨[84, 104, 101, 32, 99, 104, 97, 114, 103, 101, 115, 32, 97, 114, 111, 117, 110, 100, 32, 105, 116, 32, 97, 114, 101, 32, 114, 101, 100, 32, 111, 110, 32, 98, 108, 117, 101]⟩⟩ : ByteArray)] := ⟨by decide⟩
  generalize hL : [(⟨⟨[]⟩⟩ : ByteArray), (⟨⟨[84, 104, 101, 32, 111, 114, 100, 105, 110, 97, 114, 121, 32, 105, 115, 32, 114, 101, 100, 32, 111, 110, 32, 103, 111, 108, 100, 46]⟩⟩ : ByteArray), (⟨⟨[84, 104, 101, 32, 99, 104, 97, 114, 103, 101, 115, 32, 97, 114, 111, 117, 110, 100, 32, 105, 116, 32, 97, 114, 101, 32, 114, 101, 100, 32, 111, 110, 32, 98, 108, 117, 101]⟩⟩ : ByteArray)] = L at *
  have hl : L.length = 3 := by rw [← hL]; rfl
  have sf := fdT_sz y1.1
  obtain ⟨a2, m2⟩ := p_ofS c L y1.2 (Bd.mono (by assumption)) (by omega) (by omega) sz
  generalize F_ofS c L y1.2 = y2 at *
  have b2 : Bd 8 y2.2 := a2.bd b1
  have a3 := (p_one c 4 y2.2 (Bd.mono (by assumption))).1; generalize F_one c 4 y2.2 = y3 at *; have b3 : Bd 6 y3.2 := a3.bd (by assumption)
  have a4 := (p_one c 4 y1.2 (Bd.mono (by assumption))).1; generalize F_one c 4 y1.2 = y4 at *; have b4 : Bd 8 y4.2 := a4.bd (by assumption)
  generalize F_spoilt c y2.1 (⟨⟨[46, 32, 114, 101, 100]⟩⟩ : ByteArray) y3.2 = y5
  have ty : (if okFd y1.1 = true then fdT y1.1 else ByteArray.empty).size ≤ 1000000 := by
    split
    · omega
    · exact Nat.zero_le _
  generalize (if okFd y1.1 = true then fdT y1.1 else ByteArray.empty) = t1 at *
  generalize F_spoilt c t1 (⟨⟨[46, 32, 114, 101, 100]⟩⟩ : ByteArray) y4.2 = y6
  repeat' (first | refine And.intro ?_ ?_ | intro _)
  all_goals (try ((try simp only [hH, stdH, decide_eq_true_eq, decide_eq_false_iff_not, Bool.not_eq_true', Bool.not_eq_false', peta, ncast, Int.ofNat_eq_natCast, beq_iff_eq, bne_iff_ne, beq_eq_false_iff_ne, bne_eq_false_iff_eq, ne_eq, Classical.not_not, Int.toNat_natCast, vrow_I, Arm.eta2, Fld.eta, Grp.eta]); first | done | trivial | omega | exact ty | exact ⟨by decide, by decide⟩ | decide | exact sz | exact ShS3_H rfl L | exact Shp_rowsT okS 3 (fun _ => L) | exact Bd.mono (by assumption)))
  · refine ⟨y5.1, trivial, ?_⟩
    (conv in matchEx _ _ _ _ _ _ _ => cbv); simp only [AllG, AllP, and_true, hH, stdH, ncast, Int.ofNat_eq_natCast, vrow_I, Arm.eta2, Fld.eta, Grp.eta]
    (repeat' (first | trivial | rfl | refine And.intro ?_ ?_))
  · refine ⟨y2.1, trivial, ?_⟩
    (conv in matchEx _ _ _ _ _ _ _ => cbv); simp only [AllG, AllP, and_true, hH, stdH, ncast, Int.ofNat_eq_natCast, vrow_I, Arm.eta2, Fld.eta, Grp.eta]
    (repeat' (first | trivial | rfl | refine And.intro ?_ ?_))
  · refine ⟨y6.1, trivial, ?_⟩
    (conv in matchEx _ _ _ _ _ _ _ => cbv); simp only [AllG, AllP, and_true, hH, stdH, ncast, Int.ofNat_eq_natCast, vrow_I, Arm.eta2, Fld.eta, Grp.eta]
    (repeat' (first | trivial | rfl | refine And.intro ?_ ?_))
  · refine ⟨t1, trivial, ?_⟩
    (conv in matchEx _ _ _ _ _ _ _ => cbv); simp only [AllG, AllP, and_true, hH, stdH, ncast, Int.ofNat_eq_natCast, vrow_I, Arm.eta2, Fld.eta, Grp.eta]
    (repeat' (first | trivial | rfl | refine And.intro ?_ ?_))
noncomputable def F_DrawParseFinding (c : Cd) : ByteArray := drfM Try.prog 17 r_DrawParseFinding nb_DrawParseFinding (fun _ => True) c
noncomputable def e_DrawParseFinding (c : Cd) : Entry := codeEN 17 c (fun nx H => r_DrawParseFinding nx H fun _ => F_DrawParseFinding c) (fun H => nb_DrawParseFinding H fun _ => F_DrawParseFinding c)
theorem eok_DrawParseFinding (c : Cd) : EntryOk Try.prog (e_DrawParseFinding c) := codeEN_ok (by unfold isBody; kernel_rfl) (drfM_spec (x_DrawParseFinding c)).1 (fun nx => by (repeat' (first | exact .nil | exact .slc ⟨by omega, by simp [nb_DrawParseFinding]⟩ (by omega) | exact .pl .lit | apply ReL.cons | apply Re.aggL | apply Re.tupL))) (fun b hq => by
      simp [nb_DrawParseFinding] at hq)
theorem p_DrawParseFinding (c : Cd) : (fun _ => True) (F_DrawParseFinding c) := (drfM_spec (x_DrawParseFinding c)).2

end Go.Proofs.Ytoommgpcmgnpaaa.AM
