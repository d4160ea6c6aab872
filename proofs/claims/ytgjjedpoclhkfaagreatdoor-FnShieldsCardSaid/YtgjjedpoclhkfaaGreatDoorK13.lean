/- Lemmas and contracts (Shd); conditions: none. -/
import Derived.Test.YtgjjedpoclhkfaaGreatDoorK03
import Derived.Test.YtgjjedpoclhkfaaGreatDoorK10
import Derived.Test.YtgjjedpoclhkfaaGreatDoorK12
set_option linter.unusedVariables false
set_option linter.unusedSimpArgs false
set_option maxRecDepth 100000
set_option maxHeartbeats 4000000
set_option cbv.maxSteps 3000000
namespace Go.Proofs.YtgjjedpoclhkfaaGreatDoor.AM
/- Shields are drawn; conditions: none. -/
structure Shd where
  mode : Int
  parts : List Arm
deriving Inhabited
def rowsH (H : Hold) (L : Unit → List Shd) (j : Nat) : List AV := [.lit (.int .i64 (H Int fun _ => ((L ()).getD j default).mode)), .vec 15 (H Nat fun _ => (((L ()).getD j default).parts).length) (rowsA H fun _ => ((L ()).getD j default).parts)]
def rowH : RowD Shd := ⟨2, default, fun H x => [.lit (.int .i64 (H Int fun _ => (x ()).mode)), .vec 15 (H Nat fun _ => ((x ()).parts).length) (rowsA H fun _ => (x ()).parts)], fun l => match l with
  | [.lit (.int _ x0), .vec _ x1n x1f] => ⟨x0, (Tl rowA x1n x1f)⟩
  | _ => default, rowsH⟩
theorem okRH : RowOk rowH := ⟨fun _ => rfl, fun x c hc => by simp only [rowH, List.mem_cons, List.not_mem_nil, or_false] at hc; rcases hc with rfl | rfl <;> (first | exact .lit | exact vT_bl okRA (fun _ => (x ()).parts) 0), fun x => (by show (⟨x.mode, Tl rowA (x.parts).length (rowsT rowA stdH fun _ => x.parts)⟩ : Shd) = x; rw [Tl_rowsT okRA]), fun _ _ => rfl⟩
theorem Shd.eta (a : Shd) : (⟨a.mode, a.parts⟩ : Shd) = a := rfl
theorem flat_at {α : Type} {f : α → List AV} {k : Nat} (hf : ∀ x, (f x).length = k) : ∀ (L : List α) (j : Nat) (h : j < L.length), ((L.flatMap f).drop (j * k)).take k = f L[j]
  | x :: L, 0, _ => by
    simp only [List.flatMap_cons, Nat.zero_mul, List.drop_zero, List.getElem_cons_zero]
    rw [List.take_append_of_le_length (by rw [hf]; exact Nat.le_refl _), List.take_of_length_le (by rw [hf]; exact Nat.le_refl _)]
  | x :: L, j + 1, h => by
    simp only [List.flatMap_cons, List.getElem_cons_succ]
    have e : (j + 1) * k = (f x).length + j * k := by rw [hf, Nat.add_mul, Nat.one_mul, Nat.add_comm]
    rw [e, List.drop_append, List.drop_of_length_le (by omega), List.nil_append, Nat.add_sub_cancel_left]
    exact flat_at hf L j (by simpa using h)
/-- A literal's rows. -/
theorem RowsEq.lit {α : Type} {D : RowD α} (ok : RowOk D) {L : List α} {cs : List AV} {n : Nat} (hn : L.length = n) (h : cs = L.flatMap fun x => D.cells stdH fun _ => x) : RowsEq D.k L.length (rowsT D stdH fun _ => L) n (rowsOf D.k cs) := by
  subst hn
  refine ⟨rfl, fun j hj => ⟨?_, by rw [rowsT, ok.row]; exact ok.len _, rows_blx ok L j⟩⟩
  rw [rowsT, ok.row, rowsOf, h, flat_at (fun x => ok.len fun _ => x) L j hj, List.getD_eq_getElem?_getD, List.getElem?_eq_getElem hj, Option.getD_some]
theorem hetaA {H : Hold} (hH : H = stdH) (a : Arm) : (⟨⟨H Int fun _ => a.f.d, H Int fun _ => a.f.l, H Int fun _ => a.f.p, H Int fun _ => a.f.q⟩, H Int fun _ => a.o, H Int fun _ => a.l, H Int fun _ => a.t, ⟨H Int fun _ => a.n.c, H Int fun _ => a.n.k, H Int fun _ => a.n.a, H Int fun _ => a.n.t⟩, ⟨H Int fun _ => a.r.c, H Int fun _ => a.r.k, H Int fun _ => a.r.a, H Int fun _ => a.r.t⟩⟩ : Arm) = a := by subst hH; rfl
theorem Cd.rqN (c : Cd) : RowsEq 1 c.n c.rows c.n c.rows := ⟨rfl, fun j _ => ⟨rfl, rfl, fun x hx => by simp [Cd.rows] at hx; subst hx; exact .lit⟩⟩
def r_shield (n : Nat) (H : Hold) (y : Unit → Shd) : AV := .agg [.lit (.int .i64 (H Int fun _ => (y ()).mode)), .slc n 0 15 (H Nat fun _ => ((y ()).parts).length)]
def nb_shield (H : Hold) (y : Unit → Shd) : List Blk := [.rows 15 (H Nat fun _ => ((y ()).parts).length) (rowsA H fun _ => (y ()).parts) 53]
theorem x_shield (c : Cd)  (st : DS) (h : Bd 158 st)  : ∃ y, DrwM Tryz.prog 83 46 158 r_shield nb_shield (fun y => 1 ≤ y.parts.length ∧ y.parts.length ≤ 4) c [] st y := by
  have hB : Base Tryz.prog (tabΓ [e_arms c, e_pick c, e_like c]) tabA := base_of tabOkA (ents_cons (eok_arms c) <| ents_cons (eok_pick c) <| ents_cons (eok_like c) <| ents_nil)
  refine drwM_ok (N := 62) hB (draw_ok hB mixed) Tryz.func46 rfl rfl 83 158 r_shield nb_shield (fun y => 1 ≤ y.parts.length ∧ y.parts.length ≤ 4) c (fun H => []) st 400 (by simp) (fun x hx => ?_) ?_
  · cases hx
  intro H hH
  conv in finish _ _ _ _ _ _ _ _ => cbv
  simp only [Fin.sat0, AllP, and_true, true_and, ncast, Int.ofNat_eq_natCast, heta hH]
  simp only [hetaA hH, heta hH]
  have a1 := (p_arms c st (Bd.mono (by assumption))).1; generalize F_arms c st = y1 at *; have b1 : Bd 120 y1.2 := a1.bd (by assumption)
  have a2 := (p_arms c y1.2 (Bd.mono (by assumption))).1; generalize F_arms c y1.2 = y2 at *; have b2 : Bd 82 y2.2 := a2.bd (by assumption)
  have a3 := (p_pick c 7 y2.2 (Bd.mono (by assumption))).1; generalize F_pick c 7 y2.2 = y3 at *; have b3 : Bd 80 y3.2 := a3.bd (by assumption)
  have a4 := (p_like c y1.1 y3.2 (Bd.mono (by assumption))).1; generalize F_like c y1.1 y3.2 = y4 at *; have b4 : Bd 40 y4.2 := a4.bd (by assumption)
  have a5 := (p_like c y2.1 y4.2 (Bd.mono (by assumption))).1; generalize F_like c y2.1 y4.2 = y5 at *; have b5 : Bd 0 y5.2 := a5.bd (by assumption)
  have a15 : Adv 158 st y5.2 := ((((a1.t a2).t a3).t a4).t a5).le (by decide)
  have a13 : Adv 158 st y3.2 := ((a1.t a2).t a3).le (by decide)
  refine ⟨?_, ?_, ?_, fun _ => ?_, fun _ => ⟨fun _ => ?_, fun _ => ⟨fun _ => ?_, fun _ => ⟨fun _ => ?_, fun _ => ⟨fun _ => ?_, fun _ => ⟨fun _ => ?_, fun _ => ⟨?_, ?_, ?_⟩⟩⟩⟩⟩⟩⟩
  · try simp only [hH, stdH, Nat.le_refl, decide_eq_true_eq, decide_eq_false_iff_not, Bool.not_eq_true', Bool.not_eq_false', peta, ncast, Int.ofNat_eq_natCast, beq_iff_eq, bne_iff_ne, beq_eq_false_iff_ne, bne_eq_false_iff_eq, ne_eq, Classical.not_not, Int.toNat_natCast, vrow_I, Arm.eta2, Fld.eta, Grp.eta]
    exact h.mono
  · try simp only [hH, stdH, Nat.le_refl, decide_eq_true_eq, decide_eq_false_iff_not, Bool.not_eq_true', Bool.not_eq_false', peta, ncast, Int.ofNat_eq_natCast, beq_iff_eq, bne_iff_ne, beq_eq_false_iff_ne, bne_eq_false_iff_eq, ne_eq, Classical.not_not, Int.toNat_natCast, vrow_I, Arm.eta2, Fld.eta, Grp.eta]
    exact b1.mono
  · try simp only [hH, stdH, Nat.le_refl, decide_eq_true_eq, decide_eq_false_iff_not, Bool.not_eq_true', Bool.not_eq_false', peta, ncast, Int.ofNat_eq_natCast, beq_iff_eq, bne_iff_ne, beq_eq_false_iff_ne, bne_eq_false_iff_eq, ne_eq, Classical.not_not, Int.toNat_natCast, vrow_I, Arm.eta2, Fld.eta, Grp.eta]
    exact b2.mono
  · refine ⟨(⟨1, [y1.1]⟩, y3.2), a13, by simp, ?_⟩
    (conv in matchEx _ _ _ _ _ _ _ => cbv); simp only [AllG, AllP, and_true, hH, stdH, Nat.le_refl, ncast, Int.ofNat_eq_natCast, vrow_I, Arm.eta2, Fld.eta, Grp.eta]
    (repeat' (first | with_reducible exact True.intro | exact c.rqN | exact RowsEq.lit okRA rfl rfl | rfl | refine And.intro ?_ ?_ | trivial))
  · refine ⟨(⟨2, [y1.1, y2.1]⟩, y3.2), a13, by simp, ?_⟩
    (conv in matchEx _ _ _ _ _ _ _ => cbv); simp only [AllG, AllP, and_true, hH, stdH, Nat.le_refl, ncast, Int.ofNat_eq_natCast, vrow_I, Arm.eta2, Fld.eta, Grp.eta]
    (repeat' (first | with_reducible exact True.intro | exact c.rqN | exact RowsEq.lit okRA rfl rfl | rfl | refine And.intro ?_ ?_ | trivial))
  · refine ⟨(⟨3, [y1.1, y2.1, y2.1, y1.1]⟩, y3.2), a13, by simp, ?_⟩
    (conv in matchEx _ _ _ _ _ _ _ => cbv); simp only [AllG, AllP, and_true, hH, stdH, Nat.le_refl, ncast, Int.ofNat_eq_natCast, vrow_I, Arm.eta2, Fld.eta, Grp.eta]
    (repeat' (first | with_reducible exact True.intro | exact c.rqN | exact RowsEq.lit okRA rfl rfl | rfl | refine And.intro ?_ ?_ | trivial))
  · refine ⟨(⟨3, [y1.1, y2.1, y1.1, y2.1]⟩, y3.2), a13, by simp, ?_⟩
    (conv in matchEx _ _ _ _ _ _ _ => cbv); simp only [AllG, AllP, and_true, hH, stdH, Nat.le_refl, ncast, Int.ofNat_eq_natCast, vrow_I, Arm.eta2, Fld.eta, Grp.eta]
    (repeat' (first | with_reducible exact True.intro | exact c.rqN | exact RowsEq.lit okRA rfl rfl | rfl | refine And.intro ?_ ?_ | trivial))
  · refine ⟨(⟨3, [y1.1, y1.1, y1.1, y1.1]⟩, y3.2), a13, by simp, ?_⟩
    (conv in matchEx _ _ _ _ _ _ _ => cbv); simp only [AllG, AllP, and_true, hH, stdH, Nat.le_refl, ncast, Int.ofNat_eq_natCast, vrow_I, Arm.eta2, Fld.eta, Grp.eta]
    (repeat' (first | with_reducible exact True.intro | exact c.rqN | exact RowsEq.lit okRA rfl rfl | rfl | refine And.intro ?_ ?_ | trivial))
  · refine ⟨(⟨2, [y1.1, y1.1]⟩, y3.2), a13, by simp, ?_⟩
    (conv in matchEx _ _ _ _ _ _ _ => cbv); simp only [AllG, AllP, and_true, hH, stdH, Nat.le_refl, ncast, Int.ofNat_eq_natCast, vrow_I, Arm.eta2, Fld.eta, Grp.eta]
    (repeat' (first | with_reducible exact True.intro | exact c.rqN | exact RowsEq.lit okRA rfl rfl | rfl | refine And.intro ?_ ?_ | trivial))
  · try simp only [hH, stdH, Nat.le_refl, decide_eq_true_eq, decide_eq_false_iff_not, Bool.not_eq_true', Bool.not_eq_false', peta, ncast, Int.ofNat_eq_natCast, beq_iff_eq, bne_iff_ne, beq_eq_false_iff_ne, bne_eq_false_iff_eq, ne_eq, Classical.not_not, Int.toNat_natCast, vrow_I, Arm.eta2, Fld.eta, Grp.eta]
    exact b3.mono
  · try simp only [hH, stdH, Nat.le_refl, decide_eq_true_eq, decide_eq_false_iff_not, Bool.not_eq_true', Bool.not_eq_false', peta, ncast, Int.ofNat_eq_natCast, beq_iff_eq, bne_iff_ne, beq_eq_false_iff_ne, bne_eq_false_iff_eq, ne_eq, Classical.not_not, Int.toNat_natCast, vrow_I, Arm.eta2, Fld.eta, Grp.eta]
    exact b4.mono
  · refine ⟨(⟨3, [y1.1, y2.1, y4.1, y5.1]⟩, y5.2), a15, by simp, ?_⟩
    (conv in matchEx _ _ _ _ _ _ _ => cbv); simp only [AllG, AllP, and_true, hH, stdH, Nat.le_refl, ncast, Int.ofNat_eq_natCast, vrow_I, Arm.eta2, Fld.eta, Grp.eta]
    (repeat' (first | with_reducible exact True.intro | exact c.rqN | exact RowsEq.lit okRA rfl rfl | rfl | refine And.intro ?_ ?_ | trivial))
noncomputable def F_shield (c : Cd)  (st : DS) : Shd × DS := drwM Tryz.prog 83 46 158 r_shield nb_shield (fun y => 1 ≤ y.parts.length ∧ y.parts.length ≤ 4) c [] st
noncomputable def e_shield (c : Cd) : Entry := curEN 83 46 158 c fun H st a nx => match a with
  | [] => some (r_shield nx H (fun _ => (F_shield c  st).1), nb_shield H (fun _ => (F_shield c  st).1), (fun _ => (F_shield c  st).2), [])
  | _ => none
theorem eok_shield (c : Cd) : EntryOk Tryz.prog (e_shield c) := curEN_ok (by unfold isBody; kernel_rfl) (by
  intro st a nx r nb y ob e hb hob
  split at e
  · simp only [Option.some.injEq, Prod.mk.injEq] at e
    obtain ⟨rfl, rfl, rfl, rfl⟩ := e
    have hd := drwM_spec (x_shield c  st hb )
    refine ⟨_, _, ConN.args (.cons .rfl .nil) hd.1, fun x hx => ?_, rfl, ?_, fun q b hq => ⟨b, hq, .same ?_⟩⟩
    · cases hx
    · (repeat' (first | exact .nil | exact .slc ⟨by omega, by simp [nb_shield]⟩ (by omega) | exact .pl .lit | apply ReL.cons | apply Re.aggL | apply Re.tupL))
    · replace hq := List.mem_of_getElem? hq
      simp only [nb_shield, List.mem_cons, List.not_mem_nil, or_false] at hq; subst hq; exact bT_bl okRA _ (fun _ => (F_shield c  st).1.parts) _
  · simp at e)
theorem p_shield (c : Cd)  (st : DS) (h : Bd 158 st)  : Adv 158 st (F_shield c  st).2 ∧ (fun y => 1 ≤ y.parts.length ∧ y.parts.length ≤ 4) (F_shield c  st).1 := (drwM_spec (x_shield c  st h )).2
theorem rows_snocA {L : List Arm} {x : Arm} {cs : List AV} (h : cs = rowA.cells stdH fun _ => x) : RowsEq 15 (L ++ [x]).length (rowsA stdH fun _ => L ++ [x]) (L.length + 1) (app L.length (rowsA stdH fun _ => L) (rowsOf 15 cs)) :=
  RowsEq.snoc okRA (by rw [h]; rfl) rfl
theorem hlen {H : Hold} (hH : H = stdH) (n : Nat) : (H Int fun _ => ((H Nat fun _ => n : Nat) : Int)) = (n : Int) := by subst hH; rfl
theorem frzA {n m : Nat} {L : List Arm} (h : m + n = L.length) (hm : 0 < m) : frzP stdH (m * 15) 15 (L.drop m).length (rowsA stdH fun _ => L.drop m) n L.length (rowsA stdH fun _ => L) := by
  refine frzP_of (by omega) (by rw [Nat.mul_div_cancel _ (by omega)]; omega) (by omega) (fun j _ => rfl) ?_ (by omega)
  have h1 := Shp_dropR (D := rowA) (a := m) (k := 15) (m := n) (by omega) (Shp_A L.length L) (by omega)
  have h2 := Tl_dropR (D := rowA) (a := m) (k := 15) (m := n) (by omega) (Tl_A L) (by omega)
  rw [List.take_of_length_le (by rw [List.length_drop]; omega)] at h2
  exact RowsEq.ofT okRA rfl h1 h2.symm
def r_anyShield (n : Nat) (H : Hold) (y : Unit → Shd) : AV := .agg [.lit (.int .i64 (H Int fun _ => (y ()).mode)), .vec 15 (H Nat fun _ => ((y ()).parts).length) (rowsA H fun _ => (y ()).parts)]
def nb_anyShield (H : Hold) (y : Unit → Shd) : List Blk := []
theorem x_anyShield (c : Cd)  (st : DS) (h : Bd 216 st)  : ∃ y, DrwM Tryz.prog 83 72 216 r_anyShield nb_anyShield (fun y => y.parts.length ≤ 5) c [] st y := by
  have hB : Base Tryz.prog (tabΓ [e_shield c, e_pick c, e_arms c, e_anyArms c]) tab := base_of tabOk (ents_cons (eok_shield c) <| ents_cons (eok_pick c) <| ents_cons (eok_arms c) <| ents_cons (eok_anyArms c) <| ents_nil)
  refine drwM_ok (N := 42) hB (draw_ok hB mixed) Tryz.func72 rfl rfl 83 216 r_anyShield nb_anyShield (fun y => y.parts.length ≤ 5) c (fun H => []) st 400 (by simp) (fun x hx => ?_) ?_
  · cases hx
  intro H hH
  conv in finish _ _ _ _ _ _ _ _ => cbv
  simp only [Fin.sat0, AllP, and_true, true_and, ncast, Int.ofNat_eq_natCast, heta hH]
  have a1 := p_shield c st (Bd.mono (by assumption))
  obtain ⟨a1, m0, m1⟩ := a1
  generalize F_shield c st = y1 at *
  have b1 : Bd 58 y1.2 := a1.bd h
  obtain ⟨⟨mo, pa⟩, st1⟩ := y1
  dsimp only at *
  simp only [hlen hH, hetaA hH, heta hH]
  have a2 := (p_pick c 16 st1 (Bd.mono (by assumption))).1; generalize F_pick c 16 st1 = y2 at *; have b2 : Bd 56 y2.2 := a2.bd (by assumption)
  have a3 := (p_pick c 6 y2.2 (Bd.mono (by assumption))).1; generalize F_pick c 6 y2.2 = y3 at *; have b3 : Bd 54 y3.2 := a3.bd (by assumption)
  have a4 := (p_arms c y2.2 (Bd.mono (by assumption))).1; generalize F_arms c y2.2 = y4 at *; have b4 : Bd 18 y4.2 := a4.bd (by assumption)
  obtain ⟨a5, m5, n5⟩ := p_pick c (pa.length) y2.2 (Bd.mono (by assumption)); generalize F_pick c (pa.length) y2.2 = y5 at *; have b5 : Bd 54 y5.2 := Adv.bd a5 (by assumption)
  have a6 := (p_anyArms c y5.2 (Bd.mono (by assumption))).1; generalize F_anyArms c y5.2 = y6 at *; have b6 : Bd 0 y6.2 := a6.bd (by assumption)
  refine ⟨?_, ?_, fun _ => ⟨?_, ?_⟩, fun _ => ⟨fun _ => ⟨?_, ?_, ?_⟩, fun _ => ⟨fun _ => ⟨?_, ?_, ?_, ?_, ?_⟩, fun _ => ⟨fun _ => ⟨?_, ?_⟩, fun _ => ?_⟩⟩⟩⟩
  · try simp only [hH, stdH, Nat.le_refl, decide_eq_true_eq, decide_eq_false_iff_not, Bool.not_eq_true', Bool.not_eq_false', peta, ncast, Int.ofNat_eq_natCast, beq_iff_eq, bne_iff_ne, beq_eq_false_iff_ne, bne_eq_false_iff_eq, ne_eq, Classical.not_not, Int.toNat_natCast, vrow_I, Arm.eta2, Fld.eta, Grp.eta]
    exact h.mono
  · try simp only [hH, stdH, Nat.le_refl, decide_eq_true_eq, decide_eq_false_iff_not, Bool.not_eq_true', Bool.not_eq_false', peta, ncast, Int.ofNat_eq_natCast, beq_iff_eq, bne_iff_ne, beq_eq_false_iff_ne, bne_eq_false_iff_eq, ne_eq, Classical.not_not, Int.toNat_natCast, vrow_I, Arm.eta2, Fld.eta, Grp.eta]
    exact b1.mono
  · try simp only [hH, stdH, Nat.le_refl, decide_eq_true_eq, decide_eq_false_iff_not, Bool.not_eq_true', Bool.not_eq_false', peta, ncast, Int.ofNat_eq_natCast, beq_iff_eq, bne_iff_ne, beq_eq_false_iff_ne, bne_eq_false_iff_eq, ne_eq, Classical.not_not, Int.toNat_natCast, vrow_I, Arm.eta2, Fld.eta, Grp.eta]
    exact b2.mono
  · refine ⟨(⟨IntKind.i64.wrap (y3.1 - 1), pa⟩, y3.2), ((a1.t a2).t a3).le (by decide), by simp only; omega, ?_⟩
    (conv in matchEx _ _ _ _ _ _ _ => cbv); simp only [AllG, AllP, and_true, hH, stdH, Nat.le_refl, ncast, Int.ofNat_eq_natCast, vrow_I, Arm.eta2, Fld.eta, Grp.eta]
    (repeat' (first | with_reducible exact True.intro | exact c.rqN | exact RowsEq.self okRA | rfl | refine And.intro ?_ ?_ | trivial))
  · try simp only [hH, stdH, Nat.le_refl, decide_eq_true_eq, decide_eq_false_iff_not, Bool.not_eq_true', Bool.not_eq_false', peta, ncast, Int.ofNat_eq_natCast, beq_iff_eq, bne_iff_ne, beq_eq_false_iff_ne, bne_eq_false_iff_eq, ne_eq, Classical.not_not, Int.toNat_natCast, vrow_I, Arm.eta2, Fld.eta, Grp.eta]
    exact b2.mono
  · try simp only [hH, stdH, Nat.le_refl, decide_eq_true_eq, decide_eq_false_iff_not, Bool.not_eq_true', Bool.not_eq_false', peta, ncast, Int.ofNat_eq_natCast, beq_iff_eq, bne_iff_ne, beq_eq_false_iff_ne, bne_eq_false_iff_eq, ne_eq, Classical.not_not, Int.toNat_natCast, vrow_I, Arm.eta2, Fld.eta, Grp.eta]
    (repeat' (first | with_reducible exact True.intro | omega | refine And.intro ?_ ?_ | trivial))
  · refine ⟨(⟨mo, pa ++ [y4.1]⟩, y4.2), ((a1.t a2).t a4).le (by decide), by simp only [List.length_append, List.length_cons, List.length_nil]; omega, ?_⟩
    (conv in matchEx _ _ _ _ _ _ _ => cbv); simp only [AllG, AllP, and_true, hH, stdH, Nat.le_refl, ncast, Int.ofNat_eq_natCast, vrow_I, Arm.eta2, Fld.eta, Grp.eta]
    (repeat' (first | with_reducible exact True.intro | exact c.rqN | exact rows_snocA rfl | rfl | refine And.intro ?_ ?_ | trivial))
  · try simp only [hH, stdH, Nat.le_refl, decide_eq_true_eq, decide_eq_false_iff_not, Bool.not_eq_true', Bool.not_eq_false', peta, ncast, Int.ofNat_eq_natCast, beq_iff_eq, bne_iff_ne, beq_eq_false_iff_ne, bne_eq_false_iff_eq, ne_eq, Classical.not_not, Int.toNat_natCast, vrow_I, Arm.eta2, Fld.eta, Grp.eta]
    exact b2.mono
  · try simp only [hH, stdH, Nat.le_refl, decide_eq_true_eq, decide_eq_false_iff_not, Bool.not_eq_true', Bool.not_eq_false', peta, ncast, Int.ofNat_eq_natCast, beq_iff_eq, bne_iff_ne, beq_eq_false_iff_ne, bne_eq_false_iff_eq, ne_eq, Classical.not_not, Int.toNat_natCast, vrow_I, Arm.eta2, Fld.eta, Grp.eta]
    exact b5.mono
  · try simp only [hH, stdH, Nat.le_refl, decide_eq_true_eq, decide_eq_false_iff_not, Bool.not_eq_true', Bool.not_eq_false', peta, ncast, Int.ofNat_eq_natCast, beq_iff_eq, bne_iff_ne, beq_eq_false_iff_ne, bne_eq_false_iff_eq, ne_eq, Classical.not_not, Int.toNat_natCast, vrow_I, Arm.eta2, Fld.eta, Grp.eta]
    omega
  · try simp only [hH, stdH, Nat.le_refl, decide_eq_true_eq, decide_eq_false_iff_not, Bool.not_eq_true', Bool.not_eq_false', peta, ncast, Int.ofNat_eq_natCast, beq_iff_eq, bne_iff_ne, beq_eq_false_iff_ne, bne_eq_false_iff_eq, ne_eq, Classical.not_not, Int.toNat_natCast, vrow_I, Arm.eta2, Fld.eta, Grp.eta]
    exact ⟨by omega, rfl⟩
  · refine ⟨(⟨mo, pa.set y5.1.toNat y6.1⟩, y6.2), (((a1.t a2).t a5).t a6).le (by decide), by simp only [List.length_set]; omega, ?_⟩
    (conv in matchEx _ _ _ _ _ _ _ => cbv); simp only [AllG, AllP, and_true, hH, stdH, Nat.le_refl, ncast, Int.ofNat_eq_natCast, vrow_I, Arm.eta2, Fld.eta, Grp.eta]
    (repeat' (first | with_reducible exact True.intro | exact c.rqN | exact RowsEq.put okRA rfl | rfl | refine And.intro ?_ ?_ | trivial))
  · try simp only [hH, stdH, Nat.le_refl, decide_eq_true_eq, decide_eq_false_iff_not, Bool.not_eq_true', Bool.not_eq_false', peta, ncast, Int.ofNat_eq_natCast, beq_iff_eq, bne_iff_ne, beq_eq_false_iff_ne, bne_eq_false_iff_eq, ne_eq, Classical.not_not, Int.toNat_natCast, vrow_I, Arm.eta2, Fld.eta, Grp.eta]
    exact ⟨by omega, trivial, by simp [hiOf, loOf]; omega, by simp [hiOf]⟩
  · refine ⟨(⟨mo, pa.drop 1⟩, y2.2), (a1.t a2).le (by decide), by simp only [List.length_drop]; omega, ?_⟩
    (conv in matchEx _ _ _ _ _ _ _ => cbv); simp only [AllG, AllP, and_true, hH, stdH, Nat.le_refl, ncast, Int.ofNat_eq_natCast, vrow_I, Arm.eta2, Fld.eta, Grp.eta]
    have sz : hiOf pa.length none - loOf (some (1 : Int)) = pa.length - 1 := by simp [hiOf, loOf]
    rw [sz]
    exact ⟨trivial, trivial, c.rqN, frzA (m := 1) (n := pa.length - 1) (L := pa) (by omega) (by omega)⟩
  · refine ⟨(⟨mo, pa⟩, y2.2), (a1.t a2).le (by decide), by simp only; omega, ?_⟩
    (conv in matchEx _ _ _ _ _ _ _ => cbv); simp only [AllG, AllP, and_true, hH, stdH, Nat.le_refl, ncast, Int.ofNat_eq_natCast, vrow_I, Arm.eta2, Fld.eta, Grp.eta]
    (repeat' (first | with_reducible exact True.intro | exact c.rqN | exact RowsEq.self okRA | rfl | refine And.intro ?_ ?_ | trivial))
noncomputable def F_anyShield (c : Cd)  (st : DS) : Shd × DS := drwM Tryz.prog 83 72 216 r_anyShield nb_anyShield (fun y => y.parts.length ≤ 5) c [] st
noncomputable def e_anyShield (c : Cd) : Entry := curEN 83 72 216 c fun H st a nx => match a with
  | [] => some (r_anyShield nx H (fun _ => (F_anyShield c  st).1), nb_anyShield H (fun _ => (F_anyShield c  st).1), (fun _ => (F_anyShield c  st).2), [])
  | _ => none
theorem eok_anyShield (c : Cd) : EntryOk Tryz.prog (e_anyShield c) := curEN_ok (by unfold isBody; kernel_rfl) (by
  intro st a nx r nb y ob e hb hob
  split at e
  · simp only [Option.some.injEq, Prod.mk.injEq] at e
    obtain ⟨rfl, rfl, rfl, rfl⟩ := e
    have hd := drwM_spec (x_anyShield c  st hb )
    refine ⟨_, _, ConN.args (.cons .rfl .nil) hd.1, fun x hx => ?_, rfl, ?_, fun q b hq => ⟨b, hq, .same ?_⟩⟩
    · cases hx
    · (repeat' (first | exact .nil | exact .slc ⟨by omega, by simp [nb_anyShield]⟩ (by omega) | exact .pl .lit | exact .pl (vT_bl okRA (fun _ => (F_anyShield c  st).1.parts) _) | apply ReL.cons | apply Re.aggL | apply Re.tupL))
    · replace hq := List.mem_of_getElem? hq
      simp [nb_anyShield] at hq
  · simp at e)
theorem p_anyShield (c : Cd)  (st : DS) (h : Bd 216 st)  : Adv 216 st (F_anyShield c  st).2 ∧ (fun y => y.parts.length ≤ 5) (F_anyShield c  st).1 := (drwM_spec (x_anyShield c  st h )).2
end Go.Proofs.YtgjjedpoclhkfaaGreatDoor.AM

