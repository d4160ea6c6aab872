import Derived.Test.YthacffbofjfcjaaGrp
set_option linter.unusedVariables false
set_option linter.unusedSimpArgs false
set_option maxRecDepth 100000
set_option maxHeartbeats 4000000
set_option cbv.maxSteps 3000000
namespace Go.Proofs.Ythacffbofjfcjaa.AM
/- The drawing of a shape's cell; conditions: none. -/
structure SC where
  k : Int
  a : Int
  n : Int
  u : Int
  v : Int
deriving Inhabited
def enc_DrawShapeCell (H : Hold) (y : Unit → SC) : AV := .tup [.lit (.int .i64 (H Int fun _ => ((y ()).k))), .lit (.int .i64 (H Int fun _ => ((y ()).a))), .lit (.int .i64 (H Int fun _ => ((y ()).n))), .lit (.int .i64 (H Int fun _ => ((y ()).u))), .lit (.int .i64 (H Int fun _ => ((y ()).v)))]
theorem x_DrawShapeCell (c : Cd) : ∃ y : SC, Con Try.prog 9 [codeAV c] [] (enc_DrawShapeCell stdH fun _ => y) [] ∧ Bl 0 (enc_DrawShapeCell stdH fun _ => y) ∧ (fun y => (-1 ≤ y.k ∧ y.k ≤ 10) ∧ (-1 ≤ y.a ∧ y.a ≤ 10) ∧ (1 ≤ y.n ∧ y.n ≤ 9) ∧ (-1 ≤ y.u ∧ y.u ≤ 10) ∧ (-1 ≤ y.v ∧ y.v ≤ 10)) y := by
  have hB : Base Try.prog (tabΓ [e_anyGroup c, e_pick c]) tab := base_of tabOk (ents_cons (eok_anyGroup c) <| ents_cons (eok_pick c) <| ents_nil)
  refine df_ok (N := 34) hB (draw_ok hB mixed) Try.func9 rfl rfl _ _ _ 60 (by simp) ?_
  intro H hH
  conv in finish _ _ _ _ _ _ _ _ => cbv
  subst hH
  simp only [Fin.sat0, Fin.sat1, stdH, Option.some.injEq, AV.lit.injEq, AV.agg.injEq, AV.tup.injEq, List.cons.injEq, Value.bool.injEq, Value.int.injEq, AllP, and_true, true_and, eq_self, decide_eq_true_eq, decide_eq_false_iff_not, Bool.not_eq_true', Bool.not_eq_false', peta, ncast]
  have h0 : Bd 100 (0, 0) := ⟨by decide, by decide⟩
  obtain ⟨a1, ⟨p1, p2⟩, ⟨p3, p4⟩, ⟨p5, p6⟩, p7, p8⟩ := p_anyGroup c (0, 0) h0.mono
  generalize F_anyGroup c (0, 0) = y1 at *
  have b1 : Bd 80 y1.2 := a1.bd h0
  clear h0 a1
  obtain ⟨a2, m2, n2⟩ := p_pick c 9 y1.2 b1.mono
  generalize F_pick c 9 y1.2 = y2 at *
  have b2 : Bd 70 y2.2 := a2.bd b1
  have w2 : IntKind.i64.wrap (1 + y2.1) = 1 + y2.1 := wi (by omega) (by omega)
  simp only [w2]
  have w3 : IntKind.i64.wrap (1 + y2.1 + 1) = 1 + y2.1 + 1 := wi (by omega) (by omega)
  simp only [w3]
  obtain ⟨a3, m3, n3⟩ := p_pick c (1 + y2.1 + 1) y2.2 b2.mono
  generalize F_pick c (1 + y2.1 + 1) y2.2 = y3 at *
  have b3 : Bd 60 y3.2 := a3.bd b2
  obtain ⟨a4, m4, n4⟩ := p_pick c 9 y3.2 b3.mono
  generalize F_pick c 9 y3.2 = y4 at *
  have b4 : Bd 50 y4.2 := a4.bd b3
  obtain ⟨a5, m5, n5⟩ := p_pick c (1 + y2.1) y4.2 b4.mono
  generalize F_pick c (1 + y2.1) y4.2 = y5 at *
  have t1 : y4.1.tdiv 8 = y4.1 / 8 := Int.tdiv_eq_ediv_of_nonneg m4
  have w4 : IntKind.i64.wrap (y4.1 / 8) = y4.1 / 8 := wi (by omega) (by omega)
  have w5 : IntKind.i64.wrap (y3.1 - y4.1 / 8) = y3.1 - y4.1 / 8 := wi (by omega) (by omega)
  simp only [t1, w4, w5]
  refine ⟨⟨by decide, by decide⟩, b1.mono, b2.mono, b3.mono, by decide, b4.mono, ⟨y1.1.k, y1.1.a, 1 + y2.1, y3.1 - y4.1 / 8, y5.1⟩, .refl, ?_, ?_⟩
  · unfold enc_DrawShapeCell; (first | exact .lit | exact .agg (by simp; repeat' constructor) | exact .tup (by simp; repeat' constructor))
  · dsimp only; omega
noncomputable def F_DrawShapeCell (c : Cd) : SC := dfw Try.prog 9 enc_DrawShapeCell (fun y => (-1 ≤ y.k ∧ y.k ≤ 10) ∧ (-1 ≤ y.a ∧ y.a ≤ 10) ∧ (1 ≤ y.n ∧ y.n ≤ 9) ∧ (-1 ≤ y.u ∧ y.u ≤ 10) ∧ (-1 ≤ y.v ∧ y.v ≤ 10)) c
noncomputable def e_DrawShapeCell (c : Cd) : Entry := codeE 9 c fun H => enc_DrawShapeCell H fun _ => F_DrawShapeCell c
theorem eok_DrawShapeCell (c : Cd) : EntryOk Try.prog (e_DrawShapeCell c) := codeE_ok (by unfold isBody; kernel_rfl) (dfw_spec (x_DrawShapeCell c)).1
theorem p_DrawShapeCell (c : Cd) : (fun y => (-1 ≤ y.k ∧ y.k ≤ 10) ∧ (-1 ≤ y.a ∧ y.a ≤ 10) ∧ (1 ≤ y.n ∧ y.n ≤ 9) ∧ (-1 ≤ y.u ∧ y.u ≤ 10) ∧ (-1 ≤ y.v ∧ y.v ≤ 10)) (F_DrawShapeCell c) := (dfw_spec (x_DrawShapeCell c)).2.2
/-- The cell of a shape. -/
def cellF (k a n u v : Int) : Bool :=
  let p0 := 2 * u + 1 - n
  let q0 := 2 * v + 1 - n
  let p := if a = 2 then q0 else p0
  let q := if a = 2 then p0 else q0
  let x := max p (-p)
  let y := max q (-q)
  if k = 1 then decide (x + y ≤ 2 * n - 4 ∨ n ≤ 2) else if k = 2 then decide (y ≤ x) else if k = 3 then decide (2 * y ≤ n) else if k = 4 then decide (p * p + q * q ≤ n * n)
  else if k = 5 then decide (2 * x ≤ n ∨ 2 * y ≤ n) else if k = 6 then decide (2 * x ≤ n ∨ q > 0) else if k = 7 then decide (3 * x ≤ n ∨ q < 0) else decide (3 * x ≤ n ∨ q = 0 ∨ q = 1)
theorem c_absOf (x : Int) (h0 : (-1000 ≤ x ∧ x ≤ 1000)) : Con Try.prog 98 [.lit (.int .i64 x)] [] (.lit (.int .i64 (max x (-x)))) [] := by
  have hB : Base Try.prog (tabΓ []) tab := base_of tabOk (ents_nil)
  refine con_eq (N := 7) hB (draw_ok hB mixed) Try.func98 rfl rfl _ _ 50 (by simp) (by intro x hx; simp only [List.mem_cons, List.not_mem_nil, or_false] at hx; rcases hx with rfl <;> (first | (first | exact .lit | exact .agg (by simp; repeat' constructor) | exact .tup (by simp; repeat' constructor)) | exact .vec (fun j hj x hx => by simp [vrow] at hx; subst hx; exact .lit))) (by (first | exact .lit | exact .agg (by simp; repeat' constructor) | exact .tup (by simp; repeat' constructor))) ?_
  intro H hH
  conv in finish _ _ _ _ _ _ _ _ => cbv
  subst hH
  simp only [Fin.sat0, Fin.sat1, stdH, Option.some.injEq, AV.lit.injEq, AV.agg.injEq, AV.tup.injEq, List.cons.injEq, Value.bool.injEq, Value.int.injEq, AllP, and_true, true_and, eq_self, decide_eq_true_eq, decide_eq_false_iff_not, Bool.not_eq_true', Bool.not_eq_false', peta, ncast]
  rw [wi (by omega) (by omega)]; omega
def e_absOf : Entry := pureE 98 fun H a => match a with
  | [.lit (.int .i64 x)] => some (.lit (.int .i64 (H Int fun _ => (max x (-x)))), [H Prop fun _ => (-1000 ≤ x ∧ x ≤ 1000)])
  | _ => none
theorem eok_absOf : EntryOk Try.prog e_absOf := pureE_ok (by unfold isBody; kernel_rfl) (by
  intro a r ob e hob
  split at e
  · simp only [Option.some.injEq, Prod.mk.injEq] at e
    obtain ⟨rfl, rfl⟩ := e
    obtain ⟨h0, _⟩ := hob
    exact c_absOf _ h0
  · simp at e)
theorem c_l1Most (a : Int) (b : Int)  : Con Try.prog 100 [.lit (.int .i64 a), .lit (.int .i64 b)] [] (.lit (.int .i64 (max a b))) [] := by
  have hB : Base Try.prog (tabΓ []) tab := base_of tabOk (ents_nil)
  refine con_eq (N := 10) hB (draw_ok hB mixed) Try.func100 rfl rfl _ _ 50 (by simp) (by intro x hx; simp only [List.mem_cons, List.not_mem_nil, or_false] at hx; rcases hx with rfl | rfl <;> (first | (first | exact .lit | exact .agg (by simp; repeat' constructor) | exact .tup (by simp; repeat' constructor)) | exact .vec (fun j hj x hx => by simp [vrow] at hx; subst hx; exact .lit))) (by (first | exact .lit | exact .agg (by simp; repeat' constructor) | exact .tup (by simp; repeat' constructor))) ?_
  intro H hH
  conv in finish _ _ _ _ _ _ _ _ => cbv
  subst hH
  simp only [Fin.sat0, Fin.sat1, stdH, Option.some.injEq, AV.lit.injEq, AV.agg.injEq, AV.tup.injEq, List.cons.injEq, Value.bool.injEq, Value.int.injEq, AllP, and_true, true_and, eq_self, decide_eq_true_eq, decide_eq_false_iff_not, Bool.not_eq_true', Bool.not_eq_false', peta, ncast]
  omega
def e_l1Most : Entry := pureE 100 fun H a => match a with
  | [.lit (.int .i64 a), .lit (.int .i64 b)] => some (.lit (.int .i64 (H Int fun _ => (max a b))), [])
  | _ => none
theorem eok_l1Most : EntryOk Try.prog e_l1Most := pureE_ok (by unfold isBody; kernel_rfl) (by
  intro a r ob e hob
  split at e
  · simp only [Option.some.injEq, Prod.mk.injEq] at e
    obtain ⟨rfl, rfl⟩ := e
    exact c_l1Most _ _
  · simp at e)
theorem c_inside (x : Int) (a : Int) (b : Int)  : Con Try.prog 54 [.lit (.int .i64 x), .lit (.int .i64 a), .lit (.int .i64 b)] [] (.lit (.bool (inB x a b))) [] := by
  have hB : Base Try.prog (tabΓ []) tab := base_of tabOk (ents_nil)
  refine con_eq (N := 15) hB (draw_ok hB mixed) Try.func54 rfl rfl _ _ 50 (by simp) (by intro x hx; simp only [List.mem_cons, List.not_mem_nil, or_false] at hx; rcases hx with rfl | rfl | rfl <;> (first | (first | exact .lit | exact .agg (by simp; repeat' constructor) | exact .tup (by simp; repeat' constructor)) | exact .vec (fun j hj x hx => by simp [vrow] at hx; subst hx; exact .lit))) (by (first | exact .lit | exact .agg (by simp; repeat' constructor) | exact .tup (by simp; repeat' constructor))) ?_
  intro H hH
  conv in finish _ _ _ _ _ _ _ _ => cbv
  subst hH
  simp only [Fin.sat0, Fin.sat1, stdH, Option.some.injEq, AV.lit.injEq, AV.agg.injEq, AV.tup.injEq, List.cons.injEq, Value.bool.injEq, Value.int.injEq, AllP, and_true, true_and, eq_self, decide_eq_true_eq, decide_eq_false_iff_not, Bool.not_eq_true', Bool.not_eq_false', peta, ncast]
  have e : (bif decide (a ≤ x) then decide (x ≤ b) else false) = inB x a b := by unfold inB; cases h1 : decide (a ≤ x) <;> simp_all <;> omega
  exact e
def e_inside : Entry := pureE 54 fun H a => match a with
  | [.lit (.int .i64 x), .lit (.int .i64 a), .lit (.int .i64 b)] => some (.lit (.bool (H Bool fun _ => (inB x a b))), [])
  | _ => none
theorem eok_inside : EntryOk Try.prog e_inside := pureE_ok (by unfold isBody; kernel_rfl) (by
  intro a r ob e hob
  split at e
  · simp only [Option.some.injEq, Prod.mk.injEq] at e
    obtain ⟨rfl, rfl⟩ := e
    exact c_inside _ _ _
  · simp at e)
theorem sq1000 {p : Int} (h : -1000 ≤ p) (h' : p ≤ 1000) : 0 ≤ p * p ∧ p * p ≤ 1000000 := by
  have h1 : p.natAbs ≤ 1000 := by omega
  have h2 := Nat.mul_le_mul h1 h1
  have h3 : p * p = ((p.natAbs * p.natAbs : Nat) : Int) := (Int.natAbs_mul_self).symm
  omega
theorem c_shape (k : Int) (a : Int) (n : Int) (u : Int) (v : Int) (h0 : (-100 ≤ n ∧ n ≤ 100)) (h1 : (-100 ≤ u ∧ u ≤ 100)) (h2 : (-100 ≤ v ∧ v ≤ 100)) : Con Try.prog 55 [.lit (.int .i64 k), .lit (.int .i64 a), .lit (.int .i64 n), .lit (.int .i64 u), .lit (.int .i64 v)] [] (.lit (.bool (cellF k a n u v))) [] := by
  have hB : Base Try.prog (tabΓ [e_absOf]) tab := base_of tabOk (ents_cons eok_absOf <| ents_nil)
  refine con_eq (N := 119) hB (draw_ok hB mixed) Try.func55 rfl rfl _ _ 80 (by simp) (by intro x hx; simp only [List.mem_cons, List.not_mem_nil, or_false] at hx; rcases hx with rfl | rfl | rfl | rfl | rfl <;> (first | (first | exact .lit | exact .agg (by simp; repeat' constructor) | exact .tup (by simp; repeat' constructor)) | exact .vec (fun j hj x hx => by simp [vrow] at hx; subst hx; exact .lit))) (by (first | exact .lit | exact .agg (by simp; repeat' constructor) | exact .tup (by simp; repeat' constructor))) ?_
  intro H hH
  conv in finish _ _ _ _ _ _ _ _ => cbv
  subst hH
  simp only [Fin.sat0, Fin.sat1, stdH, Option.some.injEq, AV.lit.injEq, AV.agg.injEq, AV.tup.injEq, List.cons.injEq, Value.bool.injEq, Value.int.injEq, AllP, and_true, true_and, eq_self, decide_eq_true_eq, decide_eq_false_iff_not, Bool.not_eq_true', Bool.not_eq_false', peta, ncast]
  have w1 : IntKind.i64.wrap (2 * v) = 2 * v := wi (by omega) (by omega)
  have w2 : IntKind.i64.wrap (2 * u) = 2 * u := wi (by omega) (by omega)
  have w3 : IntKind.i64.wrap (2 * v + 1) = 2 * v + 1 := wi (by omega) (by omega)
  have w4 : IntKind.i64.wrap (2 * u + 1) = 2 * u + 1 := wi (by omega) (by omega)
  have w5 : IntKind.i64.wrap (2 * v + 1 - n) = 2 * v + 1 - n := wi (by omega) (by omega)
  have w6 : IntKind.i64.wrap (2 * u + 1 - n) = 2 * u + 1 - n := wi (by omega) (by omega)
  have w7 : IntKind.i64.wrap (2 * n) = 2 * n := wi (by omega) (by omega)
  have w8 : IntKind.i64.wrap (2 * n - 4) = 2 * n - 4 := wi (by omega) (by omega)
  simp only [w1, w2, w3, w4, w5, w6, w7, w8]
  simp only [cellF, beq_iff_eq, beq_eq_false_iff_ne, ne_eq]
  have hp1 : -1000 ≤ 2 * v + 1 - n ∧ 2 * v + 1 - n ≤ 1000 := by omega
  have hq1 : -1000 ≤ 2 * u + 1 - n ∧ 2 * u + 1 - n ≤ 1000 := by omega
  generalize 2 * v + 1 - n = p at *
  generalize 2 * u + 1 - n = q at *
  have sp := sq1000 hp1.1 hp1.2
  have sq := sq1000 hq1.1 hq1.2
  have sn := sq1000 (p := n) (by omega) (by omega)
  generalize hx : max p (-p) = x
  generalize hy : max q (-q) = y
  have x1 : 0 ≤ x ∧ x ≤ 1000 := by omega
  have y1 : 0 ≤ y ∧ y ≤ 1000 := by omega
  generalize hpp : p * p = pp at *
  generalize hqq : q * q = qq at *
  generalize n * n = nn at *
  rw [wi (x := pp) (by omega) (by omega), wi (x := qq) (by omega) (by omega), wi (x := nn) (by omega) (by omega), wi (x := pp + qq) (by omega) (by omega), wi (x := qq + pp) (by omega) (by omega), wi (x := x + y) (by omega) (by omega), wi (x := y + x) (by omega) (by omega), wi (x := 2 * x) (by omega) (by omega), wi (x := 2 * y) (by omega) (by omega), wi (x := 3 * x) (by omega) (by omega), wi (x := 3 * y) (by omega) (by omega)]
  clear w1 w2 w3 w4 w5 w6 w7 w8 hB
  refine ⟨fun ha => ?_, fun ha => ?_⟩ <;> simp only [ha, if_true, if_false, hx, hy, hpp, hqq]
  all_goals
    clear hx hy hpp hqq
    by_cases k1 : k = 1
    · subst k1; simp; omega
    by_cases k2 : k = 2
    · subst k2; simp; omega
    by_cases k3 : k = 3
    · subst k3; simp; omega
    by_cases k4 : k = 4
    · subst k4; simp [Int.add_comm]
    by_cases k5 : k = 5
    · subst k5; simp; omega
    by_cases k6 : k = 6
    · subst k6; simp; omega
    by_cases k7 : k = 7
    · subst k7; simp; omega
    simp only [k1, k2, k3, k4, k5, k6, k7, if_false, false_implies, not_false_eq_true, true_implies, true_and]
    refine ⟨by omega, ?_⟩
    rw [Bool.eq_iff_iff]
    simp [Bool.cond_eq_ite]
    omega
def e_shape : Entry := pureE 55 fun H a => match a with
  | [.lit (.int .i64 k), .lit (.int .i64 a), .lit (.int .i64 n), .lit (.int .i64 u), .lit (.int .i64 v)] => some (.lit (.bool (H Bool fun _ => (cellF k a n u v))), [H Prop fun _ => (-100 ≤ n ∧ n ≤ 100), H Prop fun _ => (-100 ≤ u ∧ u ≤ 100), H Prop fun _ => (-100 ≤ v ∧ v ≤ 100)])
  | _ => none
theorem eok_shape : EntryOk Try.prog e_shape := pureE_ok (by unfold isBody; kernel_rfl) (by
  intro a r ob e hob
  split at e
  · simp only [Option.some.injEq, Prod.mk.injEq] at e
    obtain ⟨rfl, rfl⟩ := e
    obtain ⟨h0, h1, h2, _⟩ := hob
    exact c_shape _ _ _ _ _ h0 h1 h2
  · simp at e)
theorem c_l12Cell (k : Int) (a : Int) (n : Int) (u : Int) (v : Int) (h0 : (-100 ≤ n ∧ n ≤ 100)) (h1 : (-100 ≤ u ∧ u ≤ 100)) (h2 : (-100 ≤ v ∧ v ≤ 100)) : Con Try.prog 58 [.lit (.int .i64 k), .lit (.int .i64 a), .lit (.int .i64 n), .lit (.int .i64 u), .lit (.int .i64 v)] [] (.lit (.bool (cellF k a n u v))) [] := by
  have hB : Base Try.prog (tabΓ [e_l1Most]) tab := base_of tabOk (ents_cons eok_l1Most <| ents_nil)
  refine con_eq (N := 127) hB (draw_ok hB mixed) Try.func58 rfl rfl _ _ 80 (by simp) (by intro x hx; simp only [List.mem_cons, List.not_mem_nil, or_false] at hx; rcases hx with rfl | rfl | rfl | rfl | rfl <;> (first | (first | exact .lit | exact .agg (by simp; repeat' constructor) | exact .tup (by simp; repeat' constructor)) | exact .vec (fun j hj x hx => by simp [vrow] at hx; subst hx; exact .lit))) (by (first | exact .lit | exact .agg (by simp; repeat' constructor) | exact .tup (by simp; repeat' constructor))) ?_
  intro H hH
  conv in finish _ _ _ _ _ _ _ _ => cbv
  subst hH
  simp only [Fin.sat0, Fin.sat1, stdH, Option.some.injEq, AV.lit.injEq, AV.agg.injEq, AV.tup.injEq, List.cons.injEq, Value.bool.injEq, Value.int.injEq, AllP, and_true, true_and, eq_self, decide_eq_true_eq, decide_eq_false_iff_not, Bool.not_eq_true', Bool.not_eq_false', peta, ncast]
  have w1 : IntKind.i64.wrap (2 * v) = 2 * v := wi (by omega) (by omega)
  have w2 : IntKind.i64.wrap (2 * u) = 2 * u := wi (by omega) (by omega)
  have w3 : IntKind.i64.wrap (2 * v + 1) = 2 * v + 1 := wi (by omega) (by omega)
  have w4 : IntKind.i64.wrap (2 * u + 1) = 2 * u + 1 := wi (by omega) (by omega)
  have w5 : IntKind.i64.wrap (2 * v + 1 - n) = 2 * v + 1 - n := wi (by omega) (by omega)
  have w6 : IntKind.i64.wrap (2 * u + 1 - n) = 2 * u + 1 - n := wi (by omega) (by omega)
  have w7 : IntKind.i64.wrap (2 * n) = 2 * n := wi (by omega) (by omega)
  have w8 : IntKind.i64.wrap (2 * n - 4) = 2 * n - 4 := wi (by omega) (by omega)
  have w9 : IntKind.i64.wrap (0 - (2 * v + 1 - n)) = -(2 * v + 1 - n) := by rw [wi (by omega) (by omega)]; omega
  have w10 : IntKind.i64.wrap (0 - (2 * u + 1 - n)) = -(2 * u + 1 - n) := by rw [wi (by omega) (by omega)]; omega
  simp only [w1, w2, w3, w4, w5, w6, w7, w8, w9, w10]
  simp only [cellF, beq_iff_eq, beq_eq_false_iff_ne, ne_eq]
  have hp1 : -1000 ≤ 2 * v + 1 - n ∧ 2 * v + 1 - n ≤ 1000 := by omega
  have hq1 : -1000 ≤ 2 * u + 1 - n ∧ 2 * u + 1 - n ≤ 1000 := by omega
  generalize 2 * v + 1 - n = p at *
  generalize 2 * u + 1 - n = q at *
  have sp := sq1000 hp1.1 hp1.2
  have sq := sq1000 hq1.1 hq1.2
  have sn := sq1000 (p := n) (by omega) (by omega)
  generalize hx : max p (-p) = x
  generalize hy : max q (-q) = y
  have x1 : 0 ≤ x ∧ x ≤ 1000 := by omega
  have y1 : 0 ≤ y ∧ y ≤ 1000 := by omega
  generalize hpp : p * p = pp at *
  generalize hqq : q * q = qq at *
  generalize n * n = nn at *
  rw [wi (x := pp) (by omega) (by omega), wi (x := qq) (by omega) (by omega), wi (x := nn) (by omega) (by omega), wi (x := pp + qq) (by omega) (by omega), wi (x := qq + pp) (by omega) (by omega), wi (x := x + y) (by omega) (by omega), wi (x := y + x) (by omega) (by omega), wi (x := 2 * x) (by omega) (by omega), wi (x := 2 * y) (by omega) (by omega), wi (x := 3 * x) (by omega) (by omega), wi (x := 3 * y) (by omega) (by omega)]
  clear w1 w2 w3 w4 w5 w6 w7 w8 w9 w10 hB
  refine ⟨fun ha => ?_, fun ha => ?_⟩ <;> simp only [ha, if_true, if_false, hx, hy, hpp, hqq]
  all_goals
    clear hx hy hpp hqq
    by_cases k1 : k = 1
    · subst k1; simp <;> omega
    by_cases k2 : k = 2
    · subst k2; simp <;> omega
    by_cases k3 : k = 3
    · subst k3; simp <;> omega
    by_cases k4 : k = 4
    · subst k4; simp [Int.add_comm]
    by_cases k5 : k = 5
    · subst k5; simp <;> omega
    by_cases k6 : k = 6
    · subst k6; simp <;> omega
    by_cases k7 : k = 7
    · subst k7; simp <;> omega
    simp only [k1, k2, k3, k4, k5, k6, k7, if_false, false_implies, not_false_eq_true, true_implies, true_and]
    rw [Bool.eq_iff_iff]
    simp [Bool.cond_eq_ite]
    omega
def e_l12Cell : Entry := pureE 58 fun H a => match a with
  | [.lit (.int .i64 k), .lit (.int .i64 a), .lit (.int .i64 n), .lit (.int .i64 u), .lit (.int .i64 v)] => some (.lit (.bool (H Bool fun _ => (cellF k a n u v))), [H Prop fun _ => (-100 ≤ n ∧ n ≤ 100), H Prop fun _ => (-100 ≤ u ∧ u ≤ 100), H Prop fun _ => (-100 ≤ v ∧ v ≤ 100)])
  | _ => none
theorem eok_l12Cell : EntryOk Try.prog e_l12Cell := pureE_ok (by unfold isBody; kernel_rfl) (by
  intro a r ob e hob
  split at e
  · simp only [Option.some.injEq, Prod.mk.injEq] at e
    obtain ⟨rfl, rfl⟩ := e
    obtain ⟨h0, h1, h2, _⟩ := hob
    exact c_l12Cell _ _ _ _ _ h0 h1 h2
  · simp at e)
/-- Which kinds have which attitudes. -/
def attF (k a : Int) : Bool := inB k 1 8 && (if k ≤ 3 then inB a 1 2 else decide (a = 0))
theorem c_isKind (k : Int)  : Con Try.prog 96 [.lit (.int .i64 k)] [] (.lit (.bool (inB k 1 8))) [] := by
  have hB : Base Try.prog (tabΓ [e_inside]) tab := base_of tabOk (ents_cons eok_inside <| ents_nil)
  refine con_eq (N := 5) hB (draw_ok hB mixed) Try.func96 rfl rfl _ _ 50 (by simp) (by intro x hx; simp only [List.mem_cons, List.not_mem_nil, or_false] at hx; rcases hx with rfl <;> (first | (first | exact .lit | exact .agg (by simp; repeat' constructor) | exact .tup (by simp; repeat' constructor)) | exact .vec (fun j hj x hx => by simp [vrow] at hx; subst hx; exact .lit))) (by (first | exact .lit | exact .agg (by simp; repeat' constructor) | exact .tup (by simp; repeat' constructor))) ?_
  intro H hH
  conv in finish _ _ _ _ _ _ _ _ => cbv
  subst hH
  simp only [Fin.sat0, Fin.sat1, stdH, Option.some.injEq, AV.lit.injEq, AV.agg.injEq, AV.tup.injEq, List.cons.injEq, Value.bool.injEq, Value.int.injEq, AllP, and_true, true_and, eq_self, decide_eq_true_eq, decide_eq_false_iff_not, Bool.not_eq_true', Bool.not_eq_false', peta, ncast]
def e_isKind : Entry := pureE 96 fun H a => match a with
  | [.lit (.int .i64 k)] => some (.lit (.bool (H Bool fun _ => (inB k 1 8))), [])
  | _ => none
theorem eok_isKind : EntryOk Try.prog e_isKind := pureE_ok (by unfold isBody; kernel_rfl) (by
  intro a r ob e hob
  split at e
  · simp only [Option.some.injEq, Prod.mk.injEq] at e
    obtain ⟨rfl, rfl⟩ := e
    exact c_isKind _
  · simp at e)
theorem c_l4Kind (k : Int)  : Con Try.prog 120 [.lit (.int .i64 k)] [] (.lit (.bool (inB k 1 8))) [] := by
  have hB : Base Try.prog (tabΓ [e_l1In]) tab := base_of tabOk (ents_cons eok_l1In <| ents_nil)
  refine con_eq (N := 5) hB (draw_ok hB mixed) Try.func120 rfl rfl _ _ 50 (by simp) (by intro x hx; simp only [List.mem_cons, List.not_mem_nil, or_false] at hx; rcases hx with rfl <;> (first | (first | exact .lit | exact .agg (by simp; repeat' constructor) | exact .tup (by simp; repeat' constructor)) | exact .vec (fun j hj x hx => by simp [vrow] at hx; subst hx; exact .lit))) (by (first | exact .lit | exact .agg (by simp; repeat' constructor) | exact .tup (by simp; repeat' constructor))) ?_
  intro H hH
  conv in finish _ _ _ _ _ _ _ _ => cbv
  subst hH
  simp only [Fin.sat0, Fin.sat1, stdH, Option.some.injEq, AV.lit.injEq, AV.agg.injEq, AV.tup.injEq, List.cons.injEq, Value.bool.injEq, Value.int.injEq, AllP, and_true, true_and, eq_self, decide_eq_true_eq, decide_eq_false_iff_not, Bool.not_eq_true', Bool.not_eq_false', peta, ncast]
def e_l4Kind : Entry := pureE 120 fun H a => match a with
  | [.lit (.int .i64 k)] => some (.lit (.bool (H Bool fun _ => (inB k 1 8))), [])
  | _ => none
theorem eok_l4Kind : EntryOk Try.prog e_l4Kind := pureE_ok (by unfold isBody; kernel_rfl) (by
  intro a r ob e hob
  split at e
  · simp only [Option.some.injEq, Prod.mk.injEq] at e
    obtain ⟨rfl, rfl⟩ := e
    exact c_l4Kind _
  · simp at e)
theorem c_number (b : Bool)  : Con Try.prog 59 [.lit (.bool b)] [] (.lit (.int .i64 (if b then 1 else 0))) [] := by
  have hB : Base Try.prog (tabΓ []) tab := base_of tabOk (ents_nil)
  refine con_eq (N := 4) hB (draw_ok hB mixed) Try.func59 rfl rfl _ _ 50 (by simp) (by intro x hx; simp only [List.mem_cons, List.not_mem_nil, or_false] at hx; rcases hx with rfl <;> (first | (first | exact .lit | exact .agg (by simp; repeat' constructor) | exact .tup (by simp; repeat' constructor)) | exact .vec (fun j hj x hx => by simp [vrow] at hx; subst hx; exact .lit))) (by (first | exact .lit | exact .agg (by simp; repeat' constructor) | exact .tup (by simp; repeat' constructor))) ?_
  intro H hH
  conv in finish _ _ _ _ _ _ _ _ => cbv
  subst hH
  simp only [Fin.sat0, Fin.sat1, stdH, Option.some.injEq, AV.lit.injEq, AV.agg.injEq, AV.tup.injEq, List.cons.injEq, Value.bool.injEq, Value.int.injEq, AllP, and_true, true_and, eq_self, decide_eq_true_eq, decide_eq_false_iff_not, Bool.not_eq_true', Bool.not_eq_false', peta, ncast]
  cases b <;> simp
def e_number : Entry := pureE 59 fun H a => match a with
  | [.lit (.bool b)] => some (.lit (.int .i64 (H Int fun _ => (if b then 1 else 0))), [])
  | _ => none
theorem eok_number : EntryOk Try.prog e_number := pureE_ok (by unfold isBody; kernel_rfl) (by
  intro a r ob e hob
  split at e
  · simp only [Option.some.injEq, Prod.mk.injEq] at e
    obtain ⟨rfl, rfl⟩ := e
    exact c_number _
  · simp at e)

end Go.Proofs.Ythacffbofjfcjaa.AM
