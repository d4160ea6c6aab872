/- Lemmas and contracts (Arm); conditions: none. -/
import Derived.Test.YtmkniipdkanbbaaGreatDoorK08
set_option linter.unusedVariables false
set_option linter.unusedSimpArgs false
set_option maxRecDepth 100000
set_option maxHeartbeats 4000000
set_option cbv.maxSteps 3000000
namespace Go.Proofs.YtmkniipdkanbbaaGreatDoor.AM
/- Fields, groups and arms: when they are valid; conditions: none. -/
structure Fld where
  d : Int
  l : Int
  p : Int
  q : Int
deriving Inhabited
structure Arm where
  f : Fld
  o : Int
  l : Int
  t : Int
  n : Grp
  r : Grp
deriving Inhabited
def okF (f : Fld) : Bool := inB f.d 0 7 && inB f.l 0 4 && inB f.p 1 9 && (if f.d = 0 then decide (f.l = 0) && decide (f.q = 0) else inB f.q 1 9 && !decide (f.q = f.p))
def zA : Arm := ⟨⟨0, 0, 0, 0⟩, 0, 0, 0, ⟨0, 0, 0, 0⟩, ⟨0, 0, 0, 0⟩⟩
def okG (g : Grp) : Bool := inB g.c 1 6 && attF g.k g.a && inB g.t 1 9
def noG (g : Grp) : Bool := decide (g.c = 0) && decide (g.k = 0) && decide (g.a = 0) && decide (g.t = 0)
def okA (a : Arm) : Bool := okF a.f && (noG a.r || okG a.r) && (if a.o = 0 then decide (a.l = 0) && decide (a.t = 0) && noG a.n else inB a.o 1 7 && inB a.l 0 4 && inB a.t 1 9 && (noG a.n || okG a.n))
theorem beqd (a b : Int) : (a == b) = decide (a = b) := by by_cases h : a = b <;> simp [h]
theorem bned (a b : Int) : (a != b) = !decide (a = b) := by by_cases h : a = b <;> simp [bne, h]
theorem c_IsTincture (x : Int)  : Con Tryz.prog 83 [.lit (.int .i64 x)] [] (.lit (.bool (inB x 1 9))) [] := by
  have hB : Base Tryz.prog (tabΓ [e_inside]) tab := base_of tabOk (ents_cons eok_inside <| ents_nil)
  refine con_eq (N := 5) hB (draw_ok hB mixed) Tryz.func83 rfl rfl _ _ 50 (by simp) (by intro x hx; simp only [zqu] at hx; rcases hx with rfl <;> (first | (first | exact .lit | exact blq_ok 4 rfl) | exact .vec (fun j hj x hx => by simp [vrow] at hx; subst hx; exact .lit))) (by (first | exact .lit | exact blq_ok 4 rfl)) ?_
  intro H hH
  conv in finish _ _ _ _ _ _ _ _ => cbv
  subst hH
  simp only [Fin.sat0, Fin.sat1, stdH, Option.some.injEq, AV.lit.injEq, AV.agg.injEq, AV.tup.injEq, List.cons.injEq, Value.bool.injEq, Value.int.injEq, AllP, and_true, true_and, eq_self, zqa, zqb, zqc, zqd, peta, ncast]
noncomputable def e_IsTincture : Entry := pureE 83 fun H a => match a with
  | [.lit (.int .i64 x)] => some (.lit (.bool (H Bool fun _ => (inB x 1 9))), [])
  | _ => none
theorem eok_IsTincture : EntryOk Tryz.prog e_IsTincture := pureE_ok (by unfold isBody; kernel_rfl) (by
  intro a r ob e hob
  split at e
  · simp only [zqt] at e
    obtain ⟨rfl, rfl⟩ := e
    exact c_IsTincture _
  · simp at e)
theorem c_isLine (x : Int)  : Con Tryz.prog 134 [.lit (.int .i64 x)] [] (.lit (.bool (inB x 0 4))) [] := by
  have hB : Base Tryz.prog (tabΓ [e_inside]) tab := base_of tabOk (ents_cons eok_inside <| ents_nil)
  refine con_eq (N := 5) hB (draw_ok hB mixed) Tryz.func134 rfl rfl _ _ 50 (by simp) (by intro x hx; simp only [zqu] at hx; rcases hx with rfl <;> (first | (first | exact .lit | exact blq_ok 4 rfl) | exact .vec (fun j hj x hx => by simp [vrow] at hx; subst hx; exact .lit))) (by (first | exact .lit | exact blq_ok 4 rfl)) ?_
  intro H hH
  conv in finish _ _ _ _ _ _ _ _ => cbv
  subst hH
  simp only [Fin.sat0, Fin.sat1, stdH, Option.some.injEq, AV.lit.injEq, AV.agg.injEq, AV.tup.injEq, List.cons.injEq, Value.bool.injEq, Value.int.injEq, AllP, and_true, true_and, eq_self, zqa, zqb, zqc, zqd, peta, ncast]
noncomputable def e_isLine : Entry := pureE 134 fun H a => match a with
  | [.lit (.int .i64 x)] => some (.lit (.bool (H Bool fun _ => (inB x 0 4))), [])
  | _ => none
theorem eok_isLine : EntryOk Tryz.prog e_isLine := pureE_ok (by unfold isBody; kernel_rfl) (by
  intro a r ob e hob
  split at e
  · simp only [zqt] at e
    obtain ⟨rfl, rfl⟩ := e
    exact c_isLine _
  · simp at e)
theorem c_l3Line (x : Int)  : Con Tryz.prog 102 [.lit (.int .i64 x)] [] (.lit (.bool (inB x 0 4))) [] := by
  have hB : Base Tryz.prog (tabΓ [e_l1In]) tab := base_of tabOk (ents_cons eok_l1In <| ents_nil)
  refine con_eq (N := 5) hB (draw_ok hB mixed) Tryz.func102 rfl rfl _ _ 50 (by simp) (by intro x hx; simp only [zqu] at hx; rcases hx with rfl <;> (first | (first | exact .lit | exact blq_ok 4 rfl) | exact .vec (fun j hj x hx => by simp [vrow] at hx; subst hx; exact .lit))) (by (first | exact .lit | exact blq_ok 4 rfl)) ?_
  intro H hH
  conv in finish _ _ _ _ _ _ _ _ => cbv
  subst hH
  simp only [Fin.sat0, Fin.sat1, stdH, Option.some.injEq, AV.lit.injEq, AV.agg.injEq, AV.tup.injEq, List.cons.injEq, Value.bool.injEq, Value.int.injEq, AllP, and_true, true_and, eq_self, zqa, zqb, zqc, zqd, peta, ncast]
noncomputable def e_l3Line : Entry := pureE 102 fun H a => match a with
  | [.lit (.int .i64 x)] => some (.lit (.bool (H Bool fun _ => (inB x 0 4))), [])
  | _ => none
theorem eok_l3Line : EntryOk Tryz.prog e_l3Line := pureE_ok (by unfold isBody; kernel_rfl) (by
  intro a r ob e hob
  split at e
  · simp only [zqt] at e
    obtain ⟨rfl, rfl⟩ := e
    exact c_l3Line _
  · simp at e)
theorem c_IsValidField (f : Fld)  : Con Tryz.prog 79 [.agg [.lit (.int .i64 (f).d), .lit (.int .i64 (f).l), .lit (.int .i64 (f).p), .lit (.int .i64 (f).q)]] [] (.lit (.bool (okF f))) [] := by
  obtain ⟨f0, f1, f2, f3⟩ := f
  have hB : Base Tryz.prog (tabΓ [e_inside, e_isLine, e_IsTincture]) tab := base_of tabOk (ents_cons eok_inside <| ents_cons eok_isLine <| ents_cons eok_IsTincture <| ents_nil)
  refine con_eq (N := 40) hB (draw_ok hB mixed) Tryz.func79 rfl rfl _ _ 60 (by simp) (by intro x hx; simp only [zqu] at hx; rcases hx with rfl <;> (first | (first | exact .lit | exact blq_ok 4 rfl) | exact .vec (fun j hj x hx => by simp [vrow] at hx; subst hx; exact .lit))) (by (first | exact .lit | exact blq_ok 4 rfl)) ?_
  intro H hH
  conv in finish _ _ _ _ _ _ _ _ => cbv
  subst hH
  simp only [Fin.sat0, Fin.sat1, stdH, Option.some.injEq, AV.lit.injEq, AV.agg.injEq, AV.tup.injEq, List.cons.injEq, Value.bool.injEq, Value.int.injEq, AllP, and_true, true_and, eq_self, zqa, zqb, zqc, zqd, peta, ncast]
  simp only [okF, beqd, bned]
  generalize inB f0 0 7 = b1
  generalize inB f1 0 4 = b2
  generalize inB f2 1 9 = b3
  generalize inB f3 1 9 = b4
  by_cases h1 : f0 = 0 <;> by_cases h2 : f1 = 0 <;> by_cases h3 : f3 = 0 <;> by_cases h4 : f3 = f2 <;> cases b1 <;> cases b2 <;> cases b3 <;> cases b4 <;> simp_all
noncomputable def e_IsValidField : Entry := pureE 79 fun H a => match a with
  | [.agg [.lit (.int .i64 f0), .lit (.int .i64 f1), .lit (.int .i64 f2), .lit (.int .i64 f3)]] => some (.lit (.bool (H Bool fun _ => (okF (⟨f0, f1, f2, f3⟩ : Fld)))), [])
  | _ => none
theorem eok_IsValidField : EntryOk Tryz.prog e_IsValidField := pureE_ok (by unfold isBody; kernel_rfl) (by
  intro a r ob e hob
  split at e
  · rename_i f0 f1 f2 f3
    simp only [zqt] at e
    obtain ⟨rfl, rfl⟩ := e
    exact c_IsValidField (⟨f0, f1, f2, f3⟩ : Fld)
  · simp at e)
theorem bifF (a b : Bool) : (bif a then b else false) = (a && b) := by cases a <;> rfl
theorem bifT (a b : Bool) : (bif a then true else b) = (a || b) := by cases a <;> rfl
theorem allG (a b c d : Int) : allT [fun _ => a == 0, fun _ => b == 0, fun _ => c == 0, fun _ => d == 0] = noG ⟨a, b, c, d⟩ := by simp [allT, noG, beqd, Bool.and_assoc]
theorem att_two (k a : Int) : attF k a = (inB k 1 8 && (if 0 < (attN k : Int) then inB a 1 (attN k) else decide (a = 0))) := by
  unfold attF attN inB
  by_cases h : 1 ≤ k ∧ k ≤ 3
  · rw [if_pos h, if_pos h.2]; simp
  · rw [if_neg h]
    by_cases h1 : k ≤ 3
    · have h2 : ¬ 1 ≤ k := by omega
      simp [h1, h2]
    · simp [h1]
theorem c_IsValidGroup (g : Grp)  : Con Tryz.prog 135 [.agg [.lit (.int .i64 (g).c), .lit (.int .i64 (g).k), .lit (.int .i64 (g).a), .lit (.int .i64 (g).t)]] [] (.lit (.bool (okG g))) [] := by
  obtain ⟨g0, g1, g2, g3⟩ := g
  have hB : Base Tryz.prog (tabΓ [e_inside, e_isKind, e_IsTincture, e_attitudes]) tab := base_of tabOk (ents_cons eok_inside <| ents_cons eok_isKind <| ents_cons eok_IsTincture <| ents_cons eok_attitudes <| ents_nil)
  refine con_eq (N := 33) hB (draw_ok hB mixed) Tryz.func135 rfl rfl _ _ 60 (by simp) (by intro x hx; simp only [zqu] at hx; rcases hx with rfl <;> (first | (first | exact .lit | exact blq_ok 4 rfl) | exact .vec (fun j hj x hx => by simp [vrow] at hx; subst hx; exact .lit))) (by (first | exact .lit | exact blq_ok 4 rfl)) ?_
  intro H hH
  conv in finish _ _ _ _ _ _ _ _ => cbv
  subst hH
  simp only [Fin.sat0, Fin.sat1, stdH, Option.some.injEq, AV.lit.injEq, AV.agg.injEq, AV.tup.injEq, List.cons.injEq, Value.bool.injEq, Value.int.injEq, AllP, and_true, true_and, eq_self, zqa, zqb, zqc, zqd, peta, ncast]
  simp only [okG, att_two, bifT, beqd]
  generalize inB g0 1 6 = b1
  generalize inB g1 1 8 = b2
  generalize inB g3 1 9 = b3
  refine ⟨fun h => ?_, fun h => ⟨fun h1 => ?_, fun h1 => ?_⟩⟩
  · cases b1 <;> cases b2 <;> cases b3 <;> simp_all
  · rw [if_pos h1]; generalize inB g2 1 _ = b4; cases b1 <;> cases b2 <;> cases b3 <;> simp_all
  · rw [if_neg h1]; cases b1 <;> cases b2 <;> cases b3 <;> simp_all
noncomputable def e_IsValidGroup : Entry := pureE 135 fun H a => match a with
  | [.agg [.lit (.int .i64 g0), .lit (.int .i64 g1), .lit (.int .i64 g2), .lit (.int .i64 g3)]] => some (.lit (.bool (H Bool fun _ => (okG (⟨g0, g1, g2, g3⟩ : Grp)))), [])
  | _ => none
theorem eok_IsValidGroup : EntryOk Tryz.prog e_IsValidGroup := pureE_ok (by unfold isBody; kernel_rfl) (by
  intro a r ob e hob
  split at e
  · rename_i g0 g1 g2 g3
    simp only [zqt] at e
    obtain ⟨rfl, rfl⟩ := e
    exact c_IsValidGroup (⟨g0, g1, g2, g3⟩ : Grp)
  · simp at e)
theorem c_isGroup (g : Grp)  : Con Tryz.prog 80 [.agg [.lit (.int .i64 (g).c), .lit (.int .i64 (g).k), .lit (.int .i64 (g).a), .lit (.int .i64 (g).t)]] [] (.lit (.bool (noG g || okG g))) [] := by
  obtain ⟨g0, g1, g2, g3⟩ := g
  have hB : Base Tryz.prog (tabΓ [e_IsValidGroup]) tab := base_of tabOk (ents_cons eok_IsValidGroup <| ents_nil)
  refine con_eq (N := 10) hB (draw_ok hB mixed) Tryz.func80 rfl rfl _ _ 60 (by simp) (by intro x hx; simp only [zqu] at hx; rcases hx with rfl <;> (first | (first | exact .lit | exact blq_ok 4 rfl) | exact .vec (fun j hj x hx => by simp [vrow] at hx; subst hx; exact .lit))) (by (first | exact .lit | exact blq_ok 4 rfl)) ?_
  intro H hH
  conv in finish _ _ _ _ _ _ _ _ => cbv
  subst hH
  simp only [Fin.sat0, Fin.sat1, stdH, Option.some.injEq, AV.lit.injEq, AV.agg.injEq, AV.tup.injEq, List.cons.injEq, Value.bool.injEq, Value.int.injEq, AllP, and_true, true_and, eq_self, zqa, zqb, zqc, zqd, peta, ncast]
  rw [allG, bifT]
noncomputable def e_isGroup : Entry := pureE 80 fun H a => match a with
  | [.agg [.lit (.int .i64 g0), .lit (.int .i64 g1), .lit (.int .i64 g2), .lit (.int .i64 g3)]] => some (.lit (.bool (H Bool fun _ => (noG (⟨g0, g1, g2, g3⟩ : Grp) || okG (⟨g0, g1, g2, g3⟩ : Grp)))), [])
  | _ => none
theorem eok_isGroup : EntryOk Tryz.prog e_isGroup := pureE_ok (by unfold isBody; kernel_rfl) (by
  intro a r ob e hob
  split at e
  · rename_i g0 g1 g2 g3
    simp only [zqt] at e
    obtain ⟨rfl, rfl⟩ := e
    exact c_isGroup (⟨g0, g1, g2, g3⟩ : Grp)
  · simp at e)
theorem c_isOrdinary (o : Int) (l : Int) (t : Int)  : Con Tryz.prog 81 [.lit (.int .i64 o), .lit (.int .i64 l), .lit (.int .i64 t)] [] (.lit (.bool (inB o 1 7 && inB l 0 4 && inB t 1 9))) [] := by
  have hB : Base Tryz.prog (tabΓ [e_inside, e_isLine, e_IsTincture]) tab := base_of tabOk (ents_cons eok_inside <| ents_cons eok_isLine <| ents_cons eok_IsTincture <| ents_nil)
  refine con_eq (N := 17) hB (draw_ok hB mixed) Tryz.func81 rfl rfl _ _ 60 (by simp) (by intro x hx; simp only [zqu] at hx; rcases hx with rfl | rfl | rfl <;> (first | (first | exact .lit | exact blq_ok 4 rfl) | exact .vec (fun j hj x hx => by simp [vrow] at hx; subst hx; exact .lit))) (by (first | exact .lit | exact blq_ok 4 rfl)) ?_
  intro H hH
  conv in finish _ _ _ _ _ _ _ _ => cbv
  subst hH
  simp only [Fin.sat0, Fin.sat1, stdH, Option.some.injEq, AV.lit.injEq, AV.agg.injEq, AV.tup.injEq, List.cons.injEq, Value.bool.injEq, Value.int.injEq, AllP, and_true, true_and, eq_self, zqa, zqb, zqc, zqd, peta, ncast]
  simp only [bifF]
noncomputable def e_isOrdinary : Entry := pureE 81 fun H a => match a with
  | [.lit (.int .i64 o), .lit (.int .i64 l), .lit (.int .i64 t)] => some (.lit (.bool (H Bool fun _ => (inB o 1 7 && inB l 0 4 && inB t 1 9))), [])
  | _ => none
theorem eok_isOrdinary : EntryOk Tryz.prog e_isOrdinary := pureE_ok (by unfold isBody; kernel_rfl) (by
  intro a r ob e hob
  split at e
  · simp only [zqt] at e
    obtain ⟨rfl, rfl⟩ := e
    exact c_isOrdinary _ _ _
  · simp at e)
theorem c_IsValidArms (a : Arm)  : Con Tryz.prog 37 [.agg [.lit (.int .i64 (a).f.d), .lit (.int .i64 (a).f.l), .lit (.int .i64 (a).f.p), .lit (.int .i64 (a).f.q), .lit (.int .i64 (a).o), .lit (.int .i64 (a).l), .lit (.int .i64 (a).t), .lit (.int .i64 (a).n.c), .lit (.int .i64 (a).n.k), .lit (.int .i64 (a).n.a), .lit (.int .i64 (a).n.t), .lit (.int .i64 (a).r.c), .lit (.int .i64 (a).r.k), .lit (.int .i64 (a).r.a), .lit (.int .i64 (a).r.t)]] [] (.lit (.bool (okA a))) [] := by
  obtain ⟨⟨a0, a1, a2, a3⟩, a4, a5, a6, ⟨a7, a8, a9, a10⟩, ⟨a11, a12, a13, a14⟩⟩ := a
  have hB : Base Tryz.prog (tabΓ [e_IsValidField, e_isGroup, e_isOrdinary]) tab := base_of tabOk (ents_cons eok_IsValidField <| ents_cons eok_isGroup <| ents_cons eok_isOrdinary <| ents_nil)
  refine con_eq (N := 42) hB (draw_ok hB mixed) Tryz.func37 rfl rfl _ _ 90 (by simp) (by intro x hx; simp only [zqu] at hx; rcases hx with rfl <;> (first | (first | exact .lit | exact blq_ok 4 rfl) | exact .vec (fun j hj x hx => by simp [vrow] at hx; subst hx; exact .lit))) (by (first | exact .lit | exact blq_ok 4 rfl)) ?_
  intro H hH
  conv in finish _ _ _ _ _ _ _ _ => cbv
  subst hH
  simp only [Fin.sat0, Fin.sat1, stdH, Option.some.injEq, AV.lit.injEq, AV.agg.injEq, AV.tup.injEq, List.cons.injEq, Value.bool.injEq, Value.int.injEq, AllP, and_true, true_and, eq_self, zqa, zqb, zqc, zqd, peta, ncast]
  simp only [okA, allG]
  simp only [beqd, bifF, bifT]
  generalize okF _ = b1
  generalize (noG ⟨a11, a12, a13, a14⟩ || okG _) = b2
  generalize (noG ⟨a7, a8, a9, a10⟩ || okG _) = b3
  generalize noG ⟨a7, a8, a9, a10⟩ = b4
  generalize (inB a4 1 7 && inB a5 0 4 && inB a6 1 9) = b5
  by_cases h1 : a4 = 0 <;> cases b1 <;> cases b2 <;> simp_all [Bool.and_assoc]
noncomputable def e_IsValidArms : Entry := pureE 37 fun H a => match a with
  | [.agg [.lit (.int .i64 a0), .lit (.int .i64 a1), .lit (.int .i64 a2), .lit (.int .i64 a3), .lit (.int .i64 a4), .lit (.int .i64 a5), .lit (.int .i64 a6), .lit (.int .i64 a7), .lit (.int .i64 a8), .lit (.int .i64 a9), .lit (.int .i64 a10), .lit (.int .i64 a11), .lit (.int .i64 a12), .lit (.int .i64 a13), .lit (.int .i64 a14)]] => some (.lit (.bool (H Bool fun _ => (okA (⟨⟨a0, a1, a2, a3⟩, a4, a5, a6, ⟨a7, a8, a9, a10⟩, ⟨a11, a12, a13, a14⟩⟩ : Arm)))), [])
  | _ => none
theorem eok_IsValidArms : EntryOk Tryz.prog e_IsValidArms := pureE_ok (by unfold isBody; kernel_rfl) (by
  intro a r ob e hob
  split at e
  · rename_i a0 a1 a2 a3 a4 a5 a6 a7 a8 a9 a10 a11 a12 a13 a14
    simp only [zqt] at e
    obtain ⟨rfl, rfl⟩ := e
    exact c_IsValidArms (⟨⟨a0, a1, a2, a3⟩, a4, a5, a6, ⟨a7, a8, a9, a10⟩, ⟨a11, a12, a13, a14⟩⟩ : Arm)
  · simp at e)
theorem c_l3Good (f : Fld)  : Con Tryz.prog 99 [.agg [.lit (.int .i64 (f).d), .lit (.int .i64 (f).l), .lit (.int .i64 (f).p), .lit (.int .i64 (f).q)]] [] (.lit (.bool (okF f))) [] := by
  obtain ⟨f0, f1, f2, f3⟩ := f
  have hB : Base Tryz.prog (tabΓ [e_l1In, e_l3Line, e_l2Good]) tab := base_of tabOk (ents_cons eok_l1In <| ents_cons eok_l3Line <| ents_cons eok_l2Good <| ents_nil)
  refine con_eq (N := 40) hB (draw_ok hB mixed) Tryz.func99 rfl rfl _ _ 60 (by simp) (by intro x hx; simp only [zqu] at hx; rcases hx with rfl <;> (first | (first | exact .lit | exact blq_ok 4 rfl) | exact .vec (fun j hj x hx => by simp [vrow] at hx; subst hx; exact .lit))) (by (first | exact .lit | exact blq_ok 4 rfl)) ?_
  intro H hH
  conv in finish _ _ _ _ _ _ _ _ => cbv
  subst hH
  simp only [Fin.sat0, Fin.sat1, stdH, Option.some.injEq, AV.lit.injEq, AV.agg.injEq, AV.tup.injEq, List.cons.injEq, Value.bool.injEq, Value.int.injEq, AllP, and_true, true_and, eq_self, zqa, zqb, zqc, zqd, peta, ncast]
  simp only [okF, beqd, bned]
  generalize inB f0 0 7 = b1
  generalize inB f1 0 4 = b2
  generalize inB f2 1 9 = b3
  generalize inB f3 1 9 = b4
  by_cases h1 : f0 = 0 <;> by_cases h2 : f1 = 0 <;> by_cases h3 : f3 = 0 <;> by_cases h4 : f3 = f2 <;> cases b1 <;> cases b2 <;> cases b3 <;> cases b4 <;> simp_all
noncomputable def e_l3Good : Entry := pureE 99 fun H a => match a with
  | [.agg [.lit (.int .i64 f0), .lit (.int .i64 f1), .lit (.int .i64 f2), .lit (.int .i64 f3)]] => some (.lit (.bool (H Bool fun _ => (okF (⟨f0, f1, f2, f3⟩ : Fld)))), [])
  | _ => none
theorem eok_l3Good : EntryOk Tryz.prog e_l3Good := pureE_ok (by unfold isBody; kernel_rfl) (by
  intro a r ob e hob
  split at e
  · rename_i f0 f1 f2 f3
    simp only [zqt] at e
    obtain ⟨rfl, rfl⟩ := e
    exact c_l3Good (⟨f0, f1, f2, f3⟩ : Fld)
  · simp at e)
theorem c_l4None (g : Grp)  : Con Tryz.prog 89 [.agg [.lit (.int .i64 (g).c), .lit (.int .i64 (g).k), .lit (.int .i64 (g).a), .lit (.int .i64 (g).t)]] [] (.lit (.bool (noG g))) [] := by
  obtain ⟨g0, g1, g2, g3⟩ := g
  have hB : Base Tryz.prog (tabΓ []) tab := base_of tabOk (ents_nil)
  refine con_eq (N := 6) hB (draw_ok hB mixed) Tryz.func89 rfl rfl _ _ 60 (by simp) (by intro x hx; simp only [zqu] at hx; rcases hx with rfl <;> (first | (first | exact .lit | exact blq_ok 4 rfl) | exact .vec (fun j hj x hx => by simp [vrow] at hx; subst hx; exact .lit))) (by (first | exact .lit | exact blq_ok 4 rfl)) ?_
  intro H hH
  conv in finish _ _ _ _ _ _ _ _ => cbv
  subst hH
  simp only [Fin.sat0, Fin.sat1, stdH, Option.some.injEq, AV.lit.injEq, AV.agg.injEq, AV.tup.injEq, List.cons.injEq, Value.bool.injEq, Value.int.injEq, AllP, and_true, true_and, eq_self, zqa, zqb, zqc, zqd, peta, ncast]
  exact allG _ _ _ _
noncomputable def e_l4None : Entry := pureE 89 fun H a => match a with
  | [.agg [.lit (.int .i64 g0), .lit (.int .i64 g1), .lit (.int .i64 g2), .lit (.int .i64 g3)]] => some (.lit (.bool (H Bool fun _ => (noG (⟨g0, g1, g2, g3⟩ : Grp)))), [])
  | _ => none
theorem eok_l4None : EntryOk Tryz.prog e_l4None := pureE_ok (by unfold isBody; kernel_rfl) (by
  intro a r ob e hob
  split at e
  · rename_i g0 g1 g2 g3
    simp only [zqt] at e
    obtain ⟨rfl, rfl⟩ := e
    exact c_l4None (⟨g0, g1, g2, g3⟩ : Grp)
  · simp at e)
theorem c_l5Good (a : Arm)  : Con Tryz.prog 52 [.agg [.lit (.int .i64 (a).f.d), .lit (.int .i64 (a).f.l), .lit (.int .i64 (a).f.p), .lit (.int .i64 (a).f.q), .lit (.int .i64 (a).o), .lit (.int .i64 (a).l), .lit (.int .i64 (a).t), .lit (.int .i64 (a).n.c), .lit (.int .i64 (a).n.k), .lit (.int .i64 (a).n.a), .lit (.int .i64 (a).n.t), .lit (.int .i64 (a).r.c), .lit (.int .i64 (a).r.k), .lit (.int .i64 (a).r.a), .lit (.int .i64 (a).r.t)]] [] (.lit (.bool (okA a))) [] := by
  obtain ⟨⟨a0, a1, a2, a3⟩, a4, a5, a6, ⟨a7, a8, a9, a10⟩, ⟨a11, a12, a13, a14⟩⟩ := a
  have hB : Base Tryz.prog (tabΓ [e_l3Good, e_l1In, e_l4None, e_l4Group, e_l3Line, e_l2Good]) tab := base_of tabOk (ents_cons eok_l3Good <| ents_cons eok_l1In <| ents_cons eok_l4None <| ents_cons eok_l4Group <| ents_cons eok_l3Line <| ents_cons eok_l2Good <| ents_nil)
  refine con_eq (N := 59) hB (draw_ok hB mixed) Tryz.func52 rfl rfl _ _ 120 (by simp) (by intro x hx; simp only [zqu] at hx; rcases hx with rfl <;> (first | (first | exact .lit | exact blq_ok 4 rfl) | exact .vec (fun j hj x hx => by simp [vrow] at hx; subst hx; exact .lit))) (by (first | exact .lit | exact blq_ok 4 rfl)) ?_
  intro H hH
  conv in finish _ _ _ _ _ _ _ _ => cbv
  subst hH
  simp only [Fin.sat0, Fin.sat1, stdH, Option.some.injEq, AV.lit.injEq, AV.agg.injEq, AV.tup.injEq, List.cons.injEq, Value.bool.injEq, Value.int.injEq, AllP, and_true, true_and, eq_self, zqa, zqb, zqc, zqd, peta, ncast]
  simp only [okA]
  simp only [beqd, bifF, bifT]
  have e1 : (inB a11 1 6 && attF a12 a13 && inB a14 1 9) = okG ⟨a11, a12, a13, a14⟩ := rfl
  have e2 : (inB a7 1 6 && attF a8 a9 && inB a10 1 9) = okG ⟨a7, a8, a9, a10⟩ := rfl
  rw [e1, e2]
  have e3 : a4 = 0 → inB a4 0 7 = true := fun h => by subst h; rfl
  have e4 : ¬ a4 = 0 → inB a4 1 7 = inB a4 0 7 := fun h => by unfold inB; rw [decide_eq_decide]; omega
  generalize okF _ = b1
  generalize okG ⟨a11, a12, a13, a14⟩ = b2
  generalize noG ⟨a11, a12, a13, a14⟩ = b3
  generalize okG ⟨a7, a8, a9, a10⟩ = b4
  generalize noG ⟨a7, a8, a9, a10⟩ = b5
  by_cases h1 : a4 = 0
  · simp only [e3 h1, h1, decide_true, if_true]
    cases b1 <;> cases b2 <;> cases b3 <;> simp_all [Bool.and_assoc]
  · simp only [e4 h1, h1, decide_false, if_false]
    generalize inB a4 0 7 = b6
    cases b1 <;> cases b2 <;> cases b3 <;> cases b6 <;> simp_all [Bool.and_assoc]
noncomputable def e_l5Good : Entry := pureE 52 fun H a => match a with
  | [.agg [.lit (.int .i64 a0), .lit (.int .i64 a1), .lit (.int .i64 a2), .lit (.int .i64 a3), .lit (.int .i64 a4), .lit (.int .i64 a5), .lit (.int .i64 a6), .lit (.int .i64 a7), .lit (.int .i64 a8), .lit (.int .i64 a9), .lit (.int .i64 a10), .lit (.int .i64 a11), .lit (.int .i64 a12), .lit (.int .i64 a13), .lit (.int .i64 a14)]] => some (.lit (.bool (H Bool fun _ => (okA (⟨⟨a0, a1, a2, a3⟩, a4, a5, a6, ⟨a7, a8, a9, a10⟩, ⟨a11, a12, a13, a14⟩⟩ : Arm)))), [])
  | _ => none
theorem eok_l5Good : EntryOk Tryz.prog e_l5Good := pureE_ok (by unfold isBody; kernel_rfl) (by
  intro a r ob e hob
  split at e
  · rename_i a0 a1 a2 a3 a4 a5 a6 a7 a8 a9 a10 a11 a12 a13 a14
    simp only [zqt] at e
    obtain ⟨rfl, rfl⟩ := e
    exact c_l5Good (⟨⟨a0, a1, a2, a3⟩, a4, a5, a6, ⟨a7, a8, a9, a10⟩, ⟨a11, a12, a13, a14⟩⟩ : Arm)
  · simp at e)
end Go.Proofs.YtmkniipdkanbbaaGreatDoor.AM

