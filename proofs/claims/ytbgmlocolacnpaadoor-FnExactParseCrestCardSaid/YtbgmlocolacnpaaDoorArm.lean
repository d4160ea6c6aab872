import Derived.Test.YtbgmlocolacnpaaDoorBas
set_option linter.unusedVariables false
set_option linter.unusedSimpArgs false
set_option maxRecDepth 100000
set_option maxHeartbeats 4000000
set_option cbv.maxSteps 3000000
namespace Go.Proofs.YtbgmlocolacnpaaDoor.AM
/- Fields, groups and arms: when they are valid; conditions: none. -/
structure Fld where
  d : Int
  l : Int
  p : Int
  q : Int
deriving Inhabited
structure Arm where
  f : Fld
  o : Int
  l : Int
  t : Int
  n : Grp
  r : Grp
deriving Inhabited
def okF (f : Fld) : Bool := inB f.d 0 7 && inB f.l 0 4 && inB f.p 1 9 && (if f.d = 0 then decide (f.l = 0) && decide (f.q = 0) else inB f.q 1 9 && !decide (f.q = f.p))
def zA : Arm := ⟨⟨0, 0, 0, 0⟩, 0, 0, 0, ⟨0, 0, 0, 0⟩, ⟨0, 0, 0, 0⟩⟩
def okG (g : Grp) : Bool := inB g.c 1 6 && attF g.k g.a && inB g.t 1 9
def noG (g : Grp) : Bool := decide (g.c = 0) && decide (g.k = 0) && decide (g.a = 0) && decide (g.t = 0)
def okA (a : Arm) : Bool := okF a.f && (noG a.r || okG a.r) && (if a.o = 0 then decide (a.l = 0) && decide (a.t = 0) && noG a.n else inB a.o 1 7 && inB a.l 0 4 && inB a.t 1 9 && (noG a.n || okG a.n))
theorem beqd (a b : Int) : (a == b) = decide (a = b) := by by_cases h : a = b <;> simp [h]
theorem bned (a b : Int) : (a != b) = !decide (a = b) := by by_cases h : a = b <;> simp [bne, h]
theorem c_IsTincture (x : Int)  : Con Tryd.prog 88 [.lit (.int .i64 x)] [] (.lit (.bool (inB x 1 9))) [] := by
  have hB : Base Tryd.prog (tabΓ [e_inside]) tab := base_of tabOk (ents_cons eok_inside <| ents_nil)
  refine con_eq (N := 5) hB (draw_ok hB mixed) Tryd.func88 rfl rfl _ _ 50 (by simp) (by intro x hx; simp only [List.mem_cons, List.not_mem_nil, or_false] at hx; rcases hx with rfl <;> (first | (first | exact .lit | exact blq_ok 4 rfl) | exact .vec (fun j hj x hx => by simp [vrow] at hx; subst hx; exact .lit))) (by (first | exact .lit | exact blq_ok 4 rfl)) ?_
  intro H hH
  conv in finish _ _ _ _ _ _ _ _ => cbv
  subst hH
  simp only [Fin.sat0, Fin.sat1, stdH, Option.some.injEq, AV.lit.injEq, AV.agg.injEq, AV.tup.injEq, List.cons.injEq, Value.bool.injEq, Value.int.injEq, AllP, and_true, true_and, eq_self, decide_eq_true_eq, decide_eq_false_iff_not, Bool.not_eq_true', Bool.not_eq_false', peta, ncast]
noncomputable def e_IsTincture : Entry := pureE 88 fun H a => match a with
  | [.lit (.int .i64 x)] => some (.lit (.bool (H Bool fun _ => (inB x 1 9))), [])
  | _ => none
theorem eok_IsTincture : EntryOk Tryd.prog e_IsTincture := pureE_ok (by unfold isBody; kernel_rfl) (by
  intro a r ob e hob
  split at e
  · simp only [Option.some.injEq, Prod.mk.injEq] at e
    obtain ⟨rfl, rfl⟩ := e
    exact c_IsTincture _
  · simp at e)
theorem bifF (a b : Bool) : (bif a then b else false) = (a && b) := by cases a <;> rfl
theorem bifT (a b : Bool) : (bif a then true else b) = (a || b) := by cases a <;> rfl
theorem allG (a b c d : Int) : allT [fun _ => a == 0, fun _ => b == 0, fun _ => c == 0, fun _ => d == 0] = noG ⟨a, b, c, d⟩ := by simp [allT, noG, beqd, Bool.and_assoc]
theorem att_two (k a : Int) : attF k a = (inB k 1 8 && (if 0 < (attN k : Int) then inB a 1 (attN k) else decide (a = 0))) := by
  unfold attF attN inB
  by_cases h : 1 ≤ k ∧ k ≤ 3
  · rw [if_pos h, if_pos h.2]; simp
  · rw [if_neg h]
    by_cases h1 : k ≤ 3
    · have h2 : ¬ 1 ≤ k := by omega
      simp [h1, h2]
    · simp [h1]
theorem c_IsValidGroup (g : Grp)  : Con Tryd.prog 75 [.agg [.lit (.int .i64 (g).c), .lit (.int .i64 (g).k), .lit (.int .i64 (g).a), .lit (.int .i64 (g).t)]] [] (.lit (.bool (okG g))) [] := by
  obtain ⟨g0, g1, g2, g3⟩ := g
  have hB : Base Tryd.prog (tabΓ [e_inside, e_isKind, e_IsTincture, e_attitudes]) tab := base_of tabOk (ents_cons eok_inside <| ents_cons eok_isKind <| ents_cons eok_IsTincture <| ents_cons eok_attitudes <| ents_nil)
  refine con_eq (N := 33) hB (draw_ok hB mixed) Tryd.func75 rfl rfl _ _ 60 (by simp) (by intro x hx; simp only [List.mem_cons, List.not_mem_nil, or_false] at hx; rcases hx with rfl <;> (first | (first | exact .lit | exact blq_ok 4 rfl) | exact .vec (fun j hj x hx => by simp [vrow] at hx; subst hx; exact .lit))) (by (first | exact .lit | exact blq_ok 4 rfl)) ?_
  intro H hH
  conv in finish _ _ _ _ _ _ _ _ => cbv
  subst hH
  simp only [Fin.sat0, Fin.sat1, stdH, Option.some.injEq, AV.lit.injEq, AV.agg.injEq, AV.tup.injEq, List.cons.injEq, Value.bool.injEq, Value.int.injEq, AllP, and_true, true_and, eq_self, decide_eq_true_eq, decide_eq_false_iff_not, Bool.not_eq_true', Bool.not_eq_false', peta, ncast]
  simp only [okG, att_two, bifT, beqd]
  generalize inB g0 1 6 = b1
  generalize inB g1 1 8 = b2
  generalize inB g3 1 9 = b3
  refine ⟨fun h => ?_, fun h => ⟨fun h1 => ?_, fun h1 => ?_⟩⟩
  · cases b1 <;> cases b2 <;> cases b3 <;> simp_all
  · rw [if_pos h1]; generalize inB g2 1 _ = b4; cases b1 <;> cases b2 <;> cases b3 <;> simp_all
  · rw [if_neg h1]; cases b1 <;> cases b2 <;> cases b3 <;> simp_all
noncomputable def e_IsValidGroup : Entry := pureE 75 fun H a => match a with
  | [.agg [.lit (.int .i64 g0), .lit (.int .i64 g1), .lit (.int .i64 g2), .lit (.int .i64 g3)]] => some (.lit (.bool (H Bool fun _ => (okG (⟨g0, g1, g2, g3⟩ : Grp)))), [])
  | _ => none
theorem eok_IsValidGroup : EntryOk Tryd.prog e_IsValidGroup := pureE_ok (by unfold isBody; kernel_rfl) (by
  intro a r ob e hob
  split at e
  · rename_i g0 g1 g2 g3
    simp only [Option.some.injEq, Prod.mk.injEq] at e
    obtain ⟨rfl, rfl⟩ := e
    exact c_IsValidGroup (⟨g0, g1, g2, g3⟩ : Grp)
  · simp at e)
theorem arm_eta (a : Arm) : (⟨⟨a.f.d, a.f.l, a.f.p, a.f.q⟩, a.o, a.l, a.t, ⟨a.n.c, a.n.k, a.n.a, a.n.t⟩, ⟨a.r.c, a.r.k, a.r.a, a.r.t⟩⟩ : Arm) = a := rfl
theorem fld_eta (f : Fld) : (⟨f.d, f.l, f.p, f.q⟩ : Fld) = f := rfl
theorem grp_eta (g : Grp) : (⟨g.c, g.k, g.a, g.t⟩ : Grp) = g := rfl

end Go.Proofs.YtbgmlocolacnpaaDoor.AM
