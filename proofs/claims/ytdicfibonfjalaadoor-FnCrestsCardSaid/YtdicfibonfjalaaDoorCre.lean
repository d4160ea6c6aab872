import Derived.Test.YtdicfibonfjalaaDoorTin
import Derived.Test.YtdicfibonfjalaaDoorDrA
import Derived.Test.YtdicfibonfjalaaDoorVB
set_option linter.unusedVariables false
set_option linter.unusedSimpArgs false
set_option maxRecDepth 100000
set_option maxHeartbeats 4000000
set_option cbv.maxSteps 3000000
namespace Go.Proofs.YtdicfibonfjalaaDoor.AM
/- Crests, classes of tinctures, wreaths; conditions: none. -/
structure Crs where
  k : Int
  a : Int
  t : Int
  r : Int
deriving Inhabited
def okC (c : Crs) : Bool := okG ⟨1, c.k, c.a, c.t⟩ && inB c.r 1 5
theorem c_cgroup (z : Crs)  : Con Tryd.prog 57 [.agg [.lit (.int .i64 (z).k), .lit (.int .i64 (z).a), .lit (.int .i64 (z).t), .lit (.int .i64 (z).r)]] [] (.agg [.lit (.int .i64 (((⟨1, z.k, z.a, z.t⟩ : Grp)).c)), .lit (.int .i64 (((⟨1, z.k, z.a, z.t⟩ : Grp)).k)), .lit (.int .i64 (((⟨1, z.k, z.a, z.t⟩ : Grp)).a)), .lit (.int .i64 (((⟨1, z.k, z.a, z.t⟩ : Grp)).t))]) [] := by
  obtain ⟨z0, z1, z2, z3⟩ := z
  have hB : Base Tryd.prog (tabΓ []) tab := base_of tabOk (ents_nil)
  refine con_eq (N := 10) hB (draw_ok hB mixed) Tryd.func57 rfl rfl _ _ 60 (by simp) (by intro x hx; simp only [List.mem_cons, List.not_mem_nil, or_false] at hx; rcases hx with rfl <;> (first | (first | exact .lit | exact blq_ok 4 rfl) | exact .vec (fun j hj x hx => by simp [vrow] at hx; subst hx; exact .lit))) (by (first | exact .lit | exact blq_ok 4 rfl)) ?_
  intro H hH
  conv in finish _ _ _ _ _ _ _ _ => cbv
  subst hH
  simp only [Fin.sat0, Fin.sat1, stdH, Option.some.injEq, AV.lit.injEq, AV.agg.injEq, AV.tup.injEq, List.cons.injEq, Value.bool.injEq, Value.int.injEq, AllP, and_true, true_and, eq_self, decide_eq_true_eq, decide_eq_false_iff_not, Bool.not_eq_true', Bool.not_eq_false', peta, ncast]
noncomputable def e_cgroup : Entry := pureE 57 fun H a => match a with
  | [.agg [.lit (.int .i64 z0), .lit (.int .i64 z1), .lit (.int .i64 z2), .lit (.int .i64 z3)]] => some (.agg [.lit (.int .i64 (H Int fun _ => (((⟨1, (⟨z0, z1, z2, z3⟩ : Crs).k, (⟨z0, z1, z2, z3⟩ : Crs).a, (⟨z0, z1, z2, z3⟩ : Crs).t⟩ : Grp)).c))), .lit (.int .i64 (H Int fun _ => (((⟨1, (⟨z0, z1, z2, z3⟩ : Crs).k, (⟨z0, z1, z2, z3⟩ : Crs).a, (⟨z0, z1, z2, z3⟩ : Crs).t⟩ : Grp)).k))), .lit (.int .i64 (H Int fun _ => (((⟨1, (⟨z0, z1, z2, z3⟩ : Crs).k, (⟨z0, z1, z2, z3⟩ : Crs).a, (⟨z0, z1, z2, z3⟩ : Crs).t⟩ : Grp)).a))), .lit (.int .i64 (H Int fun _ => (((⟨1, (⟨z0, z1, z2, z3⟩ : Crs).k, (⟨z0, z1, z2, z3⟩ : Crs).a, (⟨z0, z1, z2, z3⟩ : Crs).t⟩ : Grp)).t)))], [])
  | _ => none
theorem eok_cgroup : EntryOk Tryd.prog e_cgroup := pureE_ok (by unfold isBody; kernel_rfl) (by
  intro a r ob e hob
  split at e
  · rename_i z0 z1 z2 z3
    simp only [Option.some.injEq, Prod.mk.injEq] at e
    obtain ⟨rfl, rfl⟩ := e
    exact c_cgroup (⟨z0, z1, z2, z3⟩ : Crs)
  · simp at e)
theorem c_isRank (x : Int)  : Con Tryd.prog 61 [.lit (.int .i64 x)] [] (.lit (.bool (inB x 1 5))) [] := by
  have hB : Base Tryd.prog (tabΓ [e_inside]) tab := base_of tabOk (ents_cons eok_inside <| ents_nil)
  refine con_eq (N := 5) hB (draw_ok hB mixed) Tryd.func61 rfl rfl _ _ 50 (by simp) (by intro x hx; simp only [List.mem_cons, List.not_mem_nil, or_false] at hx; rcases hx with rfl <;> (first | (first | exact .lit | exact blq_ok 4 rfl) | exact .vec (fun j hj x hx => by simp [vrow] at hx; subst hx; exact .lit))) (by (first | exact .lit | exact blq_ok 4 rfl)) ?_
  intro H hH
  conv in finish _ _ _ _ _ _ _ _ => cbv
  subst hH
  simp only [Fin.sat0, Fin.sat1, stdH, Option.some.injEq, AV.lit.injEq, AV.agg.injEq, AV.tup.injEq, List.cons.injEq, Value.bool.injEq, Value.int.injEq, AllP, and_true, true_and, eq_self, decide_eq_true_eq, decide_eq_false_iff_not, Bool.not_eq_true', Bool.not_eq_false', peta, ncast]
noncomputable def e_isRank : Entry := pureE 61 fun H a => match a with
  | [.lit (.int .i64 x)] => some (.lit (.bool (H Bool fun _ => (inB x 1 5))), [])
  | _ => none
theorem eok_isRank : EntryOk Tryd.prog e_isRank := pureE_ok (by unfold isBody; kernel_rfl) (by
  intro a r ob e hob
  split at e
  · simp only [Option.some.injEq, Prod.mk.injEq] at e
    obtain ⟨rfl, rfl⟩ := e
    exact c_isRank _
  · simp at e)
theorem c_IsValidCrest (z : Crs)  : Con Tryd.prog 21 [.agg [.lit (.int .i64 (z).k), .lit (.int .i64 (z).a), .lit (.int .i64 (z).t), .lit (.int .i64 (z).r)]] [] (.lit (.bool (okC z))) [] := by
  obtain ⟨z0, z1, z2, z3⟩ := z
  have hB : Base Tryd.prog (tabΓ [e_cgroup, e_IsValidGroup, e_isRank]) tab := base_of tabOk (ents_cons eok_cgroup <| ents_cons eok_IsValidGroup <| ents_cons eok_isRank <| ents_nil)
  refine con_eq (N := 11) hB (draw_ok hB mixed) Tryd.func21 rfl rfl _ _ 60 (by simp) (by intro x hx; simp only [List.mem_cons, List.not_mem_nil, or_false] at hx; rcases hx with rfl <;> (first | (first | exact .lit | exact blq_ok 4 rfl) | exact .vec (fun j hj x hx => by simp [vrow] at hx; subst hx; exact .lit))) (by (first | exact .lit | exact blq_ok 4 rfl)) ?_
  intro H hH
  conv in finish _ _ _ _ _ _ _ _ => cbv
  subst hH
  simp only [Fin.sat0, Fin.sat1, stdH, Option.some.injEq, AV.lit.injEq, AV.agg.injEq, AV.tup.injEq, List.cons.injEq, Value.bool.injEq, Value.int.injEq, AllP, and_true, true_and, eq_self, decide_eq_true_eq, decide_eq_false_iff_not, Bool.not_eq_true', Bool.not_eq_false', peta, ncast]
  simp only [okC, bifF]
noncomputable def e_IsValidCrest : Entry := pureE 21 fun H a => match a with
  | [.agg [.lit (.int .i64 z0), .lit (.int .i64 z1), .lit (.int .i64 z2), .lit (.int .i64 z3)]] => some (.lit (.bool (H Bool fun _ => (okC (⟨z0, z1, z2, z3⟩ : Crs)))), [])
  | _ => none
theorem eok_IsValidCrest : EntryOk Tryd.prog e_IsValidCrest := pureE_ok (by unfold isBody; kernel_rfl) (by
  intro a r ob e hob
  split at e
  · rename_i z0 z1 z2 z3
    simp only [Option.some.injEq, Prod.mk.injEq] at e
    obtain ⟨rfl, rfl⟩ := e
    exact c_IsValidCrest (⟨z0, z1, z2, z3⟩ : Crs)
  · simp at e)
theorem c_l22Group (z : Crs)  : Con Tryd.prog 91 [.agg [.lit (.int .i64 (z).k), .lit (.int .i64 (z).a), .lit (.int .i64 (z).t), .lit (.int .i64 (z).r)]] [] (.agg [.lit (.int .i64 (((⟨1, z.k, z.a, z.t⟩ : Grp)).c)), .lit (.int .i64 (((⟨1, z.k, z.a, z.t⟩ : Grp)).k)), .lit (.int .i64 (((⟨1, z.k, z.a, z.t⟩ : Grp)).a)), .lit (.int .i64 (((⟨1, z.k, z.a, z.t⟩ : Grp)).t))]) [] := by
  obtain ⟨z0, z1, z2, z3⟩ := z
  have hB : Base Tryd.prog (tabΓ []) tab := base_of tabOk (ents_nil)
  refine con_eq (N := 10) hB (draw_ok hB mixed) Tryd.func91 rfl rfl _ _ 60 (by simp) (by intro x hx; simp only [List.mem_cons, List.not_mem_nil, or_false] at hx; rcases hx with rfl <;> (first | (first | exact .lit | exact blq_ok 4 rfl) | exact .vec (fun j hj x hx => by simp [vrow] at hx; subst hx; exact .lit))) (by (first | exact .lit | exact blq_ok 4 rfl)) ?_
  intro H hH
  conv in finish _ _ _ _ _ _ _ _ => cbv
  subst hH
  simp only [Fin.sat0, Fin.sat1, stdH, Option.some.injEq, AV.lit.injEq, AV.agg.injEq, AV.tup.injEq, List.cons.injEq, Value.bool.injEq, Value.int.injEq, AllP, and_true, true_and, eq_self, decide_eq_true_eq, decide_eq_false_iff_not, Bool.not_eq_true', Bool.not_eq_false', peta, ncast]
noncomputable def e_l22Group : Entry := pureE 91 fun H a => match a with
  | [.agg [.lit (.int .i64 z0), .lit (.int .i64 z1), .lit (.int .i64 z2), .lit (.int .i64 z3)]] => some (.agg [.lit (.int .i64 (H Int fun _ => (((⟨1, (⟨z0, z1, z2, z3⟩ : Crs).k, (⟨z0, z1, z2, z3⟩ : Crs).a, (⟨z0, z1, z2, z3⟩ : Crs).t⟩ : Grp)).c))), .lit (.int .i64 (H Int fun _ => (((⟨1, (⟨z0, z1, z2, z3⟩ : Crs).k, (⟨z0, z1, z2, z3⟩ : Crs).a, (⟨z0, z1, z2, z3⟩ : Crs).t⟩ : Grp)).k))), .lit (.int .i64 (H Int fun _ => (((⟨1, (⟨z0, z1, z2, z3⟩ : Crs).k, (⟨z0, z1, z2, z3⟩ : Crs).a, (⟨z0, z1, z2, z3⟩ : Crs).t⟩ : Grp)).a))), .lit (.int .i64 (H Int fun _ => (((⟨1, (⟨z0, z1, z2, z3⟩ : Crs).k, (⟨z0, z1, z2, z3⟩ : Crs).a, (⟨z0, z1, z2, z3⟩ : Crs).t⟩ : Grp)).t)))], [])
  | _ => none
theorem eok_l22Group : EntryOk Tryd.prog e_l22Group := pureE_ok (by unfold isBody; kernel_rfl) (by
  intro a r ob e hob
  split at e
  · rename_i z0 z1 z2 z3
    simp only [Option.some.injEq, Prod.mk.injEq] at e
    obtain ⟨rfl, rfl⟩ := e
    exact c_l22Group (⟨z0, z1, z2, z3⟩ : Crs)
  · simp at e)
theorem c_l22Rank (x : Int)  : Con Tryd.prog 66 [.lit (.int .i64 x)] [] (.lit (.bool (inB x 1 5))) [] := by
  have hB : Base Tryd.prog (tabΓ [e_l1In]) tab := base_of tabOk (ents_cons eok_l1In <| ents_nil)
  refine con_eq (N := 5) hB (draw_ok hB mixed) Tryd.func66 rfl rfl _ _ 50 (by simp) (by intro x hx; simp only [List.mem_cons, List.not_mem_nil, or_false] at hx; rcases hx with rfl <;> (first | (first | exact .lit | exact blq_ok 4 rfl) | exact .vec (fun j hj x hx => by simp [vrow] at hx; subst hx; exact .lit))) (by (first | exact .lit | exact blq_ok 4 rfl)) ?_
  intro H hH
  conv in finish _ _ _ _ _ _ _ _ => cbv
  subst hH
  simp only [Fin.sat0, Fin.sat1, stdH, Option.some.injEq, AV.lit.injEq, AV.agg.injEq, AV.tup.injEq, List.cons.injEq, Value.bool.injEq, Value.int.injEq, AllP, and_true, true_and, eq_self, decide_eq_true_eq, decide_eq_false_iff_not, Bool.not_eq_true', Bool.not_eq_false', peta, ncast]
noncomputable def e_l22Rank : Entry := pureE 66 fun H a => match a with
  | [.lit (.int .i64 x)] => some (.lit (.bool (H Bool fun _ => (inB x 1 5))), [])
  | _ => none
theorem eok_l22Rank : EntryOk Tryd.prog e_l22Rank := pureE_ok (by unfold isBody; kernel_rfl) (by
  intro a r ob e hob
  split at e
  · simp only [Option.some.injEq, Prod.mk.injEq] at e
    obtain ⟨rfl, rfl⟩ := e
    exact c_l22Rank _
  · simp at e)
theorem c_l22Good (z : Crs)  : Con Tryd.prog 59 [.agg [.lit (.int .i64 (z).k), .lit (.int .i64 (z).a), .lit (.int .i64 (z).t), .lit (.int .i64 (z).r)]] [] (.lit (.bool (okC z))) [] := by
  obtain ⟨z0, z1, z2, z3⟩ := z
  have hB : Base Tryd.prog (tabΓ [e_l22Group, e_l4Group, e_l22Rank]) tab := base_of tabOk (ents_cons eok_l22Group <| ents_cons eok_l4Group <| ents_cons eok_l22Rank <| ents_nil)
  refine con_eq (N := 11) hB (draw_ok hB mixed) Tryd.func59 rfl rfl _ _ 60 (by simp) (by intro x hx; simp only [List.mem_cons, List.not_mem_nil, or_false] at hx; rcases hx with rfl <;> (first | (first | exact .lit | exact blq_ok 4 rfl) | exact .vec (fun j hj x hx => by simp [vrow] at hx; subst hx; exact .lit))) (by (first | exact .lit | exact blq_ok 4 rfl)) ?_
  intro H hH
  conv in finish _ _ _ _ _ _ _ _ => cbv
  subst hH
  simp only [Fin.sat0, Fin.sat1, stdH, Option.some.injEq, AV.lit.injEq, AV.agg.injEq, AV.tup.injEq, List.cons.injEq, Value.bool.injEq, Value.int.injEq, AllP, and_true, true_and, eq_self, decide_eq_true_eq, decide_eq_false_iff_not, Bool.not_eq_true', Bool.not_eq_false', peta, ncast]
  simp only [okC, bifF]; rfl
noncomputable def e_l22Good : Entry := pureE 59 fun H a => match a with
  | [.agg [.lit (.int .i64 z0), .lit (.int .i64 z1), .lit (.int .i64 z2), .lit (.int .i64 z3)]] => some (.lit (.bool (H Bool fun _ => (okC (⟨z0, z1, z2, z3⟩ : Crs)))), [])
  | _ => none
theorem eok_l22Good : EntryOk Tryd.prog e_l22Good := pureE_ok (by unfold isBody; kernel_rfl) (by
  intro a r ob e hob
  split at e
  · rename_i z0 z1 z2 z3
    simp only [Option.some.injEq, Prod.mk.injEq] at e
    obtain ⟨rfl, rfl⟩ := e
    exact c_l22Good (⟨z0, z1, z2, z3⟩ : Crs)
  · simp at e)
def clsF (x : Int) : Int := if x ≤ 2 then 1 else if x ≤ 7 then 2 else 3
def tinS (a : Arm) : List Int := tinF a.f ++ (if a.o > 0 then [a.t] else []) ++ (if noG a.n then [] else [a.n.t]) ++ (if noG a.r then [] else [a.r.t])
theorem tinS_eq {a : Arm} (h : okA a = true) : tinS a = tinA a := by
  obtain ⟨⟨a0, a1, a2, a3⟩, a4, a5, a6, ⟨a7, a8, a9, a10⟩, ⟨a11, a12, a13, a14⟩⟩ := a
  simp only [okA, Bool.and_eq_true] at h
  obtain ⟨⟨_, hr⟩, ho⟩ := h
  have hg : ∀ g : Grp, (noG g || okG g) = true → (if noG g = true then [] else [g.t]) = nz g.t := by
    intro g hg
    cases hn : noG g
    · rw [hn] at hg
      simp only [Bool.false_or, okG, Bool.and_eq_true, inB, decide_eq_true_eq] at hg
      have e : nz g.t = [g.t] := if_neg (by omega)
      rw [e]; simp
    · simp only [noG, Bool.and_eq_true, decide_eq_true_eq] at hn
      have e : nz g.t = [] := if_pos hn.2
      rw [e]; simp
  simp only [tinS, tinA]
  rw [hg ⟨a11, a12, a13, a14⟩ hr]
  by_cases h0 : a4 = 0
  · rw [if_pos h0] at ho
    simp only [Bool.and_eq_true, decide_eq_true_eq] at ho
    rw [if_neg (by omega), hg ⟨a7, a8, a9, a10⟩ (by rw [ho.2]; rfl), ho.1.2]; rfl
  · rw [if_neg h0] at ho
    simp only [Bool.and_eq_true, inB, decide_eq_true_eq] at ho
    rw [if_pos (by omega), hg ⟨a7, a8, a9, a10⟩ ho.2]
    have : nz a6 = [a6] := if_neg (by omega)
    rw [this]
end Go.Proofs.YtdicfibonfjalaaDoor.AM
