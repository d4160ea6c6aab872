import Derived.Test.YthacffbofjfcjaaTin
import Derived.Test.YthacffbofjfcjaaDrA
import Derived.Test.YthacffbofjfcjaaVB
set_option linter.unusedVariables false
set_option linter.unusedSimpArgs false
set_option maxRecDepth 100000
set_option maxHeartbeats 4000000
set_option cbv.maxSteps 3000000
namespace Go.Proofs.Ythacffbofjfcjaa.AM
/- Crests, classes of tinctures, wreaths; conditions: none. -/
structure Crs where
  k : Int
  a : Int
  t : Int
  r : Int
deriving Inhabited
def okC (c : Crs) : Bool := okG ⟨1, c.k, c.a, c.t⟩ && inB c.r 1 5
theorem c_cgroup (z : Crs)  : Con Try.prog 115 [.agg [.lit (.int .i64 (z).k), .lit (.int .i64 (z).a), .lit (.int .i64 (z).t), .lit (.int .i64 (z).r)]] [] (.agg [.lit (.int .i64 (((⟨1, z.k, z.a, z.t⟩ : Grp)).c)), .lit (.int .i64 (((⟨1, z.k, z.a, z.t⟩ : Grp)).k)), .lit (.int .i64 (((⟨1, z.k, z.a, z.t⟩ : Grp)).a)), .lit (.int .i64 (((⟨1, z.k, z.a, z.t⟩ : Grp)).t))]) [] := by
  obtain ⟨z0, z1, z2, z3⟩ := z
  have hB : Base Try.prog (tabΓ []) tab := base_of tabOk (ents_nil)
  refine con_eq (N := 10) hB (draw_ok hB mixed) Try.func115 rfl rfl _ _ 60 (by simp) (by intro x hx; simp only [List.mem_cons, List.not_mem_nil, or_false] at hx; rcases hx with rfl <;> (first | (first | exact .lit | exact blq_ok 4 rfl) | exact .vec (fun j hj x hx => by simp [vrow] at hx; subst hx; exact .lit))) (by (first | exact .lit | exact blq_ok 4 rfl)) ?_
  intro H hH
  conv in finish _ _ _ _ _ _ _ _ => cbv
  subst hH
  simp only [Fin.sat0, Fin.sat1, stdH, Option.some.injEq, AV.lit.injEq, AV.agg.injEq, AV.tup.injEq, List.cons.injEq, Value.bool.injEq, Value.int.injEq, AllP, and_true, true_and, eq_self, decide_eq_true_eq, decide_eq_false_iff_not, Bool.not_eq_true', Bool.not_eq_false', peta, ncast]
noncomputable def e_cgroup : Entry := pureE 115 fun H a => match a with
  | [.agg [.lit (.int .i64 z0), .lit (.int .i64 z1), .lit (.int .i64 z2), .lit (.int .i64 z3)]] => some (.agg [.lit (.int .i64 (H Int fun _ => (((⟨1, (⟨z0, z1, z2, z3⟩ : Crs).k, (⟨z0, z1, z2, z3⟩ : Crs).a, (⟨z0, z1, z2, z3⟩ : Crs).t⟩ : Grp)).c))), .lit (.int .i64 (H Int fun _ => (((⟨1, (⟨z0, z1, z2, z3⟩ : Crs).k, (⟨z0, z1, z2, z3⟩ : Crs).a, (⟨z0, z1, z2, z3⟩ : Crs).t⟩ : Grp)).k))), .lit (.int .i64 (H Int fun _ => (((⟨1, (⟨z0, z1, z2, z3⟩ : Crs).k, (⟨z0, z1, z2, z3⟩ : Crs).a, (⟨z0, z1, z2, z3⟩ : Crs).t⟩ : Grp)).a))), .lit (.int .i64 (H Int fun _ => (((⟨1, (⟨z0, z1, z2, z3⟩ : Crs).k, (⟨z0, z1, z2, z3⟩ : Crs).a, (⟨z0, z1, z2, z3⟩ : Crs).t⟩ : Grp)).t)))], [])
  | _ => none
theorem eok_cgroup : EntryOk Try.prog e_cgroup := pureE_ok (by unfold isBody; kernel_rfl) (by
  intro a r ob e hob
  split at e
  · rename_i z0 z1 z2 z3
    simp only [Option.some.injEq, Prod.mk.injEq] at e
    obtain ⟨rfl, rfl⟩ := e
    exact c_cgroup (⟨z0, z1, z2, z3⟩ : Crs)
  · simp at e)
theorem c_isRank (x : Int)  : Con Try.prog 116 [.lit (.int .i64 x)] [] (.lit (.bool (inB x 1 5))) [] := by
  have hB : Base Try.prog (tabΓ [e_inside]) tab := base_of tabOk (ents_cons eok_inside <| ents_nil)
  refine con_eq (N := 5) hB (draw_ok hB mixed) Try.func116 rfl rfl _ _ 50 (by simp) (by intro x hx; simp only [List.mem_cons, List.not_mem_nil, or_false] at hx; rcases hx with rfl <;> (first | (first | exact .lit | exact blq_ok 4 rfl) | exact .vec (fun j hj x hx => by simp [vrow] at hx; subst hx; exact .lit))) (by (first | exact .lit | exact blq_ok 4 rfl)) ?_
  intro H hH
  conv in finish _ _ _ _ _ _ _ _ => cbv
  subst hH
  simp only [Fin.sat0, Fin.sat1, stdH, Option.some.injEq, AV.lit.injEq, AV.agg.injEq, AV.tup.injEq, List.cons.injEq, Value.bool.injEq, Value.int.injEq, AllP, and_true, true_and, eq_self, decide_eq_true_eq, decide_eq_false_iff_not, Bool.not_eq_true', Bool.not_eq_false', peta, ncast]
noncomputable def e_isRank : Entry := pureE 116 fun H a => match a with
  | [.lit (.int .i64 x)] => some (.lit (.bool (H Bool fun _ => (inB x 1 5))), [])
  | _ => none
theorem eok_isRank : EntryOk Try.prog e_isRank := pureE_ok (by unfold isBody; kernel_rfl) (by
  intro a r ob e hob
  split at e
  · simp only [Option.some.injEq, Prod.mk.injEq] at e
    obtain ⟨rfl, rfl⟩ := e
    exact c_isRank _
  · simp at e)
theorem c_IsValidCrest (z : Crs)  : Con Try.prog 92 [.agg [.lit (.int .i64 (z).k), .lit (.int .i64 (z).a), .lit (.int .i64 (z).t), .lit (.int .i64 (z).r)]] [] (.lit (.bool (okC z))) [] := by
  obtain ⟨z0, z1, z2, z3⟩ := z
  have hB : Base Try.prog (tabΓ [e_cgroup, e_IsValidGroup, e_isRank]) tab := base_of tabOk (ents_cons eok_cgroup <| ents_cons eok_IsValidGroup <| ents_cons eok_isRank <| ents_nil)
  refine con_eq (N := 11) hB (draw_ok hB mixed) Try.func92 rfl rfl _ _ 60 (by simp) (by intro x hx; simp only [List.mem_cons, List.not_mem_nil, or_false] at hx; rcases hx with rfl <;> (first | (first | exact .lit | exact blq_ok 4 rfl) | exact .vec (fun j hj x hx => by simp [vrow] at hx; subst hx; exact .lit))) (by (first | exact .lit | exact blq_ok 4 rfl)) ?_
  intro H hH
  conv in finish _ _ _ _ _ _ _ _ => cbv
  subst hH
  simp only [Fin.sat0, Fin.sat1, stdH, Option.some.injEq, AV.lit.injEq, AV.agg.injEq, AV.tup.injEq, List.cons.injEq, Value.bool.injEq, Value.int.injEq, AllP, and_true, true_and, eq_self, decide_eq_true_eq, decide_eq_false_iff_not, Bool.not_eq_true', Bool.not_eq_false', peta, ncast]
  simp only [okC, bifF]
noncomputable def e_IsValidCrest : Entry := pureE 92 fun H a => match a with
  | [.agg [.lit (.int .i64 z0), .lit (.int .i64 z1), .lit (.int .i64 z2), .lit (.int .i64 z3)]] => some (.lit (.bool (H Bool fun _ => (okC (⟨z0, z1, z2, z3⟩ : Crs)))), [])
  | _ => none
theorem eok_IsValidCrest : EntryOk Try.prog e_IsValidCrest := pureE_ok (by unfold isBody; kernel_rfl) (by
  intro a r ob e hob
  split at e
  · rename_i z0 z1 z2 z3
    simp only [Option.some.injEq, Prod.mk.injEq] at e
    obtain ⟨rfl, rfl⟩ := e
    exact c_IsValidCrest (⟨z0, z1, z2, z3⟩ : Crs)
  · simp at e)
theorem c_l22Group (z : Crs)  : Con Try.prog 117 [.agg [.lit (.int .i64 (z).k), .lit (.int .i64 (z).a), .lit (.int .i64 (z).t), .lit (.int .i64 (z).r)]] [] (.agg [.lit (.int .i64 (((⟨1, z.k, z.a, z.t⟩ : Grp)).c)), .lit (.int .i64 (((⟨1, z.k, z.a, z.t⟩ : Grp)).k)), .lit (.int .i64 (((⟨1, z.k, z.a, z.t⟩ : Grp)).a)), .lit (.int .i64 (((⟨1, z.k, z.a, z.t⟩ : Grp)).t))]) [] := by
  obtain ⟨z0, z1, z2, z3⟩ := z
  have hB : Base Try.prog (tabΓ []) tab := base_of tabOk (ents_nil)
  refine con_eq (N := 10) hB (draw_ok hB mixed) Try.func117 rfl rfl _ _ 60 (by simp) (by intro x hx; simp only [List.mem_cons, List.not_mem_nil, or_false] at hx; rcases hx with rfl <;> (first | (first | exact .lit | exact blq_ok 4 rfl) | exact .vec (fun j hj x hx => by simp [vrow] at hx; subst hx; exact .lit))) (by (first | exact .lit | exact blq_ok 4 rfl)) ?_
  intro H hH
  conv in finish _ _ _ _ _ _ _ _ => cbv
  subst hH
  simp only [Fin.sat0, Fin.sat1, stdH, Option.some.injEq, AV.lit.injEq, AV.agg.injEq, AV.tup.injEq, List.cons.injEq, Value.bool.injEq, Value.int.injEq, AllP, and_true, true_and, eq_self, decide_eq_true_eq, decide_eq_false_iff_not, Bool.not_eq_true', Bool.not_eq_false', peta, ncast]
noncomputable def e_l22Group : Entry := pureE 117 fun H a => match a with
  | [.agg [.lit (.int .i64 z0), .lit (.int .i64 z1), .lit (.int .i64 z2), .lit (.int .i64 z3)]] => some (.agg [.lit (.int .i64 (H Int fun _ => (((⟨1, (⟨z0, z1, z2, z3⟩ : Crs).k, (⟨z0, z1, z2, z3⟩ : Crs).a, (⟨z0, z1, z2, z3⟩ : Crs).t⟩ : Grp)).c))), .lit (.int .i64 (H Int fun _ => (((⟨1, (⟨z0, z1, z2, z3⟩ : Crs).k, (⟨z0, z1, z2, z3⟩ : Crs).a, (⟨z0, z1, z2, z3⟩ : Crs).t⟩ : Grp)).k))), .lit (.int .i64 (H Int fun _ => (((⟨1, (⟨z0, z1, z2, z3⟩ : Crs).k, (⟨z0, z1, z2, z3⟩ : Crs).a, (⟨z0, z1, z2, z3⟩ : Crs).t⟩ : Grp)).a))), .lit (.int .i64 (H Int fun _ => (((⟨1, (⟨z0, z1, z2, z3⟩ : Crs).k, (⟨z0, z1, z2, z3⟩ : Crs).a, (⟨z0, z1, z2, z3⟩ : Crs).t⟩ : Grp)).t)))], [])
  | _ => none
theorem eok_l22Group : EntryOk Try.prog e_l22Group := pureE_ok (by unfold isBody; kernel_rfl) (by
  intro a r ob e hob
  split at e
  · rename_i z0 z1 z2 z3
    simp only [Option.some.injEq, Prod.mk.injEq] at e
    obtain ⟨rfl, rfl⟩ := e
    exact c_l22Group (⟨z0, z1, z2, z3⟩ : Crs)
  · simp at e)
theorem c_l22Rank (x : Int)  : Con Try.prog 118 [.lit (.int .i64 x)] [] (.lit (.bool (inB x 1 5))) [] := by
  have hB : Base Try.prog (tabΓ [e_l1In]) tab := base_of tabOk (ents_cons eok_l1In <| ents_nil)
  refine con_eq (N := 5) hB (draw_ok hB mixed) Try.func118 rfl rfl _ _ 50 (by simp) (by intro x hx; simp only [List.mem_cons, List.not_mem_nil, or_false] at hx; rcases hx with rfl <;> (first | (first | exact .lit | exact blq_ok 4 rfl) | exact .vec (fun j hj x hx => by simp [vrow] at hx; subst hx; exact .lit))) (by (first | exact .lit | exact blq_ok 4 rfl)) ?_
  intro H hH
  conv in finish _ _ _ _ _ _ _ _ => cbv
  subst hH
  simp only [Fin.sat0, Fin.sat1, stdH, Option.some.injEq, AV.lit.injEq, AV.agg.injEq, AV.tup.injEq, List.cons.injEq, Value.bool.injEq, Value.int.injEq, AllP, and_true, true_and, eq_self, decide_eq_true_eq, decide_eq_false_iff_not, Bool.not_eq_true', Bool.not_eq_false', peta, ncast]
noncomputable def e_l22Rank : Entry := pureE 118 fun H a => match a with
  | [.lit (.int .i64 x)] => some (.lit (.bool (H Bool fun _ => (inB x 1 5))), [])
  | _ => none
theorem eok_l22Rank : EntryOk Try.prog e_l22Rank := pureE_ok (by unfold isBody; kernel_rfl) (by
  intro a r ob e hob
  split at e
  · simp only [Option.some.injEq, Prod.mk.injEq] at e
    obtain ⟨rfl, rfl⟩ := e
    exact c_l22Rank _
  · simp at e)
theorem c_l22Good (z : Crs)  : Con Try.prog 93 [.agg [.lit (.int .i64 (z).k), .lit (.int .i64 (z).a), .lit (.int .i64 (z).t), .lit (.int .i64 (z).r)]] [] (.lit (.bool (okC z))) [] := by
  obtain ⟨z0, z1, z2, z3⟩ := z
  have hB : Base Try.prog (tabΓ [e_l22Group, e_l4Group, e_l22Rank]) tab := base_of tabOk (ents_cons eok_l22Group <| ents_cons eok_l4Group <| ents_cons eok_l22Rank <| ents_nil)
  refine con_eq (N := 11) hB (draw_ok hB mixed) Try.func93 rfl rfl _ _ 60 (by simp) (by intro x hx; simp only [List.mem_cons, List.not_mem_nil, or_false] at hx; rcases hx with rfl <;> (first | (first | exact .lit | exact blq_ok 4 rfl) | exact .vec (fun j hj x hx => by simp [vrow] at hx; subst hx; exact .lit))) (by (first | exact .lit | exact blq_ok 4 rfl)) ?_
  intro H hH
  conv in finish _ _ _ _ _ _ _ _ => cbv
  subst hH
  simp only [Fin.sat0, Fin.sat1, stdH, Option.some.injEq, AV.lit.injEq, AV.agg.injEq, AV.tup.injEq, List.cons.injEq, Value.bool.injEq, Value.int.injEq, AllP, and_true, true_and, eq_self, decide_eq_true_eq, decide_eq_false_iff_not, Bool.not_eq_true', Bool.not_eq_false', peta, ncast]
  simp only [okC, bifF]; rfl
noncomputable def e_l22Good : Entry := pureE 93 fun H a => match a with
  | [.agg [.lit (.int .i64 z0), .lit (.int .i64 z1), .lit (.int .i64 z2), .lit (.int .i64 z3)]] => some (.lit (.bool (H Bool fun _ => (okC (⟨z0, z1, z2, z3⟩ : Crs)))), [])
  | _ => none
theorem eok_l22Good : EntryOk Try.prog e_l22Good := pureE_ok (by unfold isBody; kernel_rfl) (by
  intro a r ob e hob
  split at e
  · rename_i z0 z1 z2 z3
    simp only [Option.some.injEq, Prod.mk.injEq] at e
    obtain ⟨rfl, rfl⟩ := e
    exact c_l22Good (⟨z0, z1, z2, z3⟩ : Crs)
  · simp at e)
def clsF (x : Int) : Int := if x ≤ 2 then 1 else if x ≤ 7 then 2 else 3
theorem c_class (x : Int)  : Con Try.prog 88 [.lit (.int .i64 x)] [] (.lit (.int .i64 (clsF x))) [] := by
  have hB : Base Try.prog (tabΓ []) tab := base_of tabOk (ents_nil)
  refine con_eq (N := 9) hB (draw_ok hB mixed) Try.func88 rfl rfl _ _ 60 (by simp) (by intro x hx; simp only [List.mem_cons, List.not_mem_nil, or_false] at hx; rcases hx with rfl <;> (first | (first | exact .lit | exact blq_ok 4 rfl) | exact .vec (fun j hj x hx => by simp [vrow] at hx; subst hx; exact .lit))) (by (first | exact .lit | exact blq_ok 4 rfl)) ?_
  intro H hH
  conv in finish _ _ _ _ _ _ _ _ => cbv
  subst hH
  simp only [Fin.sat0, Fin.sat1, stdH, Option.some.injEq, AV.lit.injEq, AV.agg.injEq, AV.tup.injEq, List.cons.injEq, Value.bool.injEq, Value.int.injEq, AllP, and_true, true_and, eq_self, decide_eq_true_eq, decide_eq_false_iff_not, Bool.not_eq_true', Bool.not_eq_false', peta, ncast]
  unfold clsF
  refine ⟨fun h => ?_, fun h => ⟨fun h' => ?_, fun h' => ?_⟩⟩
  · rw [if_pos h]
  · rw [if_neg (by omega), if_pos h']
  · rw [if_neg (by omega), if_neg (by omega)]
noncomputable def e_class : Entry := pureE 88 fun H a => match a with
  | [.lit (.int .i64 x)] => some (.lit (.int .i64 (H Int fun _ => (clsF x))), [])
  | _ => none
theorem eok_class : EntryOk Try.prog e_class := pureE_ok (by unfold isBody; kernel_rfl) (by
  intro a r ob e hob
  split at e
  · simp only [Option.some.injEq, Prod.mk.injEq] at e
    obtain ⟨rfl, rfl⟩ := e
    exact c_class _
  · simp at e)
theorem c_l2Class (x : Int)  : Con Try.prog 114 [.lit (.int .i64 x)] [] (.lit (.int .i64 (clsF x))) [] := by
  have hB : Base Try.prog (tabΓ []) tab := base_of tabOk (ents_nil)
  refine con_eq (N := 9) hB (draw_ok hB mixed) Try.func114 rfl rfl _ _ 60 (by simp) (by intro x hx; simp only [List.mem_cons, List.not_mem_nil, or_false] at hx; rcases hx with rfl <;> (first | (first | exact .lit | exact blq_ok 4 rfl) | exact .vec (fun j hj x hx => by simp [vrow] at hx; subst hx; exact .lit))) (by (first | exact .lit | exact blq_ok 4 rfl)) ?_
  intro H hH
  conv in finish _ _ _ _ _ _ _ _ => cbv
  subst hH
  simp only [Fin.sat0, Fin.sat1, stdH, Option.some.injEq, AV.lit.injEq, AV.agg.injEq, AV.tup.injEq, List.cons.injEq, Value.bool.injEq, Value.int.injEq, AllP, and_true, true_and, eq_self, decide_eq_true_eq, decide_eq_false_iff_not, Bool.not_eq_true', Bool.not_eq_false', peta, ncast]
  unfold clsF
  refine ⟨fun h => ?_, fun h => ⟨fun h' => ?_, fun h' => ?_⟩⟩
  · rw [if_pos h]
  · rw [if_neg (by omega), if_pos h']
  · rw [if_neg (by omega), if_neg (by omega)]
noncomputable def e_l2Class : Entry := pureE 114 fun H a => match a with
  | [.lit (.int .i64 x)] => some (.lit (.int .i64 (H Int fun _ => (clsF x))), [])
  | _ => none
theorem eok_l2Class : EntryOk Try.prog e_l2Class := pureE_ok (by unfold isBody; kernel_rfl) (by
  intro a r ob e hob
  split at e
  · simp only [Option.some.injEq, Prod.mk.injEq] at e
    obtain ⟨rfl, rfl⟩ := e
    exact c_l2Class _
  · simp at e)
theorem c_ClassOf (x : Int)  : Con Try.prog 44 [.lit (.int .i64 x)] [] (.tup [.lit (.int .i64 (if inB x 1 9 then clsF x else 0)), .lit (.bool (inB x 1 9))]) [] := by
  have hB : Base Try.prog (tabΓ [e_IsTincture, e_class]) tab := base_of tabOk (ents_cons eok_IsTincture <| ents_cons eok_class <| ents_nil)
  refine con_eq (N := 9) hB (draw_ok hB mixed) Try.func44 rfl rfl _ _ 60 (by simp) (by intro x hx; simp only [List.mem_cons, List.not_mem_nil, or_false] at hx; rcases hx with rfl <;> (first | (first | exact .lit | exact blq_ok 4 rfl) | exact .vec (fun j hj x hx => by simp [vrow] at hx; subst hx; exact .lit))) (by (first | exact .lit | exact blq_ok 4 rfl)) ?_
  intro H hH
  conv in finish _ _ _ _ _ _ _ _ => cbv
  subst hH
  simp only [Fin.sat0, Fin.sat1, stdH, Option.some.injEq, AV.lit.injEq, AV.agg.injEq, AV.tup.injEq, List.cons.injEq, Value.bool.injEq, Value.int.injEq, AllP, and_true, true_and, eq_self, decide_eq_true_eq, decide_eq_false_iff_not, Bool.not_eq_true', Bool.not_eq_false', peta, ncast]
  cases inB x 1 9 <;> simp
noncomputable def e_ClassOf : Entry := pureE 44 fun H a => match a with
  | [.lit (.int .i64 x)] => some (.tup [.lit (.int .i64 (H Int fun _ => (if inB x 1 9 then clsF x else 0))), .lit (.bool (H Bool fun _ => (inB x 1 9)))], [])
  | _ => none
theorem eok_ClassOf : EntryOk Try.prog e_ClassOf := pureE_ok (by unfold isBody; kernel_rfl) (by
  intro a r ob e hob
  split at e
  · simp only [Option.some.injEq, Prod.mk.injEq] at e
    obtain ⟨rfl, rfl⟩ := e
    exact c_ClassOf _
  · simp at e)
theorem c_tinFS (f : Fld) : Con Try.prog 123 [.agg [.lit (.int .i64 f.d), .lit (.int .i64 f.l), .lit (.int .i64 f.p), .lit (.int .i64 f.q)]] [] (LF (tinF f)) [] := by
  obtain ⟨f0, f1, f2, f3⟩ := f
  have hB : Base Try.prog (tabΓ []) tab := base_of tabOk (ents_nil)
  refine con_eqF (N := 14) hB (draw_ok hB mixed) Try.func123 rfl rfl _ _ 60 (by simp) (by intro x hx; simp only [List.mem_cons, List.not_mem_nil, or_false] at hx; subst hx; exact blq_ok 4 rfl) (vrow_blf _ _ _ _) ?_
  intro H hH
  conv in finish _ _ _ _ _ _ _ _ => cbv
  subst hH
  simp only [Fin.satF, stdH, beq_iff_eq, beq_eq_false_iff_ne, ne_eq, tinF]
  exact ⟨fun h => ⟨_, rfl, by rw [if_pos h]; exact frz_lit1 _⟩, fun h => ⟨_, rfl, by rw [if_neg h]; exact frz_lit2 _ _⟩⟩
def e_tinFS : Entry := pureE 123 fun H a => match a with
  | [.agg [.lit (.int .i64 f0), .lit (.int .i64 f1), .lit (.int .i64 f2), .lit (.int .i64 f3)]] => some (.ful 1 (H Nat fun _ => (tinF ⟨f0, f1, f2, f3⟩).length) (H (Nat → List AV) fun _ => vrow (lget (tinF ⟨f0, f1, f2, f3⟩))), [])
  | _ => none
theorem eok_tinFS : EntryOk Try.prog e_tinFS := pureE_ok (by unfold isBody; kernel_rfl) (by
  intro a r ob e hob
  split at e
  · rename_i f0 f1 f2 f3
    simp only [Option.some.injEq, Prod.mk.injEq] at e
    obtain ⟨rfl, rfl⟩ := e
    exact c_tinFS ⟨f0, f1, f2, f3⟩
  · simp at e)
def tinS (a : Arm) : List Int := tinF a.f ++ (if a.o > 0 then [a.t] else []) ++ (if noG a.n then [] else [a.n.t]) ++ (if noG a.r then [] else [a.r.t])
theorem tinS_eq {a : Arm} (h : okA a = true) : tinS a = tinA a := by
  obtain ⟨⟨a0, a1, a2, a3⟩, a4, a5, a6, ⟨a7, a8, a9, a10⟩, ⟨a11, a12, a13, a14⟩⟩ := a
  simp only [okA, Bool.and_eq_true] at h
  obtain ⟨⟨_, hr⟩, ho⟩ := h
  have hg : ∀ g : Grp, (noG g || okG g) = true → (if noG g = true then [] else [g.t]) = nz g.t := by
    intro g hg
    cases hn : noG g
    · rw [hn] at hg
      simp only [Bool.false_or, okG, Bool.and_eq_true, inB, decide_eq_true_eq] at hg
      have e : nz g.t = [g.t] := if_neg (by omega)
      rw [e]; simp
    · simp only [noG, Bool.and_eq_true, decide_eq_true_eq] at hn
      have e : nz g.t = [] := if_pos hn.2
      rw [e]; simp
  simp only [tinS, tinA]
  rw [hg ⟨a11, a12, a13, a14⟩ hr]
  by_cases h0 : a4 = 0
  · rw [if_pos h0] at ho
    simp only [Bool.and_eq_true, decide_eq_true_eq] at ho
    rw [if_neg (by omega), hg ⟨a7, a8, a9, a10⟩ (by rw [ho.2]; rfl), ho.1.2]; rfl
  · rw [if_neg h0] at ho
    simp only [Bool.and_eq_true, inB, decide_eq_true_eq] at ho
    rw [if_pos (by omega), hg ⟨a7, a8, a9, a10⟩ ho.2]
    have : nz a6 = [a6] := if_neg (by omega)
    rw [this]
theorem c_tinS (a : Arm) : Con Try.prog 113 [.agg [.lit (.int .i64 (a).f.d), .lit (.int .i64 (a).f.l), .lit (.int .i64 (a).f.p), .lit (.int .i64 (a).f.q), .lit (.int .i64 (a).o), .lit (.int .i64 (a).l), .lit (.int .i64 (a).t), .lit (.int .i64 (a).n.c), .lit (.int .i64 (a).n.k), .lit (.int .i64 (a).n.a), .lit (.int .i64 (a).n.t), .lit (.int .i64 (a).r.c), .lit (.int .i64 (a).r.k), .lit (.int .i64 (a).r.a), .lit (.int .i64 (a).r.t)]] [] (LV (tinS a)) [] := by
  obtain ⟨⟨a0, a1, a2, a3⟩, a4, a5, a6, ⟨a7, a8, a9, a10⟩, ⟨a11, a12, a13, a14⟩⟩ := a
  have hB : Base Try.prog (tabΓ [e_tinFS, e_l4None]) tab := base_of tabOk (ents_cons eok_tinFS <| ents_cons eok_l4None <| ents_nil)
  refine con_eqF (N := 36) hB (draw_ok hB mixed) Try.func113 rfl rfl _ _ 150 (by simp) (by intro x hx; simp only [List.mem_cons, List.not_mem_nil, or_false] at hx; subst hx; exact blq_ok 4 rfl) (vrow_bl _ _ _ _) ?_
  intro H hH
  conv in finish _ _ _ _ _ _ _ _ => cbv
  subst hH
  simp only [Fin.satF, stdH, decide_eq_true_eq, decide_eq_false_iff_not, Bool.not_eq_true', Bool.not_eq_false']
  have hl : (tinF ⟨a0, a1, a2, a3⟩).length ≤ 2 := by unfold tinF; split <;> simp
  repeat' (first | refine ⟨(⟨by omega, trivial⟩ : AllP [_]), ?_⟩ | refine ⟨(⟨by first | omega | trivial, by omega, trivial⟩ : AllP [_, _]), ?_⟩ | (apply And.intro <;> intro h))
  all_goals
    refine ⟨_, rfl, ?_⟩
    simp only [tinS, List.append_nil, if_true, if_false, Bool.false_eq_true, *]
    first | exact frz_gro (gro_snoc (gro_snoc (gro_snoc (gro0 _) _) _) _) rfl (Nat.zero_le _) | exact frz_gro (gro_snoc (gro_snoc (gro0 _) _) _) rfl (Nat.zero_le _) | exact frz_gro (gro_snoc (gro0 _) _) rfl (Nat.zero_le _) | exact frz_ful _ rfl (fun _ _ => rfl)
noncomputable def e_tinS : Entry := pureE 113 fun H a => match a with
  | [.agg [.lit (.int .i64 a0), .lit (.int .i64 a1), .lit (.int .i64 a2), .lit (.int .i64 a3), .lit (.int .i64 a4), .lit (.int .i64 a5), .lit (.int .i64 a6), .lit (.int .i64 a7), .lit (.int .i64 a8), .lit (.int .i64 a9), .lit (.int .i64 a10), .lit (.int .i64 a11), .lit (.int .i64 a12), .lit (.int .i64 a13), .lit (.int .i64 a14)]] => some (.vec 1 (H Nat fun _ => (tinS ⟨⟨a0, a1, a2, a3⟩, a4, a5, a6, ⟨a7, a8, a9, a10⟩, ⟨a11, a12, a13, a14⟩⟩).length) (vrow (H (Nat → Int) fun _ => lget (tinS ⟨⟨a0, a1, a2, a3⟩, a4, a5, a6, ⟨a7, a8, a9, a10⟩, ⟨a11, a12, a13, a14⟩⟩))), [])
  | _ => none
theorem eok_tinS : EntryOk Try.prog e_tinS := pureE_ok (by unfold isBody; kernel_rfl) (by
  intro a r ob e hob
  split at e
  · rename_i a0 a1 a2 a3 a4 a5 a6 a7 a8 a9 a10 a11 a12 a13 a14
    simp only [Option.some.injEq, Prod.mk.injEq] at e
    obtain ⟨rfl, rfl⟩ := e
    exact c_tinS ⟨⟨a0, a1, a2, a3⟩, a4, a5, a6, ⟨a7, a8, a9, a10⟩, ⟨a11, a12, a13, a14⟩⟩
  · simp at e)

end Go.Proofs.Ythacffbofjfcjaa.AM
