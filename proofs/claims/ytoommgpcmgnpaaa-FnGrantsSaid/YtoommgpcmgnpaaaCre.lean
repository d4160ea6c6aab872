import Derived.Test.YtoommgpcmgnpaaaTin
import Derived.Test.YtoommgpcmgnpaaaDrA
import Derived.Test.YtoommgpcmgnpaaaVB
set_option linter.unusedVariables false
set_option linter.unusedSimpArgs false
set_option maxRecDepth 100000
set_option maxHeartbeats 4000000
set_option cbv.maxSteps 3000000
namespace Go.Proofs.Ytoommgpcmgnpaaa.AM
/- Crests, classes of tinctures, wreaths; conditions: none. -/
structure Crs where
  k : Int
  a : Int
  t : Int
  r : Int
deriving Inhabited
def okC (c : Crs) : Bool := okG ⟨1, c.k, c.a, c.t⟩ && inB c.r 1 5
def clsF (x : Int) : Int := if x ≤ 2 then 1 else if x ≤ 7 then 2 else 3
theorem c_class (x : Int)  : Con Try.prog 97 [.lit (.int .i64 x)] [] (.lit (.int .i64 (clsF x))) [] := by
  have hB : Base Try.prog (tabΓ []) tab := base_of tabOk (ents_nil)
  refine con_eq (N := 9) hB (draw_ok hB mixed) Try.func97 rfl rfl _ _ 60 (by simp) (by intro x hx; simp only [List.mem_cons, List.not_mem_nil, or_false] at hx; rcases hx with rfl <;> (first | (first | exact .lit | exact blq_ok 4 rfl) | exact .vec (fun j hj x hx => by simp [vrow] at hx; subst hx; exact .lit))) (by (first | exact .lit | exact blq_ok 4 rfl)) ?_
  intro H hH
  conv in finish _ _ _ _ _ _ _ _ => cbv
  subst hH
  simp only [Fin.sat0, Fin.sat1, stdH, Option.some.injEq, AV.lit.injEq, AV.agg.injEq, AV.tup.injEq, List.cons.injEq, Value.bool.injEq, Value.int.injEq, AllP, and_true, true_and, eq_self, decide_eq_true_eq, decide_eq_false_iff_not, Bool.not_eq_true', Bool.not_eq_false', peta, ncast]
  unfold clsF
  refine ⟨fun h => ?_, fun h => ⟨fun h' => ?_, fun h' => ?_⟩⟩
  · rw [if_pos h]
  · rw [if_neg (by omega), if_pos h']
  · rw [if_neg (by omega), if_neg (by omega)]
noncomputable def e_class : Entry := pureE 97 fun H a => match a with
  | [.lit (.int .i64 x)] => some (.lit (.int .i64 (H Int fun _ => (clsF x))), [])
  | _ => none
theorem eok_class : EntryOk Try.prog e_class := pureE_ok (by unfold isBody; kernel_rfl) (by
  intro a r ob e hob
  split at e
  · simp only [Option.some.injEq, Prod.mk.injEq] at e
    obtain ⟨rfl, rfl⟩ := e
    exact c_class _
  · simp at e)
theorem c_l2Class (x : Int)  : Con Try.prog 101 [.lit (.int .i64 x)] [] (.lit (.int .i64 (clsF x))) [] := by
  have hB : Base Try.prog (tabΓ []) tab := base_of tabOk (ents_nil)
  refine con_eq (N := 9) hB (draw_ok hB mixed) Try.func101 rfl rfl _ _ 60 (by simp) (by intro x hx; simp only [List.mem_cons, List.not_mem_nil, or_false] at hx; rcases hx with rfl <;> (first | (first | exact .lit | exact blq_ok 4 rfl) | exact .vec (fun j hj x hx => by simp [vrow] at hx; subst hx; exact .lit))) (by (first | exact .lit | exact blq_ok 4 rfl)) ?_
  intro H hH
  conv in finish _ _ _ _ _ _ _ _ => cbv
  subst hH
  simp only [Fin.sat0, Fin.sat1, stdH, Option.some.injEq, AV.lit.injEq, AV.agg.injEq, AV.tup.injEq, List.cons.injEq, Value.bool.injEq, Value.int.injEq, AllP, and_true, true_and, eq_self, decide_eq_true_eq, decide_eq_false_iff_not, Bool.not_eq_true', Bool.not_eq_false', peta, ncast]
  unfold clsF
  refine ⟨fun h => ?_, fun h => ⟨fun h' => ?_, fun h' => ?_⟩⟩
  · rw [if_pos h]
  · rw [if_neg (by omega), if_pos h']
  · rw [if_neg (by omega), if_neg (by omega)]
noncomputable def e_l2Class : Entry := pureE 101 fun H a => match a with
  | [.lit (.int .i64 x)] => some (.lit (.int .i64 (H Int fun _ => (clsF x))), [])
  | _ => none
theorem eok_l2Class : EntryOk Try.prog e_l2Class := pureE_ok (by unfold isBody; kernel_rfl) (by
  intro a r ob e hob
  split at e
  · simp only [Option.some.injEq, Prod.mk.injEq] at e
    obtain ⟨rfl, rfl⟩ := e
    exact c_l2Class _
  · simp at e)
theorem c_tinFS (f : Fld) : Con Try.prog 100 [.agg [.lit (.int .i64 f.d), .lit (.int .i64 f.l), .lit (.int .i64 f.p), .lit (.int .i64 f.q)]] [] (LF (tinF f)) [] := by
  obtain ⟨f0, f1, f2, f3⟩ := f
  have hB : Base Try.prog (tabΓ []) tab := base_of tabOk (ents_nil)
  refine con_eqF (N := 14) hB (draw_ok hB mixed) Try.func100 rfl rfl _ _ 60 (by simp) (by intro x hx; simp only [List.mem_cons, List.not_mem_nil, or_false] at hx; subst hx; exact blq_ok 4 rfl) (vrow_blf _ _ _ _) ?_
  intro H hH
  conv in finish _ _ _ _ _ _ _ _ => cbv
  subst hH
  simp only [Fin.satF, stdH, beq_iff_eq, beq_eq_false_iff_ne, ne_eq, tinF]
  exact ⟨fun h => ⟨_, rfl, by rw [if_pos h]; exact frz_lit1 _⟩, fun h => ⟨_, rfl, by rw [if_neg h]; exact frz_lit2 _ _⟩⟩
def e_tinFS : Entry := pureE 100 fun H a => match a with
  | [.agg [.lit (.int .i64 f0), .lit (.int .i64 f1), .lit (.int .i64 f2), .lit (.int .i64 f3)]] => some (.ful 1 (H Nat fun _ => (tinF ⟨f0, f1, f2, f3⟩).length) (H (Nat → List AV) fun _ => vrow (lget (tinF ⟨f0, f1, f2, f3⟩))), [])
  | _ => none
theorem eok_tinFS : EntryOk Try.prog e_tinFS := pureE_ok (by unfold isBody; kernel_rfl) (by
  intro a r ob e hob
  split at e
  · rename_i f0 f1 f2 f3
    simp only [Option.some.injEq, Prod.mk.injEq] at e
    obtain ⟨rfl, rfl⟩ := e
    exact c_tinFS ⟨f0, f1, f2, f3⟩
  · simp at e)
def tinS (a : Arm) : List Int := tinF a.f ++ (if a.o > 0 then [a.t] else []) ++ (if noG a.n then [] else [a.n.t]) ++ (if noG a.r then [] else [a.r.t])
theorem tinS_eq {a : Arm} (h : okA a = true) : tinS a = tinA a := by
  obtain ⟨⟨a0, a1, a2, a3⟩, a4, a5, a6, ⟨a7, a8, a9, a10⟩, ⟨a11, a12, a13, a14⟩⟩ := a
  simp only [okA, Bool.and_eq_true] at h
  obtain ⟨⟨_, hr⟩, ho⟩ := h
  have hg : ∀ g : Grp, (noG g || okG g) = true → (if noG g = true then [] else [g.t]) = nz g.t := by
    intro g hg
    cases hn : noG g
    · rw [hn] at hg
      simp only [Bool.false_or, okG, Bool.and_eq_true, inB, decide_eq_true_eq] at hg
      have e : nz g.t = [g.t] := if_neg (by omega)
      rw [e]; simp
    · simp only [noG, Bool.and_eq_true, decide_eq_true_eq] at hn
      have e : nz g.t = [] := if_pos hn.2
      rw [e]; simp
  simp only [tinS, tinA]
  rw [hg ⟨a11, a12, a13, a14⟩ hr]
  by_cases h0 : a4 = 0
  · rw [if_pos h0] at ho
    simp only [Bool.and_eq_true, decide_eq_true_eq] at ho
    rw [if_neg (by omega), hg ⟨a7, a8, a9, a10⟩ (by rw [ho.2]; rfl), ho.1.2]; rfl
  · rw [if_neg h0] at ho
    simp only [Bool.and_eq_true, inB, decide_eq_true_eq] at ho
    rw [if_pos (by omega), hg ⟨a7, a8, a9, a10⟩ ho.2]
    have : nz a6 = [a6] := if_neg (by omega)
    rw [this]
end Go.Proofs.Ytoommgpcmgnpaaa.AM
