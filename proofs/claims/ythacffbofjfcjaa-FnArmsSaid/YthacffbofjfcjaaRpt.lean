import Derived.Test.YthacffbofjfcjaaRep
set_option linter.unusedVariables false
set_option linter.unusedSimpArgs false
set_option maxRecDepth 100000
set_option maxHeartbeats 4000000
set_option cbv.maxSteps 3000000
namespace Go.Proofs.Ythacffbofjfcjaa.AM
/- Tinctures replaced: the program and the reference; conditions: none. -/
noncomputable def e_mapR : Entry := ⟨65, fun H a h => match a with
  | [.agg [.lit (.int .i64 a0), .lit (.int .i64 a1), .lit (.int .i64 a2), .lit (.int .i64 a3), .lit (.int .i64 a4), .lit (.int .i64 a5), .lit (.int .i64 a6), .lit (.int .i64 a7), .lit (.int .i64 a8), .lit (.int .i64 a9), .lit (.int .i64 a10), .lit (.int .i64 a11), .lit (.int .i64 a12), .lit (.int .i64 a13), .lit (.int .i64 a14)], .fn (.func 66) [] [.ptr i 0, .ptr j 0]] => capt h i j fun o x => (.agg [.lit (.int .i64 (H Int fun _ => (mapF (chg o x) ⟨⟨a0, a1, a2, a3⟩, a4, a5, a6, ⟨a7, a8, a9, a10⟩, ⟨a11, a12, a13, a14⟩⟩).f.d)), .lit (.int .i64 (H Int fun _ => (mapF (chg o x) ⟨⟨a0, a1, a2, a3⟩, a4, a5, a6, ⟨a7, a8, a9, a10⟩, ⟨a11, a12, a13, a14⟩⟩).f.l)), .lit (.int .i64 (H Int fun _ => (mapF (chg o x) ⟨⟨a0, a1, a2, a3⟩, a4, a5, a6, ⟨a7, a8, a9, a10⟩, ⟨a11, a12, a13, a14⟩⟩).f.p)), .lit (.int .i64 (H Int fun _ => (mapF (chg o x) ⟨⟨a0, a1, a2, a3⟩, a4, a5, a6, ⟨a7, a8, a9, a10⟩, ⟨a11, a12, a13, a14⟩⟩).f.q)), .lit (.int .i64 (H Int fun _ => (mapF (chg o x) ⟨⟨a0, a1, a2, a3⟩, a4, a5, a6, ⟨a7, a8, a9, a10⟩, ⟨a11, a12, a13, a14⟩⟩).o)), .lit (.int .i64 (H Int fun _ => (mapF (chg o x) ⟨⟨a0, a1, a2, a3⟩, a4, a5, a6, ⟨a7, a8, a9, a10⟩, ⟨a11, a12, a13, a14⟩⟩).l)), .lit (.int .i64 (H Int fun _ => (mapF (chg o x) ⟨⟨a0, a1, a2, a3⟩, a4, a5, a6, ⟨a7, a8, a9, a10⟩, ⟨a11, a12, a13, a14⟩⟩).t)), .lit (.int .i64 (H Int fun _ => (mapF (chg o x) ⟨⟨a0, a1, a2, a3⟩, a4, a5, a6, ⟨a7, a8, a9, a10⟩, ⟨a11, a12, a13, a14⟩⟩).n.c)), .lit (.int .i64 (H Int fun _ => (mapF (chg o x) ⟨⟨a0, a1, a2, a3⟩, a4, a5, a6, ⟨a7, a8, a9, a10⟩, ⟨a11, a12, a13, a14⟩⟩).n.k)), .lit (.int .i64 (H Int fun _ => (mapF (chg o x) ⟨⟨a0, a1, a2, a3⟩, a4, a5, a6, ⟨a7, a8, a9, a10⟩, ⟨a11, a12, a13, a14⟩⟩).n.a)), .lit (.int .i64 (H Int fun _ => (mapF (chg o x) ⟨⟨a0, a1, a2, a3⟩, a4, a5, a6, ⟨a7, a8, a9, a10⟩, ⟨a11, a12, a13, a14⟩⟩).n.t)), .lit (.int .i64 (H Int fun _ => (mapF (chg o x) ⟨⟨a0, a1, a2, a3⟩, a4, a5, a6, ⟨a7, a8, a9, a10⟩, ⟨a11, a12, a13, a14⟩⟩).r.c)), .lit (.int .i64 (H Int fun _ => (mapF (chg o x) ⟨⟨a0, a1, a2, a3⟩, a4, a5, a6, ⟨a7, a8, a9, a10⟩, ⟨a11, a12, a13, a14⟩⟩).r.k)), .lit (.int .i64 (H Int fun _ => (mapF (chg o x) ⟨⟨a0, a1, a2, a3⟩, a4, a5, a6, ⟨a7, a8, a9, a10⟩, ⟨a11, a12, a13, a14⟩⟩).r.a)), .lit (.int .i64 (H Int fun _ => (mapF (chg o x) ⟨⟨a0, a1, a2, a3⟩, a4, a5, a6, ⟨a7, a8, a9, a10⟩, ⟨a11, a12, a13, a14⟩⟩).r.t))], [])
  | _ => none⟩
theorem eok_mapR : EntryOk Try.prog e_mapR := ⟨by unfold isBody; kernel_rfl, fun a h r rd u ob e hob => by
  simp only [e_mapR] at e
  split at e
  · rename_i a0 a1 a2 a3 a4 a5 a6 a7 a8 a9 a10 a11 a12 a13 a14 i j
    refine capt_ok (args0 := [.agg [.lit (.int .i64 (⟨⟨a0, a1, a2, a3⟩, a4, a5, a6, ⟨a7, a8, a9, a10⟩, ⟨a11, a12, a13, a14⟩⟩ : Arm).f.d), .lit (.int .i64 (⟨⟨a0, a1, a2, a3⟩, a4, a5, a6, ⟨a7, a8, a9, a10⟩, ⟨a11, a12, a13, a14⟩⟩ : Arm).f.l), .lit (.int .i64 (⟨⟨a0, a1, a2, a3⟩, a4, a5, a6, ⟨a7, a8, a9, a10⟩, ⟨a11, a12, a13, a14⟩⟩ : Arm).f.p), .lit (.int .i64 (⟨⟨a0, a1, a2, a3⟩, a4, a5, a6, ⟨a7, a8, a9, a10⟩, ⟨a11, a12, a13, a14⟩⟩ : Arm).f.q), .lit (.int .i64 (⟨⟨a0, a1, a2, a3⟩, a4, a5, a6, ⟨a7, a8, a9, a10⟩, ⟨a11, a12, a13, a14⟩⟩ : Arm).o), .lit (.int .i64 (⟨⟨a0, a1, a2, a3⟩, a4, a5, a6, ⟨a7, a8, a9, a10⟩, ⟨a11, a12, a13, a14⟩⟩ : Arm).l), .lit (.int .i64 (⟨⟨a0, a1, a2, a3⟩, a4, a5, a6, ⟨a7, a8, a9, a10⟩, ⟨a11, a12, a13, a14⟩⟩ : Arm).t), .lit (.int .i64 (⟨⟨a0, a1, a2, a3⟩, a4, a5, a6, ⟨a7, a8, a9, a10⟩, ⟨a11, a12, a13, a14⟩⟩ : Arm).n.c), .lit (.int .i64 (⟨⟨a0, a1, a2, a3⟩, a4, a5, a6, ⟨a7, a8, a9, a10⟩, ⟨a11, a12, a13, a14⟩⟩ : Arm).n.k), .lit (.int .i64 (⟨⟨a0, a1, a2, a3⟩, a4, a5, a6, ⟨a7, a8, a9, a10⟩, ⟨a11, a12, a13, a14⟩⟩ : Arm).n.a), .lit (.int .i64 (⟨⟨a0, a1, a2, a3⟩, a4, a5, a6, ⟨a7, a8, a9, a10⟩, ⟨a11, a12, a13, a14⟩⟩ : Arm).n.t), .lit (.int .i64 (⟨⟨a0, a1, a2, a3⟩, a4, a5, a6, ⟨a7, a8, a9, a10⟩, ⟨a11, a12, a13, a14⟩⟩ : Arm).r.c), .lit (.int .i64 (⟨⟨a0, a1, a2, a3⟩, a4, a5, a6, ⟨a7, a8, a9, a10⟩, ⟨a11, a12, a13, a14⟩⟩ : Arm).r.k), .lit (.int .i64 (⟨⟨a0, a1, a2, a3⟩, a4, a5, a6, ⟨a7, a8, a9, a10⟩, ⟨a11, a12, a13, a14⟩⟩ : Arm).r.a), .lit (.int .i64 (⟨⟨a0, a1, a2, a3⟩, a4, a5, a6, ⟨a7, a8, a9, a10⟩, ⟨a11, a12, a13, a14⟩⟩ : Arm).r.t)], .fn (.func 66) [] [.ptr 0 0, .ptr 1 0]]) e hob rfl (fun c p q hp hq => ?_) (fun _ _ => blq_ok 4 rfl) (fun o x _ => c_mapR ⟨⟨a0, a1, a2, a3⟩, a4, a5, a6, ⟨a7, a8, a9, a10⟩, ⟨a11, a12, a13, a14⟩⟩ o x)
    match c, hp, hq with
    | 0, hp, hq => simp only [List.getElem?_cons_zero, Option.some.injEq] at hp hq; subst hp; subst hq; exact .same (q := 0) (by omega) (by omega) (blq_ok 4 rfl)
    | 1, hp, hq =>
      simp only [List.getElem?_cons_succ, List.getElem?_cons_zero, Option.some.injEq] at hp hq; subst hp; subst hq
      refine .fn rfl (fun c p q hp hq => ?_)
      match c, hp, hq with
      | 0, hp, hq => simp at hp hq; subst hp; subst hq; exact .ptr (π := pi2 i j) (i := 0) (by omega)
      | 1, hp, hq => simp at hp hq; subst hp; subst hq; exact .ptr (π := pi2 i j) (i := 1) (by omega)
      | c + 2, hp, hq => simp at hp
    | c + 2, hp, hq => simp at hp
  · cases e⟩
def repI (a : Arm) (o x : Int) : Bool := okA a && inB o 1 9 && inB x 1 9 && okA (mapF (chg o x) a)
def repO (a : Arm) (o x : Int) : Arm := if repI a o x then mapF (chg o x) a else zA
theorem c_ReplaceTincture (a : Arm) (o : Int) (x : Int)  : Con Try.prog 15 [.agg [.lit (.int .i64 (a).f.d), .lit (.int .i64 (a).f.l), .lit (.int .i64 (a).f.p), .lit (.int .i64 (a).f.q), .lit (.int .i64 (a).o), .lit (.int .i64 (a).l), .lit (.int .i64 (a).t), .lit (.int .i64 (a).n.c), .lit (.int .i64 (a).n.k), .lit (.int .i64 (a).n.a), .lit (.int .i64 (a).n.t), .lit (.int .i64 (a).r.c), .lit (.int .i64 (a).r.k), .lit (.int .i64 (a).r.a), .lit (.int .i64 (a).r.t)], .lit (.int .i64 o), .lit (.int .i64 x)] [] (.tup [.agg [.lit (.int .i64 ((repO a o x).f.d)), .lit (.int .i64 ((repO a o x).f.l)), .lit (.int .i64 ((repO a o x).f.p)), .lit (.int .i64 ((repO a o x).f.q)), .lit (.int .i64 ((repO a o x).o)), .lit (.int .i64 ((repO a o x).l)), .lit (.int .i64 ((repO a o x).t)), .lit (.int .i64 ((repO a o x).n.c)), .lit (.int .i64 ((repO a o x).n.k)), .lit (.int .i64 ((repO a o x).n.a)), .lit (.int .i64 ((repO a o x).n.t)), .lit (.int .i64 ((repO a o x).r.c)), .lit (.int .i64 ((repO a o x).r.k)), .lit (.int .i64 ((repO a o x).r.a)), .lit (.int .i64 ((repO a o x).r.t))], .lit (.bool (repI a o x))]) [] := by
  obtain ⟨⟨a0, a1, a2, a3⟩, a4, a5, a6, ⟨a7, a8, a9, a10⟩, ⟨a11, a12, a13, a14⟩⟩ := a
  have hB : Base Try.prog (tabΓ [e_IsValidArms, e_IsTincture, e_mapR, e_validArms]) tab := base_of tabOk (ents_cons eok_IsValidArms <| ents_cons eok_IsTincture <| ents_cons eok_mapR <| ents_cons eok_validArms <| ents_nil)
  refine con_eq (N := 28) hB (draw_ok hB mixed) Try.func15 rfl rfl _ _ 120 (by simp) (by intro x hx; simp only [List.mem_cons, List.not_mem_nil, or_false] at hx; rcases hx with rfl | rfl | rfl <;> (first | (first | exact .lit | exact blq_ok 4 rfl) | exact .vec (fun j hj x hx => by simp [vrow] at hx; subst hx; exact .lit))) (by (first | exact .lit | exact blq_ok 4 rfl)) ?_
  intro H hH
  conv in finish _ _ _ _ _ _ _ _ => cbv
  subst hH
  simp only [Fin.sat0, Fin.sat1, stdH, Option.some.injEq, AV.lit.injEq, AV.agg.injEq, AV.tup.injEq, List.cons.injEq, Value.bool.injEq, Value.int.injEq, AllP, and_true, true_and, eq_self, decide_eq_true_eq, decide_eq_false_iff_not, Bool.not_eq_true', Bool.not_eq_false', peta, ncast]
  unfold repO repI
  generalize mapF (chg o x) _ = m
  generalize okA m = b1
  generalize okA _ = b2
  generalize inB o 1 9 = b3
  generalize inB x 1 9 = b4
  cases b2 <;> cases b3 <;> cases b4 <;> cases b1 <;> simp [zA]
noncomputable def e_ReplaceTincture : Entry := pureE 15 fun H a => match a with
  | [.agg [.lit (.int .i64 a0), .lit (.int .i64 a1), .lit (.int .i64 a2), .lit (.int .i64 a3), .lit (.int .i64 a4), .lit (.int .i64 a5), .lit (.int .i64 a6), .lit (.int .i64 a7), .lit (.int .i64 a8), .lit (.int .i64 a9), .lit (.int .i64 a10), .lit (.int .i64 a11), .lit (.int .i64 a12), .lit (.int .i64 a13), .lit (.int .i64 a14)], .lit (.int .i64 o), .lit (.int .i64 x)] => some (.tup [.agg [.lit (.int .i64 (H Int fun _ => ((repO (⟨⟨a0, a1, a2, a3⟩, a4, a5, a6, ⟨a7, a8, a9, a10⟩, ⟨a11, a12, a13, a14⟩⟩ : Arm) o x).f.d))), .lit (.int .i64 (H Int fun _ => ((repO (⟨⟨a0, a1, a2, a3⟩, a4, a5, a6, ⟨a7, a8, a9, a10⟩, ⟨a11, a12, a13, a14⟩⟩ : Arm) o x).f.l))), .lit (.int .i64 (H Int fun _ => ((repO (⟨⟨a0, a1, a2, a3⟩, a4, a5, a6, ⟨a7, a8, a9, a10⟩, ⟨a11, a12, a13, a14⟩⟩ : Arm) o x).f.p))), .lit (.int .i64 (H Int fun _ => ((repO (⟨⟨a0, a1, a2, a3⟩, a4, a5, a6, ⟨a7, a8, a9, a10⟩, ⟨a11, a12, a13, a14⟩⟩ : Arm) o x).f.q))), .lit (.int .i64 (H Int fun _ => ((repO (⟨⟨a0, a1, a2, a3⟩, a4, a5, a6, ⟨a7, a8, a9, a10⟩, ⟨a11, a12, a13, a14⟩⟩ : Arm) o x).o))), .lit (.int .i64 (H Int fun _ => ((repO (⟨⟨a0, a1, a2, a3⟩, a4, a5, a6, ⟨a7, a8, a9, a10⟩, ⟨a11, a12, a13, a14⟩⟩ : Arm) o x).l))), .lit (.int .i64 (H Int fun _ => ((repO (⟨⟨a0, a1, a2, a3⟩, a4, a5, a6, ⟨a7, a8, a9, a10⟩, ⟨a11, a12, a13, a14⟩⟩ : Arm) o x).t))), .lit (.int .i64 (H Int fun _ => ((repO (⟨⟨a0, a1, a2, a3⟩, a4, a5, a6, ⟨a7, a8, a9, a10⟩, ⟨a11, a12, a13, a14⟩⟩ : Arm) o x).n.c))), .lit (.int .i64 (H Int fun _ => ((repO (⟨⟨a0, a1, a2, a3⟩, a4, a5, a6, ⟨a7, a8, a9, a10⟩, ⟨a11, a12, a13, a14⟩⟩ : Arm) o x).n.k))), .lit (.int .i64 (H Int fun _ => ((repO (⟨⟨a0, a1, a2, a3⟩, a4, a5, a6, ⟨a7, a8, a9, a10⟩, ⟨a11, a12, a13, a14⟩⟩ : Arm) o x).n.a))), .lit (.int .i64 (H Int fun _ => ((repO (⟨⟨a0, a1, a2, a3⟩, a4, a5, a6, ⟨a7, a8, a9, a10⟩, ⟨a11, a12, a13, a14⟩⟩ : Arm) o x).n.t))), .lit (.int .i64 (H Int fun _ => ((repO (⟨⟨a0, a1, a2, a3⟩, a4, a5, a6, ⟨a7, a8, a9, a10⟩, ⟨a11, a12, a13, a14⟩⟩ : Arm) o x).r.c))), .lit (.int .i64 (H Int fun _ => ((repO (⟨⟨a0, a1, a2, a3⟩, a4, a5, a6, ⟨a7, a8, a9, a10⟩, ⟨a11, a12, a13, a14⟩⟩ : Arm) o x).r.k))), .lit (.int .i64 (H Int fun _ => ((repO (⟨⟨a0, a1, a2, a3⟩, a4, a5, a6, ⟨a7, a8, a9, a10⟩, ⟨a11, a12, a13, a14⟩⟩ : Arm) o x).r.a))), .lit (.int .i64 (H Int fun _ => ((repO (⟨⟨a0, a1, a2, a3⟩, a4, a5, a6, ⟨a7, a8, a9, a10⟩, ⟨a11, a12, a13, a14⟩⟩ : Arm) o x).r.t)))], .lit (.bool (H Bool fun _ => (repI (⟨⟨a0, a1, a2, a3⟩, a4, a5, a6, ⟨a7, a8, a9, a10⟩, ⟨a11, a12, a13, a14⟩⟩ : Arm) o x)))], [])
  | _ => none
theorem eok_ReplaceTincture : EntryOk Try.prog e_ReplaceTincture := pureE_ok (by unfold isBody; kernel_rfl) (by
  intro a r ob e hob
  split at e
  · rename_i a0 a1 a2 a3 a4 a5 a6 a7 a8 a9 a10 a11 a12 a13 a14 o x
    simp only [Option.some.injEq, Prod.mk.injEq] at e
    obtain ⟨rfl, rfl⟩ := e
    exact c_ReplaceTincture (⟨⟨a0, a1, a2, a3⟩, a4, a5, a6, ⟨a7, a8, a9, a10⟩, ⟨a11, a12, a13, a14⟩⟩ : Arm) o x
  · simp at e)
def repS (a : Arm) (o x : Int) : Arm := ⟨⟨a.f.d, a.f.l, chg o x a.f.p, chg o x a.f.q⟩, a.o, a.l, chg o x a.t, ⟨a.n.c, a.n.k, a.n.a, chg o x a.n.t⟩, ⟨a.r.c, a.r.k, a.r.a, chg o x a.r.t⟩⟩
theorem repS_eq (a : Arm) {o : Int} (x : Int) (h : inB o 1 9 = true) : repS a o x = mapF (chg o x) a := by
  have h0 : ¬ o = 0 := by unfold inB at h; simp at h; omega
  have e : ∀ y, (if y = 0 then 0 else chg o x y) = chg o x y := fun y => by
    by_cases hy : y = 0
    · rw [if_pos hy, hy]; unfold chg; rw [if_neg (fun e => h0 e.symm)]
    · rw [if_neg hy]
  simp only [repS, mapF, e]
theorem c_l5Replace (a : Arm) (o : Int) (x : Int)  : Con Try.prog 69 [.agg [.lit (.int .i64 (a).f.d), .lit (.int .i64 (a).f.l), .lit (.int .i64 (a).f.p), .lit (.int .i64 (a).f.q), .lit (.int .i64 (a).o), .lit (.int .i64 (a).l), .lit (.int .i64 (a).t), .lit (.int .i64 (a).n.c), .lit (.int .i64 (a).n.k), .lit (.int .i64 (a).n.a), .lit (.int .i64 (a).n.t), .lit (.int .i64 (a).r.c), .lit (.int .i64 (a).r.k), .lit (.int .i64 (a).r.a), .lit (.int .i64 (a).r.t)], .lit (.int .i64 o), .lit (.int .i64 x)] [] (.agg [.lit (.int .i64 ((repS a o x).f.d)), .lit (.int .i64 ((repS a o x).f.l)), .lit (.int .i64 ((repS a o x).f.p)), .lit (.int .i64 ((repS a o x).f.q)), .lit (.int .i64 ((repS a o x).o)), .lit (.int .i64 ((repS a o x).l)), .lit (.int .i64 ((repS a o x).t)), .lit (.int .i64 ((repS a o x).n.c)), .lit (.int .i64 ((repS a o x).n.k)), .lit (.int .i64 ((repS a o x).n.a)), .lit (.int .i64 ((repS a o x).n.t)), .lit (.int .i64 ((repS a o x).r.c)), .lit (.int .i64 ((repS a o x).r.k)), .lit (.int .i64 ((repS a o x).r.a)), .lit (.int .i64 ((repS a o x).r.t))]) [] := by
  obtain ⟨⟨a0, a1, a2, a3⟩, a4, a5, a6, ⟨a7, a8, a9, a10⟩, ⟨a11, a12, a13, a14⟩⟩ := a
  have hB : Base Try.prog (tabΓ [e_l5Turn]) tab := base_of tabOk (ents_cons eok_l5Turn <| ents_nil)
  refine con_eq (N := 46) hB (draw_ok hB mixed) Try.func69 rfl rfl _ _ 150 (by simp) (by intro x hx; simp only [List.mem_cons, List.not_mem_nil, or_false] at hx; rcases hx with rfl | rfl | rfl <;> (first | (first | exact .lit | exact blq_ok 4 rfl) | exact .vec (fun j hj x hx => by simp [vrow] at hx; subst hx; exact .lit))) (by (first | exact .lit | exact blq_ok 4 rfl)) ?_
  intro H hH
  conv in finish _ _ _ _ _ _ _ _ => cbv
  subst hH
  simp only [Fin.sat0, Fin.sat1, stdH, Option.some.injEq, AV.lit.injEq, AV.agg.injEq, AV.tup.injEq, List.cons.injEq, Value.bool.injEq, Value.int.injEq, AllP, and_true, true_and, eq_self, decide_eq_true_eq, decide_eq_false_iff_not, Bool.not_eq_true', Bool.not_eq_false', peta, ncast]
  simp only [repS, and_self]
noncomputable def e_l5Replace : Entry := pureE 69 fun H a => match a with
  | [.agg [.lit (.int .i64 a0), .lit (.int .i64 a1), .lit (.int .i64 a2), .lit (.int .i64 a3), .lit (.int .i64 a4), .lit (.int .i64 a5), .lit (.int .i64 a6), .lit (.int .i64 a7), .lit (.int .i64 a8), .lit (.int .i64 a9), .lit (.int .i64 a10), .lit (.int .i64 a11), .lit (.int .i64 a12), .lit (.int .i64 a13), .lit (.int .i64 a14)], .lit (.int .i64 o), .lit (.int .i64 x)] => some (.agg [.lit (.int .i64 (H Int fun _ => ((repS (⟨⟨a0, a1, a2, a3⟩, a4, a5, a6, ⟨a7, a8, a9, a10⟩, ⟨a11, a12, a13, a14⟩⟩ : Arm) o x).f.d))), .lit (.int .i64 (H Int fun _ => ((repS (⟨⟨a0, a1, a2, a3⟩, a4, a5, a6, ⟨a7, a8, a9, a10⟩, ⟨a11, a12, a13, a14⟩⟩ : Arm) o x).f.l))), .lit (.int .i64 (H Int fun _ => ((repS (⟨⟨a0, a1, a2, a3⟩, a4, a5, a6, ⟨a7, a8, a9, a10⟩, ⟨a11, a12, a13, a14⟩⟩ : Arm) o x).f.p))), .lit (.int .i64 (H Int fun _ => ((repS (⟨⟨a0, a1, a2, a3⟩, a4, a5, a6, ⟨a7, a8, a9, a10⟩, ⟨a11, a12, a13, a14⟩⟩ : Arm) o x).f.q))), .lit (.int .i64 (H Int fun _ => ((repS (⟨⟨a0, a1, a2, a3⟩, a4, a5, a6, ⟨a7, a8, a9, a10⟩, ⟨a11, a12, a13, a14⟩⟩ : Arm) o x).o))), .lit (.int .i64 (H Int fun _ => ((repS (⟨⟨a0, a1, a2, a3⟩, a4, a5, a6, ⟨a7, a8, a9, a10⟩, ⟨a11, a12, a13, a14⟩⟩ : Arm) o x).l))), .lit (.int .i64 (H Int fun _ => ((repS (⟨⟨a0, a1, a2, a3⟩, a4, a5, a6, ⟨a7, a8, a9, a10⟩, ⟨a11, a12, a13, a14⟩⟩ : Arm) o x).t))), .lit (.int .i64 (H Int fun _ => ((repS (⟨⟨a0, a1, a2, a3⟩, a4, a5, a6, ⟨a7, a8, a9, a10⟩, ⟨a11, a12, a13, a14⟩⟩ : Arm) o x).n.c))), .lit (.int .i64 (H Int fun _ => ((repS (⟨⟨a0, a1, a2, a3⟩, a4, a5, a6, ⟨a7, a8, a9, a10⟩, ⟨a11, a12, a13, a14⟩⟩ : Arm) o x).n.k))), .lit (.int .i64 (H Int fun _ => ((repS (⟨⟨a0, a1, a2, a3⟩, a4, a5, a6, ⟨a7, a8, a9, a10⟩, ⟨a11, a12, a13, a14⟩⟩ : Arm) o x).n.a))), .lit (.int .i64 (H Int fun _ => ((repS (⟨⟨a0, a1, a2, a3⟩, a4, a5, a6, ⟨a7, a8, a9, a10⟩, ⟨a11, a12, a13, a14⟩⟩ : Arm) o x).n.t))), .lit (.int .i64 (H Int fun _ => ((repS (⟨⟨a0, a1, a2, a3⟩, a4, a5, a6, ⟨a7, a8, a9, a10⟩, ⟨a11, a12, a13, a14⟩⟩ : Arm) o x).r.c))), .lit (.int .i64 (H Int fun _ => ((repS (⟨⟨a0, a1, a2, a3⟩, a4, a5, a6, ⟨a7, a8, a9, a10⟩, ⟨a11, a12, a13, a14⟩⟩ : Arm) o x).r.k))), .lit (.int .i64 (H Int fun _ => ((repS (⟨⟨a0, a1, a2, a3⟩, a4, a5, a6, ⟨a7, a8, a9, a10⟩, ⟨a11, a12, a13, a14⟩⟩ : Arm) o x).r.a))), .lit (.int .i64 (H Int fun _ => ((repS (⟨⟨a0, a1, a2, a3⟩, a4, a5, a6, ⟨a7, a8, a9, a10⟩, ⟨a11, a12, a13, a14⟩⟩ : Arm) o x).r.t)))], [])
  | _ => none
theorem eok_l5Replace : EntryOk Try.prog e_l5Replace := pureE_ok (by unfold isBody; kernel_rfl) (by
  intro a r ob e hob
  split at e
  · rename_i a0 a1 a2 a3 a4 a5 a6 a7 a8 a9 a10 a11 a12 a13 a14 o x
    simp only [Option.some.injEq, Prod.mk.injEq] at e
    obtain ⟨rfl, rfl⟩ := e
    exact c_l5Replace (⟨⟨a0, a1, a2, a3⟩, a4, a5, a6, ⟨a7, a8, a9, a10⟩, ⟨a11, a12, a13, a14⟩⟩ : Arm) o x
  · simp at e)
theorem c_ReplaceTinctureS (a : Arm) (o : Int) (x : Int)  : Con Try.prog 16 [.agg [.lit (.int .i64 (a).f.d), .lit (.int .i64 (a).f.l), .lit (.int .i64 (a).f.p), .lit (.int .i64 (a).f.q), .lit (.int .i64 (a).o), .lit (.int .i64 (a).l), .lit (.int .i64 (a).t), .lit (.int .i64 (a).n.c), .lit (.int .i64 (a).n.k), .lit (.int .i64 (a).n.a), .lit (.int .i64 (a).n.t), .lit (.int .i64 (a).r.c), .lit (.int .i64 (a).r.k), .lit (.int .i64 (a).r.a), .lit (.int .i64 (a).r.t)], .lit (.int .i64 o), .lit (.int .i64 x)] [] (.tup [.agg [.lit (.int .i64 ((repO a o x).f.d)), .lit (.int .i64 ((repO a o x).f.l)), .lit (.int .i64 ((repO a o x).f.p)), .lit (.int .i64 ((repO a o x).f.q)), .lit (.int .i64 ((repO a o x).o)), .lit (.int .i64 ((repO a o x).l)), .lit (.int .i64 ((repO a o x).t)), .lit (.int .i64 ((repO a o x).n.c)), .lit (.int .i64 ((repO a o x).n.k)), .lit (.int .i64 ((repO a o x).n.a)), .lit (.int .i64 ((repO a o x).n.t)), .lit (.int .i64 ((repO a o x).r.c)), .lit (.int .i64 ((repO a o x).r.k)), .lit (.int .i64 ((repO a o x).r.a)), .lit (.int .i64 ((repO a o x).r.t))], .lit (.bool (repI a o x))]) [] := by
  obtain ⟨⟨a0, a1, a2, a3⟩, a4, a5, a6, ⟨a7, a8, a9, a10⟩, ⟨a11, a12, a13, a14⟩⟩ := a
  have hB : Base Try.prog (tabΓ [e_l2Good, e_l5Replace, e_l5Checked]) tab := base_of tabOk (ents_cons eok_l2Good <| ents_cons eok_l5Replace <| ents_cons eok_l5Checked <| ents_nil)
  refine con_eq (N := 25) hB (draw_ok hB mixed) Try.func16 rfl rfl _ _ 120 (by simp) (by intro x hx; simp only [List.mem_cons, List.not_mem_nil, or_false] at hx; rcases hx with rfl | rfl | rfl <;> (first | (first | exact .lit | exact blq_ok 4 rfl) | exact .vec (fun j hj x hx => by simp [vrow] at hx; subst hx; exact .lit))) (by (first | exact .lit | exact blq_ok 4 rfl)) ?_
  intro H hH
  conv in finish _ _ _ _ _ _ _ _ => cbv
  subst hH
  simp only [Fin.sat0, Fin.sat1, stdH, Option.some.injEq, AV.lit.injEq, AV.agg.injEq, AV.tup.injEq, List.cons.injEq, Value.bool.injEq, Value.int.injEq, AllP, and_true, true_and, eq_self, decide_eq_true_eq, decide_eq_false_iff_not, Bool.not_eq_true', Bool.not_eq_false', peta, ncast]
  have e := repS_eq ⟨⟨a0, a1, a2, a3⟩, a4, a5, a6, ⟨a7, a8, a9, a10⟩, ⟨a11, a12, a13, a14⟩⟩ (o := o) x
  unfold repO repI
  generalize mapF (chg o x) _ = m at *
  generalize repS _ o x = m' at *
  cases h3 : inB o 1 9
  · generalize okA _ = b2
    generalize okA _ = b1
    generalize inB x 1 9 = b4
    cases b2 <;> cases b4 <;> simp [zA]
  · obtain rfl := e h3
    generalize okA m' = b1
    generalize okA _ = b2
    generalize inB x 1 9 = b4
    cases b2 <;> cases b4 <;> cases b1 <;> simp [zA]
noncomputable def e_ReplaceTinctureS : Entry := pureE 16 fun H a => match a with
  | [.agg [.lit (.int .i64 a0), .lit (.int .i64 a1), .lit (.int .i64 a2), .lit (.int .i64 a3), .lit (.int .i64 a4), .lit (.int .i64 a5), .lit (.int .i64 a6), .lit (.int .i64 a7), .lit (.int .i64 a8), .lit (.int .i64 a9), .lit (.int .i64 a10), .lit (.int .i64 a11), .lit (.int .i64 a12), .lit (.int .i64 a13), .lit (.int .i64 a14)], .lit (.int .i64 o), .lit (.int .i64 x)] => some (.tup [.agg [.lit (.int .i64 (H Int fun _ => ((repO (⟨⟨a0, a1, a2, a3⟩, a4, a5, a6, ⟨a7, a8, a9, a10⟩, ⟨a11, a12, a13, a14⟩⟩ : Arm) o x).f.d))), .lit (.int .i64 (H Int fun _ => ((repO (⟨⟨a0, a1, a2, a3⟩, a4, a5, a6, ⟨a7, a8, a9, a10⟩, ⟨a11, a12, a13, a14⟩⟩ : Arm) o x).f.l))), .lit (.int .i64 (H Int fun _ => ((repO (⟨⟨a0, a1, a2, a3⟩, a4, a5, a6, ⟨a7, a8, a9, a10⟩, ⟨a11, a12, a13, a14⟩⟩ : Arm) o x).f.p))), .lit (.int .i64 (H Int fun _ => ((repO (⟨⟨a0, a1, a2, a3⟩, a4, a5, a6, ⟨a7, a8, a9, a10⟩, ⟨a11, a12, a13, a14⟩⟩ : Arm) o x).f.q))), .lit (.int .i64 (H Int fun _ => ((repO (⟨⟨a0, a1, a2, a3⟩, a4, a5, a6, ⟨a7, a8, a9, a10⟩, ⟨a11, a12, a13, a14⟩⟩ : Arm) o x).o))), .lit (.int .i64 (H Int fun _ => ((repO (⟨⟨a0, a1, a2, a3⟩, a4, a5, a6, ⟨a7, a8, a9, a10⟩, ⟨a11, a12, a13, a14⟩⟩ : Arm) o x).l))), .lit (.int .i64 (H Int fun _ => ((repO (⟨⟨a0, a1, a2, a3⟩, a4, a5, a6, ⟨a7, a8, a9, a10⟩, ⟨a11, a12, a13, a14⟩⟩ : Arm) o x).t))), .lit (.int .i64 (H Int fun _ => ((repO (⟨⟨a0, a1, a2, a3⟩, a4, a5, a6, ⟨a7, a8, a9, a10⟩, ⟨a11, a12, a13, a14⟩⟩ : Arm) o x).n.c))), .lit (.int .i64 (H Int fun _ => ((repO (⟨⟨a0, a1, a2, a3⟩, a4, a5, a6, ⟨a7, a8, a9, a10⟩, ⟨a11, a12, a13, a14⟩⟩ : Arm) o x).n.k))), .lit (.int .i64 (H Int fun _ => ((repO (⟨⟨a0, a1, a2, a3⟩, a4, a5, a6, ⟨a7, a8, a9, a10⟩, ⟨a11, a12, a13, a14⟩⟩ : Arm) o x).n.a))), .lit (.int .i64 (H Int fun _ => ((repO (⟨⟨a0, a1, a2, a3⟩, a4, a5, a6, ⟨a7, a8, a9, a10⟩, ⟨a11, a12, a13, a14⟩⟩ : Arm) o x).n.t))), .lit (.int .i64 (H Int fun _ => ((repO (⟨⟨a0, a1, a2, a3⟩, a4, a5, a6, ⟨a7, a8, a9, a10⟩, ⟨a11, a12, a13, a14⟩⟩ : Arm) o x).r.c))), .lit (.int .i64 (H Int fun _ => ((repO (⟨⟨a0, a1, a2, a3⟩, a4, a5, a6, ⟨a7, a8, a9, a10⟩, ⟨a11, a12, a13, a14⟩⟩ : Arm) o x).r.k))), .lit (.int .i64 (H Int fun _ => ((repO (⟨⟨a0, a1, a2, a3⟩, a4, a5, a6, ⟨a7, a8, a9, a10⟩, ⟨a11, a12, a13, a14⟩⟩ : Arm) o x).r.a))), .lit (.int .i64 (H Int fun _ => ((repO (⟨⟨a0, a1, a2, a3⟩, a4, a5, a6, ⟨a7, a8, a9, a10⟩, ⟨a11, a12, a13, a14⟩⟩ : Arm) o x).r.t)))], .lit (.bool (H Bool fun _ => (repI (⟨⟨a0, a1, a2, a3⟩, a4, a5, a6, ⟨a7, a8, a9, a10⟩, ⟨a11, a12, a13, a14⟩⟩ : Arm) o x)))], [])
  | _ => none
theorem eok_ReplaceTinctureS : EntryOk Try.prog e_ReplaceTinctureS := pureE_ok (by unfold isBody; kernel_rfl) (by
  intro a r ob e hob
  split at e
  · rename_i a0 a1 a2 a3 a4 a5 a6 a7 a8 a9 a10 a11 a12 a13 a14 o x
    simp only [Option.some.injEq, Prod.mk.injEq] at e
    obtain ⟨rfl, rfl⟩ := e
    exact c_ReplaceTinctureS (⟨⟨a0, a1, a2, a3⟩, a4, a5, a6, ⟨a7, a8, a9, a10⟩, ⟨a11, a12, a13, a14⟩⟩ : Arm) o x
  · simp at e)
theorem c_sameOne (x : Int)  : Con Try.prog 76 [.lit (.int .i64 x)] [] (.lit (.int .i64 (1))) [] := by
  have hB : Base Try.prog (tabΓ []) tab := base_of tabOk (ents_nil)
  refine con_eq (N := 3) hB (draw_ok hB mixed) Try.func76 rfl rfl _ _ 50 (by simp) (by intro x hx; simp only [List.mem_cons, List.not_mem_nil, or_false] at hx; rcases hx with rfl <;> (first | (first | exact .lit | exact blq_ok 4 rfl) | exact .vec (fun j hj x hx => by simp [vrow] at hx; subst hx; exact .lit))) (by (first | exact .lit | exact blq_ok 4 rfl)) ?_
  intro H hH
  conv in finish _ _ _ _ _ _ _ _ => cbv
  subst hH
  simp only [Fin.sat0, Fin.sat1, stdH, Option.some.injEq, AV.lit.injEq, AV.agg.injEq, AV.tup.injEq, List.cons.injEq, Value.bool.injEq, Value.int.injEq, AllP, and_true, true_and, eq_self, decide_eq_true_eq, decide_eq_false_iff_not, Bool.not_eq_true', Bool.not_eq_false', peta, ncast]
noncomputable def e_sameOne : Entry := pureE 76 fun H a => match a with
  | [.lit (.int .i64 x)] => some (.lit (.int .i64 (H Int fun _ => (1))), [])
  | _ => none
theorem eok_sameOne : EntryOk Try.prog e_sameOne := pureE_ok (by unfold isBody; kernel_rfl) (by
  intro a r ob e hob
  split at e
  · simp only [Option.some.injEq, Prod.mk.injEq] at e
    obtain ⟨rfl, rfl⟩ := e
    exact c_sameOne _
  · simp at e)
theorem c_mapO (a : Arm) : Con Try.prog 65 [.agg [.lit (.int .i64 (a).f.d), .lit (.int .i64 (a).f.l), .lit (.int .i64 (a).f.p), .lit (.int .i64 (a).f.q), .lit (.int .i64 (a).o), .lit (.int .i64 (a).l), .lit (.int .i64 (a).t), .lit (.int .i64 (a).n.c), .lit (.int .i64 (a).n.k), .lit (.int .i64 (a).n.a), .lit (.int .i64 (a).n.t), .lit (.int .i64 (a).r.c), .lit (.int .i64 (a).r.k), .lit (.int .i64 (a).r.a), .lit (.int .i64 (a).r.t)], .lit (.func (.func 76) #[] #[])] [] (.agg [.lit (.int .i64 (mapF (fun _ => 1) a).f.d), .lit (.int .i64 (mapF (fun _ => 1) a).f.l), .lit (.int .i64 (mapF (fun _ => 1) a).f.p), .lit (.int .i64 (mapF (fun _ => 1) a).f.q), .lit (.int .i64 (mapF (fun _ => 1) a).o), .lit (.int .i64 (mapF (fun _ => 1) a).l), .lit (.int .i64 (mapF (fun _ => 1) a).t), .lit (.int .i64 (mapF (fun _ => 1) a).n.c), .lit (.int .i64 (mapF (fun _ => 1) a).n.k), .lit (.int .i64 (mapF (fun _ => 1) a).n.a), .lit (.int .i64 (mapF (fun _ => 1) a).n.t), .lit (.int .i64 (mapF (fun _ => 1) a).r.c), .lit (.int .i64 (mapF (fun _ => 1) a).r.k), .lit (.int .i64 (mapF (fun _ => 1) a).r.a), .lit (.int .i64 (mapF (fun _ => 1) a).r.t)]) [] := by
  obtain ⟨⟨a0, a1, a2, a3⟩, a4, a5, a6, ⟨a7, a8, a9, a10⟩, ⟨a11, a12, a13, a14⟩⟩ := a
  obtain ⟨tr, htr⟩ : ∃ tr : Int → Int, tr = fun y => if y = 0 then 0 else 1 := ⟨_, rfl⟩
  have P1 : ∀ y, (y != 0) = true → tr y = 1 := fun y h => by rw [htr]; exact if_neg (by simpa using h)
  have P2 : ∀ y, (y != 0) = false → tr y = y := fun y h => by rw [htr]; have : y = 0 := by simpa using h
                                                              simp [this]
  have main : Con Try.prog 65 [.agg [.lit (.int .i64 (⟨⟨a0, a1, a2, a3⟩, a4, a5, a6, ⟨a7, a8, a9, a10⟩, ⟨a11, a12, a13, a14⟩⟩ : Arm).f.d), .lit (.int .i64 (⟨⟨a0, a1, a2, a3⟩, a4, a5, a6, ⟨a7, a8, a9, a10⟩, ⟨a11, a12, a13, a14⟩⟩ : Arm).f.l), .lit (.int .i64 (⟨⟨a0, a1, a2, a3⟩, a4, a5, a6, ⟨a7, a8, a9, a10⟩, ⟨a11, a12, a13, a14⟩⟩ : Arm).f.p), .lit (.int .i64 (⟨⟨a0, a1, a2, a3⟩, a4, a5, a6, ⟨a7, a8, a9, a10⟩, ⟨a11, a12, a13, a14⟩⟩ : Arm).f.q), .lit (.int .i64 (⟨⟨a0, a1, a2, a3⟩, a4, a5, a6, ⟨a7, a8, a9, a10⟩, ⟨a11, a12, a13, a14⟩⟩ : Arm).o), .lit (.int .i64 (⟨⟨a0, a1, a2, a3⟩, a4, a5, a6, ⟨a7, a8, a9, a10⟩, ⟨a11, a12, a13, a14⟩⟩ : Arm).l), .lit (.int .i64 (⟨⟨a0, a1, a2, a3⟩, a4, a5, a6, ⟨a7, a8, a9, a10⟩, ⟨a11, a12, a13, a14⟩⟩ : Arm).t), .lit (.int .i64 (⟨⟨a0, a1, a2, a3⟩, a4, a5, a6, ⟨a7, a8, a9, a10⟩, ⟨a11, a12, a13, a14⟩⟩ : Arm).n.c), .lit (.int .i64 (⟨⟨a0, a1, a2, a3⟩, a4, a5, a6, ⟨a7, a8, a9, a10⟩, ⟨a11, a12, a13, a14⟩⟩ : Arm).n.k), .lit (.int .i64 (⟨⟨a0, a1, a2, a3⟩, a4, a5, a6, ⟨a7, a8, a9, a10⟩, ⟨a11, a12, a13, a14⟩⟩ : Arm).n.a), .lit (.int .i64 (⟨⟨a0, a1, a2, a3⟩, a4, a5, a6, ⟨a7, a8, a9, a10⟩, ⟨a11, a12, a13, a14⟩⟩ : Arm).n.t), .lit (.int .i64 (⟨⟨a0, a1, a2, a3⟩, a4, a5, a6, ⟨a7, a8, a9, a10⟩, ⟨a11, a12, a13, a14⟩⟩ : Arm).r.c), .lit (.int .i64 (⟨⟨a0, a1, a2, a3⟩, a4, a5, a6, ⟨a7, a8, a9, a10⟩, ⟨a11, a12, a13, a14⟩⟩ : Arm).r.k), .lit (.int .i64 (⟨⟨a0, a1, a2, a3⟩, a4, a5, a6, ⟨a7, a8, a9, a10⟩, ⟨a11, a12, a13, a14⟩⟩ : Arm).r.a), .lit (.int .i64 (⟨⟨a0, a1, a2, a3⟩, a4, a5, a6, ⟨a7, a8, a9, a10⟩, ⟨a11, a12, a13, a14⟩⟩ : Arm).r.t)], .lit (.func (.func 76) #[] #[])] []
      (.agg [.lit (.int .i64 a0), .lit (.int .i64 a1), .lit (.int .i64 (tr a2)), .lit (.int .i64 (tr a3)), .lit (.int .i64 a4), .lit (.int .i64 a5), .lit (.int .i64 (tr a6)), .lit (.int .i64 a7), .lit (.int .i64 a8), .lit (.int .i64 a9), .lit (.int .i64 (tr a10)), .lit (.int .i64 a11), .lit (.int .i64 a12), .lit (.int .i64 a13), .lit (.int .i64 (tr a14))]) [] := by
    clear htr
    have hB : Base Try.prog (tabΓ [e_sameOne]) tabU := base_of tabOkU (ents_cons eok_sameOne <| ents_nil)
    refine con_eqH (N := 35) hB (draw_ok hB mixed) Try.func65 rfl rfl _ _ 0 _ _ 200 (by simp) (by intro x hx; simp only [List.mem_cons, List.not_mem_nil, or_false] at hx; rcases hx with rfl | rfl; exact blq_ok 4 rfl; exact .lit) (by simp [lk]) (blq_ok 4 rfl) (by simp) ?_
    intro H hH
    conv in finish _ _ _ _ _ _ _ _ => cbv
    subst hH
    simp only [Fin.satH, stdH]
    repeat' (first | refine ⟨(⟨by omega, trivial⟩ : AllP [_]), ?_⟩ | (apply And.intro <;> intro h))
    all_goals exact ⟨by simp only [*], by simp⟩
  subst htr
  exact main
noncomputable def e_mapO : Entry := pureE 65 fun H a => match a with
  | [.agg [.lit (.int .i64 a0), .lit (.int .i64 a1), .lit (.int .i64 a2), .lit (.int .i64 a3), .lit (.int .i64 a4), .lit (.int .i64 a5), .lit (.int .i64 a6), .lit (.int .i64 a7), .lit (.int .i64 a8), .lit (.int .i64 a9), .lit (.int .i64 a10), .lit (.int .i64 a11), .lit (.int .i64 a12), .lit (.int .i64 a13), .lit (.int .i64 a14)], .lit (.func (.func 76) b c)] => bif b.isEmpty && c.isEmpty then some (.agg [.lit (.int .i64 (H Int fun _ => (mapF (fun _ => 1) ⟨⟨a0, a1, a2, a3⟩, a4, a5, a6, ⟨a7, a8, a9, a10⟩, ⟨a11, a12, a13, a14⟩⟩).f.d)), .lit (.int .i64 (H Int fun _ => (mapF (fun _ => 1) ⟨⟨a0, a1, a2, a3⟩, a4, a5, a6, ⟨a7, a8, a9, a10⟩, ⟨a11, a12, a13, a14⟩⟩).f.l)), .lit (.int .i64 (H Int fun _ => (mapF (fun _ => 1) ⟨⟨a0, a1, a2, a3⟩, a4, a5, a6, ⟨a7, a8, a9, a10⟩, ⟨a11, a12, a13, a14⟩⟩).f.p)), .lit (.int .i64 (H Int fun _ => (mapF (fun _ => 1) ⟨⟨a0, a1, a2, a3⟩, a4, a5, a6, ⟨a7, a8, a9, a10⟩, ⟨a11, a12, a13, a14⟩⟩).f.q)), .lit (.int .i64 (H Int fun _ => (mapF (fun _ => 1) ⟨⟨a0, a1, a2, a3⟩, a4, a5, a6, ⟨a7, a8, a9, a10⟩, ⟨a11, a12, a13, a14⟩⟩).o)), .lit (.int .i64 (H Int fun _ => (mapF (fun _ => 1) ⟨⟨a0, a1, a2, a3⟩, a4, a5, a6, ⟨a7, a8, a9, a10⟩, ⟨a11, a12, a13, a14⟩⟩).l)), .lit (.int .i64 (H Int fun _ => (mapF (fun _ => 1) ⟨⟨a0, a1, a2, a3⟩, a4, a5, a6, ⟨a7, a8, a9, a10⟩, ⟨a11, a12, a13, a14⟩⟩).t)), .lit (.int .i64 (H Int fun _ => (mapF (fun _ => 1) ⟨⟨a0, a1, a2, a3⟩, a4, a5, a6, ⟨a7, a8, a9, a10⟩, ⟨a11, a12, a13, a14⟩⟩).n.c)), .lit (.int .i64 (H Int fun _ => (mapF (fun _ => 1) ⟨⟨a0, a1, a2, a3⟩, a4, a5, a6, ⟨a7, a8, a9, a10⟩, ⟨a11, a12, a13, a14⟩⟩).n.k)), .lit (.int .i64 (H Int fun _ => (mapF (fun _ => 1) ⟨⟨a0, a1, a2, a3⟩, a4, a5, a6, ⟨a7, a8, a9, a10⟩, ⟨a11, a12, a13, a14⟩⟩).n.a)), .lit (.int .i64 (H Int fun _ => (mapF (fun _ => 1) ⟨⟨a0, a1, a2, a3⟩, a4, a5, a6, ⟨a7, a8, a9, a10⟩, ⟨a11, a12, a13, a14⟩⟩).n.t)), .lit (.int .i64 (H Int fun _ => (mapF (fun _ => 1) ⟨⟨a0, a1, a2, a3⟩, a4, a5, a6, ⟨a7, a8, a9, a10⟩, ⟨a11, a12, a13, a14⟩⟩).r.c)), .lit (.int .i64 (H Int fun _ => (mapF (fun _ => 1) ⟨⟨a0, a1, a2, a3⟩, a4, a5, a6, ⟨a7, a8, a9, a10⟩, ⟨a11, a12, a13, a14⟩⟩).r.k)), .lit (.int .i64 (H Int fun _ => (mapF (fun _ => 1) ⟨⟨a0, a1, a2, a3⟩, a4, a5, a6, ⟨a7, a8, a9, a10⟩, ⟨a11, a12, a13, a14⟩⟩).r.a)), .lit (.int .i64 (H Int fun _ => (mapF (fun _ => 1) ⟨⟨a0, a1, a2, a3⟩, a4, a5, a6, ⟨a7, a8, a9, a10⟩, ⟨a11, a12, a13, a14⟩⟩).r.t))], []) else none
  | _ => none
theorem eok_mapO : EntryOk Try.prog e_mapO := pureE_ok (by unfold isBody; kernel_rfl) (by
  intro a r ob e hob
  split at e
  · rename_i a0 a1 a2 a3 a4 a5 a6 a7 a8 a9 a10 a11 a12 a13 a14 b c
    cases hbc : (b.isEmpty && c.isEmpty) with
    | false => rw [hbc] at e; simp at e
    | true =>
      rw [hbc] at e
      simp only [cond_true, Option.some.injEq, Prod.mk.injEq] at e
      obtain ⟨rfl, rfl⟩ := e
      simp at hbc
      obtain ⟨rfl, rfl⟩ := hbc
      exact c_mapO ⟨⟨a0, a1, a2, a3⟩, a4, a5, a6, ⟨a7, a8, a9, a10⟩, ⟨a11, a12, a13, a14⟩⟩
  · simp at e)
def sameA (a b : Arm) : Bool := decide (a.f.d = b.f.d) && decide (a.f.l = b.f.l) && decide (a.f.p = b.f.p) && decide (a.f.q = b.f.q) && decide (a.o = b.o) && decide (a.l = b.l) && decide (a.t = b.t) && decide (a.n.c = b.n.c) && decide (a.n.k = b.n.k) && decide (a.n.a = b.n.a) && decide (a.n.t = b.n.t) && decide (a.r.c = b.r.c) && decide (a.r.k = b.r.k) && decide (a.r.a = b.r.a) && decide (a.r.t = b.r.t)
theorem sameA_iff {a b : Arm} : sameA a b = true ↔ a = b := by
  obtain ⟨⟨a0, a1, a2, a3⟩, a4, a5, a6, ⟨a7, a8, a9, a10⟩, ⟨a11, a12, a13, a14⟩⟩ := a
  obtain ⟨⟨b0, b1, b2, b3⟩, b4, b5, b6, ⟨b7, b8, b9, b10⟩, ⟨b11, b12, b13, b14⟩⟩ := b
  simp [sameA, and_assoc]
theorem allA (a b : Arm) : allT [fun _ => a.f.d == b.f.d, fun _ => a.f.l == b.f.l, fun _ => a.f.p == b.f.p, fun _ => a.f.q == b.f.q, fun _ => a.o == b.o, fun _ => a.l == b.l, fun _ => a.t == b.t, fun _ => a.n.c == b.n.c, fun _ => a.n.k == b.n.k, fun _ => a.n.a == b.n.a, fun _ => a.n.t == b.n.t, fun _ => a.r.c == b.r.c, fun _ => a.r.k == b.r.k, fun _ => a.r.a == b.r.a, fun _ => a.r.t == b.r.t] = sameA a b := by
  simp [allT, sameA, beqd, Bool.and_assoc]
def one1 (_ : Int) : Int := 1
theorem c_SameShape (a : Arm) (e : Arm)  : Con Try.prog 21 [.agg [.lit (.int .i64 (a).f.d), .lit (.int .i64 (a).f.l), .lit (.int .i64 (a).f.p), .lit (.int .i64 (a).f.q), .lit (.int .i64 (a).o), .lit (.int .i64 (a).l), .lit (.int .i64 (a).t), .lit (.int .i64 (a).n.c), .lit (.int .i64 (a).n.k), .lit (.int .i64 (a).n.a), .lit (.int .i64 (a).n.t), .lit (.int .i64 (a).r.c), .lit (.int .i64 (a).r.k), .lit (.int .i64 (a).r.a), .lit (.int .i64 (a).r.t)], .agg [.lit (.int .i64 (e).f.d), .lit (.int .i64 (e).f.l), .lit (.int .i64 (e).f.p), .lit (.int .i64 (e).f.q), .lit (.int .i64 (e).o), .lit (.int .i64 (e).l), .lit (.int .i64 (e).t), .lit (.int .i64 (e).n.c), .lit (.int .i64 (e).n.k), .lit (.int .i64 (e).n.a), .lit (.int .i64 (e).n.t), .lit (.int .i64 (e).r.c), .lit (.int .i64 (e).r.k), .lit (.int .i64 (e).r.a), .lit (.int .i64 (e).r.t)]] [] (.tup [.lit (.bool (okA a && okA e && sameA (mapF (fun _ => 1) a) (mapF (fun _ => 1) e))), .lit (.bool (okA a && okA e))]) [] := by
  obtain ⟨⟨a0, a1, a2, a3⟩, a4, a5, a6, ⟨a7, a8, a9, a10⟩, ⟨a11, a12, a13, a14⟩⟩ := a
  obtain ⟨⟨e0, e1, e2, e3⟩, e4, e5, e6, ⟨e7, e8, e9, e10⟩, ⟨e11, e12, e13, e14⟩⟩ := e
  have hB : Base Try.prog (tabΓ [e_IsValidArms, e_mapO]) tab := base_of tabOk (ents_cons eok_IsValidArms <| ents_cons eok_mapO <| ents_nil)
  refine con_eq (N := 22) hB (draw_ok hB mixed) Try.func21 rfl rfl _ _ 120 (by simp) (by intro x hx; simp only [List.mem_cons, List.not_mem_nil, or_false] at hx; rcases hx with rfl | rfl <;> (first | (first | exact .lit | exact blq_ok 4 rfl) | exact .vec (fun j hj x hx => by simp [vrow] at hx; subst hx; exact .lit))) (by (first | exact .lit | exact blq_ok 4 rfl)) ?_
  intro H hH
  conv in finish _ _ _ _ _ _ _ _ => cbv
  subst hH
  simp only [Fin.sat0, Fin.sat1, stdH, Option.some.injEq, AV.lit.injEq, AV.agg.injEq, AV.tup.injEq, List.cons.injEq, Value.bool.injEq, Value.int.injEq, AllP, and_true, true_and, eq_self, decide_eq_true_eq, decide_eq_false_iff_not, Bool.not_eq_true', Bool.not_eq_false', peta, ncast]
  rw [allA]
  generalize sameA _ _ = s
  generalize okA _ = b1
  generalize okA _ = b2
  cases b1 <;> cases b2 <;> simp
noncomputable def e_SameShape : Entry := pureE 21 fun H a => match a with
  | [.agg [.lit (.int .i64 a0), .lit (.int .i64 a1), .lit (.int .i64 a2), .lit (.int .i64 a3), .lit (.int .i64 a4), .lit (.int .i64 a5), .lit (.int .i64 a6), .lit (.int .i64 a7), .lit (.int .i64 a8), .lit (.int .i64 a9), .lit (.int .i64 a10), .lit (.int .i64 a11), .lit (.int .i64 a12), .lit (.int .i64 a13), .lit (.int .i64 a14)], .agg [.lit (.int .i64 e0), .lit (.int .i64 e1), .lit (.int .i64 e2), .lit (.int .i64 e3), .lit (.int .i64 e4), .lit (.int .i64 e5), .lit (.int .i64 e6), .lit (.int .i64 e7), .lit (.int .i64 e8), .lit (.int .i64 e9), .lit (.int .i64 e10), .lit (.int .i64 e11), .lit (.int .i64 e12), .lit (.int .i64 e13), .lit (.int .i64 e14)]] => some (.tup [.lit (.bool (H Bool fun _ => (okA (⟨⟨a0, a1, a2, a3⟩, a4, a5, a6, ⟨a7, a8, a9, a10⟩, ⟨a11, a12, a13, a14⟩⟩ : Arm) && okA (⟨⟨e0, e1, e2, e3⟩, e4, e5, e6, ⟨e7, e8, e9, e10⟩, ⟨e11, e12, e13, e14⟩⟩ : Arm) && sameA (mapF (fun _ => 1) (⟨⟨a0, a1, a2, a3⟩, a4, a5, a6, ⟨a7, a8, a9, a10⟩, ⟨a11, a12, a13, a14⟩⟩ : Arm)) (mapF (fun _ => 1) (⟨⟨e0, e1, e2, e3⟩, e4, e5, e6, ⟨e7, e8, e9, e10⟩, ⟨e11, e12, e13, e14⟩⟩ : Arm))))), .lit (.bool (H Bool fun _ => (okA (⟨⟨a0, a1, a2, a3⟩, a4, a5, a6, ⟨a7, a8, a9, a10⟩, ⟨a11, a12, a13, a14⟩⟩ : Arm) && okA (⟨⟨e0, e1, e2, e3⟩, e4, e5, e6, ⟨e7, e8, e9, e10⟩, ⟨e11, e12, e13, e14⟩⟩ : Arm))))], [])
  | _ => none
theorem eok_SameShape : EntryOk Try.prog e_SameShape := pureE_ok (by unfold isBody; kernel_rfl) (by
  intro a r ob e hob
  split at e
  · rename_i a0 a1 a2 a3 a4 a5 a6 a7 a8 a9 a10 a11 a12 a13 a14 e0 e1 e2 e3 e4 e5 e6 e7 e8 e9 e10 e11 e12 e13 e14
    simp only [Option.some.injEq, Prod.mk.injEq] at e
    obtain ⟨rfl, rfl⟩ := e
    exact c_SameShape (⟨⟨a0, a1, a2, a3⟩, a4, a5, a6, ⟨a7, a8, a9, a10⟩, ⟨a11, a12, a13, a14⟩⟩ : Arm) (⟨⟨e0, e1, e2, e3⟩, e4, e5, e6, ⟨e7, e8, e9, e10⟩, ⟨e11, e12, e13, e14⟩⟩ : Arm)
  · simp at e)

end Go.Proofs.Ythacffbofjfcjaa.AM
