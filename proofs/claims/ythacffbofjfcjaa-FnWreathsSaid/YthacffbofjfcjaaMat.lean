import Derived.Test.YthacffbofjfcjaaRow
import Derived.Test.YthacffbofjfcjaaDrC
set_option linter.unusedVariables false
set_option linter.unusedSimpArgs false
set_option maxRecDepth 100000
set_option maxHeartbeats 4000000
set_option cbv.maxSteps 3000000
namespace Go.Proofs.Ythacffbofjfcjaa.AM
/- Whether a crest matches arms; lists of numbers compared; conditions: none. -/
def matF (z : Crs) (a : Arm) : Bool := (decide (a.n.k = z.k) || decide (a.r.k = z.k)) && (decide (z.t = wreM (tinA a)) || decide (z.t = wreC (tinA a)))
theorem c_MatchesArms (z : Crs) (a : Arm)  : Con Try.prog 49 [.agg [.lit (.int .i64 (z).k), .lit (.int .i64 (z).a), .lit (.int .i64 (z).t), .lit (.int .i64 (z).r)], .agg [.lit (.int .i64 (a).f.d), .lit (.int .i64 (a).f.l), .lit (.int .i64 (a).f.p), .lit (.int .i64 (a).f.q), .lit (.int .i64 (a).o), .lit (.int .i64 (a).l), .lit (.int .i64 (a).t), .lit (.int .i64 (a).n.c), .lit (.int .i64 (a).n.k), .lit (.int .i64 (a).n.a), .lit (.int .i64 (a).n.t), .lit (.int .i64 (a).r.c), .lit (.int .i64 (a).r.k), .lit (.int .i64 (a).r.a), .lit (.int .i64 (a).r.t)]] [] (.tup [.lit (.bool (okC z && okA a && matF z a)), .lit (.bool (okC z && okA a))]) [] := by
  obtain ⟨z0, z1, z2, z3⟩ := z
  obtain ⟨⟨a0, a1, a2, a3⟩, a4, a5, a6, ⟨a7, a8, a9, a10⟩, ⟨a11, a12, a13, a14⟩⟩ := a
  have hB : Base Try.prog (tabΓ [e_IsValidCrest, e_IsValidArms, e_wreath]) tab := base_of tabOk (ents_cons eok_IsValidCrest <| ents_cons eok_IsValidArms <| ents_cons eok_wreath <| ents_nil)
  refine con_eq (N := 47) hB (draw_ok hB mixed) Try.func49 rfl rfl _ _ 150 (by simp) (by intro x hx; simp only [List.mem_cons, List.not_mem_nil, or_false] at hx; rcases hx with rfl | rfl <;> (first | (first | exact .lit | exact blq_ok 4 rfl) | exact .vec (fun j hj x hx => by simp [vrow] at hx; subst hx; exact .lit))) (by (first | exact .lit | exact blq_ok 4 rfl)) ?_
  intro H hH
  conv in finish _ _ _ _ _ _ _ _ => cbv
  subst hH
  simp only [Fin.sat0, Fin.sat1, stdH, Option.some.injEq, AV.lit.injEq, AV.agg.injEq, AV.tup.injEq, List.cons.injEq, Value.bool.injEq, Value.int.injEq, AllP, and_true, true_and, eq_self, decide_eq_true_eq, decide_eq_false_iff_not, Bool.not_eq_true', Bool.not_eq_false', peta, ncast]
  simp only [matF, beqd, bifF, bifT]
  generalize okC _ = b1
  generalize okA _ = b2
  cases b1 <;> cases b2 <;> simp
noncomputable def e_MatchesArms : Entry := pureE 49 fun H a => match a with
  | [.agg [.lit (.int .i64 z0), .lit (.int .i64 z1), .lit (.int .i64 z2), .lit (.int .i64 z3)], .agg [.lit (.int .i64 a0), .lit (.int .i64 a1), .lit (.int .i64 a2), .lit (.int .i64 a3), .lit (.int .i64 a4), .lit (.int .i64 a5), .lit (.int .i64 a6), .lit (.int .i64 a7), .lit (.int .i64 a8), .lit (.int .i64 a9), .lit (.int .i64 a10), .lit (.int .i64 a11), .lit (.int .i64 a12), .lit (.int .i64 a13), .lit (.int .i64 a14)]] => some (.tup [.lit (.bool (H Bool fun _ => (okC (⟨z0, z1, z2, z3⟩ : Crs) && okA (⟨⟨a0, a1, a2, a3⟩, a4, a5, a6, ⟨a7, a8, a9, a10⟩, ⟨a11, a12, a13, a14⟩⟩ : Arm) && matF (⟨z0, z1, z2, z3⟩ : Crs) (⟨⟨a0, a1, a2, a3⟩, a4, a5, a6, ⟨a7, a8, a9, a10⟩, ⟨a11, a12, a13, a14⟩⟩ : Arm)))), .lit (.bool (H Bool fun _ => (okC (⟨z0, z1, z2, z3⟩ : Crs) && okA (⟨⟨a0, a1, a2, a3⟩, a4, a5, a6, ⟨a7, a8, a9, a10⟩, ⟨a11, a12, a13, a14⟩⟩ : Arm))))], [])
  | _ => none
theorem eok_MatchesArms : EntryOk Try.prog e_MatchesArms := pureE_ok (by unfold isBody; kernel_rfl) (by
  intro a r ob e hob
  split at e
  · rename_i z0 z1 z2 z3 a0 a1 a2 a3 a4 a5 a6 a7 a8 a9 a10 a11 a12 a13 a14
    simp only [Option.some.injEq, Prod.mk.injEq] at e
    obtain ⟨rfl, rfl⟩ := e
    exact c_MatchesArms (⟨z0, z1, z2, z3⟩ : Crs) (⟨⟨a0, a1, a2, a3⟩, a4, a5, a6, ⟨a7, a8, a9, a10⟩, ⟨a11, a12, a13, a14⟩⟩ : Arm)
  · simp at e)
theorem c_MatchesArmsS (z : Crs) (a : Arm)  : Con Try.prog 50 [.agg [.lit (.int .i64 (z).k), .lit (.int .i64 (z).a), .lit (.int .i64 (z).t), .lit (.int .i64 (z).r)], .agg [.lit (.int .i64 (a).f.d), .lit (.int .i64 (a).f.l), .lit (.int .i64 (a).f.p), .lit (.int .i64 (a).f.q), .lit (.int .i64 (a).o), .lit (.int .i64 (a).l), .lit (.int .i64 (a).t), .lit (.int .i64 (a).n.c), .lit (.int .i64 (a).n.k), .lit (.int .i64 (a).n.a), .lit (.int .i64 (a).n.t), .lit (.int .i64 (a).r.c), .lit (.int .i64 (a).r.k), .lit (.int .i64 (a).r.a), .lit (.int .i64 (a).r.t)]] [] (.tup [.lit (.bool (okC z && okA a && matF z a)), .lit (.bool (okC z && okA a))]) [] := by
  obtain ⟨z0, z1, z2, z3⟩ := z
  obtain ⟨⟨a0, a1, a2, a3⟩, a4, a5, a6, ⟨a7, a8, a9, a10⟩, ⟨a11, a12, a13, a14⟩⟩ := a
  have hB : Base Try.prog (tabΓ [e_l22Good, e_l5Good, e_l22Wreath, e_l4None]) tab := base_of tabOk (ents_cons eok_l22Good <| ents_cons eok_l5Good <| ents_cons eok_l22Wreath <| ents_cons eok_l4None <| ents_nil)
  refine con_eq (N := 61) hB (draw_ok hB mixed) Try.func50 rfl rfl _ _ 150 (by simp) (by intro x hx; simp only [List.mem_cons, List.not_mem_nil, or_false] at hx; rcases hx with rfl | rfl <;> (first | (first | exact .lit | exact blq_ok 4 rfl) | exact .vec (fun j hj x hx => by simp [vrow] at hx; subst hx; exact .lit))) (by (first | exact .lit | exact blq_ok 4 rfl)) ?_
  intro H hH
  conv in finish _ _ _ _ _ _ _ _ => cbv
  subst hH
  simp only [Fin.sat0, Fin.sat1, stdH, Option.some.injEq, AV.lit.injEq, AV.agg.injEq, AV.tup.injEq, List.cons.injEq, Value.bool.injEq, Value.int.injEq, AllP, and_true, true_and, eq_self, decide_eq_true_eq, decide_eq_false_iff_not, Bool.not_eq_true', Bool.not_eq_false', peta, ncast]
  cases h1 : okC ⟨z0, z1, z2, z3⟩
  · generalize okA _ = b2
    cases b2 <;> simp
  · cases h2 : okA ⟨⟨a0, a1, a2, a3⟩, a4, a5, a6, ⟨a7, a8, a9, a10⟩, ⟨a11, a12, a13, a14⟩⟩
    · simp
    · rw [tinS_eq h2]
      have hk : z0 ≠ 0 := by simp only [okC, okG, attF, Bool.and_eq_true, inB, decide_eq_true_eq] at h1; omega
      have e : ∀ g : Grp, (bif !noG g then decide (g.k = z0) else false) = decide (g.k = z0) := fun g => by
        cases hn : noG g
        · rfl
        · simp only [noG, Bool.and_eq_true, decide_eq_true_eq] at hn
          have : ¬ g.k = z0 := by omega
          simp [this]
      have e1 := e ⟨a7, a8, a9, a10⟩
      have e2 := e ⟨a11, a12, a13, a14⟩
      simp only [matF, beqd] at e1 e2 ⊢
      rw [e1, e2]
      simp only [bifF, bifT]
      simp
noncomputable def e_MatchesArmsS : Entry := pureE 50 fun H a => match a with
  | [.agg [.lit (.int .i64 z0), .lit (.int .i64 z1), .lit (.int .i64 z2), .lit (.int .i64 z3)], .agg [.lit (.int .i64 a0), .lit (.int .i64 a1), .lit (.int .i64 a2), .lit (.int .i64 a3), .lit (.int .i64 a4), .lit (.int .i64 a5), .lit (.int .i64 a6), .lit (.int .i64 a7), .lit (.int .i64 a8), .lit (.int .i64 a9), .lit (.int .i64 a10), .lit (.int .i64 a11), .lit (.int .i64 a12), .lit (.int .i64 a13), .lit (.int .i64 a14)]] => some (.tup [.lit (.bool (H Bool fun _ => (okC (⟨z0, z1, z2, z3⟩ : Crs) && okA (⟨⟨a0, a1, a2, a3⟩, a4, a5, a6, ⟨a7, a8, a9, a10⟩, ⟨a11, a12, a13, a14⟩⟩ : Arm) && matF (⟨z0, z1, z2, z3⟩ : Crs) (⟨⟨a0, a1, a2, a3⟩, a4, a5, a6, ⟨a7, a8, a9, a10⟩, ⟨a11, a12, a13, a14⟩⟩ : Arm)))), .lit (.bool (H Bool fun _ => (okC (⟨z0, z1, z2, z3⟩ : Crs) && okA (⟨⟨a0, a1, a2, a3⟩, a4, a5, a6, ⟨a7, a8, a9, a10⟩, ⟨a11, a12, a13, a14⟩⟩ : Arm))))], [])
  | _ => none
theorem eok_MatchesArmsS : EntryOk Try.prog e_MatchesArmsS := pureE_ok (by unfold isBody; kernel_rfl) (by
  intro a r ob e hob
  split at e
  · rename_i z0 z1 z2 z3 a0 a1 a2 a3 a4 a5 a6 a7 a8 a9 a10 a11 a12 a13 a14
    simp only [Option.some.injEq, Prod.mk.injEq] at e
    obtain ⟨rfl, rfl⟩ := e
    exact c_MatchesArmsS (⟨z0, z1, z2, z3⟩ : Crs) (⟨⟨a0, a1, a2, a3⟩, a4, a5, a6, ⟨a7, a8, a9, a10⟩, ⟨a11, a12, a13, a14⟩⟩ : Arm)
  · simp at e)
def eqI (n : Nat) (f : Nat → Int) (m : Nat) (g : Nat → Int) : Bool := decide (n = m) && decide (∀ j, j < n → f j = g j)
theorem c_rInts (n : Nat) (f : Nat → Int) (m : Nat) (g : Nat → Int) (hn : n ≤ 100000) : Con Try.prog 45 [.vec 1 n (vrow f), .vec 1 m (vrow g)] [] (.lit (.bool (eqI n f m g))) [] := by
  have hB : Base Try.prog (tabΓ []) tab := base_of tabOk (ents_nil)
  refine con_ok (N := 26) hB (draw_ok hB mixed) Try.func45 rfl rfl _ _ 0 _ _ 100 (by simp) (by intro x hx; simp only [List.mem_cons, List.not_mem_nil, or_false] at hx; rcases hx with rfl | rfl <;> exact vrow_bl _ _ _ _) (by simp [lk]) .lit (by simp) ?_
  intro X hX H hH
  conv in finish _ _ _ _ _ _ _ _ => cbv
  subst hH
  simp only [Fin.sat_ret, Fin.sat_br, Fin.sat_need, AllP, stdH, and_true, true_and, ncast, Int.ofNat_eq_natCast, leafB, bned, Bool.not_eq_true', decide_eq_false_iff_not, Bool.not_eq_false', decide_eq_true_eq]
  refine ⟨fun h => ?_, fun h => ?_⟩
  · have : ¬ n = m := by omega
    simp [eqI, this]
  obtain rfl : n = m := by omega
  refine loop_sat hB (draw_ok hB mixed) hX (ι := { i : Nat // i ≤ n ∧ ∀ j, j < i → f j = g j }) 100 (fun H i => ⟨[(0, .vec 1 (H Nat fun _ => n) (vrow (H (Nat → Int) fun _ => f))), (1, .vec 1 (H Nat fun _ => n) (vrow (H (Nat → Int) fun _ => g))), (5, .lit (.int .i64 (H Int fun _ => i.1)))], [], X.n0⟩) (fun i => n - i.1) ⟨0, Nat.zero_le _, by omega⟩ ?_ ?_
  · refine .of fun p hp => ?_
    simp only [List.mem_cons, List.not_mem_nil, or_false] at hp
    rcases hp with rfl | rfl | rfl
    · exact ⟨rfl, vrow_bl _ _ _ _⟩
    · exact ⟨rfl, vrow_bl _ _ _ _⟩
    · exact ⟨rfl, .lit⟩
  · rintro ⟨i, hi, hj⟩ H hH
    conv in finish _ _ _ _ _ _ _ _ => cbv
    subst hH
    simp only [Fin.sat_ret, Fin.sat_br, Fin.sat_need, Fin.sat_again, AllP, stdH, and_true, true_and, ncast, Int.ofNat_eq_natCast, leafB, bned, Bool.not_eq_true', decide_eq_false_iff_not, Bool.not_eq_false', decide_eq_true_eq]
    have e1 : ((i : Int)).toNat = i := rfl
    simp only [e1]
    refine ⟨fun hlt => ⟨by omega, by omega, fun h => ?_, fun h => ?_⟩, fun hge => ?_⟩
    · have : ¬ ∀ j, j < n → f j = g j := fun q => h (q i (by omega))
      simp [eqI, this]
    · simp only [upd, List.length_nil, Nat.zero_add, if_true]
      have e2 : IntKind.i64.wrap ((i : Int) + 1) = ((i + 1 : Nat) : Int) := by rw [wi] <;> omega
      refine ⟨⟨i + 1, by omega, fun j hj' => ?_⟩, by simp only; omega, .of fun p hp => ?_⟩
      · rcases Nat.lt_or_ge j i with hji | hji
        · exact hj j hji
        · obtain rfl : j = i := by omega
          exact h
      · simp only [List.mem_cons, List.not_mem_nil, or_false] at hp
        rcases hp with rfl | rfl | rfl
        · exact ⟨rfl, vrow_bl _ _ _ _⟩
        · exact ⟨rfl, vrow_bl _ _ _ _⟩
        · exact ⟨by rw [e2]; rfl, .lit⟩
    · have : ∀ j, j < n → f j = g j := fun j hjn => hj j (by omega)
      have e : eqI n f n g = true := by unfold eqI; rw [decide_eq_true this]; simp
      rw [e]
def e_rInts : Entry := pureE 45 fun H a => match a with
  | [.vec 1 n f, .vec 1 m g] => some (.lit (.bool (H Bool fun _ => eqI n (ints f) m (ints g))), [H Prop fun _ => n ≤ 100000, H Prop fun _ => ∀ j, j < n → f j = vrow (ints f) j, H Prop fun _ => ∀ j, j < m → g j = vrow (ints g) j])
  | _ => none
theorem eok_rInts : EntryOk Try.prog e_rInts := pureE_ok (by unfold isBody; kernel_rfl) (by
  intro a r ob e hob
  split at e
  · simp only [Option.some.injEq, Prod.mk.injEq] at e
    obtain ⟨rfl, rfl⟩ := e
    obtain ⟨h0, h1, h2, _⟩ := hob
    exact Con.args (fun C vs hl => (hl.vec0 h1).vec1 h2) (c_rInts _ _ _ _ h0)
  · simp at e)

end Go.Proofs.Ythacffbofjfcjaa.AM
