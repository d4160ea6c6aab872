/- Lemmas and contracts (Dif); conditions: none. -/
import Derived.Test.YtigkdbhcjjjjkaaK16
set_option linter.unusedVariables false
set_option linter.unusedSimpArgs false
set_option linter.unusedVariables false
set_option linter.unusedSimpArgs false
set_option maxRecDepth 100000
set_option maxHeartbeats 4000000
set_option cbv.maxSteps 3000000
namespace Go.Proofs.Ytigkdbhcjjjjkaa.AM
/- How arms differ; conditions: none. -/
def nB (b : Bool) : Int := bif b then 1 else 0
def eqI (n : Nat) (f : Nat → Int) (m : Nat) (g : Nat → Int) : Bool := decide (n = m) && decide (∀ j, j < n → f j = g j)
theorem ints_vrow (g : Nat → Int) : ints (vrow g) = g := rfl
theorem eqI_list (l m : List Int) : eqI l.length (lget l) m.length (lget m) = decide (l = m) := by
  unfold eqI
  rw [Bool.eq_iff_iff]
  simp only [Bool.and_eq_true, decide_eq_true_eq]
  constructor
  · rintro ⟨h1, h2⟩
    refine List.ext_getElem h1 fun i hi hj => ?_
    have := h2 i hi
    simpa [lget, List.getElem?_eq_getElem hi, List.getElem?_eq_getElem hj] using this
  · rintro rfl; exact ⟨rfl, fun _ _ => rfl⟩
theorem c_numB (x : Bool)  : Con Try.prog 60 [.lit (.bool x)] [] (.lit (.int .i64 (nB x))) [] := by
  have hB : Base Try.prog (tabΓ []) tab := base_of tabOk (ents_nil)
  refine con_eq (N := 4) hB (draw_ok hB mixed) Try.func60 rfl rfl _ _ 50 (by simp) (by intro x hx; simp only [List.mem_cons, List.not_mem_nil, or_false] at hx; rcases hx with rfl <;> (first | (first | exact .lit | exact blq_ok 4 rfl) | exact .vec (fun j hj x hx => by simp [vrow] at hx; subst hx; exact .lit))) (by (first | exact .lit | exact blq_ok 4 rfl)) ?_
  intro H hH
  conv in finish _ _ _ _ _ _ _ _ => cbv
  subst hH
  simp only [Fin.sat0, Fin.sat1, stdH, Option.some.injEq, AV.lit.injEq, AV.agg.injEq, AV.tup.injEq, List.cons.injEq, Value.bool.injEq, Value.int.injEq, AllP, and_true, true_and, eq_self, decide_eq_true_eq, decide_eq_false_iff_not, Bool.not_eq_true', Bool.not_eq_false', peta, ncast]
  cases x <;> simp [nB]
noncomputable def e_numB : Entry := pureE 60 fun H a => match a with
  | [.lit (.bool x)] => some (.lit (.int .i64 (H Int fun _ => (nB x))), [])
  | _ => none
theorem eok_numB : EntryOk Try.prog e_numB := pureE_ok (by unfold isBody; kernel_rfl) (by
  intro a r ob e hob
  split at e
  · simp only [Option.some.injEq, Prod.mk.injEq] at e
    obtain ⟨rfl, rfl⟩ := e
    exact c_numB _
  · simp at e)
theorem c_l1Same (n : Nat) (f : Nat → Int) (m : Nat) (g : Nat → Int) (hn : n ≤ 100000) : Con Try.prog 104 [.vec 1 n (vrow f), .vec 1 m (vrow g)] [] (.lit (.bool (eqI n f m g))) [] := by
  have hB : Base Try.prog (tabΓ []) tab := base_of tabOk (ents_nil)
  refine con_ok (N := 26) hB (draw_ok hB mixed) Try.func104 rfl rfl _ _ 0 _ _ 100 (by simp) (by intro x hx; simp only [List.mem_cons, List.not_mem_nil, or_false] at hx; rcases hx with rfl | rfl <;> exact vrow_bl _ _ _ _) (by simp [lk]) .lit (by simp) ?_
  intro X hX H hH
  conv in finish _ _ _ _ _ _ _ _ => cbv
  subst hH
  simp only [Fin.sat_ret, Fin.sat_br, Fin.sat_need, Fin.sat_again, AllP, stdH, and_true, true_and, ncast, Int.ofNat_eq_natCast, leafB, bned, Bool.not_eq_true', decide_eq_false_iff_not, Bool.not_eq_false', decide_eq_true_eq]
  refine ⟨fun h => ?_, fun h => ?_⟩
  · have : ¬ n = m := by omega
    simp [eqI, this]
  obtain rfl : n = m := by omega
  refine loop_sat hB (draw_ok hB mixed) hX (ι := { i : Nat // i ≤ n ∧ ∀ j, j < i → f j = g j }) 100 (fun H i => ⟨[(0, .vec 1 (H Nat fun _ => n) (vrow (H (Nat → Int) fun _ => f))), (1, .vec 1 (H Nat fun _ => n) (vrow (H (Nat → Int) fun _ => g))), (5, .lit (.int .i64 (H Int fun _ => i.1)))], [], X.n0⟩) (fun i => n - i.1) ⟨0, Nat.zero_le _, by omega⟩ ?_ ?_
  · refine .of fun p hp => ?_
    simp only [List.mem_cons, List.not_mem_nil, or_false] at hp
    rcases hp with rfl | rfl | rfl
    · exact ⟨rfl, vrow_bl _ _ _ _⟩
    · exact ⟨rfl, vrow_bl _ _ _ _⟩
    · exact ⟨rfl, .lit⟩
  · rintro ⟨i, hi, hj⟩ H hH
    conv in finish _ _ _ _ _ _ _ _ => cbv
    subst hH
    simp only [Fin.sat_ret, Fin.sat_br, Fin.sat_need, Fin.sat_again, AllP, stdH, and_true, true_and, ncast, Int.ofNat_eq_natCast, leafB, bned, Bool.not_eq_true', decide_eq_false_iff_not, Bool.not_eq_false', decide_eq_true_eq]
    have e1 : ((i : Int)).toNat = i := rfl
    simp only [e1]
    refine ⟨fun hlt => ⟨by omega, by omega, fun h => ?_, fun h => ?_⟩, fun hge => ?_⟩
    · have : ¬ ∀ j, j < n → f j = g j := fun q => h (q i (by omega))
      simp [eqI, this]
    · simp only [upd, List.length_nil, Nat.zero_add, if_true]
      have e2 : IntKind.i64.wrap ((i : Int) + 1) = ((i + 1 : Nat) : Int) := by rw [wi] <;> omega
      refine ⟨⟨i + 1, by omega, fun j hj' => ?_⟩, by simp only; omega, .of fun p hp => ?_⟩
      · rcases Nat.lt_or_ge j i with hji | hji
        · exact hj j hji
        · obtain rfl : j = i := by omega
          exact h
      · simp only [List.mem_cons, List.not_mem_nil, or_false] at hp
        rcases hp with rfl | rfl | rfl
        · exact ⟨rfl, vrow_bl _ _ _ _⟩
        · exact ⟨rfl, vrow_bl _ _ _ _⟩
        · exact ⟨by rw [e2]; rfl, .lit⟩
    · have : ∀ j, j < n → f j = g j := fun j hjn => hj j (by omega)
      have e : eqI n f n g = true := by unfold eqI; rw [decide_eq_true this]; simp
      rw [e]
def e_l1Same : Entry := pureE 104 fun H a => match a with
  | [.vec 1 n f, .vec 1 m g] => some (.lit (.bool (H Bool fun _ => eqI n (ints f) m (ints g))), [H Prop fun _ => n ≤ 100000, H Prop fun _ => ∀ j, j < n → f j = vrow (ints f) j, H Prop fun _ => ∀ j, j < m → g j = vrow (ints g) j])
  | _ => none
theorem eok_l1Same : EntryOk Try.prog e_l1Same := pureE_ok (by unfold isBody; kernel_rfl) (by
  intro a r ob e hob
  split at e
  · simp only [Option.some.injEq, Prod.mk.injEq] at e
    obtain ⟨rfl, rfl⟩ := e
    obtain ⟨h0, h1, h2, _⟩ := hob
    exact Con.args (fun C vs hl => (hl.vec0 h1).vec1 h2) (c_l1Same _ _ _ _ h0)
  · simp at e)
theorem c_Equal (n : Nat) (f : Nat → Int) (m : Nat) (g : Nat → Int) (hn : n ≤ 100000) : Con Try.prog 87 [.vec 1 n (vrow f), .vec 1 m (vrow g)] [] (.lit (.bool (eqI n f m g))) [] := by
  have hB : Base Try.prog (tabΓ []) tab := base_of tabOk (ents_nil)
  refine con_ok (N := 26) hB (draw_ok hB mixed) Try.func87 rfl rfl _ _ 0 _ _ 100 (by simp) (by intro x hx; simp only [List.mem_cons, List.not_mem_nil, or_false] at hx; rcases hx with rfl | rfl <;> exact vrow_bl _ _ _ _) (by simp [lk]) .lit (by simp) ?_
  intro X hX H hH
  conv in finish _ _ _ _ _ _ _ _ => cbv
  subst hH
  simp only [Fin.sat_ret, Fin.sat_br, Fin.sat_need, Fin.sat_again, AllP, stdH, and_true, true_and, ncast, Int.ofNat_eq_natCast, leafB, bned, Bool.not_eq_true', decide_eq_false_iff_not, Bool.not_eq_false', decide_eq_true_eq]
  refine ⟨fun h => ?_, fun h => ?_⟩
  · have : ¬ n = m := by omega
    simp [eqI, this]
  obtain rfl : n = m := by omega
  refine loop_sat hB (draw_ok hB mixed) hX (ι := { i : Nat // i ≤ n ∧ ∀ j, j < i → f j = g j }) 100 (fun H i => ⟨[(0, .vec 1 (H Nat fun _ => n) (vrow (H (Nat → Int) fun _ => f))), (1, .vec 1 (H Nat fun _ => n) (vrow (H (Nat → Int) fun _ => g))), (12, .lit (.int .i64 (H Int fun _ => (n : Nat)))), (13, .lit (.int .i64 (H Int fun _ => i.1)))], [], X.n0⟩) (fun i => n - i.1) ⟨0, Nat.zero_le _, by omega⟩ ?_ ?_
  · refine .of fun p hp => ?_
    simp only [List.mem_cons, List.not_mem_nil, or_false] at hp
    rcases hp with rfl | rfl | rfl | rfl
    · exact ⟨rfl, vrow_bl _ _ _ _⟩
    · exact ⟨rfl, vrow_bl _ _ _ _⟩
    · exact ⟨rfl, .lit⟩
    · exact ⟨rfl, .lit⟩
  · rintro ⟨i, hi, hj⟩ H hH
    conv in finish _ _ _ _ _ _ _ _ => cbv
    subst hH
    simp only [Fin.sat_ret, Fin.sat_br, Fin.sat_need, Fin.sat_again, AllP, stdH, and_true, true_and, ncast, Int.ofNat_eq_natCast, leafB, bned, Bool.not_eq_true', decide_eq_false_iff_not, Bool.not_eq_false', decide_eq_true_eq]
    have e1 : ((i : Int)).toNat = i := rfl
    simp only [e1]
    refine ⟨fun hlt => ⟨by omega, by omega, fun h => ?_, fun h => ?_⟩, fun hge => ?_⟩
    · have : ¬ ∀ j, j < n → f j = g j := fun q => h (q i (by omega))
      simp [eqI, this]
    · simp only [upd, List.length_nil, Nat.zero_add, if_true]
      have e2 : IntKind.i64.wrap ((i : Int) + 1) = ((i + 1 : Nat) : Int) := by rw [wi] <;> omega
      refine ⟨⟨i + 1, by omega, fun j hj' => ?_⟩, by simp only; omega, .of fun p hp => ?_⟩
      · rcases Nat.lt_or_ge j i with hji | hji
        · exact hj j hji
        · obtain rfl : j = i := by omega
          exact h
      · simp only [List.mem_cons, List.not_mem_nil, or_false] at hp
        rcases hp with rfl | rfl | rfl | rfl
        · exact ⟨rfl, vrow_bl _ _ _ _⟩
        · exact ⟨rfl, vrow_bl _ _ _ _⟩
        · exact ⟨rfl, .lit⟩
        · exact ⟨by rw [e2]; rfl, .lit⟩
    · have : ∀ j, j < n → f j = g j := fun j hjn => hj j (by omega)
      have e : eqI n f n g = true := by unfold eqI; rw [decide_eq_true this]; simp
      rw [e]
def e_Equal : Entry := pureE 87 fun H a => match a with
  | [.vec 1 n f, .vec 1 m g] => some (.lit (.bool (H Bool fun _ => eqI n (ints f) m (ints g))), [H Prop fun _ => n ≤ 100000, H Prop fun _ => ∀ j, j < n → f j = vrow (ints f) j, H Prop fun _ => ∀ j, j < m → g j = vrow (ints g) j])
  | _ => none
theorem eok_Equal : EntryOk Try.prog e_Equal := pureE_ok (by unfold isBody; kernel_rfl) (by
  intro a r ob e hob
  split at e
  · simp only [Option.some.injEq, Prod.mk.injEq] at e
    obtain ⟨rfl, rfl⟩ := e
    obtain ⟨h0, h1, h2, _⟩ := hob
    exact Con.args (fun C vs hl => (hl.vec0 h1).vec1 h2) (c_Equal _ _ _ _ h0)
  · simp at e)
theorem c_l3Tinctures (f : Fld) : Con Try.prog 105 [.agg [.lit (.int .i64 f.d), .lit (.int .i64 f.l), .lit (.int .i64 f.p), .lit (.int .i64 f.q)]] [] (LF (tinF f)) [] := by
  obtain ⟨f0, f1, f2, f3⟩ := f
  have hB : Base Try.prog (tabΓ []) tab := base_of tabOk (ents_nil)
  refine con_eqF (N := 14) hB (draw_ok hB mixed) Try.func105 rfl rfl _ _ 60 (by simp) (by intro x hx; simp only [List.mem_cons, List.not_mem_nil, or_false] at hx; subst hx; exact blq_ok 4 rfl) (vrow_blf _ _ _ _) ?_
  intro H hH
  conv in finish _ _ _ _ _ _ _ _ => cbv
  subst hH
  simp only [Fin.satF, stdH, beq_iff_eq, beq_eq_false_iff_ne, ne_eq, tinF]
  exact ⟨fun h => ⟨_, rfl, by rw [if_pos h]; exact frz_lit1 _⟩, fun h => ⟨_, rfl, by rw [if_neg h]; exact frz_lit2 _ _⟩⟩
def e_l3Tinctures : Entry := pureE 105 fun H a => match a with
  | [.agg [.lit (.int .i64 f0), .lit (.int .i64 f1), .lit (.int .i64 f2), .lit (.int .i64 f3)]] => some (.ful 1 (H Nat fun _ => (tinF ⟨f0, f1, f2, f3⟩).length) (vrow (H (Nat → Int) fun _ => lget (tinF ⟨f0, f1, f2, f3⟩))), [])
  | _ => none
theorem eok_l3Tinctures : EntryOk Try.prog e_l3Tinctures := pureE_ok (by unfold isBody; kernel_rfl) (by
  intro a r ob e hob
  split at e
  · rename_i f0 f1 f2 f3
    simp only [Option.some.injEq, Prod.mk.injEq] at e
    obtain ⟨rfl, rfl⟩ := e
    exact c_l3Tinctures ⟨f0, f1, f2, f3⟩
  · simp at e)
theorem tinF_len (f : Fld) : (tinF f).length ≤ 100000 := by unfold tinF; split <;> simp
def dF (a b : Fld) : Int := nB (!decide (a.d = b.d)) + nB (!decide (a.l = b.l)) + nB (!decide (tinF a = tinF b))
def eqG (a b : Grp) : Bool := allT [fun _ => a.c == b.c, fun _ => a.k == b.k, fun _ => a.a == b.a, fun _ => a.t == b.t]
theorem c_FieldDifferences (f : Fld) (g : Fld)  : Con Try.prog 58 [.agg [.lit (.int .i64 (f).d), .lit (.int .i64 (f).l), .lit (.int .i64 (f).p), .lit (.int .i64 (f).q)], .agg [.lit (.int .i64 (g).d), .lit (.int .i64 (g).l), .lit (.int .i64 (g).p), .lit (.int .i64 (g).q)]] [] (.tup [.lit (.int .i64 (bif okF f && okF g then dF f g else 0)), .lit (.bool (okF f && okF g))]) [] := by
  obtain ⟨f0, f1, f2, f3⟩ := f
  obtain ⟨g0, g1, g2, g3⟩ := g
  have hB : Base Try.prog (tabΓ [e_IsValidField, e_numB, e_tinF, e_Equal]) tab := base_of tabOk (ents_cons eok_IsValidField <| ents_cons eok_numB <| ents_cons eok_tinF <| ents_cons eok_Equal <| ents_nil)
  refine con_eq (N := 35) hB (draw_ok hB mixed) Try.func58 rfl rfl _ _ 90 (by simp) (by intro x hx; simp only [List.mem_cons, List.not_mem_nil, or_false] at hx; rcases hx with rfl | rfl <;> (first | (first | exact .lit | exact blq_ok 4 rfl) | exact .vec (fun j hj x hx => by simp [vrow] at hx; subst hx; exact .lit))) (by (first | exact .lit | exact blq_ok 4 rfl)) ?_
  intro H hH
  conv in finish _ _ _ _ _ _ _ _ => cbv
  subst hH
  simp only [Fin.sat0, Fin.sat1, stdH, Option.some.injEq, AV.lit.injEq, AV.agg.injEq, AV.tup.injEq, List.cons.injEq, Value.bool.injEq, Value.int.injEq, AllP, and_true, true_and, eq_self, decide_eq_true_eq, decide_eq_false_iff_not, Bool.not_eq_true', Bool.not_eq_false', peta, ncast]
  have e1 := tinF_len ⟨f0, f1, f2, f3⟩
  simp only [eqI_list, ints_vrow, dF, bned]
  generalize okF ⟨f0, f1, f2, f3⟩ = b1
  generalize okF ⟨g0, g1, g2, g3⟩ = b2
  generalize decide (f0 = g0) = b3
  generalize decide (f1 = g1) = b4
  generalize decide (tinF ⟨f0, f1, f2, f3⟩ = tinF ⟨g0, g1, g2, g3⟩) = b5
  cases b1 <;> cases b2 <;> cases b3 <;> cases b4 <;> cases b5 <;> simp [nB, e1] <;> decide
noncomputable def e_FieldDifferences : Entry := pureE 58 fun H a => match a with
  | [.agg [.lit (.int .i64 f0), .lit (.int .i64 f1), .lit (.int .i64 f2), .lit (.int .i64 f3)], .agg [.lit (.int .i64 g0), .lit (.int .i64 g1), .lit (.int .i64 g2), .lit (.int .i64 g3)]] => some (.tup [.lit (.int .i64 (H Int fun _ => (bif okF (⟨f0, f1, f2, f3⟩ : Fld) && okF (⟨g0, g1, g2, g3⟩ : Fld) then dF (⟨f0, f1, f2, f3⟩ : Fld) (⟨g0, g1, g2, g3⟩ : Fld) else 0))), .lit (.bool (H Bool fun _ => (okF (⟨f0, f1, f2, f3⟩ : Fld) && okF (⟨g0, g1, g2, g3⟩ : Fld))))], [])
  | _ => none
theorem eok_FieldDifferences : EntryOk Try.prog e_FieldDifferences := pureE_ok (by unfold isBody; kernel_rfl) (by
  intro a r ob e hob
  split at e
  · rename_i f0 f1 f2 f3 g0 g1 g2 g3
    simp only [Option.some.injEq, Prod.mk.injEq] at e
    obtain ⟨rfl, rfl⟩ := e
    exact c_FieldDifferences (⟨f0, f1, f2, f3⟩ : Fld) (⟨g0, g1, g2, g3⟩ : Fld)
  · simp at e)
theorem allG2 (a b c d x y z w : Int) : allT [fun _ => a == x, fun _ => b == y, fun _ => c == z, fun _ => d == w] = eqG ⟨a, b, c, d⟩ ⟨x, y, z, w⟩ := rfl
def gd (a b : Grp) : Int := bif eqG a b then 0 else bif noG a || noG b then 2 else nB (!decide (a.c = b.c)) + nB (!decide (a.t = b.t)) + (bif !decide (a.k = b.k) then 2 else nB (!decide (a.a = b.a)))
def ls (a b : Grp) : Int := bif noG a != noG b then 2 else nB (!decide (a.c = b.c)) + (bif !decide (a.k = b.k) then 2 else nB (!decide (a.a = b.a))) + nB (!decide (a.t = b.t))
theorem c_gdiff (g : Grp) (x : Grp)  : Con Try.prog 59 [.agg [.lit (.int .i64 (g).c), .lit (.int .i64 (g).k), .lit (.int .i64 (g).a), .lit (.int .i64 (g).t)], .agg [.lit (.int .i64 (x).c), .lit (.int .i64 (x).k), .lit (.int .i64 (x).a), .lit (.int .i64 (x).t)]] [] (.lit (.int .i64 (gd g x))) [] := by
  obtain ⟨g0, g1, g2, g3⟩ := g
  obtain ⟨x0, x1, x2, x3⟩ := x
  have hB : Base Try.prog (tabΓ [e_numB]) tab := base_of tabOk (ents_cons eok_numB <| ents_nil)
  refine con_eq (N := 45) hB (draw_ok hB mixed) Try.func59 rfl rfl _ _ 90 (by simp) (by intro x hx; simp only [List.mem_cons, List.not_mem_nil, or_false] at hx; rcases hx with rfl | rfl <;> (first | (first | exact .lit | exact blq_ok 4 rfl) | exact .vec (fun j hj x hx => by simp [vrow] at hx; subst hx; exact .lit))) (by (first | exact .lit | exact blq_ok 4 rfl)) ?_
  intro H hH
  conv in finish _ _ _ _ _ _ _ _ => cbv
  subst hH
  simp only [Fin.sat0, Fin.sat1, stdH, Option.some.injEq, AV.lit.injEq, AV.agg.injEq, AV.tup.injEq, List.cons.injEq, Value.bool.injEq, Value.int.injEq, AllP, and_true, true_and, eq_self, decide_eq_true_eq, decide_eq_false_iff_not, Bool.not_eq_true', Bool.not_eq_false', peta, ncast]
  simp only [allG, allG2, gd, bned, bifT]
  generalize eqG ⟨g0, g1, g2, g3⟩ ⟨x0, x1, x2, x3⟩ = b1
  generalize noG ⟨g0, g1, g2, g3⟩ = b2
  generalize noG ⟨x0, x1, x2, x3⟩ = b3
  generalize decide (g0 = x0) = b4
  generalize decide (g1 = x1) = b5
  generalize decide (g2 = x2) = b6
  generalize decide (g3 = x3) = b7
  cases b1 <;> cases b2 <;> cases b3 <;> simp <;> cases b4 <;> cases b5 <;> cases b6 <;> cases b7 <;> decide
noncomputable def e_gdiff : Entry := pureE 59 fun H a => match a with
  | [.agg [.lit (.int .i64 g0), .lit (.int .i64 g1), .lit (.int .i64 g2), .lit (.int .i64 g3)], .agg [.lit (.int .i64 x0), .lit (.int .i64 x1), .lit (.int .i64 x2), .lit (.int .i64 x3)]] => some (.lit (.int .i64 (H Int fun _ => (gd (⟨g0, g1, g2, g3⟩ : Grp) (⟨x0, x1, x2, x3⟩ : Grp)))), [])
  | _ => none
theorem eok_gdiff : EntryOk Try.prog e_gdiff := pureE_ok (by unfold isBody; kernel_rfl) (by
  intro a r ob e hob
  split at e
  · rename_i g0 g1 g2 g3 x0 x1 x2 x3
    simp only [Option.some.injEq, Prod.mk.injEq] at e
    obtain ⟨rfl, rfl⟩ := e
    exact c_gdiff (⟨g0, g1, g2, g3⟩ : Grp) (⟨x0, x1, x2, x3⟩ : Grp)
  · simp at e)
theorem c_l4Differences (g : Grp) (x : Grp)  : Con Try.prog 65 [.agg [.lit (.int .i64 (g).c), .lit (.int .i64 (g).k), .lit (.int .i64 (g).a), .lit (.int .i64 (g).t)], .agg [.lit (.int .i64 (x).c), .lit (.int .i64 (x).k), .lit (.int .i64 (x).a), .lit (.int .i64 (x).t)]] [] (.lit (.int .i64 (ls g x))) [] := by
  obtain ⟨g0, g1, g2, g3⟩ := g
  obtain ⟨x0, x1, x2, x3⟩ := x
  have hB : Base Try.prog (tabΓ [e_l4None]) tab := base_of tabOk (ents_cons eok_l4None <| ents_nil)
  refine con_eq (N := 40) hB (draw_ok hB mixed) Try.func65 rfl rfl _ _ 120 (by simp) (by intro x hx; simp only [List.mem_cons, List.not_mem_nil, or_false] at hx; rcases hx with rfl | rfl <;> (first | (first | exact .lit | exact blq_ok 4 rfl) | exact .vec (fun j hj x hx => by simp [vrow] at hx; subst hx; exact .lit))) (by (first | exact .lit | exact blq_ok 4 rfl)) ?_
  intro H hH
  conv in finish _ _ _ _ _ _ _ _ => cbv
  subst hH
  simp only [Fin.sat0, Fin.sat1, stdH, Option.some.injEq, AV.lit.injEq, AV.agg.injEq, AV.tup.injEq, List.cons.injEq, Value.bool.injEq, Value.int.injEq, AllP, and_true, true_and, eq_self, decide_eq_true_eq, decide_eq_false_iff_not, Bool.not_eq_true', Bool.not_eq_false', peta, ncast]
  simp only [ls, bned]
  generalize noG ⟨g0, g1, g2, g3⟩ = b2
  generalize noG ⟨x0, x1, x2, x3⟩ = b3
  by_cases h1 : g0 = x0 <;> by_cases h2 : g1 = x1 <;> by_cases h3 : g2 = x2 <;> by_cases h4 : g3 = x3 <;> cases b2 <;> cases b3 <;> simp [h1, h2, h3, h4] <;> decide
noncomputable def e_l4Differences : Entry := pureE 65 fun H a => match a with
  | [.agg [.lit (.int .i64 g0), .lit (.int .i64 g1), .lit (.int .i64 g2), .lit (.int .i64 g3)], .agg [.lit (.int .i64 x0), .lit (.int .i64 x1), .lit (.int .i64 x2), .lit (.int .i64 x3)]] => some (.lit (.int .i64 (H Int fun _ => (ls (⟨g0, g1, g2, g3⟩ : Grp) (⟨x0, x1, x2, x3⟩ : Grp)))), [])
  | _ => none
theorem eok_l4Differences : EntryOk Try.prog e_l4Differences := pureE_ok (by unfold isBody; kernel_rfl) (by
  intro a r ob e hob
  split at e
  · rename_i g0 g1 g2 g3 x0 x1 x2 x3
    simp only [Option.some.injEq, Prod.mk.injEq] at e
    obtain ⟨rfl, rfl⟩ := e
    exact c_l4Differences (⟨g0, g1, g2, g3⟩ : Grp) (⟨x0, x1, x2, x3⟩ : Grp)
  · simp at e)
theorem c_l3Differences (f : Fld) (g : Fld)  : Con Try.prog 64 [.agg [.lit (.int .i64 (f).d), .lit (.int .i64 (f).l), .lit (.int .i64 (f).p), .lit (.int .i64 (f).q)], .agg [.lit (.int .i64 (g).d), .lit (.int .i64 (g).l), .lit (.int .i64 (g).p), .lit (.int .i64 (g).q)]] [] (.lit (.int .i64 (dF f g))) [] := by
  obtain ⟨f0, f1, f2, f3⟩ := f
  obtain ⟨g0, g1, g2, g3⟩ := g
  have hB : Base Try.prog (tabΓ [e_l3Tinctures, e_l1Same]) tab := base_of tabOk (ents_cons eok_l3Tinctures <| ents_cons eok_l1Same <| ents_nil)
  refine con_eq (N := 29) hB (draw_ok hB mixed) Try.func64 rfl rfl _ _ 120 (by simp) (by intro x hx; simp only [List.mem_cons, List.not_mem_nil, or_false] at hx; rcases hx with rfl | rfl <;> (first | (first | exact .lit | exact blq_ok 4 rfl) | exact .vec (fun j hj x hx => by simp [vrow] at hx; subst hx; exact .lit))) (by (first | exact .lit | exact blq_ok 4 rfl)) ?_
  intro H hH
  conv in finish _ _ _ _ _ _ _ _ => cbv
  subst hH
  simp only [Fin.sat0, Fin.sat1, stdH, Option.some.injEq, AV.lit.injEq, AV.agg.injEq, AV.tup.injEq, List.cons.injEq, Value.bool.injEq, Value.int.injEq, AllP, and_true, true_and, eq_self, decide_eq_true_eq, decide_eq_false_iff_not, Bool.not_eq_true', Bool.not_eq_false', peta, ncast]
  have e1 := tinF_len ⟨f0, f1, f2, f3⟩
  simp only [eqI_list, ints_vrow, dF, bned]
  generalize decide (tinF ⟨f0, f1, f2, f3⟩ = tinF ⟨g0, g1, g2, g3⟩) = b5
  by_cases h1 : f0 = g0 <;> by_cases h2 : f1 = g1 <;> cases b5 <;> simp [h1, h2, e1, tinF_len] <;> decide
noncomputable def e_l3Differences : Entry := pureE 64 fun H a => match a with
  | [.agg [.lit (.int .i64 f0), .lit (.int .i64 f1), .lit (.int .i64 f2), .lit (.int .i64 f3)], .agg [.lit (.int .i64 g0), .lit (.int .i64 g1), .lit (.int .i64 g2), .lit (.int .i64 g3)]] => some (.lit (.int .i64 (H Int fun _ => (dF (⟨f0, f1, f2, f3⟩ : Fld) (⟨g0, g1, g2, g3⟩ : Fld)))), [])
  | _ => none
theorem eok_l3Differences : EntryOk Try.prog e_l3Differences := pureE_ok (by unfold isBody; kernel_rfl) (by
  intro a r ob e hob
  split at e
  · rename_i f0 f1 f2 f3 g0 g1 g2 g3
    simp only [Option.some.injEq, Prod.mk.injEq] at e
    obtain ⟨rfl, rfl⟩ := e
    exact c_l3Differences (⟨f0, f1, f2, f3⟩ : Fld) (⟨g0, g1, g2, g3⟩ : Fld)
  · simp at e)
def dv (a b : Fld) : Int := bif okF a && okF b then dF a b else 0
theorem nB_b (b : Bool) : 0 ≤ nB b ∧ nB b ≤ 1 := by cases b <;> decide
theorem dF_b (a b : Fld) : 0 ≤ dF a b ∧ dF a b ≤ 3 := by
  have h1 := nB_b (!decide (a.d = b.d)); have h2 := nB_b (!decide (a.l = b.l)); have h3 := nB_b (!decide (tinF a = tinF b))
  unfold dF; omega
theorem dv_b (a b : Fld) : 0 ≤ dv a b ∧ dv a b ≤ 3 := by
  have := dF_b a b
  unfold dv; cases okF a && okF b
  · simp
  · exact this
theorem gd_b (a b : Grp) : 0 ≤ gd a b ∧ gd a b ≤ 4 := by
  have h1 := nB_b (!decide (a.c = b.c)); have h2 := nB_b (!decide (a.t = b.t)); have h3 := nB_b (!decide (a.a = b.a))
  unfold gd
  cases eqG a b
  · cases noG a || noG b
    · cases decide (a.k = b.k) <;> simp only [cond_true, cond_false, Bool.not_true, Bool.not_false] <;> omega
    · simp
  · simp
theorem ls_b (a b : Grp) : 0 ≤ ls a b ∧ ls a b ≤ 4 := by
  have h1 := nB_b (!decide (a.c = b.c)); have h2 := nB_b (!decide (a.t = b.t)); have h3 := nB_b (!decide (a.a = b.a))
  unfold ls
  cases noG a != noG b
  · cases decide (a.k = b.k) <;> simp only [cond_true, cond_false, Bool.not_true, Bool.not_false] <;> omega
  · simp
def od (a b : Arm) : Int := bif !decide (a.o = b.o) then 2 else nB (!decide (a.l = b.l)) + nB (!decide (a.t = b.t))
def dI (a b : Arm) : Int := dv a.f b.f + (gd a.n b.n + gd a.r b.r) + od a b
def dS (a b : Arm) : Int := dF a.f b.f + ls a.n b.n + ls a.r b.r + od a b
theorem c_differences (a : Arm) (x : Arm)  : Con Try.prog 28 [.agg [.lit (.int .i64 (a).f.d), .lit (.int .i64 (a).f.l), .lit (.int .i64 (a).f.p), .lit (.int .i64 (a).f.q), .lit (.int .i64 (a).o), .lit (.int .i64 (a).l), .lit (.int .i64 (a).t), .lit (.int .i64 (a).n.c), .lit (.int .i64 (a).n.k), .lit (.int .i64 (a).n.a), .lit (.int .i64 (a).n.t), .lit (.int .i64 (a).r.c), .lit (.int .i64 (a).r.k), .lit (.int .i64 (a).r.a), .lit (.int .i64 (a).r.t)], .agg [.lit (.int .i64 (x).f.d), .lit (.int .i64 (x).f.l), .lit (.int .i64 (x).f.p), .lit (.int .i64 (x).f.q), .lit (.int .i64 (x).o), .lit (.int .i64 (x).l), .lit (.int .i64 (x).t), .lit (.int .i64 (x).n.c), .lit (.int .i64 (x).n.k), .lit (.int .i64 (x).n.a), .lit (.int .i64 (x).n.t), .lit (.int .i64 (x).r.c), .lit (.int .i64 (x).r.k), .lit (.int .i64 (x).r.a), .lit (.int .i64 (x).r.t)]] [] (.lit (.int .i64 (dI a x))) [] := by
  obtain ⟨⟨a0, a1, a2, a3⟩, a4, a5, a6, ⟨a7, a8, a9, a10⟩, ⟨a11, a12, a13, a14⟩⟩ := a
  obtain ⟨⟨x0, x1, x2, x3⟩, x4, x5, x6, ⟨x7, x8, x9, x10⟩, ⟨x11, x12, x13, x14⟩⟩ := x
  have hB : Base Try.prog (tabΓ [e_FieldDifferences, e_gdiff, e_numB]) tab := base_of tabOk (ents_cons eok_FieldDifferences <| ents_cons eok_gdiff <| ents_cons eok_numB <| ents_nil)
  refine con_eq (N := 50) hB (draw_ok hB mixed) Try.func28 rfl rfl _ _ 150 (by simp) (by intro x hx; simp only [List.mem_cons, List.not_mem_nil, or_false] at hx; rcases hx with rfl | rfl <;> (first | (first | exact .lit | exact blq_ok 4 rfl) | exact .vec (fun j hj x hx => by simp [vrow] at hx; subst hx; exact .lit))) (by (first | exact .lit | exact blq_ok 4 rfl)) ?_
  intro H hH
  conv in finish _ _ _ _ _ _ _ _ => cbv
  subst hH
  simp only [Fin.sat0, Fin.sat1, stdH, Option.some.injEq, AV.lit.injEq, AV.agg.injEq, AV.tup.injEq, List.cons.injEq, Value.bool.injEq, Value.int.injEq, AllP, and_true, true_and, eq_self, decide_eq_true_eq, decide_eq_false_iff_not, Bool.not_eq_true', Bool.not_eq_false', peta, ncast]
  have e1 := dv_b ⟨a0, a1, a2, a3⟩ ⟨x0, x1, x2, x3⟩
  have e2 := gd_b ⟨a7, a8, a9, a10⟩ ⟨x7, x8, x9, x10⟩
  have e3 := gd_b ⟨a11, a12, a13, a14⟩ ⟨x11, x12, x13, x14⟩
  simp only [dI, od, bned]
  unfold dv at e1 ⊢
  generalize (bif _ then _ else (0 : Int)) = q1 at *
  generalize gd _ _ = q2 at *
  generalize gd _ _ = q3 at *
  have n1 := nB_b (!decide (a5 = x5)); have n2 := nB_b (!decide (a6 = x6))
  generalize nB (!decide (a5 = x5)) = k1 at *
  generalize nB (!decide (a6 = x6)) = k2 at *
  cases decide (a4 = x4) <;> simp only [cond_true, cond_false, Bool.not_true, Bool.not_false, IntKind.wrap_i64, Bool.false_eq_true, false_implies, true_implies, forall_const, and_true, true_and, reduceCtorEq] <;> omega
noncomputable def e_differences : Entry := pureE 28 fun H a => match a with
  | [.agg [.lit (.int .i64 a0), .lit (.int .i64 a1), .lit (.int .i64 a2), .lit (.int .i64 a3), .lit (.int .i64 a4), .lit (.int .i64 a5), .lit (.int .i64 a6), .lit (.int .i64 a7), .lit (.int .i64 a8), .lit (.int .i64 a9), .lit (.int .i64 a10), .lit (.int .i64 a11), .lit (.int .i64 a12), .lit (.int .i64 a13), .lit (.int .i64 a14)], .agg [.lit (.int .i64 x0), .lit (.int .i64 x1), .lit (.int .i64 x2), .lit (.int .i64 x3), .lit (.int .i64 x4), .lit (.int .i64 x5), .lit (.int .i64 x6), .lit (.int .i64 x7), .lit (.int .i64 x8), .lit (.int .i64 x9), .lit (.int .i64 x10), .lit (.int .i64 x11), .lit (.int .i64 x12), .lit (.int .i64 x13), .lit (.int .i64 x14)]] => some (.lit (.int .i64 (H Int fun _ => (dI (⟨⟨a0, a1, a2, a3⟩, a4, a5, a6, ⟨a7, a8, a9, a10⟩, ⟨a11, a12, a13, a14⟩⟩ : Arm) (⟨⟨x0, x1, x2, x3⟩, x4, x5, x6, ⟨x7, x8, x9, x10⟩, ⟨x11, x12, x13, x14⟩⟩ : Arm)))), [])
  | _ => none
theorem eok_differences : EntryOk Try.prog e_differences := pureE_ok (by unfold isBody; kernel_rfl) (by
  intro a r ob e hob
  split at e
  · rename_i a0 a1 a2 a3 a4 a5 a6 a7 a8 a9 a10 a11 a12 a13 a14 x0 x1 x2 x3 x4 x5 x6 x7 x8 x9 x10 x11 x12 x13 x14
    simp only [Option.some.injEq, Prod.mk.injEq] at e
    obtain ⟨rfl, rfl⟩ := e
    exact c_differences (⟨⟨a0, a1, a2, a3⟩, a4, a5, a6, ⟨a7, a8, a9, a10⟩, ⟨a11, a12, a13, a14⟩⟩ : Arm) (⟨⟨x0, x1, x2, x3⟩, x4, x5, x6, ⟨x7, x8, x9, x10⟩, ⟨x11, x12, x13, x14⟩⟩ : Arm)
  · simp at e)
theorem c_l15Count (a : Arm) (x : Arm)  : Con Try.prog 33 [.agg [.lit (.int .i64 (a).f.d), .lit (.int .i64 (a).f.l), .lit (.int .i64 (a).f.p), .lit (.int .i64 (a).f.q), .lit (.int .i64 (a).o), .lit (.int .i64 (a).l), .lit (.int .i64 (a).t), .lit (.int .i64 (a).n.c), .lit (.int .i64 (a).n.k), .lit (.int .i64 (a).n.a), .lit (.int .i64 (a).n.t), .lit (.int .i64 (a).r.c), .lit (.int .i64 (a).r.k), .lit (.int .i64 (a).r.a), .lit (.int .i64 (a).r.t)], .agg [.lit (.int .i64 (x).f.d), .lit (.int .i64 (x).f.l), .lit (.int .i64 (x).f.p), .lit (.int .i64 (x).f.q), .lit (.int .i64 (x).o), .lit (.int .i64 (x).l), .lit (.int .i64 (x).t), .lit (.int .i64 (x).n.c), .lit (.int .i64 (x).n.k), .lit (.int .i64 (x).n.a), .lit (.int .i64 (x).n.t), .lit (.int .i64 (x).r.c), .lit (.int .i64 (x).r.k), .lit (.int .i64 (x).r.a), .lit (.int .i64 (x).r.t)]] [] (.lit (.int .i64 (dS a x))) [] := by
  obtain ⟨⟨a0, a1, a2, a3⟩, a4, a5, a6, ⟨a7, a8, a9, a10⟩, ⟨a11, a12, a13, a14⟩⟩ := a
  obtain ⟨⟨x0, x1, x2, x3⟩, x4, x5, x6, ⟨x7, x8, x9, x10⟩, ⟨x11, x12, x13, x14⟩⟩ := x
  have hB : Base Try.prog (tabΓ [e_l3Differences, e_l4Differences]) tab := base_of tabOk (ents_cons eok_l3Differences <| ents_cons eok_l4Differences <| ents_nil)
  refine con_eq (N := 45) hB (draw_ok hB mixed) Try.func33 rfl rfl _ _ 150 (by simp) (by intro x hx; simp only [List.mem_cons, List.not_mem_nil, or_false] at hx; rcases hx with rfl | rfl <;> (first | (first | exact .lit | exact blq_ok 4 rfl) | exact .vec (fun j hj x hx => by simp [vrow] at hx; subst hx; exact .lit))) (by (first | exact .lit | exact blq_ok 4 rfl)) ?_
  intro H hH
  conv in finish _ _ _ _ _ _ _ _ => cbv
  subst hH
  simp only [Fin.sat0, Fin.sat1, stdH, Option.some.injEq, AV.lit.injEq, AV.agg.injEq, AV.tup.injEq, List.cons.injEq, Value.bool.injEq, Value.int.injEq, AllP, and_true, true_and, eq_self, decide_eq_true_eq, decide_eq_false_iff_not, Bool.not_eq_true', Bool.not_eq_false', peta, ncast]
  have e1 := dF_b ⟨a0, a1, a2, a3⟩ ⟨x0, x1, x2, x3⟩
  have e2 := ls_b ⟨a7, a8, a9, a10⟩ ⟨x7, x8, x9, x10⟩
  have e3 := ls_b ⟨a11, a12, a13, a14⟩ ⟨x11, x12, x13, x14⟩
  simp only [dS, od, bned]
  generalize dF _ _ = q1 at *
  generalize ls ⟨a7, a8, a9, a10⟩ ⟨x7, x8, x9, x10⟩ = q2 at *
  generalize ls ⟨a11, a12, a13, a14⟩ ⟨x11, x12, x13, x14⟩ = q3 at *
  cases decide (a4 = x4) <;> cases decide (a5 = x5) <;> cases decide (a6 = x6) <;> simp only [nB, cond_true, cond_false, Bool.not_true, Bool.not_false, IntKind.wrap_i64, Bool.false_eq_true, false_implies, true_implies, forall_const, and_true, true_and, reduceCtorEq] <;> omega
noncomputable def e_l15Count : Entry := pureE 33 fun H a => match a with
  | [.agg [.lit (.int .i64 a0), .lit (.int .i64 a1), .lit (.int .i64 a2), .lit (.int .i64 a3), .lit (.int .i64 a4), .lit (.int .i64 a5), .lit (.int .i64 a6), .lit (.int .i64 a7), .lit (.int .i64 a8), .lit (.int .i64 a9), .lit (.int .i64 a10), .lit (.int .i64 a11), .lit (.int .i64 a12), .lit (.int .i64 a13), .lit (.int .i64 a14)], .agg [.lit (.int .i64 x0), .lit (.int .i64 x1), .lit (.int .i64 x2), .lit (.int .i64 x3), .lit (.int .i64 x4), .lit (.int .i64 x5), .lit (.int .i64 x6), .lit (.int .i64 x7), .lit (.int .i64 x8), .lit (.int .i64 x9), .lit (.int .i64 x10), .lit (.int .i64 x11), .lit (.int .i64 x12), .lit (.int .i64 x13), .lit (.int .i64 x14)]] => some (.lit (.int .i64 (H Int fun _ => (dS (⟨⟨a0, a1, a2, a3⟩, a4, a5, a6, ⟨a7, a8, a9, a10⟩, ⟨a11, a12, a13, a14⟩⟩ : Arm) (⟨⟨x0, x1, x2, x3⟩, x4, x5, x6, ⟨x7, x8, x9, x10⟩, ⟨x11, x12, x13, x14⟩⟩ : Arm)))), [])
  | _ => none
theorem eok_l15Count : EntryOk Try.prog e_l15Count := pureE_ok (by unfold isBody; kernel_rfl) (by
  intro a r ob e hob
  split at e
  · rename_i a0 a1 a2 a3 a4 a5 a6 a7 a8 a9 a10 a11 a12 a13 a14 x0 x1 x2 x3 x4 x5 x6 x7 x8 x9 x10 x11 x12 x13 x14
    simp only [Option.some.injEq, Prod.mk.injEq] at e
    obtain ⟨rfl, rfl⟩ := e
    exact c_l15Count (⟨⟨a0, a1, a2, a3⟩, a4, a5, a6, ⟨a7, a8, a9, a10⟩, ⟨a11, a12, a13, a14⟩⟩ : Arm) (⟨⟨x0, x1, x2, x3⟩, x4, x5, x6, ⟨x7, x8, x9, x10⟩, ⟨x11, x12, x13, x14⟩⟩ : Arm)
  · simp at e)
theorem c_conflict (a : Arm) (x : Arm)  : Con Try.prog 38 [.agg [.lit (.int .i64 (a).f.d), .lit (.int .i64 (a).f.l), .lit (.int .i64 (a).f.p), .lit (.int .i64 (a).f.q), .lit (.int .i64 (a).o), .lit (.int .i64 (a).l), .lit (.int .i64 (a).t), .lit (.int .i64 (a).n.c), .lit (.int .i64 (a).n.k), .lit (.int .i64 (a).n.a), .lit (.int .i64 (a).n.t), .lit (.int .i64 (a).r.c), .lit (.int .i64 (a).r.k), .lit (.int .i64 (a).r.a), .lit (.int .i64 (a).r.t)], .agg [.lit (.int .i64 (x).f.d), .lit (.int .i64 (x).f.l), .lit (.int .i64 (x).f.p), .lit (.int .i64 (x).f.q), .lit (.int .i64 (x).o), .lit (.int .i64 (x).l), .lit (.int .i64 (x).t), .lit (.int .i64 (x).n.c), .lit (.int .i64 (x).n.k), .lit (.int .i64 (x).n.a), .lit (.int .i64 (x).n.t), .lit (.int .i64 (x).r.c), .lit (.int .i64 (x).r.k), .lit (.int .i64 (x).r.a), .lit (.int .i64 (x).r.t)]] [] (.lit (.bool (decide (dI a x < 2)))) [] := by
  obtain ⟨⟨a0, a1, a2, a3⟩, a4, a5, a6, ⟨a7, a8, a9, a10⟩, ⟨a11, a12, a13, a14⟩⟩ := a
  obtain ⟨⟨x0, x1, x2, x3⟩, x4, x5, x6, ⟨x7, x8, x9, x10⟩, ⟨x11, x12, x13, x14⟩⟩ := x
  have hB : Base Try.prog (tabΓ [e_differences]) tab := base_of tabOk (ents_cons eok_differences <| ents_nil)
  refine con_eq (N := 9) hB (draw_ok hB mixed) Try.func38 rfl rfl _ _ 60 (by simp) (by intro x hx; simp only [List.mem_cons, List.not_mem_nil, or_false] at hx; rcases hx with rfl | rfl <;> (first | (first | exact .lit | exact blq_ok 4 rfl) | exact .vec (fun j hj x hx => by simp [vrow] at hx; subst hx; exact .lit))) (by (first | exact .lit | exact blq_ok 4 rfl)) ?_
  intro H hH
  conv in finish _ _ _ _ _ _ _ _ => cbv
  subst hH
  simp only [Fin.sat0, Fin.sat1, stdH, Option.some.injEq, AV.lit.injEq, AV.agg.injEq, AV.tup.injEq, List.cons.injEq, Value.bool.injEq, Value.int.injEq, AllP, and_true, true_and, eq_self, decide_eq_true_eq, decide_eq_false_iff_not, Bool.not_eq_true', Bool.not_eq_false', peta, ncast]
noncomputable def e_conflict : Entry := pureE 38 fun H a => match a with
  | [.agg [.lit (.int .i64 a0), .lit (.int .i64 a1), .lit (.int .i64 a2), .lit (.int .i64 a3), .lit (.int .i64 a4), .lit (.int .i64 a5), .lit (.int .i64 a6), .lit (.int .i64 a7), .lit (.int .i64 a8), .lit (.int .i64 a9), .lit (.int .i64 a10), .lit (.int .i64 a11), .lit (.int .i64 a12), .lit (.int .i64 a13), .lit (.int .i64 a14)], .agg [.lit (.int .i64 x0), .lit (.int .i64 x1), .lit (.int .i64 x2), .lit (.int .i64 x3), .lit (.int .i64 x4), .lit (.int .i64 x5), .lit (.int .i64 x6), .lit (.int .i64 x7), .lit (.int .i64 x8), .lit (.int .i64 x9), .lit (.int .i64 x10), .lit (.int .i64 x11), .lit (.int .i64 x12), .lit (.int .i64 x13), .lit (.int .i64 x14)]] => some (.lit (.bool (H Bool fun _ => (decide (dI (⟨⟨a0, a1, a2, a3⟩, a4, a5, a6, ⟨a7, a8, a9, a10⟩, ⟨a11, a12, a13, a14⟩⟩ : Arm) (⟨⟨x0, x1, x2, x3⟩, x4, x5, x6, ⟨x7, x8, x9, x10⟩, ⟨x11, x12, x13, x14⟩⟩ : Arm) < 2)))), [])
  | _ => none
theorem eok_conflict : EntryOk Try.prog e_conflict := pureE_ok (by unfold isBody; kernel_rfl) (by
  intro a r ob e hob
  split at e
  · rename_i a0 a1 a2 a3 a4 a5 a6 a7 a8 a9 a10 a11 a12 a13 a14 x0 x1 x2 x3 x4 x5 x6 x7 x8 x9 x10 x11 x12 x13 x14
    simp only [Option.some.injEq, Prod.mk.injEq] at e
    obtain ⟨rfl, rfl⟩ := e
    exact c_conflict (⟨⟨a0, a1, a2, a3⟩, a4, a5, a6, ⟨a7, a8, a9, a10⟩, ⟨a11, a12, a13, a14⟩⟩ : Arm) (⟨⟨x0, x1, x2, x3⟩, x4, x5, x6, ⟨x7, x8, x9, x10⟩, ⟨x11, x12, x13, x14⟩⟩ : Arm)
  · simp at e)
theorem c_Conflict (a : Arm) (x : Arm)  : Con Try.prog 14 [.agg [.lit (.int .i64 (a).f.d), .lit (.int .i64 (a).f.l), .lit (.int .i64 (a).f.p), .lit (.int .i64 (a).f.q), .lit (.int .i64 (a).o), .lit (.int .i64 (a).l), .lit (.int .i64 (a).t), .lit (.int .i64 (a).n.c), .lit (.int .i64 (a).n.k), .lit (.int .i64 (a).n.a), .lit (.int .i64 (a).n.t), .lit (.int .i64 (a).r.c), .lit (.int .i64 (a).r.k), .lit (.int .i64 (a).r.a), .lit (.int .i64 (a).r.t)], .agg [.lit (.int .i64 (x).f.d), .lit (.int .i64 (x).f.l), .lit (.int .i64 (x).f.p), .lit (.int .i64 (x).f.q), .lit (.int .i64 (x).o), .lit (.int .i64 (x).l), .lit (.int .i64 (x).t), .lit (.int .i64 (x).n.c), .lit (.int .i64 (x).n.k), .lit (.int .i64 (x).n.a), .lit (.int .i64 (x).n.t), .lit (.int .i64 (x).r.c), .lit (.int .i64 (x).r.k), .lit (.int .i64 (x).r.a), .lit (.int .i64 (x).r.t)]] [] (.tup [.lit (.bool (okA a && okA x && decide (dI a x < 2))), .lit (.bool (okA a && okA x))]) [] := by
  obtain ⟨⟨a0, a1, a2, a3⟩, a4, a5, a6, ⟨a7, a8, a9, a10⟩, ⟨a11, a12, a13, a14⟩⟩ := a
  obtain ⟨⟨x0, x1, x2, x3⟩, x4, x5, x6, ⟨x7, x8, x9, x10⟩, ⟨x11, x12, x13, x14⟩⟩ := x
  have hB : Base Try.prog (tabΓ [e_IsValidArms, e_conflict]) tab := base_of tabOk (ents_cons eok_IsValidArms <| ents_cons eok_conflict <| ents_nil)
  refine con_eq (N := 17) hB (draw_ok hB mixed) Try.func14 rfl rfl _ _ 90 (by simp) (by intro x hx; simp only [List.mem_cons, List.not_mem_nil, or_false] at hx; rcases hx with rfl | rfl <;> (first | (first | exact .lit | exact blq_ok 4 rfl) | exact .vec (fun j hj x hx => by simp [vrow] at hx; subst hx; exact .lit))) (by (first | exact .lit | exact blq_ok 4 rfl)) ?_
  intro H hH
  conv in finish _ _ _ _ _ _ _ _ => cbv
  subst hH
  simp only [Fin.sat0, Fin.sat1, stdH, Option.some.injEq, AV.lit.injEq, AV.agg.injEq, AV.tup.injEq, List.cons.injEq, Value.bool.injEq, Value.int.injEq, AllP, and_true, true_and, eq_self, decide_eq_true_eq, decide_eq_false_iff_not, Bool.not_eq_true', Bool.not_eq_false', peta, ncast]
  generalize okA ⟨⟨a0, a1, a2, a3⟩, a4, a5, a6, ⟨a7, a8, a9, a10⟩, ⟨a11, a12, a13, a14⟩⟩ = b1
  generalize okA _ = b2
  cases b1 <;> cases b2 <;> simp
noncomputable def e_Conflict : Entry := pureE 14 fun H a => match a with
  | [.agg [.lit (.int .i64 a0), .lit (.int .i64 a1), .lit (.int .i64 a2), .lit (.int .i64 a3), .lit (.int .i64 a4), .lit (.int .i64 a5), .lit (.int .i64 a6), .lit (.int .i64 a7), .lit (.int .i64 a8), .lit (.int .i64 a9), .lit (.int .i64 a10), .lit (.int .i64 a11), .lit (.int .i64 a12), .lit (.int .i64 a13), .lit (.int .i64 a14)], .agg [.lit (.int .i64 x0), .lit (.int .i64 x1), .lit (.int .i64 x2), .lit (.int .i64 x3), .lit (.int .i64 x4), .lit (.int .i64 x5), .lit (.int .i64 x6), .lit (.int .i64 x7), .lit (.int .i64 x8), .lit (.int .i64 x9), .lit (.int .i64 x10), .lit (.int .i64 x11), .lit (.int .i64 x12), .lit (.int .i64 x13), .lit (.int .i64 x14)]] => some (.tup [.lit (.bool (H Bool fun _ => (okA (⟨⟨a0, a1, a2, a3⟩, a4, a5, a6, ⟨a7, a8, a9, a10⟩, ⟨a11, a12, a13, a14⟩⟩ : Arm) && okA (⟨⟨x0, x1, x2, x3⟩, x4, x5, x6, ⟨x7, x8, x9, x10⟩, ⟨x11, x12, x13, x14⟩⟩ : Arm) && decide (dI (⟨⟨a0, a1, a2, a3⟩, a4, a5, a6, ⟨a7, a8, a9, a10⟩, ⟨a11, a12, a13, a14⟩⟩ : Arm) (⟨⟨x0, x1, x2, x3⟩, x4, x5, x6, ⟨x7, x8, x9, x10⟩, ⟨x11, x12, x13, x14⟩⟩ : Arm) < 2)))), .lit (.bool (H Bool fun _ => (okA (⟨⟨a0, a1, a2, a3⟩, a4, a5, a6, ⟨a7, a8, a9, a10⟩, ⟨a11, a12, a13, a14⟩⟩ : Arm) && okA (⟨⟨x0, x1, x2, x3⟩, x4, x5, x6, ⟨x7, x8, x9, x10⟩, ⟨x11, x12, x13, x14⟩⟩ : Arm))))], [])
  | _ => none
theorem eok_Conflict : EntryOk Try.prog e_Conflict := pureE_ok (by unfold isBody; kernel_rfl) (by
  intro a r ob e hob
  split at e
  · rename_i a0 a1 a2 a3 a4 a5 a6 a7 a8 a9 a10 a11 a12 a13 a14 x0 x1 x2 x3 x4 x5 x6 x7 x8 x9 x10 x11 x12 x13 x14
    simp only [Option.some.injEq, Prod.mk.injEq] at e
    obtain ⟨rfl, rfl⟩ := e
    exact c_Conflict (⟨⟨a0, a1, a2, a3⟩, a4, a5, a6, ⟨a7, a8, a9, a10⟩, ⟨a11, a12, a13, a14⟩⟩ : Arm) (⟨⟨x0, x1, x2, x3⟩, x4, x5, x6, ⟨x7, x8, x9, x10⟩, ⟨x11, x12, x13, x14⟩⟩ : Arm)
  · simp at e)

end Go.Proofs.Ytigkdbhcjjjjkaa.AM

