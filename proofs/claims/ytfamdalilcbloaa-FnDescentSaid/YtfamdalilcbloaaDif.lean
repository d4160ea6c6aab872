import Derived.Test.YtfamdalilcbloaaTin
import Derived.Test.YtfamdalilcbloaaVB
set_option linter.unusedVariables false
set_option linter.unusedSimpArgs false
set_option maxRecDepth 100000
set_option maxHeartbeats 4000000
set_option cbv.maxSteps 3000000
namespace Go.Proofs.Ytfamdalilcbloaa.AM
/- How arms differ; conditions: none. -/
def nB (b : Bool) : Int := bif b then 1 else 0
def eqI (n : Nat) (f : Nat → Int) (m : Nat) (g : Nat → Int) : Bool := decide (n = m) && decide (∀ j, j < n → f j = g j)
theorem ints_vrow (g : Nat → Int) : ints (vrow g) = g := rfl
theorem eqI_list (l m : List Int) : eqI l.length (lget l) m.length (lget m) = decide (l = m) := by
  unfold eqI
  rw [Bool.eq_iff_iff]
  simp only [Bool.and_eq_true, decide_eq_true_eq]
  constructor
  · rintro ⟨h1, h2⟩
    refine List.ext_getElem h1 fun i hi hj => ?_
    have := h2 i hi
    simpa [lget, List.getElem?_eq_getElem hi, List.getElem?_eq_getElem hj] using this
  · rintro rfl; exact ⟨rfl, fun _ _ => rfl⟩
theorem c_numB (x : Bool)  : Con Try.prog 70 [.lit (.bool x)] [] (.lit (.int .i64 (nB x))) [] := by
  have hB : Base Try.prog (tabΓ []) tab := base_of tabOk (ents_nil)
  refine con_eq (N := 4) hB (draw_ok hB mixed) Try.func70 rfl rfl _ _ 50 (by simp) (by intro x hx; simp only [List.mem_cons, List.not_mem_nil, or_false] at hx; rcases hx with rfl <;> (first | (first | exact .lit | exact blq_ok 4 rfl) | exact .vec (fun j hj x hx => by simp [vrow] at hx; subst hx; exact .lit))) (by (first | exact .lit | exact blq_ok 4 rfl)) ?_
  intro H hH
  conv in finish _ _ _ _ _ _ _ _ => cbv
  subst hH
  simp only [Fin.sat0, Fin.sat1, stdH, Option.some.injEq, AV.lit.injEq, AV.agg.injEq, AV.tup.injEq, List.cons.injEq, Value.bool.injEq, Value.int.injEq, AllP, and_true, true_and, eq_self, decide_eq_true_eq, decide_eq_false_iff_not, Bool.not_eq_true', Bool.not_eq_false', peta, ncast]
  cases x <;> simp [nB]
noncomputable def e_numB : Entry := pureE 70 fun H a => match a with
  | [.lit (.bool x)] => some (.lit (.int .i64 (H Int fun _ => (nB x))), [])
  | _ => none
theorem eok_numB : EntryOk Try.prog e_numB := pureE_ok (by unfold isBody; kernel_rfl) (by
  intro a r ob e hob
  split at e
  · simp only [Option.some.injEq, Prod.mk.injEq] at e
    obtain ⟨rfl, rfl⟩ := e
    exact c_numB _
  · simp at e)
theorem c_vInts (n : Nat) (f : Nat → Int) (m : Nat) (g : Nat → Int) (hn : n ≤ 100000) : Con Try.prog 35 [.vec 1 n (vrow f), .vec 1 m (vrow g)] [] (.lit (.bool (eqI n f m g))) [] := by
  have hB : Base Try.prog (tabΓ []) tab := base_of tabOk (ents_nil)
  refine con_ok (N := 26) hB (draw_ok hB mixed) Try.func35 rfl rfl _ _ 0 _ _ 100 (by simp) (by intro x hx; simp only [List.mem_cons, List.not_mem_nil, or_false] at hx; rcases hx with rfl | rfl <;> exact vrow_bl _ _ _ _) (by simp [lk]) .lit (by simp) ?_
  intro X hX H hH
  conv in finish _ _ _ _ _ _ _ _ => cbv
  subst hH
  simp only [Fin.sat_ret, Fin.sat_br, Fin.sat_need, Fin.sat_again, AllP, stdH, and_true, true_and, ncast, Int.ofNat_eq_natCast, leafB, bned, Bool.not_eq_true', decide_eq_false_iff_not, Bool.not_eq_false', decide_eq_true_eq]
  refine ⟨fun h => ?_, fun h => ?_⟩
  · have : ¬ n = m := by omega
    simp [eqI, this]
  obtain rfl : n = m := by omega
  refine loop_sat hB (draw_ok hB mixed) hX (ι := { i : Nat // i ≤ n ∧ ∀ j, j < i → f j = g j }) 100 (fun H i => ⟨[(0, .vec 1 (H Nat fun _ => n) (vrow (H (Nat → Int) fun _ => f))), (1, .vec 1 (H Nat fun _ => n) (vrow (H (Nat → Int) fun _ => g))), (5, .lit (.int .i64 (H Int fun _ => i.1)))], [], X.n0⟩) (fun i => n - i.1) ⟨0, Nat.zero_le _, by omega⟩ ?_ ?_
  · refine .of fun p hp => ?_
    simp only [List.mem_cons, List.not_mem_nil, or_false] at hp
    rcases hp with rfl | rfl | rfl
    · exact ⟨rfl, vrow_bl _ _ _ _⟩
    · exact ⟨rfl, vrow_bl _ _ _ _⟩
    · exact ⟨rfl, .lit⟩
  · rintro ⟨i, hi, hj⟩ H hH
    conv in finish _ _ _ _ _ _ _ _ => cbv
    subst hH
    simp only [Fin.sat_ret, Fin.sat_br, Fin.sat_need, Fin.sat_again, AllP, stdH, and_true, true_and, ncast, Int.ofNat_eq_natCast, leafB, bned, Bool.not_eq_true', decide_eq_false_iff_not, Bool.not_eq_false', decide_eq_true_eq]
    have e1 : ((i : Int)).toNat = i := rfl
    simp only [e1]
    refine ⟨fun hlt => ⟨by omega, by omega, fun h => ?_, fun h => ?_⟩, fun hge => ?_⟩
    · have : ¬ ∀ j, j < n → f j = g j := fun q => h (q i (by omega))
      simp [eqI, this]
    · simp only [upd, List.length_nil, Nat.zero_add, if_true]
      have e2 : IntKind.i64.wrap ((i : Int) + 1) = ((i + 1 : Nat) : Int) := by rw [wi] <;> omega
      refine ⟨⟨i + 1, by omega, fun j hj' => ?_⟩, by simp only; omega, .of fun p hp => ?_⟩
      · rcases Nat.lt_or_ge j i with hji | hji
        · exact hj j hji
        · obtain rfl : j = i := by omega
          exact h
      · simp only [List.mem_cons, List.not_mem_nil, or_false] at hp
        rcases hp with rfl | rfl | rfl
        · exact ⟨rfl, vrow_bl _ _ _ _⟩
        · exact ⟨rfl, vrow_bl _ _ _ _⟩
        · exact ⟨by rw [e2]; rfl, .lit⟩
    · have : ∀ j, j < n → f j = g j := fun j hjn => hj j (by omega)
      have e : eqI n f n g = true := by unfold eqI; rw [decide_eq_true this]; simp
      rw [e]
def e_vInts : Entry := pureE 35 fun H a => match a with
  | [.vec 1 n f, .vec 1 m g] => some (.lit (.bool (H Bool fun _ => eqI n (ints f) m (ints g))), [H Prop fun _ => n ≤ 100000, H Prop fun _ => ∀ j, j < n → f j = vrow (ints f) j, H Prop fun _ => ∀ j, j < m → g j = vrow (ints g) j])
  | _ => none
theorem eok_vInts : EntryOk Try.prog e_vInts := pureE_ok (by unfold isBody; kernel_rfl) (by
  intro a r ob e hob
  split at e
  · simp only [Option.some.injEq, Prod.mk.injEq] at e
    obtain ⟨rfl, rfl⟩ := e
    obtain ⟨h0, h1, h2, _⟩ := hob
    exact Con.args (fun C vs hl => (hl.vec0 h1).vec1 h2) (c_vInts _ _ _ _ h0)
  · simp at e)
theorem tinF_len (f : Fld) : (tinF f).length ≤ 100000 := by unfold tinF; split <;> simp
def dF (a b : Fld) : Int := nB (!decide (a.d = b.d)) + nB (!decide (a.l = b.l)) + nB (!decide (tinF a = tinF b))
def eqF (a b : Fld) : Bool := allT [fun _ => a.d == b.d, fun _ => a.l == b.l, fun _ => a.p == b.p, fun _ => a.q == b.q]
def eqG (a b : Grp) : Bool := allT [fun _ => a.c == b.c, fun _ => a.k == b.k, fun _ => a.a == b.a, fun _ => a.t == b.t]
theorem allG2 (a b c d x y z w : Int) : allT [fun _ => a == x, fun _ => b == y, fun _ => c == z, fun _ => d == w] = eqG ⟨a, b, c, d⟩ ⟨x, y, z, w⟩ := rfl
theorem allF2 (a b c d x y z w : Int) : allT [fun _ => a == x, fun _ => b == y, fun _ => c == z, fun _ => d == w] = eqF ⟨a, b, c, d⟩ ⟨x, y, z, w⟩ := rfl
def gd (a b : Grp) : Int := bif eqG a b then 0 else bif noG a || noG b then 2 else nB (!decide (a.c = b.c)) + nB (!decide (a.t = b.t)) + (bif !decide (a.k = b.k) then 2 else nB (!decide (a.a = b.a)))
def ls (a b : Grp) : Int := bif noG a != noG b then 2 else nB (!decide (a.c = b.c)) + (bif !decide (a.k = b.k) then 2 else nB (!decide (a.a = b.a))) + nB (!decide (a.t = b.t))
def dv (a b : Fld) : Int := bif okF a && okF b then dF a b else 0
theorem nB_b (b : Bool) : 0 ≤ nB b ∧ nB b ≤ 1 := by cases b <;> decide
theorem dF_b (a b : Fld) : 0 ≤ dF a b ∧ dF a b ≤ 3 := by
  have h1 := nB_b (!decide (a.d = b.d)); have h2 := nB_b (!decide (a.l = b.l)); have h3 := nB_b (!decide (tinF a = tinF b))
  unfold dF; omega
theorem dv_b (a b : Fld) : 0 ≤ dv a b ∧ dv a b ≤ 3 := by
  have := dF_b a b
  unfold dv; cases okF a && okF b
  · simp
  · exact this
theorem gd_b (a b : Grp) : 0 ≤ gd a b ∧ gd a b ≤ 4 := by
  have h1 := nB_b (!decide (a.c = b.c)); have h2 := nB_b (!decide (a.t = b.t)); have h3 := nB_b (!decide (a.a = b.a))
  unfold gd
  cases eqG a b
  · cases noG a || noG b
    · cases decide (a.k = b.k) <;> simp only [cond_true, cond_false, Bool.not_true, Bool.not_false] <;> omega
    · simp
  · simp
theorem ls_b (a b : Grp) : 0 ≤ ls a b ∧ ls a b ≤ 4 := by
  have h1 := nB_b (!decide (a.c = b.c)); have h2 := nB_b (!decide (a.t = b.t)); have h3 := nB_b (!decide (a.a = b.a))
  unfold ls
  cases noG a != noG b
  · cases decide (a.k = b.k) <;> simp only [cond_true, cond_false, Bool.not_true, Bool.not_false] <;> omega
  · simp
def od (a b : Arm) : Int := bif !decide (a.o = b.o) then 2 else nB (!decide (a.l = b.l)) + nB (!decide (a.t = b.t))
def dI (a b : Arm) : Int := dv a.f b.f + (gd a.n b.n + gd a.r b.r) + od a b
def dS (a b : Arm) : Int := dF a.f b.f + ls a.n b.n + ls a.r b.r + od a b

end Go.Proofs.Ytfamdalilcbloaa.AM
