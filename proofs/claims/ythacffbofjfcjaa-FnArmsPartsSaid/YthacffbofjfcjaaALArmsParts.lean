import Derived.Test.YthacffbofjfcjaaDrS
set_option linter.unusedVariables false
set_option linter.unusedSimpArgs false
set_option maxRecDepth 100000
set_option maxHeartbeats 4000000
set_option cbv.maxSteps 3000000
namespace Go.Proofs.Ythacffbofjfcjaa.AM
/- The law FnArmsParts holds; conditions: none. -/
theorem okA_zA : okA zA = false := by decide
theorem bst_min (g : Nat → Arm) : ∀ i k, k < i → layA (g (bst g i)) ≤ layA (g k)
  | 0, _, h => by omega
  | i + 1, k, h => by
    have ih := fun k h => bst_min g i k h
    unfold bst
    cases hb : better (g i) (g (bst g i))
    · rw [if_neg (by simp)]
      have h1 : ¬ layA (g i) < layA (g (bst g i)) := by intro h2; simp [better, h2] at hb
      by_cases hk : k = i
      · subst hk; omega
      · exact ih k (by omega)
    · rw [if_pos rfl]
      have h1 : layA (g i) ≤ layA (g (bst g i)) := by
        simp only [better, Bool.or_eq_true, Bool.and_eq_true, decide_eq_true_eq] at hb
        omega
      by_cases hk : k = i
      · subst hk; omega
      · have := ih k (by omega); omega
theorem wf_back {a : Arm} {f : Fld} (h : okA a = true) : okA (wf (wf a f) a.f) = true := h
theorem wo_back {x : Arm} {o l t : Int} (h : okA x = true) : okA (wo (wo x o l t) x.o x.l x.t) = true := by
  obtain ⟨f0, o0, l0, t0, n0, r0⟩ := x
  simp only [okA, Bool.and_eq_true] at h
  obtain ⟨⟨hf, hr⟩, ho⟩ := h
  have hz : noG ⟨0, 0, 0, 0⟩ = true := by decide
  show okA ⟨f0, o0, l0, t0, (if o0 = 0 then ⟨0, 0, 0, 0⟩ else if o = 0 then ⟨0, 0, 0, 0⟩ else n0), r0⟩ = true
  by_cases h0 : o0 = 0
  · rw [if_pos h0]
    rw [if_pos h0] at ho
    simp only [Bool.and_eq_true] at ho
    simp only [okA, Bool.and_eq_true]
    refine ⟨⟨hf, hr⟩, ?_⟩
    rw [if_pos h0]
    simp only [Bool.and_eq_true]
    exact ⟨ho.1, hz⟩
  · rw [if_neg h0]
    rw [if_neg h0] at ho
    simp only [Bool.and_eq_true] at ho
    by_cases h1 : o = 0
    · rw [if_pos h1]
      simp only [okA, Bool.and_eq_true]
      refine ⟨⟨hf, hr⟩, ?_⟩
      rw [if_neg h0]
      simp only [Bool.and_eq_true]
      exact ⟨ho.1, by rw [hz]; rfl⟩
    · rw [if_neg h1]
      simp only [okA, Bool.and_eq_true]
      refine ⟨⟨hf, hr⟩, ?_⟩
      rw [if_neg h0]
      simp only [Bool.and_eq_true]
      exact ho
theorem wg_back (x : Arm) (o l t : Int) : wg (wo (wo x o l t) x.o x.l x.t) x.n x.r = x := rfl
def sameP (a b : Arm) : Bool := decide (a.f.d = b.f.d) && decide (a.f.l = b.f.l) && decide (a.f.p = b.f.p) && decide (a.f.q = b.f.q) && decide (a.o = b.o) && decide (a.l = b.l) && decide (a.t = b.t) && decide (a.n.c = b.n.c) && decide (a.n.k = b.n.k) && decide (a.n.a = b.n.a) && decide (a.n.t = b.n.t) && decide (a.r.c = b.r.c) && decide (a.r.k = b.r.k) && decide (a.r.a = b.r.a) && decide (a.r.t = b.r.t)
theorem sameP_iff {a b : Arm} : sameP a b = true ↔ a = b := by
  obtain ⟨⟨a0, a1, a2, a3⟩, a4, a5, a6, ⟨a7, a8, a9, a10⟩, ⟨a11, a12, a13, a14⟩⟩ := a
  obtain ⟨⟨b0, b1, b2, b3⟩, b4, b5, b6, ⟨b7, b8, b9, b10⟩, ⟨b11, b12, b13, b14⟩⟩ := b
  simp [sameP, and_assoc]
theorem allP (a b : Arm) : allT [fun _ => a.f.d == b.f.d, fun _ => a.f.l == b.f.l, fun _ => a.f.p == b.f.p, fun _ => a.f.q == b.f.q, fun _ => a.o == b.o, fun _ => a.l == b.l, fun _ => a.t == b.t, fun _ => a.n.c == b.n.c, fun _ => a.n.k == b.n.k, fun _ => a.n.a == b.n.a, fun _ => a.n.t == b.n.t, fun _ => a.r.c == b.r.c, fun _ => a.r.k == b.r.k, fun _ => a.r.a == b.r.a, fun _ => a.r.t == b.r.t] = sameP a b := by
  simp [allT, sameP, beqd, Bool.and_assoc]
theorem cond_and {p : Prop} [Decidable p] {b : Bool} (h : (bif decide p then b else false) = true) : p ∧ b = true := by
  by_cases hp : p
  · rw [decide_eq_true hp] at h; exact ⟨hp, h⟩
  · rw [decide_eq_false hp] at h; cases h
theorem arm_eta2 (a : Arm) : (⟨a.f, a.o, a.l, a.t, a.n, a.r⟩ : Arm) = a := rfl
theorem sameP_refl (a : Arm) : sameP a a = true := sameP_iff.2 rfl
theorem both_pos {a x : Arm} (h : okA a = true) (h' : okA x = true) : both a x = x := by unfold both; rw [h, h']; rfl
theorem law_ArmsParts (c : Cd) : Con Try.prog 5 [codeAV c] [] (.lit (.bool true)) [] := by
  have hB : Base Try.prog (tabΓ [e_vBig c, e_DrawWithField c, e_WithField, e_WithFieldS, e_DrawWithOrdinary c, e_WithOrdinary, e_WithOrdinaryS, e_WithGroups, e_DrawSimplest c, e_Simplest, e_SimplestS, e_LayerCount]) tab := base_of tabOk (ents_cons (eok_vBig c) <| ents_cons (eok_DrawWithField c) <| ents_cons eok_WithField <| ents_cons eok_WithFieldS <| ents_cons (eok_DrawWithOrdinary c) <| ents_cons eok_WithOrdinary <| ents_cons eok_WithOrdinaryS <| ents_cons eok_WithGroups <| ents_cons (eok_DrawSimplest c) <| ents_cons eok_Simplest <| ents_cons eok_SimplestS <| ents_cons eok_LayerCount <| ents_nil)
  refine con_ok (N := 199) hB (draw_ok hB mixed) Try.func5 rfl rfl _ _ 0 _ _ 250 (by simp) (codeAV_bl c) (by simp [lk]) .lit (by simp) ?_
  intro X hX H hH
  conv in finish _ _ _ _ _ _ _ _ => cbv
  subst hH
  simp only [Fin.sat_ret, Fin.sat_br, Fin.sat_need, AllP, stdH, and_true, true_and, leafB, fld_eta, grp_eta, arm_eta2, ncast, Int.ofNat_eq_natCast, arowH_std]
  generalize F_DrawWithField c = y at *
  generalize F_DrawWithOrdinary c = z at *
  obtain ⟨a, f⟩ := y
  obtain ⟨x, o, l, t⟩ := z
  dsimp only at *
  simp only [allP]
  have hg : armsOf (arow (sdLg c)) = sdLg c := rfl
  rw [hg]
  generalize sdLg c = g at *
  generalize sdLn c = n at *
  refine ⟨fun _ => trivial, fun _ => ⟨fun h => ?_, fun _ => ⟨fun h => ?_, fun _ => ⟨fun h => ⟨fun h' => ?_, fun _ => ⟨fun _ _ => rfl, fun _ _ => rfl, fun h => ?_, fun _ => ?_⟩⟩, fun _ => ⟨fun _ _ => rfl, fun _ _ => rfl, fun h => ?_, fun _ => ?_⟩⟩⟩⟩⟩
  · cases h1 : okA a
    · have hb : both a (wf a f) = zA := by unfold both; rw [h1]; rfl
      rw [hb, sameP_refl, h1, okA_zA] at h
      simp at h
    · cases h2 : okA (wf a f)
      · have hb : both a (wf a f) = zA := by unfold both; rw [h1, h2]; rfl
        rw [hb, sameP_refl, h1, h2, okA_zA] at h
        simp at h
      · have hb := both_pos h1 h2
        have hw : wf (wf a f) a.f = a := rfl
        rw [hb, hw, both_pos h2 h1, sameP_refl, sameP_refl, h1, h2] at h
        simp at h
  · rw [sameP_refl] at h
    simp at h
  · obtain ⟨h1, h2⟩ : okA x = true ∧ okA (wo x o l t) = true := by simpa using h
    have h3 := wo_back (o := o) (l := l) (t := t) h1
    have h4 := wg_back x o l t
    rw [both_pos h1 h2, both_pos h2 h3, h4, both_pos h3 h1, sameP_refl, h1, h2, h3] at h'
    simp at h'
  · simp at h
  rotate_left
  · simp at h
  all_goals
    refine loop_sat hB (draw_ok hB mixed) hX (ι := { k : Nat // k ≤ n }) 250 (fun H k => ⟨[(23, .vec 15 (H Nat fun _ => n) (arowH H g)), (24, .lit (.int .i64 (H Int fun _ => bif simB n g then ((bst g n : Nat) : Int) else 0))), (25, .lit (.bool (H Bool fun _ => simB n g))), (28, .lit (.int .i64 (H Int fun _ => k.1)))], [], X.n0⟩) (fun k => n - k.1) ⟨0, Nat.zero_le _⟩ ?_ ?_
    · refine .of fun p hp => ?_
      simp only [List.mem_cons, List.not_mem_nil, or_false] at hp
      rcases hp with rfl | rfl | rfl | rfl
      · exact ⟨rfl, arow_bl _ _ _⟩
      · exact ⟨rfl, .lit⟩
      · exact ⟨rfl, .lit⟩
      · exact ⟨rfl, .lit⟩
    · rintro ⟨k, hk⟩ H hH
      conv in finish _ _ _ _ _ _ _ _ => cbv
      subst hH
      simp only [Fin.sat_ret, Fin.sat_br, Fin.sat_need, Fin.sat_again, AllP, stdH, and_true, true_and, leafB, fld_eta, grp_eta, arm_eta, arm_eta2, ncast, Int.ofNat_eq_natCast, arowH_std]
      refine ⟨fun h => ?_, fun _ => trivial⟩
      obtain ⟨hkn', hs⟩ := cond_and h
      have hkn : k < n := by omega
      have hall : ∀ j, j < n → okA (g j) = true := by
        unfold simB at hs
        simp only [Bool.and_eq_true, decide_eq_true_eq] at hs
        exact hs.2
      have hn : 1 ≤ n ∧ n ≤ 20 := by
        unfold simB at hs
        simp only [Bool.and_eq_true, decide_eq_true_eq] at hs
        exact hs.1
      have hbl := bst_lt g n
      have hmin := bst_min g n k hkn
      have e1 : ((k : Int)).toNat = k := rfl
      have e2 : ((bst g n : Int)).toNat = bst g n := rfl
      simp only [hs, cond_true, e1, e2, hall k hkn, hall (bst g n) (by omega), if_true]
      refine ⟨by omega, by omega, fun h => ?_, fun _ => ?_⟩
      · have : ¬ layA (g k) < layA (g (bst g n)) := by omega
        simp [this] at h
      · simp only [upd, List.length_nil, Nat.zero_add, if_true]
        have e3 : IntKind.i64.wrap ((k : Int) + 1) = ((k + 1 : Nat) : Int) := by rw [wi] <;> omega
        refine ⟨⟨k + 1, by omega⟩, by simp only; omega, .of fun p hp => ?_⟩
        simp only [List.mem_cons, List.not_mem_nil, or_false] at hp
        rcases hp with rfl | rfl | rfl | rfl
        · exact ⟨rfl, arow_bl _ _ _⟩
        · exact ⟨rfl, .lit⟩
        · exact ⟨rfl, .lit⟩
        · exact ⟨by rw [e3]; rfl, .lit⟩

end Go.Proofs.Ythacffbofjfcjaa.AM
