import Derived.Test.YthacffbofjfcjaaPar
set_option linter.unusedVariables false
set_option linter.unusedSimpArgs false
set_option maxRecDepth 100000
set_option maxHeartbeats 4000000
set_option cbv.maxSteps 3000000
namespace Go.Proofs.Ythacffbofjfcjaa.AM
/- The simplest arms of a list; conditions: none. -/
def arowH (H : Hold) (g : Nat → Arm) (j : Nat) : List AV := [.lit (.int .i64 (H Int fun _ => (g j).f.d)), .lit (.int .i64 (H Int fun _ => (g j).f.l)), .lit (.int .i64 (H Int fun _ => (g j).f.p)), .lit (.int .i64 (H Int fun _ => (g j).f.q)), .lit (.int .i64 (H Int fun _ => (g j).o)), .lit (.int .i64 (H Int fun _ => (g j).l)), .lit (.int .i64 (H Int fun _ => (g j).t)), .lit (.int .i64 (H Int fun _ => (g j).n.c)), .lit (.int .i64 (H Int fun _ => (g j).n.k)), .lit (.int .i64 (H Int fun _ => (g j).n.a)), .lit (.int .i64 (H Int fun _ => (g j).n.t)), .lit (.int .i64 (H Int fun _ => (g j).r.c)), .lit (.int .i64 (H Int fun _ => (g j).r.k)), .lit (.int .i64 (H Int fun _ => (g j).r.a)), .lit (.int .i64 (H Int fun _ => (g j).r.t))]
def arow (g : Nat → Arm) (j : Nat) : List AV := [.lit (.int .i64 (g j).f.d), .lit (.int .i64 (g j).f.l), .lit (.int .i64 (g j).f.p), .lit (.int .i64 (g j).f.q), .lit (.int .i64 (g j).o), .lit (.int .i64 (g j).l), .lit (.int .i64 (g j).t), .lit (.int .i64 (g j).n.c), .lit (.int .i64 (g j).n.k), .lit (.int .i64 (g j).n.a), .lit (.int .i64 (g j).n.t), .lit (.int .i64 (g j).r.c), .lit (.int .i64 (g j).r.k), .lit (.int .i64 (g j).r.a), .lit (.int .i64 (g j).r.t)]
theorem arowH_std (g : Nat → Arm) : arowH stdH g = arow g := rfl
def armOf : List AV → Arm
  | [.lit (.int _ a0), .lit (.int _ a1), .lit (.int _ a2), .lit (.int _ a3), .lit (.int _ a4), .lit (.int _ a5), .lit (.int _ a6), .lit (.int _ a7), .lit (.int _ a8), .lit (.int _ a9), .lit (.int _ a10), .lit (.int _ a11), .lit (.int _ a12), .lit (.int _ a13), .lit (.int _ a14)] => ⟨⟨a0, a1, a2, a3⟩, a4, a5, a6, ⟨a7, a8, a9, a10⟩, ⟨a11, a12, a13, a14⟩⟩
  | _ => zA
def armsOf (f : Nat → List AV) (j : Nat) : Arm := armOf (f j)
theorem armsOf_arow (g : Nat → Arm) (j : Nat) : armsOf (arow g) j = g j := rfl
theorem arow_bl (g : Nat → Arm) (n m : Nat) : Bl m (.vec 15 n (arow g)) := .vec fun j _ x hx => by
  simp only [arow, List.mem_cons, List.not_mem_nil, or_false] at hx
  rcases hx with rfl | rfl | rfl | rfl | rfl | rfl | rfl | rfl | rfl | rfl | rfl | rfl | rfl | rfl | rfl <;> exact .lit
def chA (a : Arm) : Int := IntKind.i64.wrap (a.n.c + a.r.c)
def better (a b : Arm) : Bool := decide (layA a < layA b) || (decide (layA a = layA b) && decide (chA a < chA b))
def bst (g : Nat → Arm) : Nat → Nat
  | 0 => 0
  | i + 1 => if better (g i) (g (bst g i)) then i else bst g i
theorem bst_lt (g : Nat → Arm) : ∀ i, bst g i ≤ i - 1
  | 0 => Nat.le_refl _
  | i + 1 => by
    have := bst_lt g i
    unfold bst
    split <;> omega
def simB (n : Nat) (g : Nat → Arm) : Bool := decide (1 ≤ n ∧ n ≤ 20) && decide (∀ j, j < n → okA (g j) = true)
theorem c_Simplest (n : Nat) (g : Nat → Arm) : Con Try.prog 30 [.vec 15 n (arow g)] [] (.tup [.lit (.int .i64 (bif simB n g then ((bst g n : Nat) : Int) else 0)), .lit (.bool (simB n g))]) [] := by
  have hB : Base Try.prog (tabΓ [e_inside, e_IsValidArms, e_layers, e_charges]) tab := base_of tabOk (ents_cons eok_inside <| ents_cons eok_IsValidArms <| ents_cons eok_layers <| ents_cons eok_charges <| ents_nil)
  refine con_okN (N := 48) hB (draw_ok hB mixed) Try.func30 rfl rfl _ _ 0 _ _ 150 (by simp) (by intro x hx; simp only [List.mem_cons, List.not_mem_nil, or_false] at hx; subst hx; exact arow_bl _ _ _) (by simp [lk]) (blq_ok 4 rfl) (by simp) ?_
  intro X hX hX0 H hH
  conv in finish _ _ _ _ _ _ _ _ => cbv
  subst hH
  simp only [Fin.sat_ret, Fin.sat_br, Fin.sat_need, AllP, stdH, and_true, true_and, ncast, Int.ofNat_eq_natCast, Bool.not_eq_true', Bool.not_eq_false']
  refine ⟨fun h => ?_, fun h => ?_⟩
  · have : simB n g = false := by
      unfold inB at h
      have : ¬ (1 ≤ n ∧ n ≤ 20) := by simp at h; omega
      simp [simB, this]
    rw [this]
    exact ⟨_, rfl, .refl, by simp⟩
  have hn : 1 ≤ n ∧ n ≤ 20 := by unfold inB at h; simp at h; omega
  refine loop_sat hB (draw_ok hB mixed) hX (ι := { i : Nat // i ≤ n ∧ ∀ j, j < i → okA (g j) = true }) 150 (fun H i => ⟨[(0, .vec 15 (H Nat fun _ => n) (arowH H g)), (4, .lit (.int .i64 (H Int fun _ => (bst g i.1 : Nat)))), (12, .vec 15 (H Nat fun _ => n) (arowH H g)), (13, .lit (.int .i64 (H Int fun _ => n))), (14, .lit (.int .i64 (H Int fun _ => i.1)))], [], 0⟩) (fun i => n - i.1) ⟨0, Nat.zero_le _, by omega⟩ ?_ ?_
  · rw [hX0]
    refine .of fun p hp => ?_
    simp only [List.mem_cons, List.not_mem_nil, or_false] at hp
    rcases hp with rfl | rfl | rfl | rfl | rfl
    · exact ⟨rfl, arow_bl _ _ _⟩
    · exact ⟨rfl, .lit⟩
    · exact ⟨rfl, arow_bl _ _ _⟩
    · exact ⟨rfl, .lit⟩
    · exact ⟨rfl, .lit⟩
  · rintro ⟨i, hi, hj⟩ H hH
    conv in finish _ _ _ _ _ _ _ _ => cbv
    subst hH
    simp only [Fin.sat_ret, Fin.sat_br, Fin.sat_need, Fin.sat_again, AllP, stdH, and_true, true_and, ncast, Int.ofNat_eq_natCast, arm_eta, Bool.not_eq_true', Bool.not_eq_false', decide_eq_true_eq, decide_eq_false_iff_not, hX0, arowH_std]
    have e1 : ((i : Int)).toNat = i := rfl
    have e1' : ((bst g i : Int)).toNat = bst g i := rfl
    simp only [e1, e1']
    refine ⟨fun hlt => ?_, fun hge => ?_⟩
    · have hi' : i < n := by omega
      have hb := bst_lt g i
      have fin5 : ∀ (s : Env) (hp : Heap) (nx : Nat), okA (g i) = true → lk 0 s = some (.vec 15 n (arow g)) → lk 4 s = some (.lit (.int .i64 (bst g (i + 1) : Nat))) → lk 12 s = some (.vec 15 n (arow g)) → lk 13 s = some (.lit (.int .i64 (n : Nat))) → lk 14 s = some (.lit (.int .i64 (IntKind.i64.wrap ((i : Int) + 1)))) →
          ∃ j : { i : Nat // i ≤ n ∧ ∀ j, j < i → okA (g j) = true }, n - j.val < n - i ∧ StLe 0 ⟨[(0, .vec 15 n (arow g)), (4, .lit (.int .i64 (bst g j.val : Nat))), (12, .vec 15 n (arow g)), (13, .lit (.int .i64 (n : Nat))), (14, .lit (.int .i64 (j.val : Int)))], [], 0⟩ ⟨s, hp, nx⟩ := by
        intro s hp nx ho k1 k2 k3 k4 k5
        have e2 : IntKind.i64.wrap ((i : Int) + 1) = ((i + 1 : Nat) : Int) := by rw [wi] <;> omega
        refine ⟨⟨i + 1, by omega, fun j hj' => ?_⟩, by simp only; omega, .of fun p hp => ?_⟩
        · rcases Nat.lt_or_ge j i with h1 | h1
          · exact hj j h1
          · obtain rfl : j = i := by omega
            exact ho
        simp only [List.mem_cons, List.not_mem_nil, or_false] at hp
        rcases hp with rfl | rfl | rfl | rfl | rfl
        · exact ⟨k1, arow_bl _ _ _⟩
        · exact ⟨k2, .lit⟩
        · exact ⟨k3, arow_bl _ _ _⟩
        · exact ⟨k4, .lit⟩
        · exact ⟨by rw [← e2]; exact k5, .lit⟩
      have bad : okA (g i) = false → simB n g = false := fun h => by
        have : ¬ ∀ j, j < n → okA (g j) = true := fun q => by rw [q i hi'] at h; cases h
        simp [simB, this]
      have good : okA (g i) = true → ∀ j, j < i + 1 → okA (g j) = true := fun ho j hj' => by
        rcases Nat.lt_or_ge j i with h1 | h1
        · exact hj j h1
        · obtain rfl : j = i := by omega
          exact ho
      have up : ∀ b, better (g i) (g (bst g i)) = b → bst g (i + 1) = if b = true then i else bst g i := fun b hb => by rw [← hb]; rfl
      have hbt : better (g i) (g (bst g i)) = (bif decide (layA (g i) < layA (g (bst g i))) then true else bif layA (g i) == layA (g (bst g i)) then decide (IntKind.i64.wrap ((g i).n.c + (g i).r.c) < IntKind.i64.wrap ((g (bst g i)).n.c + (g (bst g i)).r.c)) else false) := by
        simp only [better, chA, beqd, bifF, bifT]
        rfl
      rw [← hbt]
      simp only [upd, List.length_nil, Nat.zero_add, if_true]
      refine ⟨by omega, fun h => ?_, fun h => ⟨by omega, fun h' => ?_, fun h' => ?_⟩⟩
      · rw [bad h]; exact ⟨_, rfl, .refl, by simp⟩
      · exact fin5 _ _ _ h rfl (by rw [up _ h', if_pos rfl]; rfl) rfl rfl rfl
      · exact fin5 _ _ _ h rfl (by rw [up _ h', if_neg (by simp)]; rfl) rfl rfl rfl
    · have hin : i = n := by omega
      subst hin
      have : simB i g = true := by
        unfold simB
        rw [decide_eq_true hn, Bool.true_and]
        exact decide_eq_true hj
      rw [this]
      exact ⟨_, rfl, .refl, by simp⟩
def e_Simplest : Entry := pureE 30 fun H a => match a with
  | [.vec 15 n f] => some (.tup [.lit (.int .i64 (H Int fun _ => bif simB n (armsOf f) then ((bst (armsOf f) n : Nat) : Int) else 0)), .lit (.bool (H Bool fun _ => simB n (armsOf f)))], [H Prop fun _ => ∀ j, j < n → f j = arow (armsOf f) j])
  | _ => none
theorem eok_Simplest : EntryOk Try.prog e_Simplest := pureE_ok (by unfold isBody; kernel_rfl) (by
  intro a r ob e hob
  split at e
  · simp only [Option.some.injEq, Prod.mk.injEq] at e
    obtain ⟨rfl, rfl⟩ := e
    obtain ⟨h1, _⟩ := hob
    exact Con.args (fun C vs hl => hl.vec0 h1) (c_Simplest _ _)
  · simp at e)
theorem c_SimplestS (n : Nat) (g : Nat → Arm) : Con Try.prog 31 [.vec 15 n (arow g)] [] (.tup [.lit (.int .i64 (bif simB n g then ((bst g n : Nat) : Int) else 0)), .lit (.bool (simB n g))]) [] := by
  have hB : Base Try.prog (tabΓ [e_l1In, e_l5Good, e_l5Layers]) tab := base_of tabOk (ents_cons eok_l1In <| ents_cons eok_l5Good <| ents_cons eok_l5Layers <| ents_nil)
  refine con_okN (N := 62) hB (draw_ok hB mixed) Try.func31 rfl rfl _ _ 0 _ _ 150 (by simp) (by intro x hx; simp only [List.mem_cons, List.not_mem_nil, or_false] at hx; subst hx; exact arow_bl _ _ _) (by simp [lk]) (blq_ok 4 rfl) (by simp) ?_
  intro X hX hX0 H hH
  conv in finish _ _ _ _ _ _ _ _ => cbv
  subst hH
  simp only [Fin.sat_ret, Fin.sat_br, Fin.sat_need, AllP, stdH, and_true, true_and, ncast, Int.ofNat_eq_natCast, Bool.not_eq_true', Bool.not_eq_false']
  refine ⟨fun h => ?_, fun h => ?_⟩
  · have : simB n g = false := by
      unfold inB at h
      have : ¬ (1 ≤ n ∧ n ≤ 20) := by simp at h; omega
      simp [simB, this]
    rw [this]
    exact ⟨_, rfl, .refl, by simp⟩
  have hn : 1 ≤ n ∧ n ≤ 20 := by unfold inB at h; simp at h; omega
  refine loop_sat hB (draw_ok hB mixed) hX (ι := { i : Nat // i ≤ n ∧ ∀ j, j < i → okA (g j) = true }) 150 (fun H i => ⟨[(0, .vec 15 (H Nat fun _ => n) (arowH H g)), (4, .lit (.int .i64 (H Int fun _ => (bst g i.1 : Nat)))), (5, .lit (.int .i64 (H Int fun _ => i.1)))], [], 0⟩) (fun i => n - i.1) ⟨0, Nat.zero_le _, by omega⟩ ?_ ?_
  · rw [hX0]
    refine .of fun p hp => ?_
    simp only [List.mem_cons, List.not_mem_nil, or_false] at hp
    rcases hp with rfl | rfl | rfl
    · exact ⟨rfl, arow_bl _ _ _⟩
    · exact ⟨rfl, .lit⟩
    · exact ⟨rfl, .lit⟩
  · rintro ⟨i, hi, hj⟩ H hH
    conv in finish _ _ _ _ _ _ _ _ => cbv
    subst hH
    simp only [Fin.sat_ret, Fin.sat_br, Fin.sat_need, Fin.sat_again, AllP, stdH, and_true, true_and, ncast, Int.ofNat_eq_natCast, arm_eta, Bool.not_eq_true', Bool.not_eq_false', decide_eq_true_eq, decide_eq_false_iff_not, hX0, arowH_std]
    have e1 : ((i : Int)).toNat = i := rfl
    have e1' : ((bst g i : Int)).toNat = bst g i := rfl
    simp only [e1, e1']
    refine ⟨fun hlt => ?_, fun hge => ?_⟩
    · have hi' : i < n := by omega
      have hb := bst_lt g i
      have fin5 : ∀ (s : Env) (hp : Heap) (nx : Nat), okA (g i) = true → lk 0 s = some (.vec 15 n (arow g)) → lk 4 s = some (.lit (.int .i64 (bst g (i + 1) : Nat))) → lk 5 s = some (.lit (.int .i64 (IntKind.i64.wrap ((i : Int) + 1)))) →
          ∃ j : { i : Nat // i ≤ n ∧ ∀ j, j < i → okA (g j) = true }, n - j.val < n - i ∧ StLe 0 ⟨[(0, .vec 15 n (arow g)), (4, .lit (.int .i64 (bst g j.val : Nat))), (5, .lit (.int .i64 (j.val : Int)))], [], 0⟩ ⟨s, hp, nx⟩ := by
        intro s hp nx ho k1 k2 k5
        have e2 : IntKind.i64.wrap ((i : Int) + 1) = ((i + 1 : Nat) : Int) := by rw [wi] <;> omega
        refine ⟨⟨i + 1, by omega, fun j hj' => ?_⟩, by simp only; omega, .of fun p hp => ?_⟩
        · rcases Nat.lt_or_ge j i with h1 | h1
          · exact hj j h1
          · obtain rfl : j = i := by omega
            exact ho
        simp only [List.mem_cons, List.not_mem_nil, or_false] at hp
        rcases hp with rfl | rfl | rfl
        · exact ⟨k1, arow_bl _ _ _⟩
        · exact ⟨k2, .lit⟩
        · exact ⟨by rw [← e2]; exact k5, .lit⟩
      have bad : okA (g i) = false → simB n g = false := fun h => by
        have : ¬ ∀ j, j < n → okA (g j) = true := fun q => by rw [q i hi'] at h; cases h
        simp [simB, this]
      have good : okA (g i) = true → ∀ j, j < i + 1 → okA (g j) = true := fun ho j hj' => by
        rcases Nat.lt_or_ge j i with h1 | h1
        · exact hj j h1
        · obtain rfl : j = i := by omega
          exact ho
      have up : ∀ b, better (g i) (g (bst g i)) = b → bst g (i + 1) = if b = true then i else bst g i := fun b hb => by rw [← hb]; rfl
      have hbt : okA (g i) = true → better (g i) (g (bst g i)) = (bif decide (layS (g i) < layS (g (bst g i))) then true else bif layS (g i) == layS (g (bst g i)) then decide (IntKind.i64.wrap ((g i).n.c + (g i).r.c) < IntKind.i64.wrap ((g (bst g i)).n.c + (g (bst g i)).r.c)) else false) := fun ho => by
        rw [layS_eq ho, layS_eq (good ho (bst g i) (by omega))]
        simp only [better, chA, beqd, bifF, bifT]
        rfl
      simp only [upd, List.length_nil, Nat.zero_add, if_true]
      refine ⟨by omega, by omega, fun h => ?_, fun h => ?_⟩
      · rw [bad h]; exact ⟨_, rfl, .refl, by simp⟩
      · rw [← hbt h]
        refine ⟨fun h' => ?_, fun h' => ?_⟩
        · exact fin5 _ _ _ h rfl (by rw [up _ h', if_pos rfl]; rfl) rfl
        · exact fin5 _ _ _ h rfl (by rw [up _ h', if_neg (by simp)]; rfl) rfl
    · have hin : i = n := by omega
      subst hin
      have : simB i g = true := by
        unfold simB
        rw [decide_eq_true hn, Bool.true_and]
        exact decide_eq_true hj
      rw [this]
      exact ⟨_, rfl, .refl, by simp⟩
def e_SimplestS : Entry := pureE 31 fun H a => match a with
  | [.vec 15 n f] => some (.tup [.lit (.int .i64 (H Int fun _ => bif simB n (armsOf f) then ((bst (armsOf f) n : Nat) : Int) else 0)), .lit (.bool (H Bool fun _ => simB n (armsOf f)))], [H Prop fun _ => ∀ j, j < n → f j = arow (armsOf f) j])
  | _ => none
theorem eok_SimplestS : EntryOk Try.prog e_SimplestS := pureE_ok (by unfold isBody; kernel_rfl) (by
  intro a r ob e hob
  split at e
  · simp only [Option.some.injEq, Prod.mk.injEq] at e
    obtain ⟨rfl, rfl⟩ := e
    obtain ⟨h1, _⟩ := hob
    exact Con.args (fun C vs hl => hl.vec0 h1) (c_SimplestS _ _)
  · simp at e)

end Go.Proofs.Ythacffbofjfcjaa.AM
