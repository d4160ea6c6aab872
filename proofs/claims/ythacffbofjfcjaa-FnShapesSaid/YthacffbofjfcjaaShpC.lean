import Derived.Test.YthacffbofjfcjaaShpB
set_option linter.unusedVariables false
set_option linter.unusedSimpArgs false
set_option maxRecDepth 100000
set_option maxHeartbeats 4000000
set_option cbv.maxSteps 3000000
namespace Go.Proofs.Ythacffbofjfcjaa.AM
/- How many cells a shape has; conditions: none. -/
def sumTo (f : Int → Int) : Nat → Int
  | 0 => 0
  | n + 1 => sumTo f n + f n
def cntF (k a n : Int) : Int := sumTo (fun u => sumTo (fun v => if cellF k a n u v then 1 else 0) n.toNat) n.toNat
theorem sumTo_bd {f : Int → Int} {B : Nat} (h : ∀ u, 0 ≤ f u ∧ f u ≤ B) : ∀ m, 0 ≤ sumTo f m ∧ sumTo f m ≤ (B * m : Nat)
  | 0 => ⟨Int.le_refl _, by simp [sumTo]⟩
  | m + 1 => by
    have h1 := sumTo_bd h m
    have h2 := h m
    rw [Nat.mul_succ]
    simp only [sumTo]
    omega
theorem c_ShapeCells (k a n : Int) : Con Try.prog 12 [.lit (.int .i64 k), .lit (.int .i64 a), .lit (.int .i64 n)] [] (.tup [.lit (.int .i64 (if attF k a && inB n 1 8 then cntF k a n else 0)), .lit (.bool (attF k a && inB n 1 8))]) [] := by
  have hB : Base Try.prog (tabΓ [e_hasAttitude, e_inside, e_shape, e_number]) tab := base_of tabOk (ents_cons eok_hasAttitude <| ents_cons eok_inside <| ents_cons eok_shape <| ents_cons eok_number <| ents_nil)
  refine con_ok (N := 40) hB (draw_ok hB mixed) Try.func12 rfl rfl _ _ 0 _ _ 60 (by simp) (by intro x hx; simp only [List.mem_cons, List.not_mem_nil, or_false] at hx; rcases hx with rfl | rfl | rfl <;> exact .lit) (by simp [lk]) (.tup (by simp; repeat' constructor)) (by simp) ?_
  intro X hX H hH
  conv in finish _ _ _ _ _ _ _ _ => cbv
  subst hH
  simp only [Fin.sat_ret, Fin.sat_br, Fin.sat_need, AllP, stdH, and_true, true_and]
  refine ⟨fun h => ?_, fun h => ?_⟩
  · have e : (attF k a && inB n 1 8) = false := by cases h1 : attF k a <;> cases h2 : inB n 1 8 <;> simp_all
    rw [e]; exact ⟨_, rfl, .refl, by simp⟩
  have e1 : attF k a = true := by cases h1 : attF k a <;> simp_all
  have e2 : inB n 1 8 = true := by cases h1 : inB n 1 8 <;> simp_all
  rw [e1, e2]
  have hn : 1 ≤ n ∧ n ≤ 8 := by unfold inB at e2; simpa using e2
  obtain ⟨T, hT⟩ : ∃ T : Int → Nat → Int, T = fun u j => sumTo (fun v => if cellF k a n u v = true then 1 else 0) j := ⟨_, rfl⟩
  obtain ⟨S, hS⟩ : ∃ S : Nat → Int, S = fun i => sumTo (fun u => T u n.toNat) i := ⟨_, rfl⟩
  have hT0 : ∀ u, T u 0 = 0 := fun u => by rw [hT]; rfl
  have hS0 : S 0 = 0 := by rw [hS]; rfl
  have hT1 : ∀ u j, T u (j + 1) = T u j + (if cellF k a n u j = true then 1 else 0) := fun u j => by rw [hT]; rfl
  have hS1 : ∀ i, S (i + 1) = S i + T i n.toNat := fun i => by rw [hS]; rfl
  have hTb : ∀ u m, 0 ≤ T u m ∧ T u m ≤ (1 * m : Nat) := fun u m => by rw [hT]; exact sumTo_bd (fun v => by split <;> omega) m
  have hSb : ∀ i, 0 ≤ S i ∧ S i ≤ (n.toNat * i : Nat) := fun i => by rw [hS]; exact sumTo_bd (fun u => by have := hTb u n.toNat; omega) i
  have hc : cntF k a n = S n.toNat := by rw [hS, hT]; rfl
  rw [hc]
  clear hT hS hc
  refine loop_sat hB (draw_ok hB mixed) hX (ι := { i : Nat // i ≤ n.toNat }) 60 (fun H i => ⟨[(0, .lit (.int .i64 k)), (1, .lit (.int .i64 a)), (2, .lit (.int .i64 n)), (8, .lit (.int .i64 (H Int fun _ => S i.1))), (20, .lit (.int .i64 n)), (21, .lit (.int .i64 (H Int fun _ => i.1)))], [], X.n0⟩) (fun i => n.toNat - i.1) ⟨0, Nat.zero_le _⟩ ?_ ?_
  · exact .of (by simp [lk, hS0, hT0]; repeat' constructor)
  · rintro ⟨i, hi⟩ H hH
    conv in finish _ _ _ _ _ _ _ _ => cbv
    subst hH
    simp only [Fin.sat_ret, Fin.sat_br, Fin.sat_need, AllP, stdH, and_true, true_and, decide_eq_true_eq, decide_eq_false_iff_not, Int.ofNat_eq_natCast, ncast]
    have hSi := hSb i
    have hB8 : n.toNat * i ≤ 8 * 8 := Nat.mul_le_mul (by omega) (by omega)
    refine ⟨fun hlt => ?_, fun hge => ?_⟩
    · refine loop_sat hB (draw_ok hB mixed) hX (ι := { j : Nat // j ≤ n.toNat }) 60 (fun H j => ⟨[(0, .lit (.int .i64 k)), (1, .lit (.int .i64 a)), (2, .lit (.int .i64 n)), (8, .lit (.int .i64 (H Int fun _ => S i + T i j.1))), (20, .lit (.int .i64 n)), (21, .lit (.int .i64 (H Int fun _ => i))), (9, .lit (.int .i64 (H Int fun _ => i))), (24, .lit (.int .i64 n)), (25, .lit (.int .i64 (H Int fun _ => j.1)))], [], X.n0⟩) (fun j => n.toNat - j.1) ⟨0, Nat.zero_le _⟩ ?_ ?_
      · exact .of (by simp [lk, hS0, hT0]; repeat' constructor)
      · rintro ⟨j, hj⟩ H hH
        conv in finish _ _ _ _ _ _ _ _ => cbv
        subst hH
        simp only [Fin.sat_ret, Fin.sat_br, Fin.sat_need, Fin.sat_again, AllP, stdH, and_true, true_and, decide_eq_true_eq, decide_eq_false_iff_not, Int.ofNat_eq_natCast, ncast]
        have hTj := hTb i j
        have hTi := hTb i n.toNat
        refine ⟨fun hlt2 => ⟨⟨by omega, by omega, by omega⟩, ?_⟩, fun hge2 => ?_⟩
        · simp only [upd, if_true]
          refine ⟨⟨j + 1, by omega⟩, by simp only; omega, .of ?_⟩
          have e1 : IntKind.i64.wrap (S i + T i j + if cellF k a n i j = true then 1 else 0) = S i + T i (j + 1) := by rw [hT1, wi] <;> split <;> omega
          have e2 : IntKind.i64.wrap ((j : Int) + 1) = ((j + 1 : Nat) : Int) := by rw [wi] <;> omega
          simp only [e1, e2]
          simp [lk]
          repeat' constructor
        · have e2 : IntKind.i64.wrap ((i : Int) + 1) = ((i + 1 : Nat) : Int) := by rw [wi] <;> omega
          have ej : j = n.toNat := by omega
          subst ej
          simp only [upd, List.length_cons, List.length_nil, e2]
          refine ⟨⟨i + 1, by omega⟩, by simp only; omega, .of ?_⟩
          simp [lk, hS1]
          repeat' constructor
    · have : i = n.toNat := by omega
      subst this
      exact ⟨_, rfl, .refl, by simp⟩

end Go.Proofs.Ythacffbofjfcjaa.AM
