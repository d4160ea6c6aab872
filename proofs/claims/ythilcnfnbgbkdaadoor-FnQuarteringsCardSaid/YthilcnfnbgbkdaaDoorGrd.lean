import Derived.Test.YthilcnfnbgbkdaaDoorAmT
import Derived.Test.YthilcnfnbgbkdaaDoorMrg
set_option linter.unusedVariables false
set_option linter.unusedSimpArgs false
set_option maxRecDepth 100000
set_option maxHeartbeats 4000000
set_option cbv.maxSteps 3000000
namespace Go.Proofs.YthilcnfnbgbkdaaDoor.AM
/- The grid of quarterings; conditions: none. -/
def grS (n r p : Nat) (s : Nat × Nat) : Nat × Nat := if n ≤ r * p ∧ (s.1 = 0 ∨ r * p < s.1 * s.2) then (r, p) else s
def grI (n r : Nat) : Nat → Nat × Nat → Nat × Nat
  | 0, s => s
  | k + 1, s => grS n r (r + k) (grI n r k s)
def grO (n : Nat) : Nat → Nat × Nat
  | 0 => (0, 0)
  | k + 1 => grI n (k + 1) 3 (grO n k)
def gr (n : Nat) : Nat × Nat := grO n n
theorem grS_le {n r p : Nat} {s : Nat × Nat} (h : s.1 ≤ 12 ∧ s.2 ≤ 14) (hr : r ≤ 12) (hp : p ≤ 14) : (grS n r p s).1 ≤ 12 ∧ (grS n r p s).2 ≤ 14 := by
  unfold grS
  split
  · exact ⟨hr, hp⟩
  · exact h
theorem grI_le {n r : Nat} {s : Nat × Nat} (h : s.1 ≤ 12 ∧ s.2 ≤ 14) (hr : r ≤ 12) : ∀ {k : Nat}, k ≤ 3 → (grI n r k s).1 ≤ 12 ∧ (grI n r k s).2 ≤ 14
  | 0, _ => h
  | k + 1, hk => grS_le (grI_le h hr (by omega)) hr (by omega)
theorem grO_le {n : Nat} : ∀ {k : Nat}, k ≤ 12 → (grO n k).1 ≤ 12 ∧ (grO n k).2 ≤ 14
  | 0, _ => ⟨Nat.zero_le _, Nat.zero_le _⟩
  | k + 1, hk => grI_le (grO_le (by omega)) (by omega) (by omega)
theorem gr_ok : ∀ n : Nat, n < 13 → 1 ≤ n → 1 ≤ (gr n).1 ∧ 1 ≤ (gr n).2 ∧ n ≤ (gr n).1 * (gr n).2 ∧ (gr n).1 ≤ 12 ∧ (gr n).2 ≤ 14 := by decide
theorem wm {a b : Nat} (ha : a ≤ 14) (hb : b ≤ 15) : IntKind.i64.wrap ((a : Int) * (b : Int)) = ((a * b : Nat) : Int) := by
  have : a * b ≤ 14 * 15 := Nat.mul_le_mul ha hb
  rw [← Int.natCast_mul, wi (by omega) (by omega)]
theorem grS_c {x : Int} {m a b : Nat} (hx : 1 ≤ x) (ha : a ≤ 14) (hb : b ≤ 15) : (bif decide (x ≤ (m : Int)) then bif (a : Int) == 0 then true else decide ((m : Int) < IntKind.i64.wrap ((a : Int) * (b : Int))) else false) = decide (x.toNat ≤ m ∧ (a = 0 ∨ m < a * b)) := by
  rw [wm ha hb, Bool.eq_iff_iff]
  by_cases h1 : x ≤ (m : Int)
  · rw [decide_eq_true h1, cond_true]
    by_cases h2 : a = 0
    · subst h2
      simp; omega
    · rw [show ((a : Int) == 0) = false by rw [beq_eq_false_iff_ne]; omega, cond_false]
      simp only [decide_eq_true_eq]
      generalize a * b = q
      omega
  · rw [decide_eq_false h1, cond_false]
    simp only [decide_eq_true_eq]
    constructor
    · intro h; cases h
    · omega
theorem c_gridOf (x : Int) (h0 : 1 ≤ x ∧ x ≤ 12) : ConN Tryd.prog 14 [.lit (.int .i64 x)] [] 0 (.tup [.lit (.int .i64 (stdH Int fun _ => ((gr x.toNat).1 : Nat))), .lit (.int .i64 (stdH Int fun _ => ((gr x.toNat).2 : Nat))), .lit (.bool (stdH Bool fun _ => true))]) [] [] := by
  have hB : Base Tryd.prog (tabΓ [e_inside]) tab := base_of tabOk (ents_cons eok_inside <| ents_nil)
  refine con_m (N := 46) hB (draw_ok hB mixed) Tryd.func14 rfl rfl (fun H => [.lit (.int .i64 x)]) (fun _ => []) 0 (fun H => .tup [.lit (.int .i64 (H Int fun _ => ((gr x.toNat).1 : Nat))), .lit (.int .i64 (H Int fun _ => ((gr x.toNat).2 : Nat))), .lit (.bool (H Bool fun _ => true))]) (fun H => []) (fun _ => []) 300 (by simp) (fun x hx => ?_) (by simp [lk]) (by omega) (by simp) ?_
  · simp only [List.mem_cons, List.not_mem_nil, or_false] at hx
    rcases hx with rfl
    · exact .lit
  intro X hX hX0 H hH
  conv in Fin.chk _ _ => cbv
  try simp only [Plain_rowsA, Plain_rowsB, Plain_rowsC, Plain_rowsF, Plain_rowsG, Plain_rowsI, Plain_rowsS, Plain_rowsU, Fin.satC_ret, Fin.satC_br, Fin.satC_need, Fin.satC_again, AllP, and_true, true_and, upd, List.length_nil, List.length_cons, Nat.zero_add, if_true, ncast, Int.ofNat_eq_natCast]
  refine ⟨fun h => ?_, fun h => ?_⟩
  · exfalso
    simp only [hH, stdH, inB] at h
    rw [decide_eq_true h0] at h
    cases h
  · refine loop_a hB (draw_ok hB mixed) hX hX0 hH false (ι := { i : Nat // i ≤ x.toNat }) 300 (fun i => [.i (H Int fun _ => ((grO x.toNat i.1).1 : Nat)), .i (H Int fun _ => ((grO x.toNat i.1).2 : Nat)), .i (H Int fun _ => (i.1 + 1 : Nat))]) (fun i => x.toNat - i.1) (⟨0, by omega⟩) ?_ ?_
    · (conv in matchSt _ _ _ _ => cbv); simp only [AllG, AllP, and_true, hH, stdH, ncast, Int.ofNat_eq_natCast, vrow_I, Arm.eta2, Fld.eta, Grp.eta]
      exact ⟨rfl, rfl, rfl⟩
    · intro I hI i
      conv in Fin.chk _ _ => cbv
      try simp only [Plain_rowsA, Plain_rowsB, Plain_rowsC, Plain_rowsF, Plain_rowsG, Plain_rowsI, Plain_rowsS, Plain_rowsU, Fin.satC_ret, Fin.satC_br, Fin.satC_need, Fin.satC_again, AllP, and_true, true_and, upd, List.length_nil, List.length_cons, Nat.zero_add, if_true, ncast, Int.ofNat_eq_natCast]
      obtain ⟨i, hi⟩ := i
      refine ⟨fun h1 => ?_, fun h1 => ?_⟩
      · simp only [hH, stdH, decide_eq_true_eq, decide_eq_false_iff_not, Bool.not_eq_true', Bool.not_eq_false', peta, ncast, Int.ofNat_eq_natCast, beq_iff_eq, bne_iff_ne, beq_eq_false_iff_ne, bne_eq_false_iff_eq, ne_eq, Classical.not_not, Int.toNat_natCast, vrow_I, Arm.eta2, Fld.eta, Grp.eta] at h1
        have h1 : i < x.toNat := by omega
        refine loop_a hB (draw_ok hB mixed) hX hX0 hH true (ι := { k : Nat // k ≤ 3 }) 300 (fun k => [.i (H Int fun _ => ((grI x.toNat (i + 1) k.1 (grO x.toNat i)).1 : Nat)), .i (H Int fun _ => ((grI x.toNat (i + 1) k.1 (grO x.toNat i)).2 : Nat)), .i (H Int fun _ => (i + 1 + k.1 : Nat))]) (fun k => 3 - k.1) (⟨0, by omega⟩) ?_ ?_
        · (conv in matchSt _ _ _ _ => cbv); simp only [AllG, AllP, and_true, hH, stdH, ncast, Int.ofNat_eq_natCast, vrow_I, Arm.eta2, Fld.eta, Grp.eta]
          exact ⟨trivial, trivial, trivial, trivial, trivial, trivial, rfl, rfl⟩
        · intro I2 hI2 k
          conv in Fin.chk _ _ => cbv
          try simp only [Plain_rowsA, Plain_rowsB, Plain_rowsC, Plain_rowsF, Plain_rowsG, Plain_rowsI, Plain_rowsS, Plain_rowsU, Fin.satC_ret, Fin.satC_br, Fin.satC_need, Fin.satC_again, AllP, and_true, true_and, upd, List.length_nil, List.length_cons, Nat.zero_add, if_true, ncast, Int.ofNat_eq_natCast]
          obtain ⟨k, hk⟩ := k
          have hs := grI_le (n := x.toNat) (r := i + 1) (grO_le (n := x.toNat) (k := i) (by omega)) (by omega) hk
          have e4 : IntKind.i64.wrap (((i + 1 : Nat) : Int) + 2) = (i : Int) + 3 := by rw [wi] <;> omega
          refine ⟨fun h2 => ⟨fun h3 => ?_, fun h3 => ?_⟩, fun h2 => ?_⟩
          · simp only [hH, stdH, decide_eq_true_eq, decide_eq_false_iff_not, Bool.not_eq_true', Bool.not_eq_false', peta, ncast, Int.ofNat_eq_natCast, beq_iff_eq, bne_iff_ne, beq_eq_false_iff_ne, bne_eq_false_iff_eq, ne_eq, Classical.not_not, Int.toNat_natCast, vrow_I, Arm.eta2, Fld.eta, Grp.eta] at h2
            rw [e4] at h2
            simp only [hH, stdH, Int.toNat_natCast] at h3
            rw [wm (a := i + 1) (b := i + 1 + k) (by omega) (by omega), grS_c h0.1 (by omega) (by omega), decide_eq_true_eq] at h3
            have e3 : grI x.toNat (i + 1) (k + 1) (grO x.toNat i) = (i + 1, i + 1 + k) := if_pos h3
            refine ⟨⟨k + 1, by omega⟩, by simp only; omega, ?_⟩
            rw [hI2]
            (conv in matchSt _ _ _ _ => cbv); simp only [AllG, AllP, and_true, hH, stdH, ncast, Int.ofNat_eq_natCast, vrow_I, Arm.eta2, Fld.eta, Grp.eta]
            rw [w1 (by omega), e3]
            (repeat' (first | trivial | rfl | refine And.intro ?_ ?_))
          · simp only [hH, stdH, decide_eq_true_eq, decide_eq_false_iff_not, Bool.not_eq_true', Bool.not_eq_false', peta, ncast, Int.ofNat_eq_natCast, beq_iff_eq, bne_iff_ne, beq_eq_false_iff_ne, bne_eq_false_iff_eq, ne_eq, Classical.not_not, Int.toNat_natCast, vrow_I, Arm.eta2, Fld.eta, Grp.eta] at h2
            rw [e4] at h2
            simp only [hH, stdH, Int.toNat_natCast] at h3
            rw [wm (a := i + 1) (b := i + 1 + k) (by omega) (by omega), grS_c h0.1 (by omega) (by omega), decide_eq_false_iff_not] at h3
            have e3 : grI x.toNat (i + 1) (k + 1) (grO x.toNat i) = grI x.toNat (i + 1) k (grO x.toNat i) := if_neg h3
            refine ⟨⟨k + 1, by omega⟩, by simp only; omega, ?_⟩
            rw [hI2]
            (conv in matchSt _ _ _ _ => cbv); simp only [AllG, AllP, and_true, hH, stdH, ncast, Int.ofNat_eq_natCast, vrow_I, Arm.eta2, Fld.eta, Grp.eta]
            rw [w1 (by omega), e3]
            (repeat' (first | trivial | rfl | refine And.intro ?_ ?_))
          · simp only [hH, stdH, decide_eq_true_eq, decide_eq_false_iff_not, Bool.not_eq_true', Bool.not_eq_false', peta, ncast, Int.ofNat_eq_natCast, beq_iff_eq, bne_iff_ne, beq_eq_false_iff_ne, bne_eq_false_iff_eq, ne_eq, Classical.not_not, Int.toNat_natCast, vrow_I, Arm.eta2, Fld.eta, Grp.eta] at h2
            rw [e4] at h2
            obtain rfl : k = 3 := by omega
            rw [if_neg (by decide)]
            refine ⟨⟨i + 1, by omega⟩, by simp only; omega, ?_⟩
            rw [hI]
            (conv in matchSt _ _ _ _ => cbv); simp only [AllG, AllP, and_true, hH, stdH, ncast, Int.ofNat_eq_natCast, vrow_I, Arm.eta2, Fld.eta, Grp.eta]
            rw [w1 (by omega)]
            (repeat' (first | trivial | rfl | refine And.intro ?_ ?_))
      · simp only [hH, stdH, decide_eq_true_eq, decide_eq_false_iff_not, Bool.not_eq_true', Bool.not_eq_false', peta, ncast, Int.ofNat_eq_natCast, beq_iff_eq, bne_iff_ne, beq_eq_false_iff_ne, bne_eq_false_iff_eq, ne_eq, Classical.not_not, Int.toNat_natCast, vrow_I, Arm.eta2, Fld.eta, Grp.eta] at h1
        obtain rfl : i = x.toNat := by omega
        try simp only [hH, stdH, decide_eq_true_eq, decide_eq_false_iff_not, Bool.not_eq_true', Bool.not_eq_false', peta, ncast, Int.ofNat_eq_natCast, beq_iff_eq, bne_iff_ne, beq_eq_false_iff_ne, bne_eq_false_iff_eq, ne_eq, Classical.not_not, Int.toNat_natCast, vrow_I, Arm.eta2, Fld.eta, Grp.eta]
        exact ⟨trivial, rfl, rfl⟩
noncomputable def e_gridOf : Entry := pureE 14 fun H a => match a with
  | [.lit (.int .i64 x)] => some (.tup [.lit (.int .i64 (H Int fun _ => ((gr x.toNat).1 : Nat))), .lit (.int .i64 (H Int fun _ => ((gr x.toNat).2 : Nat))), .lit (.bool (H Bool fun _ => true))], [H Prop fun _ => 1 ≤ x ∧ x ≤ 12])
  | _ => none
theorem eok_gridOf : EntryOk Tryd.prog e_gridOf := pureM_ok (by unfold isBody; kernel_rfl) (by
  intro a r ob e hob
  split at e
  · rename_i x
    simp only [Option.some.injEq, Prod.mk.injEq] at e
    obtain ⟨rfl, rfl⟩ := e
    exact ConN.args (.cons .rfl .nil) (c_gridOf x hob.1)
  · simp at e)
def gridQ (n : Nat) : List (List Int) := (List.range (gr n).1).map fun r => (List.range (gr n).2).map fun p => (((r * (gr n).2 + p) % n : Nat) : Int)
def gridK (n k : Nat) : List (List Int) := (List.range k).map fun r => (List.range (gr n).2).map fun p => (((r * (gr n).2 + p) % n : Nat) : Int)
def gridR (n r k : Nat) : List Int := (List.range k).map fun p => (((r * (gr n).2 + p) % n : Nat) : Int)
theorem gridR_s (n r k : Nat) : gridR n r (k + 1) = gridR n r k ++ [(((r * (gr n).2 + k) % n : Nat) : Int)] := by simp [gridR, List.range_succ]
theorem gridK_s (n k : Nat) : gridK n (k + 1) = gridK n k ++ [gridR n k (gr n).2] := by simp [gridK, gridR, List.range_succ]
theorem gridR_len (n r k : Nat) : (gridR n r k).length = k := by simp [gridR]
theorem gridK_len (n k : Nat) : (gridK n k).length = k := by simp [gridK]
theorem c_fillQ (l : List Arm) (h0 : l.length ≤ 1000) (h1 : okQ l = true) : ConN Tryd.prog 13 [.vec 15 (stdH Nat fun _ => (l).length) (rowsA stdH fun _ => l)] [] 0 (.tup [.vec 1 (stdH Nat fun _ => (gridQ l.length).length) (rowsL rowsI 1 stdH fun _ => gridQ l.length), .lit (.bool (stdH Bool fun _ => true))]) [] [] := by
  have hB : Base Tryd.prog (tabΓ [e_validQ, e_gridOf]) tabO := base_of tabOkO (ents_cons eok_validQ <| ents_cons eok_gridOf <| ents_nil)
  refine con_mN 46 (N := 49) hB (draw_ok hB mixed) Tryd.func13 rfl rfl (fun H => [.vec 15 (H Nat fun _ => (l).length) (rowsA H fun _ => l)]) (fun _ => []) 0 (fun H => .tup [.vec 1 (H Nat fun _ => (gridQ l.length).length) (rowsL rowsI 1 H fun _ => gridQ l.length), .lit (.bool (H Bool fun _ => true))]) (fun H => []) (fun _ => []) 300 (by simp) (fun x hx => ?_) (by simp [lk]) (by omega) (by simp) ?_
  · simp only [List.mem_cons, List.not_mem_nil, or_false] at hx
    rcases hx with rfl
    · exact vl_bl okRA l _
  intro X hX hX0 H hH
  conv in Fin.chk _ _ => cbv
  try simp only [Plain_rowsA, Plain_rowsB, Plain_rowsC, Plain_rowsF, Plain_rowsG, Plain_rowsI, Plain_rowsS, Plain_rowsU, Fin.satC_ret, Fin.satC_br, Fin.satC_need, Fin.satC_again, AllP, and_true, true_and, upd, List.length_nil, List.length_cons, Nat.zero_add, if_true, ncast, Int.ofNat_eq_natCast]
  obtain ⟨l1, l2⟩ := okQ_len h1
  obtain ⟨q1, q2, q3, q4, q5⟩ := gr_ok l.length (by omega) l1
  refine ⟨⟨?_, ?_⟩, fun h => ?_, fun h => ⟨?_, ?_⟩⟩
  · try simp only [hH, stdH, decide_eq_true_eq, decide_eq_false_iff_not, Bool.not_eq_true', Bool.not_eq_false', peta, ncast, Int.ofNat_eq_natCast, beq_iff_eq, bne_iff_ne, beq_eq_false_iff_ne, bne_eq_false_iff_eq, ne_eq, Classical.not_not, Int.toNat_natCast, vrow_I, Arm.eta2, Fld.eta, Grp.eta]
    exact Shp_A _ _
  · try simp only [hH, stdH, decide_eq_true_eq, decide_eq_false_iff_not, Bool.not_eq_true', Bool.not_eq_false', peta, ncast, Int.ofNat_eq_natCast, beq_iff_eq, bne_iff_ne, beq_eq_false_iff_ne, bne_eq_false_iff_eq, ne_eq, Classical.not_not, Int.toNat_natCast, vrow_I, Arm.eta2, Fld.eta, Grp.eta]
    simp only [Tl_A]; omega
  · exfalso
    simp only [hH, stdH, Tl_A, h1] at h; simp at h
  · try simp only [hH, stdH, decide_eq_true_eq, decide_eq_false_iff_not, Bool.not_eq_true', Bool.not_eq_false', peta, ncast, Int.ofNat_eq_natCast, beq_iff_eq, bne_iff_ne, beq_eq_false_iff_ne, bne_eq_false_iff_eq, ne_eq, Classical.not_not, Int.toNat_natCast, vrow_I, Arm.eta2, Fld.eta, Grp.eta]
    exact ⟨by omega, by omega⟩
  · refine loop_aN hB (draw_ok hB mixed) hX hX0 hH false 46 (ι := { i : Nat // i ≤ (gr l.length).1 }) 300 (fun i => [.r (H Nat fun _ => (gridK l.length i.1).length) (rowsL rowsI 1 H fun _ => gridK l.length i.1), .i (H Int fun _ => (i.1 : Nat))]) (fun i => (gr l.length).1 - i.1) (⟨0, by omega⟩) ?_ ?_
    · (conv in matchStN _ _ _ _ _ => cbv); simp only [AllG, AllP, and_true, hH, stdH, ncast, Int.ofNat_eq_natCast, vrow_I, Arm.eta2, Fld.eta, Grp.eta]
      exact ⟨(RowsEq.ofT (okL okI) rfl (Shp_zero _) rfl).fz, rfl, trivial, rfl, trivial, trivial, RowsEq.self okRA⟩
    · intro I hI i
      conv in Fin.chk _ _ => cbv
      try simp only [Plain_rowsA, Plain_rowsB, Plain_rowsC, Plain_rowsF, Plain_rowsG, Plain_rowsI, Plain_rowsS, Plain_rowsU, Fin.satC_ret, Fin.satC_br, Fin.satC_need, Fin.satC_again, AllP, and_true, true_and, upd, List.length_nil, List.length_cons, Nat.zero_add, if_true, ncast, Int.ofNat_eq_natCast]
      obtain ⟨i, hi⟩ := i
      simp only [hlen hH, Int.toNat_natCast]
      refine ⟨fun h1 => ?_, fun h1 => ?_⟩
      · simp only [hH, stdH, decide_eq_true_eq, decide_eq_false_iff_not, Bool.not_eq_true', Bool.not_eq_false', peta, ncast, Int.ofNat_eq_natCast, beq_iff_eq, bne_iff_ne, beq_eq_false_iff_ne, bne_eq_false_iff_eq, ne_eq, Classical.not_not, Int.toNat_natCast, vrow_I, Arm.eta2, Fld.eta, Grp.eta] at h1
        have h1 : i < (gr l.length).1 := by omega
        refine loop_cN hB (draw_ok hB mixed) hX hX0 hH [0, 2, 3, 5, 7, 8, 9, 22, 23, 27, 28] 46 (ι := { k : Nat // k ≤ (gr l.length).2 }) 300 (fun k => [.r (H Nat fun _ => (gridR l.length i k.1).length) (rowsI H fun _ => gridR l.length i k.1), .i (H Int fun _ => (k.1 : Nat))]) (fun k => (gr l.length).2 - k.1) (⟨0, by omega⟩) ?_ ?_
        · (conv in matchStN _ _ _ _ _ => cbv); simp only [AllG, AllP, and_true, hH, stdH, ncast, Int.ofNat_eq_natCast, vrow_I, Arm.eta2, Fld.eta, Grp.eta]
          (repeat' (first | trivial | exact RowsEq.self okRA | exact RowsEq.self okI | exact RowsFz.self (okL okI) | exact List.length_append | exact RowsEq.ofT okI rfl (Shp_zero _) rfl | rfl | refine And.intro ?_ ?_))
        · intro I2 hI2 k
          conv in Fin.chk _ _ => cbv
          try simp only [Plain_rowsA, Plain_rowsB, Plain_rowsC, Plain_rowsF, Plain_rowsG, Plain_rowsI, Plain_rowsS, Plain_rowsU, Fin.satC_ret, Fin.satC_br, Fin.satC_need, Fin.satC_again, AllP, and_true, true_and, upd, List.length_nil, List.length_cons, Nat.zero_add, if_true, ncast, Int.ofNat_eq_natCast]
          obtain ⟨k, hk⟩ := k
          have gl := gridR_len l.length i k
          have gk := gridK_len l.length i
          refine ⟨fun h2 => ⟨?_, ⟨?_, ?_⟩, ?_⟩, fun h2 => ⟨⟨?_, ?_⟩, ?_⟩⟩
          · try simp only [hH, stdH, decide_eq_true_eq, decide_eq_false_iff_not, Bool.not_eq_true', Bool.not_eq_false', peta, ncast, Int.ofNat_eq_natCast, beq_iff_eq, bne_iff_ne, beq_eq_false_iff_ne, bne_eq_false_iff_eq, ne_eq, Classical.not_not, Int.toNat_natCast, vrow_I, Arm.eta2, Fld.eta, Grp.eta]
            omega
          · try simp only [hH, stdH, decide_eq_true_eq, decide_eq_false_iff_not, Bool.not_eq_true', Bool.not_eq_false', peta, ncast, Int.ofNat_eq_natCast, beq_iff_eq, bne_iff_ne, beq_eq_false_iff_ne, bne_eq_false_iff_eq, ne_eq, Classical.not_not, Int.toNat_natCast, vrow_I, Arm.eta2, Fld.eta, Grp.eta]
          · try simp only [hH, stdH, decide_eq_true_eq, decide_eq_false_iff_not, Bool.not_eq_true', Bool.not_eq_false', peta, ncast, Int.ofNat_eq_natCast, beq_iff_eq, bne_iff_ne, beq_eq_false_iff_ne, bne_eq_false_iff_eq, ne_eq, Classical.not_not, Int.toNat_natCast, vrow_I, Arm.eta2, Fld.eta, Grp.eta]
            rw [gl]
            exact ⟨by omega, by omega⟩
          · simp only [hH, stdH, decide_eq_true_eq, decide_eq_false_iff_not, Bool.not_eq_true', Bool.not_eq_false', peta, ncast, Int.ofNat_eq_natCast, beq_iff_eq, bne_iff_ne, beq_eq_false_iff_ne, bne_eq_false_iff_eq, ne_eq, Classical.not_not, Int.toNat_natCast, vrow_I, Arm.eta2, Fld.eta, Grp.eta] at h2
            have h2 : k < (gr l.length).2 := by omega
            refine ⟨⟨k + 1, by omega⟩, by simp only; omega, ?_⟩
            rw [hI2]
            (conv in matchStN _ _ _ _ _ => cbv); simp only [AllG, AllP, and_true, hH, stdH, ncast, Int.ofNat_eq_natCast, vrow_I, Arm.eta2, Fld.eta, Grp.eta]
            rw [w1 (by omega), gridR_s]
            have eV : (IntKind.i64.wrap (IntKind.i64.wrap ((i : Int) * ((gr l.length).2 : Int)) + (k : Int))).tmod (l.length : Int) = (((i * (gr l.length).2 + k) % l.length : Nat) : Int) := by
              have hm : i * (gr l.length).2 ≤ 14 * 15 := Nat.mul_le_mul (by omega) (by omega)
              rw [wm (by omega) (by omega)]
              generalize i * (gr l.length).2 = m at hm ⊢
              rw [wi (by omega) (by omega), Int.tmod_eq_emod_of_nonneg (by omega), Int.natCast_emod, Int.natCast_add]
            rw [eV]
            (repeat' (first | trivial | exact RowsEq.more okI (Shp_I _ _) (Tl_I _) | exact RowsEq.snocI rfl | exact rows_snocI rfl | exact RowsFz.self (okL okI) | exact RowsEq.self okRA | exact List.length_append | rfl | refine And.intro ?_ ?_))
          · try simp only [hH, stdH, decide_eq_true_eq, decide_eq_false_iff_not, Bool.not_eq_true', Bool.not_eq_false', peta, ncast, Int.ofNat_eq_natCast, beq_iff_eq, bne_iff_ne, beq_eq_false_iff_ne, bne_eq_false_iff_eq, ne_eq, Classical.not_not, Int.toNat_natCast, vrow_I, Arm.eta2, Fld.eta, Grp.eta]
          · try simp only [hH, stdH, decide_eq_true_eq, decide_eq_false_iff_not, Bool.not_eq_true', Bool.not_eq_false', peta, ncast, Int.ofNat_eq_natCast, beq_iff_eq, bne_iff_ne, beq_eq_false_iff_ne, bne_eq_false_iff_eq, ne_eq, Classical.not_not, Int.toNat_natCast, vrow_I, Arm.eta2, Fld.eta, Grp.eta]
            rw [gk]
            exact ⟨by omega, by omega⟩
          · simp only [hH, stdH, decide_eq_true_eq, decide_eq_false_iff_not, Bool.not_eq_true', Bool.not_eq_false', peta, ncast, Int.ofNat_eq_natCast, beq_iff_eq, bne_iff_ne, beq_eq_false_iff_ne, bne_eq_false_iff_eq, ne_eq, Classical.not_not, Int.toNat_natCast, vrow_I, Arm.eta2, Fld.eta, Grp.eta] at h2
            obtain rfl : k = (gr l.length).2 := by omega
            rw [if_neg (by decide)]
            refine ⟨⟨i + 1, by omega⟩, by simp only; omega, ?_⟩
            rw [hI]
            (conv in matchStN _ _ _ _ _ => cbv); simp only [AllG, AllP, and_true, hH, stdH, ncast, Int.ofNat_eq_natCast, vrow_I, Arm.eta2, Fld.eta, Grp.eta]
            rw [w1 (by omega), gridK_s]
            simp only [Int.toNat_natCast]
            (repeat' (first | trivial | exact RowsFz.snoc (okL okI) rfl (.cons (CellFz.own okI rfl (RowsEq.self okI)) .nil) | exact RowsEq.self okRA | exact List.length_append | rfl | refine And.intro ?_ ?_))
      · simp only [hH, stdH, decide_eq_true_eq, decide_eq_false_iff_not, Bool.not_eq_true', Bool.not_eq_false', peta, ncast, Int.ofNat_eq_natCast, beq_iff_eq, bne_iff_ne, beq_eq_false_iff_ne, bne_eq_false_iff_eq, ne_eq, Classical.not_not, Int.toNat_natCast, vrow_I, Arm.eta2, Fld.eta, Grp.eta] at h1
        obtain rfl : i = (gr l.length).1 := by omega
        try simp only [hH, stdH, decide_eq_true_eq, decide_eq_false_iff_not, Bool.not_eq_true', Bool.not_eq_false', peta, ncast, Int.ofNat_eq_natCast, beq_iff_eq, bne_iff_ne, beq_eq_false_iff_ne, bne_eq_false_iff_eq, ne_eq, Classical.not_not, Int.toNat_natCast, vrow_I, Arm.eta2, Fld.eta, Grp.eta]
        exact ⟨trivial, RowsFz.self (okL okI)⟩
noncomputable def e_fillQ : Entry := pureE 13 fun H a => match a with
  | [.vec 15 ln lf] => some (.tup [.vec 1 (H Nat fun _ => (gridQ (Tl rowA ln lf).length).length) (rowsL rowsI 1 H fun _ => gridQ (Tl rowA ln lf).length), .lit (.bool (H Bool fun _ => true))], [H Prop fun _ => Shp rowA ln lf, H Prop fun _ => (Tl rowA ln lf).length ≤ 1000, H Prop fun _ => okQ (Tl rowA ln lf) = true])
  | _ => none
theorem eok_fillQ : EntryOk Tryd.prog e_fillQ := pureM_ok (by unfold isBody; kernel_rfl) (by
  intro a r ob e hob
  split at e
  · rename_i ln lf
    simp only [Option.some.injEq, Prod.mk.injEq] at e
    obtain ⟨rfl, rfl⟩ := e
    exact ConN.args (.cons (.toT okRA rfl hob.1) .nil) (c_fillQ (Tl rowA ln lf) hob.2.1 hob.2.2.1)
  · simp at e)

end Go.Proofs.YthilcnfnbgbkdaaDoor.AM
