/- Lemmas and contracts (Fgr); conditions: none. -/
import Derived.Test.YtigkdbhcjjjjkaaK04
import Derived.Test.YtigkdbhcjjjjkaaK06
import Derived.Test.YtigkdbhcjjjjkaaK07
import Derived.Test.YtigkdbhcjjjjkaaK08
import Derived.Test.YtigkdbhcjjjjkaaK11
import Derived.Test.YtigkdbhcjjjjkaaK12
import Derived.Test.YtigkdbhcjjjjkaaK13
import Derived.Test.YtigkdbhcjjjjkaaK15
set_option linter.unusedVariables false
set_option linter.unusedSimpArgs false
set_option linter.unusedVariables false
set_option linter.unusedSimpArgs false
set_option maxRecDepth 100000
set_option maxHeartbeats 4000000
set_option cbv.maxSteps 3000000
namespace Go.Proofs.Ytigkdbhcjjjjkaa.AM
/- The grid of quarterings with rows of its own; conditions: none. -/
def tabN : Tab := ⟨tabL, false, 4⟩
theorem tabOkN : TabOk Try.prog tabN := tabOk
def tabZ : Tab := ⟨tabL, true, 4⟩
theorem tabOkZ : TabOk Try.prog tabZ := tabOk
theorem gr_row : ∀ n : Nat, n < 13 → 1 ≤ n → (gr n).1 = 1 ∨ (gr n).1 = 2 ∨ (gr n).1 = 3 := by decide
theorem gr4 : ∀ n : Nat, n < 13 → 1 ≤ n → grO n 4 = gr n := by decide
theorem c_grid21 (x : Int) (h0 : 1 ≤ x ∧ x ≤ 12) : ConN Try.prog 43 [.lit (.int .i64 x)] [] 0 (.tup [.lit (.int .i64 (stdH Int fun _ => ((gr x.toNat).1 : Nat))), .lit (.int .i64 (stdH Int fun _ => ((gr x.toNat).2 : Nat)))]) [] [] := by
  have hB : Base Try.prog (tabΓ []) tab := base_of tabOk (ents_nil)
  refine con_m (N := 41) hB (draw_ok hB mixed) Try.func43 rfl rfl (fun H => [.lit (.int .i64 x)]) (fun _ => []) 0 (fun H => .tup [.lit (.int .i64 (H Int fun _ => ((gr x.toNat).1 : Nat))), .lit (.int .i64 (H Int fun _ => ((gr x.toNat).2 : Nat)))]) (fun H => []) (fun _ => []) 300 (by simp) (fun x hx => ?_) (by simp [lk]) (by omega) (by simp) ?_
  · simp only [List.mem_cons, List.not_mem_nil, or_false] at hx
    rcases hx with rfl
    · exact .lit
  intro X hX hX0 H hH
  conv in Fin.chk _ _ => cbv
  try simp only [Plain_rowsA, Plain_rowsB, Plain_rowsF, Plain_rowsG, Plain_rowsI, Plain_rowsS, Plain_rowsU, Fin.satC_ret, Fin.satC_br, Fin.satC_need, Fin.satC_again, AllP, and_true, true_and, upd, List.length_nil, List.length_cons, Nat.zero_add, if_true, ncast, Int.ofNat_eq_natCast]
  have e9 := gr4 x.toNat (by omega) (by omega)
  refine loop_a hB (draw_ok hB mixed) hX hX0 hH false (ι := { i : Nat // i ≤ 4 }) 300 (fun i => [.i (H Int fun _ => ((grO x.toNat i.1).1 : Nat)), .i (H Int fun _ => ((grO x.toNat i.1).2 : Nat)), .i (H Int fun _ => (i.1 + 1 : Nat))]) (fun i => 4 - i.1) (⟨0, by omega⟩) ?_ ?_
  · (conv in matchSt _ _ _ _ => cbv); simp only [AllG, AllP, and_true, hH, stdH, Nat.le_refl, ncast, Int.ofNat_eq_natCast, vrow_I, Arm.eta2, Fld.eta, Grp.eta]
    exact ⟨rfl, rfl, rfl⟩
  · intro I hI i
    conv in Fin.chk _ _ => cbv
    try simp only [Plain_rowsA, Plain_rowsB, Plain_rowsF, Plain_rowsG, Plain_rowsI, Plain_rowsS, Plain_rowsU, Fin.satC_ret, Fin.satC_br, Fin.satC_need, Fin.satC_again, AllP, and_true, true_and, upd, List.length_nil, List.length_cons, Nat.zero_add, if_true, ncast, Int.ofNat_eq_natCast]
    obtain ⟨i, hi⟩ := i
    refine ⟨fun h1 => ?_, fun h1 => ?_⟩
    · simp only [hH, stdH, Nat.le_refl, decide_eq_true_eq, decide_eq_false_iff_not, Bool.not_eq_true', Bool.not_eq_false', peta, ncast, Int.ofNat_eq_natCast, beq_iff_eq, bne_iff_ne, beq_eq_false_iff_ne, bne_eq_false_iff_eq, ne_eq, Classical.not_not, Int.toNat_natCast, vrow_I, Arm.eta2, Fld.eta, Grp.eta] at h1
      have h1 : i < 4 := by omega
      refine loop_a hB (draw_ok hB mixed) hX hX0 hH true (ι := { k : Nat // k ≤ 3 }) 300 (fun k => [.i (H Int fun _ => ((grI x.toNat (i + 1) k.1 (grO x.toNat i)).1 : Nat)), .i (H Int fun _ => ((grI x.toNat (i + 1) k.1 (grO x.toNat i)).2 : Nat)), .i (H Int fun _ => (i + 1 + k.1 : Nat))]) (fun k => 3 - k.1) (⟨0, by omega⟩) ?_ ?_
      · (conv in matchSt _ _ _ _ => cbv); simp only [AllG, AllP, and_true, hH, stdH, Nat.le_refl, ncast, Int.ofNat_eq_natCast, vrow_I, Arm.eta2, Fld.eta, Grp.eta]
        (repeat' (first | with_reducible exact True.intro | rfl | refine And.intro ?_ ?_ | trivial))
      · intro I2 hI2 k
        conv in Fin.chk _ _ => cbv
        try simp only [Plain_rowsA, Plain_rowsB, Plain_rowsF, Plain_rowsG, Plain_rowsI, Plain_rowsS, Plain_rowsU, Fin.satC_ret, Fin.satC_br, Fin.satC_need, Fin.satC_again, AllP, and_true, true_and, upd, List.length_nil, List.length_cons, Nat.zero_add, if_true, ncast, Int.ofNat_eq_natCast]
        obtain ⟨k, hk⟩ := k
        have hs := grI_le (n := x.toNat) (r := i + 1) (grO_le (n := x.toNat) (k := i) (by omega)) (by omega) hk
        have e4 : IntKind.i64.wrap (((i + 1 : Nat) : Int) + 2) = (i : Int) + 3 := by rw [wi] <;> omega
        refine ⟨fun h2 => ⟨fun h3 => ?_, fun h3 => ?_⟩, fun h2 => ?_⟩
        · simp only [hH, stdH, Nat.le_refl, decide_eq_true_eq, decide_eq_false_iff_not, Bool.not_eq_true', Bool.not_eq_false', peta, ncast, Int.ofNat_eq_natCast, beq_iff_eq, bne_iff_ne, beq_eq_false_iff_ne, bne_eq_false_iff_eq, ne_eq, Classical.not_not, Int.toNat_natCast, vrow_I, Arm.eta2, Fld.eta, Grp.eta] at h2
          rw [e4] at h2
          simp only [hH, stdH, Int.toNat_natCast] at h3
          rw [wm (a := i + 1) (b := i + 1 + k) (by omega) (by omega)] at h3
          rw [grS_c h0.1 (by omega) (by omega), decide_eq_true_eq] at h3
          have e3 : grI x.toNat (i + 1) (k + 1) (grO x.toNat i) = (i + 1, i + 1 + k) := if_pos h3
          refine ⟨⟨k + 1, by omega⟩, by simp only; omega, ?_⟩
          rw [hI2]
          (conv in matchSt _ _ _ _ => cbv); simp only [AllG, AllP, and_true, hH, stdH, Nat.le_refl, ncast, Int.ofNat_eq_natCast, vrow_I, Arm.eta2, Fld.eta, Grp.eta]
          rw [w1 (by omega), e3]
          (repeat' (first | with_reducible exact True.intro | rfl | refine And.intro ?_ ?_ | trivial))
        · simp only [hH, stdH, Nat.le_refl, decide_eq_true_eq, decide_eq_false_iff_not, Bool.not_eq_true', Bool.not_eq_false', peta, ncast, Int.ofNat_eq_natCast, beq_iff_eq, bne_iff_ne, beq_eq_false_iff_ne, bne_eq_false_iff_eq, ne_eq, Classical.not_not, Int.toNat_natCast, vrow_I, Arm.eta2, Fld.eta, Grp.eta] at h2
          rw [e4] at h2
          simp only [hH, stdH, Int.toNat_natCast] at h3
          rw [wm (a := i + 1) (b := i + 1 + k) (by omega) (by omega)] at h3
          rw [grS_c h0.1 (by omega) (by omega), decide_eq_false_iff_not] at h3
          have e3 : grI x.toNat (i + 1) (k + 1) (grO x.toNat i) = grI x.toNat (i + 1) k (grO x.toNat i) := if_neg h3
          refine ⟨⟨k + 1, by omega⟩, by simp only; omega, ?_⟩
          rw [hI2]
          (conv in matchSt _ _ _ _ => cbv); simp only [AllG, AllP, and_true, hH, stdH, Nat.le_refl, ncast, Int.ofNat_eq_natCast, vrow_I, Arm.eta2, Fld.eta, Grp.eta]
          rw [w1 (by omega), e3]
          (repeat' (first | with_reducible exact True.intro | rfl | refine And.intro ?_ ?_ | trivial))
        · simp only [hH, stdH, Nat.le_refl, decide_eq_true_eq, decide_eq_false_iff_not, Bool.not_eq_true', Bool.not_eq_false', peta, ncast, Int.ofNat_eq_natCast, beq_iff_eq, bne_iff_ne, beq_eq_false_iff_ne, bne_eq_false_iff_eq, ne_eq, Classical.not_not, Int.toNat_natCast, vrow_I, Arm.eta2, Fld.eta, Grp.eta] at h2
          rw [e4] at h2
          obtain rfl : k = 3 := by omega
          rw [if_neg (by decide)]
          refine ⟨⟨i + 1, by omega⟩, by simp only; omega, ?_⟩
          rw [hI]
          (conv in matchSt _ _ _ _ => cbv); simp only [AllG, AllP, and_true, hH, stdH, Nat.le_refl, ncast, Int.ofNat_eq_natCast, vrow_I, Arm.eta2, Fld.eta, Grp.eta]
          rw [w1 (by omega)]
          (repeat' (first | with_reducible exact True.intro | rfl | refine And.intro ?_ ?_ | trivial))
    · simp only [hH, stdH, Nat.le_refl, decide_eq_true_eq, decide_eq_false_iff_not, Bool.not_eq_true', Bool.not_eq_false', peta, ncast, Int.ofNat_eq_natCast, beq_iff_eq, bne_iff_ne, beq_eq_false_iff_ne, bne_eq_false_iff_eq, ne_eq, Classical.not_not, Int.toNat_natCast, vrow_I, Arm.eta2, Fld.eta, Grp.eta] at h1
      obtain rfl : i = 4 := by omega
      try simp only [hH, stdH, Nat.le_refl, decide_eq_true_eq, decide_eq_false_iff_not, Bool.not_eq_true', Bool.not_eq_false', peta, ncast, Int.ofNat_eq_natCast, beq_iff_eq, bne_iff_ne, beq_eq_false_iff_ne, bne_eq_false_iff_eq, ne_eq, Classical.not_not, Int.toNat_natCast, vrow_I, Arm.eta2, Fld.eta, Grp.eta]
      rw [e9]
      exact ⟨rfl, rfl⟩
noncomputable def e_grid21 : Entry := pureE 43 fun H a => match a with
  | [.lit (.int .i64 x)] => some (.tup [.lit (.int .i64 (H Int fun _ => ((gr x.toNat).1 : Nat))), .lit (.int .i64 (H Int fun _ => ((gr x.toNat).2 : Nat)))], [H Prop fun _ => 1 ≤ x ∧ x ≤ 12])
  | _ => none
theorem eok_grid21 : EntryOk Try.prog e_grid21 := pureM_ok (by unfold isBody; kernel_rfl) (by
  intro a r ob e hob
  split at e
  · rename_i x
    simp only [Option.some.injEq, Prod.mk.injEq] at e
    obtain ⟨rfl, rfl⟩ := e
    exact ConN.args (.cons .rfl .nil) (c_grid21 x hob.1)
  · simp at e)
theorem grid_v {n r i k : Nat} {a : Int} (ha : a = (i : Int)) (hn : 1 ≤ n) (hi : i ≤ 3) (hp : (gr n).2 ≤ 14) (hk : k ≤ 14) (_ : r = (gr n).2) : (IntKind.i64.wrap (IntKind.i64.wrap (a * ((gr n).2 : Int)) + (k : Int))).tmod (n : Int) = (((i * (gr n).2 + k) % n : Nat) : Int) := by
  subst ha
  have hm : i * (gr n).2 ≤ 14 * 15 := Nat.mul_le_mul (by omega) (by omega)
  rw [wm (by omega) (by omega)]
  generalize i * (gr n).2 = m at hm ⊢
  rw [wi (by omega) (by omega), Int.tmod_eq_emod_of_nonneg (by omega), Int.natCast_emod, Int.natCast_add]
theorem RowsEq.z0 {f : Nat → List AV} : RowsEq 1 0 f 0 f := ⟨rfl, fun j hj => absurd hj (Nat.not_lt_zero j)⟩
theorem RowsEq.grR (n r p : Nat) : RowsEq 1 p (rowsI stdH fun _ => gridR n r p) (gridR n r p).length (rowsI stdH fun _ => gridR n r p) := by
  have := RowsEq.self okI (L := gridR n r p)
  rw [gridR_len] at this ⊢
  exact this
theorem c_fill1 (l : List Arm) (h0 : l.length ≤ 1000) (h1 : okQ l = true) (hg : (gr l.length).1 = 1) : ConN Try.prog 18 [.slc 0 0 15 (stdH Nat fun _ => l.length)] [(0, .rows 15 (stdH Nat fun _ => l.length) (rowsA stdH fun _ => l) 43)] 1 (.tup [.slc 1 0 1 1, .lit (.bool (stdH Bool fun _ => true))]) [.cells [.slc 2 0 1 (stdH Nat fun _ => (gr l.length).2)] 31, .rows 1 (stdH Nat fun _ => (gr l.length).2) (rowsI stdH fun _ => gridR l.length 0 (gr l.length).2) 3] [(0, .rows 15 (stdH Nat fun _ => l.length) (rowsA stdH fun _ => l) 43)] := by
  have hB : Base Try.prog (tabΓ [e_validQ, e_gridOf]) tabN := base_of tabOkN (ents_cons eok_validQ <| ents_cons eok_gridOf <| ents_nil)
  refine con_m (N := 49) hB (draw_ok hB mixed) Try.func18 rfl rfl (fun H => [.slc 0 0 15 (H Nat fun _ => l.length)]) (fun H => [(0, .rows 15 (H Nat fun _ => l.length) (rowsA H fun _ => l) 43)]) 1 (fun H => .tup [.slc 1 0 1 1, .lit (.bool (H Bool fun _ => true))]) (fun H => [.cells [.slc 2 0 1 (H Nat fun _ => (gr l.length).2)] 31, .rows 1 (H Nat fun _ => (gr l.length).2) (rowsI H fun _ => gridR l.length 0 (gr l.length).2) 3]) (fun H => [(0, .rows 15 (H Nat fun _ => l.length) (rowsA H fun _ => l) 43)]) 400 (by simp) (fun x hx => ?_) (fun i b hi => ?_) (fun i hi => ?_) (fun i b hi => ?_) ?_
  · simp only [List.mem_cons, List.not_mem_nil, or_false] at hx
    rcases hx with rfl
    exact .slc (by omega)
  · have := lk_in hi
    simp only [List.mem_cons, List.not_mem_nil, or_false, Prod.mk.injEq] at this
    obtain ⟨rfl, rfl⟩ := this
    exact ⟨by omega, bT_bl okRA _ (fun _ => l) _, _, List.mem_cons_self⟩
  · obtain rfl : i = 0 := by omega
    exact ⟨_, rfl⟩
  · simp only [List.mem_cons, List.not_mem_nil, or_false, Prod.mk.injEq] at hi
    obtain ⟨rfl, rfl⟩ := hi
    exact ⟨_, rfl⟩
  intro X hX hX0 H hH
  conv in Fin.chk _ _ => cbv
  try simp only [Plain_rowsA, Plain_rowsB, Plain_rowsF, Plain_rowsG, Plain_rowsI, Plain_rowsS, Plain_rowsU, Fin.satC_ret, Fin.satC_br, Fin.satC_need, Fin.satC_again, AllP, and_true, true_and, upd, List.length_nil, List.length_cons, Nat.zero_add, if_true, ncast, Int.ofNat_eq_natCast]
  obtain ⟨l1, l2⟩ := okQ_len h1
  obtain ⟨q1, q2, q3, q4, q5⟩ := gr_ok l.length (by omega) l1
  refine ⟨⟨?_, ?_, ?_⟩, fun h => ?_, fun h => ⟨?_, ?_⟩⟩
  · try simp only [hH, stdH, Nat.le_refl, decide_eq_true_eq, decide_eq_false_iff_not, Bool.not_eq_true', Bool.not_eq_false', peta, ncast, Int.ofNat_eq_natCast, beq_iff_eq, bne_iff_ne, beq_eq_false_iff_ne, bne_eq_false_iff_eq, ne_eq, Classical.not_not, Int.toNat_natCast, vrow_I, Arm.eta2, Fld.eta, Grp.eta]
    exact fun _ _ => rfl
  · try simp only [hH, stdH, Nat.le_refl, decide_eq_true_eq, decide_eq_false_iff_not, Bool.not_eq_true', Bool.not_eq_false', peta, ncast, Int.ofNat_eq_natCast, beq_iff_eq, bne_iff_ne, beq_eq_false_iff_ne, bne_eq_false_iff_eq, ne_eq, Classical.not_not, Int.toNat_natCast, vrow_I, Arm.eta2, Fld.eta, Grp.eta]
    exact Shp_A _ _
  · try simp only [hH, stdH, Nat.le_refl, decide_eq_true_eq, decide_eq_false_iff_not, Bool.not_eq_true', Bool.not_eq_false', peta, ncast, Int.ofNat_eq_natCast, beq_iff_eq, bne_iff_ne, beq_eq_false_iff_ne, bne_eq_false_iff_eq, ne_eq, Classical.not_not, Int.toNat_natCast, vrow_I, Arm.eta2, Fld.eta, Grp.eta]
    simp only [Tl_A]; omega
  · exfalso
    simp only [hH, stdH, Tl_A, h1] at h; simp at h
  · try simp only [hH, stdH, Nat.le_refl, decide_eq_true_eq, decide_eq_false_iff_not, Bool.not_eq_true', Bool.not_eq_false', peta, ncast, Int.ofNat_eq_natCast, beq_iff_eq, bne_iff_ne, beq_eq_false_iff_ne, bne_eq_false_iff_eq, ne_eq, Classical.not_not, Int.toNat_natCast, vrow_I, Arm.eta2, Fld.eta, Grp.eta]
    exact ⟨by omega, by omega⟩
  · simp only [hlen hH, Int.toNat_natCast, hg]
    refine loop_peel hB (draw_ok hB mixed) hX hH 400 ?_
    conv in Fin.chk _ _ => cbv
    try simp only [Plain_rowsA, Plain_rowsB, Plain_rowsF, Plain_rowsG, Plain_rowsI, Plain_rowsS, Plain_rowsU, Fin.satC_ret, Fin.satC_br, Fin.satC_need, Fin.satC_again, AllP, and_true, true_and, upd, List.length_nil, List.length_cons, Nat.zero_add, if_true, ncast, Int.ofNat_eq_natCast]
    refine ⟨fun h2 => ?_, fun h2 => ?_⟩
    rotate_left
    · exfalso
      simp only [hH, stdH] at h2
      exact absurd h2 (by decide)
    refine loop_c hB (draw_ok hB mixed) hX hX0 hH [0, 2, 3, 5, 7, 8, 9, 22, 23, 27, 28] (ι := { k : Nat // k ≤ (gr l.length).2 }) 400 (fun k => [.r (H Nat fun _ => (gridR l.length 0 k.1).length) (rowsI H fun _ => gridR l.length 0 k.1), .i (H Int fun _ => (k.1 : Nat))]) (fun k => (gr l.length).2 - k.1) (⟨0, by omega⟩) ?_ ?_
    · (conv in matchSt _ _ _ _ => cbv); simp only [AllG, AllP, and_true, hH, stdH, Nat.le_refl, ncast, Int.ofNat_eq_natCast, vrow_I, Arm.eta2, Fld.eta, Grp.eta]
      (repeat' (with_reducible refine And.intro ?_ ?_)) <;> (first | exact True.intro | exact Eq.refl _ | exact RowsEq.self okRA | exact RowsEq.z0 | exact RowsEq.self okI | exact RowsEq.ofT okI rfl (Shp_zero _) rfl)
    intro I2 hI2 k
    conv in Fin.chk _ _ => cbv
    try simp only [Plain_rowsA, Plain_rowsB, Plain_rowsF, Plain_rowsG, Plain_rowsI, Plain_rowsS, Plain_rowsU, Fin.satC_ret, Fin.satC_br, Fin.satC_need, Fin.satC_again, AllP, and_true, true_and, upd, List.length_nil, List.length_cons, Nat.zero_add, if_true, ncast, Int.ofNat_eq_natCast]
    obtain ⟨k, hk⟩ := k
    have gl := gridR_len l.length 0 k
    refine ⟨fun h3 => ⟨?_, ⟨?_, ?_⟩, ?_⟩, fun h3 => ⟨⟨?_, ?_⟩, ?_⟩⟩
    · try simp only [hH, stdH, Nat.le_refl, decide_eq_true_eq, decide_eq_false_iff_not, Bool.not_eq_true', Bool.not_eq_false', peta, ncast, Int.ofNat_eq_natCast, beq_iff_eq, bne_iff_ne, beq_eq_false_iff_ne, bne_eq_false_iff_eq, ne_eq, Classical.not_not, Int.toNat_natCast, vrow_I, Arm.eta2, Fld.eta, Grp.eta]
      omega
    · try simp only [hH, stdH, Nat.le_refl, decide_eq_true_eq, decide_eq_false_iff_not, Bool.not_eq_true', Bool.not_eq_false', peta, ncast, Int.ofNat_eq_natCast, beq_iff_eq, bne_iff_ne, beq_eq_false_iff_ne, bne_eq_false_iff_eq, ne_eq, Classical.not_not, Int.toNat_natCast, vrow_I, Arm.eta2, Fld.eta, Grp.eta]
    · try simp only [hH, stdH, Nat.le_refl, decide_eq_true_eq, decide_eq_false_iff_not, Bool.not_eq_true', Bool.not_eq_false', peta, ncast, Int.ofNat_eq_natCast, beq_iff_eq, bne_iff_ne, beq_eq_false_iff_ne, bne_eq_false_iff_eq, ne_eq, Classical.not_not, Int.toNat_natCast, vrow_I, Arm.eta2, Fld.eta, Grp.eta]
      rw [gl]
      exact ⟨by omega, by omega⟩
    · simp only [hH, stdH, Nat.le_refl, decide_eq_true_eq, decide_eq_false_iff_not, Bool.not_eq_true', Bool.not_eq_false', peta, ncast, Int.ofNat_eq_natCast, beq_iff_eq, bne_iff_ne, beq_eq_false_iff_ne, bne_eq_false_iff_eq, ne_eq, Classical.not_not, Int.toNat_natCast, vrow_I, Arm.eta2, Fld.eta, Grp.eta] at h3
      have h3 : k < (gr l.length).2 := by omega
      refine ⟨⟨k + 1, by omega⟩, by simp only; omega, ?_⟩
      rw [hI2]
      (conv in matchSt _ _ _ _ => cbv); simp only [AllG, AllP, and_true, hH, stdH, Nat.le_refl, ncast, Int.ofNat_eq_natCast, vrow_I, Arm.eta2, Fld.eta, Grp.eta]
      rw [w1 (by omega), gridR_s, grid_v (i := 0) (a := 0) (n := l.length) (k := k) (by decide) l1 (by decide) q5 (by omega) rfl]
      (repeat' (with_reducible refine And.intro ?_ ?_)) <;> (first | exact True.intro | exact Eq.refl _ | exact RowsEq.self okRA | exact RowsEq.z0 | exact RowsEq.self okI | exact List.length_append | exact RowsEq.snocI rfl | exact RowsEq.more okI (Shp_I _ _) (Tl_I _))
    · try simp only [hH, stdH, Nat.le_refl, decide_eq_true_eq, decide_eq_false_iff_not, Bool.not_eq_true', Bool.not_eq_false', peta, ncast, Int.ofNat_eq_natCast, beq_iff_eq, bne_iff_ne, beq_eq_false_iff_ne, bne_eq_false_iff_eq, ne_eq, Classical.not_not, Int.toNat_natCast, vrow_I, Arm.eta2, Fld.eta, Grp.eta]
    · try simp only [hH, stdH, Nat.le_refl, decide_eq_true_eq, decide_eq_false_iff_not, Bool.not_eq_true', Bool.not_eq_false', peta, ncast, Int.ofNat_eq_natCast, beq_iff_eq, bne_iff_ne, beq_eq_false_iff_ne, bne_eq_false_iff_eq, ne_eq, Classical.not_not, Int.toNat_natCast, vrow_I, Arm.eta2, Fld.eta, Grp.eta]
      exact ⟨by decide, by decide⟩
    simp only [hH, stdH, Nat.le_refl, decide_eq_true_eq, decide_eq_false_iff_not, Bool.not_eq_true', Bool.not_eq_false', peta, ncast, Int.ofNat_eq_natCast, beq_iff_eq, bne_iff_ne, beq_eq_false_iff_ne, bne_eq_false_iff_eq, ne_eq, Classical.not_not, Int.toNat_natCast, vrow_I, Arm.eta2, Fld.eta, Grp.eta] at h3
    obtain rfl : k = (gr l.length).2 := by omega
    rw [if_neg (by decide)]
    refine loopK_peel hB (draw_ok hB mixed) hX hH 400 ?_
    conv in Fin.chk _ _ => cbv
    try simp only [Plain_rowsA, Plain_rowsB, Plain_rowsF, Plain_rowsG, Plain_rowsI, Plain_rowsS, Plain_rowsU, Fin.satC_ret, Fin.satC_br, Fin.satC_need, Fin.satC_again, AllP, and_true, true_and, upd, List.length_nil, List.length_cons, Nat.zero_add, if_true, ncast, Int.ofNat_eq_natCast]
    refine ⟨fun h2 => ?_, fun h2 => ?_⟩
    · exfalso
      simp only [hH, stdH] at h2
      exact absurd h2 (by decide)
    · try simp only [hH, stdH, Nat.le_refl, decide_eq_true_eq, decide_eq_false_iff_not, Bool.not_eq_true', Bool.not_eq_false', peta, ncast, Int.ofNat_eq_natCast, beq_iff_eq, bne_iff_ne, beq_eq_false_iff_ne, bne_eq_false_iff_eq, ne_eq, Classical.not_not, Int.toNat_natCast, vrow_I, Arm.eta2, Fld.eta, Grp.eta]
      (repeat' (with_reducible refine And.intro ?_ ?_)) <;> (first | exact True.intro | exact Eq.refl _ | exact RowsEq.grR _ _ _ | exact (gridR_len _ _ _).symm | exact RowsEq.self okRA)
theorem c_fill2 (l : List Arm) (h0 : l.length ≤ 1000) (h1 : okQ l = true) (hg : (gr l.length).1 = 2) : ConN Try.prog 18 [.slc 0 0 15 (stdH Nat fun _ => l.length)] [(0, .rows 15 (stdH Nat fun _ => l.length) (rowsA stdH fun _ => l) 43)] 1 (.tup [.slc 1 0 1 2, .lit (.bool (stdH Bool fun _ => true))]) [.cells [.slc 2 0 1 (stdH Nat fun _ => (gr l.length).2), .slc 3 0 1 (stdH Nat fun _ => (gr l.length).2)] 31, .rows 1 (stdH Nat fun _ => (gr l.length).2) (rowsI stdH fun _ => gridR l.length 0 (gr l.length).2) 3, .rows 1 (stdH Nat fun _ => (gr l.length).2) (rowsI stdH fun _ => gridR l.length 1 (gr l.length).2) 3] [(0, .rows 15 (stdH Nat fun _ => l.length) (rowsA stdH fun _ => l) 43)] := by
  have hB : Base Try.prog (tabΓ [e_validQ, e_gridOf]) tabN := base_of tabOkN (ents_cons eok_validQ <| ents_cons eok_gridOf <| ents_nil)
  refine con_m (N := 49) hB (draw_ok hB mixed) Try.func18 rfl rfl (fun H => [.slc 0 0 15 (H Nat fun _ => l.length)]) (fun H => [(0, .rows 15 (H Nat fun _ => l.length) (rowsA H fun _ => l) 43)]) 1 (fun H => .tup [.slc 1 0 1 2, .lit (.bool (H Bool fun _ => true))]) (fun H => [.cells [.slc 2 0 1 (H Nat fun _ => (gr l.length).2), .slc 3 0 1 (H Nat fun _ => (gr l.length).2)] 31, .rows 1 (H Nat fun _ => (gr l.length).2) (rowsI H fun _ => gridR l.length 0 (gr l.length).2) 3, .rows 1 (H Nat fun _ => (gr l.length).2) (rowsI H fun _ => gridR l.length 1 (gr l.length).2) 3]) (fun H => [(0, .rows 15 (H Nat fun _ => l.length) (rowsA H fun _ => l) 43)]) 400 (by simp) (fun x hx => ?_) (fun i b hi => ?_) (fun i hi => ?_) (fun i b hi => ?_) ?_
  · simp only [List.mem_cons, List.not_mem_nil, or_false] at hx
    rcases hx with rfl
    exact .slc (by omega)
  · have := lk_in hi
    simp only [List.mem_cons, List.not_mem_nil, or_false, Prod.mk.injEq] at this
    obtain ⟨rfl, rfl⟩ := this
    exact ⟨by omega, bT_bl okRA _ (fun _ => l) _, _, List.mem_cons_self⟩
  · obtain rfl : i = 0 := by omega
    exact ⟨_, rfl⟩
  · simp only [List.mem_cons, List.not_mem_nil, or_false, Prod.mk.injEq] at hi
    obtain ⟨rfl, rfl⟩ := hi
    exact ⟨_, rfl⟩
  intro X hX hX0 H hH
  conv in Fin.chk _ _ => cbv
  try simp only [Plain_rowsA, Plain_rowsB, Plain_rowsF, Plain_rowsG, Plain_rowsI, Plain_rowsS, Plain_rowsU, Fin.satC_ret, Fin.satC_br, Fin.satC_need, Fin.satC_again, AllP, and_true, true_and, upd, List.length_nil, List.length_cons, Nat.zero_add, if_true, ncast, Int.ofNat_eq_natCast]
  obtain ⟨l1, l2⟩ := okQ_len h1
  obtain ⟨q1, q2, q3, q4, q5⟩ := gr_ok l.length (by omega) l1
  refine ⟨⟨?_, ?_, ?_⟩, fun h => ?_, fun h => ⟨?_, ?_⟩⟩
  · try simp only [hH, stdH, Nat.le_refl, decide_eq_true_eq, decide_eq_false_iff_not, Bool.not_eq_true', Bool.not_eq_false', peta, ncast, Int.ofNat_eq_natCast, beq_iff_eq, bne_iff_ne, beq_eq_false_iff_ne, bne_eq_false_iff_eq, ne_eq, Classical.not_not, Int.toNat_natCast, vrow_I, Arm.eta2, Fld.eta, Grp.eta]
    exact fun _ _ => rfl
  · try simp only [hH, stdH, Nat.le_refl, decide_eq_true_eq, decide_eq_false_iff_not, Bool.not_eq_true', Bool.not_eq_false', peta, ncast, Int.ofNat_eq_natCast, beq_iff_eq, bne_iff_ne, beq_eq_false_iff_ne, bne_eq_false_iff_eq, ne_eq, Classical.not_not, Int.toNat_natCast, vrow_I, Arm.eta2, Fld.eta, Grp.eta]
    exact Shp_A _ _
  · try simp only [hH, stdH, Nat.le_refl, decide_eq_true_eq, decide_eq_false_iff_not, Bool.not_eq_true', Bool.not_eq_false', peta, ncast, Int.ofNat_eq_natCast, beq_iff_eq, bne_iff_ne, beq_eq_false_iff_ne, bne_eq_false_iff_eq, ne_eq, Classical.not_not, Int.toNat_natCast, vrow_I, Arm.eta2, Fld.eta, Grp.eta]
    simp only [Tl_A]; omega
  · exfalso
    simp only [hH, stdH, Tl_A, h1] at h; simp at h
  · try simp only [hH, stdH, Nat.le_refl, decide_eq_true_eq, decide_eq_false_iff_not, Bool.not_eq_true', Bool.not_eq_false', peta, ncast, Int.ofNat_eq_natCast, beq_iff_eq, bne_iff_ne, beq_eq_false_iff_ne, bne_eq_false_iff_eq, ne_eq, Classical.not_not, Int.toNat_natCast, vrow_I, Arm.eta2, Fld.eta, Grp.eta]
    exact ⟨by omega, by omega⟩
  · simp only [hlen hH, Int.toNat_natCast, hg]
    refine loop_peel hB (draw_ok hB mixed) hX hH 400 ?_
    conv in Fin.chk _ _ => cbv
    try simp only [Plain_rowsA, Plain_rowsB, Plain_rowsF, Plain_rowsG, Plain_rowsI, Plain_rowsS, Plain_rowsU, Fin.satC_ret, Fin.satC_br, Fin.satC_need, Fin.satC_again, AllP, and_true, true_and, upd, List.length_nil, List.length_cons, Nat.zero_add, if_true, ncast, Int.ofNat_eq_natCast]
    refine ⟨fun h2 => ?_, fun h2 => ?_⟩
    rotate_left
    · exfalso
      simp only [hH, stdH] at h2
      exact absurd h2 (by decide)
    refine loop_c hB (draw_ok hB mixed) hX hX0 hH [0, 2, 3, 5, 7, 8, 9, 22, 23, 27, 28] (ι := { k : Nat // k ≤ (gr l.length).2 }) 400 (fun k => [.r (H Nat fun _ => (gridR l.length 0 k.1).length) (rowsI H fun _ => gridR l.length 0 k.1), .i (H Int fun _ => (k.1 : Nat))]) (fun k => (gr l.length).2 - k.1) (⟨0, by omega⟩) ?_ ?_
    · (conv in matchSt _ _ _ _ => cbv); simp only [AllG, AllP, and_true, hH, stdH, Nat.le_refl, ncast, Int.ofNat_eq_natCast, vrow_I, Arm.eta2, Fld.eta, Grp.eta]
      (repeat' (with_reducible refine And.intro ?_ ?_)) <;> (first | exact True.intro | exact Eq.refl _ | exact RowsEq.self okRA | exact RowsEq.z0 | exact RowsEq.self okI | exact RowsEq.ofT okI rfl (Shp_zero _) rfl)
    intro I2 hI2 k
    conv in Fin.chk _ _ => cbv
    try simp only [Plain_rowsA, Plain_rowsB, Plain_rowsF, Plain_rowsG, Plain_rowsI, Plain_rowsS, Plain_rowsU, Fin.satC_ret, Fin.satC_br, Fin.satC_need, Fin.satC_again, AllP, and_true, true_and, upd, List.length_nil, List.length_cons, Nat.zero_add, if_true, ncast, Int.ofNat_eq_natCast]
    obtain ⟨k, hk⟩ := k
    have gl := gridR_len l.length 0 k
    refine ⟨fun h3 => ⟨?_, ⟨?_, ?_⟩, ?_⟩, fun h3 => ⟨⟨?_, ?_⟩, ?_⟩⟩
    · try simp only [hH, stdH, Nat.le_refl, decide_eq_true_eq, decide_eq_false_iff_not, Bool.not_eq_true', Bool.not_eq_false', peta, ncast, Int.ofNat_eq_natCast, beq_iff_eq, bne_iff_ne, beq_eq_false_iff_ne, bne_eq_false_iff_eq, ne_eq, Classical.not_not, Int.toNat_natCast, vrow_I, Arm.eta2, Fld.eta, Grp.eta]
      omega
    · try simp only [hH, stdH, Nat.le_refl, decide_eq_true_eq, decide_eq_false_iff_not, Bool.not_eq_true', Bool.not_eq_false', peta, ncast, Int.ofNat_eq_natCast, beq_iff_eq, bne_iff_ne, beq_eq_false_iff_ne, bne_eq_false_iff_eq, ne_eq, Classical.not_not, Int.toNat_natCast, vrow_I, Arm.eta2, Fld.eta, Grp.eta]
    · try simp only [hH, stdH, Nat.le_refl, decide_eq_true_eq, decide_eq_false_iff_not, Bool.not_eq_true', Bool.not_eq_false', peta, ncast, Int.ofNat_eq_natCast, beq_iff_eq, bne_iff_ne, beq_eq_false_iff_ne, bne_eq_false_iff_eq, ne_eq, Classical.not_not, Int.toNat_natCast, vrow_I, Arm.eta2, Fld.eta, Grp.eta]
      rw [gl]
      exact ⟨by omega, by omega⟩
    · simp only [hH, stdH, Nat.le_refl, decide_eq_true_eq, decide_eq_false_iff_not, Bool.not_eq_true', Bool.not_eq_false', peta, ncast, Int.ofNat_eq_natCast, beq_iff_eq, bne_iff_ne, beq_eq_false_iff_ne, bne_eq_false_iff_eq, ne_eq, Classical.not_not, Int.toNat_natCast, vrow_I, Arm.eta2, Fld.eta, Grp.eta] at h3
      have h3 : k < (gr l.length).2 := by omega
      refine ⟨⟨k + 1, by omega⟩, by simp only; omega, ?_⟩
      rw [hI2]
      (conv in matchSt _ _ _ _ => cbv); simp only [AllG, AllP, and_true, hH, stdH, Nat.le_refl, ncast, Int.ofNat_eq_natCast, vrow_I, Arm.eta2, Fld.eta, Grp.eta]
      rw [w1 (by omega), gridR_s, grid_v (i := 0) (a := 0) (n := l.length) (k := k) (by decide) l1 (by decide) q5 (by omega) rfl]
      (repeat' (with_reducible refine And.intro ?_ ?_)) <;> (first | exact True.intro | exact Eq.refl _ | exact RowsEq.self okRA | exact RowsEq.z0 | exact RowsEq.self okI | exact List.length_append | exact RowsEq.snocI rfl | exact RowsEq.more okI (Shp_I _ _) (Tl_I _))
    · try simp only [hH, stdH, Nat.le_refl, decide_eq_true_eq, decide_eq_false_iff_not, Bool.not_eq_true', Bool.not_eq_false', peta, ncast, Int.ofNat_eq_natCast, beq_iff_eq, bne_iff_ne, beq_eq_false_iff_ne, bne_eq_false_iff_eq, ne_eq, Classical.not_not, Int.toNat_natCast, vrow_I, Arm.eta2, Fld.eta, Grp.eta]
    · try simp only [hH, stdH, Nat.le_refl, decide_eq_true_eq, decide_eq_false_iff_not, Bool.not_eq_true', Bool.not_eq_false', peta, ncast, Int.ofNat_eq_natCast, beq_iff_eq, bne_iff_ne, beq_eq_false_iff_ne, bne_eq_false_iff_eq, ne_eq, Classical.not_not, Int.toNat_natCast, vrow_I, Arm.eta2, Fld.eta, Grp.eta]
      exact ⟨by decide, by decide⟩
    simp only [hH, stdH, Nat.le_refl, decide_eq_true_eq, decide_eq_false_iff_not, Bool.not_eq_true', Bool.not_eq_false', peta, ncast, Int.ofNat_eq_natCast, beq_iff_eq, bne_iff_ne, beq_eq_false_iff_ne, bne_eq_false_iff_eq, ne_eq, Classical.not_not, Int.toNat_natCast, vrow_I, Arm.eta2, Fld.eta, Grp.eta] at h3
    obtain rfl : k = (gr l.length).2 := by omega
    rw [if_neg (by decide)]
    refine loopK_peel hB (draw_ok hB mixed) hX hH 400 ?_
    conv in Fin.chk _ _ => cbv
    try simp only [Plain_rowsA, Plain_rowsB, Plain_rowsF, Plain_rowsG, Plain_rowsI, Plain_rowsS, Plain_rowsU, Fin.satC_ret, Fin.satC_br, Fin.satC_need, Fin.satC_again, AllP, and_true, true_and, upd, List.length_nil, List.length_cons, Nat.zero_add, if_true, ncast, Int.ofNat_eq_natCast]
    refine ⟨fun h2 => ?_, fun h2 => ?_⟩
    rotate_left
    · exfalso
      simp only [hH, stdH] at h2
      exact absurd h2 (by decide)
    refine loop_c hB (draw_ok hB mixed) hX hX0 hH [0, 2, 3, 5, 7, 8, 9, 22, 23, 27, 28] (ι := { k : Nat // k ≤ (gr l.length).2 }) 400 (fun k => [.r (H Nat fun _ => (gridR l.length 1 k.1).length) (rowsI H fun _ => gridR l.length 1 k.1), .i (H Int fun _ => (k.1 : Nat))]) (fun k => (gr l.length).2 - k.1) (⟨0, by omega⟩) ?_ ?_
    · (conv in matchSt _ _ _ _ => cbv); simp only [AllG, AllP, and_true, hH, stdH, Nat.le_refl, ncast, Int.ofNat_eq_natCast, vrow_I, Arm.eta2, Fld.eta, Grp.eta]
      (repeat' (with_reducible refine And.intro ?_ ?_)) <;> (first | exact True.intro | exact Eq.refl _ | exact RowsEq.self okRA | exact RowsEq.z0 | exact RowsEq.self okI | exact RowsEq.ofT okI rfl (Shp_zero _) rfl)
    intro I2 hI2 k
    conv in Fin.chk _ _ => cbv
    try simp only [Plain_rowsA, Plain_rowsB, Plain_rowsF, Plain_rowsG, Plain_rowsI, Plain_rowsS, Plain_rowsU, Fin.satC_ret, Fin.satC_br, Fin.satC_need, Fin.satC_again, AllP, and_true, true_and, upd, List.length_nil, List.length_cons, Nat.zero_add, if_true, ncast, Int.ofNat_eq_natCast]
    obtain ⟨k, hk⟩ := k
    have gl := gridR_len l.length 1 k
    refine ⟨fun h3 => ⟨?_, ⟨?_, ?_⟩, ?_⟩, fun h3 => ⟨⟨?_, ?_⟩, ?_⟩⟩
    · try simp only [hH, stdH, Nat.le_refl, decide_eq_true_eq, decide_eq_false_iff_not, Bool.not_eq_true', Bool.not_eq_false', peta, ncast, Int.ofNat_eq_natCast, beq_iff_eq, bne_iff_ne, beq_eq_false_iff_ne, bne_eq_false_iff_eq, ne_eq, Classical.not_not, Int.toNat_natCast, vrow_I, Arm.eta2, Fld.eta, Grp.eta]
      omega
    · try simp only [hH, stdH, Nat.le_refl, decide_eq_true_eq, decide_eq_false_iff_not, Bool.not_eq_true', Bool.not_eq_false', peta, ncast, Int.ofNat_eq_natCast, beq_iff_eq, bne_iff_ne, beq_eq_false_iff_ne, bne_eq_false_iff_eq, ne_eq, Classical.not_not, Int.toNat_natCast, vrow_I, Arm.eta2, Fld.eta, Grp.eta]
    · try simp only [hH, stdH, Nat.le_refl, decide_eq_true_eq, decide_eq_false_iff_not, Bool.not_eq_true', Bool.not_eq_false', peta, ncast, Int.ofNat_eq_natCast, beq_iff_eq, bne_iff_ne, beq_eq_false_iff_ne, bne_eq_false_iff_eq, ne_eq, Classical.not_not, Int.toNat_natCast, vrow_I, Arm.eta2, Fld.eta, Grp.eta]
      rw [gl]
      exact ⟨by omega, by omega⟩
    · simp only [hH, stdH, Nat.le_refl, decide_eq_true_eq, decide_eq_false_iff_not, Bool.not_eq_true', Bool.not_eq_false', peta, ncast, Int.ofNat_eq_natCast, beq_iff_eq, bne_iff_ne, beq_eq_false_iff_ne, bne_eq_false_iff_eq, ne_eq, Classical.not_not, Int.toNat_natCast, vrow_I, Arm.eta2, Fld.eta, Grp.eta] at h3
      have h3 : k < (gr l.length).2 := by omega
      refine ⟨⟨k + 1, by omega⟩, by simp only; omega, ?_⟩
      rw [hI2]
      (conv in matchSt _ _ _ _ => cbv); simp only [AllG, AllP, and_true, hH, stdH, Nat.le_refl, ncast, Int.ofNat_eq_natCast, vrow_I, Arm.eta2, Fld.eta, Grp.eta]
      rw [w1 (by omega), gridR_s, grid_v (i := 1) (a := IntKind.i64.wrap (0 + 1)) (n := l.length) (k := k) (by decide) l1 (by decide) q5 (by omega) rfl]
      (repeat' (with_reducible refine And.intro ?_ ?_)) <;> (first | exact True.intro | exact Eq.refl _ | exact RowsEq.self okRA | exact RowsEq.z0 | exact RowsEq.self okI | exact List.length_append | exact RowsEq.snocI rfl | exact RowsEq.more okI (Shp_I _ _) (Tl_I _))
    · try simp only [hH, stdH, Nat.le_refl, decide_eq_true_eq, decide_eq_false_iff_not, Bool.not_eq_true', Bool.not_eq_false', peta, ncast, Int.ofNat_eq_natCast, beq_iff_eq, bne_iff_ne, beq_eq_false_iff_ne, bne_eq_false_iff_eq, ne_eq, Classical.not_not, Int.toNat_natCast, vrow_I, Arm.eta2, Fld.eta, Grp.eta]
    · try simp only [hH, stdH, Nat.le_refl, decide_eq_true_eq, decide_eq_false_iff_not, Bool.not_eq_true', Bool.not_eq_false', peta, ncast, Int.ofNat_eq_natCast, beq_iff_eq, bne_iff_ne, beq_eq_false_iff_ne, bne_eq_false_iff_eq, ne_eq, Classical.not_not, Int.toNat_natCast, vrow_I, Arm.eta2, Fld.eta, Grp.eta]
      exact ⟨by decide, by decide⟩
    simp only [hH, stdH, Nat.le_refl, decide_eq_true_eq, decide_eq_false_iff_not, Bool.not_eq_true', Bool.not_eq_false', peta, ncast, Int.ofNat_eq_natCast, beq_iff_eq, bne_iff_ne, beq_eq_false_iff_ne, bne_eq_false_iff_eq, ne_eq, Classical.not_not, Int.toNat_natCast, vrow_I, Arm.eta2, Fld.eta, Grp.eta] at h3
    obtain rfl : k = (gr l.length).2 := by omega
    rw [if_neg (by decide)]
    refine loopK_peel hB (draw_ok hB mixed) hX hH 400 ?_
    conv in Fin.chk _ _ => cbv
    try simp only [Plain_rowsA, Plain_rowsB, Plain_rowsF, Plain_rowsG, Plain_rowsI, Plain_rowsS, Plain_rowsU, Fin.satC_ret, Fin.satC_br, Fin.satC_need, Fin.satC_again, AllP, and_true, true_and, upd, List.length_nil, List.length_cons, Nat.zero_add, if_true, ncast, Int.ofNat_eq_natCast]
    refine ⟨fun h2 => ?_, fun h2 => ?_⟩
    · exfalso
      simp only [hH, stdH] at h2
      exact absurd h2 (by decide)
    · try simp only [hH, stdH, Nat.le_refl, decide_eq_true_eq, decide_eq_false_iff_not, Bool.not_eq_true', Bool.not_eq_false', peta, ncast, Int.ofNat_eq_natCast, beq_iff_eq, bne_iff_ne, beq_eq_false_iff_ne, bne_eq_false_iff_eq, ne_eq, Classical.not_not, Int.toNat_natCast, vrow_I, Arm.eta2, Fld.eta, Grp.eta]
      (repeat' (with_reducible refine And.intro ?_ ?_)) <;> (first | exact True.intro | exact Eq.refl _ | exact RowsEq.grR _ _ _ | exact (gridR_len _ _ _).symm | exact RowsEq.self okRA)
theorem c_fill3 (l : List Arm) (h0 : l.length ≤ 1000) (h1 : okQ l = true) (hg : (gr l.length).1 = 3) : ConN Try.prog 18 [.slc 0 0 15 (stdH Nat fun _ => l.length)] [(0, .rows 15 (stdH Nat fun _ => l.length) (rowsA stdH fun _ => l) 43)] 1 (.tup [.slc 1 0 1 3, .lit (.bool (stdH Bool fun _ => true))]) [.cells [.slc 2 0 1 (stdH Nat fun _ => (gr l.length).2), .slc 3 0 1 (stdH Nat fun _ => (gr l.length).2), .slc 4 0 1 (stdH Nat fun _ => (gr l.length).2)] 31, .rows 1 (stdH Nat fun _ => (gr l.length).2) (rowsI stdH fun _ => gridR l.length 0 (gr l.length).2) 3, .rows 1 (stdH Nat fun _ => (gr l.length).2) (rowsI stdH fun _ => gridR l.length 1 (gr l.length).2) 3, .rows 1 (stdH Nat fun _ => (gr l.length).2) (rowsI stdH fun _ => gridR l.length 2 (gr l.length).2) 3] [(0, .rows 15 (stdH Nat fun _ => l.length) (rowsA stdH fun _ => l) 43)] := by
  have hB : Base Try.prog (tabΓ [e_validQ, e_gridOf]) tabN := base_of tabOkN (ents_cons eok_validQ <| ents_cons eok_gridOf <| ents_nil)
  refine con_m (N := 49) hB (draw_ok hB mixed) Try.func18 rfl rfl (fun H => [.slc 0 0 15 (H Nat fun _ => l.length)]) (fun H => [(0, .rows 15 (H Nat fun _ => l.length) (rowsA H fun _ => l) 43)]) 1 (fun H => .tup [.slc 1 0 1 3, .lit (.bool (H Bool fun _ => true))]) (fun H => [.cells [.slc 2 0 1 (H Nat fun _ => (gr l.length).2), .slc 3 0 1 (H Nat fun _ => (gr l.length).2), .slc 4 0 1 (H Nat fun _ => (gr l.length).2)] 31, .rows 1 (H Nat fun _ => (gr l.length).2) (rowsI H fun _ => gridR l.length 0 (gr l.length).2) 3, .rows 1 (H Nat fun _ => (gr l.length).2) (rowsI H fun _ => gridR l.length 1 (gr l.length).2) 3, .rows 1 (H Nat fun _ => (gr l.length).2) (rowsI H fun _ => gridR l.length 2 (gr l.length).2) 3]) (fun H => [(0, .rows 15 (H Nat fun _ => l.length) (rowsA H fun _ => l) 43)]) 400 (by simp) (fun x hx => ?_) (fun i b hi => ?_) (fun i hi => ?_) (fun i b hi => ?_) ?_
  · simp only [List.mem_cons, List.not_mem_nil, or_false] at hx
    rcases hx with rfl
    exact .slc (by omega)
  · have := lk_in hi
    simp only [List.mem_cons, List.not_mem_nil, or_false, Prod.mk.injEq] at this
    obtain ⟨rfl, rfl⟩ := this
    exact ⟨by omega, bT_bl okRA _ (fun _ => l) _, _, List.mem_cons_self⟩
  · obtain rfl : i = 0 := by omega
    exact ⟨_, rfl⟩
  · simp only [List.mem_cons, List.not_mem_nil, or_false, Prod.mk.injEq] at hi
    obtain ⟨rfl, rfl⟩ := hi
    exact ⟨_, rfl⟩
  intro X hX hX0 H hH
  conv in Fin.chk _ _ => cbv
  try simp only [Plain_rowsA, Plain_rowsB, Plain_rowsF, Plain_rowsG, Plain_rowsI, Plain_rowsS, Plain_rowsU, Fin.satC_ret, Fin.satC_br, Fin.satC_need, Fin.satC_again, AllP, and_true, true_and, upd, List.length_nil, List.length_cons, Nat.zero_add, if_true, ncast, Int.ofNat_eq_natCast]
  obtain ⟨l1, l2⟩ := okQ_len h1
  obtain ⟨q1, q2, q3, q4, q5⟩ := gr_ok l.length (by omega) l1
  refine ⟨⟨?_, ?_, ?_⟩, fun h => ?_, fun h => ⟨?_, ?_⟩⟩
  · try simp only [hH, stdH, Nat.le_refl, decide_eq_true_eq, decide_eq_false_iff_not, Bool.not_eq_true', Bool.not_eq_false', peta, ncast, Int.ofNat_eq_natCast, beq_iff_eq, bne_iff_ne, beq_eq_false_iff_ne, bne_eq_false_iff_eq, ne_eq, Classical.not_not, Int.toNat_natCast, vrow_I, Arm.eta2, Fld.eta, Grp.eta]
    exact fun _ _ => rfl
  · try simp only [hH, stdH, Nat.le_refl, decide_eq_true_eq, decide_eq_false_iff_not, Bool.not_eq_true', Bool.not_eq_false', peta, ncast, Int.ofNat_eq_natCast, beq_iff_eq, bne_iff_ne, beq_eq_false_iff_ne, bne_eq_false_iff_eq, ne_eq, Classical.not_not, Int.toNat_natCast, vrow_I, Arm.eta2, Fld.eta, Grp.eta]
    exact Shp_A _ _
  · try simp only [hH, stdH, Nat.le_refl, decide_eq_true_eq, decide_eq_false_iff_not, Bool.not_eq_true', Bool.not_eq_false', peta, ncast, Int.ofNat_eq_natCast, beq_iff_eq, bne_iff_ne, beq_eq_false_iff_ne, bne_eq_false_iff_eq, ne_eq, Classical.not_not, Int.toNat_natCast, vrow_I, Arm.eta2, Fld.eta, Grp.eta]
    simp only [Tl_A]; omega
  · exfalso
    simp only [hH, stdH, Tl_A, h1] at h; simp at h
  · try simp only [hH, stdH, Nat.le_refl, decide_eq_true_eq, decide_eq_false_iff_not, Bool.not_eq_true', Bool.not_eq_false', peta, ncast, Int.ofNat_eq_natCast, beq_iff_eq, bne_iff_ne, beq_eq_false_iff_ne, bne_eq_false_iff_eq, ne_eq, Classical.not_not, Int.toNat_natCast, vrow_I, Arm.eta2, Fld.eta, Grp.eta]
    exact ⟨by omega, by omega⟩
  · simp only [hlen hH, Int.toNat_natCast, hg]
    refine loop_peel hB (draw_ok hB mixed) hX hH 400 ?_
    conv in Fin.chk _ _ => cbv
    try simp only [Plain_rowsA, Plain_rowsB, Plain_rowsF, Plain_rowsG, Plain_rowsI, Plain_rowsS, Plain_rowsU, Fin.satC_ret, Fin.satC_br, Fin.satC_need, Fin.satC_again, AllP, and_true, true_and, upd, List.length_nil, List.length_cons, Nat.zero_add, if_true, ncast, Int.ofNat_eq_natCast]
    refine ⟨fun h2 => ?_, fun h2 => ?_⟩
    rotate_left
    · exfalso
      simp only [hH, stdH] at h2
      exact absurd h2 (by decide)
    refine loop_c hB (draw_ok hB mixed) hX hX0 hH [0, 2, 3, 5, 7, 8, 9, 22, 23, 27, 28] (ι := { k : Nat // k ≤ (gr l.length).2 }) 400 (fun k => [.r (H Nat fun _ => (gridR l.length 0 k.1).length) (rowsI H fun _ => gridR l.length 0 k.1), .i (H Int fun _ => (k.1 : Nat))]) (fun k => (gr l.length).2 - k.1) (⟨0, by omega⟩) ?_ ?_
    · (conv in matchSt _ _ _ _ => cbv); simp only [AllG, AllP, and_true, hH, stdH, Nat.le_refl, ncast, Int.ofNat_eq_natCast, vrow_I, Arm.eta2, Fld.eta, Grp.eta]
      (repeat' (with_reducible refine And.intro ?_ ?_)) <;> (first | exact True.intro | exact Eq.refl _ | exact RowsEq.self okRA | exact RowsEq.z0 | exact RowsEq.self okI | exact RowsEq.ofT okI rfl (Shp_zero _) rfl)
    intro I2 hI2 k
    conv in Fin.chk _ _ => cbv
    try simp only [Plain_rowsA, Plain_rowsB, Plain_rowsF, Plain_rowsG, Plain_rowsI, Plain_rowsS, Plain_rowsU, Fin.satC_ret, Fin.satC_br, Fin.satC_need, Fin.satC_again, AllP, and_true, true_and, upd, List.length_nil, List.length_cons, Nat.zero_add, if_true, ncast, Int.ofNat_eq_natCast]
    obtain ⟨k, hk⟩ := k
    have gl := gridR_len l.length 0 k
    refine ⟨fun h3 => ⟨?_, ⟨?_, ?_⟩, ?_⟩, fun h3 => ⟨⟨?_, ?_⟩, ?_⟩⟩
    · try simp only [hH, stdH, Nat.le_refl, decide_eq_true_eq, decide_eq_false_iff_not, Bool.not_eq_true', Bool.not_eq_false', peta, ncast, Int.ofNat_eq_natCast, beq_iff_eq, bne_iff_ne, beq_eq_false_iff_ne, bne_eq_false_iff_eq, ne_eq, Classical.not_not, Int.toNat_natCast, vrow_I, Arm.eta2, Fld.eta, Grp.eta]
      omega
    · try simp only [hH, stdH, Nat.le_refl, decide_eq_true_eq, decide_eq_false_iff_not, Bool.not_eq_true', Bool.not_eq_false', peta, ncast, Int.ofNat_eq_natCast, beq_iff_eq, bne_iff_ne, beq_eq_false_iff_ne, bne_eq_false_iff_eq, ne_eq, Classical.not_not, Int.toNat_natCast, vrow_I, Arm.eta2, Fld.eta, Grp.eta]
    · try simp only [hH, stdH, Nat.le_refl, decide_eq_true_eq, decide_eq_false_iff_not, Bool.not_eq_true', Bool.not_eq_false', peta, ncast, Int.ofNat_eq_natCast, beq_iff_eq, bne_iff_ne, beq_eq_false_iff_ne, bne_eq_false_iff_eq, ne_eq, Classical.not_not, Int.toNat_natCast, vrow_I, Arm.eta2, Fld.eta, Grp.eta]
      rw [gl]
      exact ⟨by omega, by omega⟩
    · simp only [hH, stdH, Nat.le_refl, decide_eq_true_eq, decide_eq_false_iff_not, Bool.not_eq_true', Bool.not_eq_false', peta, ncast, Int.ofNat_eq_natCast, beq_iff_eq, bne_iff_ne, beq_eq_false_iff_ne, bne_eq_false_iff_eq, ne_eq, Classical.not_not, Int.toNat_natCast, vrow_I, Arm.eta2, Fld.eta, Grp.eta] at h3
      have h3 : k < (gr l.length).2 := by omega
      refine ⟨⟨k + 1, by omega⟩, by simp only; omega, ?_⟩
      rw [hI2]
      (conv in matchSt _ _ _ _ => cbv); simp only [AllG, AllP, and_true, hH, stdH, Nat.le_refl, ncast, Int.ofNat_eq_natCast, vrow_I, Arm.eta2, Fld.eta, Grp.eta]
      rw [w1 (by omega), gridR_s, grid_v (i := 0) (a := 0) (n := l.length) (k := k) (by decide) l1 (by decide) q5 (by omega) rfl]
      (repeat' (with_reducible refine And.intro ?_ ?_)) <;> (first | exact True.intro | exact Eq.refl _ | exact RowsEq.self okRA | exact RowsEq.z0 | exact RowsEq.self okI | exact List.length_append | exact RowsEq.snocI rfl | exact RowsEq.more okI (Shp_I _ _) (Tl_I _))
    · try simp only [hH, stdH, Nat.le_refl, decide_eq_true_eq, decide_eq_false_iff_not, Bool.not_eq_true', Bool.not_eq_false', peta, ncast, Int.ofNat_eq_natCast, beq_iff_eq, bne_iff_ne, beq_eq_false_iff_ne, bne_eq_false_iff_eq, ne_eq, Classical.not_not, Int.toNat_natCast, vrow_I, Arm.eta2, Fld.eta, Grp.eta]
    · try simp only [hH, stdH, Nat.le_refl, decide_eq_true_eq, decide_eq_false_iff_not, Bool.not_eq_true', Bool.not_eq_false', peta, ncast, Int.ofNat_eq_natCast, beq_iff_eq, bne_iff_ne, beq_eq_false_iff_ne, bne_eq_false_iff_eq, ne_eq, Classical.not_not, Int.toNat_natCast, vrow_I, Arm.eta2, Fld.eta, Grp.eta]
      exact ⟨by decide, by decide⟩
    simp only [hH, stdH, Nat.le_refl, decide_eq_true_eq, decide_eq_false_iff_not, Bool.not_eq_true', Bool.not_eq_false', peta, ncast, Int.ofNat_eq_natCast, beq_iff_eq, bne_iff_ne, beq_eq_false_iff_ne, bne_eq_false_iff_eq, ne_eq, Classical.not_not, Int.toNat_natCast, vrow_I, Arm.eta2, Fld.eta, Grp.eta] at h3
    obtain rfl : k = (gr l.length).2 := by omega
    rw [if_neg (by decide)]
    refine loopK_peel hB (draw_ok hB mixed) hX hH 400 ?_
    conv in Fin.chk _ _ => cbv
    try simp only [Plain_rowsA, Plain_rowsB, Plain_rowsF, Plain_rowsG, Plain_rowsI, Plain_rowsS, Plain_rowsU, Fin.satC_ret, Fin.satC_br, Fin.satC_need, Fin.satC_again, AllP, and_true, true_and, upd, List.length_nil, List.length_cons, Nat.zero_add, if_true, ncast, Int.ofNat_eq_natCast]
    refine ⟨fun h2 => ?_, fun h2 => ?_⟩
    rotate_left
    · exfalso
      simp only [hH, stdH] at h2
      exact absurd h2 (by decide)
    refine loop_c hB (draw_ok hB mixed) hX hX0 hH [0, 2, 3, 5, 7, 8, 9, 22, 23, 27, 28] (ι := { k : Nat // k ≤ (gr l.length).2 }) 400 (fun k => [.r (H Nat fun _ => (gridR l.length 1 k.1).length) (rowsI H fun _ => gridR l.length 1 k.1), .i (H Int fun _ => (k.1 : Nat))]) (fun k => (gr l.length).2 - k.1) (⟨0, by omega⟩) ?_ ?_
    · (conv in matchSt _ _ _ _ => cbv); simp only [AllG, AllP, and_true, hH, stdH, Nat.le_refl, ncast, Int.ofNat_eq_natCast, vrow_I, Arm.eta2, Fld.eta, Grp.eta]
      (repeat' (with_reducible refine And.intro ?_ ?_)) <;> (first | exact True.intro | exact Eq.refl _ | exact RowsEq.self okRA | exact RowsEq.z0 | exact RowsEq.self okI | exact RowsEq.ofT okI rfl (Shp_zero _) rfl)
    intro I2 hI2 k
    conv in Fin.chk _ _ => cbv
    try simp only [Plain_rowsA, Plain_rowsB, Plain_rowsF, Plain_rowsG, Plain_rowsI, Plain_rowsS, Plain_rowsU, Fin.satC_ret, Fin.satC_br, Fin.satC_need, Fin.satC_again, AllP, and_true, true_and, upd, List.length_nil, List.length_cons, Nat.zero_add, if_true, ncast, Int.ofNat_eq_natCast]
    obtain ⟨k, hk⟩ := k
    have gl := gridR_len l.length 1 k
    refine ⟨fun h3 => ⟨?_, ⟨?_, ?_⟩, ?_⟩, fun h3 => ⟨⟨?_, ?_⟩, ?_⟩⟩
    · try simp only [hH, stdH, Nat.le_refl, decide_eq_true_eq, decide_eq_false_iff_not, Bool.not_eq_true', Bool.not_eq_false', peta, ncast, Int.ofNat_eq_natCast, beq_iff_eq, bne_iff_ne, beq_eq_false_iff_ne, bne_eq_false_iff_eq, ne_eq, Classical.not_not, Int.toNat_natCast, vrow_I, Arm.eta2, Fld.eta, Grp.eta]
      omega
    · try simp only [hH, stdH, Nat.le_refl, decide_eq_true_eq, decide_eq_false_iff_not, Bool.not_eq_true', Bool.not_eq_false', peta, ncast, Int.ofNat_eq_natCast, beq_iff_eq, bne_iff_ne, beq_eq_false_iff_ne, bne_eq_false_iff_eq, ne_eq, Classical.not_not, Int.toNat_natCast, vrow_I, Arm.eta2, Fld.eta, Grp.eta]
    · try simp only [hH, stdH, Nat.le_refl, decide_eq_true_eq, decide_eq_false_iff_not, Bool.not_eq_true', Bool.not_eq_false', peta, ncast, Int.ofNat_eq_natCast, beq_iff_eq, bne_iff_ne, beq_eq_false_iff_ne, bne_eq_false_iff_eq, ne_eq, Classical.not_not, Int.toNat_natCast, vrow_I, Arm.eta2, Fld.eta, Grp.eta]
      rw [gl]
      exact ⟨by omega, by omega⟩
    · simp only [hH, stdH, Nat.le_refl, decide_eq_true_eq, decide_eq_false_iff_not, Bool.not_eq_true', Bool.not_eq_false', peta, ncast, Int.ofNat_eq_natCast, beq_iff_eq, bne_iff_ne, beq_eq_false_iff_ne, bne_eq_false_iff_eq, ne_eq, Classical.not_not, Int.toNat_natCast, vrow_I, Arm.eta2, Fld.eta, Grp.eta] at h3
      have h3 : k < (gr l.length).2 := by omega
      refine ⟨⟨k + 1, by omega⟩, by simp only; omega, ?_⟩
      rw [hI2]
      (conv in matchSt _ _ _ _ => cbv); simp only [AllG, AllP, and_true, hH, stdH, Nat.le_refl, ncast, Int.ofNat_eq_natCast, vrow_I, Arm.eta2, Fld.eta, Grp.eta]
      rw [w1 (by omega), gridR_s, grid_v (i := 1) (a := IntKind.i64.wrap (0 + 1)) (n := l.length) (k := k) (by decide) l1 (by decide) q5 (by omega) rfl]
      (repeat' (with_reducible refine And.intro ?_ ?_)) <;> (first | exact True.intro | exact Eq.refl _ | exact RowsEq.self okRA | exact RowsEq.z0 | exact RowsEq.self okI | exact List.length_append | exact RowsEq.snocI rfl | exact RowsEq.more okI (Shp_I _ _) (Tl_I _))
    · try simp only [hH, stdH, Nat.le_refl, decide_eq_true_eq, decide_eq_false_iff_not, Bool.not_eq_true', Bool.not_eq_false', peta, ncast, Int.ofNat_eq_natCast, beq_iff_eq, bne_iff_ne, beq_eq_false_iff_ne, bne_eq_false_iff_eq, ne_eq, Classical.not_not, Int.toNat_natCast, vrow_I, Arm.eta2, Fld.eta, Grp.eta]
    · try simp only [hH, stdH, Nat.le_refl, decide_eq_true_eq, decide_eq_false_iff_not, Bool.not_eq_true', Bool.not_eq_false', peta, ncast, Int.ofNat_eq_natCast, beq_iff_eq, bne_iff_ne, beq_eq_false_iff_ne, bne_eq_false_iff_eq, ne_eq, Classical.not_not, Int.toNat_natCast, vrow_I, Arm.eta2, Fld.eta, Grp.eta]
      exact ⟨by decide, by decide⟩
    simp only [hH, stdH, Nat.le_refl, decide_eq_true_eq, decide_eq_false_iff_not, Bool.not_eq_true', Bool.not_eq_false', peta, ncast, Int.ofNat_eq_natCast, beq_iff_eq, bne_iff_ne, beq_eq_false_iff_ne, bne_eq_false_iff_eq, ne_eq, Classical.not_not, Int.toNat_natCast, vrow_I, Arm.eta2, Fld.eta, Grp.eta] at h3
    obtain rfl : k = (gr l.length).2 := by omega
    rw [if_neg (by decide)]
    refine loopK_peel hB (draw_ok hB mixed) hX hH 400 ?_
    conv in Fin.chk _ _ => cbv
    try simp only [Plain_rowsA, Plain_rowsB, Plain_rowsF, Plain_rowsG, Plain_rowsI, Plain_rowsS, Plain_rowsU, Fin.satC_ret, Fin.satC_br, Fin.satC_need, Fin.satC_again, AllP, and_true, true_and, upd, List.length_nil, List.length_cons, Nat.zero_add, if_true, ncast, Int.ofNat_eq_natCast]
    refine ⟨fun h2 => ?_, fun h2 => ?_⟩
    rotate_left
    · exfalso
      simp only [hH, stdH] at h2
      exact absurd h2 (by decide)
    refine loop_c hB (draw_ok hB mixed) hX hX0 hH [0, 2, 3, 5, 7, 8, 9, 22, 23, 27, 28] (ι := { k : Nat // k ≤ (gr l.length).2 }) 400 (fun k => [.r (H Nat fun _ => (gridR l.length 2 k.1).length) (rowsI H fun _ => gridR l.length 2 k.1), .i (H Int fun _ => (k.1 : Nat))]) (fun k => (gr l.length).2 - k.1) (⟨0, by omega⟩) ?_ ?_
    · (conv in matchSt _ _ _ _ => cbv); simp only [AllG, AllP, and_true, hH, stdH, Nat.le_refl, ncast, Int.ofNat_eq_natCast, vrow_I, Arm.eta2, Fld.eta, Grp.eta]
      (repeat' (with_reducible refine And.intro ?_ ?_)) <;> (first | exact True.intro | exact Eq.refl _ | exact RowsEq.self okRA | exact RowsEq.z0 | exact RowsEq.self okI | exact RowsEq.ofT okI rfl (Shp_zero _) rfl)
    intro I2 hI2 k
    conv in Fin.chk _ _ => cbv
    try simp only [Plain_rowsA, Plain_rowsB, Plain_rowsF, Plain_rowsG, Plain_rowsI, Plain_rowsS, Plain_rowsU, Fin.satC_ret, Fin.satC_br, Fin.satC_need, Fin.satC_again, AllP, and_true, true_and, upd, List.length_nil, List.length_cons, Nat.zero_add, if_true, ncast, Int.ofNat_eq_natCast]
    obtain ⟨k, hk⟩ := k
    have gl := gridR_len l.length 2 k
    refine ⟨fun h3 => ⟨?_, ⟨?_, ?_⟩, ?_⟩, fun h3 => ⟨⟨?_, ?_⟩, ?_⟩⟩
    · try simp only [hH, stdH, Nat.le_refl, decide_eq_true_eq, decide_eq_false_iff_not, Bool.not_eq_true', Bool.not_eq_false', peta, ncast, Int.ofNat_eq_natCast, beq_iff_eq, bne_iff_ne, beq_eq_false_iff_ne, bne_eq_false_iff_eq, ne_eq, Classical.not_not, Int.toNat_natCast, vrow_I, Arm.eta2, Fld.eta, Grp.eta]
      omega
    · try simp only [hH, stdH, Nat.le_refl, decide_eq_true_eq, decide_eq_false_iff_not, Bool.not_eq_true', Bool.not_eq_false', peta, ncast, Int.ofNat_eq_natCast, beq_iff_eq, bne_iff_ne, beq_eq_false_iff_ne, bne_eq_false_iff_eq, ne_eq, Classical.not_not, Int.toNat_natCast, vrow_I, Arm.eta2, Fld.eta, Grp.eta]
    · try simp only [hH, stdH, Nat.le_refl, decide_eq_true_eq, decide_eq_false_iff_not, Bool.not_eq_true', Bool.not_eq_false', peta, ncast, Int.ofNat_eq_natCast, beq_iff_eq, bne_iff_ne, beq_eq_false_iff_ne, bne_eq_false_iff_eq, ne_eq, Classical.not_not, Int.toNat_natCast, vrow_I, Arm.eta2, Fld.eta, Grp.eta]
      rw [gl]
      exact ⟨by omega, by omega⟩
    · simp only [hH, stdH, Nat.le_refl, decide_eq_true_eq, decide_eq_false_iff_not, Bool.not_eq_true', Bool.not_eq_false', peta, ncast, Int.ofNat_eq_natCast, beq_iff_eq, bne_iff_ne, beq_eq_false_iff_ne, bne_eq_false_iff_eq, ne_eq, Classical.not_not, Int.toNat_natCast, vrow_I, Arm.eta2, Fld.eta, Grp.eta] at h3
      have h3 : k < (gr l.length).2 := by omega
      refine ⟨⟨k + 1, by omega⟩, by simp only; omega, ?_⟩
      rw [hI2]
      (conv in matchSt _ _ _ _ => cbv); simp only [AllG, AllP, and_true, hH, stdH, Nat.le_refl, ncast, Int.ofNat_eq_natCast, vrow_I, Arm.eta2, Fld.eta, Grp.eta]
      rw [w1 (by omega), gridR_s, grid_v (i := 2) (a := IntKind.i64.wrap (IntKind.i64.wrap (0 + 1) + 1)) (n := l.length) (k := k) (by decide) l1 (by decide) q5 (by omega) rfl]
      (repeat' (with_reducible refine And.intro ?_ ?_)) <;> (first | exact True.intro | exact Eq.refl _ | exact RowsEq.self okRA | exact RowsEq.z0 | exact RowsEq.self okI | exact List.length_append | exact RowsEq.snocI rfl | exact RowsEq.more okI (Shp_I _ _) (Tl_I _))
    · try simp only [hH, stdH, Nat.le_refl, decide_eq_true_eq, decide_eq_false_iff_not, Bool.not_eq_true', Bool.not_eq_false', peta, ncast, Int.ofNat_eq_natCast, beq_iff_eq, bne_iff_ne, beq_eq_false_iff_ne, bne_eq_false_iff_eq, ne_eq, Classical.not_not, Int.toNat_natCast, vrow_I, Arm.eta2, Fld.eta, Grp.eta]
    · try simp only [hH, stdH, Nat.le_refl, decide_eq_true_eq, decide_eq_false_iff_not, Bool.not_eq_true', Bool.not_eq_false', peta, ncast, Int.ofNat_eq_natCast, beq_iff_eq, bne_iff_ne, beq_eq_false_iff_ne, bne_eq_false_iff_eq, ne_eq, Classical.not_not, Int.toNat_natCast, vrow_I, Arm.eta2, Fld.eta, Grp.eta]
      exact ⟨by decide, by decide⟩
    simp only [hH, stdH, Nat.le_refl, decide_eq_true_eq, decide_eq_false_iff_not, Bool.not_eq_true', Bool.not_eq_false', peta, ncast, Int.ofNat_eq_natCast, beq_iff_eq, bne_iff_ne, beq_eq_false_iff_ne, bne_eq_false_iff_eq, ne_eq, Classical.not_not, Int.toNat_natCast, vrow_I, Arm.eta2, Fld.eta, Grp.eta] at h3
    obtain rfl : k = (gr l.length).2 := by omega
    rw [if_neg (by decide)]
    refine loopK_peel hB (draw_ok hB mixed) hX hH 400 ?_
    conv in Fin.chk _ _ => cbv
    try simp only [Plain_rowsA, Plain_rowsB, Plain_rowsF, Plain_rowsG, Plain_rowsI, Plain_rowsS, Plain_rowsU, Fin.satC_ret, Fin.satC_br, Fin.satC_need, Fin.satC_again, AllP, and_true, true_and, upd, List.length_nil, List.length_cons, Nat.zero_add, if_true, ncast, Int.ofNat_eq_natCast]
    refine ⟨fun h2 => ?_, fun h2 => ?_⟩
    · exfalso
      simp only [hH, stdH] at h2
      exact absurd h2 (by decide)
    · try simp only [hH, stdH, Nat.le_refl, decide_eq_true_eq, decide_eq_false_iff_not, Bool.not_eq_true', Bool.not_eq_false', peta, ncast, Int.ofNat_eq_natCast, beq_iff_eq, bne_iff_ne, beq_eq_false_iff_ne, bne_eq_false_iff_eq, ne_eq, Classical.not_not, Int.toNat_natCast, vrow_I, Arm.eta2, Fld.eta, Grp.eta]
      (repeat' (with_reducible refine And.intro ?_ ?_)) <;> (first | exact True.intro | exact Eq.refl _ | exact RowsEq.grR _ _ _ | exact (gridR_len _ _ _).symm | exact RowsEq.self okRA)

end Go.Proofs.Ytigkdbhcjjjjkaa.AM

