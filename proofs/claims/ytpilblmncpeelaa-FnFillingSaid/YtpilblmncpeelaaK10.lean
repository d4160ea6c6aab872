/- Lemmas and contracts (Rbd); conditions: none. -/
import Derived.Test.YtpilblmncpeelaaK04
import Derived.Test.YtpilblmncpeelaaK09
set_option linter.unusedVariables false
set_option linter.unusedSimpArgs false
set_option linter.unusedVariables false
set_option linter.unusedSimpArgs false
set_option maxRecDepth 100000
set_option maxHeartbeats 4000000
set_option cbv.maxSteps 3000000
namespace Go.Proofs.Ytpilblmncpeelaa.AM
/- Regions by the program: valid ones, boxes looked at; conditions: none. -/
def rO (L : List Int) (y : Nat) : Bool := decide (0 ≤ L.getD y 0) && (decide (L.getD y 0 < 1048576) && (List.range 20).all fun x => !(L.getD y 0).toNat.testBit x || shN y x)
def okRg (L : List Int) : Bool := decide (L.length = 24) && (List.range 24).all (rO L)
def rgWB (L : List Int) : Prop := ∀ y, y < L.length → -1 ≤ L.getD y 0 ∧ L.getD y 0 ≤ 1048576
theorem noB_0 {n m : Nat} (hn : n < 2 ^ 62) : noB n m = 0 ↔ ∀ i, n.testBit i = true → m.testBit i = true := by
  constructor
  · intro h i hi
    have := noB_bit (m := m) (i := i) hn
    rw [h, Nat.zero_testBit, hi, Bool.true_and] at this
    simpa using this.symm
  · intro h
    refine Nat.eq_of_testBit_eq fun i => ?_
    rw [noB_bit hn, Nat.zero_testBit]
    cases hi : n.testBit i
    · rfl
    · rw [h i hi]; rfl
theorem rO_y {L : List Int} {y : Nat} {n : Nat} (h : L.getD y 0 = (n : Int)) (hn : n ≤ 1048576) : rO L y = decide (noB n (rwG (shN y) 20) = 0) := by
  have h62 : n < 2 ^ 62 := Nat.lt_of_le_of_lt hn (by decide)
  unfold rO
  rw [h, Bool.eq_iff_iff, decide_eq_true_eq, noB_0 h62]
  simp only [Bool.and_eq_true, decide_eq_true_eq, List.all_eq_true, List.mem_range, Bool.or_eq_true, Bool.not_eq_true', Int.toNat_natCast]
  constructor
  · rintro ⟨_, h2, h3⟩ i hi
    have hi20 : i < 20 := by
      rcases Nat.lt_or_ge i 20 with q | q
      · exact q
      · have : n < 2 ^ i := Nat.lt_of_lt_of_le (show n < 1048576 by omega) (Nat.le_trans (show 1048576 ≤ 2 ^ 20 by decide) (Nat.pow_le_pow_right (by decide) q))
        rw [Nat.testBit_lt_two_pow this] at hi; cases hi
    rw [rwG_bit, decide_eq_true hi20, Bool.true_and]
    rcases h3 i hi20 with q | q
    · rw [hi] at q; cases q
    · exact q
  · intro h3
    refine ⟨by omega, ?_, fun x hx => ?_⟩
    · have : n < 2 ^ 20 := Nat.lt_pow_two_of_testBit _ fun i hi => by
        cases q : n.testBit i
        · rfl
        · have := h3 i q
          rw [rwG_bit, decide_eq_false (by omega)] at this
          cases this
      have e : (2 : Nat) ^ 20 = 1048576 := by decide
      omega
    · cases q : n.testBit x
      · exact .inl rfl
      · have := h3 x q
        rw [rwG_bit] at this
        simp only [Bool.and_eq_true] at this
        exact .inr this.2
theorem genR_get {g : Nat → Nat → Bool} {j : Nat} (h : j < 24) : (genR g).getD j 0 = ((rwG (g j) 20 : Nat) : Int) := by
  unfold genR
  rw [List.getD_eq_getElem?_getD, List.getElem?_map, List.getElem?_range h]; rfl
theorem genR_len (g : Nat → Nat → Bool) : (genR g).length = 24 := by unfold genR; rw [List.length_map, List.length_range]
theorem all_no {n k : Nat} {p : Nat → Bool} (hk : k < n) (h : p k = false) : (List.range n).all p = false := by
  rw [← Bool.not_eq_true]
  intro q
  have := List.all_eq_true.1 q k (List.mem_range.2 hk)
  rw [h] at this; cases this
theorem all_yes {n : Nat} {p : Nat → Bool} (h : ∀ k, k < n → p k = true) : (List.range n).all p = true := List.all_eq_true.2 fun k hk => h k (List.mem_range.1 hk)
theorem c_vldRg (r : Rgn) (h0 : rgWB r.rows) : ConN Try.prog 23 [aT rowZ stdH fun _ => r] [] 0 (.lit (.bool (stdH Bool fun _ => okRg r.rows))) [] [] := by
  have hB : Base Try.prog (tabΓ [e_ShieldReg]) tab := base_of tabOk (ents_cons eok_ShieldReg <| ents_nil)
  refine con_m (N := 32) hB (draw_ok hB mixed) Try.func23 rfl rfl (fun H => [aT rowZ H fun _ => r]) (fun _ => []) 0 (fun H => .lit (.bool (H Bool fun _ => okRg r.rows))) (fun H => []) (fun _ => []) 300 (by simp) (fun x hx => ?_) (by simp [lk]) (by omega) (by simp) ?_
  · simp only [List.mem_cons, List.not_mem_nil, or_false] at hx
    rcases hx with rfl
    · exact aT_bl okRZ _ _
  intro X hX hX0 H hH
  conv in Fin.chk _ _ => cbv
  try simp only [Plain_rowsA, Plain_rowsB, Plain_rowsF, Plain_rowsG, Plain_rowsI, Plain_rowsQ, Plain_rowsS, Plain_rowsU, Fin.satC_ret, Fin.satC_br, Fin.satC_need, Fin.satC_again, AllP, and_true, true_and, upd, List.length_nil, List.length_cons, Nat.zero_add, if_true, ncast, Int.ofNat_eq_natCast]
  refine ⟨fun h1 => ?_, fun h1 => ?_⟩
  · simp only [hH, stdH, bne_iff_ne, ne_eq] at h1 ⊢
    unfold okRg
    rw [decide_eq_false (by omega)]; rfl
  · simp only [hH, stdH, bne_eq_false_iff_eq] at h1
    have hl : r.rows.length = 24 := by omega
    refine loop_a hB (draw_ok hB mixed) hX hX0 hH false (ι := { y : Nat // y ≤ 24 ∧ ∀ k, k < y → rO r.rows k = true }) 300 (fun y => [.i (H Int fun _ => (y.1 : Nat))]) (fun y => 24 - y.1) (⟨0, by omega, by omega⟩) ?_ ?_
    · (conv in matchSt _ _ _ _ => cbv); simp only [AllG, AllP, and_true, hH, stdH, Nat.le_refl, ncast, Int.ofNat_eq_natCast, vrow_I, Arm.eta2, Fld.eta, Grp.eta]
      (repeat' (with_reducible refine And.intro ?_ ?_)) <;> (first | exact True.intro | exact RowsEq.self okI | exact Eq.refl _)
    · intro I hI y
      conv in Fin.chk _ _ => cbv
      try simp only [Plain_rowsA, Plain_rowsB, Plain_rowsF, Plain_rowsG, Plain_rowsI, Plain_rowsQ, Plain_rowsS, Plain_rowsU, Fin.satC_ret, Fin.satC_br, Fin.satC_need, Fin.satC_again, AllP, and_true, true_and, upd, List.length_nil, List.length_cons, Nat.zero_add, if_true, ncast, Int.ofNat_eq_natCast]
      obtain ⟨y, hy, ha⟩ := y
      have gl := genR_len shN
      have key : y < 24 → ∃ n : Nat, r.rows.getD y 0 = n ∧ n ≤ 1048576 ∨ r.rows.getD y 0 < 0 := fun h => by
        have := h0 y (by omega)
        exact ⟨(r.rows.getD y 0).toNat, by omega⟩
      have row : y < 24 → (bif decide (r.rows.getD y 0 < 0) then true else (IntKind.i64.wrap ↑(BitVec.ofInt IntKind.i64.bits (r.rows.getD y 0) &&& ~~~BitVec.ofInt IntKind.i64.bits ((genR shN).getD y 0)).toNat) != 0) = !rO r.rows y := fun h => by
        obtain ⟨n, ⟨e, hn⟩ | hn⟩ := key h
        · have e2 : IntKind.i64.wrap ↑(BitVec.ofInt IntKind.i64.bits (n : Int) &&& ~~~BitVec.ofInt IntKind.i64.bits ((rwG (shN y) 20 : Nat) : Int)).toNat = ((noB n (rwG (shN y) 20) : Nat) : Int) := noI (Nat.lt_of_le_of_lt hn (by decide))
          rw [rO_y e hn, e, genR_get h, e2, decide_eq_false (by omega), cond_false, Bool.eq_iff_iff]
          simp
        · rw [decide_eq_true hn]
          unfold rO
          rw [decide_eq_false (by omega)]; rfl
      (repeat' (with_reducible first | refine And.intro ?_ ?_ | intro hh))
      all_goals try (clear hI hX hX0 hB I X; subst hH; simp only [stdH, Tl_I, Int.toNat_natCast, decide_eq_true_eq, decide_eq_false_iff_not] at *; (repeat' refine And.intro ?_ ?_) <;> first | exact trivial | omega | exact rfl | (intro _; exact ⟨by omega, rfl⟩))
      · rename_i h3
        simp only [hH, stdH, Int.toNat_natCast, decide_eq_true_eq] at h3 hh ⊢
        rw [row (by omega)] at hh
        unfold okRg
        rw [all_no (k := y) (by omega) (by simpa using hh)]
        simp
      · rename_i h3
        simp only [hH, stdH, Int.toNat_natCast, decide_eq_true_eq] at h3 hh
        rw [row (by omega)] at hh
        refine ⟨⟨y + 1, by omega, fun k hk => ?_⟩, by simp only; omega, ?_⟩
        · rcases Nat.lt_succ_iff_lt_or_eq.1 hk with h | rfl
          · exact ha k h
          · simpa using hh
        · rw [hI]
          (conv in matchSt _ _ _ _ => cbv); simp only [AllG, AllP, and_true, hH, stdH, Nat.le_refl, ncast, Int.ofNat_eq_natCast, vrow_I, Arm.eta2, Fld.eta, Grp.eta]
          rw [w1 (by omega)]
          (repeat' (with_reducible refine And.intro ?_ ?_)) <;> (first | exact True.intro | exact RowsEq.self okI | exact Eq.refl _)
      · simp only [hH, stdH, decide_eq_false_iff_not] at hh ⊢
        unfold okRg
        rw [decide_eq_true hl, Bool.true_and]
        exact all_yes fun k hk => ha k (by omega)
noncomputable def e_vldRg : Entry := pureE 23 fun H a => match a with
  | [.agg [.vec 1 r0n r0f]] => some (.lit (.bool (H Bool fun _ => okRg (⟨(Tl rowI r0n r0f)⟩ : Rgn).rows)), [H Prop fun _ => Shp rowI r0n r0f, H Prop fun _ => rgWB (⟨(Tl rowI r0n r0f)⟩ : Rgn).rows])
  | _ => none
theorem eok_vldRg : EntryOk Try.prog e_vldRg := pureM_ok (by unfold isBody; kernel_rfl) (by
  intro a r ob e hob
  split at e
  · rename_i r0n r0f
    simp only [Option.some.injEq, Prod.mk.injEq] at e
    obtain ⟨rfl, rfl⟩ := e
    exact ConN.args (.cons (.agg (.cons (.toT okI rfl hob.1) .nil)) .nil) (c_vldRg (⟨(Tl rowI r0n r0f)⟩ : Rgn) hob.2.1)
  · simp at e)
def okRw (L : List Int) : Prop := L.length = 24 ∧ ∀ y, y < 24 → 0 ≤ L.getD y 0 ∧ L.getD y 0 ≤ 1048576
def hasZ (L : List Int) (x y : Int) : Bool := inB x 0 19 && (inB y 0 23 && (L.getD y.toNat 0).toNat.testBit x.toNat)
theorem c_hasR (r : Rgn) (x : Int) (y : Int) (h0 : okRw r.rows) : ConN Try.prog 30 [aT rowZ stdH fun _ => r, .lit (.int .i64 x), .lit (.int .i64 y)] [] 0 (.lit (.bool (stdH Bool fun _ => hasZ r.rows x y))) [] [] := by
  have hB : Base Try.prog (tabΓ [e_inside]) tabG := base_of tabOkG (ents_cons eok_inside <| ents_nil)
  refine con_m (N := 24) hB (draw_ok hB mixed) Try.func30 rfl rfl (fun H => [aT rowZ H fun _ => r, .lit (.int .i64 x), .lit (.int .i64 y)]) (fun _ => []) 0 (fun H => .lit (.bool (H Bool fun _ => hasZ r.rows x y))) (fun H => []) (fun _ => []) 200 (by simp) (fun x hx => ?_) (by simp [lk]) (by omega) (by simp) ?_
  · simp only [List.mem_cons, List.not_mem_nil, or_false] at hx
    rcases hx with rfl | rfl | rfl
    · exact aT_bl okRZ _ _
    · exact .lit
    · exact .lit
  intro X hX hX0 H hH
  conv in Fin.chk _ _ => cbv
  try simp only [Plain_rowsA, Plain_rowsB, Plain_rowsF, Plain_rowsG, Plain_rowsI, Plain_rowsQ, Plain_rowsS, Plain_rowsU, Fin.satC_ret, Fin.satC_br, Fin.satC_need, Fin.satC_again, AllP, and_true, true_and, upd, List.length_nil, List.length_cons, Nat.zero_add, if_true, ncast, Int.ofNat_eq_natCast]
  subst hH
  simp only [stdH]
  unfold hasZ
  cases hx : inB x 0 19
  · (repeat' (first | exact trivial | rfl | refine And.intro ?_ ?_ | (intro h; cases h; done)))
  · cases hy : inB y 0 23
    · (repeat' (first | exact trivial | rfl | refine And.intro ?_ ?_ | (intro h; cases h; done)))
    · have hx2 := inB_iff.1 hx
      have hy2 := inB_iff.1 hy
      have hr := h0.2 y.toNat (by omega)
      have hl := h0.1
      obtain ⟨n, hn⟩ : ∃ n : Nat, r.rows.getD y.toNat 0 = n := ⟨(r.rows.getD y.toNat 0).toNat, by omega⟩
      obtain ⟨m, rfl⟩ : ∃ m : Nat, x = m := ⟨x.toNat, by omega⟩
      have e := hasI (n := n) (x := m) (Nat.lt_of_le_of_lt (show n ≤ 1048576 by omega) (by decide)) (by omega)
      rw [Int.toNat_natCast] at e
      have e2 : IntKind.i64.wrap ↑(BitVec.ofInt IntKind.i64.bits ((n : Int).fdiv (2 ^ min m IntKind.i64.bits)) &&& BitVec.ofInt IntKind.i64.bits 1).toNat = if n.testBit m then 1 else 0 := e
      simp only [hn, Int.toNat_natCast, cond_true, Bool.true_and, e2]
      refine ⟨fun _ => ⟨by omega, by omega⟩, fun _ => ?_, ?_⟩
      · omega
      · cases n.testBit m <;> rfl
noncomputable def e_hasR : Entry := pureE 30 fun H a => match a with
  | [.agg [.vec 1 r0n r0f], .lit (.int .i64 x), .lit (.int .i64 y)] => some (.lit (.bool (H Bool fun _ => hasZ (⟨(Tl rowI r0n r0f)⟩ : Rgn).rows x y)), [H Prop fun _ => Shp rowI r0n r0f, H Prop fun _ => okRw (⟨(Tl rowI r0n r0f)⟩ : Rgn).rows])
  | _ => none
theorem eok_hasR : EntryOk Try.prog e_hasR := pureM_ok (by unfold isBody; kernel_rfl) (by
  intro a r ob e hob
  split at e
  · rename_i r0n r0f x y
    simp only [Option.some.injEq, Prod.mk.injEq] at e
    obtain ⟨rfl, rfl⟩ := e
    exact ConN.args (.cons (.agg (.cons (.toT okI rfl hob.1) .nil)) (.cons .rfl (.cons .rfl .nil))) (c_hasR (⟨(Tl rowI r0n r0f)⟩ : Rgn) x y hob.2.1)
  · simp at e)
def allC (x y s : Int) (p : Int → Int → Bool) : Bool := (List.range s.toNat).all fun j => (List.range s.toNat).all fun i => p (x + (i : Nat)) (y + (j : Nat))
def bxB (q : Box) : Prop := (-100000 ≤ q.x ∧ q.x ≤ 100000) ∧ (-100000 ≤ q.y ∧ q.y ≤ 100000) ∧ (-100000 ≤ q.s ∧ q.s ≤ 100000)
theorem c_allIn (q : Box)  (h0 : bxB q) : ConN Try.prog 29 [aT rowQ stdH fun _ => q, .lit (.func (.func 31) #[] #[])] [] 0 (.lit (.bool (stdH Bool fun _ => allC q.x q.y q.s shI))) [] [] := by
  have hB : Base Try.prog (tabΓ [e_InShield]) tab := base_of tabOk (ents_cons eok_InShield <| ents_nil)
  refine con_m (N := 34) hB (draw_ok hB mixed) Try.func29 rfl rfl (fun H => [aT rowQ H fun _ => q, .lit (.func (.func 31) #[] #[])]) (fun _ => []) 0 (fun H => .lit (.bool (H Bool fun _ => allC q.x q.y q.s shI))) (fun H => []) (fun _ => []) 300 (by simp) (fun x hx => ?_) (by simp [lk]) (by omega) (by simp) ?_
  · simp only [List.mem_cons, List.not_mem_nil, or_false] at hx
    rcases hx with rfl | rfl
    · exact aT_bl okRQ _ _
    · exact .lit
  intro X hX hX0 H hH
  conv in Fin.chk _ _ => cbv
  try simp only [Plain_rowsA, Plain_rowsB, Plain_rowsF, Plain_rowsG, Plain_rowsI, Plain_rowsQ, Plain_rowsS, Plain_rowsU, Fin.satC_ret, Fin.satC_br, Fin.satC_need, Fin.satC_again, AllP, and_true, true_and, upd, List.length_nil, List.length_cons, Nat.zero_add, if_true, ncast, Int.ofNat_eq_natCast]
  obtain ⟨⟨x1, x2⟩, ⟨y1, y2⟩, s1, s2⟩ := h0
  have wy : IntKind.i64.wrap (q.y + q.s) = q.y + q.s := wi (by omega) (by omega)
  have wx : IntKind.i64.wrap (q.x + q.s) = q.x + q.s := wi (by omega) (by omega)
  refine loop_c hB (draw_ok hB mixed) hX hX0 hH [1, 2, 5] (ι := { j : Nat // j ≤ q.s.toNat ∧ ∀ k, k < j → ((List.range q.s.toNat).all fun i => (shI) (q.x + (i : Nat)) (q.y + (k : Nat))) = true }) 300 (fun j => [.i (H Int fun _ => q.y + (j.1 : Nat))]) (fun j => q.s.toNat - j.1) (⟨0, by omega, by omega⟩) ?_ ?_
  · (conv in matchSt _ _ _ _ => cbv); simp only [AllG, AllP, and_true, hH, stdH, Nat.le_refl, ncast, Int.ofNat_eq_natCast, vrow_I, Arm.eta2, Fld.eta, Grp.eta]
    (repeat' (with_reducible refine And.intro ?_ ?_)) <;> (first | exact True.intro | exact RowsEq.self okI | omega | skip)
  · intro I hI j
    conv in Fin.chk _ _ => cbv
    try simp only [Plain_rowsA, Plain_rowsB, Plain_rowsF, Plain_rowsG, Plain_rowsI, Plain_rowsQ, Plain_rowsS, Plain_rowsU, Fin.satC_ret, Fin.satC_br, Fin.satC_need, Fin.satC_again, AllP, and_true, true_and, upd, List.length_nil, List.length_cons, Nat.zero_add, if_true, ncast, Int.ofNat_eq_natCast]
    obtain ⟨j, hj, ha⟩ := j
    refine ⟨fun h1 => ?_, fun h1 => ?_⟩
    · have h2 := h1
      simp only [hH, stdH, decide_eq_true_eq, wy] at h2
      refine loop_c hB (draw_ok hB mixed) hX hX0 hH [1, 2, 5, 6] (ι := { i : Nat // i ≤ q.s.toNat ∧ ∀ k, k < i → (shI) (q.x + (k : Nat)) (q.y + (j : Nat)) = true }) 300 (fun i => [.i (H Int fun _ => q.x + (i.1 : Nat))]) (fun i => q.s.toNat - i.1) (⟨0, by omega, by omega⟩) ?_ ?_
      · (conv in matchSt _ _ _ _ => cbv); simp only [AllG, AllP, and_true, hH, stdH, Nat.le_refl, ncast, Int.ofNat_eq_natCast, vrow_I, Arm.eta2, Fld.eta, Grp.eta]
        (repeat' (with_reducible refine And.intro ?_ ?_)) <;> (first | exact True.intro | exact RowsEq.self okI | omega | skip)
      · intro J hJ i
        conv in Fin.chk _ _ => cbv
        try simp only [Plain_rowsA, Plain_rowsB, Plain_rowsF, Plain_rowsG, Plain_rowsI, Plain_rowsQ, Plain_rowsS, Plain_rowsU, Fin.satC_ret, Fin.satC_br, Fin.satC_need, Fin.satC_again, AllP, and_true, true_and, upd, List.length_nil, List.length_cons, Nat.zero_add, if_true, ncast, Int.ofNat_eq_natCast]
        obtain ⟨i, hi, hb⟩ := i
        (repeat' (with_reducible first | refine And.intro ?_ ?_ | intro hh))
        all_goals try (simp only [hH, stdH, Tl_I]; first | exact trivial | exact Shp_I _ _ | exact trivial)
        · rename_i h3
          simp only [hH, stdH, decide_eq_true_eq, wx, Tl_I, Bool.not_eq_true'] at h3 hh ⊢
          exact all_no (k := j) (by omega) (all_no (k := i) (by omega) hh)
        · rename_i h3
          simp only [hH, stdH, decide_eq_true_eq, wx, Tl_I, Bool.not_eq_false'] at h3 hh
          refine ⟨⟨i + 1, by omega, fun k hk => ?_⟩, by simp only; omega, ?_⟩
          · rcases Nat.lt_succ_iff_lt_or_eq.1 hk with h | rfl
            · exact hb k h
            · exact hh
          · rw [hJ]
            (conv in matchSt _ _ _ _ => cbv); simp only [AllG, AllP, and_true, hH, stdH, Nat.le_refl, ncast, Int.ofNat_eq_natCast, vrow_I, Arm.eta2, Fld.eta, Grp.eta]
            rw [wi (by omega) (by omega)]
            (repeat' (with_reducible refine And.intro ?_ ?_)) <;> (first | exact True.intro | exact RowsEq.self okI | omega)
        · simp only [hH, stdH, decide_eq_false_iff_not, wx] at hh
          rw [if_neg (by decide)]
          refine ⟨⟨j + 1, by omega, fun k hk => ?_⟩, by simp only; omega, ?_⟩
          · rcases Nat.lt_succ_iff_lt_or_eq.1 hk with h | rfl
            · exact ha k h
            · exact all_yes fun i' hi' => hb i' (by omega)
          · rw [hI]
            (conv in matchSt _ _ _ _ => cbv); simp only [AllG, AllP, and_true, hH, stdH, Nat.le_refl, ncast, Int.ofNat_eq_natCast, vrow_I, Arm.eta2, Fld.eta, Grp.eta]
            rw [wi (by omega) (by omega)]
            (repeat' (with_reducible refine And.intro ?_ ?_)) <;> (first | exact True.intro | exact RowsEq.self okI | omega)
    · simp only [hH, stdH, decide_eq_false_iff_not, wy] at h1 ⊢
      exact all_yes fun k hk => ha k (by omega)
noncomputable def e_allIn : Entry := pureE 29 fun H a => match a with
  | [.agg [.lit (.int .i64 q0), .lit (.int .i64 q1), .lit (.int .i64 q2)], .lit (.func (.func 31) ⟨[]⟩ ⟨[]⟩)] => some (.lit (.bool (H Bool fun _ => allC (⟨q0, q1, q2⟩ : Box).x (⟨q0, q1, q2⟩ : Box).y (⟨q0, q1, q2⟩ : Box).s shI)), [H Prop fun _ => bxB (⟨q0, q1, q2⟩ : Box)])
  | _ => none
theorem eok_allIn : EntryOk Try.prog e_allIn := pureM_ok (by unfold isBody; kernel_rfl) (by
  intro a r ob e hob
  split at e
  · rename_i q0 q1 q2
    simp only [Option.some.injEq, Prod.mk.injEq] at e
    obtain ⟨rfl, rfl⟩ := e
    exact ConN.args (.cons .rfl (.cons .rfl .nil)) (c_allIn (⟨q0, q1, q2⟩ : Box) hob.1)
  · simp at e)
theorem c_allHas (q : Box) (holds0 : Rgn) (h0 : bxB q) (h1 : okRw holds0.rows) : ConN Try.prog 29 [aT rowQ stdH fun _ => q, .fn (.func 30) [aT rowZ stdH fun _ => holds0] []] [] 0 (.lit (.bool (stdH Bool fun _ => allC q.x q.y q.s (hasZ holds0.rows)))) [] [] := by
  have hB : Base Try.prog (tabΓ [e_hasR]) tab := base_of tabOk (ents_cons eok_hasR <| ents_nil)
  refine con_m (N := 34) hB (draw_ok hB mixed) Try.func29 rfl rfl (fun H => [aT rowQ H fun _ => q, .fn (.func 30) [aT rowZ H fun _ => holds0] []]) (fun _ => []) 0 (fun H => .lit (.bool (H Bool fun _ => allC q.x q.y q.s (hasZ holds0.rows)))) (fun H => []) (fun _ => []) 300 (by simp) (fun x hx => ?_) (by simp [lk]) (by omega) (by simp) ?_
  · simp only [List.mem_cons, List.not_mem_nil, or_false] at hx
    rcases hx with rfl | rfl
    · exact aT_bl okRQ _ _
    · exact (by
        refine .fn ?_ (fun c hc => by cases hc)
        intro c hc
        simp only [List.mem_cons, List.not_mem_nil, or_false] at hc
        rcases hc with rfl
        · exact aT_bl okRZ _ _)
  intro X hX hX0 H hH
  conv in Fin.chk _ _ => cbv
  try simp only [Plain_rowsA, Plain_rowsB, Plain_rowsF, Plain_rowsG, Plain_rowsI, Plain_rowsQ, Plain_rowsS, Plain_rowsU, Fin.satC_ret, Fin.satC_br, Fin.satC_need, Fin.satC_again, AllP, and_true, true_and, upd, List.length_nil, List.length_cons, Nat.zero_add, if_true, ncast, Int.ofNat_eq_natCast]
  have hob := h1
  obtain ⟨⟨x1, x2⟩, ⟨y1, y2⟩, s1, s2⟩ := h0
  have wy : IntKind.i64.wrap (q.y + q.s) = q.y + q.s := wi (by omega) (by omega)
  have wx : IntKind.i64.wrap (q.x + q.s) = q.x + q.s := wi (by omega) (by omega)
  refine loop_c hB (draw_ok hB mixed) hX hX0 hH [1, 2, 5] (ι := { j : Nat // j ≤ q.s.toNat ∧ ∀ k, k < j → ((List.range q.s.toNat).all fun i => ((hasZ holds0.rows)) (q.x + (i : Nat)) (q.y + (k : Nat))) = true }) 300 (fun j => [.i (H Int fun _ => q.y + (j.1 : Nat))]) (fun j => q.s.toNat - j.1) (⟨0, by omega, by omega⟩) ?_ ?_
  · (conv in matchSt _ _ _ _ => cbv); simp only [AllG, AllP, and_true, hH, stdH, Nat.le_refl, ncast, Int.ofNat_eq_natCast, vrow_I, Arm.eta2, Fld.eta, Grp.eta]
    (repeat' (with_reducible refine And.intro ?_ ?_)) <;> (first | exact True.intro | exact RowsEq.self okI | omega | skip)
  · intro I hI j
    conv in Fin.chk _ _ => cbv
    try simp only [Plain_rowsA, Plain_rowsB, Plain_rowsF, Plain_rowsG, Plain_rowsI, Plain_rowsQ, Plain_rowsS, Plain_rowsU, Fin.satC_ret, Fin.satC_br, Fin.satC_need, Fin.satC_again, AllP, and_true, true_and, upd, List.length_nil, List.length_cons, Nat.zero_add, if_true, ncast, Int.ofNat_eq_natCast]
    obtain ⟨j, hj, ha⟩ := j
    refine ⟨fun h1 => ?_, fun h1 => ?_⟩
    · have h2 := h1
      simp only [hH, stdH, decide_eq_true_eq, wy] at h2
      refine loop_c hB (draw_ok hB mixed) hX hX0 hH [1, 2, 5, 6] (ι := { i : Nat // i ≤ q.s.toNat ∧ ∀ k, k < i → ((hasZ holds0.rows)) (q.x + (k : Nat)) (q.y + (j : Nat)) = true }) 300 (fun i => [.i (H Int fun _ => q.x + (i.1 : Nat))]) (fun i => q.s.toNat - i.1) (⟨0, by omega, by omega⟩) ?_ ?_
      · (conv in matchSt _ _ _ _ => cbv); simp only [AllG, AllP, and_true, hH, stdH, Nat.le_refl, ncast, Int.ofNat_eq_natCast, vrow_I, Arm.eta2, Fld.eta, Grp.eta]
        (repeat' (with_reducible refine And.intro ?_ ?_)) <;> (first | exact True.intro | exact RowsEq.self okI | omega | skip)
      · intro J hJ i
        conv in Fin.chk _ _ => cbv
        try simp only [Plain_rowsA, Plain_rowsB, Plain_rowsF, Plain_rowsG, Plain_rowsI, Plain_rowsQ, Plain_rowsS, Plain_rowsU, Fin.satC_ret, Fin.satC_br, Fin.satC_need, Fin.satC_again, AllP, and_true, true_and, upd, List.length_nil, List.length_cons, Nat.zero_add, if_true, ncast, Int.ofNat_eq_natCast]
        obtain ⟨i, hi, hb⟩ := i
        (repeat' (with_reducible first | refine And.intro ?_ ?_ | intro hh))
        all_goals try (simp only [hH, stdH, Tl_I]; first | exact trivial | exact Shp_I _ _ | exact hob)
        · rename_i h3
          simp only [hH, stdH, decide_eq_true_eq, wx, Tl_I, Bool.not_eq_true'] at h3 hh ⊢
          exact all_no (k := j) (by omega) (all_no (k := i) (by omega) hh)
        · rename_i h3
          simp only [hH, stdH, decide_eq_true_eq, wx, Tl_I, Bool.not_eq_false'] at h3 hh
          refine ⟨⟨i + 1, by omega, fun k hk => ?_⟩, by simp only; omega, ?_⟩
          · rcases Nat.lt_succ_iff_lt_or_eq.1 hk with h | rfl
            · exact hb k h
            · exact hh
          · rw [hJ]
            (conv in matchSt _ _ _ _ => cbv); simp only [AllG, AllP, and_true, hH, stdH, Nat.le_refl, ncast, Int.ofNat_eq_natCast, vrow_I, Arm.eta2, Fld.eta, Grp.eta]
            rw [wi (by omega) (by omega)]
            (repeat' (with_reducible refine And.intro ?_ ?_)) <;> (first | exact True.intro | exact RowsEq.self okI | omega)
        · simp only [hH, stdH, decide_eq_false_iff_not, wx] at hh
          rw [if_neg (by decide)]
          refine ⟨⟨j + 1, by omega, fun k hk => ?_⟩, by simp only; omega, ?_⟩
          · rcases Nat.lt_succ_iff_lt_or_eq.1 hk with h | rfl
            · exact ha k h
            · exact all_yes fun i' hi' => hb i' (by omega)
          · rw [hI]
            (conv in matchSt _ _ _ _ => cbv); simp only [AllG, AllP, and_true, hH, stdH, Nat.le_refl, ncast, Int.ofNat_eq_natCast, vrow_I, Arm.eta2, Fld.eta, Grp.eta]
            rw [wi (by omega) (by omega)]
            (repeat' (with_reducible refine And.intro ?_ ?_)) <;> (first | exact True.intro | exact RowsEq.self okI | omega)
    · simp only [hH, stdH, decide_eq_false_iff_not, wy] at h1 ⊢
      exact all_yes fun k hk => ha k (by omega)
noncomputable def e_allHas : Entry := pureE 29 fun H a => match a with
  | [.agg [.lit (.int .i64 q0), .lit (.int .i64 q1), .lit (.int .i64 q2)], .fn (.func 30) [.agg [.vec 1 holds00n holds00f]] []] => some (.lit (.bool (H Bool fun _ => allC (⟨q0, q1, q2⟩ : Box).x (⟨q0, q1, q2⟩ : Box).y (⟨q0, q1, q2⟩ : Box).s (hasZ (⟨(Tl rowI holds00n holds00f)⟩ : Rgn).rows))), [H Prop fun _ => Shp rowI holds00n holds00f, H Prop fun _ => bxB (⟨q0, q1, q2⟩ : Box), H Prop fun _ => okRw (⟨(Tl rowI holds00n holds00f)⟩ : Rgn).rows])
  | _ => none
theorem eok_allHas : EntryOk Try.prog e_allHas := pureM_ok (by unfold isBody; kernel_rfl) (by
  intro a r ob e hob
  split at e
  · rename_i q0 q1 q2 holds00n holds00f
    simp only [Option.some.injEq, Prod.mk.injEq] at e
    obtain ⟨rfl, rfl⟩ := e
    exact ConN.args (.cons .rfl (.cons (.fn (.cons (.agg (.cons (.toT okI rfl hob.1) .nil)) .nil) .nil) .nil)) (c_allHas (⟨q0, q1, q2⟩ : Box) (⟨(Tl rowI holds00n holds00f)⟩ : Rgn) hob.2.1 hob.2.2.1)
  · simp at e)

end Go.Proofs.Ytpilblmncpeelaa.AM

