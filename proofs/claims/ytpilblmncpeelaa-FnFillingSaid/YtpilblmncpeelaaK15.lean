/- Lemmas and contracts (Rbq); conditions: none. -/
import Derived.Test.YtpilblmncpeelaaK04
import Derived.Test.YtpilblmncpeelaaK14
set_option linter.unusedVariables false
set_option linter.unusedSimpArgs false
set_option linter.unusedVariables false
set_option linter.unusedSimpArgs false
set_option maxRecDepth 100000
set_option maxHeartbeats 4000000
set_option cbv.maxSteps 3000000
namespace Go.Proofs.Ytpilblmncpeelaa.AM
/- A region filled by the reference; conditions: none. -/
theorem shI_in {x y : Int} (h : shI x y = true) : (0 ≤ x ∧ x ≤ 19) ∧ 0 ≤ y ∧ y ≤ 23 := by
  unfold shI at h
  simp only [Bool.and_eq_true, inB_iff] at h
  exact ⟨h.1, h.2.1⟩
theorem wh_key {L : List Int} {x y : Int} (h : okRw L) : (bif !shI x y then true else IntKind.i64.wrap ↑(BitVec.ofInt IntKind.i64.bits ((L.getD y.toNat 0).fdiv (2 ^ min (IntKind.u64.wrap x).toNat IntKind.i64.bits)) &&& BitVec.ofInt IntKind.i64.bits 1).toNat == 0) = !whZ L x y := by
  unfold whZ
  cases hs : shI x y
  · rfl
  · have q := shI_in hs
    rw [has_eq ⟨h.1, h.2 _ (by omega)⟩ (inB_iff.2 q.1) (inB_iff.2 q.2)]
    cases (L.getD y.toNat 0).toNat.testBit x.toNat <;> rfl
theorem c_whole (q : Box) (rows : List Int) (h0 : bxB q) (h1 : okRw rows) : ConN Try.prog 54 [aT rowQ stdH fun _ => q, .vec 1 (stdH Nat fun _ => (rows).length) (rowsI stdH fun _ => rows)] [] 0 (.lit (.bool (stdH Bool fun _ => allC q.x q.y q.s (whZ rows)))) [] [] := by
  have hB : Base Try.prog (tabΓ [e_l9In]) tabG := base_of tabOkG (ents_cons eok_l9In <| ents_nil)
  refine con_m (N := 44) hB (draw_ok hB mixed) Try.func54 rfl rfl (fun H => [aT rowQ H fun _ => q, .vec 1 (H Nat fun _ => (rows).length) (rowsI H fun _ => rows)]) (fun _ => []) 0 (fun H => .lit (.bool (H Bool fun _ => allC q.x q.y q.s (whZ rows)))) (fun H => []) (fun _ => []) 300 (by simp) (fun x hx => ?_) (by simp [lk]) (by omega) (by simp) ?_
  · simp only [List.mem_cons, List.not_mem_nil, or_false] at hx
    rcases hx with rfl | rfl
    · exact aT_bl okRQ _ _
    · exact vl_bl okI rows _
  intro X hX hX0 H hH
  conv in Fin.chk _ _ => cbv
  try simp only [Plain_rowsA, Plain_rowsB, Plain_rowsF, Plain_rowsG, Plain_rowsI, Plain_rowsQ, Plain_rowsS, Plain_rowsU, Fin.satC_ret, Fin.satC_br, Fin.satC_need, Fin.satC_again, AllP, and_true, true_and, upd, List.length_nil, List.length_cons, Nat.zero_add, if_true, ncast, Int.ofNat_eq_natCast]
  obtain ⟨⟨x1, x2⟩, ⟨y1, y2⟩, s1, s2⟩ := h0
  have wy : IntKind.i64.wrap (q.y + q.s) = q.y + q.s := wi (by omega) (by omega)
  have wx : IntKind.i64.wrap (q.x + q.s) = q.x + q.s := wi (by omega) (by omega)
  refine loop_c hB (draw_ok hB mixed) hX hX0 hH [0, 1, 2, 3, 4, 5] (ι := { j : Nat // j ≤ q.s.toNat ∧ ∀ k, k < j → ((List.range q.s.toNat).all fun i => whZ rows (q.x + (i : Nat)) (q.y + (k : Nat))) = true }) 300 (fun j => [.i (H Int fun _ => q.y + (j.1 : Nat))]) (fun j => q.s.toNat - j.1) (⟨0, by omega, by omega⟩) ?_ ?_
  · (conv in matchSt _ _ _ _ => cbv); simp only [AllG, AllP, and_true, hH, stdH, Nat.le_refl, ncast, Int.ofNat_eq_natCast, vrow_I, Arm.eta2, Fld.eta, Grp.eta]
    (repeat' (with_reducible refine And.intro ?_ ?_)) <;> (first | exact True.intro | exact RowsEq.self okI | omega)
  · intro I hI j
    conv in Fin.chk _ _ => cbv
    try simp only [Plain_rowsA, Plain_rowsB, Plain_rowsF, Plain_rowsG, Plain_rowsI, Plain_rowsQ, Plain_rowsS, Plain_rowsU, Fin.satC_ret, Fin.satC_br, Fin.satC_need, Fin.satC_again, AllP, and_true, true_and, upd, List.length_nil, List.length_cons, Nat.zero_add, if_true, ncast, Int.ofNat_eq_natCast]
    obtain ⟨j, hj, ha⟩ := j
    refine ⟨fun k1 => ?_, fun k1 => ?_⟩
    · have k2 := k1
      simp only [hH, stdH, decide_eq_true_eq, wy] at k2
      refine loop_c hB (draw_ok hB mixed) hX hX0 hH [0, 1, 2, 3, 4, 5, 6] (ι := { i : Nat // i ≤ q.s.toNat ∧ ∀ k, k < i → whZ rows (q.x + (k : Nat)) (q.y + (j : Nat)) = true }) 300 (fun i => [.i (H Int fun _ => q.x + (i.1 : Nat))]) (fun i => q.s.toNat - i.1) (⟨0, by omega, by omega⟩) ?_ ?_
      · (conv in matchSt _ _ _ _ => cbv); simp only [AllG, AllP, and_true, hH, stdH, Nat.le_refl, ncast, Int.ofNat_eq_natCast, vrow_I, Arm.eta2, Fld.eta, Grp.eta]
        (repeat' (with_reducible refine And.intro ?_ ?_)) <;> (first | exact True.intro | exact RowsEq.self okI | omega)
      · intro J hJ i
        conv in Fin.chk _ _ => cbv
        try simp only [Plain_rowsA, Plain_rowsB, Plain_rowsF, Plain_rowsG, Plain_rowsI, Plain_rowsQ, Plain_rowsS, Plain_rowsU, Fin.satC_ret, Fin.satC_br, Fin.satC_need, Fin.satC_again, AllP, and_true, true_and, upd, List.length_nil, List.length_cons, Nat.zero_add, if_true, ncast, Int.ofNat_eq_natCast]
        obtain ⟨i, hi, hb⟩ := i
        have key := wh_key (x := q.x + (i : Nat)) (y := q.y + (j : Nat)) h1
        have inn : shI (q.x + (i : Nat)) (q.y + (j : Nat)) = true → (0 ≤ q.x + (i : Nat) ∧ q.x + (i : Nat) ≤ 19) ∧ 0 ≤ q.y + (j : Nat) ∧ q.y + (j : Nat) ≤ 23 := shI_in
        have h24 := h1.1
        (repeat' (with_reducible first | refine And.intro ?_ ?_ | intro hh))
        · simp only [hH, stdH, Bool.not_eq_false']
          intro h5
          have := inn h5
          omega
        · simp only [hH, stdH, Bool.not_eq_false']
          intro h5
          have := inn h5
          obtain ⟨m, hm⟩ : ∃ m : Nat, q.x + (i : Nat) = m := ⟨(q.x + (i : Nat)).toNat, by omega⟩
          rw [hm, u64x (by omega)]
          omega
        · rename_i h3
          simp only [hH, stdH, decide_eq_true_eq, wx, key, Bool.not_eq_true'] at h3 hh ⊢
          exact all_no (k := j) (by omega) (all_no (k := i) (by omega) hh)
        · rename_i h3
          simp only [hH, stdH, decide_eq_true_eq, wx, key, Bool.not_eq_false'] at h3 hh
          refine ⟨⟨i + 1, by omega, fun k hk => ?_⟩, by simp only; omega, ?_⟩
          · rcases Nat.lt_succ_iff_lt_or_eq.1 hk with h | rfl
            · exact hb k h
            · exact hh
          · rw [hJ]
            (conv in matchSt _ _ _ _ => cbv); simp only [AllG, AllP, and_true, hH, stdH, Nat.le_refl, ncast, Int.ofNat_eq_natCast, vrow_I, Arm.eta2, Fld.eta, Grp.eta]
            rw [wi (by omega) (by omega)]
            (repeat' (with_reducible refine And.intro ?_ ?_)) <;> (first | exact True.intro | exact RowsEq.self okI | omega)
        · simp only [hH, stdH, decide_eq_false_iff_not, wx] at hh
          rw [if_neg (by decide)]
          refine ⟨⟨j + 1, by omega, fun k hk => ?_⟩, by simp only; omega, ?_⟩
          · rcases Nat.lt_succ_iff_lt_or_eq.1 hk with h | rfl
            · exact ha k h
            · exact all_yes fun i' hi' => hb i' (by omega)
          · rw [hI]
            (conv in matchSt _ _ _ _ => cbv); simp only [AllG, AllP, and_true, hH, stdH, Nat.le_refl, ncast, Int.ofNat_eq_natCast, vrow_I, Arm.eta2, Fld.eta, Grp.eta]
            rw [wi (by omega) (by omega)]
            (repeat' (with_reducible refine And.intro ?_ ?_)) <;> (first | exact True.intro | exact RowsEq.self okI | omega)
    · simp only [hH, stdH, decide_eq_false_iff_not, wy] at k1 ⊢
      exact all_yes fun k hk => ha k (by omega)
noncomputable def e_whole : Entry := pureE 54 fun H a => match a with
  | [.agg [.lit (.int .i64 q0), .lit (.int .i64 q1), .lit (.int .i64 q2)], .vec 1 rowsn rowsf] => some (.lit (.bool (H Bool fun _ => allC (⟨q0, q1, q2⟩ : Box).x (⟨q0, q1, q2⟩ : Box).y (⟨q0, q1, q2⟩ : Box).s (whZ (Tl rowI rowsn rowsf)))), [H Prop fun _ => Shp rowI rowsn rowsf, H Prop fun _ => bxB (⟨q0, q1, q2⟩ : Box), H Prop fun _ => okRw (Tl rowI rowsn rowsf)])
  | _ => none
theorem eok_whole : EntryOk Try.prog e_whole := pureM_ok (by unfold isBody; kernel_rfl) (by
  intro a r ob e hob
  split at e
  · rename_i q0 q1 q2 rowsn rowsf
    simp only [Option.some.injEq, Prod.mk.injEq] at e
    obtain ⟨rfl, rfl⟩ := e
    exact ConN.args (.cons .rfl (.cons (.toT okI rfl hob.1) .nil)) (c_whole (⟨q0, q1, q2⟩ : Box) (Tl rowI rowsn rowsf) hob.2.1 hob.2.2.1)
  · simp at e)
theorem c_ownZ (l : List Int) (h0 : l.length ≤ 100000) : ConN Try.prog 53 [.vec 1 (stdH Nat fun _ => (l).length) (rowsI stdH fun _ => l)] [] 0 (.slc 0 0 1 (stdH Nat fun _ => (l).length)) [.rows 1 (stdH Nat fun _ => (l).length) (rowsI stdH fun _ => l) 3] [] := by
  have hB : Base Try.prog (tabΓ []) tabO := base_of tabOkO (ents_nil)
  refine con_m (N := 6) hB (draw_ok hB mixed) Try.func53 rfl rfl (fun H => [.vec 1 (H Nat fun _ => (l).length) (rowsI H fun _ => l)]) (fun _ => []) 0 (fun H => .slc 0 0 1 (H Nat fun _ => (l).length)) (fun H => [.rows 1 (H Nat fun _ => (l).length) (rowsI H fun _ => l) 3]) (fun _ => []) 100 (by simp) (fun x hx => ?_) (by simp [lk]) (by omega) (by simp) ?_
  · simp only [List.mem_cons, List.not_mem_nil, or_false] at hx
    rcases hx with rfl
    · exact vl_bl okI l _
  intro X hX hX0 H hH
  conv in Fin.chk _ _ => cbv
  try simp only [Plain_rowsA, Plain_rowsB, Plain_rowsF, Plain_rowsG, Plain_rowsI, Plain_rowsQ, Plain_rowsS, Plain_rowsU, Fin.satC_ret, Fin.satC_br, Fin.satC_need, Fin.satC_again, AllP, and_true, true_and, upd, List.length_nil, List.length_cons, Nat.zero_add, if_true, ncast, Int.ofNat_eq_natCast]
  refine ⟨⟨?_, ?_⟩, ?_, ?_⟩
  · try simp only [hH, stdH, Nat.le_refl, decide_eq_true_eq, decide_eq_false_iff_not, Bool.not_eq_true', Bool.not_eq_false', peta, ncast, Int.ofNat_eq_natCast, beq_iff_eq, bne_iff_ne, beq_eq_false_iff_ne, bne_eq_false_iff_eq, ne_eq, Classical.not_not, Int.toNat_natCast, vrow_I, Arm.eta2, Fld.eta, Grp.eta]
  · try simp only [hH, stdH, Nat.le_refl, decide_eq_true_eq, decide_eq_false_iff_not, Bool.not_eq_true', Bool.not_eq_false', peta, ncast, Int.ofNat_eq_natCast, beq_iff_eq, bne_iff_ne, beq_eq_false_iff_ne, bne_eq_false_iff_eq, ne_eq, Classical.not_not, Int.toNat_natCast, vrow_I, Arm.eta2, Fld.eta, Grp.eta]
    omega
  · try simp only [hH, stdH, Nat.le_refl, decide_eq_true_eq, decide_eq_false_iff_not, Bool.not_eq_true', Bool.not_eq_false', peta, ncast, Int.ofNat_eq_natCast, beq_iff_eq, bne_iff_ne, beq_eq_false_iff_ne, bne_eq_false_iff_eq, ne_eq, Classical.not_not, Int.toNat_natCast, vrow_I, Arm.eta2, Fld.eta, Grp.eta]
    exact ⟨rfl, fun j hj => ⟨rfl, rfl, fun x hx => rows_blx okI _ j x hx⟩⟩
  · try simp only [hH, stdH, Nat.le_refl, decide_eq_true_eq, decide_eq_false_iff_not, Bool.not_eq_true', Bool.not_eq_false', peta, ncast, Int.ofNat_eq_natCast, beq_iff_eq, bne_iff_ne, beq_eq_false_iff_ne, bne_eq_false_iff_eq, ne_eq, Classical.not_not, Int.toNat_natCast, vrow_I, Arm.eta2, Fld.eta, Grp.eta]
noncomputable def e_ownZ : Entry := pureN 53 fun H a => match a with
  | [.vec 1 ln lf] => some (fun nx => .slc nx 0 1 (H Nat fun _ => ((Tl rowI ln lf)).length), [.rows 1 (H Nat fun _ => ((Tl rowI ln lf)).length) (rowsI H fun _ => (Tl rowI ln lf)) 3], [H Prop fun _ => Shp rowI ln lf, H Prop fun _ => (Tl rowI ln lf).length ≤ 100000])
  | _ => none
theorem eok_ownZ : EntryOk Try.prog e_ownZ := pureN_ok (by unfold isBody; kernel_rfl) (by
  intro a r nb ob e hob
  split at e
  · rename_i ln lf
    simp only [Option.some.injEq, Prod.mk.injEq] at e
    obtain ⟨rfl, rfl, rfl⟩ := e
    refine ⟨ConN.args (.cons (.toT okI rfl hob.1) .nil) (c_ownZ (Tl rowI ln lf) hob.2.1), fun x hx => ?_, fun nx => ?_, fun b hb => ?_⟩
    · simp only [List.mem_cons, List.not_mem_nil, or_false] at hx
      rcases hx with rfl
      · exact (hob.1).bl okI _
    · (first | exact .slc ⟨by omega, by simp⟩ (by omega) | (refine .tup rfl (fun c x y hx hy => ?_); rcases c with _ | _ | _ | c <;> simp at hx hy <;> (subst hx; subst hy; first | exact .slc ⟨by omega, by simp⟩ (by omega) | exact .pl .lit | exact .pl (blq_ok 4 rfl) | (refine .agg rfl (fun c x y hx hy => ?_); rcases c with _ | _ | _ | c <;> simp at hx hy <;> (subst hx; subst hy; first | exact .slc ⟨by omega, by simp⟩ (by omega) | exact .pl .lit | exact .pl (blq_ok 4 rfl))))) | (refine .agg rfl (fun c x y hx hy => ?_); rcases c with _ | _ | _ | c <;> simp at hx hy <;> (subst hx; subst hy; first | exact .slc ⟨by omega, by simp⟩ (by omega) | exact .pl .lit | exact .pl (blq_ok 4 rfl))))
    · simp only [List.mem_cons, List.not_mem_nil, or_false] at hb; subst hb; exact bT_bl okI _ (fun _ => (Tl rowI ln lf)) _
  · simp at e)
theorem maskI {s x : Nat} (hs : s ≤ 8) (hx : x ≤ 20) : IntKind.i64.wrap (IntKind.i64.wrap (IntKind.i64.wrap (1 * 2 ^ min (IntKind.u64.wrap (s : Int)).toNat IntKind.i64.bits) - 1) * 2 ^ min (IntKind.u64.wrap (x : Int)).toNat IntKind.i64.bits) = (((2 ^ s - 1) * 2 ^ x : Nat) : Int) := by
  have p1 : 1 ≤ 2 ^ s := Nat.one_le_two_pow
  have p2 : 2 ^ s ≤ 256 := Nat.le_trans (Nat.pow_le_pow_right (by decide) hs) (by decide)
  have h1 : IntKind.i64.wrap (1 * 2 ^ min (IntKind.u64.wrap (s : Int)).toNat IntKind.i64.bits) = ((1 * 2 ^ s : Nat) : Int) := by
    rw [u64x (by omega)]
    exact shlI (n := 1) (by omega) (by decide)
  have h2 : IntKind.i64.wrap (((1 * 2 ^ s : Nat) : Int) - 1) = ((2 ^ s - 1 : Nat) : Int) := by
    rw [Nat.one_mul, wi (by omega) (by omega)]
    omega
  rw [h1, h2, u64x (by omega)]
  exact shlI (n := 2 ^ s - 1) (by omega) (Nat.lt_of_le_of_lt (show 2 ^ s - 1 ≤ 256 by omega) (by decide))
theorem RowsEq.right {k n n' : Nat} {f f' : Nat → List AV} (h : RowsEq k n f n' f') : RowsEq k n' f' n' f' := ⟨rfl, fun j hj => by
  have := h.2 j (by rw [h.1]; exact hj)
  exact ⟨rfl, by rw [← this.1]; exact this.2.1, by rw [← this.1]; exact this.2.2⟩⟩
theorem c_fillZ (r : Rgn) (size : Int) (most : Int) (h0 : okRw r.rows) (h1 : subB r.rows) (h2 : 1 ≤ size ∧ size ≤ 8) (h3 : 0 ≤ most ∧ most ≤ 100) : ConN Try.prog 28 [aT rowZ stdH fun _ => r, .lit (.int .i64 size), .lit (.int .i64 most)] [] 0 (.vec 3 (stdH Nat fun _ => (fillP r.rows size most).length) (rowsQ stdH fun _ => fillP r.rows size most)) [] [] := by
  have hB : Base Try.prog (tabΓ [e_ownZ, e_whole]) tabO := base_of tabOkO (ents_cons eok_ownZ <| ents_cons eok_whole <| ents_nil)
  refine con_m (N := 71) hB (draw_ok hB mixed) Try.func28 rfl rfl (fun H => [aT rowZ H fun _ => r, .lit (.int .i64 size), .lit (.int .i64 most)]) (fun _ => []) 0 (fun H => .vec 3 (H Nat fun _ => (fillP r.rows size most).length) (rowsQ H fun _ => fillP r.rows size most)) (fun H => []) (fun _ => []) 900 (by simp) (fun x hx => ?_) (by simp [lk]) (by omega) (by simp) ?_
  · simp only [List.mem_cons, List.not_mem_nil, or_false] at hx
    rcases hx with rfl | rfl | rfl
    · exact aT_bl okRZ _ _
    · exact .lit
    · exact .lit
  intro X hX hX0 H hH
  conv in Fin.chk _ _ => cbv
  try simp only [Plain_rowsA, Plain_rowsB, Plain_rowsF, Plain_rowsG, Plain_rowsI, Plain_rowsQ, Plain_rowsS, Plain_rowsU, Fin.satC_ret, Fin.satC_br, Fin.satC_need, Fin.satC_again, AllP, and_true, true_and, upd, List.length_nil, List.length_cons, Nat.zero_add, if_true, ncast, Int.ofNat_eq_natCast]
  have hl := h0.1
  refine ⟨?_, ?_⟩
  · simp only [hH, stdH, Tl_I]
    exact ⟨Shp_I _ _, by omega⟩
  simp only [TlI_HR hH]
  refine loop_c hB (draw_ok hB mixed) hX hX0 hH [1, 2, 7, 8, 9] (ι := { p : Nat × List Int // p.1 ≤ 24 ∧ eqB p.2 (fiK size most r.rows p.1).2 }) 900 (fun p => [.r (H Nat fun _ => ((fiK size most r.rows p.1.1).1).length) (rowsQ H fun _ => (fiK size most r.rows p.1.1).1), .r (H Nat fun _ => (p.1.2).length) (rowsI H fun _ => p.1.2), .i (H Int fun _ => (p.1.1 : Nat))]) (fun p => 24 - p.1.1) (⟨(0, r.rows), by omega, eqB.refl h0⟩) ?_ ?_
  · (conv in matchSt _ _ _ _ => cbv); simp only [AllG, AllP, and_true, hH, stdH, Nat.le_refl, ncast, Int.ofNat_eq_natCast, vrow_I, Arm.eta2, Fld.eta, Grp.eta]
    (repeat' (with_reducible refine And.intro ?_ ?_)) <;> (first | exact True.intro | exact RowsEq.self okI | exact RowsEq.ofT okRQ rfl (Shp_zero _) rfl | exact Eq.refl _)
  · intro I hI p
    conv in Fin.chk _ _ => cbv
    try simp only [Plain_rowsA, Plain_rowsB, Plain_rowsF, Plain_rowsG, Plain_rowsI, Plain_rowsQ, Plain_rowsS, Plain_rowsU, Fin.satC_ret, Fin.satC_br, Fin.satC_need, Fin.satC_again, AllP, and_true, true_and, upd, List.length_nil, List.length_cons, Nat.zero_add, if_true, ncast, Int.ofNat_eq_natCast]
    obtain ⟨⟨y, L⟩, hy, he⟩ := p
    simp only at hy he ⊢
    have ok1 := fiK_ok (s := size) (most := most) h0 y
    have le1 := fiK_le (s := size) (L := r.rows) h3.1 y
    have sub1 := fiK_sub (most := most) h2.1 h0 h1 y
    have wys : IntKind.i64.wrap ((y : Int) + size) = (y : Int) + size := wi (by omega) (by omega)
    refine ⟨fun k1 => ?_, fun k1 => ?_⟩
    · have k2 := k1
      simp only [hH, stdH, decide_eq_true_eq, wys] at k2
      refine loop_c hB (draw_ok hB mixed) hX hX0 hH [1, 2, 7, 8, 9, 10] (ι := { p : Nat × List Int // p.1 ≤ 20 ∧ eqB p.2 (rwK size most (fiK size most r.rows y) y p.1).2 }) 900 (fun p => [.r (H Nat fun _ => ((rwK size most (fiK size most r.rows y) y p.1.1).1).length) (rowsQ H fun _ => (rwK size most (fiK size most r.rows y) y p.1.1).1), .r (H Nat fun _ => (p.1.2).length) (rowsI H fun _ => p.1.2), .i (H Int fun _ => (p.1.1 : Nat))]) (fun p => 20 - p.1.1) (⟨(0, L), by omega, he⟩) ?_ ?_
      · (conv in matchSt _ _ _ _ => cbv); simp only [AllG, AllP, and_true, hH, stdH, Nat.le_refl, ncast, Int.ofNat_eq_natCast, vrow_I, Arm.eta2, Fld.eta, Grp.eta]
        (repeat' (with_reducible refine And.intro ?_ ?_)) <;> (first | exact True.intro | exact RowsEq.self okI | exact RowsEq.self okRQ | exact Eq.refl _)
      · intro J hJ p
        conv in Fin.chk _ _ => cbv
        try simp only [Plain_rowsA, Plain_rowsB, Plain_rowsF, Plain_rowsG, Plain_rowsI, Plain_rowsQ, Plain_rowsS, Plain_rowsU, Fin.satC_ret, Fin.satC_br, Fin.satC_need, Fin.satC_again, AllP, and_true, true_and, upd, List.length_nil, List.length_cons, Nat.zero_add, if_true, ncast, Int.ofNat_eq_natCast]
        obtain ⟨⟨x, M⟩, hx, hm⟩ := p
        simp only at hx hm ⊢
        have ok2 := rwK_ok (s := size) (most := most) (y := y) ok1 x
        have le2 := rwK_le (s := size) (y := y) le1 x
        have sub2 := rwK_sub (most := most) (y := y) h2.1 ok1 sub1 x
        have st : rwK size most (fiK size most r.rows y) y (x + 1) = stP size most (rwK size most (fiK size most r.rows y) y x) y x := rfl
        have wxs : IntKind.i64.wrap ((x : Int) + size) = (x : Int) + size := wi (by omega) (by omega)
        have ea := allC_eq (wh_has hm sub2) (x : Int) (y : Int) size
        have hML : M.length = r.rows.length := by rw [hm.l.1, hl]
        have tl : Tl rowI (H Nat fun _ => r.rows.length) (rowsI H fun _ => M) = M := by rw [← hML]; exact TlI_HR hH M
        have shp : Shp rowI r.rows.length (rowsI stdH fun _ => M) := by rw [← hML]; exact Shp_I _ _
        have hbx : bxB ⟨(x : Int), (y : Int), size⟩ := by
          unfold bxB
          simp only
          omega
        simp only [tl]
        have cnd : (bif decide ((x : Int) + size ≤ 20) then decide (((rwK size most (fiK size most r.rows y) y x).1.length : Int) < most) else false) = true ↔ (x : Int) + size ≤ 20 ∧ ((rwK size most (fiK size most r.rows y) y x).1.length : Int) < most := by
          by_cases c1 : (x : Int) + size ≤ 20 <;> by_cases c2 : ((rwK size most (fiK size most r.rows y) y x).1.length : Int) < most <;> simp [c1, c2]
        (repeat' (with_reducible first | refine And.intro ?_ ?_ | intro hh))
        all_goals try (rw [hH]; exact trivial)
        all_goals try (simp only [hH, stdH]; first | exact trivial | exact shp | exact hbx | exact hm.l | exact fun _ _ => rfl | exact hML | exact ⟨hML, fun _ _ => rfl⟩ | exact ⟨shp, hbx, hm.l⟩ | (refine ⟨?_, ?_⟩ <;> omega))
        · rename_i k3
          simp only [hH, stdH, wxs, cnd, ea, Bool.not_eq_true'] at k3 hh
          have e : rwK size most (fiK size most r.rows y) y (x + 1) = rwK size most (fiK size most r.rows y) y x := by
            rw [st]
            exact stP_no hh
          refine ⟨⟨(x + 1, M), by simp only; omega, by simp only; rw [e]; exact hm⟩, by simp only; omega, ?_⟩
          rw [hJ]
          (conv in matchSt _ _ _ _ => cbv); simp only [AllG, AllP, and_true, hH, stdH, Nat.le_refl, ncast, Int.ofNat_eq_natCast, vrow_I, Arm.eta2, Fld.eta, Grp.eta]
          rw [e, w1 (by omega)]
          (repeat' (with_reducible refine And.intro ?_ ?_)) <;> (first | exact True.intro | exact RowsEq.self okI | exact RowsEq.self okRQ | exact Eq.refl _)
        · rename_i k3
          simp only [hH, stdH, wxs, cnd, ea, Bool.not_eq_false'] at k3 hh
          have e : rwK size most (fiK size most r.rows y) y (x + 1) = ((rwK size most (fiK size most r.rows y) y x).1 ++ [⟨(x : Int), (y : Int), size⟩], clrN (rwK size most (fiK size most r.rows y) y x).2 x y size.toNat size.toNat) := by
            rw [st]
            unfold stP
            rw [if_neg (by omega), if_pos hh]
          obtain ⟨s, rfl⟩ : ∃ s : Nat, size = s := ⟨size.toNat, by omega⟩
          refine loop_c hB (draw_ok hB mixed) hX hX0 hH [1, 2, 7, 8, 9, 10, 12] (ι := { j : Nat // j ≤ s }) 900 (fun j => [.r (H Nat fun _ => (clrM M x y s j.1).length) (rowsI H fun _ => clrM M x y s j.1), .i (H Int fun _ => ((y + j.1 : Nat) : Int))]) (fun j => s - j.1) (⟨0, by omega⟩) ?_ ?_
          · (conv in matchSt _ _ _ _ => cbv); simp only [AllG, AllP, and_true, hH, stdH, Nat.le_refl, ncast, Int.ofNat_eq_natCast, vrow_I, Arm.eta2, Fld.eta, Grp.eta]
            (repeat' (with_reducible refine And.intro ?_ ?_)) <;> (first | exact True.intro | exact RowsEq.self okI | exact (RowsEq.snoc okRQ (L := (rwK s most (fiK s most r.rows y) y x).1) (x := ⟨(x : Int), (y : Int), (s : Int)⟩) rfl).right | exact Eq.refl _)
          · intro K hK j
            conv in Fin.chk _ _ => cbv
            try simp only [Plain_rowsA, Plain_rowsB, Plain_rowsF, Plain_rowsG, Plain_rowsI, Plain_rowsQ, Plain_rowsS, Plain_rowsU, Fin.satC_ret, Fin.satC_br, Fin.satC_need, Fin.satC_again, AllP, and_true, true_and, upd, List.length_nil, List.length_cons, Nat.zero_add, if_true, ncast, Int.ofNat_eq_natCast]
            obtain ⟨j, hj⟩ := j
            have jl := clrM_len M x y s j
            have jok := clrM_ok (x := x) (y := y) (s := s) hm.l j
            have wys2 : IntKind.i64.wrap ((y : Int) + (s : Int)) = (y : Int) + (s : Int) := wi (by omega) (by omega)
            (repeat' (with_reducible first | refine And.intro ?_ ?_ | intro hh))
            all_goals try (clear hK hJ hI hX hX0 hB K J I X; subst hH; simp only [stdH, Int.toNat_natCast, decide_eq_true_eq, wys2] at *; first | exact trivial | omega | exact ⟨by omega, rfl⟩ | (rw [u64x (by omega)]; omega) | (refine ⟨?_, ?_⟩ <;> omega))
            · simp only [hH, stdH, decide_eq_true_eq, wys2] at hh
              refine ⟨⟨j + 1, by omega⟩, by simp only; omega, ?_⟩
              rw [hK]
              (conv in matchSt _ _ _ _ => cbv); simp only [AllG, AllP, and_true, hH, stdH, Nat.le_refl, ncast, Int.ofNat_eq_natCast, vrow_I, Arm.eta2, Fld.eta, Grp.eta]
              have ev : IntKind.i64.wrap ↑(BitVec.ofInt IntKind.i64.bits ((clrM M x y s j).getD (y + j) 0) &&& ~~~BitVec.ofInt IntKind.i64.bits (IntKind.i64.wrap (IntKind.i64.wrap (IntKind.i64.wrap (1 * 2 ^ min (IntKind.u64.wrap (s : Int)).toNat IntKind.i64.bits) - 1) * 2 ^ min (IntKind.u64.wrap (x : Int)).toNat IntKind.i64.bits))).toNat = ((noB ((clrM M x y s j).getD (y + j) 0).toNat ((2 ^ s - 1) * 2 ^ x) : Nat) : Int) := by
                have hr := jok.2 (y + j) (by omega)
                obtain ⟨n, hn⟩ : ∃ n : Nat, (clrM M x y s j).getD (y + j) 0 = n := ⟨((clrM M x y s j).getD (y + j) 0).toNat, by omega⟩
                rw [maskI (by omega) (by omega), hn, Int.toNat_natCast]
                exact noI (Nat.lt_of_le_of_lt (show n ≤ 1048576 by omega) (by decide))
              rw [Int.toNat_natCast, ev]
              have rp := RowsEq.putD okI (L := clrM M x y s j) (j := y + j) (x := ((noB ((clrM M x y s j).getD (y + j) 0).toNat ((2 ^ s - 1) * 2 ^ x) : Nat) : Int)) (M := clrM M x y s (j + 1)) rfl
              rw [show IntKind.i64.wrap (((y + j : Nat) : Int) + 1) = ((y + (j + 1) : Nat) : Int) by rw [wi] <;> omega]
              (repeat' (with_reducible refine And.intro ?_ ?_)) <;> (first | exact True.intro | exact rp | exact (RowsEq.snoc okRQ (L := (rwK s most (fiK s most r.rows y) y x).1) (x := ⟨(x : Int), (y : Int), (s : Int)⟩) rfl).right | exact Eq.refl _)
            · simp only [hH, stdH, decide_eq_false_iff_not, wys2] at hh
              rw [if_neg (by decide)]
              obtain rfl : j = s := by omega
              rw [Int.toNat_natCast] at e
              refine ⟨⟨(x + 1, clrM M x y j j), by simp only; omega, by simp only; rw [e]; exact clr_eq hm (by omega) (by omega)⟩, by simp only; omega, ?_⟩
              rw [hJ]
              (conv in matchSt _ _ _ _ => cbv); simp only [AllG, AllP, and_true, hH, stdH, Nat.le_refl, ncast, Int.ofNat_eq_natCast, vrow_I, Arm.eta2, Fld.eta, Grp.eta]
              rw [e, w1 (by omega)]
              (repeat' (with_reducible refine And.intro ?_ ?_)) <;> (first | exact True.intro | exact RowsEq.self okI | exact RowsEq.snoc okRQ rfl | exact List.length_append | exact Eq.refl _)
        · simp only [hH, stdH, wxs] at hh
          have hn : ¬ ((x : Int) + size ≤ 20 ∧ ((rwK size most (fiK size most r.rows y) y x).1.length : Int) < most) := fun q => by
            rw [cnd.2 q] at hh; cases hh
          rw [if_neg (by decide)]
          have e := rwK_tail (most := most) (σ := fiK size most r.rows y) (y := y) (x := x) h2.1 (by omega) (20 - x)
          rw [show x + (20 - x) = 20 by omega] at e
          have e2 : fiK size most r.rows (y + 1) = rwK size most (fiK size most r.rows y) y x := e
          refine ⟨⟨(y + 1, M), by simp only; omega, by simp only; rw [e2]; exact hm⟩, by simp only; omega, ?_⟩
          rw [hI]
          (conv in matchSt _ _ _ _ => cbv); simp only [AllG, AllP, and_true, hH, stdH, Nat.le_refl, ncast, Int.ofNat_eq_natCast, vrow_I, Arm.eta2, Fld.eta, Grp.eta]
          rw [e2, w1 (by omega)]
          (repeat' (with_reducible refine And.intro ?_ ?_)) <;> (first | exact True.intro | exact RowsEq.self okI | exact RowsEq.self okRQ | exact Eq.refl _)
    · simp only [hH, stdH, decide_eq_false_iff_not, wys] at k1 ⊢
      have e := fiK_tail (most := most) (L := r.rows) (y := y) h2.1 (by omega) (24 - y)
      rw [show y + (24 - y) = 24 by omega] at e
      unfold fillP
      rw [e]
      exact ⟨Nat.le_refl _, RowsEq.self okRQ⟩
noncomputable def e_fillZ : Entry := pureE 28 fun H a => match a with
  | [.agg [.vec 1 r0n r0f], .lit (.int .i64 size), .lit (.int .i64 most)] => some (.vec 3 (H Nat fun _ => (fillP (⟨(Tl rowI r0n r0f)⟩ : Rgn).rows size most).length) (rowsQ H fun _ => fillP (⟨(Tl rowI r0n r0f)⟩ : Rgn).rows size most), [H Prop fun _ => Shp rowI r0n r0f, H Prop fun _ => okRw (⟨(Tl rowI r0n r0f)⟩ : Rgn).rows, H Prop fun _ => subB (⟨(Tl rowI r0n r0f)⟩ : Rgn).rows, H Prop fun _ => 1 ≤ size ∧ size ≤ 8, H Prop fun _ => 0 ≤ most ∧ most ≤ 100])
  | _ => none
theorem eok_fillZ : EntryOk Try.prog e_fillZ := pureM_ok (by unfold isBody; kernel_rfl) (by
  intro a r ob e hob
  split at e
  · rename_i r0n r0f size most
    simp only [Option.some.injEq, Prod.mk.injEq] at e
    obtain ⟨rfl, rfl⟩ := e
    exact ConN.args (.cons (.agg (.cons (.toT okI rfl hob.1) .nil)) (.cons .rfl (.cons .rfl .nil))) (c_fillZ (⟨(Tl rowI r0n r0f)⟩ : Rgn) size most hob.2.1 hob.2.2.1 hob.2.2.2.1 hob.2.2.2.2.1)
  · simp at e)

end Go.Proofs.Ytpilblmncpeelaa.AM

