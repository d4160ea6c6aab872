/- Lemmas and contracts (Fgl); conditions: none. -/
import Derived.Test.YtigkdbhcjjjjkaaK04
import Derived.Test.YtigkdbhcjjjjkaaK15
import Derived.Test.YtigkdbhcjjjjkaaK16
import Derived.Test.YtigkdbhcjjjjkaaK17
set_option linter.unusedVariables false
set_option linter.unusedSimpArgs false
set_option linter.unusedVariables false
set_option linter.unusedSimpArgs false
set_option maxRecDepth 100000
set_option maxHeartbeats 4000000
set_option cbv.maxSteps 3000000
namespace Go.Proofs.Ytigkdbhcjjjjkaa.AM
/- Slices of own slices of numbers: compared, marked, held; conditions: none. -/
theorem cells_bl {m E : Nat} {l : List AV} (h : ∀ x ∈ l, Bl m x) : BlB m (.cells l E) := fun p x hx => h x (List.mem_of_getElem? hx)
theorem Tl_mk (n : Nat) (k : Int) : Tl rowI n (rowsI stdH fun _ => mkN n k) = mkN n k := by
  have := Tl_I (mkN n k); rwa [mkN_len] at this
theorem Shp_i (n : Nat) (L : List Int) : Shp rowI n (rowsI stdH fun _ => L) := Shp_rowsT okI n fun _ => L
theorem RowsEq.mkR (n : Nat) (k : Int) : RowsEq 1 n (rowsI stdH fun _ => mkN n k) n (rowsI stdH fun _ => mkN n k) := by
  have := RowsEq.self okI (L := mkN n k)
  rwa [mkN_len] at this
theorem c_fillSO (l : List Arm) (h0 : l.length ≤ 2000000) : ConN Try.prog 16 [.slc 0 0 15 (stdH Nat fun _ => l.length)] [(0, .rows 15 (stdH Nat fun _ => l.length) (rowsA stdH fun _ => l) 43)] 1 (.tup [.vec 1 (stdH Nat fun _ => (if okQ l then gridQ l.length else []).length) (rowsL rowsI 1 stdH fun _ => if okQ l then gridQ l.length else []), .lit (.bool (stdH Bool fun _ => okQ l))]) [] [(0, .rows 15 (stdH Nat fun _ => l.length) (rowsA stdH fun _ => l) 43)] := by
  have hB : Base Try.prog (tabΓ [e_l21Good, e_grid21]) tabO := base_of tabOkO (ents_cons eok_l21Good <| ents_cons eok_grid21 <| ents_nil)
  refine con_mN 31 (N := 48) hB (draw_ok hB mixed) Try.func16 rfl rfl (fun H => [.slc 0 0 15 (H Nat fun _ => l.length)]) (fun H => [(0, .rows 15 (H Nat fun _ => l.length) (rowsA H fun _ => l) 43)]) 1 (fun H => .tup [.vec 1 (H Nat fun _ => (if okQ l then gridQ l.length else []).length) (rowsL rowsI 1 H fun _ => if okQ l then gridQ l.length else []), .lit (.bool (H Bool fun _ => okQ l))]) (fun H => []) (fun H => [(0, .rows 15 (H Nat fun _ => l.length) (rowsA H fun _ => l) 43)]) 300 (by simp) (fun x hx => ?_) (fun i b hi => ?_) (fun i hi => ?_) (fun i b hi => ?_) ?_
  · simp only [List.mem_cons, List.not_mem_nil, or_false] at hx
    rcases hx with rfl
    exact .slc (by omega)
  · have := lk_in hi
    simp only [List.mem_cons, List.not_mem_nil, or_false, Prod.mk.injEq] at this
    obtain ⟨rfl, rfl⟩ := this
    exact ⟨by omega, bT_bl okRA _ (fun _ => l) _, _, List.mem_cons_self⟩
  · obtain rfl : i = 0 := by omega
    exact ⟨_, rfl⟩
  · simp only [List.mem_cons, List.not_mem_nil, or_false, Prod.mk.injEq] at hi
    obtain ⟨rfl, rfl⟩ := hi
    exact ⟨_, rfl⟩
  intro X hX hX0 H hH
  conv in Fin.chk _ _ => cbv
  try simp only [Plain_rowsA, Plain_rowsB, Plain_rowsF, Plain_rowsG, Plain_rowsI, Plain_rowsS, Plain_rowsU, Fin.satC_ret, Fin.satC_br, Fin.satC_need, Fin.satC_again, AllP, and_true, true_and, upd, List.length_nil, List.length_cons, Nat.zero_add, if_true, ncast, Int.ofNat_eq_natCast]
  refine ⟨⟨?_, ?_, ?_⟩, fun h => ?_, fun h => ⟨?_, ?_⟩⟩
  · try simp only [hH, stdH, Nat.le_refl, decide_eq_true_eq, decide_eq_false_iff_not, Bool.not_eq_true', Bool.not_eq_false', peta, ncast, Int.ofNat_eq_natCast, beq_iff_eq, bne_iff_ne, beq_eq_false_iff_ne, bne_eq_false_iff_eq, ne_eq, Classical.not_not, Int.toNat_natCast, vrow_I, Arm.eta2, Fld.eta, Grp.eta]
    exact fun _ _ => rfl
  · try simp only [hH, stdH, Nat.le_refl, decide_eq_true_eq, decide_eq_false_iff_not, Bool.not_eq_true', Bool.not_eq_false', peta, ncast, Int.ofNat_eq_natCast, beq_iff_eq, bne_iff_ne, beq_eq_false_iff_ne, bne_eq_false_iff_eq, ne_eq, Classical.not_not, Int.toNat_natCast, vrow_I, Arm.eta2, Fld.eta, Grp.eta]
    exact Shp_A _ _
  · try simp only [hH, stdH, Nat.le_refl, decide_eq_true_eq, decide_eq_false_iff_not, Bool.not_eq_true', Bool.not_eq_false', peta, ncast, Int.ofNat_eq_natCast, beq_iff_eq, bne_iff_ne, beq_eq_false_iff_ne, bne_eq_false_iff_eq, ne_eq, Classical.not_not, Int.toNat_natCast, vrow_I, Arm.eta2, Fld.eta, Grp.eta]
    simp only [Tl_A]; omega
  · have hn : okQ l = false := by
      simp only [hH, stdH, Tl_A] at h
      simpa using h
    simp only [hn, Bool.false_eq_true, if_false]
    try simp only [hH, stdH, Nat.le_refl, decide_eq_true_eq, decide_eq_false_iff_not, Bool.not_eq_true', Bool.not_eq_false', peta, ncast, Int.ofNat_eq_natCast, beq_iff_eq, bne_iff_ne, beq_eq_false_iff_ne, bne_eq_false_iff_eq, ne_eq, Classical.not_not, Int.toNat_natCast, vrow_I, Arm.eta2, Fld.eta, Grp.eta]
    (repeat' (with_reducible refine And.intro ?_ ?_)) <;> (first | exact True.intro | exact Eq.refl _ | exact (RowsEq.ofT (okL okI) rfl (Shp_zero _) rfl).fz | exact RowsEq.self okRA)
  · have hy : okQ l = true := by
      simp only [hH, stdH, Tl_A] at h
      simpa using h
    have := okQ_len hy
    try simp only [hH, stdH, Nat.le_refl, decide_eq_true_eq, decide_eq_false_iff_not, Bool.not_eq_true', Bool.not_eq_false', peta, ncast, Int.ofNat_eq_natCast, beq_iff_eq, bne_iff_ne, beq_eq_false_iff_ne, bne_eq_false_iff_eq, ne_eq, Classical.not_not, Int.toNat_natCast, vrow_I, Arm.eta2, Fld.eta, Grp.eta]
    exact ⟨by omega, by omega⟩
  · have hy : okQ l = true := by
      simp only [hH, stdH, Tl_A] at h
      simpa using h
    obtain ⟨l1, l2⟩ := okQ_len hy
    obtain ⟨q1, q2, q3, q4, q5⟩ := gr_ok l.length (by omega) l1
    simp only [hy, if_true]
    refine loop_aN hB (draw_ok hB mixed) hX hX0 hH false 31 (ι := { i : Nat // i ≤ (gr l.length).1 }) 300 (fun i => [.r (H Nat fun _ => (gridK l.length i.1).length) (rowsL rowsI 1 H fun _ => gridK l.length i.1), .i (H Int fun _ => (i.1 : Nat))]) (fun i => (gr l.length).1 - i.1) (⟨0, by omega⟩) ?_ ?_
    · (conv in matchStN _ _ _ _ _ => cbv); simp only [AllG, AllP, and_true, hH, stdH, Nat.le_refl, ncast, Int.ofNat_eq_natCast, vrow_I, Arm.eta2, Fld.eta, Grp.eta]
      (repeat' (with_reducible refine And.intro ?_ ?_)) <;> (first | exact True.intro | exact Eq.refl _ | exact (RowsEq.ofT (okL okI) rfl (Shp_zero _) rfl).fz | exact RowsEq.self okRA)
    · intro I hI i
      conv in Fin.chk _ _ => cbv
      try simp only [Plain_rowsA, Plain_rowsB, Plain_rowsF, Plain_rowsG, Plain_rowsI, Plain_rowsS, Plain_rowsU, Fin.satC_ret, Fin.satC_br, Fin.satC_need, Fin.satC_again, AllP, and_true, true_and, upd, List.length_nil, List.length_cons, Nat.zero_add, if_true, ncast, Int.ofNat_eq_natCast]
      obtain ⟨i, hi⟩ := i
      simp only [hlen hH, Int.toNat_natCast]
      refine ⟨fun h1 => ?_, fun h1 => ?_⟩
      · simp only [hH, stdH, Nat.le_refl, decide_eq_true_eq, decide_eq_false_iff_not, Bool.not_eq_true', Bool.not_eq_false', peta, ncast, Int.ofNat_eq_natCast, beq_iff_eq, bne_iff_ne, beq_eq_false_iff_ne, bne_eq_false_iff_eq, ne_eq, Classical.not_not, Int.toNat_natCast, vrow_I, Arm.eta2, Fld.eta, Grp.eta] at h1
        have h1 : i < (gr l.length).1 := by omega
        refine loop_cN hB (draw_ok hB mixed) hX hX0 hH [0, 2, 3, 4, 5, 6, 7, 8, 9] 31 (ι := { k : Nat // k ≤ (gr l.length).2 }) 300 (fun k => [.r (H Nat fun _ => (gridR l.length i k.1).length) (rowsI H fun _ => gridR l.length i k.1), .i (H Int fun _ => (k.1 : Nat))]) (fun k => (gr l.length).2 - k.1) (⟨0, by omega⟩) ?_ ?_
        · (conv in matchStN _ _ _ _ _ => cbv); simp only [AllG, AllP, and_true, hH, stdH, Nat.le_refl, ncast, Int.ofNat_eq_natCast, vrow_I, Arm.eta2, Fld.eta, Grp.eta]
          (repeat' (with_reducible refine And.intro ?_ ?_)) <;> (first | exact True.intro | exact Eq.refl _ | exact RowsEq.ofT okI rfl (Shp_zero _) rfl | exact RowsFz.self (okL okI) | exact RowsEq.self okRA)
        · intro I2 hI2 k
          conv in Fin.chk _ _ => cbv
          try simp only [Plain_rowsA, Plain_rowsB, Plain_rowsF, Plain_rowsG, Plain_rowsI, Plain_rowsS, Plain_rowsU, Fin.satC_ret, Fin.satC_br, Fin.satC_need, Fin.satC_again, AllP, and_true, true_and, upd, List.length_nil, List.length_cons, Nat.zero_add, if_true, ncast, Int.ofNat_eq_natCast]
          obtain ⟨k, hk⟩ := k
          have gl := gridR_len l.length i k
          have gk := gridK_len l.length i
          refine ⟨fun h2 => ⟨?_, ⟨?_, ?_⟩, ?_⟩, fun h2 => ⟨⟨?_, ?_⟩, ?_⟩⟩
          · try simp only [hH, stdH, Nat.le_refl, decide_eq_true_eq, decide_eq_false_iff_not, Bool.not_eq_true', Bool.not_eq_false', peta, ncast, Int.ofNat_eq_natCast, beq_iff_eq, bne_iff_ne, beq_eq_false_iff_ne, bne_eq_false_iff_eq, ne_eq, Classical.not_not, Int.toNat_natCast, vrow_I, Arm.eta2, Fld.eta, Grp.eta]
            omega
          · try simp only [hH, stdH, Nat.le_refl, decide_eq_true_eq, decide_eq_false_iff_not, Bool.not_eq_true', Bool.not_eq_false', peta, ncast, Int.ofNat_eq_natCast, beq_iff_eq, bne_iff_ne, beq_eq_false_iff_ne, bne_eq_false_iff_eq, ne_eq, Classical.not_not, Int.toNat_natCast, vrow_I, Arm.eta2, Fld.eta, Grp.eta]
          · try simp only [hH, stdH, Nat.le_refl, decide_eq_true_eq, decide_eq_false_iff_not, Bool.not_eq_true', Bool.not_eq_false', peta, ncast, Int.ofNat_eq_natCast, beq_iff_eq, bne_iff_ne, beq_eq_false_iff_ne, bne_eq_false_iff_eq, ne_eq, Classical.not_not, Int.toNat_natCast, vrow_I, Arm.eta2, Fld.eta, Grp.eta]
            rw [gl]
            exact ⟨by omega, by omega⟩
          · simp only [hH, stdH, Nat.le_refl, decide_eq_true_eq, decide_eq_false_iff_not, Bool.not_eq_true', Bool.not_eq_false', peta, ncast, Int.ofNat_eq_natCast, beq_iff_eq, bne_iff_ne, beq_eq_false_iff_ne, bne_eq_false_iff_eq, ne_eq, Classical.not_not, Int.toNat_natCast, vrow_I, Arm.eta2, Fld.eta, Grp.eta] at h2
            have h2 : k < (gr l.length).2 := by omega
            refine ⟨⟨k + 1, by omega⟩, by simp only; omega, ?_⟩
            rw [hI2]
            (conv in matchStN _ _ _ _ _ => cbv); simp only [AllG, AllP, and_true, hH, stdH, Nat.le_refl, ncast, Int.ofNat_eq_natCast, vrow_I, Arm.eta2, Fld.eta, Grp.eta]
            have eV : (IntKind.i64.wrap (IntKind.i64.wrap ((i : Int) * ((gr l.length).2 : Int)) + (k : Int))).tmod (l.length : Int) = (((i * (gr l.length).2 + k) % l.length : Nat) : Int) := by
              have hm : i * (gr l.length).2 ≤ 14 * 15 := Nat.mul_le_mul (by omega) (by omega)
              rw [wm (by omega) (by omega)]
              generalize i * (gr l.length).2 = m at hm ⊢
              rw [wi (by omega) (by omega), Int.tmod_eq_emod_of_nonneg (by omega), Int.natCast_emod, Int.natCast_add]
            rw [w1 (by omega), gridR_s, eV]
            (repeat' (with_reducible refine And.intro ?_ ?_)) <;> (first | exact True.intro | exact Eq.refl _ | exact RowsEq.more okI (Shp_I _ _) (Tl_I _) | exact RowsEq.snocI rfl | exact RowsFz.self (okL okI) | exact RowsEq.self okRA | exact List.length_append)
          · try simp only [hH, stdH, Nat.le_refl, decide_eq_true_eq, decide_eq_false_iff_not, Bool.not_eq_true', Bool.not_eq_false', peta, ncast, Int.ofNat_eq_natCast, beq_iff_eq, bne_iff_ne, beq_eq_false_iff_ne, bne_eq_false_iff_eq, ne_eq, Classical.not_not, Int.toNat_natCast, vrow_I, Arm.eta2, Fld.eta, Grp.eta]
          · try simp only [hH, stdH, Nat.le_refl, decide_eq_true_eq, decide_eq_false_iff_not, Bool.not_eq_true', Bool.not_eq_false', peta, ncast, Int.ofNat_eq_natCast, beq_iff_eq, bne_iff_ne, beq_eq_false_iff_ne, bne_eq_false_iff_eq, ne_eq, Classical.not_not, Int.toNat_natCast, vrow_I, Arm.eta2, Fld.eta, Grp.eta]
            rw [gk]
            exact ⟨by omega, by omega⟩
          · simp only [hH, stdH, Nat.le_refl, decide_eq_true_eq, decide_eq_false_iff_not, Bool.not_eq_true', Bool.not_eq_false', peta, ncast, Int.ofNat_eq_natCast, beq_iff_eq, bne_iff_ne, beq_eq_false_iff_ne, bne_eq_false_iff_eq, ne_eq, Classical.not_not, Int.toNat_natCast, vrow_I, Arm.eta2, Fld.eta, Grp.eta] at h2
            obtain rfl : k = (gr l.length).2 := by omega
            rw [if_neg (by decide)]
            refine ⟨⟨i + 1, by omega⟩, by simp only; omega, ?_⟩
            rw [hI]
            (conv in matchStN _ _ _ _ _ => cbv); simp only [AllG, AllP, and_true, hH, stdH, Nat.le_refl, ncast, Int.ofNat_eq_natCast, vrow_I, Arm.eta2, Fld.eta, Grp.eta]
            rw [w1 (by omega), gridK_s]
            (repeat' (with_reducible refine And.intro ?_ ?_)) <;> (first | exact True.intro | exact Eq.refl _ | exact RowsFz.snoc (okL okI) rfl (.cons (CellFz.own okI rfl (RowsEq.self okI)) .nil) | exact RowsEq.self okRA | exact List.length_append)
      · simp only [hH, stdH, Nat.le_refl, decide_eq_true_eq, decide_eq_false_iff_not, Bool.not_eq_true', Bool.not_eq_false', peta, ncast, Int.ofNat_eq_natCast, beq_iff_eq, bne_iff_ne, beq_eq_false_iff_ne, bne_eq_false_iff_eq, ne_eq, Classical.not_not, Int.toNat_natCast, vrow_I, Arm.eta2, Fld.eta, Grp.eta] at h1
        obtain rfl : i = (gr l.length).1 := by omega
        try simp only [hH, stdH, Nat.le_refl, decide_eq_true_eq, decide_eq_false_iff_not, Bool.not_eq_true', Bool.not_eq_false', peta, ncast, Int.ofNat_eq_natCast, beq_iff_eq, bne_iff_ne, beq_eq_false_iff_ne, bne_eq_false_iff_eq, ne_eq, Classical.not_not, Int.toNat_natCast, vrow_I, Arm.eta2, Fld.eta, Grp.eta]
        (repeat' (with_reducible refine And.intro ?_ ?_)) <;> (first | exact True.intro | exact Eq.refl _ | exact RowsFz.self (okL okI) | exact RowsEq.self okRA)
theorem c_eqSS1 (a : List Int) (t : List (List Int)) (ht : t = [a]) (ha : a.length ≤ 100) : ConN Try.prog 19 [.slc 0 0 1 1, .vec 1 (stdH Nat fun _ => t.length) (rowsL rowsI 1 stdH fun _ => t)] [(0, .cells [.slc 1 0 1 (stdH Nat fun _ => a.length)] 31), (1, .rows 1 (stdH Nat fun _ => a.length) (rowsI stdH fun _ => a) 3)] 2 (.lit (.bool (stdH Bool fun _ => true))) [] [(0, .cells [.slc 1 0 1 (stdH Nat fun _ => a.length)] 31), (1, .rows 1 (stdH Nat fun _ => a.length) (rowsI stdH fun _ => a) 3)] := by
  have hB : Base Try.prog (tabΓ [e_eqIntS]) tabZ := base_of tabOkZ (ents_cons eok_eqIntS <| ents_nil)
  refine con_m (N := 27) hB (draw_ok hB mixed) Try.func19 rfl rfl (fun H => [.slc 0 0 1 1, .vec 1 (H Nat fun _ => t.length) (rowsL rowsI 1 H fun _ => t)]) (fun H => [(0, .cells [.slc 1 0 1 (H Nat fun _ => a.length)] 31), (1, .rows 1 (H Nat fun _ => a.length) (rowsI H fun _ => a) 3)]) 2 (fun H => .lit (.bool (H Bool fun _ => true))) (fun H => []) (fun H => [(0, .cells [.slc 1 0 1 (H Nat fun _ => a.length)] 31), (1, .rows 1 (H Nat fun _ => a.length) (rowsI H fun _ => a) 3)]) 400 (by simp) (fun x hx => ?_) (fun i b hi => ?_) (fun i hi => ?_) (fun i b hi => ?_) ?_
  · simp only [List.mem_cons, List.not_mem_nil, or_false] at hx
    rcases hx with rfl | rfl
    · exact .slc (by omega)
    · exact vl_bl (okL okI) t _
  · have := lk_in hi
    simp only [List.mem_cons, List.not_mem_nil, or_false, Prod.mk.injEq] at this
    rcases this with ⟨rfl, rfl⟩ | ⟨rfl, rfl⟩
    · refine ⟨by omega, cells_bl fun x hx => ?_, _, List.mem_cons_self⟩
      simp only [List.mem_cons, List.not_mem_nil, or_false] at hx
      rcases hx with rfl <;> exact .slc (by omega)
    · exact ⟨by omega, bT_bl okI _ (fun _ => a) _, _, List.Mem.tail _ (List.Mem.head _)⟩
  · rcases (by omega : i = 0 ∨ i = 1) with rfl | rfl <;> exact ⟨_, rfl⟩
  · simp only [List.mem_cons, List.not_mem_nil, or_false, Prod.mk.injEq] at hi
    rcases hi with ⟨rfl, rfl⟩ | ⟨rfl, rfl⟩ <;> exact ⟨_, rfl⟩
  intro X hX hX0 H hH
  conv in Fin.chk _ _ => cbv
  try simp only [Plain_rowsA, Plain_rowsB, Plain_rowsF, Plain_rowsG, Plain_rowsI, Plain_rowsS, Plain_rowsU, Fin.satC_ret, Fin.satC_br, Fin.satC_need, Fin.satC_again, AllP, and_true, true_and, upd, List.length_nil, List.length_cons, Nat.zero_add, if_true, ncast, Int.ofNat_eq_natCast]
  subst hH; subst ht
  simp only [stdH, List.length_cons, List.length_nil, List.getD_cons_zero, List.getD_cons_succ, Tl_I]
  repeat' (first | exact trivial | exact RowsEq.self okI | exact RowsEq.mkR _ _ | exact Shp_I _ _ | assumption | rfl | omega | refine And.intro ?_ ?_ | (intro h; first | (simp at h; done) | (exfalso; have h := of_decide_eq_true h; omega) | skip))

theorem c_markSS1 (a : List Int) (k : Int) (hk : 0 ≤ k ∧ k ≤ 1000) (ha : a.length ≤ 100) : ConN Try.prog 22 [.slc 0 0 1 1, .lit (.int .i64 k)] [(0, .cells [.slc 1 0 1 (stdH Nat fun _ => a.length)] 31), (1, .rows 1 (stdH Nat fun _ => a.length) (rowsI stdH fun _ => a) 3)] 2 (.lit (.int .i64 (stdH Int fun _ => (k + (a.length : Nat))))) [] [(0, .cells [.slc 1 0 1 (stdH Nat fun _ => a.length)] 31), (1, .rows 1 (stdH Nat fun _ => a.length) (rowsI stdH fun _ => (mkN a.length k)) 3)] := by
  have hB : Base Try.prog (tabΓ [e_markIntS]) tabZ := base_of tabOkZ (ents_cons eok_markIntS <| ents_nil)
  refine con_m (N := 19) hB (draw_ok hB mixed) Try.func22 rfl rfl (fun H => [.slc 0 0 1 1, .lit (.int .i64 k)]) (fun H => [(0, .cells [.slc 1 0 1 (H Nat fun _ => a.length)] 31), (1, .rows 1 (H Nat fun _ => a.length) (rowsI H fun _ => a) 3)]) 2 (fun H => .lit (.int .i64 (H Int fun _ => (k + (a.length : Nat))))) (fun H => []) (fun H => [(0, .cells [.slc 1 0 1 (H Nat fun _ => a.length)] 31), (1, .rows 1 (H Nat fun _ => a.length) (rowsI H fun _ => (mkN a.length k)) 3)]) 400 (by simp) (fun x hx => ?_) (fun i b hi => ?_) (fun i hi => ?_) (fun i b hi => ?_) ?_
  · simp only [List.mem_cons, List.not_mem_nil, or_false] at hx
    rcases hx with rfl | rfl
    · exact .slc (by omega)
    · exact .lit
  · have := lk_in hi
    simp only [List.mem_cons, List.not_mem_nil, or_false, Prod.mk.injEq] at this
    rcases this with ⟨rfl, rfl⟩ | ⟨rfl, rfl⟩
    · refine ⟨by omega, cells_bl fun x hx => ?_, _, List.mem_cons_self⟩
      simp only [List.mem_cons, List.not_mem_nil, or_false] at hx
      rcases hx with rfl <;> exact .slc (by omega)
    · exact ⟨by omega, bT_bl okI _ (fun _ => a) _, _, List.Mem.tail _ (List.Mem.head _)⟩
  · rcases (by omega : i = 0 ∨ i = 1) with rfl | rfl <;> exact ⟨_, rfl⟩
  · simp only [List.mem_cons, List.not_mem_nil, or_false, Prod.mk.injEq] at hi
    rcases hi with ⟨rfl, rfl⟩ | ⟨rfl, rfl⟩ <;> exact ⟨_, rfl⟩
  intro X hX hX0 H hH
  conv in Fin.chk _ _ => cbv
  try simp only [Plain_rowsA, Plain_rowsB, Plain_rowsF, Plain_rowsG, Plain_rowsI, Plain_rowsS, Plain_rowsU, Fin.satC_ret, Fin.satC_br, Fin.satC_need, Fin.satC_again, AllP, and_true, true_and, upd, List.length_nil, List.length_cons, Nat.zero_add, if_true, ncast, Int.ofNat_eq_natCast]
  subst hH
  simp only [stdH, List.length_cons, List.length_nil, List.getD_cons_zero, List.getD_cons_succ, Tl_I]
  repeat' (first | exact trivial | exact RowsEq.self okI | exact RowsEq.mkR _ _ | exact Shp_I _ _ | assumption | rfl | omega | refine And.intro ?_ ?_ | (intro h; first | (simp at h; done) | (exfalso; have h := of_decide_eq_true h; omega) | skip))

theorem c_heldSS1 (a : List Int) (k : Int) (hk : 0 ≤ k ∧ k ≤ 1000) (ha : a.length ≤ 100) (ea : a = mkN a.length k) : ConN Try.prog 23 [.slc 0 0 1 1, .lit (.int .i64 k)] [(0, .cells [.slc 1 0 1 (stdH Nat fun _ => a.length)] 31), (1, .rows 1 (stdH Nat fun _ => a.length) (rowsI stdH fun _ => a) 3)] 2 (.lit (.int .i64 (stdH Int fun _ => (k + (a.length : Nat))))) [] [(0, .cells [.slc 1 0 1 (stdH Nat fun _ => a.length)] 31), (1, .rows 1 (stdH Nat fun _ => a.length) (rowsI stdH fun _ => a) 3)] := by
  have hB : Base Try.prog (tabΓ [e_heldIntS]) tabZ := base_of tabOkZ (ents_cons eok_heldIntS <| ents_nil)
  refine con_m (N := 21) hB (draw_ok hB mixed) Try.func23 rfl rfl (fun H => [.slc 0 0 1 1, .lit (.int .i64 k)]) (fun H => [(0, .cells [.slc 1 0 1 (H Nat fun _ => a.length)] 31), (1, .rows 1 (H Nat fun _ => a.length) (rowsI H fun _ => a) 3)]) 2 (fun H => .lit (.int .i64 (H Int fun _ => (k + (a.length : Nat))))) (fun H => []) (fun H => [(0, .cells [.slc 1 0 1 (H Nat fun _ => a.length)] 31), (1, .rows 1 (H Nat fun _ => a.length) (rowsI H fun _ => a) 3)]) 400 (by simp) (fun x hx => ?_) (fun i b hi => ?_) (fun i hi => ?_) (fun i b hi => ?_) ?_
  · simp only [List.mem_cons, List.not_mem_nil, or_false] at hx
    rcases hx with rfl | rfl
    · exact .slc (by omega)
    · exact .lit
  · have := lk_in hi
    simp only [List.mem_cons, List.not_mem_nil, or_false, Prod.mk.injEq] at this
    rcases this with ⟨rfl, rfl⟩ | ⟨rfl, rfl⟩
    · refine ⟨by omega, cells_bl fun x hx => ?_, _, List.mem_cons_self⟩
      simp only [List.mem_cons, List.not_mem_nil, or_false] at hx
      rcases hx with rfl <;> exact .slc (by omega)
    · exact ⟨by omega, bT_bl okI _ (fun _ => a) _, _, List.Mem.tail _ (List.Mem.head _)⟩
  · rcases (by omega : i = 0 ∨ i = 1) with rfl | rfl <;> exact ⟨_, rfl⟩
  · simp only [List.mem_cons, List.not_mem_nil, or_false, Prod.mk.injEq] at hi
    rcases hi with ⟨rfl, rfl⟩ | ⟨rfl, rfl⟩ <;> exact ⟨_, rfl⟩
  intro X hX hX0 H hH
  conv in Fin.chk _ _ => cbv
  try simp only [Plain_rowsA, Plain_rowsB, Plain_rowsF, Plain_rowsG, Plain_rowsI, Plain_rowsS, Plain_rowsU, Fin.satC_ret, Fin.satC_br, Fin.satC_need, Fin.satC_again, AllP, and_true, true_and, upd, List.length_nil, List.length_cons, Nat.zero_add, if_true, ncast, Int.ofNat_eq_natCast]
  subst hH
  simp only [stdH, List.length_cons, List.length_nil, List.getD_cons_zero, List.getD_cons_succ, Tl_I]
  repeat' (first | exact trivial | exact RowsEq.self okI | exact RowsEq.mkR _ _ | exact Shp_I _ _ | assumption | rfl | omega | refine And.intro ?_ ?_ | (intro h; first | (simp at h; done) | (exfalso; have h := of_decide_eq_true h; omega) | skip))

theorem c_eqSS2 (a b : List Int) (t : List (List Int)) (ht : t = [a, b]) (ha : a.length ≤ 100) (hb : b.length ≤ 100) : ConN Try.prog 19 [.slc 0 0 1 2, .vec 1 (stdH Nat fun _ => t.length) (rowsL rowsI 1 stdH fun _ => t)] [(0, .cells [.slc 1 0 1 (stdH Nat fun _ => a.length), .slc 2 0 1 (stdH Nat fun _ => b.length)] 31), (1, .rows 1 (stdH Nat fun _ => a.length) (rowsI stdH fun _ => a) 3), (2, .rows 1 (stdH Nat fun _ => b.length) (rowsI stdH fun _ => b) 3)] 3 (.lit (.bool (stdH Bool fun _ => true))) [] [(0, .cells [.slc 1 0 1 (stdH Nat fun _ => a.length), .slc 2 0 1 (stdH Nat fun _ => b.length)] 31), (1, .rows 1 (stdH Nat fun _ => a.length) (rowsI stdH fun _ => a) 3), (2, .rows 1 (stdH Nat fun _ => b.length) (rowsI stdH fun _ => b) 3)] := by
  have hB : Base Try.prog (tabΓ [e_eqIntS]) tabZ := base_of tabOkZ (ents_cons eok_eqIntS <| ents_nil)
  refine con_m (N := 27) hB (draw_ok hB mixed) Try.func19 rfl rfl (fun H => [.slc 0 0 1 2, .vec 1 (H Nat fun _ => t.length) (rowsL rowsI 1 H fun _ => t)]) (fun H => [(0, .cells [.slc 1 0 1 (H Nat fun _ => a.length), .slc 2 0 1 (H Nat fun _ => b.length)] 31), (1, .rows 1 (H Nat fun _ => a.length) (rowsI H fun _ => a) 3), (2, .rows 1 (H Nat fun _ => b.length) (rowsI H fun _ => b) 3)]) 3 (fun H => .lit (.bool (H Bool fun _ => true))) (fun H => []) (fun H => [(0, .cells [.slc 1 0 1 (H Nat fun _ => a.length), .slc 2 0 1 (H Nat fun _ => b.length)] 31), (1, .rows 1 (H Nat fun _ => a.length) (rowsI H fun _ => a) 3), (2, .rows 1 (H Nat fun _ => b.length) (rowsI H fun _ => b) 3)]) 400 (by simp) (fun x hx => ?_) (fun i b hi => ?_) (fun i hi => ?_) (fun i b hi => ?_) ?_
  · simp only [List.mem_cons, List.not_mem_nil, or_false] at hx
    rcases hx with rfl | rfl
    · exact .slc (by omega)
    · exact vl_bl (okL okI) t _
  · have := lk_in hi
    simp only [List.mem_cons, List.not_mem_nil, or_false, Prod.mk.injEq] at this
    rcases this with ⟨rfl, rfl⟩ | ⟨rfl, rfl⟩ | ⟨rfl, rfl⟩
    · refine ⟨by omega, cells_bl fun x hx => ?_, _, List.mem_cons_self⟩
      simp only [List.mem_cons, List.not_mem_nil, or_false] at hx
      rcases hx with rfl | rfl <;> exact .slc (by omega)
    · exact ⟨by omega, bT_bl okI _ (fun _ => a) _, _, List.Mem.tail _ (List.Mem.head _)⟩
    · exact ⟨by omega, bT_bl okI _ (fun _ => b) _, _, List.Mem.tail _ (List.Mem.tail _ (List.Mem.head _))⟩
  · rcases (by omega : i = 0 ∨ i = 1 ∨ i = 2) with rfl | rfl | rfl <;> exact ⟨_, rfl⟩
  · simp only [List.mem_cons, List.not_mem_nil, or_false, Prod.mk.injEq] at hi
    rcases hi with ⟨rfl, rfl⟩ | ⟨rfl, rfl⟩ | ⟨rfl, rfl⟩ <;> exact ⟨_, rfl⟩
  intro X hX hX0 H hH
  conv in Fin.chk _ _ => cbv
  try simp only [Plain_rowsA, Plain_rowsB, Plain_rowsF, Plain_rowsG, Plain_rowsI, Plain_rowsS, Plain_rowsU, Fin.satC_ret, Fin.satC_br, Fin.satC_need, Fin.satC_again, AllP, and_true, true_and, upd, List.length_nil, List.length_cons, Nat.zero_add, if_true, ncast, Int.ofNat_eq_natCast]
  subst hH; subst ht
  simp only [stdH, List.length_cons, List.length_nil, List.getD_cons_zero, List.getD_cons_succ, Tl_I]
  repeat' (first | exact trivial | exact RowsEq.self okI | exact RowsEq.mkR _ _ | exact Shp_I _ _ | assumption | rfl | omega | refine And.intro ?_ ?_ | (intro h; first | (simp at h; done) | (exfalso; have h := of_decide_eq_true h; omega) | skip))

theorem c_markSS2 (a b : List Int) (k : Int) (hk : 0 ≤ k ∧ k ≤ 1000) (ha : a.length ≤ 100) (hb : b.length ≤ 100) : ConN Try.prog 22 [.slc 0 0 1 2, .lit (.int .i64 k)] [(0, .cells [.slc 1 0 1 (stdH Nat fun _ => a.length), .slc 2 0 1 (stdH Nat fun _ => b.length)] 31), (1, .rows 1 (stdH Nat fun _ => a.length) (rowsI stdH fun _ => a) 3), (2, .rows 1 (stdH Nat fun _ => b.length) (rowsI stdH fun _ => b) 3)] 3 (.lit (.int .i64 (stdH Int fun _ => ((k + (a.length : Nat)) + (b.length : Nat))))) [] [(0, .cells [.slc 1 0 1 (stdH Nat fun _ => a.length), .slc 2 0 1 (stdH Nat fun _ => b.length)] 31), (1, .rows 1 (stdH Nat fun _ => a.length) (rowsI stdH fun _ => (mkN a.length k)) 3), (2, .rows 1 (stdH Nat fun _ => b.length) (rowsI stdH fun _ => (mkN b.length (k + (a.length : Nat)))) 3)] := by
  have hB : Base Try.prog (tabΓ [e_markIntS]) tabZ := base_of tabOkZ (ents_cons eok_markIntS <| ents_nil)
  refine con_m (N := 19) hB (draw_ok hB mixed) Try.func22 rfl rfl (fun H => [.slc 0 0 1 2, .lit (.int .i64 k)]) (fun H => [(0, .cells [.slc 1 0 1 (H Nat fun _ => a.length), .slc 2 0 1 (H Nat fun _ => b.length)] 31), (1, .rows 1 (H Nat fun _ => a.length) (rowsI H fun _ => a) 3), (2, .rows 1 (H Nat fun _ => b.length) (rowsI H fun _ => b) 3)]) 3 (fun H => .lit (.int .i64 (H Int fun _ => ((k + (a.length : Nat)) + (b.length : Nat))))) (fun H => []) (fun H => [(0, .cells [.slc 1 0 1 (H Nat fun _ => a.length), .slc 2 0 1 (H Nat fun _ => b.length)] 31), (1, .rows 1 (H Nat fun _ => a.length) (rowsI H fun _ => (mkN a.length k)) 3), (2, .rows 1 (H Nat fun _ => b.length) (rowsI H fun _ => (mkN b.length (k + (a.length : Nat)))) 3)]) 400 (by simp) (fun x hx => ?_) (fun i b hi => ?_) (fun i hi => ?_) (fun i b hi => ?_) ?_
  · simp only [List.mem_cons, List.not_mem_nil, or_false] at hx
    rcases hx with rfl | rfl
    · exact .slc (by omega)
    · exact .lit
  · have := lk_in hi
    simp only [List.mem_cons, List.not_mem_nil, or_false, Prod.mk.injEq] at this
    rcases this with ⟨rfl, rfl⟩ | ⟨rfl, rfl⟩ | ⟨rfl, rfl⟩
    · refine ⟨by omega, cells_bl fun x hx => ?_, _, List.mem_cons_self⟩
      simp only [List.mem_cons, List.not_mem_nil, or_false] at hx
      rcases hx with rfl | rfl <;> exact .slc (by omega)
    · exact ⟨by omega, bT_bl okI _ (fun _ => a) _, _, List.Mem.tail _ (List.Mem.head _)⟩
    · exact ⟨by omega, bT_bl okI _ (fun _ => b) _, _, List.Mem.tail _ (List.Mem.tail _ (List.Mem.head _))⟩
  · rcases (by omega : i = 0 ∨ i = 1 ∨ i = 2) with rfl | rfl | rfl <;> exact ⟨_, rfl⟩
  · simp only [List.mem_cons, List.not_mem_nil, or_false, Prod.mk.injEq] at hi
    rcases hi with ⟨rfl, rfl⟩ | ⟨rfl, rfl⟩ | ⟨rfl, rfl⟩ <;> exact ⟨_, rfl⟩
  intro X hX hX0 H hH
  conv in Fin.chk _ _ => cbv
  try simp only [Plain_rowsA, Plain_rowsB, Plain_rowsF, Plain_rowsG, Plain_rowsI, Plain_rowsS, Plain_rowsU, Fin.satC_ret, Fin.satC_br, Fin.satC_need, Fin.satC_again, AllP, and_true, true_and, upd, List.length_nil, List.length_cons, Nat.zero_add, if_true, ncast, Int.ofNat_eq_natCast]
  subst hH
  simp only [stdH, List.length_cons, List.length_nil, List.getD_cons_zero, List.getD_cons_succ, Tl_I]
  repeat' (first | exact trivial | exact RowsEq.self okI | exact RowsEq.mkR _ _ | exact Shp_I _ _ | assumption | rfl | omega | refine And.intro ?_ ?_ | (intro h; first | (simp at h; done) | (exfalso; have h := of_decide_eq_true h; omega) | skip))

theorem c_heldSS2 (a b : List Int) (k : Int) (hk : 0 ≤ k ∧ k ≤ 1000) (ha : a.length ≤ 100) (hb : b.length ≤ 100) (ea : a = mkN a.length k) (eb : b = mkN b.length (k + (a.length : Nat))) : ConN Try.prog 23 [.slc 0 0 1 2, .lit (.int .i64 k)] [(0, .cells [.slc 1 0 1 (stdH Nat fun _ => a.length), .slc 2 0 1 (stdH Nat fun _ => b.length)] 31), (1, .rows 1 (stdH Nat fun _ => a.length) (rowsI stdH fun _ => a) 3), (2, .rows 1 (stdH Nat fun _ => b.length) (rowsI stdH fun _ => b) 3)] 3 (.lit (.int .i64 (stdH Int fun _ => ((k + (a.length : Nat)) + (b.length : Nat))))) [] [(0, .cells [.slc 1 0 1 (stdH Nat fun _ => a.length), .slc 2 0 1 (stdH Nat fun _ => b.length)] 31), (1, .rows 1 (stdH Nat fun _ => a.length) (rowsI stdH fun _ => a) 3), (2, .rows 1 (stdH Nat fun _ => b.length) (rowsI stdH fun _ => b) 3)] := by
  have hB : Base Try.prog (tabΓ [e_heldIntS]) tabZ := base_of tabOkZ (ents_cons eok_heldIntS <| ents_nil)
  refine con_m (N := 21) hB (draw_ok hB mixed) Try.func23 rfl rfl (fun H => [.slc 0 0 1 2, .lit (.int .i64 k)]) (fun H => [(0, .cells [.slc 1 0 1 (H Nat fun _ => a.length), .slc 2 0 1 (H Nat fun _ => b.length)] 31), (1, .rows 1 (H Nat fun _ => a.length) (rowsI H fun _ => a) 3), (2, .rows 1 (H Nat fun _ => b.length) (rowsI H fun _ => b) 3)]) 3 (fun H => .lit (.int .i64 (H Int fun _ => ((k + (a.length : Nat)) + (b.length : Nat))))) (fun H => []) (fun H => [(0, .cells [.slc 1 0 1 (H Nat fun _ => a.length), .slc 2 0 1 (H Nat fun _ => b.length)] 31), (1, .rows 1 (H Nat fun _ => a.length) (rowsI H fun _ => a) 3), (2, .rows 1 (H Nat fun _ => b.length) (rowsI H fun _ => b) 3)]) 400 (by simp) (fun x hx => ?_) (fun i b hi => ?_) (fun i hi => ?_) (fun i b hi => ?_) ?_
  · simp only [List.mem_cons, List.not_mem_nil, or_false] at hx
    rcases hx with rfl | rfl
    · exact .slc (by omega)
    · exact .lit
  · have := lk_in hi
    simp only [List.mem_cons, List.not_mem_nil, or_false, Prod.mk.injEq] at this
    rcases this with ⟨rfl, rfl⟩ | ⟨rfl, rfl⟩ | ⟨rfl, rfl⟩
    · refine ⟨by omega, cells_bl fun x hx => ?_, _, List.mem_cons_self⟩
      simp only [List.mem_cons, List.not_mem_nil, or_false] at hx
      rcases hx with rfl | rfl <;> exact .slc (by omega)
    · exact ⟨by omega, bT_bl okI _ (fun _ => a) _, _, List.Mem.tail _ (List.Mem.head _)⟩
    · exact ⟨by omega, bT_bl okI _ (fun _ => b) _, _, List.Mem.tail _ (List.Mem.tail _ (List.Mem.head _))⟩
  · rcases (by omega : i = 0 ∨ i = 1 ∨ i = 2) with rfl | rfl | rfl <;> exact ⟨_, rfl⟩
  · simp only [List.mem_cons, List.not_mem_nil, or_false, Prod.mk.injEq] at hi
    rcases hi with ⟨rfl, rfl⟩ | ⟨rfl, rfl⟩ | ⟨rfl, rfl⟩ <;> exact ⟨_, rfl⟩
  intro X hX hX0 H hH
  conv in Fin.chk _ _ => cbv
  try simp only [Plain_rowsA, Plain_rowsB, Plain_rowsF, Plain_rowsG, Plain_rowsI, Plain_rowsS, Plain_rowsU, Fin.satC_ret, Fin.satC_br, Fin.satC_need, Fin.satC_again, AllP, and_true, true_and, upd, List.length_nil, List.length_cons, Nat.zero_add, if_true, ncast, Int.ofNat_eq_natCast]
  subst hH
  simp only [stdH, List.length_cons, List.length_nil, List.getD_cons_zero, List.getD_cons_succ, Tl_I]
  repeat' (first | exact trivial | exact RowsEq.self okI | exact RowsEq.mkR _ _ | exact Shp_I _ _ | assumption | rfl | omega | refine And.intro ?_ ?_ | (intro h; first | (simp at h; done) | (exfalso; have h := of_decide_eq_true h; omega) | skip))

theorem c_eqSS3 (a b c : List Int) (t : List (List Int)) (ht : t = [a, b, c]) (ha : a.length ≤ 100) (hb : b.length ≤ 100) (hc : c.length ≤ 100) : ConN Try.prog 19 [.slc 0 0 1 3, .vec 1 (stdH Nat fun _ => t.length) (rowsL rowsI 1 stdH fun _ => t)] [(0, .cells [.slc 1 0 1 (stdH Nat fun _ => a.length), .slc 2 0 1 (stdH Nat fun _ => b.length), .slc 3 0 1 (stdH Nat fun _ => c.length)] 31), (1, .rows 1 (stdH Nat fun _ => a.length) (rowsI stdH fun _ => a) 3), (2, .rows 1 (stdH Nat fun _ => b.length) (rowsI stdH fun _ => b) 3), (3, .rows 1 (stdH Nat fun _ => c.length) (rowsI stdH fun _ => c) 3)] 4 (.lit (.bool (stdH Bool fun _ => true))) [] [(0, .cells [.slc 1 0 1 (stdH Nat fun _ => a.length), .slc 2 0 1 (stdH Nat fun _ => b.length), .slc 3 0 1 (stdH Nat fun _ => c.length)] 31), (1, .rows 1 (stdH Nat fun _ => a.length) (rowsI stdH fun _ => a) 3), (2, .rows 1 (stdH Nat fun _ => b.length) (rowsI stdH fun _ => b) 3), (3, .rows 1 (stdH Nat fun _ => c.length) (rowsI stdH fun _ => c) 3)] := by
  have hB : Base Try.prog (tabΓ [e_eqIntS]) tabZ := base_of tabOkZ (ents_cons eok_eqIntS <| ents_nil)
  refine con_m (N := 27) hB (draw_ok hB mixed) Try.func19 rfl rfl (fun H => [.slc 0 0 1 3, .vec 1 (H Nat fun _ => t.length) (rowsL rowsI 1 H fun _ => t)]) (fun H => [(0, .cells [.slc 1 0 1 (H Nat fun _ => a.length), .slc 2 0 1 (H Nat fun _ => b.length), .slc 3 0 1 (H Nat fun _ => c.length)] 31), (1, .rows 1 (H Nat fun _ => a.length) (rowsI H fun _ => a) 3), (2, .rows 1 (H Nat fun _ => b.length) (rowsI H fun _ => b) 3), (3, .rows 1 (H Nat fun _ => c.length) (rowsI H fun _ => c) 3)]) 4 (fun H => .lit (.bool (H Bool fun _ => true))) (fun H => []) (fun H => [(0, .cells [.slc 1 0 1 (H Nat fun _ => a.length), .slc 2 0 1 (H Nat fun _ => b.length), .slc 3 0 1 (H Nat fun _ => c.length)] 31), (1, .rows 1 (H Nat fun _ => a.length) (rowsI H fun _ => a) 3), (2, .rows 1 (H Nat fun _ => b.length) (rowsI H fun _ => b) 3), (3, .rows 1 (H Nat fun _ => c.length) (rowsI H fun _ => c) 3)]) 400 (by simp) (fun x hx => ?_) (fun i b hi => ?_) (fun i hi => ?_) (fun i b hi => ?_) ?_
  · simp only [List.mem_cons, List.not_mem_nil, or_false] at hx
    rcases hx with rfl | rfl
    · exact .slc (by omega)
    · exact vl_bl (okL okI) t _
  · have := lk_in hi
    simp only [List.mem_cons, List.not_mem_nil, or_false, Prod.mk.injEq] at this
    rcases this with ⟨rfl, rfl⟩ | ⟨rfl, rfl⟩ | ⟨rfl, rfl⟩ | ⟨rfl, rfl⟩
    · refine ⟨by omega, cells_bl fun x hx => ?_, _, List.mem_cons_self⟩
      simp only [List.mem_cons, List.not_mem_nil, or_false] at hx
      rcases hx with rfl | rfl | rfl <;> exact .slc (by omega)
    · exact ⟨by omega, bT_bl okI _ (fun _ => a) _, _, List.Mem.tail _ (List.Mem.head _)⟩
    · exact ⟨by omega, bT_bl okI _ (fun _ => b) _, _, List.Mem.tail _ (List.Mem.tail _ (List.Mem.head _))⟩
    · exact ⟨by omega, bT_bl okI _ (fun _ => c) _, _, List.Mem.tail _ (List.Mem.tail _ (List.Mem.tail _ (List.Mem.head _)))⟩
  · rcases (by omega : i = 0 ∨ i = 1 ∨ i = 2 ∨ i = 3) with rfl | rfl | rfl | rfl <;> exact ⟨_, rfl⟩
  · simp only [List.mem_cons, List.not_mem_nil, or_false, Prod.mk.injEq] at hi
    rcases hi with ⟨rfl, rfl⟩ | ⟨rfl, rfl⟩ | ⟨rfl, rfl⟩ | ⟨rfl, rfl⟩ <;> exact ⟨_, rfl⟩
  intro X hX hX0 H hH
  conv in Fin.chk _ _ => cbv
  try simp only [Plain_rowsA, Plain_rowsB, Plain_rowsF, Plain_rowsG, Plain_rowsI, Plain_rowsS, Plain_rowsU, Fin.satC_ret, Fin.satC_br, Fin.satC_need, Fin.satC_again, AllP, and_true, true_and, upd, List.length_nil, List.length_cons, Nat.zero_add, if_true, ncast, Int.ofNat_eq_natCast]
  subst hH; subst ht
  simp only [stdH, List.length_cons, List.length_nil, List.getD_cons_zero, List.getD_cons_succ, Tl_I]
  repeat' (first | exact trivial | exact RowsEq.self okI | exact RowsEq.mkR _ _ | exact Shp_I _ _ | assumption | rfl | omega | refine And.intro ?_ ?_ | (intro h; first | (simp at h; done) | (exfalso; have h := of_decide_eq_true h; omega) | skip))

theorem c_markSS3 (a b c : List Int) (k : Int) (hk : 0 ≤ k ∧ k ≤ 1000) (ha : a.length ≤ 100) (hb : b.length ≤ 100) (hc : c.length ≤ 100) : ConN Try.prog 22 [.slc 0 0 1 3, .lit (.int .i64 k)] [(0, .cells [.slc 1 0 1 (stdH Nat fun _ => a.length), .slc 2 0 1 (stdH Nat fun _ => b.length), .slc 3 0 1 (stdH Nat fun _ => c.length)] 31), (1, .rows 1 (stdH Nat fun _ => a.length) (rowsI stdH fun _ => a) 3), (2, .rows 1 (stdH Nat fun _ => b.length) (rowsI stdH fun _ => b) 3), (3, .rows 1 (stdH Nat fun _ => c.length) (rowsI stdH fun _ => c) 3)] 4 (.lit (.int .i64 (stdH Int fun _ => (((k + (a.length : Nat)) + (b.length : Nat)) + (c.length : Nat))))) [] [(0, .cells [.slc 1 0 1 (stdH Nat fun _ => a.length), .slc 2 0 1 (stdH Nat fun _ => b.length), .slc 3 0 1 (stdH Nat fun _ => c.length)] 31), (1, .rows 1 (stdH Nat fun _ => a.length) (rowsI stdH fun _ => (mkN a.length k)) 3), (2, .rows 1 (stdH Nat fun _ => b.length) (rowsI stdH fun _ => (mkN b.length (k + (a.length : Nat)))) 3), (3, .rows 1 (stdH Nat fun _ => c.length) (rowsI stdH fun _ => (mkN c.length ((k + (a.length : Nat)) + (b.length : Nat)))) 3)] := by
  have hB : Base Try.prog (tabΓ [e_markIntS]) tabZ := base_of tabOkZ (ents_cons eok_markIntS <| ents_nil)
  refine con_m (N := 19) hB (draw_ok hB mixed) Try.func22 rfl rfl (fun H => [.slc 0 0 1 3, .lit (.int .i64 k)]) (fun H => [(0, .cells [.slc 1 0 1 (H Nat fun _ => a.length), .slc 2 0 1 (H Nat fun _ => b.length), .slc 3 0 1 (H Nat fun _ => c.length)] 31), (1, .rows 1 (H Nat fun _ => a.length) (rowsI H fun _ => a) 3), (2, .rows 1 (H Nat fun _ => b.length) (rowsI H fun _ => b) 3), (3, .rows 1 (H Nat fun _ => c.length) (rowsI H fun _ => c) 3)]) 4 (fun H => .lit (.int .i64 (H Int fun _ => (((k + (a.length : Nat)) + (b.length : Nat)) + (c.length : Nat))))) (fun H => []) (fun H => [(0, .cells [.slc 1 0 1 (H Nat fun _ => a.length), .slc 2 0 1 (H Nat fun _ => b.length), .slc 3 0 1 (H Nat fun _ => c.length)] 31), (1, .rows 1 (H Nat fun _ => a.length) (rowsI H fun _ => (mkN a.length k)) 3), (2, .rows 1 (H Nat fun _ => b.length) (rowsI H fun _ => (mkN b.length (k + (a.length : Nat)))) 3), (3, .rows 1 (H Nat fun _ => c.length) (rowsI H fun _ => (mkN c.length ((k + (a.length : Nat)) + (b.length : Nat)))) 3)]) 400 (by simp) (fun x hx => ?_) (fun i b hi => ?_) (fun i hi => ?_) (fun i b hi => ?_) ?_
  · simp only [List.mem_cons, List.not_mem_nil, or_false] at hx
    rcases hx with rfl | rfl
    · exact .slc (by omega)
    · exact .lit
  · have := lk_in hi
    simp only [List.mem_cons, List.not_mem_nil, or_false, Prod.mk.injEq] at this
    rcases this with ⟨rfl, rfl⟩ | ⟨rfl, rfl⟩ | ⟨rfl, rfl⟩ | ⟨rfl, rfl⟩
    · refine ⟨by omega, cells_bl fun x hx => ?_, _, List.mem_cons_self⟩
      simp only [List.mem_cons, List.not_mem_nil, or_false] at hx
      rcases hx with rfl | rfl | rfl <;> exact .slc (by omega)
    · exact ⟨by omega, bT_bl okI _ (fun _ => a) _, _, List.Mem.tail _ (List.Mem.head _)⟩
    · exact ⟨by omega, bT_bl okI _ (fun _ => b) _, _, List.Mem.tail _ (List.Mem.tail _ (List.Mem.head _))⟩
    · exact ⟨by omega, bT_bl okI _ (fun _ => c) _, _, List.Mem.tail _ (List.Mem.tail _ (List.Mem.tail _ (List.Mem.head _)))⟩
  · rcases (by omega : i = 0 ∨ i = 1 ∨ i = 2 ∨ i = 3) with rfl | rfl | rfl | rfl <;> exact ⟨_, rfl⟩
  · simp only [List.mem_cons, List.not_mem_nil, or_false, Prod.mk.injEq] at hi
    rcases hi with ⟨rfl, rfl⟩ | ⟨rfl, rfl⟩ | ⟨rfl, rfl⟩ | ⟨rfl, rfl⟩ <;> exact ⟨_, rfl⟩
  intro X hX hX0 H hH
  conv in Fin.chk _ _ => cbv
  try simp only [Plain_rowsA, Plain_rowsB, Plain_rowsF, Plain_rowsG, Plain_rowsI, Plain_rowsS, Plain_rowsU, Fin.satC_ret, Fin.satC_br, Fin.satC_need, Fin.satC_again, AllP, and_true, true_and, upd, List.length_nil, List.length_cons, Nat.zero_add, if_true, ncast, Int.ofNat_eq_natCast]
  subst hH
  simp only [stdH, List.length_cons, List.length_nil, List.getD_cons_zero, List.getD_cons_succ, Tl_I]
  repeat' (first | exact trivial | exact RowsEq.self okI | exact RowsEq.mkR _ _ | exact Shp_I _ _ | assumption | rfl | omega | refine And.intro ?_ ?_ | (intro h; first | (simp at h; done) | (exfalso; have h := of_decide_eq_true h; omega) | skip))

theorem c_heldSS3 (a b c : List Int) (k : Int) (hk : 0 ≤ k ∧ k ≤ 1000) (ha : a.length ≤ 100) (hb : b.length ≤ 100) (hc : c.length ≤ 100) (ea : a = mkN a.length k) (eb : b = mkN b.length (k + (a.length : Nat))) (ec : c = mkN c.length ((k + (a.length : Nat)) + (b.length : Nat))) : ConN Try.prog 23 [.slc 0 0 1 3, .lit (.int .i64 k)] [(0, .cells [.slc 1 0 1 (stdH Nat fun _ => a.length), .slc 2 0 1 (stdH Nat fun _ => b.length), .slc 3 0 1 (stdH Nat fun _ => c.length)] 31), (1, .rows 1 (stdH Nat fun _ => a.length) (rowsI stdH fun _ => a) 3), (2, .rows 1 (stdH Nat fun _ => b.length) (rowsI stdH fun _ => b) 3), (3, .rows 1 (stdH Nat fun _ => c.length) (rowsI stdH fun _ => c) 3)] 4 (.lit (.int .i64 (stdH Int fun _ => (((k + (a.length : Nat)) + (b.length : Nat)) + (c.length : Nat))))) [] [(0, .cells [.slc 1 0 1 (stdH Nat fun _ => a.length), .slc 2 0 1 (stdH Nat fun _ => b.length), .slc 3 0 1 (stdH Nat fun _ => c.length)] 31), (1, .rows 1 (stdH Nat fun _ => a.length) (rowsI stdH fun _ => a) 3), (2, .rows 1 (stdH Nat fun _ => b.length) (rowsI stdH fun _ => b) 3), (3, .rows 1 (stdH Nat fun _ => c.length) (rowsI stdH fun _ => c) 3)] := by
  have hB : Base Try.prog (tabΓ [e_heldIntS]) tabZ := base_of tabOkZ (ents_cons eok_heldIntS <| ents_nil)
  refine con_m (N := 21) hB (draw_ok hB mixed) Try.func23 rfl rfl (fun H => [.slc 0 0 1 3, .lit (.int .i64 k)]) (fun H => [(0, .cells [.slc 1 0 1 (H Nat fun _ => a.length), .slc 2 0 1 (H Nat fun _ => b.length), .slc 3 0 1 (H Nat fun _ => c.length)] 31), (1, .rows 1 (H Nat fun _ => a.length) (rowsI H fun _ => a) 3), (2, .rows 1 (H Nat fun _ => b.length) (rowsI H fun _ => b) 3), (3, .rows 1 (H Nat fun _ => c.length) (rowsI H fun _ => c) 3)]) 4 (fun H => .lit (.int .i64 (H Int fun _ => (((k + (a.length : Nat)) + (b.length : Nat)) + (c.length : Nat))))) (fun H => []) (fun H => [(0, .cells [.slc 1 0 1 (H Nat fun _ => a.length), .slc 2 0 1 (H Nat fun _ => b.length), .slc 3 0 1 (H Nat fun _ => c.length)] 31), (1, .rows 1 (H Nat fun _ => a.length) (rowsI H fun _ => a) 3), (2, .rows 1 (H Nat fun _ => b.length) (rowsI H fun _ => b) 3), (3, .rows 1 (H Nat fun _ => c.length) (rowsI H fun _ => c) 3)]) 400 (by simp) (fun x hx => ?_) (fun i b hi => ?_) (fun i hi => ?_) (fun i b hi => ?_) ?_
  · simp only [List.mem_cons, List.not_mem_nil, or_false] at hx
    rcases hx with rfl | rfl
    · exact .slc (by omega)
    · exact .lit
  · have := lk_in hi
    simp only [List.mem_cons, List.not_mem_nil, or_false, Prod.mk.injEq] at this
    rcases this with ⟨rfl, rfl⟩ | ⟨rfl, rfl⟩ | ⟨rfl, rfl⟩ | ⟨rfl, rfl⟩
    · refine ⟨by omega, cells_bl fun x hx => ?_, _, List.mem_cons_self⟩
      simp only [List.mem_cons, List.not_mem_nil, or_false] at hx
      rcases hx with rfl | rfl | rfl <;> exact .slc (by omega)
    · exact ⟨by omega, bT_bl okI _ (fun _ => a) _, _, List.Mem.tail _ (List.Mem.head _)⟩
    · exact ⟨by omega, bT_bl okI _ (fun _ => b) _, _, List.Mem.tail _ (List.Mem.tail _ (List.Mem.head _))⟩
    · exact ⟨by omega, bT_bl okI _ (fun _ => c) _, _, List.Mem.tail _ (List.Mem.tail _ (List.Mem.tail _ (List.Mem.head _)))⟩
  · rcases (by omega : i = 0 ∨ i = 1 ∨ i = 2 ∨ i = 3) with rfl | rfl | rfl | rfl <;> exact ⟨_, rfl⟩
  · simp only [List.mem_cons, List.not_mem_nil, or_false, Prod.mk.injEq] at hi
    rcases hi with ⟨rfl, rfl⟩ | ⟨rfl, rfl⟩ | ⟨rfl, rfl⟩ | ⟨rfl, rfl⟩ <;> exact ⟨_, rfl⟩
  intro X hX hX0 H hH
  conv in Fin.chk _ _ => cbv
  try simp only [Plain_rowsA, Plain_rowsB, Plain_rowsF, Plain_rowsG, Plain_rowsI, Plain_rowsS, Plain_rowsU, Fin.satC_ret, Fin.satC_br, Fin.satC_need, Fin.satC_again, AllP, and_true, true_and, upd, List.length_nil, List.length_cons, Nat.zero_add, if_true, ncast, Int.ofNat_eq_natCast]
  subst hH
  simp only [stdH, List.length_cons, List.length_nil, List.getD_cons_zero, List.getD_cons_succ, Tl_I]
  repeat' (first | exact trivial | exact RowsEq.self okI | exact RowsEq.mkR _ _ | exact Shp_I _ _ | assumption | rfl | omega | refine And.intro ?_ ?_ | (intro h; first | (simp at h; done) | (exfalso; have h := of_decide_eq_true h; omega) | skip))


end Go.Proofs.Ytigkdbhcjjjjkaa.AM

