/- Lemmas and contracts (Cli); conditions: none. -/
import Derived.Test.YtigkdbhcjjjjkaaK04
import Derived.Test.YtigkdbhcjjjjkaaK13
import Derived.Test.YtigkdbhcjjjjkaaK18
set_option linter.unusedVariables false
set_option linter.unusedSimpArgs false
set_option linter.unusedVariables false
set_option linter.unusedSimpArgs false
set_option maxRecDepth 100000
set_option maxHeartbeats 4000000
set_option cbv.maxSteps 3000000
namespace Go.Proofs.Ytigkdbhcjjjjkaa.AM
/- Clusters by the program; conditions: none. -/
theorem RowsEq.selfL {L : List Int} {n : Nat} (h : L.length = n) : RowsEq 1 L.length (rowsI stdH fun _ => L) n (rowsI stdH fun _ => L) := by
  subst h
  exact RowsEq.self okI
theorem c_clustersI (l : List Arm) (t : Int) (h0 : l.length ≤ 100) : ConN Try.prog 7 [.vec 15 (stdH Nat fun _ => (l).length) (rowsA stdH fun _ => l), .lit (.int .i64 t)] [] 0 (.tup [.vec 1 (stdH Nat fun _ => (if okCl l t then cluZ l t l.length else []).length) (rowsL rowsI 1 stdH fun _ => if okCl l t then cluZ l t l.length else []), .lit (.bool (stdH Bool fun _ => okCl l t))]) [] [] := by
  have hB : Base Try.prog (tabΓ [e_areArms, e_inside, e_differences, e_sortZ]) tabB := base_of tabOkB (ents_cons eok_areArms <| ents_cons eok_inside <| ents_cons eok_differences <| ents_cons eok_sortZ <| ents_nil)
  refine con_mN 31 (N := 86) hB (draw_ok hB mixed) Try.func7 rfl rfl (fun H => [.vec 15 (H Nat fun _ => (l).length) (rowsA H fun _ => l), .lit (.int .i64 t)]) (fun _ => []) 0 (fun H => .tup [.vec 1 (H Nat fun _ => (if okCl l t then cluZ l t l.length else []).length) (rowsL rowsI 1 H fun _ => if okCl l t then cluZ l t l.length else []), .lit (.bool (H Bool fun _ => okCl l t))]) (fun H => []) (fun _ => []) 300 (by simp) (fun x hx => ?_) (by simp [lk]) (by omega) (by simp) ?_
  · simp only [List.mem_cons, List.not_mem_nil, or_false] at hx
    rcases hx with rfl | rfl
    · exact vl_bl okRA l _
    · exact .lit
  intro X hX hX0 H hH
  conv in Fin.chk _ _ => cbv
  try simp only [Plain_rowsA, Plain_rowsB, Plain_rowsF, Plain_rowsG, Plain_rowsI, Plain_rowsS, Plain_rowsU, Fin.satC_ret, Fin.satC_br, Fin.satC_need, Fin.satC_again, AllP, and_true, true_and, upd, List.length_nil, List.length_cons, Nat.zero_add, if_true, ncast, Int.ofNat_eq_natCast]
  refine ⟨⟨?_, ?_⟩, fun h => ?_, fun h => ?_⟩
  · try simp only [hH, stdH, Nat.le_refl, decide_eq_true_eq, decide_eq_false_iff_not, Bool.not_eq_true', Bool.not_eq_false', peta, ncast, Int.ofNat_eq_natCast, beq_iff_eq, bne_iff_ne, beq_eq_false_iff_ne, bne_eq_false_iff_eq, ne_eq, Classical.not_not, Int.toNat_natCast, vrow_I, Arm.eta2, Fld.eta, Grp.eta]
    exact Shp_A _ _
  · try simp only [hH, stdH, Nat.le_refl, decide_eq_true_eq, decide_eq_false_iff_not, Bool.not_eq_true', Bool.not_eq_false', peta, ncast, Int.ofNat_eq_natCast, beq_iff_eq, bne_iff_ne, beq_eq_false_iff_ne, bne_eq_false_iff_eq, ne_eq, Classical.not_not, Int.toNat_natCast, vrow_I, Arm.eta2, Fld.eta, Grp.eta]
    simp only [Tl_A]; omega
  · simp only [hH, stdH, Int.toNat_natCast] at h
    simp only [Tl_A] at h
    change (bif !okLs l then true else !inB t 0 10) = true at h
    have hc : okCl l t = false := by
      unfold okCl
      cases e1 : okLs l <;> cases e2 : inB t 0 10 <;> rw [e1, e2] at h <;> first | rfl | cases h
    rw [hc]
    try simp only [hH, stdH, Nat.le_refl, decide_eq_true_eq, decide_eq_false_iff_not, Bool.not_eq_true', Bool.not_eq_false', peta, ncast, Int.ofNat_eq_natCast, beq_iff_eq, bne_iff_ne, beq_eq_false_iff_ne, bne_eq_false_iff_eq, ne_eq, Classical.not_not, Int.toNat_natCast, vrow_I, Arm.eta2, Fld.eta, Grp.eta]
    exact ⟨trivial, rfl⟩
  · simp only [hH, stdH, Int.toNat_natCast] at h
    simp only [Tl_A] at h
    change (bif !okLs l then true else !inB t 0 10) = false at h
    have hc : okCl l t = true := by
      unfold okCl
      cases e1 : okLs l <;> cases e2 : inB t 0 10 <;> rw [e1, e2] at h <;> first | rfl | cases h
    rw [hc]
    simp only [if_true]
    obtain ⟨hls, _⟩ := Bool.and_eq_true_iff.1 hc
    refine ⟨?_, ?_⟩
    · try simp only [hH, stdH, Nat.le_refl, decide_eq_true_eq, decide_eq_false_iff_not, Bool.not_eq_true', Bool.not_eq_false', peta, ncast, Int.ofNat_eq_natCast, beq_iff_eq, bne_iff_ne, beq_eq_false_iff_ne, bne_eq_false_iff_eq, ne_eq, Classical.not_not, Int.toNat_natCast, vrow_I, Arm.eta2, Fld.eta, Grp.eta]
      omega
    refine loop_aN hB (draw_ok hB mixed) hX hX0 hH false 31 (ι := { i : Nat // i ≤ l.length }) 300 (fun i => [.r (H Nat fun _ => (cluZ l t i.1).length) (rowsL rowsI 1 H fun _ => cluZ l t i.1), .r (H Nat fun _ => (seenL l.length (cluB (adjA l t) l.length i.1).2).length) (rowsB H fun _ => seenL l.length (cluB (adjA l t) l.length i.1).2), .i (H Int fun _ => (i.1 : Nat))]) (fun i => l.length - i.1) (⟨0, by omega⟩) ?_ ?_
    · (conv in matchStN _ _ _ _ _ => cbv); simp only [AllG, AllP, and_true, hH, stdH, Nat.le_refl, ncast, Int.ofNat_eq_natCast, vrow_I, Arm.eta2, Fld.eta, Grp.eta]
      refine ⟨RowsEq.noB l.length fun _ => rfl, (RowsEq.ofT (okL okI) rfl (Shp_zero _) rfl).fz, rfl, trivial, trivial, rfl, trivial, trivial, RowsEq.self okRA⟩
    · intro I hI i
      conv in Fin.chk _ _ => cbv
      try simp only [Plain_rowsA, Plain_rowsB, Plain_rowsF, Plain_rowsG, Plain_rowsI, Plain_rowsS, Plain_rowsU, Fin.satC_ret, Fin.satC_br, Fin.satC_need, Fin.satC_again, AllP, and_true, true_and, upd, List.length_nil, List.length_cons, Nat.zero_add, if_true, ncast, Int.ofNat_eq_natCast]
      obtain ⟨i, hi⟩ := i
      have hcl := cluB_ok (adjA_sym l t) i hi
      refine ⟨fun h1 => ⟨?_, ?_, fun h2 => ?_, fun h2 => ⟨?_, ?_, ?_⟩⟩, fun h1 => ?_⟩
      · simp only [hH, stdH, Nat.le_refl, decide_eq_true_eq, decide_eq_false_iff_not, Bool.not_eq_true', Bool.not_eq_false', peta, ncast, Int.ofNat_eq_natCast, beq_iff_eq, bne_iff_ne, beq_eq_false_iff_ne, bne_eq_false_iff_eq, ne_eq, Classical.not_not, Int.toNat_natCast, vrow_I, Arm.eta2, Fld.eta, Grp.eta] at h1 ⊢
        omega
      · simp only [hH, stdH, Nat.le_refl, decide_eq_true_eq, decide_eq_false_iff_not, Bool.not_eq_true', Bool.not_eq_false', peta, ncast, Int.ofNat_eq_natCast, beq_iff_eq, bne_iff_ne, beq_eq_false_iff_ne, bne_eq_false_iff_eq, ne_eq, Classical.not_not, Int.toNat_natCast, vrow_I, Arm.eta2, Fld.eta, Grp.eta] at h1 ⊢
        rw [seenL_len]
        exact ⟨by omega, by first | rfl | simp [rowsB]⟩
      · simp only [hH, stdH, Nat.le_refl, decide_eq_true_eq, decide_eq_false_iff_not, Bool.not_eq_true', Bool.not_eq_false', peta, ncast, Int.ofNat_eq_natCast, beq_iff_eq, bne_iff_ne, beq_eq_false_iff_ne, bne_eq_false_iff_eq, ne_eq, Classical.not_not, Int.toNat_natCast, vrow_I, Arm.eta2, Fld.eta, Grp.eta] at h1
        simp only [hH, stdH, Nat.le_refl, decide_eq_true_eq, decide_eq_false_iff_not, Bool.not_eq_true', Bool.not_eq_false', peta, ncast, Int.ofNat_eq_natCast, beq_iff_eq, bne_iff_ne, beq_eq_false_iff_ne, bne_eq_false_iff_eq, ne_eq, Classical.not_not, Int.toNat_natCast, vrow_I, Arm.eta2, Fld.eta, Grp.eta] at h2
        rw [seenL_at (by omega)] at h2
        obtain ⟨c1, c2⟩ := cluZ_no h2
        refine ⟨⟨i + 1, by omega⟩, by simp only; omega, ?_⟩
        rw [hI]
        (conv in matchStN _ _ _ _ _ => cbv); simp only [AllG, AllP, and_true, hH, stdH, Nat.le_refl, ncast, Int.ofNat_eq_natCast, vrow_I, Arm.eta2, Fld.eta, Grp.eta]
        rw [w1 (by omega), c1, c2]
        (repeat' (with_reducible refine And.intro ?_ ?_)) <;> (first | exact True.intro | exact Eq.refl _ | exact RowsFz.self (okL okI) | exact RowsEq.self okB' | exact RowsEq.self okI | exact RowsEq.self okRA)
      · simp only [hH, stdH, Nat.le_refl, decide_eq_true_eq, decide_eq_false_iff_not, Bool.not_eq_true', Bool.not_eq_false', peta, ncast, Int.ofNat_eq_natCast, beq_iff_eq, bne_iff_ne, beq_eq_false_iff_ne, bne_eq_false_iff_eq, ne_eq, Classical.not_not, Int.toNat_natCast, vrow_I, Arm.eta2, Fld.eta, Grp.eta] at h1 ⊢
        omega
      · simp only [hH, stdH, Nat.le_refl, decide_eq_true_eq, decide_eq_false_iff_not, Bool.not_eq_true', Bool.not_eq_false', peta, ncast, Int.ofNat_eq_natCast, beq_iff_eq, bne_iff_ne, beq_eq_false_iff_ne, bne_eq_false_iff_eq, ne_eq, Classical.not_not, Int.toNat_natCast, vrow_I, Arm.eta2, Fld.eta, Grp.eta] at h1 ⊢
        rw [seenL_len]
        exact ⟨by omega, by first | rfl | simp [rowsB]⟩
      · simp only [hH, stdH, Nat.le_refl, decide_eq_true_eq, decide_eq_false_iff_not, Bool.not_eq_true', Bool.not_eq_false', peta, ncast, Int.ofNat_eq_natCast, beq_iff_eq, bne_iff_ne, beq_eq_false_iff_ne, bne_eq_false_iff_eq, ne_eq, Classical.not_not, Int.toNat_natCast, vrow_I, Arm.eta2, Fld.eta, Grp.eta] at h1
        simp only [hH, stdH, Nat.le_refl, decide_eq_true_eq, decide_eq_false_iff_not, Bool.not_eq_true', Bool.not_eq_false', peta, ncast, Int.ofNat_eq_natCast, beq_iff_eq, bne_iff_ne, beq_eq_false_iff_ne, bne_eq_false_iff_eq, ne_eq, Classical.not_not, Int.toNat_natCast, vrow_I, Arm.eta2, Fld.eta, Grp.eta] at h2
        have h1 : i < l.length := by omega
        rw [seenL_at h1] at h2
        obtain ⟨c1, c2⟩ := cluZ_yes h2
        have hiE : i ∉ (cluB (adjA l t) l.length i).2 := fun hm => by rw [List.contains_iff_mem.2 hm] at h2; cases h2
        refine loop_cN hB (draw_ok hB mixed) hX hX0 hH [0, 1, 4, 5, 6, 7, 8, 9, 10, 24, 25, 26] 31 (ι := { p : Nat × List Nat × Nat // Mid (adjA l t) l.length i (cluB (adjA l t) l.length i).2 p.1 p.2.1 p.2.2 }) 300 (fun p => [.r (H Nat fun _ => (seenL l.length ((cluB (adjA l t) l.length i).2 ++ p.1.2.1)).length) (rowsB H fun _ => seenL l.length ((cluB (adjA l t) l.length i).2 ++ p.1.2.1)), .r (H Nat fun _ => (toZ p.1.2.1).length) (rowsI H fun _ => toZ p.1.2.1), .i (H Int fun _ => (p.1.2.2 : Nat))]) (fun p => l.length - p.1.2.2) (⟨(l.length, [i], 0), Mid.start h1 hiE⟩) ?_ ?_
        · (conv in matchStN _ _ _ _ _ => cbv); simp only [AllG, AllP, and_true, hH, stdH, Nat.le_refl, ncast, Int.ofNat_eq_natCast, vrow_I, Arm.eta2, Fld.eta, Grp.eta]
          (repeat' (with_reducible refine And.intro ?_ ?_)) <;> (first | exact True.intro | exact Eq.refl _ | exact RowsFz.self (okL okI) | exact RowsEq.self okB' | exact RowsEq.self okI | exact RowsEq.self okRA | exact RowsEq.oneZ i | exact RowsEq.setB (seenL_set h1))
        · intro I2 hI2 p
          conv in Fin.chk _ _ => cbv
          try simp only [Plain_rowsA, Plain_rowsB, Plain_rowsF, Plain_rowsG, Plain_rowsI, Plain_rowsS, Plain_rowsU, Fin.satC_ret, Fin.satC_br, Fin.satC_need, Fin.satC_again, AllP, and_true, true_and, upd, List.length_nil, List.length_cons, Nat.zero_add, if_true, ncast, Int.ofNat_eq_natCast]
          obtain ⟨⟨f, own, a⟩, hm⟩ := p
          refine ⟨fun h3 => ?_, fun h3 => ?_⟩
          · simp only [hH, stdH, Nat.le_refl, decide_eq_true_eq, decide_eq_false_iff_not, Bool.not_eq_true', Bool.not_eq_false', peta, ncast, Int.ofNat_eq_natCast, beq_iff_eq, bne_iff_ne, beq_eq_false_iff_ne, bne_eq_false_iff_eq, ne_eq, Classical.not_not, Int.toNat_natCast, vrow_I, Arm.eta2, Fld.eta, Grp.eta] at h3
            rw [toZ_len] at h3
            have ha : a < own.length := by omega
            have hx : own.getD a 0 < l.length := hm.b.lt _ (by rw [getN ha]; exact List.getElem_mem ha)
            refine loop_cN hB (draw_ok hB mixed) hX hX0 hH [0, 1, 4, 5, 6, 7, 8, 9, 10, 24, 25, 26, 44, 45, 46] 31 (ι := { k : Nat // k ≤ l.length }) 300 (fun k => [.r (H Nat fun _ => (seenL l.length ((cluB (adjA l t) l.length i).2 ++ rowQ (adjA l t (own.getD a 0)) own k.1)).length) (rowsB H fun _ => seenL l.length ((cluB (adjA l t) l.length i).2 ++ rowQ (adjA l t (own.getD a 0)) own k.1)), .r (H Nat fun _ => (toZ (rowQ (adjA l t (own.getD a 0)) own k.1)).length) (rowsI H fun _ => toZ (rowQ (adjA l t (own.getD a 0)) own k.1)), .i (H Int fun _ => (k.1 : Nat))]) (fun k => l.length - k.1) (⟨0, Nat.zero_le _⟩) ?_ ?_
            · (conv in matchStN _ _ _ _ _ => cbv); simp only [AllG, AllP, and_true, hH, stdH, Nat.le_refl, ncast, Int.ofNat_eq_natCast, vrow_I, Arm.eta2, Fld.eta, Grp.eta]
              (repeat' (with_reducible refine And.intro ?_ ?_)) <;> (first | exact True.intro | exact Eq.refl _ | exact RowsFz.self (okL okI) | exact RowsEq.self okB' | exact RowsEq.self okI | exact RowsEq.self okRA)
            · intro I3 hI3 k
              conv in Fin.chk _ _ => cbv
              try simp only [Plain_rowsA, Plain_rowsB, Plain_rowsF, Plain_rowsG, Plain_rowsI, Plain_rowsS, Plain_rowsU, Fin.satC_ret, Fin.satC_br, Fin.satC_need, Fin.satC_again, AllP, and_true, true_and, upd, List.length_nil, List.length_cons, Nat.zero_add, if_true, ncast, Int.ofNat_eq_natCast]
              obtain ⟨k, hk⟩ := k
              refine ⟨fun h4 => ?_, fun h4 => ?_⟩
              · simp only [hH, stdH, Nat.le_refl, decide_eq_true_eq, decide_eq_false_iff_not, Bool.not_eq_true', Bool.not_eq_false', peta, ncast, Int.ofNat_eq_natCast, beq_iff_eq, bne_iff_ne, beq_eq_false_iff_ne, bne_eq_false_iff_eq, ne_eq, Classical.not_not, Int.toNat_natCast, vrow_I, Arm.eta2, Fld.eta, Grp.eta] at h4
                have h4 : k < l.length := by omega
                obtain ⟨q1, q2⟩ := rowQ_at (r := adjA l t (own.getD a 0)) (k := k) ha
                have eA : (toZ (rowQ (adjA l t (own.getD a 0)) own k)).getD a 0 = ((own.getD a 0 : Nat) : Int) := by rw [toZ_at q1, q2]
                have hlen := rowQ_len (adjA l t (own.getD a 0)) own k
                have hol : own.length ≤ l.length := nd_len hm.b.nd hm.b.lt
                (repeat' (with_reducible refine And.intro ?_ ?_))
                · try simp only [hH, stdH, Nat.le_refl, decide_eq_true_eq, decide_eq_false_iff_not, Bool.not_eq_true', Bool.not_eq_false', peta, ncast, Int.ofNat_eq_natCast, beq_iff_eq, bne_iff_ne, beq_eq_false_iff_ne, bne_eq_false_iff_eq, ne_eq, Classical.not_not, Int.toNat_natCast, vrow_I, Arm.eta2, Fld.eta, Grp.eta]
                  omega
                · try simp only [hH, stdH, Nat.le_refl, decide_eq_true_eq, decide_eq_false_iff_not, Bool.not_eq_true', Bool.not_eq_false', peta, ncast, Int.ofNat_eq_natCast, beq_iff_eq, bne_iff_ne, beq_eq_false_iff_ne, bne_eq_false_iff_eq, ne_eq, Classical.not_not, Int.toNat_natCast, vrow_I, Arm.eta2, Fld.eta, Grp.eta]
                  rw [seenL_len]
                  exact ⟨h4, rfl⟩
                · try simp only [hH, stdH, Nat.le_refl, decide_eq_true_eq, decide_eq_false_iff_not, Bool.not_eq_true', Bool.not_eq_false', peta, ncast, Int.ofNat_eq_natCast, beq_iff_eq, bne_iff_ne, beq_eq_false_iff_ne, bne_eq_false_iff_eq, ne_eq, Classical.not_not, Int.toNat_natCast, vrow_I, Arm.eta2, Fld.eta, Grp.eta]
                  intro _
                  rw [toZ_len]
                  omega
                · try simp only [hH, stdH, Nat.le_refl, decide_eq_true_eq, decide_eq_false_iff_not, Bool.not_eq_true', Bool.not_eq_false', peta, ncast, Int.ofNat_eq_natCast, beq_iff_eq, bne_iff_ne, beq_eq_false_iff_ne, bne_eq_false_iff_eq, ne_eq, Classical.not_not, Int.toNat_natCast, vrow_I, Arm.eta2, Fld.eta, Grp.eta]
                  intro _
                  rw [toZ_len]
                  exact ⟨q1, rfl⟩
                · try simp only [hH, stdH, Nat.le_refl, decide_eq_true_eq, decide_eq_false_iff_not, Bool.not_eq_true', Bool.not_eq_false', peta, ncast, Int.ofNat_eq_natCast, beq_iff_eq, bne_iff_ne, beq_eq_false_iff_ne, bne_eq_false_iff_eq, ne_eq, Classical.not_not, Int.toNat_natCast, vrow_I, Arm.eta2, Fld.eta, Grp.eta]
                  intro _
                  rw [eA]
                  omega
                · try simp only [hH, stdH, Nat.le_refl, decide_eq_true_eq, decide_eq_false_iff_not, Bool.not_eq_true', Bool.not_eq_false', peta, ncast, Int.ofNat_eq_natCast, beq_iff_eq, bne_iff_ne, beq_eq_false_iff_ne, bne_eq_false_iff_eq, ne_eq, Classical.not_not, Int.toNat_natCast, vrow_I, Arm.eta2, Fld.eta, Grp.eta]
                  intro _
                  omega
                · intro h5
                  simp only [hH, stdH, Nat.le_refl, decide_eq_true_eq, decide_eq_false_iff_not, Bool.not_eq_true', Bool.not_eq_false', peta, ncast, Int.ofNat_eq_natCast, beq_iff_eq, bne_iff_ne, beq_eq_false_iff_ne, bne_eq_false_iff_eq, ne_eq, Classical.not_not, Int.toNat_natCast, vrow_I, Arm.eta2, Fld.eta, Grp.eta] at h5
                  rw [seenL_at h4, eA, Int.toNat_natCast, Mid.dif hls hx h4, hm.cond (adjA_sym l t) hcl.cl ha k] at h5
                  have e5 := rowQ_yes h5
                  (repeat' (with_reducible refine And.intro ?_ ?_))
                  · try simp only [hH, stdH, Nat.le_refl, decide_eq_true_eq, decide_eq_false_iff_not, Bool.not_eq_true', Bool.not_eq_false', peta, ncast, Int.ofNat_eq_natCast, beq_iff_eq, bne_iff_ne, beq_eq_false_iff_ne, bne_eq_false_iff_eq, ne_eq, Classical.not_not, Int.toNat_natCast, vrow_I, Arm.eta2, Fld.eta, Grp.eta]
                    exact ⟨trivial, fun j hj => by
                      obtain rfl := Nat.lt_one_iff.1 hj
                      rfl⟩
                  · try simp only [hH, stdH, Nat.le_refl, decide_eq_true_eq, decide_eq_false_iff_not, Bool.not_eq_true', Bool.not_eq_false', peta, ncast, Int.ofNat_eq_natCast, beq_iff_eq, bne_iff_ne, beq_eq_false_iff_ne, bne_eq_false_iff_eq, ne_eq, Classical.not_not, Int.toNat_natCast, vrow_I, Arm.eta2, Fld.eta, Grp.eta]
                  · try simp only [hH, stdH, Nat.le_refl, decide_eq_true_eq, decide_eq_false_iff_not, Bool.not_eq_true', Bool.not_eq_false', peta, ncast, Int.ofNat_eq_natCast, beq_iff_eq, bne_iff_ne, beq_eq_false_iff_ne, bne_eq_false_iff_eq, ne_eq, Classical.not_not, Int.toNat_natCast, vrow_I, Arm.eta2, Fld.eta, Grp.eta]
                    rw [toZ_len]
                    omega
                  · try simp only [hH, stdH, Nat.le_refl, decide_eq_true_eq, decide_eq_false_iff_not, Bool.not_eq_true', Bool.not_eq_false', peta, ncast, Int.ofNat_eq_natCast, beq_iff_eq, bne_iff_ne, beq_eq_false_iff_ne, bne_eq_false_iff_eq, ne_eq, Classical.not_not, Int.toNat_natCast, vrow_I, Arm.eta2, Fld.eta, Grp.eta]
                    exact PlZ1 _ _
                  · try simp only [hH, stdH, Nat.le_refl, decide_eq_true_eq, decide_eq_false_iff_not, Bool.not_eq_true', Bool.not_eq_false', peta, ncast, Int.ofNat_eq_natCast, beq_iff_eq, bne_iff_ne, beq_eq_false_iff_ne, bne_eq_false_iff_eq, ne_eq, Classical.not_not, Int.toNat_natCast, vrow_I, Arm.eta2, Fld.eta, Grp.eta]
                    omega
                  · try simp only [hH, stdH, Nat.le_refl, decide_eq_true_eq, decide_eq_false_iff_not, Bool.not_eq_true', Bool.not_eq_false', peta, ncast, Int.ofNat_eq_natCast, beq_iff_eq, bne_iff_ne, beq_eq_false_iff_ne, bne_eq_false_iff_eq, ne_eq, Classical.not_not, Int.toNat_natCast, vrow_I, Arm.eta2, Fld.eta, Grp.eta]
                    rw [seenL_len]
                    exact ⟨h4, rfl⟩
                  · refine ⟨⟨k + 1, by omega⟩, by simp only; omega, ?_⟩
                    rw [hI3]
                    (conv in matchStN _ _ _ _ _ => cbv); simp only [AllG, AllP, and_true, hH, stdH, Nat.le_refl, ncast, Int.ofNat_eq_natCast, vrow_I, Arm.eta2, Fld.eta, Grp.eta]
                    rw [w1 (by omega), e5, ← List.append_assoc]
                    (repeat' (with_reducible refine And.intro ?_ ?_)) <;> (first | exact True.intro | exact Eq.refl _ | exact RowsFz.self (okL okI) | exact RowsEq.self okB' | exact RowsEq.self okI | exact RowsEq.self okRA | exact RowsEq.setB (seenL_set h4) | exact RowsEq.snocZ (toZ_snoc _ _) | exact (congrArg List.length (toZ_snoc _ _)).trans List.length_append)
                · intro h5
                  simp only [hH, stdH, Nat.le_refl, decide_eq_true_eq, decide_eq_false_iff_not, Bool.not_eq_true', Bool.not_eq_false', peta, ncast, Int.ofNat_eq_natCast, beq_iff_eq, bne_iff_ne, beq_eq_false_iff_ne, bne_eq_false_iff_eq, ne_eq, Classical.not_not, Int.toNat_natCast, vrow_I, Arm.eta2, Fld.eta, Grp.eta] at h5
                  rw [seenL_at h4, eA, Int.toNat_natCast, Mid.dif hls hx h4, hm.cond (adjA_sym l t) hcl.cl ha k] at h5
                  have e5 := rowQ_no h5
                  refine ⟨⟨k + 1, by omega⟩, by simp only; omega, ?_⟩
                  rw [hI3]
                  (conv in matchStN _ _ _ _ _ => cbv); simp only [AllG, AllP, and_true, hH, stdH, Nat.le_refl, ncast, Int.ofNat_eq_natCast, vrow_I, Arm.eta2, Fld.eta, Grp.eta]
                  rw [w1 (by omega), e5]
                  (repeat' (with_reducible refine And.intro ?_ ?_)) <;> (first | exact True.intro | exact Eq.refl _ | exact RowsFz.self (okL okI) | exact RowsEq.self okB' | exact RowsEq.self okI | exact RowsEq.self okRA)
              · simp only [hH, stdH, Nat.le_refl, decide_eq_true_eq, decide_eq_false_iff_not, Bool.not_eq_true', Bool.not_eq_false', peta, ncast, Int.ofNat_eq_natCast, beq_iff_eq, bne_iff_ne, beq_eq_false_iff_ne, bne_eq_false_iff_eq, ne_eq, Classical.not_not, Int.toNat_natCast, vrow_I, Arm.eta2, Fld.eta, Grp.eta] at h4
                obtain rfl : k = l.length := by omega
                rw [if_neg (by decide)]
                obtain ⟨f', hm'⟩ := hm.step (adjA_sym l t) hcl.cl ha
                have hol : own.length ≤ l.length := nd_len hm.b.nd hm.b.lt
                refine ⟨⟨(f', rowQ (adjA l t (own.getD a 0)) own l.length, a + 1), hm'⟩, by simp only; omega, ?_⟩
                rw [hI2]
                (conv in matchStN _ _ _ _ _ => cbv); simp only [AllG, AllP, and_true, hH, stdH, Nat.le_refl, ncast, Int.ofNat_eq_natCast, vrow_I, Arm.eta2, Fld.eta, Grp.eta]
                rw [w1 (by omega)]
                (repeat' (with_reducible refine And.intro ?_ ?_)) <;> (first | exact True.intro | exact Eq.refl _ | exact RowsFz.self (okL okI) | exact RowsEq.self okB' | exact RowsEq.self okI | exact RowsEq.self okRA)
          · simp only [hH, stdH, Nat.le_refl, decide_eq_true_eq, decide_eq_false_iff_not, Bool.not_eq_true', Bool.not_eq_false', peta, ncast, Int.ofNat_eq_natCast, beq_iff_eq, bne_iff_ne, beq_eq_false_iff_ne, bne_eq_false_iff_eq, ne_eq, Classical.not_not, Int.toNat_natCast, vrow_I, Arm.eta2, Fld.eta, Grp.eta] at h3
            rw [toZ_len] at h3
            have hol : own.length ≤ l.length := nd_len hm.b.nd hm.b.lt
            obtain rfl := hm.stop (by omega : ¬ a < own.length)
            have hrl := cluZ_rlen l t i
            (repeat' (with_reducible refine And.intro ?_ ?_))
            · try simp only [hH, stdH, Nat.le_refl, decide_eq_true_eq, decide_eq_false_iff_not, Bool.not_eq_true', Bool.not_eq_false', peta, ncast, Int.ofNat_eq_natCast, beq_iff_eq, bne_iff_ne, beq_eq_false_iff_ne, bne_eq_false_iff_eq, ne_eq, Classical.not_not, Int.toNat_natCast, vrow_I, Arm.eta2, Fld.eta, Grp.eta]
            · try simp only [hH, stdH, Nat.le_refl, decide_eq_true_eq, decide_eq_false_iff_not, Bool.not_eq_true', Bool.not_eq_false', peta, ncast, Int.ofNat_eq_natCast, beq_iff_eq, bne_iff_ne, beq_eq_false_iff_ne, bne_eq_false_iff_eq, ne_eq, Classical.not_not, Int.toNat_natCast, vrow_I, Arm.eta2, Fld.eta, Grp.eta]
              exact Shp_I _ _
            · try simp only [hH, stdH, Nat.le_refl, decide_eq_true_eq, decide_eq_false_iff_not, Bool.not_eq_true', Bool.not_eq_false', peta, ncast, Int.ofNat_eq_natCast, beq_iff_eq, bne_iff_ne, beq_eq_false_iff_ne, bne_eq_false_iff_eq, ne_eq, Classical.not_not, Int.toNat_natCast, vrow_I, Arm.eta2, Fld.eta, Grp.eta]
              rw [Tl_I, toZ_len]
              omega
            · try simp only [hH, stdH, Nat.le_refl, decide_eq_true_eq, decide_eq_false_iff_not, Bool.not_eq_true', Bool.not_eq_false', peta, ncast, Int.ofNat_eq_natCast, beq_iff_eq, bne_iff_ne, beq_eq_false_iff_ne, bne_eq_false_iff_eq, ne_eq, Classical.not_not, Int.toNat_natCast, vrow_I, Arm.eta2, Fld.eta, Grp.eta]
            · try simp only [hH, stdH, Nat.le_refl, decide_eq_true_eq, decide_eq_false_iff_not, Bool.not_eq_true', Bool.not_eq_false', peta, ncast, Int.ofNat_eq_natCast, beq_iff_eq, bne_iff_ne, beq_eq_false_iff_ne, bne_eq_false_iff_eq, ne_eq, Classical.not_not, Int.toNat_natCast, vrow_I, Arm.eta2, Fld.eta, Grp.eta]
              omega
            · rw [if_neg (by decide)]
              refine ⟨⟨i + 1, by omega⟩, by simp only; omega, ?_⟩
              rw [hI]
              (conv in matchStN _ _ _ _ _ => cbv); simp only [AllG, AllP, and_true, hH, stdH, Nat.le_refl, ncast, Int.ofNat_eq_natCast, vrow_I, Arm.eta2, Fld.eta, Grp.eta]
              rw [w1 (by omega), c1, c2, Tl_I]
              have hFz := RowsFz.snoc (okL okI) (cb := [(2, .rows 1 (toZ (grpB (adjA l t) l.length i)).length (rowsI stdH fun _ => srtZ (toZ (grpB (adjA l t) l.length i))) 3)]) (L := cluZ l t i) (x := srtZ (toZ (grpB (adjA l t) l.length i))) (cs := [.slc 2 0 1 (toZ (grpB (adjA l t) l.length i)).length]) rfl (.cons (CellFz.own okI rfl (RowsEq.selfL (srtZ_len _))) .nil)
              (repeat' (with_reducible refine And.intro ?_ ?_)) <;> (first | exact True.intro | exact Eq.refl _ | exact RowsFz.self (okL okI) | exact RowsEq.self okB' | exact RowsEq.self okI | exact RowsEq.self okRA | exact hFz | exact List.length_append)
      · simp only [hH, stdH, Nat.le_refl, decide_eq_true_eq, decide_eq_false_iff_not, Bool.not_eq_true', Bool.not_eq_false', peta, ncast, Int.ofNat_eq_natCast, beq_iff_eq, bne_iff_ne, beq_eq_false_iff_ne, bne_eq_false_iff_eq, ne_eq, Classical.not_not, Int.toNat_natCast, vrow_I, Arm.eta2, Fld.eta, Grp.eta] at h1
        obtain rfl : i = l.length := by omega
        try simp only [hH, stdH, Nat.le_refl, decide_eq_true_eq, decide_eq_false_iff_not, Bool.not_eq_true', Bool.not_eq_false', peta, ncast, Int.ofNat_eq_natCast, beq_iff_eq, bne_iff_ne, beq_eq_false_iff_ne, bne_eq_false_iff_eq, ne_eq, Classical.not_not, Int.toNat_natCast, vrow_I, Arm.eta2, Fld.eta, Grp.eta]
        exact ⟨trivial, RowsFz.self (okL okI)⟩
noncomputable def e_clustersI : Entry := pureE 7 fun H a => match a with
  | [.vec 15 ln lf, .lit (.int .i64 t)] => some (.tup [.vec 1 (H Nat fun _ => (if okCl (Tl rowA ln lf) t then cluZ (Tl rowA ln lf) t (Tl rowA ln lf).length else []).length) (rowsL rowsI 1 H fun _ => if okCl (Tl rowA ln lf) t then cluZ (Tl rowA ln lf) t (Tl rowA ln lf).length else []), .lit (.bool (H Bool fun _ => okCl (Tl rowA ln lf) t))], [H Prop fun _ => Shp rowA ln lf, H Prop fun _ => (Tl rowA ln lf).length ≤ 100])
  | _ => none
theorem eok_clustersI : EntryOk Try.prog e_clustersI := pureM_ok (by unfold isBody; kernel_rfl) (by
  intro a r ob e hob
  split at e
  · rename_i ln lf t
    simp only [Option.some.injEq, Prod.mk.injEq] at e
    obtain ⟨rfl, rfl⟩ := e
    exact ConN.args (.cons (.toT okRA rfl hob.1) (.cons .rfl .nil)) (c_clustersI (Tl rowA ln lf) t hob.2.1)
  · simp at e)

end Go.Proofs.Ytigkdbhcjjjjkaa.AM

