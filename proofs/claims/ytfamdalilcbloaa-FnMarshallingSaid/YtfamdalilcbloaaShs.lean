import Derived.Test.YtfamdalilcbloaaAmT
import Derived.Test.YtfamdalilcbloaaShr
import Derived.Test.YtfamdalilcbloaaAmDl
set_option linter.unusedVariables false
set_option linter.unusedSimpArgs false
set_option maxRecDepth 100000
set_option maxHeartbeats 4000000
set_option cbv.maxSteps 3000000
namespace Go.Proofs.Ytfamdalilcbloaa.AM
/- Parts of shields replaced by the reference; conditions: none. -/
theorem okH_one {s : Shd} (h : okH s = true) : 1 ≤ s.parts.length ∧ s.parts.length ≤ 4 := by
  unfold okH cntH at h
  simp only [Bool.and_eq_true, decide_eq_true_eq] at h
  have := h.2.1
  (repeat' split at this) <;> omega
theorem rpl_succ {o a : Arm} {l : List Arm} {i : Nat} (h : i < l.length) : rpl o a (l.take (i + 1)) = rpl o a (l.take i) ++ [rpO o a (l.getD i default)] := by
  unfold rpl
  rw [List.take_succ_eq_append_getElem h, List.map_append, List.getD_eq_getElem?_getD, List.getElem?_eq_getElem h]
  rfl
theorem rpl_len (o a : Arm) (l : List Arm) (i : Nat) (h : i ≤ l.length) : (rpl o a (l.take i)).length = i := by
  unfold rpl; rw [List.length_map, List.length_take]; omega
theorem c_replHS (s : Shd) (o : Arm) (a : Arm) (h0 : s.parts.length ≤ 1000000) : ConN Try.prog 46 [aT rowH stdH fun _ => s, aT rowA stdH fun _ => o, aT rowA stdH fun _ => a] [] 0 (.tup [aT rowH stdH fun _ => if okR3 s o a then ⟨s.mode, rpl o a s.parts⟩ else shZ, .lit (.int .i64 (stdH Int fun _ => if okR3 s o a then (cnr o s.parts : Nat) else 0)), .lit (.bool (stdH Bool fun _ => okR3 s o a))]) [] [] := by
  have hB : Base Try.prog (tabΓ [e_l20Good, e_l5Good]) tabO := base_of tabOkO (ents_cons eok_l20Good <| ents_cons eok_l5Good <| ents_nil)
  refine con_m (N := 63) hB (draw_ok hB mixed) Try.func46 rfl rfl (fun H => [aT rowH H fun _ => s, aT rowA H fun _ => o, aT rowA H fun _ => a]) (fun _ => []) 0 (fun H => .tup [aT rowH H fun _ => if okR3 s o a then ⟨s.mode, rpl o a s.parts⟩ else shZ, .lit (.int .i64 (H Int fun _ => if okR3 s o a then (cnr o s.parts : Nat) else 0)), .lit (.bool (H Bool fun _ => okR3 s o a))]) (fun H => []) (fun _ => []) 300 (by simp) (fun x hx => ?_) (by simp [lk]) (by omega) (by simp) ?_
  · simp only [List.mem_cons, List.not_mem_nil, or_false] at hx
    rcases hx with rfl | rfl | rfl
    · exact aT_bl okRH _ _
    · exact aT_bl okRA _ _
    · exact aT_bl okRA _ _
  intro X hX hX0 H hH
  conv in Fin.chk _ _ => cbv
  try simp only [Plain_rowsA, Plain_rowsB, Plain_rowsF, Plain_rowsG, Plain_rowsI, Plain_rowsS, Plain_rowsU, Fin.satC_ret, Fin.satC_br, Fin.satC_need, Fin.satC_again, AllP, and_true, true_and, upd, List.length_nil, List.length_cons, Nat.zero_add, if_true, ncast, Int.ofNat_eq_natCast]
  have es : ({ mode := s.mode, parts := Tl rowA s.parts.length (rowsA stdH fun _ => s.parts) } : Shd) = s := by rw [Tl_A]
  refine ⟨?_, fun h => ?_, fun h => ?_⟩
  · try simp only [hH, stdH, decide_eq_true_eq, decide_eq_false_iff_not, Bool.not_eq_true', Bool.not_eq_false', peta, ncast, Int.ofNat_eq_natCast, beq_iff_eq, bne_iff_ne, beq_eq_false_iff_ne, bne_eq_false_iff_eq, ne_eq, Classical.not_not, Int.toNat_natCast, vrow_I, Arm.eta2, Fld.eta, Grp.eta]
    exact ⟨Shp_A _ _, by simp only [Tl_A]; omega⟩
  · have hn : okR3 s o a = false := by
      simp only [hH, stdH, Int.toNat_natCast] at h
      simp only [es, Arm.eta2, Fld.eta, Grp.eta] at h
      unfold okR3
      cases h1 : okH s <;> cases h2 : okA o <;> cases h3 : okA a <;> simp_all
    simp only [hH, stdH, hn]
    exact ⟨trivial, rfl, rfl, rfl⟩
  · have hy : okR3 s o a = true := by
      simp only [hH, stdH, Int.toNat_natCast] at h
      simp only [es, Arm.eta2, Fld.eta, Grp.eta] at h
      unfold okR3
      cases h1 : okH s <;> cases h2 : okA o <;> cases h3 : okA a <;> simp_all
    have hk : okH s = true := by
      unfold okR3 at hy
      simp only [Bool.and_eq_true] at hy
      exact hy.1
    obtain ⟨hn1, hn4⟩ := okH_one hk
    clear h
    refine loop_peel hB (draw_ok hB mixed) hX hH 300 ?_
    conv in Fin.chk _ _ => cbv
    try simp only [Plain_rowsA, Plain_rowsB, Plain_rowsF, Plain_rowsG, Plain_rowsI, Plain_rowsS, Plain_rowsU, Fin.satC_ret, Fin.satC_br, Fin.satC_need, Fin.satC_again, AllP, and_true, true_and, upd, List.length_nil, List.length_cons, Nat.zero_add, if_true, ncast, Int.ofNat_eq_natCast]
    refine ⟨fun _ => ⟨?_, fun h2 => ⟨⟨?_, ?_⟩, ?_⟩, fun h2 => ⟨?_, ⟨?_, ?_⟩, ?_⟩⟩, fun h1 => ?_⟩
    · try simp only [hH, stdH, decide_eq_true_eq, decide_eq_false_iff_not, Bool.not_eq_true', Bool.not_eq_false', peta, ncast, Int.ofNat_eq_natCast, beq_iff_eq, bne_iff_ne, beq_eq_false_iff_ne, bne_eq_false_iff_eq, ne_eq, Classical.not_not, Int.toNat_natCast, vrow_I, Arm.eta2, Fld.eta, Grp.eta]
      omega
    · try simp only [hH, stdH, decide_eq_true_eq, decide_eq_false_iff_not, Bool.not_eq_true', Bool.not_eq_false', peta, ncast, Int.ofNat_eq_natCast, beq_iff_eq, bne_iff_ne, beq_eq_false_iff_ne, bne_eq_false_iff_eq, ne_eq, Classical.not_not, Int.toNat_natCast, vrow_I, Arm.eta2, Fld.eta, Grp.eta]
      omega
    · try simp only [hH, stdH, decide_eq_true_eq, decide_eq_false_iff_not, Bool.not_eq_true', Bool.not_eq_false', peta, ncast, Int.ofNat_eq_natCast, beq_iff_eq, bne_iff_ne, beq_eq_false_iff_ne, bne_eq_false_iff_eq, ne_eq, Classical.not_not, Int.toNat_natCast, vrow_I, Arm.eta2, Fld.eta, Grp.eta]
      omega
    · have e1 : rpO o a (s.parts.getD 0 default) = a := by
        simp only [hH, stdH, Int.toNat_natCast] at h2
        rw [eqAE, decide_eq_true_eq] at h2
        exact if_pos h2
      have e2 : cnr o (s.parts.take 1) = 1 := by
        simp only [hH, stdH, Int.toNat_natCast] at h2
        rw [eqAE, decide_eq_true_eq] at h2
        rw [cnr_succ (i := 0) (by omega), if_pos (show s.parts.getD 0 default = o from h2)]; rfl
      have er : rpl o a (s.parts.take 1) = [a] := by rw [rpl_succ (i := 0) (by omega), e1]; rfl
      clear h2
      refine loopK_c hB (draw_ok hB mixed) hX hX0 hH [3, 4, 5, 6, 7, 8, 9, 10, 11] (ι := { i : Nat // 1 ≤ i ∧ i ≤ s.parts.length }) 300 (fun i => [.i (H Int fun _ => (cnr o (s.parts.take i.1) : Nat)), .i (H Int fun _ => (i.1 : Nat)), .i (H Int fun _ => s.mode), .r (H Nat fun _ => (rpl o a (s.parts.take i.1)).length) (rowsA H fun _ => rpl o a (s.parts.take i.1))]) (fun i => s.parts.length - i.1) (⟨1, by omega, hn1⟩) ?_ ?_
      · (conv in matchSt _ _ _ _ => cbv); simp only [AllG, AllP, and_true, hH, stdH, ncast, Int.ofNat_eq_natCast, vrow_I, Arm.eta2, Fld.eta, Grp.eta]
        rw [er, e2]
        (repeat' (first | trivial | exact RowsEq.lit okRA rfl rfl | exact RowsEq.self okRA | rfl | decide | refine And.intro ?_ ?_))
      · intro I hI i
        conv in Fin.chk _ _ => cbv
        try simp only [Plain_rowsA, Plain_rowsB, Plain_rowsF, Plain_rowsG, Plain_rowsI, Plain_rowsS, Plain_rowsU, Fin.satC_ret, Fin.satC_br, Fin.satC_need, Fin.satC_again, AllP, and_true, true_and, upd, List.length_nil, List.length_cons, Nat.zero_add, if_true, ncast, Int.ofNat_eq_natCast]
        obtain ⟨i, hi0, hi⟩ := i
        have ck := cnr_le o s.parts i
        have rl := rpl_len o a s.parts i hi
        refine ⟨fun h1 => ⟨?_, fun h2 => ⟨⟨?_, ?_⟩, ?_⟩, fun h2 => ⟨?_, ⟨?_, ?_⟩, ?_⟩⟩, fun h1 => ?_⟩
        · simp only [hH, stdH, decide_eq_true_eq, decide_eq_false_iff_not, Bool.not_eq_true', Bool.not_eq_false', peta, ncast, Int.ofNat_eq_natCast, beq_iff_eq, bne_iff_ne, beq_eq_false_iff_ne, bne_eq_false_iff_eq, ne_eq, Classical.not_not, Int.toNat_natCast, vrow_I, Arm.eta2, Fld.eta, Grp.eta] at h1 ⊢
          omega
        · try simp only [hH, stdH, decide_eq_true_eq, decide_eq_false_iff_not, Bool.not_eq_true', Bool.not_eq_false', peta, ncast, Int.ofNat_eq_natCast, beq_iff_eq, bne_iff_ne, beq_eq_false_iff_ne, bne_eq_false_iff_eq, ne_eq, Classical.not_not, Int.toNat_natCast, vrow_I, Arm.eta2, Fld.eta, Grp.eta]
          try omega
        · try simp only [hH, stdH, decide_eq_true_eq, decide_eq_false_iff_not, Bool.not_eq_true', Bool.not_eq_false', peta, ncast, Int.ofNat_eq_natCast, beq_iff_eq, bne_iff_ne, beq_eq_false_iff_ne, bne_eq_false_iff_eq, ne_eq, Classical.not_not, Int.toNat_natCast, vrow_I, Arm.eta2, Fld.eta, Grp.eta]
          rw [rl]; omega
        · simp only [hH, stdH, decide_eq_true_eq, decide_eq_false_iff_not, Bool.not_eq_true', Bool.not_eq_false', peta, ncast, Int.ofNat_eq_natCast, beq_iff_eq, bne_iff_ne, beq_eq_false_iff_ne, bne_eq_false_iff_eq, ne_eq, Classical.not_not, Int.toNat_natCast, vrow_I, Arm.eta2, Fld.eta, Grp.eta] at h1
          have h3 : s.parts.getD i default = o := by
            simp only [hH, stdH, Int.toNat_natCast] at h2
            rw [eqAE, decide_eq_true_eq] at h2
            exact h2
          refine ⟨⟨i + 1, by omega, by omega⟩, by simp only; omega, ?_⟩
          rw [hI]
          (conv in matchSt _ _ _ _ => cbv); simp only [AllG, AllP, and_true, hH, stdH, ncast, Int.ofNat_eq_natCast, vrow_I, Arm.eta2, Fld.eta, Grp.eta]
          have e3 := cnr_succ (o := o) (l := s.parts) (i := i) (by omega)
          rw [if_pos h3] at e3
          have e4 := rpl_succ (o := o) (a := a) (l := s.parts) (i := i) (by omega)
          have e5 : rpO o a (s.parts.getD i default) = a := if_pos h3
          rw [e5] at e4
          rw [w1 (by omega), w1 (by omega), e3, e4]
          (repeat' (first | trivial | exact RowsEq.self okRA | exact rows_snocA rfl | rfl | exact List.length_append | refine And.intro ?_ ?_))
        · simp only [hH, stdH, decide_eq_true_eq, decide_eq_false_iff_not, Bool.not_eq_true', Bool.not_eq_false', peta, ncast, Int.ofNat_eq_natCast, beq_iff_eq, bne_iff_ne, beq_eq_false_iff_ne, bne_eq_false_iff_eq, ne_eq, Classical.not_not, Int.toNat_natCast, vrow_I, Arm.eta2, Fld.eta, Grp.eta] at h1 ⊢
          omega
        · try simp only [hH, stdH, decide_eq_true_eq, decide_eq_false_iff_not, Bool.not_eq_true', Bool.not_eq_false', peta, ncast, Int.ofNat_eq_natCast, beq_iff_eq, bne_iff_ne, beq_eq_false_iff_ne, bne_eq_false_iff_eq, ne_eq, Classical.not_not, Int.toNat_natCast, vrow_I, Arm.eta2, Fld.eta, Grp.eta]
          try omega
        · try simp only [hH, stdH, decide_eq_true_eq, decide_eq_false_iff_not, Bool.not_eq_true', Bool.not_eq_false', peta, ncast, Int.ofNat_eq_natCast, beq_iff_eq, bne_iff_ne, beq_eq_false_iff_ne, bne_eq_false_iff_eq, ne_eq, Classical.not_not, Int.toNat_natCast, vrow_I, Arm.eta2, Fld.eta, Grp.eta]
          rw [rl]; omega
        · simp only [hH, stdH, decide_eq_true_eq, decide_eq_false_iff_not, Bool.not_eq_true', Bool.not_eq_false', peta, ncast, Int.ofNat_eq_natCast, beq_iff_eq, bne_iff_ne, beq_eq_false_iff_ne, bne_eq_false_iff_eq, ne_eq, Classical.not_not, Int.toNat_natCast, vrow_I, Arm.eta2, Fld.eta, Grp.eta] at h1
          have h3 : ¬ s.parts.getD i default = o := by
            simp only [hH, stdH, Int.toNat_natCast] at h2
            rw [eqAE] at h2
            simpa using h2
          refine ⟨⟨i + 1, by omega, by omega⟩, by simp only; omega, ?_⟩
          rw [hI]
          (conv in matchSt _ _ _ _ => cbv); simp only [AllG, AllP, and_true, hH, stdH, ncast, Int.ofNat_eq_natCast, vrow_I, Arm.eta2, Fld.eta, Grp.eta]
          have e3 := cnr_succ (o := o) (l := s.parts) (i := i) (by omega)
          rw [if_neg h3, Nat.add_zero] at e3
          have e4 := rpl_succ (o := o) (a := a) (l := s.parts) (i := i) (by omega)
          have e5 : rpO o a (s.parts.getD i default) = s.parts.getD i default := if_neg h3
          rw [e5] at e4
          rw [w1 (by omega), e3, e4]
          (repeat' (first | trivial | exact RowsEq.self okRA | exact rows_snocA rfl | rfl | exact List.length_append | refine And.intro ?_ ?_))
        · simp only [hH, stdH, decide_eq_true_eq, decide_eq_false_iff_not, Bool.not_eq_true', Bool.not_eq_false', peta, ncast, Int.ofNat_eq_natCast, beq_iff_eq, bne_iff_ne, beq_eq_false_iff_ne, bne_eq_false_iff_eq, ne_eq, Classical.not_not, Int.toNat_natCast, vrow_I, Arm.eta2, Fld.eta, Grp.eta] at h1
          obtain rfl : i = s.parts.length := by omega
          simp only [hH, stdH, hy, if_true, List.take_length]
          (repeat' (first | trivial | exact RowsEq.self okRA | rfl | refine And.intro ?_ ?_))
    · try simp only [hH, stdH, decide_eq_true_eq, decide_eq_false_iff_not, Bool.not_eq_true', Bool.not_eq_false', peta, ncast, Int.ofNat_eq_natCast, beq_iff_eq, bne_iff_ne, beq_eq_false_iff_ne, bne_eq_false_iff_eq, ne_eq, Classical.not_not, Int.toNat_natCast, vrow_I, Arm.eta2, Fld.eta, Grp.eta]
      omega
    · try simp only [hH, stdH, decide_eq_true_eq, decide_eq_false_iff_not, Bool.not_eq_true', Bool.not_eq_false', peta, ncast, Int.ofNat_eq_natCast, beq_iff_eq, bne_iff_ne, beq_eq_false_iff_ne, bne_eq_false_iff_eq, ne_eq, Classical.not_not, Int.toNat_natCast, vrow_I, Arm.eta2, Fld.eta, Grp.eta]
      omega
    · try simp only [hH, stdH, decide_eq_true_eq, decide_eq_false_iff_not, Bool.not_eq_true', Bool.not_eq_false', peta, ncast, Int.ofNat_eq_natCast, beq_iff_eq, bne_iff_ne, beq_eq_false_iff_ne, bne_eq_false_iff_eq, ne_eq, Classical.not_not, Int.toNat_natCast, vrow_I, Arm.eta2, Fld.eta, Grp.eta]
      omega
    · have e1 : rpO o a (s.parts.getD 0 default) = s.parts.getD 0 default := by
        simp only [hH, stdH, Int.toNat_natCast] at h2
        rw [eqAE] at h2
        exact if_neg (show ¬ s.parts.getD 0 default = o by simpa using h2)
      have e2 : cnr o (s.parts.take 1) = 0 := by
        simp only [hH, stdH, Int.toNat_natCast] at h2
        rw [eqAE] at h2
        rw [cnr_succ (i := 0) (by omega), if_neg (show ¬ s.parts.getD 0 default = o by simpa using h2)]; rfl
      have er : rpl o a (s.parts.take 1) = [s.parts.getD 0 default] := by rw [rpl_succ (i := 0) (by omega), e1]; rfl
      clear h2
      refine loopK_c hB (draw_ok hB mixed) hX hX0 hH [3, 4, 5, 6, 7, 8, 9, 10, 11] (ι := { i : Nat // 1 ≤ i ∧ i ≤ s.parts.length }) 300 (fun i => [.i (H Int fun _ => (cnr o (s.parts.take i.1) : Nat)), .i (H Int fun _ => (i.1 : Nat)), .i (H Int fun _ => s.mode), .r (H Nat fun _ => (rpl o a (s.parts.take i.1)).length) (rowsA H fun _ => rpl o a (s.parts.take i.1))]) (fun i => s.parts.length - i.1) (⟨1, by omega, hn1⟩) ?_ ?_
      · (conv in matchSt _ _ _ _ => cbv); simp only [AllG, AllP, and_true, hH, stdH, ncast, Int.ofNat_eq_natCast, vrow_I, Arm.eta2, Fld.eta, Grp.eta]
        rw [er, e2]
        (repeat' (first | trivial | exact RowsEq.lit okRA rfl rfl | exact RowsEq.self okRA | rfl | decide | refine And.intro ?_ ?_))
      · intro I hI i
        conv in Fin.chk _ _ => cbv
        try simp only [Plain_rowsA, Plain_rowsB, Plain_rowsF, Plain_rowsG, Plain_rowsI, Plain_rowsS, Plain_rowsU, Fin.satC_ret, Fin.satC_br, Fin.satC_need, Fin.satC_again, AllP, and_true, true_and, upd, List.length_nil, List.length_cons, Nat.zero_add, if_true, ncast, Int.ofNat_eq_natCast]
        obtain ⟨i, hi0, hi⟩ := i
        have ck := cnr_le o s.parts i
        have rl := rpl_len o a s.parts i hi
        refine ⟨fun h1 => ⟨?_, fun h2 => ⟨⟨?_, ?_⟩, ?_⟩, fun h2 => ⟨?_, ⟨?_, ?_⟩, ?_⟩⟩, fun h1 => ?_⟩
        · simp only [hH, stdH, decide_eq_true_eq, decide_eq_false_iff_not, Bool.not_eq_true', Bool.not_eq_false', peta, ncast, Int.ofNat_eq_natCast, beq_iff_eq, bne_iff_ne, beq_eq_false_iff_ne, bne_eq_false_iff_eq, ne_eq, Classical.not_not, Int.toNat_natCast, vrow_I, Arm.eta2, Fld.eta, Grp.eta] at h1 ⊢
          omega
        · try simp only [hH, stdH, decide_eq_true_eq, decide_eq_false_iff_not, Bool.not_eq_true', Bool.not_eq_false', peta, ncast, Int.ofNat_eq_natCast, beq_iff_eq, bne_iff_ne, beq_eq_false_iff_ne, bne_eq_false_iff_eq, ne_eq, Classical.not_not, Int.toNat_natCast, vrow_I, Arm.eta2, Fld.eta, Grp.eta]
          try omega
        · try simp only [hH, stdH, decide_eq_true_eq, decide_eq_false_iff_not, Bool.not_eq_true', Bool.not_eq_false', peta, ncast, Int.ofNat_eq_natCast, beq_iff_eq, bne_iff_ne, beq_eq_false_iff_ne, bne_eq_false_iff_eq, ne_eq, Classical.not_not, Int.toNat_natCast, vrow_I, Arm.eta2, Fld.eta, Grp.eta]
          rw [rl]; omega
        · simp only [hH, stdH, decide_eq_true_eq, decide_eq_false_iff_not, Bool.not_eq_true', Bool.not_eq_false', peta, ncast, Int.ofNat_eq_natCast, beq_iff_eq, bne_iff_ne, beq_eq_false_iff_ne, bne_eq_false_iff_eq, ne_eq, Classical.not_not, Int.toNat_natCast, vrow_I, Arm.eta2, Fld.eta, Grp.eta] at h1
          have h3 : s.parts.getD i default = o := by
            simp only [hH, stdH, Int.toNat_natCast] at h2
            rw [eqAE, decide_eq_true_eq] at h2
            exact h2
          refine ⟨⟨i + 1, by omega, by omega⟩, by simp only; omega, ?_⟩
          rw [hI]
          (conv in matchSt _ _ _ _ => cbv); simp only [AllG, AllP, and_true, hH, stdH, ncast, Int.ofNat_eq_natCast, vrow_I, Arm.eta2, Fld.eta, Grp.eta]
          have e3 := cnr_succ (o := o) (l := s.parts) (i := i) (by omega)
          rw [if_pos h3] at e3
          have e4 := rpl_succ (o := o) (a := a) (l := s.parts) (i := i) (by omega)
          have e5 : rpO o a (s.parts.getD i default) = a := if_pos h3
          rw [e5] at e4
          rw [w1 (by omega), w1 (by omega), e3, e4]
          (repeat' (first | trivial | exact RowsEq.self okRA | exact rows_snocA rfl | rfl | exact List.length_append | refine And.intro ?_ ?_))
        · simp only [hH, stdH, decide_eq_true_eq, decide_eq_false_iff_not, Bool.not_eq_true', Bool.not_eq_false', peta, ncast, Int.ofNat_eq_natCast, beq_iff_eq, bne_iff_ne, beq_eq_false_iff_ne, bne_eq_false_iff_eq, ne_eq, Classical.not_not, Int.toNat_natCast, vrow_I, Arm.eta2, Fld.eta, Grp.eta] at h1 ⊢
          omega
        · try simp only [hH, stdH, decide_eq_true_eq, decide_eq_false_iff_not, Bool.not_eq_true', Bool.not_eq_false', peta, ncast, Int.ofNat_eq_natCast, beq_iff_eq, bne_iff_ne, beq_eq_false_iff_ne, bne_eq_false_iff_eq, ne_eq, Classical.not_not, Int.toNat_natCast, vrow_I, Arm.eta2, Fld.eta, Grp.eta]
          try omega
        · try simp only [hH, stdH, decide_eq_true_eq, decide_eq_false_iff_not, Bool.not_eq_true', Bool.not_eq_false', peta, ncast, Int.ofNat_eq_natCast, beq_iff_eq, bne_iff_ne, beq_eq_false_iff_ne, bne_eq_false_iff_eq, ne_eq, Classical.not_not, Int.toNat_natCast, vrow_I, Arm.eta2, Fld.eta, Grp.eta]
          rw [rl]; omega
        · simp only [hH, stdH, decide_eq_true_eq, decide_eq_false_iff_not, Bool.not_eq_true', Bool.not_eq_false', peta, ncast, Int.ofNat_eq_natCast, beq_iff_eq, bne_iff_ne, beq_eq_false_iff_ne, bne_eq_false_iff_eq, ne_eq, Classical.not_not, Int.toNat_natCast, vrow_I, Arm.eta2, Fld.eta, Grp.eta] at h1
          have h3 : ¬ s.parts.getD i default = o := by
            simp only [hH, stdH, Int.toNat_natCast] at h2
            rw [eqAE] at h2
            simpa using h2
          refine ⟨⟨i + 1, by omega, by omega⟩, by simp only; omega, ?_⟩
          rw [hI]
          (conv in matchSt _ _ _ _ => cbv); simp only [AllG, AllP, and_true, hH, stdH, ncast, Int.ofNat_eq_natCast, vrow_I, Arm.eta2, Fld.eta, Grp.eta]
          have e3 := cnr_succ (o := o) (l := s.parts) (i := i) (by omega)
          rw [if_neg h3, Nat.add_zero] at e3
          have e4 := rpl_succ (o := o) (a := a) (l := s.parts) (i := i) (by omega)
          have e5 : rpO o a (s.parts.getD i default) = s.parts.getD i default := if_neg h3
          rw [e5] at e4
          rw [w1 (by omega), e3, e4]
          (repeat' (first | trivial | exact RowsEq.self okRA | exact rows_snocA rfl | rfl | exact List.length_append | refine And.intro ?_ ?_))
        · simp only [hH, stdH, decide_eq_true_eq, decide_eq_false_iff_not, Bool.not_eq_true', Bool.not_eq_false', peta, ncast, Int.ofNat_eq_natCast, beq_iff_eq, bne_iff_ne, beq_eq_false_iff_ne, bne_eq_false_iff_eq, ne_eq, Classical.not_not, Int.toNat_natCast, vrow_I, Arm.eta2, Fld.eta, Grp.eta] at h1
          obtain rfl : i = s.parts.length := by omega
          simp only [hH, stdH, hy, if_true, List.take_length]
          (repeat' (first | trivial | exact RowsEq.self okRA | rfl | refine And.intro ?_ ?_))
    · exfalso
      simp only [hH, stdH, decide_eq_true_eq, decide_eq_false_iff_not, Bool.not_eq_true', Bool.not_eq_false', peta, ncast, Int.ofNat_eq_natCast, beq_iff_eq, bne_iff_ne, beq_eq_false_iff_ne, bne_eq_false_iff_eq, ne_eq, Classical.not_not, Int.toNat_natCast, vrow_I, Arm.eta2, Fld.eta, Grp.eta] at h1
      omega
noncomputable def e_replHS : Entry := pureE 46 fun H a => match a with
  | [.agg [.lit (.int .i64 s0), .vec 15 s1n s1f], .agg [.lit (.int .i64 o0), .lit (.int .i64 o1), .lit (.int .i64 o2), .lit (.int .i64 o3), .lit (.int .i64 o4), .lit (.int .i64 o5), .lit (.int .i64 o6), .lit (.int .i64 o7), .lit (.int .i64 o8), .lit (.int .i64 o9), .lit (.int .i64 o10), .lit (.int .i64 o11), .lit (.int .i64 o12), .lit (.int .i64 o13), .lit (.int .i64 o14)], .agg [.lit (.int .i64 a0), .lit (.int .i64 a1), .lit (.int .i64 a2), .lit (.int .i64 a3), .lit (.int .i64 a4), .lit (.int .i64 a5), .lit (.int .i64 a6), .lit (.int .i64 a7), .lit (.int .i64 a8), .lit (.int .i64 a9), .lit (.int .i64 a10), .lit (.int .i64 a11), .lit (.int .i64 a12), .lit (.int .i64 a13), .lit (.int .i64 a14)]] => some (.tup [aT rowH H fun _ => if okR3 (⟨s0, (Tl rowA s1n s1f)⟩ : Shd) (⟨⟨o0, o1, o2, o3⟩, o4, o5, o6, ⟨o7, o8, o9, o10⟩, ⟨o11, o12, o13, o14⟩⟩ : Arm) (⟨⟨a0, a1, a2, a3⟩, a4, a5, a6, ⟨a7, a8, a9, a10⟩, ⟨a11, a12, a13, a14⟩⟩ : Arm) then ⟨(⟨s0, (Tl rowA s1n s1f)⟩ : Shd).mode, rpl (⟨⟨o0, o1, o2, o3⟩, o4, o5, o6, ⟨o7, o8, o9, o10⟩, ⟨o11, o12, o13, o14⟩⟩ : Arm) (⟨⟨a0, a1, a2, a3⟩, a4, a5, a6, ⟨a7, a8, a9, a10⟩, ⟨a11, a12, a13, a14⟩⟩ : Arm) (⟨s0, (Tl rowA s1n s1f)⟩ : Shd).parts⟩ else shZ, .lit (.int .i64 (H Int fun _ => if okR3 (⟨s0, (Tl rowA s1n s1f)⟩ : Shd) (⟨⟨o0, o1, o2, o3⟩, o4, o5, o6, ⟨o7, o8, o9, o10⟩, ⟨o11, o12, o13, o14⟩⟩ : Arm) (⟨⟨a0, a1, a2, a3⟩, a4, a5, a6, ⟨a7, a8, a9, a10⟩, ⟨a11, a12, a13, a14⟩⟩ : Arm) then (cnr (⟨⟨o0, o1, o2, o3⟩, o4, o5, o6, ⟨o7, o8, o9, o10⟩, ⟨o11, o12, o13, o14⟩⟩ : Arm) (⟨s0, (Tl rowA s1n s1f)⟩ : Shd).parts : Nat) else 0)), .lit (.bool (H Bool fun _ => okR3 (⟨s0, (Tl rowA s1n s1f)⟩ : Shd) (⟨⟨o0, o1, o2, o3⟩, o4, o5, o6, ⟨o7, o8, o9, o10⟩, ⟨o11, o12, o13, o14⟩⟩ : Arm) (⟨⟨a0, a1, a2, a3⟩, a4, a5, a6, ⟨a7, a8, a9, a10⟩, ⟨a11, a12, a13, a14⟩⟩ : Arm)))], [H Prop fun _ => Shp rowA s1n s1f, H Prop fun _ => (⟨s0, (Tl rowA s1n s1f)⟩ : Shd).parts.length ≤ 1000000])
  | _ => none
theorem eok_replHS : EntryOk Try.prog e_replHS := pureM_ok (by unfold isBody; kernel_rfl) (by
  intro a r ob e hob
  split at e
  · rename_i s0 s1n s1f o0 o1 o2 o3 o4 o5 o6 o7 o8 o9 o10 o11 o12 o13 o14 a0 a1 a2 a3 a4 a5 a6 a7 a8 a9 a10 a11 a12 a13 a14
    simp only [Option.some.injEq, Prod.mk.injEq] at e
    obtain ⟨rfl, rfl⟩ := e
    exact ConN.args (.cons (.agg (.cons .rfl (.cons (.toT okRA rfl hob.1) .nil))) (.cons .rfl (.cons .rfl .nil))) (c_replHS (⟨s0, (Tl rowA s1n s1f)⟩ : Shd) (⟨⟨o0, o1, o2, o3⟩, o4, o5, o6, ⟨o7, o8, o9, o10⟩, ⟨o11, o12, o13, o14⟩⟩ : Arm) (⟨⟨a0, a1, a2, a3⟩, a4, a5, a6, ⟨a7, a8, a9, a10⟩, ⟨a11, a12, a13, a14⟩⟩ : Arm) hob.2.1)
  · simp at e)

end Go.Proofs.Ytfamdalilcbloaa.AM
