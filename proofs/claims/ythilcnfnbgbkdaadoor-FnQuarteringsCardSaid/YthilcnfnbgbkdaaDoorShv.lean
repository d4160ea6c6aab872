import Derived.Test.YthilcnfnbgbkdaaDoorAmT
import Derived.Test.YthilcnfnbgbkdaaDoorShd
import Derived.Test.YthilcnfnbgbkdaaDoorSrt
set_option linter.unusedVariables false
set_option linter.unusedSimpArgs false
set_option maxRecDepth 100000
set_option maxHeartbeats 4000000
set_option cbv.maxSteps 3000000
namespace Go.Proofs.YthilcnfnbgbkdaaDoor.AM
/- Shields: valid ones, impaled, quartered, parts; conditions: none. -/
def cntH (m : Int) : Int := if m = 1 then 1 else if m = 2 then 2 else 4
def okH (s : Shd) : Bool := inB s.mode 1 3 && (decide ((s.parts.length : Int) = cntH s.mode) && !s.parts.any fun y => !okA y)
def shZ : Shd := ⟨0, []⟩
theorem cnt_get {m : Int} (h : inB m 1 3 = true) : IntKind.i64.wrap (m - 1) = m - 1 ∧ ([1, 2, 4] : List Int).getD (m - 1).toNat 0 = cntH m := by
  unfold inB at h
  rw [decide_eq_true_eq] at h
  have : m = 1 ∨ m = 2 ∨ m = 3 := by omega
  rcases this with rfl | rfl | rfl <;> decide
theorem cnt_le (m : Int) : cntH m ≤ 4 := by
  unfold cntH
  repeat' split
  all_goals omega
def atH (s : Shd) (r d : Bool) : Int := if s.mode = 2 then (if r then 1 else 0) else if s.mode = 3 then (if r then 1 else 0) + 2 * (if d then 1 else 0) else 0
theorem c_vArmsL (s : List Arm) (t : List Arm) (h0 : s.length ≤ 2000000) : ConN Tryd.prog 8 [.vec 15 (stdH Nat fun _ => (s).length) (rowsA stdH fun _ => s), .vec 15 (stdH Nat fun _ => (t).length) (rowsA stdH fun _ => t)] [] 0 (.lit (.bool (stdH Bool fun _ => decide (s = t)))) [] [] := by
  have hB : Base Tryd.prog (tabΓ []) tab := base_of tabOk (ents_nil)
  refine con_m (N := 26) hB (draw_ok hB mixed) Tryd.func8 rfl rfl (fun H => [.vec 15 (H Nat fun _ => (s).length) (rowsA H fun _ => s), .vec 15 (H Nat fun _ => (t).length) (rowsA H fun _ => t)]) (fun _ => []) 0 (fun H => .lit (.bool (H Bool fun _ => decide (s = t)))) (fun H => []) (fun _ => []) 200 (by simp) (fun x hx => ?_) (by simp [lk]) (by omega) (by simp) ?_
  · simp only [List.mem_cons, List.not_mem_nil, or_false] at hx
    rcases hx with rfl | rfl
    · exact vl_bl okRA s _
    · exact vl_bl okRA t _
  intro X hX hX0 H hH
  conv in Fin.chk _ _ => cbv
  try simp only [Plain_rowsA, Plain_rowsB, Plain_rowsF, Plain_rowsG, Plain_rowsI, Plain_rowsS, Plain_rowsU, Fin.satC_ret, Fin.satC_br, Fin.satC_need, Fin.satC_again, AllP, and_true, true_and, upd, List.length_nil, List.length_cons, Nat.zero_add, if_true, ncast, Int.ofNat_eq_natCast]
  refine ⟨fun h => ?_, fun h => ?_⟩
  · simp only [hH, stdH, decide_eq_true_eq, decide_eq_false_iff_not, Bool.not_eq_true', Bool.not_eq_false', peta, ncast, Int.ofNat_eq_natCast, beq_iff_eq, bne_iff_ne, beq_eq_false_iff_ne, bne_eq_false_iff_eq, ne_eq, Classical.not_not, Int.toNat_natCast, vrow_I, Arm.eta2, Fld.eta, Grp.eta] at h
    try simp only [hH, stdH, decide_eq_true_eq, decide_eq_false_iff_not, Bool.not_eq_true', Bool.not_eq_false', peta, ncast, Int.ofNat_eq_natCast, beq_iff_eq, bne_iff_ne, beq_eq_false_iff_ne, bne_eq_false_iff_eq, ne_eq, Classical.not_not, Int.toNat_natCast, vrow_I, Arm.eta2, Fld.eta, Grp.eta]
    intro e
    exact h (by rw [e])
  · simp only [hH, stdH, decide_eq_true_eq, decide_eq_false_iff_not, Bool.not_eq_true', Bool.not_eq_false', peta, ncast, Int.ofNat_eq_natCast, beq_iff_eq, bne_iff_ne, beq_eq_false_iff_ne, bne_eq_false_iff_eq, ne_eq, Classical.not_not, Int.toNat_natCast, vrow_I, Arm.eta2, Fld.eta, Grp.eta] at h
    have hl : s.length = t.length := by omega
    refine loop_a hB (draw_ok hB mixed) hX hX0 hH false (ι := { i : Nat // i ≤ s.length ∧ ∀ j, j < i → s.getD j default = t.getD j default }) 200 (fun i => [.i (H Int fun _ => (i.1 : Nat))]) (fun i => s.length - i.1) (⟨0, by omega, by omega⟩) ?_ ?_
    · (conv in matchSt _ _ _ _ => cbv); simp only [AllG, AllP, and_true, hH, stdH, ncast, Int.ofNat_eq_natCast, vrow_I, Arm.eta2, Fld.eta, Grp.eta]
      (repeat' (first | rfl | trivial | exact RowsEq.self okRA | exact RowsEq.ofT okRA rfl (Shp_zero _) rfl | exact RowsEq.snoc okRA rfl | exact RowsEq.self okI | exact RowsEq.self okRA | exact List.length_append | refine And.intro ?_ ?_))
    · intro I hI i
      conv in Fin.chk _ _ => cbv
      try simp only [Plain_rowsA, Plain_rowsB, Plain_rowsF, Plain_rowsG, Plain_rowsI, Plain_rowsS, Plain_rowsU, Fin.satC_ret, Fin.satC_br, Fin.satC_need, Fin.satC_again, AllP, and_true, true_and, upd, List.length_nil, List.length_cons, Nat.zero_add, if_true, ncast, Int.ofNat_eq_natCast]
      obtain ⟨i, hi, hj⟩ := i
      refine ⟨fun h1 => ⟨?_, ?_, fun h2 => ?_, fun h2 => ?_⟩, fun h1 => ?_⟩
      · simp only [hH, stdH, decide_eq_true_eq, decide_eq_false_iff_not, Bool.not_eq_true', Bool.not_eq_false', peta, ncast, Int.ofNat_eq_natCast, beq_iff_eq, bne_iff_ne, beq_eq_false_iff_ne, bne_eq_false_iff_eq, ne_eq, Classical.not_not, Int.toNat_natCast, vrow_I, Arm.eta2, Fld.eta, Grp.eta] at h1 ⊢
        omega
      · simp only [hH, stdH, decide_eq_true_eq, decide_eq_false_iff_not, Bool.not_eq_true', Bool.not_eq_false', peta, ncast, Int.ofNat_eq_natCast, beq_iff_eq, bne_iff_ne, beq_eq_false_iff_ne, bne_eq_false_iff_eq, ne_eq, Classical.not_not, Int.toNat_natCast, vrow_I, Arm.eta2, Fld.eta, Grp.eta] at h1 ⊢
        omega
      · simp only [hH, stdH, Int.toNat_natCast] at h2
        try simp only [hH, stdH, decide_eq_true_eq, decide_eq_false_iff_not, Bool.not_eq_true', Bool.not_eq_false', peta, ncast, Int.ofNat_eq_natCast, beq_iff_eq, bne_iff_ne, beq_eq_false_iff_ne, bne_eq_false_iff_eq, ne_eq, Classical.not_not, Int.toNat_natCast, vrow_I, Arm.eta2, Fld.eta, Grp.eta]
        intro e
        rw [e] at h2
        have : ∀ x : Arm, allT [fun _ => x.f.d == x.f.d, fun _ => x.f.l == x.f.l, fun _ => x.f.p == x.f.p, fun _ => x.f.q == x.f.q, fun _ => x.o == x.o, fun _ => x.l == x.l, fun _ => x.t == x.t, fun _ => x.n.c == x.n.c, fun _ => x.n.k == x.n.k, fun _ => x.n.a == x.n.a, fun _ => x.n.t == x.n.t, fun _ => x.r.c == x.r.c, fun _ => x.r.k == x.r.k, fun _ => x.r.a == x.r.a, fun _ => x.r.t == x.r.t] = true := fun x => by simp [allT]
        rw [this] at h2
        cases h2
      · simp only [hH, stdH, decide_eq_true_eq, decide_eq_false_iff_not, Bool.not_eq_true', Bool.not_eq_false', peta, ncast, Int.ofNat_eq_natCast, beq_iff_eq, bne_iff_ne, beq_eq_false_iff_ne, bne_eq_false_iff_eq, ne_eq, Classical.not_not, Int.toNat_natCast, vrow_I, Arm.eta2, Fld.eta, Grp.eta] at h1
        have h3 : s.getD i default = t.getD i default := by
          simp only [hH, stdH, Int.toNat_natCast] at h2
          rw [eqAE] at h2
          simpa using h2
        refine ⟨⟨i + 1, by omega, fun j hj' => ?_⟩, by simp only; omega, ?_⟩
        · rcases Nat.lt_succ_iff_lt_or_eq.1 hj' with h | rfl
          · exact hj j h
          · exact h3
        · rw [hI]
          (conv in matchSt _ _ _ _ => cbv); simp only [AllG, AllP, and_true, hH, stdH, ncast, Int.ofNat_eq_natCast, vrow_I, Arm.eta2, Fld.eta, Grp.eta]
          rw [w1 (by omega)]
          (repeat' (first | rfl | trivial | exact RowsEq.self okRA | exact RowsEq.ofT okRA rfl (Shp_zero _) rfl | exact RowsEq.snoc okRA rfl | exact RowsEq.self okI | exact RowsEq.self okRA | exact List.length_append | refine And.intro ?_ ?_))
      · simp only [hH, stdH, decide_eq_true_eq, decide_eq_false_iff_not, Bool.not_eq_true', Bool.not_eq_false', peta, ncast, Int.ofNat_eq_natCast, beq_iff_eq, bne_iff_ne, beq_eq_false_iff_ne, bne_eq_false_iff_eq, ne_eq, Classical.not_not, Int.toNat_natCast, vrow_I, Arm.eta2, Fld.eta, Grp.eta] at h1 ⊢
        obtain rfl : i = s.length := by omega
        refine List.ext_getElem hl fun j h1 h2 => ?_
        have := hj j h1
        simpa [List.getD_eq_getElem?_getD, h1, h2] using this
noncomputable def e_vArmsL : Entry := pureE 8 fun H a => match a with
  | [.vec 15 sn sf, .vec 15 tn tf] => some (.lit (.bool (H Bool fun _ => decide ((Tl rowA sn sf) = (Tl rowA tn tf)))), [H Prop fun _ => Shp rowA sn sf, H Prop fun _ => Shp rowA tn tf, H Prop fun _ => (Tl rowA sn sf).length ≤ 2000000])
  | _ => none
theorem eok_vArmsL : EntryOk Tryd.prog e_vArmsL := pureM_ok (by unfold isBody; kernel_rfl) (by
  intro a r ob e hob
  split at e
  · rename_i sn sf tn tf
    simp only [Option.some.injEq, Prod.mk.injEq] at e
    obtain ⟨rfl, rfl⟩ := e
    exact ConN.args (.cons (.toT okRA rfl hob.1) (.cons (.toT okRA rfl hob.2.1) .nil)) (c_vArmsL (Tl rowA sn sf) (Tl rowA tn tf) hob.2.2.1)
  · simp at e)
theorem c_vAmong (l : List Arm) (a : Arm) (h0 : l.length ≤ 2000000) : ConN Tryd.prog 11 [.vec 15 (stdH Nat fun _ => (l).length) (rowsA stdH fun _ => l), aT rowA stdH fun _ => a] [] 0 (.lit (.bool (stdH Bool fun _ => l.any fun y => decide (y = a)))) [] [] := by
  have hB : Base Tryd.prog (tabΓ []) tab := base_of tabOk (ents_nil)
  refine con_m (N := 18) hB (draw_ok hB mixed) Tryd.func11 rfl rfl (fun H => [.vec 15 (H Nat fun _ => (l).length) (rowsA H fun _ => l), aT rowA H fun _ => a]) (fun _ => []) 0 (fun H => .lit (.bool (H Bool fun _ => l.any fun y => decide (y = a)))) (fun H => []) (fun _ => []) 200 (by simp) (fun x hx => ?_) (by simp [lk]) (by omega) (by simp) ?_
  · simp only [List.mem_cons, List.not_mem_nil, or_false] at hx
    rcases hx with rfl | rfl
    · exact vl_bl okRA l _
    · exact aT_bl okRA _ _
  intro X hX hX0 H hH
  conv in Fin.chk _ _ => cbv
  try simp only [Plain_rowsA, Plain_rowsB, Plain_rowsF, Plain_rowsG, Plain_rowsI, Plain_rowsS, Plain_rowsU, Fin.satC_ret, Fin.satC_br, Fin.satC_need, Fin.satC_again, AllP, and_true, true_and, upd, List.length_nil, List.length_cons, Nat.zero_add, if_true, ncast, Int.ofNat_eq_natCast]
  refine loop_a hB (draw_ok hB mixed) hX hX0 hH false (ι := { i : Nat // i ≤ l.length ∧ ∀ j, j < i → ¬ l.getD j default = a }) 200 (fun i => [.i (H Int fun _ => (i.1 : Nat))]) (fun i => l.length - i.1) (⟨0, by omega, by omega⟩) ?_ ?_
  · (conv in matchSt _ _ _ _ => cbv); simp only [AllG, AllP, and_true, hH, stdH, ncast, Int.ofNat_eq_natCast, vrow_I, Arm.eta2, Fld.eta, Grp.eta]
    (repeat' (first | rfl | trivial | exact RowsEq.self okRA | exact RowsEq.ofT okRA rfl (Shp_zero _) rfl | exact RowsEq.snoc okRA rfl | exact RowsEq.self okI | exact RowsEq.self okRA | exact List.length_append | refine And.intro ?_ ?_))
  · intro I hI i
    conv in Fin.chk _ _ => cbv
    try simp only [Plain_rowsA, Plain_rowsB, Plain_rowsF, Plain_rowsG, Plain_rowsI, Plain_rowsS, Plain_rowsU, Fin.satC_ret, Fin.satC_br, Fin.satC_need, Fin.satC_again, AllP, and_true, true_and, upd, List.length_nil, List.length_cons, Nat.zero_add, if_true, ncast, Int.ofNat_eq_natCast]
    obtain ⟨i, hi, hj⟩ := i
    refine ⟨fun h1 => ⟨?_, fun h2 => ?_, fun h2 => ?_⟩, fun h1 => ?_⟩
    · simp only [hH, stdH, decide_eq_true_eq, decide_eq_false_iff_not, Bool.not_eq_true', Bool.not_eq_false', peta, ncast, Int.ofNat_eq_natCast, beq_iff_eq, bne_iff_ne, beq_eq_false_iff_ne, bne_eq_false_iff_eq, ne_eq, Classical.not_not, Int.toNat_natCast, vrow_I, Arm.eta2, Fld.eta, Grp.eta] at h1 ⊢
      omega
    · simp only [hH, stdH, decide_eq_true_eq, decide_eq_false_iff_not, Bool.not_eq_true', Bool.not_eq_false', peta, ncast, Int.ofNat_eq_natCast, beq_iff_eq, bne_iff_ne, beq_eq_false_iff_ne, bne_eq_false_iff_eq, ne_eq, Classical.not_not, Int.toNat_natCast, vrow_I, Arm.eta2, Fld.eta, Grp.eta] at h1
      simp only [hH, stdH, Int.toNat_natCast] at h2
      rw [eqAE, decide_eq_true_eq] at h2
      try simp only [hH, stdH, decide_eq_true_eq, decide_eq_false_iff_not, Bool.not_eq_true', Bool.not_eq_false', peta, ncast, Int.ofNat_eq_natCast, beq_iff_eq, bne_iff_ne, beq_eq_false_iff_ne, bne_eq_false_iff_eq, ne_eq, Classical.not_not, Int.toNat_natCast, vrow_I, Arm.eta2, Fld.eta, Grp.eta]
      exact List.any_eq_true.2 ⟨_, getDm (d := default) (show i < l.length by omega), by rw [h2]; simp⟩
    · simp only [hH, stdH, decide_eq_true_eq, decide_eq_false_iff_not, Bool.not_eq_true', Bool.not_eq_false', peta, ncast, Int.ofNat_eq_natCast, beq_iff_eq, bne_iff_ne, beq_eq_false_iff_ne, bne_eq_false_iff_eq, ne_eq, Classical.not_not, Int.toNat_natCast, vrow_I, Arm.eta2, Fld.eta, Grp.eta] at h1
      have h3 : ¬ l.getD i default = a := by
        simp only [hH, stdH, Int.toNat_natCast] at h2
        rw [eqAE] at h2
        simpa using h2
      refine ⟨⟨i + 1, by omega, fun j hj' => ?_⟩, by simp only; omega, ?_⟩
      · rcases Nat.lt_succ_iff_lt_or_eq.1 hj' with h | rfl
        · exact hj j h
        · exact h3
      · rw [hI]
        (conv in matchSt _ _ _ _ => cbv); simp only [AllG, AllP, and_true, hH, stdH, ncast, Int.ofNat_eq_natCast, vrow_I, Arm.eta2, Fld.eta, Grp.eta]
        rw [w1 (by omega)]
        (repeat' (first | rfl | trivial | exact RowsEq.self okRA | exact RowsEq.ofT okRA rfl (Shp_zero _) rfl | exact RowsEq.snoc okRA rfl | exact RowsEq.self okI | exact RowsEq.self okRA | exact List.length_append | refine And.intro ?_ ?_))
    · simp only [hH, stdH, decide_eq_true_eq, decide_eq_false_iff_not, Bool.not_eq_true', Bool.not_eq_false', peta, ncast, Int.ofNat_eq_natCast, beq_iff_eq, bne_iff_ne, beq_eq_false_iff_ne, bne_eq_false_iff_eq, ne_eq, Classical.not_not, Int.toNat_natCast, vrow_I, Arm.eta2, Fld.eta, Grp.eta] at h1 ⊢
      obtain rfl : i = l.length := by omega
      rw [List.any_eq_false]
      intro x hx
      obtain ⟨j, hj', rfl⟩ := List.getElem_of_mem hx
      have := hj j hj'
      rw [List.getD_eq_getElem?_getD, List.getElem?_eq_getElem hj', Option.getD_some] at this
      simpa using this
noncomputable def e_vAmong : Entry := pureE 11 fun H a => match a with
  | [.vec 15 ln lf, .agg [.lit (.int .i64 a0), .lit (.int .i64 a1), .lit (.int .i64 a2), .lit (.int .i64 a3), .lit (.int .i64 a4), .lit (.int .i64 a5), .lit (.int .i64 a6), .lit (.int .i64 a7), .lit (.int .i64 a8), .lit (.int .i64 a9), .lit (.int .i64 a10), .lit (.int .i64 a11), .lit (.int .i64 a12), .lit (.int .i64 a13), .lit (.int .i64 a14)]] => some (.lit (.bool (H Bool fun _ => (Tl rowA ln lf).any fun y => decide (y = (⟨⟨a0, a1, a2, a3⟩, a4, a5, a6, ⟨a7, a8, a9, a10⟩, ⟨a11, a12, a13, a14⟩⟩ : Arm)))), [H Prop fun _ => Shp rowA ln lf, H Prop fun _ => (Tl rowA ln lf).length ≤ 2000000])
  | _ => none
theorem eok_vAmong : EntryOk Tryd.prog e_vAmong := pureM_ok (by unfold isBody; kernel_rfl) (by
  intro a r ob e hob
  split at e
  · rename_i ln lf a0 a1 a2 a3 a4 a5 a6 a7 a8 a9 a10 a11 a12 a13 a14
    simp only [Option.some.injEq, Prod.mk.injEq] at e
    obtain ⟨rfl, rfl⟩ := e
    exact ConN.args (.cons (.toT okRA rfl hob.1) (.cons .rfl .nil)) (c_vAmong (Tl rowA ln lf) (⟨⟨a0, a1, a2, a3⟩, a4, a5, a6, ⟨a7, a8, a9, a10⟩, ⟨a11, a12, a13, a14⟩⟩ : Arm) hob.2.1)
  · simp at e)

end Go.Proofs.YthilcnfnbgbkdaaDoor.AM
