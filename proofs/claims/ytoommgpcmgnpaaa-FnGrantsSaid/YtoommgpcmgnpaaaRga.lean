import Derived.Test.YtoommgpcmgnpaaaAmT
import Derived.Test.YtoommgpcmgnpaaaRgl
set_option linter.unusedVariables false
set_option linter.unusedSimpArgs false
set_option maxRecDepth 100000
set_option maxHeartbeats 4000000
set_option cbv.maxSteps 3000000
namespace Go.Proofs.Ytoommgpcmgnpaaa.AM
/- Grants of arms: found; conditions: none. -/
theorem fa_at {l : List Grt} {a : Arm} {i : Nat} (hi : i < l.length) (h : (l.getD i default).arms = a) (hj : ∀ j, j < i → (l.getD j default).arms ≠ a) : faN l a = (l.getD i default).num ∧ faB l a = true := by
  have e : l.find? (fun y => decide (y.arms = a)) = some (l.getD i default) := by
    rw [List.find?_eq_some_iff_getElem]
    refine ⟨by simpa using h, i, hi, by rw [List.getD_eq_getElem?_getD, List.getElem?_eq_getElem hi, Option.getD_some], fun j hj' => ?_⟩
    have := hj j hj'
    rw [List.getD_eq_getElem?_getD, List.getElem?_eq_getElem (by omega), Option.getD_some] at this
    simpa using this
  constructor
  · unfold faN; rw [e]
  · exact List.any_eq_true.2 ⟨l.getD i default, by
      rw [List.getD_eq_getElem?_getD, List.getElem?_eq_getElem hi, Option.getD_some]
      exact List.getElem_mem _, by simpa using h⟩
theorem fa_no {l : List Grt} {a : Arm} (hj : ∀ j, j < l.length → (l.getD j default).arms ≠ a) : faN l a = 0 ∧ faB l a = false := by
  have hm : ∀ y ∈ l, y.arms ≠ a := fun y hy => by
    obtain ⟨j, hjl, rfl⟩ := List.getElem_of_mem hy
    have := hj j hjl
    rwa [List.getD_eq_getElem?_getD, List.getElem?_eq_getElem hjl, Option.getD_some] at this
  constructor
  · unfold faN
    rw [List.find?_eq_none.2 (fun y hy => by simpa using hm y hy)]
  · unfold faB
    rw [List.any_eq_false]
    exact fun y hy => by simpa using hm y hy
theorem two_n {a b : Bool} (h : (bif !a then true else !b) = true) : (a && b) = false := by cases a <;> cases b <;> simp_all
theorem two_y {a b : Bool} (h : (bif !a then true else !b) = false) : (a && b) = true := by cases a <;> cases b <;> simp_all
theorem c_findA (r : Rgr) (a : Arm) (h0 : r.gs.length ≤ 1000000) (h1 : Nsz r.gs) : ConN Try.prog 27 [aT rowJ stdH fun _ => r, aT rowA stdH fun _ => a] [] 0 (.tup [.lit (.int .i64 (stdH Int fun _ => if okRg r.gs then faN r.gs a else 0)), .lit (.bool (stdH Bool fun _ => okRg r.gs && faB r.gs a))]) [] [] := by
  have hB : Base Try.prog (tabΓ [e_validR]) tab := base_of tabOk (ents_cons eok_validR <| ents_nil)
  refine con_m (N := 25) hB (draw_ok hB mixed) Try.func27 rfl rfl (fun H => [aT rowJ H fun _ => r, aT rowA H fun _ => a]) (fun _ => []) 0 (fun H => .tup [.lit (.int .i64 (H Int fun _ => if okRg r.gs then faN r.gs a else 0)), .lit (.bool (H Bool fun _ => okRg r.gs && faB r.gs a))]) (fun H => []) (fun _ => []) 300 (by simp) (fun x hx => ?_) (by simp [lk]) (by omega) (by simp) ?_
  · simp only [List.mem_cons, List.not_mem_nil, or_false] at hx
    rcases hx with rfl | rfl
    · exact aT_bl okRJ _ _
    · exact aT_bl okRA _ _
  intro X hX hX0 H hH
  conv in Fin.chk _ _ => cbv
  try simp only [Plain_rowsA, Plain_rowsB, Plain_rowsF, Plain_rowsG, Plain_rowsI, Plain_rowsS, Plain_rowsU, Fin.satC_ret, Fin.satC_br, Fin.satC_need, Fin.satC_again, AllP, and_true, true_and, upd, List.length_nil, List.length_cons, Nat.zero_add, if_true, ncast, Int.ofNat_eq_natCast]
  try simp only [TlW_H hH, hetaA hH]
  refine ⟨⟨?_, ?_, ?_⟩, fun h3 => ⟨?_, ?_⟩, fun h3 => ?_⟩
  · try simp only [hH, stdH, decide_eq_true_eq, decide_eq_false_iff_not, Bool.not_eq_true', Bool.not_eq_false', peta, ncast, Int.ofNat_eq_natCast, beq_iff_eq, bne_iff_ne, beq_eq_false_iff_ne, bne_eq_false_iff_eq, ne_eq, Classical.not_not, Int.toNat_natCast, vrow_I, Arm.eta2, Fld.eta, Grp.eta]
    exact Shp_W _ _
  · try simp only [hH, stdH, decide_eq_true_eq, decide_eq_false_iff_not, Bool.not_eq_true', Bool.not_eq_false', peta, ncast, Int.ofNat_eq_natCast, beq_iff_eq, bne_iff_ne, beq_eq_false_iff_ne, bne_eq_false_iff_eq, ne_eq, Classical.not_not, Int.toNat_natCast, vrow_I, Arm.eta2, Fld.eta, Grp.eta]
    omega
  · try simp only [hH, stdH, decide_eq_true_eq, decide_eq_false_iff_not, Bool.not_eq_true', Bool.not_eq_false', peta, ncast, Int.ofNat_eq_natCast, beq_iff_eq, bne_iff_ne, beq_eq_false_iff_ne, bne_eq_false_iff_eq, ne_eq, Classical.not_not, Int.toNat_natCast, vrow_I, Arm.eta2, Fld.eta, Grp.eta]
    exact h1
  · simp only [hH, stdH, Int.toNat_natCast] at h3
    rw [Bool.not_eq_true'] at h3
    try simp only [hH, stdH, decide_eq_true_eq, decide_eq_false_iff_not, Bool.not_eq_true', Bool.not_eq_false', peta, ncast, Int.ofNat_eq_natCast, beq_iff_eq, bne_iff_ne, beq_eq_false_iff_ne, bne_eq_false_iff_eq, ne_eq, Classical.not_not, Int.toNat_natCast, vrow_I, Arm.eta2, Fld.eta, Grp.eta]
    rw [h3]; rfl
  · simp only [hH, stdH, Int.toNat_natCast] at h3
    rw [Bool.not_eq_true'] at h3
    try simp only [hH, stdH, decide_eq_true_eq, decide_eq_false_iff_not, Bool.not_eq_true', Bool.not_eq_false', peta, ncast, Int.ofNat_eq_natCast, beq_iff_eq, bne_iff_ne, beq_eq_false_iff_ne, bne_eq_false_iff_eq, ne_eq, Classical.not_not, Int.toNat_natCast, vrow_I, Arm.eta2, Fld.eta, Grp.eta]
    rw [h3]; rfl
  · simp only [hH, stdH, Int.toNat_natCast] at h3
    rw [Bool.not_eq_false'] at h3
    refine loop_a hB (draw_ok hB mixed) hX hX0 hH false (ι := { i : Nat // i ≤ r.gs.length ∧ ∀ j, j < i → (r.gs.getD j default).arms ≠ a }) 300 (fun i => [.i (H Int fun _ => 0), .b (H Bool fun _ => false), .i (H Int fun _ => (i.1 : Nat))]) (fun i => r.gs.length - i.1) (⟨0, by omega, by omega⟩) ?_ ?_
    · (conv in matchSt _ _ _ _ => cbv); simp only [AllG, AllP, and_true, hH, stdH, ncast, Int.ofNat_eq_natCast, vrow_I, Arm.eta2, Fld.eta, Grp.eta]
      all_goals (repeat' (with_reducible refine And.intro ?_ ?_)) <;> (first | exact Eq.refl _ | exact True.intro | exact RowsEq.self okRW | exact RowsEq.ofT okRW rfl (Shp_zero _) rfl | exact RowsEq.snoc okRW rfl | exact List.length_append | exact c.rqN)
    · intro I hI i
      conv in Fin.chk _ _ => cbv
      try simp only [Plain_rowsA, Plain_rowsB, Plain_rowsF, Plain_rowsG, Plain_rowsI, Plain_rowsS, Plain_rowsU, Fin.satC_ret, Fin.satC_br, Fin.satC_need, Fin.satC_again, AllP, and_true, true_and, upd, List.length_nil, List.length_cons, Nat.zero_add, if_true, ncast, Int.ofNat_eq_natCast]
      obtain ⟨i, hi, hj⟩ := i
      refine ⟨fun h4 => ⟨?_, fun h5 => ⟨?_, ?_⟩, fun h5 => ?_⟩, fun h4 => ⟨?_, ?_⟩⟩
      · simp only [hH, stdH, decide_eq_true_eq, decide_eq_false_iff_not, Bool.not_eq_true', Bool.not_eq_false', peta, ncast, Int.ofNat_eq_natCast, beq_iff_eq, bne_iff_ne, beq_eq_false_iff_ne, bne_eq_false_iff_eq, ne_eq, Classical.not_not, Int.toNat_natCast, vrow_I, Arm.eta2, Fld.eta, Grp.eta] at h4 ⊢
        omega
      · simp only [hH, stdH, decide_eq_true_eq, decide_eq_false_iff_not, Bool.not_eq_true', Bool.not_eq_false', peta, ncast, Int.ofNat_eq_natCast, beq_iff_eq, bne_iff_ne, beq_eq_false_iff_ne, bne_eq_false_iff_eq, ne_eq, Classical.not_not, Int.toNat_natCast, vrow_I, Arm.eta2, Fld.eta, Grp.eta] at h4
        simp only [hH, stdH, Int.toNat_natCast] at h5
        rw [eqAE, decide_eq_true_eq] at h5
        try simp only [hH, stdH, decide_eq_true_eq, decide_eq_false_iff_not, Bool.not_eq_true', Bool.not_eq_false', peta, ncast, Int.ofNat_eq_natCast, beq_iff_eq, bne_iff_ne, beq_eq_false_iff_ne, bne_eq_false_iff_eq, ne_eq, Classical.not_not, Int.toNat_natCast, vrow_I, Arm.eta2, Fld.eta, Grp.eta]
        rw [h3, fa_at (by omega) h5 hj |>.2]; rfl
      · simp only [hH, stdH, decide_eq_true_eq, decide_eq_false_iff_not, Bool.not_eq_true', Bool.not_eq_false', peta, ncast, Int.ofNat_eq_natCast, beq_iff_eq, bne_iff_ne, beq_eq_false_iff_ne, bne_eq_false_iff_eq, ne_eq, Classical.not_not, Int.toNat_natCast, vrow_I, Arm.eta2, Fld.eta, Grp.eta] at h4
        simp only [hH, stdH, Int.toNat_natCast] at h5
        rw [eqAE, decide_eq_true_eq] at h5
        try simp only [hH, stdH, decide_eq_true_eq, decide_eq_false_iff_not, Bool.not_eq_true', Bool.not_eq_false', peta, ncast, Int.ofNat_eq_natCast, beq_iff_eq, bne_iff_ne, beq_eq_false_iff_ne, bne_eq_false_iff_eq, ne_eq, Classical.not_not, Int.toNat_natCast, vrow_I, Arm.eta2, Fld.eta, Grp.eta]
        rw [h3, if_pos rfl, fa_at (by omega) h5 hj |>.1]
      · simp only [hH, stdH, decide_eq_true_eq, decide_eq_false_iff_not, Bool.not_eq_true', Bool.not_eq_false', peta, ncast, Int.ofNat_eq_natCast, beq_iff_eq, bne_iff_ne, beq_eq_false_iff_ne, bne_eq_false_iff_eq, ne_eq, Classical.not_not, Int.toNat_natCast, vrow_I, Arm.eta2, Fld.eta, Grp.eta] at h4
        simp only [hH, stdH, Int.toNat_natCast] at h5
        rw [eqAE, decide_eq_false_iff_not] at h5
        refine ⟨⟨i + 1, by omega, fun j hj' => ?_⟩, by simp only; omega, ?_⟩
        · rcases Nat.lt_succ_iff_lt_or_eq.1 hj' with h | rfl
          · exact hj j h
          · exact h5
        · rw [hI]
          (conv in matchSt _ _ _ _ => cbv); simp only [AllG, AllP, and_true, hH, stdH, ncast, Int.ofNat_eq_natCast, vrow_I, Arm.eta2, Fld.eta, Grp.eta]
          rw [w1 (by omega)]
          all_goals (repeat' (with_reducible refine And.intro ?_ ?_)) <;> (first | exact Eq.refl _ | exact True.intro | exact RowsEq.self okRW | exact RowsEq.ofT okRW rfl (Shp_zero _) rfl | exact RowsEq.snoc okRW rfl | exact List.length_append | exact c.rqN)
      · simp only [hH, stdH, decide_eq_true_eq, decide_eq_false_iff_not, Bool.not_eq_true', Bool.not_eq_false', peta, ncast, Int.ofNat_eq_natCast, beq_iff_eq, bne_iff_ne, beq_eq_false_iff_ne, bne_eq_false_iff_eq, ne_eq, Classical.not_not, Int.toNat_natCast, vrow_I, Arm.eta2, Fld.eta, Grp.eta] at h4
        try simp only [hH, stdH, decide_eq_true_eq, decide_eq_false_iff_not, Bool.not_eq_true', Bool.not_eq_false', peta, ncast, Int.ofNat_eq_natCast, beq_iff_eq, bne_iff_ne, beq_eq_false_iff_ne, bne_eq_false_iff_eq, ne_eq, Classical.not_not, Int.toNat_natCast, vrow_I, Arm.eta2, Fld.eta, Grp.eta]
        rw [h3, fa_no (fun j hj' => hj j (by omega)) |>.2]; rfl
      · simp only [hH, stdH, decide_eq_true_eq, decide_eq_false_iff_not, Bool.not_eq_true', Bool.not_eq_false', peta, ncast, Int.ofNat_eq_natCast, beq_iff_eq, bne_iff_ne, beq_eq_false_iff_ne, bne_eq_false_iff_eq, ne_eq, Classical.not_not, Int.toNat_natCast, vrow_I, Arm.eta2, Fld.eta, Grp.eta] at h4
        try simp only [hH, stdH, decide_eq_true_eq, decide_eq_false_iff_not, Bool.not_eq_true', Bool.not_eq_false', peta, ncast, Int.ofNat_eq_natCast, beq_iff_eq, bne_iff_ne, beq_eq_false_iff_ne, bne_eq_false_iff_eq, ne_eq, Classical.not_not, Int.toNat_natCast, vrow_I, Arm.eta2, Fld.eta, Grp.eta]
        rw [h3, if_pos rfl, fa_no (fun j hj' => hj j (by omega)) |>.1]
noncomputable def e_findA : Entry := pureE 27 fun H a => match a with
  | [.agg [.vec 18 r0n r0f], .agg [.lit (.int .i64 a0), .lit (.int .i64 a1), .lit (.int .i64 a2), .lit (.int .i64 a3), .lit (.int .i64 a4), .lit (.int .i64 a5), .lit (.int .i64 a6), .lit (.int .i64 a7), .lit (.int .i64 a8), .lit (.int .i64 a9), .lit (.int .i64 a10), .lit (.int .i64 a11), .lit (.int .i64 a12), .lit (.int .i64 a13), .lit (.int .i64 a14)]] => some (.tup [.lit (.int .i64 (H Int fun _ => if okRg (⟨(Tl rowW r0n r0f)⟩ : Rgr).gs then faN (⟨(Tl rowW r0n r0f)⟩ : Rgr).gs (⟨⟨a0, a1, a2, a3⟩, a4, a5, a6, ⟨a7, a8, a9, a10⟩, ⟨a11, a12, a13, a14⟩⟩ : Arm) else 0)), .lit (.bool (H Bool fun _ => okRg (⟨(Tl rowW r0n r0f)⟩ : Rgr).gs && faB (⟨(Tl rowW r0n r0f)⟩ : Rgr).gs (⟨⟨a0, a1, a2, a3⟩, a4, a5, a6, ⟨a7, a8, a9, a10⟩, ⟨a11, a12, a13, a14⟩⟩ : Arm)))], [H Prop fun _ => Shp rowW r0n r0f, H Prop fun _ => (⟨(Tl rowW r0n r0f)⟩ : Rgr).gs.length ≤ 1000000, H Prop fun _ => Nsz (⟨(Tl rowW r0n r0f)⟩ : Rgr).gs])
  | _ => none
theorem eok_findA : EntryOk Try.prog e_findA := pureM_ok (by unfold isBody; kernel_rfl) (by
  intro a r ob e hob
  split at e
  · rename_i r0n r0f a0 a1 a2 a3 a4 a5 a6 a7 a8 a9 a10 a11 a12 a13 a14
    simp only [Option.some.injEq, Prod.mk.injEq] at e
    obtain ⟨rfl, rfl⟩ := e
    exact ConN.args (.cons (.agg (.cons (.toT okRW rfl hob.1) .nil)) (.cons .rfl .nil)) (c_findA (⟨(Tl rowW r0n r0f)⟩ : Rgr) (⟨⟨a0, a1, a2, a3⟩, a4, a5, a6, ⟨a7, a8, a9, a10⟩, ⟨a11, a12, a13, a14⟩⟩ : Arm) hob.2.1 hob.2.2.1)
  · simp at e)
theorem c_confW (r : Rgr) (a : Arm) (h0 : r.gs.length ≤ 1000000) (h1 : Nsz r.gs) : ConN Try.prog 26 [aT rowJ stdH fun _ => r, aT rowA stdH fun _ => a] [] 0 (.tup [.vec 1 (stdH Nat fun _ => (if okRg r.gs && okA a then nmb (cnA a) r.gs r.gs.length else []).length) (rowsI stdH fun _ => if okRg r.gs && okA a then nmb (cnA a) r.gs r.gs.length else []), .lit (.bool (stdH Bool fun _ => okRg r.gs && okA a))]) [] [] := by
  have hB : Base Try.prog (tabΓ [e_validR, e_IsValidArms, e_numC]) tab := base_of tabOk (ents_cons eok_validR <| ents_cons eok_IsValidArms <| ents_cons eok_numC <| ents_nil)
  refine con_m (N := 17) hB (draw_ok hB mixed) Try.func26 rfl rfl (fun H => [aT rowJ H fun _ => r, aT rowA H fun _ => a]) (fun _ => []) 0 (fun H => .tup [.vec 1 (H Nat fun _ => (if okRg r.gs && okA a then nmb (cnA a) r.gs r.gs.length else []).length) (rowsI H fun _ => if okRg r.gs && okA a then nmb (cnA a) r.gs r.gs.length else []), .lit (.bool (H Bool fun _ => okRg r.gs && okA a))]) (fun H => []) (fun _ => []) 300 (by simp) (fun x hx => ?_) (by simp [lk]) (by omega) (by simp) ?_
  · simp only [List.mem_cons, List.not_mem_nil, or_false] at hx
    rcases hx with rfl | rfl
    · exact aT_bl okRJ _ _
    · exact aT_bl okRA _ _
  intro X hX hX0 H hH
  conv in Fin.chk _ _ => cbv
  try simp only [Plain_rowsA, Plain_rowsB, Plain_rowsF, Plain_rowsG, Plain_rowsI, Plain_rowsS, Plain_rowsU, Fin.satC_ret, Fin.satC_br, Fin.satC_need, Fin.satC_again, AllP, and_true, true_and, upd, List.length_nil, List.length_cons, Nat.zero_add, if_true, ncast, Int.ofNat_eq_natCast]
  try simp only [TlW_H hH, hetaA hH]
  refine ⟨⟨?_, ?_, ?_⟩, fun h3 => ⟨?_, ?_⟩, fun h3 => ⟨⟨?_, ?_, ?_⟩, ?_, ?_⟩⟩
  · try simp only [hH, stdH, decide_eq_true_eq, decide_eq_false_iff_not, Bool.not_eq_true', Bool.not_eq_false', peta, ncast, Int.ofNat_eq_natCast, beq_iff_eq, bne_iff_ne, beq_eq_false_iff_ne, bne_eq_false_iff_eq, ne_eq, Classical.not_not, Int.toNat_natCast, vrow_I, Arm.eta2, Fld.eta, Grp.eta]
    exact Shp_W _ _
  · try simp only [hH, stdH, decide_eq_true_eq, decide_eq_false_iff_not, Bool.not_eq_true', Bool.not_eq_false', peta, ncast, Int.ofNat_eq_natCast, beq_iff_eq, bne_iff_ne, beq_eq_false_iff_ne, bne_eq_false_iff_eq, ne_eq, Classical.not_not, Int.toNat_natCast, vrow_I, Arm.eta2, Fld.eta, Grp.eta]
    omega
  · try simp only [hH, stdH, decide_eq_true_eq, decide_eq_false_iff_not, Bool.not_eq_true', Bool.not_eq_false', peta, ncast, Int.ofNat_eq_natCast, beq_iff_eq, bne_iff_ne, beq_eq_false_iff_ne, bne_eq_false_iff_eq, ne_eq, Classical.not_not, Int.toNat_natCast, vrow_I, Arm.eta2, Fld.eta, Grp.eta]
    exact h1
  · simp only [hH, stdH, Int.toNat_natCast] at h3
    have e := two_n h3
    try simp only [hH, stdH, decide_eq_true_eq, decide_eq_false_iff_not, Bool.not_eq_true', Bool.not_eq_false', peta, ncast, Int.ofNat_eq_natCast, beq_iff_eq, bne_iff_ne, beq_eq_false_iff_ne, bne_eq_false_iff_eq, ne_eq, Classical.not_not, Int.toNat_natCast, vrow_I, Arm.eta2, Fld.eta, Grp.eta]
    exact e
  · simp only [hH, stdH, Int.toNat_natCast] at h3
    have e := two_n h3
    try simp only [hH, stdH, decide_eq_true_eq, decide_eq_false_iff_not, Bool.not_eq_true', Bool.not_eq_false', peta, ncast, Int.ofNat_eq_natCast, beq_iff_eq, bne_iff_ne, beq_eq_false_iff_ne, bne_eq_false_iff_eq, ne_eq, Classical.not_not, Int.toNat_natCast, vrow_I, Arm.eta2, Fld.eta, Grp.eta]
    rw [e]; rfl
  · try simp only [hH, stdH, decide_eq_true_eq, decide_eq_false_iff_not, Bool.not_eq_true', Bool.not_eq_false', peta, ncast, Int.ofNat_eq_natCast, beq_iff_eq, bne_iff_ne, beq_eq_false_iff_ne, bne_eq_false_iff_eq, ne_eq, Classical.not_not, Int.toNat_natCast, vrow_I, Arm.eta2, Fld.eta, Grp.eta]
    exact Shp_W _ _
  · try simp only [hH, stdH, decide_eq_true_eq, decide_eq_false_iff_not, Bool.not_eq_true', Bool.not_eq_false', peta, ncast, Int.ofNat_eq_natCast, beq_iff_eq, bne_iff_ne, beq_eq_false_iff_ne, bne_eq_false_iff_eq, ne_eq, Classical.not_not, Int.toNat_natCast, vrow_I, Arm.eta2, Fld.eta, Grp.eta]
    omega
  · try simp only [hH, stdH, decide_eq_true_eq, decide_eq_false_iff_not, Bool.not_eq_true', Bool.not_eq_false', peta, ncast, Int.ofNat_eq_natCast, beq_iff_eq, bne_iff_ne, beq_eq_false_iff_ne, bne_eq_false_iff_eq, ne_eq, Classical.not_not, Int.toNat_natCast, vrow_I, Arm.eta2, Fld.eta, Grp.eta]
  · simp only [hH, stdH, Int.toNat_natCast] at h3
    have e := two_y h3
    try simp only [hH, stdH, decide_eq_true_eq, decide_eq_false_iff_not, Bool.not_eq_true', Bool.not_eq_false', peta, ncast, Int.ofNat_eq_natCast, beq_iff_eq, bne_iff_ne, beq_eq_false_iff_ne, bne_eq_false_iff_eq, ne_eq, Classical.not_not, Int.toNat_natCast, vrow_I, Arm.eta2, Fld.eta, Grp.eta]
    exact e
  · simp only [hH, stdH, Int.toNat_natCast] at h3
    have e := two_y h3
    try simp only [hH, stdH, decide_eq_true_eq, decide_eq_false_iff_not, Bool.not_eq_true', Bool.not_eq_false', peta, ncast, Int.ofNat_eq_natCast, beq_iff_eq, bne_iff_ne, beq_eq_false_iff_ne, bne_eq_false_iff_eq, ne_eq, Classical.not_not, Int.toNat_natCast, vrow_I, Arm.eta2, Fld.eta, Grp.eta]
    rw [e, if_pos rfl]
    exact RowsEq.self okI
noncomputable def e_confW : Entry := pureE 26 fun H a => match a with
  | [.agg [.vec 18 r0n r0f], .agg [.lit (.int .i64 a0), .lit (.int .i64 a1), .lit (.int .i64 a2), .lit (.int .i64 a3), .lit (.int .i64 a4), .lit (.int .i64 a5), .lit (.int .i64 a6), .lit (.int .i64 a7), .lit (.int .i64 a8), .lit (.int .i64 a9), .lit (.int .i64 a10), .lit (.int .i64 a11), .lit (.int .i64 a12), .lit (.int .i64 a13), .lit (.int .i64 a14)]] => some (.tup [.vec 1 (H Nat fun _ => (if okRg (⟨(Tl rowW r0n r0f)⟩ : Rgr).gs && okA (⟨⟨a0, a1, a2, a3⟩, a4, a5, a6, ⟨a7, a8, a9, a10⟩, ⟨a11, a12, a13, a14⟩⟩ : Arm) then nmb (cnA (⟨⟨a0, a1, a2, a3⟩, a4, a5, a6, ⟨a7, a8, a9, a10⟩, ⟨a11, a12, a13, a14⟩⟩ : Arm)) (⟨(Tl rowW r0n r0f)⟩ : Rgr).gs (⟨(Tl rowW r0n r0f)⟩ : Rgr).gs.length else []).length) (rowsI H fun _ => if okRg (⟨(Tl rowW r0n r0f)⟩ : Rgr).gs && okA (⟨⟨a0, a1, a2, a3⟩, a4, a5, a6, ⟨a7, a8, a9, a10⟩, ⟨a11, a12, a13, a14⟩⟩ : Arm) then nmb (cnA (⟨⟨a0, a1, a2, a3⟩, a4, a5, a6, ⟨a7, a8, a9, a10⟩, ⟨a11, a12, a13, a14⟩⟩ : Arm)) (⟨(Tl rowW r0n r0f)⟩ : Rgr).gs (⟨(Tl rowW r0n r0f)⟩ : Rgr).gs.length else []), .lit (.bool (H Bool fun _ => okRg (⟨(Tl rowW r0n r0f)⟩ : Rgr).gs && okA (⟨⟨a0, a1, a2, a3⟩, a4, a5, a6, ⟨a7, a8, a9, a10⟩, ⟨a11, a12, a13, a14⟩⟩ : Arm)))], [H Prop fun _ => Shp rowW r0n r0f, H Prop fun _ => (⟨(Tl rowW r0n r0f)⟩ : Rgr).gs.length ≤ 1000000, H Prop fun _ => Nsz (⟨(Tl rowW r0n r0f)⟩ : Rgr).gs])
  | _ => none
theorem eok_confW : EntryOk Try.prog e_confW := pureM_ok (by unfold isBody; kernel_rfl) (by
  intro a r ob e hob
  split at e
  · rename_i r0n r0f a0 a1 a2 a3 a4 a5 a6 a7 a8 a9 a10 a11 a12 a13 a14
    simp only [Option.some.injEq, Prod.mk.injEq] at e
    obtain ⟨rfl, rfl⟩ := e
    exact ConN.args (.cons (.agg (.cons (.toT okRW rfl hob.1) .nil)) (.cons .rfl .nil)) (c_confW (⟨(Tl rowW r0n r0f)⟩ : Rgr) (⟨⟨a0, a1, a2, a3⟩, a4, a5, a6, ⟨a7, a8, a9, a10⟩, ⟨a11, a12, a13, a14⟩⟩ : Arm) hob.2.1 hob.2.2.1)
  · simp at e)
theorem c_grantsOf (r : Rgr) (s : ByteArray) (h0 : r.gs.length ≤ 1000000) (h1 : Nsz r.gs) : ConN Try.prog 29 [aT rowJ stdH fun _ => r, .lit (.string s)] [] 0 (.tup [.vec 1 (stdH Nat fun _ => (if okRg r.gs then nmb (nmE s) r.gs r.gs.length else []).length) (rowsI stdH fun _ => if okRg r.gs then nmb (nmE s) r.gs r.gs.length else []), .lit (.bool (stdH Bool fun _ => okRg r.gs))]) [] [] := by
  have hB : Base Try.prog (tabΓ [e_validR, e_numG]) tab := base_of tabOk (ents_cons eok_validR <| ents_cons eok_numG <| ents_nil)
  refine con_m (N := 12) hB (draw_ok hB mixed) Try.func29 rfl rfl (fun H => [aT rowJ H fun _ => r, .lit (.string s)]) (fun _ => []) 0 (fun H => .tup [.vec 1 (H Nat fun _ => (if okRg r.gs then nmb (nmE s) r.gs r.gs.length else []).length) (rowsI H fun _ => if okRg r.gs then nmb (nmE s) r.gs r.gs.length else []), .lit (.bool (H Bool fun _ => okRg r.gs))]) (fun H => []) (fun _ => []) 300 (by simp) (fun x hx => ?_) (by simp [lk]) (by omega) (by simp) ?_
  · simp only [List.mem_cons, List.not_mem_nil, or_false] at hx
    rcases hx with rfl | rfl
    · exact aT_bl okRJ _ _
    · exact .lit
  intro X hX hX0 H hH
  conv in Fin.chk _ _ => cbv
  try simp only [Plain_rowsA, Plain_rowsB, Plain_rowsF, Plain_rowsG, Plain_rowsI, Plain_rowsS, Plain_rowsU, Fin.satC_ret, Fin.satC_br, Fin.satC_need, Fin.satC_again, AllP, and_true, true_and, upd, List.length_nil, List.length_cons, Nat.zero_add, if_true, ncast, Int.ofNat_eq_natCast]
  try simp only [TlW_H hH, hetaA hH]
  refine ⟨⟨?_, ?_, ?_⟩, fun h3 => ⟨?_, ?_⟩, fun h3 => ⟨⟨?_, ?_, ?_⟩, ?_, ?_⟩⟩
  · try simp only [hH, stdH, decide_eq_true_eq, decide_eq_false_iff_not, Bool.not_eq_true', Bool.not_eq_false', peta, ncast, Int.ofNat_eq_natCast, beq_iff_eq, bne_iff_ne, beq_eq_false_iff_ne, bne_eq_false_iff_eq, ne_eq, Classical.not_not, Int.toNat_natCast, vrow_I, Arm.eta2, Fld.eta, Grp.eta]
    exact Shp_W _ _
  · try simp only [hH, stdH, decide_eq_true_eq, decide_eq_false_iff_not, Bool.not_eq_true', Bool.not_eq_false', peta, ncast, Int.ofNat_eq_natCast, beq_iff_eq, bne_iff_ne, beq_eq_false_iff_ne, bne_eq_false_iff_eq, ne_eq, Classical.not_not, Int.toNat_natCast, vrow_I, Arm.eta2, Fld.eta, Grp.eta]
    omega
  · try simp only [hH, stdH, decide_eq_true_eq, decide_eq_false_iff_not, Bool.not_eq_true', Bool.not_eq_false', peta, ncast, Int.ofNat_eq_natCast, beq_iff_eq, bne_iff_ne, beq_eq_false_iff_ne, bne_eq_false_iff_eq, ne_eq, Classical.not_not, Int.toNat_natCast, vrow_I, Arm.eta2, Fld.eta, Grp.eta]
    exact h1
  · simp only [hH, stdH, Int.toNat_natCast] at h3
    rw [Bool.not_eq_true'] at h3
    try simp only [hH, stdH, decide_eq_true_eq, decide_eq_false_iff_not, Bool.not_eq_true', Bool.not_eq_false', peta, ncast, Int.ofNat_eq_natCast, beq_iff_eq, bne_iff_ne, beq_eq_false_iff_ne, bne_eq_false_iff_eq, ne_eq, Classical.not_not, Int.toNat_natCast, vrow_I, Arm.eta2, Fld.eta, Grp.eta]
    exact h3
  · simp only [hH, stdH, Int.toNat_natCast] at h3
    rw [Bool.not_eq_true'] at h3
    try simp only [hH, stdH, decide_eq_true_eq, decide_eq_false_iff_not, Bool.not_eq_true', Bool.not_eq_false', peta, ncast, Int.ofNat_eq_natCast, beq_iff_eq, bne_iff_ne, beq_eq_false_iff_ne, bne_eq_false_iff_eq, ne_eq, Classical.not_not, Int.toNat_natCast, vrow_I, Arm.eta2, Fld.eta, Grp.eta]
    rw [h3]; rfl
  · try simp only [hH, stdH, decide_eq_true_eq, decide_eq_false_iff_not, Bool.not_eq_true', Bool.not_eq_false', peta, ncast, Int.ofNat_eq_natCast, beq_iff_eq, bne_iff_ne, beq_eq_false_iff_ne, bne_eq_false_iff_eq, ne_eq, Classical.not_not, Int.toNat_natCast, vrow_I, Arm.eta2, Fld.eta, Grp.eta]
    exact Shp_W _ _
  · try simp only [hH, stdH, decide_eq_true_eq, decide_eq_false_iff_not, Bool.not_eq_true', Bool.not_eq_false', peta, ncast, Int.ofNat_eq_natCast, beq_iff_eq, bne_iff_ne, beq_eq_false_iff_ne, bne_eq_false_iff_eq, ne_eq, Classical.not_not, Int.toNat_natCast, vrow_I, Arm.eta2, Fld.eta, Grp.eta]
    omega
  · try simp only [hH, stdH, decide_eq_true_eq, decide_eq_false_iff_not, Bool.not_eq_true', Bool.not_eq_false', peta, ncast, Int.ofNat_eq_natCast, beq_iff_eq, bne_iff_ne, beq_eq_false_iff_ne, bne_eq_false_iff_eq, ne_eq, Classical.not_not, Int.toNat_natCast, vrow_I, Arm.eta2, Fld.eta, Grp.eta]
  · simp only [hH, stdH, Int.toNat_natCast] at h3
    rw [Bool.not_eq_false'] at h3
    try simp only [hH, stdH, decide_eq_true_eq, decide_eq_false_iff_not, Bool.not_eq_true', Bool.not_eq_false', peta, ncast, Int.ofNat_eq_natCast, beq_iff_eq, bne_iff_ne, beq_eq_false_iff_ne, bne_eq_false_iff_eq, ne_eq, Classical.not_not, Int.toNat_natCast, vrow_I, Arm.eta2, Fld.eta, Grp.eta]
    exact h3
  · simp only [hH, stdH, Int.toNat_natCast] at h3
    rw [Bool.not_eq_false'] at h3
    try simp only [hH, stdH, decide_eq_true_eq, decide_eq_false_iff_not, Bool.not_eq_true', Bool.not_eq_false', peta, ncast, Int.ofNat_eq_natCast, beq_iff_eq, bne_iff_ne, beq_eq_false_iff_ne, bne_eq_false_iff_eq, ne_eq, Classical.not_not, Int.toNat_natCast, vrow_I, Arm.eta2, Fld.eta, Grp.eta]
    rw [h3, if_pos rfl]
    exact RowsEq.self okI
noncomputable def e_grantsOf : Entry := pureE 29 fun H a => match a with
  | [.agg [.vec 18 r0n r0f], .lit (.string s)] => some (.tup [.vec 1 (H Nat fun _ => (if okRg (⟨(Tl rowW r0n r0f)⟩ : Rgr).gs then nmb (nmE s) (⟨(Tl rowW r0n r0f)⟩ : Rgr).gs (⟨(Tl rowW r0n r0f)⟩ : Rgr).gs.length else []).length) (rowsI H fun _ => if okRg (⟨(Tl rowW r0n r0f)⟩ : Rgr).gs then nmb (nmE s) (⟨(Tl rowW r0n r0f)⟩ : Rgr).gs (⟨(Tl rowW r0n r0f)⟩ : Rgr).gs.length else []), .lit (.bool (H Bool fun _ => okRg (⟨(Tl rowW r0n r0f)⟩ : Rgr).gs))], [H Prop fun _ => Shp rowW r0n r0f, H Prop fun _ => (⟨(Tl rowW r0n r0f)⟩ : Rgr).gs.length ≤ 1000000, H Prop fun _ => Nsz (⟨(Tl rowW r0n r0f)⟩ : Rgr).gs])
  | _ => none
theorem eok_grantsOf : EntryOk Try.prog e_grantsOf := pureM_ok (by unfold isBody; kernel_rfl) (by
  intro a r ob e hob
  split at e
  · rename_i r0n r0f s
    simp only [Option.some.injEq, Prod.mk.injEq] at e
    obtain ⟨rfl, rfl⟩ := e
    exact ConN.args (.cons (.agg (.cons (.toT okRW rfl hob.1) .nil)) (.cons .rfl .nil)) (c_grantsOf (⟨(Tl rowW r0n r0f)⟩ : Rgr) s hob.2.1 hob.2.2.1)
  · simp at e)

end Go.Proofs.Ytoommgpcmgnpaaa.AM
