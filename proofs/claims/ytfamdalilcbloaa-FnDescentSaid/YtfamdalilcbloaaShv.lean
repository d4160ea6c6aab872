import Derived.Test.YtfamdalilcbloaaAmT
import Derived.Test.YtfamdalilcbloaaShd
import Derived.Test.YtfamdalilcbloaaSrt
set_option linter.unusedVariables false
set_option linter.unusedSimpArgs false
set_option maxRecDepth 100000
set_option maxHeartbeats 4000000
set_option cbv.maxSteps 3000000
namespace Go.Proofs.Ytfamdalilcbloaa.AM
/- Shields: valid ones, impaled, quartered, parts; conditions: none. -/
def cntH (m : Int) : Int := if m = 1 then 1 else if m = 2 then 2 else 4
def okH (s : Shd) : Bool := inB s.mode 1 3 && (decide ((s.parts.length : Int) = cntH s.mode) && !s.parts.any fun y => !okA y)
def shZ : Shd := ⟨0, []⟩
theorem cnt_get {m : Int} (h : inB m 1 3 = true) : IntKind.i64.wrap (m - 1) = m - 1 ∧ ([1, 2, 4] : List Int).getD (m - 1).toNat 0 = cntH m := by
  unfold inB at h
  rw [decide_eq_true_eq] at h
  have : m = 1 ∨ m = 2 ∨ m = 3 := by omega
  rcases this with rfl | rfl | rfl <;> decide
theorem cnt_le (m : Int) : cntH m ≤ 4 := by
  unfold cntH
  repeat' split
  all_goals omega
theorem c_validH (s : Shd) (h0 : s.parts.length ≤ 2000000) : ConN Try.prog 69 [aT rowH stdH fun _ => s] [] 0 (.lit (.bool (stdH Bool fun _ => okH s))) [] [] := by
  have hB : Base Try.prog (tabΓ [e_inside, e_areArms]) tabO := base_of tabOkO (ents_cons eok_inside <| ents_cons eok_areArms <| ents_nil)
  refine con_m (N := 22) hB (draw_ok hB mixed) Try.func69 rfl rfl (fun H => [aT rowH H fun _ => s]) (fun _ => []) 0 (fun H => .lit (.bool (H Bool fun _ => okH s))) (fun H => []) (fun _ => []) 200 (by simp) (fun x hx => ?_) (by simp [lk]) (by omega) (by simp) ?_
  · simp only [List.mem_cons, List.not_mem_nil, or_false] at hx
    rcases hx with rfl
    · exact aT_bl okRH _ _
  intro X hX hX0 H hH
  conv in Fin.chk _ _ => cbv
  try simp only [Plain_rowsA, Plain_rowsB, Plain_rowsF, Plain_rowsG, Plain_rowsI, Plain_rowsS, Plain_rowsU, Fin.satC_ret, Fin.satC_br, Fin.satC_need, Fin.satC_again, AllP, and_true, true_and, upd, List.length_nil, List.length_cons, Nat.zero_add, if_true, ncast, Int.ofNat_eq_natCast]
  subst hH
  simp only [stdH, Tl_A]
  cases hm : inB s.mode 1 3 with
  | false =>
    have : okH s = false := by unfold okH; rw [hm]; rfl
    rw [this]
    simp
  | true =>
    obtain ⟨e1, e2⟩ := cnt_get hm
    have hb : 1 ≤ s.mode ∧ s.mode ≤ 3 := by
      unfold inB at hm
      rw [decide_eq_true_eq] at hm
      exact hm
    rw [e1, e2]
    refine ⟨fun _ => ⟨by omega, by have : ((3 : Nat) : Int) = 3 := rfl; omega⟩, fun h => ?_, fun h => ⟨⟨Shp_A _ _, h0⟩, ?_⟩⟩
    · simp only [Bool.not_true, cond_false, bne_iff_ne, ne_eq] at h
      unfold okH
      rw [decide_eq_false h]; simp
    · simp only [Bool.not_true, cond_false, bne_eq_false_iff_eq] at h
      have h4 := cnt_le s.mode
      unfold okH
      rw [hm, decide_eq_true h, decide_eq_true (by omega)]; rfl
noncomputable def e_validH : Entry := pureE 69 fun H a => match a with
  | [.agg [.lit (.int .i64 s0), .vec 15 s1n s1f]] => some (.lit (.bool (H Bool fun _ => okH (⟨s0, (Tl rowA s1n s1f)⟩ : Shd))), [H Prop fun _ => Shp rowA s1n s1f, H Prop fun _ => (⟨s0, (Tl rowA s1n s1f)⟩ : Shd).parts.length ≤ 2000000])
  | _ => none
theorem eok_validH : EntryOk Try.prog e_validH := pureM_ok (by unfold isBody; kernel_rfl) (by
  intro a r ob e hob
  split at e
  · rename_i s0 s1n s1f
    simp only [Option.some.injEq, Prod.mk.injEq] at e
    obtain ⟨rfl, rfl⟩ := e
    exact ConN.args (.cons (.agg (.cons .rfl (.cons (.toT okRA rfl hob.1) .nil))) .nil) (c_validH (⟨s0, (Tl rowA s1n s1f)⟩ : Shd) hob.2.1)
  · simp at e)
theorem c_l20Count (m : Int)  : ConN Try.prog 100 [.lit (.int .i64 m)] [] 0 (.lit (.int .i64 (stdH Int fun _ => if m = 1 then 1 else if m = 2 then 2 else if m = 3 then 4 else 0))) [] [] := by
  have hB : Base Try.prog (tabΓ []) tab := base_of tabOk (ents_nil)
  refine con_m (N := 10) hB (draw_ok hB mixed) Try.func100 rfl rfl (fun H => [.lit (.int .i64 m)]) (fun _ => []) 0 (fun H => .lit (.int .i64 (H Int fun _ => if m = 1 then 1 else if m = 2 then 2 else if m = 3 then 4 else 0))) (fun H => []) (fun _ => []) 100 (by simp) (fun x hx => ?_) (by simp [lk]) (by omega) (by simp) ?_
  · simp only [List.mem_cons, List.not_mem_nil, or_false] at hx
    rcases hx with rfl
    · exact .lit
  intro X hX hX0 H hH
  conv in Fin.chk _ _ => cbv
  try simp only [Plain_rowsA, Plain_rowsB, Plain_rowsF, Plain_rowsG, Plain_rowsI, Plain_rowsS, Plain_rowsU, Fin.satC_ret, Fin.satC_br, Fin.satC_need, Fin.satC_again, AllP, and_true, true_and, upd, List.length_nil, List.length_cons, Nat.zero_add, if_true, ncast, Int.ofNat_eq_natCast]
  subst hH
  simp only [stdH, beq_iff_eq, beq_eq_false_iff_ne, ne_eq]
  refine ⟨fun h => ?_, fun h => ⟨fun h2 => ?_, fun h2 => ⟨fun h3 => ?_, fun h3 => ?_⟩⟩⟩
  · rw [if_pos h]
  · rw [if_neg h, if_pos h2]
  · rw [if_neg h, if_neg h2, if_pos h3]
  · rw [if_neg h, if_neg h2, if_neg h3]
noncomputable def e_l20Count : Entry := pureE 100 fun H a => match a with
  | [.lit (.int .i64 m)] => some (.lit (.int .i64 (H Int fun _ => if m = 1 then 1 else if m = 2 then 2 else if m = 3 then 4 else 0)), [])
  | _ => none
theorem eok_l20Count : EntryOk Try.prog e_l20Count := pureM_ok (by unfold isBody; kernel_rfl) (by
  intro a r ob e hob
  split at e
  · rename_i m
    simp only [Option.some.injEq, Prod.mk.injEq] at e
    obtain ⟨rfl, rfl⟩ := e
    exact ConN.args (.cons .rfl .nil) (c_l20Count m )
  · simp at e)
theorem c_l20Good (s : Shd) (h0 : s.parts.length ≤ 2000000) : ConN Try.prog 74 [aT rowH stdH fun _ => s] [] 0 (.lit (.bool (stdH Bool fun _ => okH s))) [] [] := by
  have hB : Base Try.prog (tabΓ [e_l20Count, e_l5Good]) tab := base_of tabOk (ents_cons eok_l20Count <| ents_cons eok_l5Good <| ents_nil)
  refine con_m (N := 31) hB (draw_ok hB mixed) Try.func74 rfl rfl (fun H => [aT rowH H fun _ => s]) (fun _ => []) 0 (fun H => .lit (.bool (H Bool fun _ => okH s))) (fun H => []) (fun _ => []) 200 (by simp) (fun x hx => ?_) (by simp [lk]) (by omega) (by simp) ?_
  · simp only [List.mem_cons, List.not_mem_nil, or_false] at hx
    rcases hx with rfl
    · exact aT_bl okRH _ _
  intro X hX hX0 H hH
  conv in Fin.chk _ _ => cbv
  try simp only [Plain_rowsA, Plain_rowsB, Plain_rowsF, Plain_rowsG, Plain_rowsI, Plain_rowsS, Plain_rowsU, Fin.satC_ret, Fin.satC_br, Fin.satC_need, Fin.satC_again, AllP, and_true, true_and, upd, List.length_nil, List.length_cons, Nat.zero_add, if_true, ncast, Int.ofNat_eq_natCast]
  refine ⟨fun h => ?_, fun h => ?_⟩
  · simp only [hH, stdH] at h ⊢
    unfold okH inB cntH
    by_cases m1 : s.mode = 1
    · simp [m1] at h ⊢; omega
    · by_cases m2 : s.mode = 2
      · simp [m2] at h ⊢; omega
      · by_cases m3 : s.mode = 3
        · simp [m3] at h ⊢; omega
        · have : decide (1 ≤ s.mode ∧ s.mode ≤ 3) = false := decide_eq_false (by omega)
          simp [this]
  · have hc : inB s.mode 1 3 = true ∧ (s.parts.length : Int) = cntH s.mode := by
      simp only [hH, stdH] at h
      unfold inB cntH
      by_cases m1 : s.mode = 1
      · simp [m1] at h ⊢; omega
      · by_cases m2 : s.mode = 2
        · simp [m2] at h ⊢; omega
        · by_cases m3 : s.mode = 3
          · simp [m3] at h ⊢; omega
          · simp [m1, m2, m3] at h
    have he : okH s = !s.parts.any fun y => !okA y := by
      unfold okH
      rw [hc.1, decide_eq_true hc.2]; rfl
    clear h
    refine loop_a hB (draw_ok hB mixed) hX hX0 hH false (ι := { i : Nat // i ≤ s.parts.length ∧ ∀ j, j < i → okA (s.parts.getD j default) = true }) 200 (fun i => [.i (H Int fun _ => (i.1 : Nat))]) (fun i => s.parts.length - i.1) (⟨0, by omega, by omega⟩) ?_ ?_
    · (conv in matchSt _ _ _ _ => cbv); simp only [AllG, AllP, and_true, hH, stdH, ncast, Int.ofNat_eq_natCast, vrow_I, Arm.eta2, Fld.eta, Grp.eta]
      (repeat' (first | trivial | exact RowsEq.self okRA | rfl | refine And.intro ?_ ?_))
    · intro I hI i
      conv in Fin.chk _ _ => cbv
      try simp only [Plain_rowsA, Plain_rowsB, Plain_rowsF, Plain_rowsG, Plain_rowsI, Plain_rowsS, Plain_rowsU, Fin.satC_ret, Fin.satC_br, Fin.satC_need, Fin.satC_again, AllP, and_true, true_and, upd, List.length_nil, List.length_cons, Nat.zero_add, if_true, ncast, Int.ofNat_eq_natCast]
      obtain ⟨i, hi, hall⟩ := i
      refine ⟨fun h1 => ⟨?_, fun h2 => ?_, fun h2 => ?_⟩, fun h1 => ?_⟩
      · simp only [hH, stdH, decide_eq_true_eq, decide_eq_false_iff_not, Bool.not_eq_true', Bool.not_eq_false', peta, ncast, Int.ofNat_eq_natCast, beq_iff_eq, bne_iff_ne, beq_eq_false_iff_ne, bne_eq_false_iff_eq, ne_eq, Classical.not_not, Int.toNat_natCast, vrow_I, Arm.eta2, Fld.eta, Grp.eta] at h1 ⊢
        omega
      · simp only [hH, stdH, decide_eq_true_eq, decide_eq_false_iff_not, Bool.not_eq_true', Bool.not_eq_false', peta, ncast, Int.ofNat_eq_natCast, beq_iff_eq, bne_iff_ne, beq_eq_false_iff_ne, bne_eq_false_iff_eq, ne_eq, Classical.not_not, Int.toNat_natCast, vrow_I, Arm.eta2, Fld.eta, Grp.eta] at h1
        simp only [hH, stdH, Int.toNat_natCast] at h2
        simp only [Arm.eta2, Fld.eta, Grp.eta] at h2
        try simp only [hH, stdH, decide_eq_true_eq, decide_eq_false_iff_not, Bool.not_eq_true', Bool.not_eq_false', peta, ncast, Int.ofNat_eq_natCast, beq_iff_eq, bne_iff_ne, beq_eq_false_iff_ne, bne_eq_false_iff_eq, ne_eq, Classical.not_not, Int.toNat_natCast, vrow_I, Arm.eta2, Fld.eta, Grp.eta]
        rw [he, Bool.not_eq_false']
        exact List.any_eq_true.2 ⟨_, getDm (d := default) (show i < s.parts.length by omega), h2⟩
      · simp only [hH, stdH, decide_eq_true_eq, decide_eq_false_iff_not, Bool.not_eq_true', Bool.not_eq_false', peta, ncast, Int.ofNat_eq_natCast, beq_iff_eq, bne_iff_ne, beq_eq_false_iff_ne, bne_eq_false_iff_eq, ne_eq, Classical.not_not, Int.toNat_natCast, vrow_I, Arm.eta2, Fld.eta, Grp.eta] at h1
        have h3 : okA (s.parts.getD i default) = true := by
          simp only [hH, stdH, Int.toNat_natCast] at h2
          simp only [Arm.eta2, Fld.eta, Grp.eta] at h2
          simpa using h2
        refine ⟨⟨i + 1, by omega, fun j hj => ?_⟩, by simp only; omega, ?_⟩
        · rcases Nat.lt_succ_iff_lt_or_eq.1 hj with h | rfl
          · exact hall j h
          · exact h3
        · rw [hI]
          (conv in matchSt _ _ _ _ => cbv); simp only [AllG, AllP, and_true, hH, stdH, ncast, Int.ofNat_eq_natCast, vrow_I, Arm.eta2, Fld.eta, Grp.eta]
          rw [w1 (by omega)]
          (repeat' (first | trivial | exact RowsEq.self okRA | rfl | refine And.intro ?_ ?_))
      · simp only [hH, stdH, decide_eq_true_eq, decide_eq_false_iff_not, Bool.not_eq_true', Bool.not_eq_false', peta, ncast, Int.ofNat_eq_natCast, beq_iff_eq, bne_iff_ne, beq_eq_false_iff_ne, bne_eq_false_iff_eq, ne_eq, Classical.not_not, Int.toNat_natCast, vrow_I, Arm.eta2, Fld.eta, Grp.eta] at h1 ⊢
        obtain rfl : i = s.parts.length := by omega
        rw [he, Bool.not_eq_true', List.any_eq_false]
        intro x hx
        obtain ⟨j, hj, rfl⟩ := List.getElem_of_mem hx
        have := hall j hj
        rw [List.getD_eq_getElem?_getD, List.getElem?_eq_getElem hj, Option.getD_some] at this
        simp [this]
noncomputable def e_l20Good : Entry := pureE 74 fun H a => match a with
  | [.agg [.lit (.int .i64 s0), .vec 15 s1n s1f]] => some (.lit (.bool (H Bool fun _ => okH (⟨s0, (Tl rowA s1n s1f)⟩ : Shd))), [H Prop fun _ => Shp rowA s1n s1f, H Prop fun _ => (⟨s0, (Tl rowA s1n s1f)⟩ : Shd).parts.length ≤ 2000000])
  | _ => none
theorem eok_l20Good : EntryOk Try.prog e_l20Good := pureM_ok (by unfold isBody; kernel_rfl) (by
  intro a r ob e hob
  split at e
  · rename_i s0 s1n s1f
    simp only [Option.some.injEq, Prod.mk.injEq] at e
    obtain ⟨rfl, rfl⟩ := e
    exact ConN.args (.cons (.agg (.cons .rfl (.cons (.toT okRA rfl hob.1) .nil))) .nil) (c_l20Good (⟨s0, (Tl rowA s1n s1f)⟩ : Shd) hob.2.1)
  · simp at e)
theorem c_impale (a : Arm) (z : Arm)  : ConN Try.prog 39 [aT rowA stdH fun _ => a, aT rowA stdH fun _ => z] [] 0 (.tup [aT rowH stdH fun _ => if okA a && okA z then ⟨2, [a, z]⟩ else shZ, .lit (.bool (stdH Bool fun _ => okA a && okA z))]) [] [] := by
  have hB : Base Try.prog (tabΓ [e_IsValidArms]) tab := base_of tabOk (ents_cons eok_IsValidArms <| ents_nil)
  refine con_m (N := 19) hB (draw_ok hB mixed) Try.func39 rfl rfl (fun H => [aT rowA H fun _ => a, aT rowA H fun _ => z]) (fun _ => []) 0 (fun H => .tup [aT rowH H fun _ => if okA a && okA z then ⟨2, [a, z]⟩ else shZ, .lit (.bool (H Bool fun _ => okA a && okA z))]) (fun H => []) (fun _ => []) 200 (by simp) (fun x hx => ?_) (by simp [lk]) (by omega) (by simp) ?_
  · simp only [List.mem_cons, List.not_mem_nil, or_false] at hx
    rcases hx with rfl | rfl
    · exact aT_bl okRA _ _
    · exact aT_bl okRA _ _
  intro X hX hX0 H hH
  conv in Fin.chk _ _ => cbv
  try simp only [Plain_rowsA, Plain_rowsB, Plain_rowsF, Plain_rowsG, Plain_rowsI, Plain_rowsS, Plain_rowsU, Fin.satC_ret, Fin.satC_br, Fin.satC_need, Fin.satC_again, AllP, and_true, true_and, upd, List.length_nil, List.length_cons, Nat.zero_add, if_true, ncast, Int.ofNat_eq_natCast]
  subst hH
  simp only [stdH, Arm.eta2, Fld.eta, Grp.eta]
  cases ha : okA a <;> cases hz : okA z <;> simp only [Bool.not_true, Bool.not_false, Bool.and_self, Bool.and_true, Bool.and_false, Bool.true_and, Bool.false_and, cond_true, cond_false, if_true, Bool.false_eq_true, if_false]
  all_goals (repeat' (first | trivial | rfl | exact RowsEq.lit okRA rfl rfl | refine And.intro ?_ ?_ | (intro h; first | (cases h; done) | skip)))
noncomputable def e_impale : Entry := pureE 39 fun H a => match a with
  | [.agg [.lit (.int .i64 a0), .lit (.int .i64 a1), .lit (.int .i64 a2), .lit (.int .i64 a3), .lit (.int .i64 a4), .lit (.int .i64 a5), .lit (.int .i64 a6), .lit (.int .i64 a7), .lit (.int .i64 a8), .lit (.int .i64 a9), .lit (.int .i64 a10), .lit (.int .i64 a11), .lit (.int .i64 a12), .lit (.int .i64 a13), .lit (.int .i64 a14)], .agg [.lit (.int .i64 z0), .lit (.int .i64 z1), .lit (.int .i64 z2), .lit (.int .i64 z3), .lit (.int .i64 z4), .lit (.int .i64 z5), .lit (.int .i64 z6), .lit (.int .i64 z7), .lit (.int .i64 z8), .lit (.int .i64 z9), .lit (.int .i64 z10), .lit (.int .i64 z11), .lit (.int .i64 z12), .lit (.int .i64 z13), .lit (.int .i64 z14)]] => some (.tup [aT rowH H fun _ => if okA (⟨⟨a0, a1, a2, a3⟩, a4, a5, a6, ⟨a7, a8, a9, a10⟩, ⟨a11, a12, a13, a14⟩⟩ : Arm) && okA (⟨⟨z0, z1, z2, z3⟩, z4, z5, z6, ⟨z7, z8, z9, z10⟩, ⟨z11, z12, z13, z14⟩⟩ : Arm) then ⟨2, [(⟨⟨a0, a1, a2, a3⟩, a4, a5, a6, ⟨a7, a8, a9, a10⟩, ⟨a11, a12, a13, a14⟩⟩ : Arm), (⟨⟨z0, z1, z2, z3⟩, z4, z5, z6, ⟨z7, z8, z9, z10⟩, ⟨z11, z12, z13, z14⟩⟩ : Arm)]⟩ else shZ, .lit (.bool (H Bool fun _ => okA (⟨⟨a0, a1, a2, a3⟩, a4, a5, a6, ⟨a7, a8, a9, a10⟩, ⟨a11, a12, a13, a14⟩⟩ : Arm) && okA (⟨⟨z0, z1, z2, z3⟩, z4, z5, z6, ⟨z7, z8, z9, z10⟩, ⟨z11, z12, z13, z14⟩⟩ : Arm)))], [])
  | _ => none
theorem eok_impale : EntryOk Try.prog e_impale := pureM_ok (by unfold isBody; kernel_rfl) (by
  intro a r ob e hob
  split at e
  · rename_i a0 a1 a2 a3 a4 a5 a6 a7 a8 a9 a10 a11 a12 a13 a14 z0 z1 z2 z3 z4 z5 z6 z7 z8 z9 z10 z11 z12 z13 z14
    simp only [Option.some.injEq, Prod.mk.injEq] at e
    obtain ⟨rfl, rfl⟩ := e
    exact ConN.args (.cons .rfl (.cons .rfl .nil)) (c_impale (⟨⟨a0, a1, a2, a3⟩, a4, a5, a6, ⟨a7, a8, a9, a10⟩, ⟨a11, a12, a13, a14⟩⟩ : Arm) (⟨⟨z0, z1, z2, z3⟩, z4, z5, z6, ⟨z7, z8, z9, z10⟩, ⟨z11, z12, z13, z14⟩⟩ : Arm) )
  · simp at e)
theorem c_quarter (a : Arm) (z : Arm)  : ConN Try.prog 40 [aT rowA stdH fun _ => a, aT rowA stdH fun _ => z] [] 0 (.tup [aT rowH stdH fun _ => if okA a && okA z then ⟨3, [a, z, z, a]⟩ else shZ, .lit (.bool (stdH Bool fun _ => okA a && okA z))]) [] [] := by
  have hB : Base Try.prog (tabΓ [e_IsValidArms]) tab := base_of tabOk (ents_cons eok_IsValidArms <| ents_nil)
  refine con_m (N := 21) hB (draw_ok hB mixed) Try.func40 rfl rfl (fun H => [aT rowA H fun _ => a, aT rowA H fun _ => z]) (fun _ => []) 0 (fun H => .tup [aT rowH H fun _ => if okA a && okA z then ⟨3, [a, z, z, a]⟩ else shZ, .lit (.bool (H Bool fun _ => okA a && okA z))]) (fun H => []) (fun _ => []) 200 (by simp) (fun x hx => ?_) (by simp [lk]) (by omega) (by simp) ?_
  · simp only [List.mem_cons, List.not_mem_nil, or_false] at hx
    rcases hx with rfl | rfl
    · exact aT_bl okRA _ _
    · exact aT_bl okRA _ _
  intro X hX hX0 H hH
  conv in Fin.chk _ _ => cbv
  try simp only [Plain_rowsA, Plain_rowsB, Plain_rowsF, Plain_rowsG, Plain_rowsI, Plain_rowsS, Plain_rowsU, Fin.satC_ret, Fin.satC_br, Fin.satC_need, Fin.satC_again, AllP, and_true, true_and, upd, List.length_nil, List.length_cons, Nat.zero_add, if_true, ncast, Int.ofNat_eq_natCast]
  subst hH
  simp only [stdH, Arm.eta2, Fld.eta, Grp.eta]
  cases ha : okA a <;> cases hz : okA z <;> simp only [Bool.not_true, Bool.not_false, Bool.and_self, Bool.and_true, Bool.and_false, Bool.true_and, Bool.false_and, cond_true, cond_false, if_true, Bool.false_eq_true, if_false]
  all_goals (repeat' (first | trivial | rfl | exact RowsEq.lit okRA rfl rfl | refine And.intro ?_ ?_ | (intro h; first | (cases h; done) | skip)))
noncomputable def e_quarter : Entry := pureE 40 fun H a => match a with
  | [.agg [.lit (.int .i64 a0), .lit (.int .i64 a1), .lit (.int .i64 a2), .lit (.int .i64 a3), .lit (.int .i64 a4), .lit (.int .i64 a5), .lit (.int .i64 a6), .lit (.int .i64 a7), .lit (.int .i64 a8), .lit (.int .i64 a9), .lit (.int .i64 a10), .lit (.int .i64 a11), .lit (.int .i64 a12), .lit (.int .i64 a13), .lit (.int .i64 a14)], .agg [.lit (.int .i64 z0), .lit (.int .i64 z1), .lit (.int .i64 z2), .lit (.int .i64 z3), .lit (.int .i64 z4), .lit (.int .i64 z5), .lit (.int .i64 z6), .lit (.int .i64 z7), .lit (.int .i64 z8), .lit (.int .i64 z9), .lit (.int .i64 z10), .lit (.int .i64 z11), .lit (.int .i64 z12), .lit (.int .i64 z13), .lit (.int .i64 z14)]] => some (.tup [aT rowH H fun _ => if okA (⟨⟨a0, a1, a2, a3⟩, a4, a5, a6, ⟨a7, a8, a9, a10⟩, ⟨a11, a12, a13, a14⟩⟩ : Arm) && okA (⟨⟨z0, z1, z2, z3⟩, z4, z5, z6, ⟨z7, z8, z9, z10⟩, ⟨z11, z12, z13, z14⟩⟩ : Arm) then ⟨3, [(⟨⟨a0, a1, a2, a3⟩, a4, a5, a6, ⟨a7, a8, a9, a10⟩, ⟨a11, a12, a13, a14⟩⟩ : Arm), (⟨⟨z0, z1, z2, z3⟩, z4, z5, z6, ⟨z7, z8, z9, z10⟩, ⟨z11, z12, z13, z14⟩⟩ : Arm), (⟨⟨z0, z1, z2, z3⟩, z4, z5, z6, ⟨z7, z8, z9, z10⟩, ⟨z11, z12, z13, z14⟩⟩ : Arm), (⟨⟨a0, a1, a2, a3⟩, a4, a5, a6, ⟨a7, a8, a9, a10⟩, ⟨a11, a12, a13, a14⟩⟩ : Arm)]⟩ else shZ, .lit (.bool (H Bool fun _ => okA (⟨⟨a0, a1, a2, a3⟩, a4, a5, a6, ⟨a7, a8, a9, a10⟩, ⟨a11, a12, a13, a14⟩⟩ : Arm) && okA (⟨⟨z0, z1, z2, z3⟩, z4, z5, z6, ⟨z7, z8, z9, z10⟩, ⟨z11, z12, z13, z14⟩⟩ : Arm)))], [])
  | _ => none
theorem eok_quarter : EntryOk Try.prog e_quarter := pureM_ok (by unfold isBody; kernel_rfl) (by
  intro a r ob e hob
  split at e
  · rename_i a0 a1 a2 a3 a4 a5 a6 a7 a8 a9 a10 a11 a12 a13 a14 z0 z1 z2 z3 z4 z5 z6 z7 z8 z9 z10 z11 z12 z13 z14
    simp only [Option.some.injEq, Prod.mk.injEq] at e
    obtain ⟨rfl, rfl⟩ := e
    exact ConN.args (.cons .rfl (.cons .rfl .nil)) (c_quarter (⟨⟨a0, a1, a2, a3⟩, a4, a5, a6, ⟨a7, a8, a9, a10⟩, ⟨a11, a12, a13, a14⟩⟩ : Arm) (⟨⟨z0, z1, z2, z3⟩, z4, z5, z6, ⟨z7, z8, z9, z10⟩, ⟨z11, z12, z13, z14⟩⟩ : Arm) )
  · simp at e)
theorem c_impaleS (a : Arm) (z : Arm)  : ConN Try.prog 41 [aT rowA stdH fun _ => a, aT rowA stdH fun _ => z] [] 0 (.tup [aT rowH stdH fun _ => if okA a && okA z then ⟨2, [a, z]⟩ else shZ, .lit (.bool (stdH Bool fun _ => okA a && okA z))]) [] [] := by
  have hB : Base Try.prog (tabΓ [e_l5Good]) tab := base_of tabOk (ents_cons eok_l5Good <| ents_nil)
  refine con_m (N := 19) hB (draw_ok hB mixed) Try.func41 rfl rfl (fun H => [aT rowA H fun _ => a, aT rowA H fun _ => z]) (fun _ => []) 0 (fun H => .tup [aT rowH H fun _ => if okA a && okA z then ⟨2, [a, z]⟩ else shZ, .lit (.bool (H Bool fun _ => okA a && okA z))]) (fun H => []) (fun _ => []) 200 (by simp) (fun x hx => ?_) (by simp [lk]) (by omega) (by simp) ?_
  · simp only [List.mem_cons, List.not_mem_nil, or_false] at hx
    rcases hx with rfl | rfl
    · exact aT_bl okRA _ _
    · exact aT_bl okRA _ _
  intro X hX hX0 H hH
  conv in Fin.chk _ _ => cbv
  try simp only [Plain_rowsA, Plain_rowsB, Plain_rowsF, Plain_rowsG, Plain_rowsI, Plain_rowsS, Plain_rowsU, Fin.satC_ret, Fin.satC_br, Fin.satC_need, Fin.satC_again, AllP, and_true, true_and, upd, List.length_nil, List.length_cons, Nat.zero_add, if_true, ncast, Int.ofNat_eq_natCast]
  subst hH
  simp only [stdH, Arm.eta2, Fld.eta, Grp.eta]
  cases ha : okA a <;> cases hz : okA z <;> simp only [Bool.not_true, Bool.not_false, Bool.and_self, Bool.and_true, Bool.and_false, Bool.true_and, Bool.false_and, cond_true, cond_false, if_true, Bool.false_eq_true, if_false]
  all_goals (repeat' (first | trivial | rfl | exact RowsEq.lit okRA rfl rfl | refine And.intro ?_ ?_ | (intro h; first | (cases h; done) | skip)))
noncomputable def e_impaleS : Entry := pureE 41 fun H a => match a with
  | [.agg [.lit (.int .i64 a0), .lit (.int .i64 a1), .lit (.int .i64 a2), .lit (.int .i64 a3), .lit (.int .i64 a4), .lit (.int .i64 a5), .lit (.int .i64 a6), .lit (.int .i64 a7), .lit (.int .i64 a8), .lit (.int .i64 a9), .lit (.int .i64 a10), .lit (.int .i64 a11), .lit (.int .i64 a12), .lit (.int .i64 a13), .lit (.int .i64 a14)], .agg [.lit (.int .i64 z0), .lit (.int .i64 z1), .lit (.int .i64 z2), .lit (.int .i64 z3), .lit (.int .i64 z4), .lit (.int .i64 z5), .lit (.int .i64 z6), .lit (.int .i64 z7), .lit (.int .i64 z8), .lit (.int .i64 z9), .lit (.int .i64 z10), .lit (.int .i64 z11), .lit (.int .i64 z12), .lit (.int .i64 z13), .lit (.int .i64 z14)]] => some (.tup [aT rowH H fun _ => if okA (⟨⟨a0, a1, a2, a3⟩, a4, a5, a6, ⟨a7, a8, a9, a10⟩, ⟨a11, a12, a13, a14⟩⟩ : Arm) && okA (⟨⟨z0, z1, z2, z3⟩, z4, z5, z6, ⟨z7, z8, z9, z10⟩, ⟨z11, z12, z13, z14⟩⟩ : Arm) then ⟨2, [(⟨⟨a0, a1, a2, a3⟩, a4, a5, a6, ⟨a7, a8, a9, a10⟩, ⟨a11, a12, a13, a14⟩⟩ : Arm), (⟨⟨z0, z1, z2, z3⟩, z4, z5, z6, ⟨z7, z8, z9, z10⟩, ⟨z11, z12, z13, z14⟩⟩ : Arm)]⟩ else shZ, .lit (.bool (H Bool fun _ => okA (⟨⟨a0, a1, a2, a3⟩, a4, a5, a6, ⟨a7, a8, a9, a10⟩, ⟨a11, a12, a13, a14⟩⟩ : Arm) && okA (⟨⟨z0, z1, z2, z3⟩, z4, z5, z6, ⟨z7, z8, z9, z10⟩, ⟨z11, z12, z13, z14⟩⟩ : Arm)))], [])
  | _ => none
theorem eok_impaleS : EntryOk Try.prog e_impaleS := pureM_ok (by unfold isBody; kernel_rfl) (by
  intro a r ob e hob
  split at e
  · rename_i a0 a1 a2 a3 a4 a5 a6 a7 a8 a9 a10 a11 a12 a13 a14 z0 z1 z2 z3 z4 z5 z6 z7 z8 z9 z10 z11 z12 z13 z14
    simp only [Option.some.injEq, Prod.mk.injEq] at e
    obtain ⟨rfl, rfl⟩ := e
    exact ConN.args (.cons .rfl (.cons .rfl .nil)) (c_impaleS (⟨⟨a0, a1, a2, a3⟩, a4, a5, a6, ⟨a7, a8, a9, a10⟩, ⟨a11, a12, a13, a14⟩⟩ : Arm) (⟨⟨z0, z1, z2, z3⟩, z4, z5, z6, ⟨z7, z8, z9, z10⟩, ⟨z11, z12, z13, z14⟩⟩ : Arm) )
  · simp at e)
def atH (s : Shd) (r d : Bool) : Int := if s.mode = 2 then (if r then 1 else 0) else if s.mode = 3 then (if r then 1 else 0) + 2 * (if d then 1 else 0) else 0
theorem c_partAt (s : Shd) (r : Bool) (d : Bool) (h0 : s.parts.length ≤ 2000000) : ConN Try.prog 43 [aT rowH stdH fun _ => s, .lit (.bool r), .lit (.bool d)] [] 0 (.tup [.lit (.int .i64 (stdH Int fun _ => if okH s then atH s r d else 0)), .lit (.bool (stdH Bool fun _ => okH s))]) [] [] := by
  have hB : Base Try.prog (tabΓ [e_validH, e_number]) tab := base_of tabOk (ents_cons eok_validH <| ents_cons eok_number <| ents_nil)
  refine con_m (N := 25) hB (draw_ok hB mixed) Try.func43 rfl rfl (fun H => [aT rowH H fun _ => s, .lit (.bool r), .lit (.bool d)]) (fun _ => []) 0 (fun H => .tup [.lit (.int .i64 (H Int fun _ => if okH s then atH s r d else 0)), .lit (.bool (H Bool fun _ => okH s))]) (fun H => []) (fun _ => []) 200 (by simp) (fun x hx => ?_) (by simp [lk]) (by omega) (by simp) ?_
  · simp only [List.mem_cons, List.not_mem_nil, or_false] at hx
    rcases hx with rfl | rfl | rfl
    · exact aT_bl okRH _ _
    · exact .lit
    · exact .lit
  intro X hX hX0 H hH
  conv in Fin.chk _ _ => cbv
  try simp only [Plain_rowsA, Plain_rowsB, Plain_rowsF, Plain_rowsG, Plain_rowsI, Plain_rowsS, Plain_rowsU, Fin.satC_ret, Fin.satC_br, Fin.satC_need, Fin.satC_again, AllP, and_true, true_and, upd, List.length_nil, List.length_cons, Nat.zero_add, if_true, ncast, Int.ofNat_eq_natCast]
  subst hH
  have es : ({ mode := s.mode, parts := Tl rowA s.parts.length (rowsA stdH fun _ => s.parts) } : Shd) = s := by rw [Tl_A]
  simp only [stdH] at es ⊢
  rw [es]
  refine ⟨⟨Shp_A _ _, by simp only [Tl_A]; exact h0⟩, fun h => ?_, fun h => ⟨fun h2 => ?_, fun h2 => ⟨fun h3 => ?_, fun h3 => ?_⟩⟩⟩
  · rw [Bool.not_eq_true'] at h
    rw [h]; exact ⟨rfl, rfl⟩
  all_goals
    rw [Bool.not_eq_false'] at h
    rw [h, if_pos rfl]
    refine ⟨rfl, ?_⟩
    unfold atH
    simp only [beq_iff_eq, beq_eq_false_iff_ne, ne_eq] at h2
  · rw [if_pos h2]
  · simp only [beq_iff_eq] at h3
    rw [if_neg h2, if_pos h3]
    cases r <;> cases d <;> decide
  · simp only [beq_eq_false_iff_ne, ne_eq] at h3
    rw [if_neg h2, if_neg h3]
noncomputable def e_partAt : Entry := pureE 43 fun H a => match a with
  | [.agg [.lit (.int .i64 s0), .vec 15 s1n s1f], .lit (.bool r), .lit (.bool d)] => some (.tup [.lit (.int .i64 (H Int fun _ => if okH (⟨s0, (Tl rowA s1n s1f)⟩ : Shd) then atH (⟨s0, (Tl rowA s1n s1f)⟩ : Shd) r d else 0)), .lit (.bool (H Bool fun _ => okH (⟨s0, (Tl rowA s1n s1f)⟩ : Shd)))], [H Prop fun _ => Shp rowA s1n s1f, H Prop fun _ => (⟨s0, (Tl rowA s1n s1f)⟩ : Shd).parts.length ≤ 2000000])
  | _ => none
theorem eok_partAt : EntryOk Try.prog e_partAt := pureM_ok (by unfold isBody; kernel_rfl) (by
  intro a r ob e hob
  split at e
  · rename_i s0 s1n s1f r d
    simp only [Option.some.injEq, Prod.mk.injEq] at e
    obtain ⟨rfl, rfl⟩ := e
    exact ConN.args (.cons (.agg (.cons .rfl (.cons (.toT okRA rfl hob.1) .nil))) (.cons .rfl (.cons .rfl .nil))) (c_partAt (⟨s0, (Tl rowA s1n s1f)⟩ : Shd) r d hob.2.1)
  · simp at e)
theorem c_vArmsL (s : List Arm) (t : List Arm) (h0 : s.length ≤ 2000000) : ConN Try.prog 34 [.vec 15 (stdH Nat fun _ => (s).length) (rowsA stdH fun _ => s), .vec 15 (stdH Nat fun _ => (t).length) (rowsA stdH fun _ => t)] [] 0 (.lit (.bool (stdH Bool fun _ => decide (s = t)))) [] [] := by
  have hB : Base Try.prog (tabΓ []) tab := base_of tabOk (ents_nil)
  refine con_m (N := 26) hB (draw_ok hB mixed) Try.func34 rfl rfl (fun H => [.vec 15 (H Nat fun _ => (s).length) (rowsA H fun _ => s), .vec 15 (H Nat fun _ => (t).length) (rowsA H fun _ => t)]) (fun _ => []) 0 (fun H => .lit (.bool (H Bool fun _ => decide (s = t)))) (fun H => []) (fun _ => []) 200 (by simp) (fun x hx => ?_) (by simp [lk]) (by omega) (by simp) ?_
  · simp only [List.mem_cons, List.not_mem_nil, or_false] at hx
    rcases hx with rfl | rfl
    · exact vl_bl okRA s _
    · exact vl_bl okRA t _
  intro X hX hX0 H hH
  conv in Fin.chk _ _ => cbv
  try simp only [Plain_rowsA, Plain_rowsB, Plain_rowsF, Plain_rowsG, Plain_rowsI, Plain_rowsS, Plain_rowsU, Fin.satC_ret, Fin.satC_br, Fin.satC_need, Fin.satC_again, AllP, and_true, true_and, upd, List.length_nil, List.length_cons, Nat.zero_add, if_true, ncast, Int.ofNat_eq_natCast]
  refine ⟨fun h => ?_, fun h => ?_⟩
  · simp only [hH, stdH, decide_eq_true_eq, decide_eq_false_iff_not, Bool.not_eq_true', Bool.not_eq_false', peta, ncast, Int.ofNat_eq_natCast, beq_iff_eq, bne_iff_ne, beq_eq_false_iff_ne, bne_eq_false_iff_eq, ne_eq, Classical.not_not, Int.toNat_natCast, vrow_I, Arm.eta2, Fld.eta, Grp.eta] at h
    try simp only [hH, stdH, decide_eq_true_eq, decide_eq_false_iff_not, Bool.not_eq_true', Bool.not_eq_false', peta, ncast, Int.ofNat_eq_natCast, beq_iff_eq, bne_iff_ne, beq_eq_false_iff_ne, bne_eq_false_iff_eq, ne_eq, Classical.not_not, Int.toNat_natCast, vrow_I, Arm.eta2, Fld.eta, Grp.eta]
    intro e
    exact h (by rw [e])
  · simp only [hH, stdH, decide_eq_true_eq, decide_eq_false_iff_not, Bool.not_eq_true', Bool.not_eq_false', peta, ncast, Int.ofNat_eq_natCast, beq_iff_eq, bne_iff_ne, beq_eq_false_iff_ne, bne_eq_false_iff_eq, ne_eq, Classical.not_not, Int.toNat_natCast, vrow_I, Arm.eta2, Fld.eta, Grp.eta] at h
    have hl : s.length = t.length := by omega
    refine loop_a hB (draw_ok hB mixed) hX hX0 hH false (ι := { i : Nat // i ≤ s.length ∧ ∀ j, j < i → s.getD j default = t.getD j default }) 200 (fun i => [.i (H Int fun _ => (i.1 : Nat))]) (fun i => s.length - i.1) (⟨0, by omega, by omega⟩) ?_ ?_
    · (conv in matchSt _ _ _ _ => cbv); simp only [AllG, AllP, and_true, hH, stdH, ncast, Int.ofNat_eq_natCast, vrow_I, Arm.eta2, Fld.eta, Grp.eta]
      (repeat' (first | rfl | trivial | exact RowsEq.self okRA | exact RowsEq.ofT okRA rfl (Shp_zero _) rfl | exact RowsEq.snoc okRA rfl | exact RowsEq.self okI | exact RowsEq.self okRA | exact List.length_append | refine And.intro ?_ ?_))
    · intro I hI i
      conv in Fin.chk _ _ => cbv
      try simp only [Plain_rowsA, Plain_rowsB, Plain_rowsF, Plain_rowsG, Plain_rowsI, Plain_rowsS, Plain_rowsU, Fin.satC_ret, Fin.satC_br, Fin.satC_need, Fin.satC_again, AllP, and_true, true_and, upd, List.length_nil, List.length_cons, Nat.zero_add, if_true, ncast, Int.ofNat_eq_natCast]
      obtain ⟨i, hi, hj⟩ := i
      refine ⟨fun h1 => ⟨?_, ?_, fun h2 => ?_, fun h2 => ?_⟩, fun h1 => ?_⟩
      · simp only [hH, stdH, decide_eq_true_eq, decide_eq_false_iff_not, Bool.not_eq_true', Bool.not_eq_false', peta, ncast, Int.ofNat_eq_natCast, beq_iff_eq, bne_iff_ne, beq_eq_false_iff_ne, bne_eq_false_iff_eq, ne_eq, Classical.not_not, Int.toNat_natCast, vrow_I, Arm.eta2, Fld.eta, Grp.eta] at h1 ⊢
        omega
      · simp only [hH, stdH, decide_eq_true_eq, decide_eq_false_iff_not, Bool.not_eq_true', Bool.not_eq_false', peta, ncast, Int.ofNat_eq_natCast, beq_iff_eq, bne_iff_ne, beq_eq_false_iff_ne, bne_eq_false_iff_eq, ne_eq, Classical.not_not, Int.toNat_natCast, vrow_I, Arm.eta2, Fld.eta, Grp.eta] at h1 ⊢
        omega
      · simp only [hH, stdH, Int.toNat_natCast] at h2
        try simp only [hH, stdH, decide_eq_true_eq, decide_eq_false_iff_not, Bool.not_eq_true', Bool.not_eq_false', peta, ncast, Int.ofNat_eq_natCast, beq_iff_eq, bne_iff_ne, beq_eq_false_iff_ne, bne_eq_false_iff_eq, ne_eq, Classical.not_not, Int.toNat_natCast, vrow_I, Arm.eta2, Fld.eta, Grp.eta]
        intro e
        rw [e] at h2
        have : ∀ x : Arm, allT [fun _ => x.f.d == x.f.d, fun _ => x.f.l == x.f.l, fun _ => x.f.p == x.f.p, fun _ => x.f.q == x.f.q, fun _ => x.o == x.o, fun _ => x.l == x.l, fun _ => x.t == x.t, fun _ => x.n.c == x.n.c, fun _ => x.n.k == x.n.k, fun _ => x.n.a == x.n.a, fun _ => x.n.t == x.n.t, fun _ => x.r.c == x.r.c, fun _ => x.r.k == x.r.k, fun _ => x.r.a == x.r.a, fun _ => x.r.t == x.r.t] = true := fun x => by simp [allT]
        rw [this] at h2
        cases h2
      · simp only [hH, stdH, decide_eq_true_eq, decide_eq_false_iff_not, Bool.not_eq_true', Bool.not_eq_false', peta, ncast, Int.ofNat_eq_natCast, beq_iff_eq, bne_iff_ne, beq_eq_false_iff_ne, bne_eq_false_iff_eq, ne_eq, Classical.not_not, Int.toNat_natCast, vrow_I, Arm.eta2, Fld.eta, Grp.eta] at h1
        have h3 : s.getD i default = t.getD i default := by
          simp only [hH, stdH, Int.toNat_natCast] at h2
          rw [eqAE] at h2
          simpa using h2
        refine ⟨⟨i + 1, by omega, fun j hj' => ?_⟩, by simp only; omega, ?_⟩
        · rcases Nat.lt_succ_iff_lt_or_eq.1 hj' with h | rfl
          · exact hj j h
          · exact h3
        · rw [hI]
          (conv in matchSt _ _ _ _ => cbv); simp only [AllG, AllP, and_true, hH, stdH, ncast, Int.ofNat_eq_natCast, vrow_I, Arm.eta2, Fld.eta, Grp.eta]
          rw [w1 (by omega)]
          (repeat' (first | rfl | trivial | exact RowsEq.self okRA | exact RowsEq.ofT okRA rfl (Shp_zero _) rfl | exact RowsEq.snoc okRA rfl | exact RowsEq.self okI | exact RowsEq.self okRA | exact List.length_append | refine And.intro ?_ ?_))
      · simp only [hH, stdH, decide_eq_true_eq, decide_eq_false_iff_not, Bool.not_eq_true', Bool.not_eq_false', peta, ncast, Int.ofNat_eq_natCast, beq_iff_eq, bne_iff_ne, beq_eq_false_iff_ne, bne_eq_false_iff_eq, ne_eq, Classical.not_not, Int.toNat_natCast, vrow_I, Arm.eta2, Fld.eta, Grp.eta] at h1 ⊢
        obtain rfl : i = s.length := by omega
        refine List.ext_getElem hl fun j h1 h2 => ?_
        have := hj j h1
        simpa [List.getD_eq_getElem?_getD, h1, h2] using this
noncomputable def e_vArmsL : Entry := pureE 34 fun H a => match a with
  | [.vec 15 sn sf, .vec 15 tn tf] => some (.lit (.bool (H Bool fun _ => decide ((Tl rowA sn sf) = (Tl rowA tn tf)))), [H Prop fun _ => Shp rowA sn sf, H Prop fun _ => Shp rowA tn tf, H Prop fun _ => (Tl rowA sn sf).length ≤ 2000000])
  | _ => none
theorem eok_vArmsL : EntryOk Try.prog e_vArmsL := pureM_ok (by unfold isBody; kernel_rfl) (by
  intro a r ob e hob
  split at e
  · rename_i sn sf tn tf
    simp only [Option.some.injEq, Prod.mk.injEq] at e
    obtain ⟨rfl, rfl⟩ := e
    exact ConN.args (.cons (.toT okRA rfl hob.1) (.cons (.toT okRA rfl hob.2.1) .nil)) (c_vArmsL (Tl rowA sn sf) (Tl rowA tn tf) hob.2.2.1)
  · simp at e)
theorem c_vAmong (l : List Arm) (a : Arm) (h0 : l.length ≤ 2000000) : ConN Try.prog 36 [.vec 15 (stdH Nat fun _ => (l).length) (rowsA stdH fun _ => l), aT rowA stdH fun _ => a] [] 0 (.lit (.bool (stdH Bool fun _ => l.any fun y => decide (y = a)))) [] [] := by
  have hB : Base Try.prog (tabΓ []) tab := base_of tabOk (ents_nil)
  refine con_m (N := 18) hB (draw_ok hB mixed) Try.func36 rfl rfl (fun H => [.vec 15 (H Nat fun _ => (l).length) (rowsA H fun _ => l), aT rowA H fun _ => a]) (fun _ => []) 0 (fun H => .lit (.bool (H Bool fun _ => l.any fun y => decide (y = a)))) (fun H => []) (fun _ => []) 200 (by simp) (fun x hx => ?_) (by simp [lk]) (by omega) (by simp) ?_
  · simp only [List.mem_cons, List.not_mem_nil, or_false] at hx
    rcases hx with rfl | rfl
    · exact vl_bl okRA l _
    · exact aT_bl okRA _ _
  intro X hX hX0 H hH
  conv in Fin.chk _ _ => cbv
  try simp only [Plain_rowsA, Plain_rowsB, Plain_rowsF, Plain_rowsG, Plain_rowsI, Plain_rowsS, Plain_rowsU, Fin.satC_ret, Fin.satC_br, Fin.satC_need, Fin.satC_again, AllP, and_true, true_and, upd, List.length_nil, List.length_cons, Nat.zero_add, if_true, ncast, Int.ofNat_eq_natCast]
  refine loop_a hB (draw_ok hB mixed) hX hX0 hH false (ι := { i : Nat // i ≤ l.length ∧ ∀ j, j < i → ¬ l.getD j default = a }) 200 (fun i => [.i (H Int fun _ => (i.1 : Nat))]) (fun i => l.length - i.1) (⟨0, by omega, by omega⟩) ?_ ?_
  · (conv in matchSt _ _ _ _ => cbv); simp only [AllG, AllP, and_true, hH, stdH, ncast, Int.ofNat_eq_natCast, vrow_I, Arm.eta2, Fld.eta, Grp.eta]
    (repeat' (first | rfl | trivial | exact RowsEq.self okRA | exact RowsEq.ofT okRA rfl (Shp_zero _) rfl | exact RowsEq.snoc okRA rfl | exact RowsEq.self okI | exact RowsEq.self okRA | exact List.length_append | refine And.intro ?_ ?_))
  · intro I hI i
    conv in Fin.chk _ _ => cbv
    try simp only [Plain_rowsA, Plain_rowsB, Plain_rowsF, Plain_rowsG, Plain_rowsI, Plain_rowsS, Plain_rowsU, Fin.satC_ret, Fin.satC_br, Fin.satC_need, Fin.satC_again, AllP, and_true, true_and, upd, List.length_nil, List.length_cons, Nat.zero_add, if_true, ncast, Int.ofNat_eq_natCast]
    obtain ⟨i, hi, hj⟩ := i
    refine ⟨fun h1 => ⟨?_, fun h2 => ?_, fun h2 => ?_⟩, fun h1 => ?_⟩
    · simp only [hH, stdH, decide_eq_true_eq, decide_eq_false_iff_not, Bool.not_eq_true', Bool.not_eq_false', peta, ncast, Int.ofNat_eq_natCast, beq_iff_eq, bne_iff_ne, beq_eq_false_iff_ne, bne_eq_false_iff_eq, ne_eq, Classical.not_not, Int.toNat_natCast, vrow_I, Arm.eta2, Fld.eta, Grp.eta] at h1 ⊢
      omega
    · simp only [hH, stdH, decide_eq_true_eq, decide_eq_false_iff_not, Bool.not_eq_true', Bool.not_eq_false', peta, ncast, Int.ofNat_eq_natCast, beq_iff_eq, bne_iff_ne, beq_eq_false_iff_ne, bne_eq_false_iff_eq, ne_eq, Classical.not_not, Int.toNat_natCast, vrow_I, Arm.eta2, Fld.eta, Grp.eta] at h1
      simp only [hH, stdH, Int.toNat_natCast] at h2
      rw [eqAE, decide_eq_true_eq] at h2
      try simp only [hH, stdH, decide_eq_true_eq, decide_eq_false_iff_not, Bool.not_eq_true', Bool.not_eq_false', peta, ncast, Int.ofNat_eq_natCast, beq_iff_eq, bne_iff_ne, beq_eq_false_iff_ne, bne_eq_false_iff_eq, ne_eq, Classical.not_not, Int.toNat_natCast, vrow_I, Arm.eta2, Fld.eta, Grp.eta]
      exact List.any_eq_true.2 ⟨_, getDm (d := default) (show i < l.length by omega), by rw [h2]; simp⟩
    · simp only [hH, stdH, decide_eq_true_eq, decide_eq_false_iff_not, Bool.not_eq_true', Bool.not_eq_false', peta, ncast, Int.ofNat_eq_natCast, beq_iff_eq, bne_iff_ne, beq_eq_false_iff_ne, bne_eq_false_iff_eq, ne_eq, Classical.not_not, Int.toNat_natCast, vrow_I, Arm.eta2, Fld.eta, Grp.eta] at h1
      have h3 : ¬ l.getD i default = a := by
        simp only [hH, stdH, Int.toNat_natCast] at h2
        rw [eqAE] at h2
        simpa using h2
      refine ⟨⟨i + 1, by omega, fun j hj' => ?_⟩, by simp only; omega, ?_⟩
      · rcases Nat.lt_succ_iff_lt_or_eq.1 hj' with h | rfl
        · exact hj j h
        · exact h3
      · rw [hI]
        (conv in matchSt _ _ _ _ => cbv); simp only [AllG, AllP, and_true, hH, stdH, ncast, Int.ofNat_eq_natCast, vrow_I, Arm.eta2, Fld.eta, Grp.eta]
        rw [w1 (by omega)]
        (repeat' (first | rfl | trivial | exact RowsEq.self okRA | exact RowsEq.ofT okRA rfl (Shp_zero _) rfl | exact RowsEq.snoc okRA rfl | exact RowsEq.self okI | exact RowsEq.self okRA | exact List.length_append | refine And.intro ?_ ?_))
    · simp only [hH, stdH, decide_eq_true_eq, decide_eq_false_iff_not, Bool.not_eq_true', Bool.not_eq_false', peta, ncast, Int.ofNat_eq_natCast, beq_iff_eq, bne_iff_ne, beq_eq_false_iff_ne, bne_eq_false_iff_eq, ne_eq, Classical.not_not, Int.toNat_natCast, vrow_I, Arm.eta2, Fld.eta, Grp.eta] at h1 ⊢
      obtain rfl : i = l.length := by omega
      rw [List.any_eq_false]
      intro x hx
      obtain ⟨j, hj', rfl⟩ := List.getElem_of_mem hx
      have := hj j hj'
      rw [List.getD_eq_getElem?_getD, List.getElem?_eq_getElem hj', Option.getD_some] at this
      simpa using this
noncomputable def e_vAmong : Entry := pureE 36 fun H a => match a with
  | [.vec 15 ln lf, .agg [.lit (.int .i64 a0), .lit (.int .i64 a1), .lit (.int .i64 a2), .lit (.int .i64 a3), .lit (.int .i64 a4), .lit (.int .i64 a5), .lit (.int .i64 a6), .lit (.int .i64 a7), .lit (.int .i64 a8), .lit (.int .i64 a9), .lit (.int .i64 a10), .lit (.int .i64 a11), .lit (.int .i64 a12), .lit (.int .i64 a13), .lit (.int .i64 a14)]] => some (.lit (.bool (H Bool fun _ => (Tl rowA ln lf).any fun y => decide (y = (⟨⟨a0, a1, a2, a3⟩, a4, a5, a6, ⟨a7, a8, a9, a10⟩, ⟨a11, a12, a13, a14⟩⟩ : Arm)))), [H Prop fun _ => Shp rowA ln lf, H Prop fun _ => (Tl rowA ln lf).length ≤ 2000000])
  | _ => none
theorem eok_vAmong : EntryOk Try.prog e_vAmong := pureM_ok (by unfold isBody; kernel_rfl) (by
  intro a r ob e hob
  split at e
  · rename_i ln lf a0 a1 a2 a3 a4 a5 a6 a7 a8 a9 a10 a11 a12 a13 a14
    simp only [Option.some.injEq, Prod.mk.injEq] at e
    obtain ⟨rfl, rfl⟩ := e
    exact ConN.args (.cons (.toT okRA rfl hob.1) (.cons .rfl .nil)) (c_vAmong (Tl rowA ln lf) (⟨⟨a0, a1, a2, a3⟩, a4, a5, a6, ⟨a7, a8, a9, a10⟩, ⟨a11, a12, a13, a14⟩⟩ : Arm) hob.2.1)
  · simp at e)
theorem c_vShield (s : Shd) (t : Shd) (h0 : s.parts.length ≤ 2000000) : ConN Try.prog 42 [aT rowH stdH fun _ => s, aT rowH stdH fun _ => t] [] 0 (.lit (.bool (stdH Bool fun _ => decide (s.mode = t.mode) && decide (s.parts = t.parts)))) [] [] := by
  have hB : Base Try.prog (tabΓ [e_vArmsL]) tab := base_of tabOk (ents_cons eok_vArmsL <| ents_nil)
  refine con_m (N := 17) hB (draw_ok hB mixed) Try.func42 rfl rfl (fun H => [aT rowH H fun _ => s, aT rowH H fun _ => t]) (fun _ => []) 0 (fun H => .lit (.bool (H Bool fun _ => decide (s.mode = t.mode) && decide (s.parts = t.parts)))) (fun H => []) (fun _ => []) 200 (by simp) (fun x hx => ?_) (by simp [lk]) (by omega) (by simp) ?_
  · simp only [List.mem_cons, List.not_mem_nil, or_false] at hx
    rcases hx with rfl | rfl
    · exact aT_bl okRH _ _
    · exact aT_bl okRH _ _
  intro X hX hX0 H hH
  conv in Fin.chk _ _ => cbv
  try simp only [Plain_rowsA, Plain_rowsB, Plain_rowsF, Plain_rowsG, Plain_rowsI, Plain_rowsS, Plain_rowsU, Fin.satC_ret, Fin.satC_br, Fin.satC_need, Fin.satC_again, AllP, and_true, true_and, upd, List.length_nil, List.length_cons, Nat.zero_add, if_true, ncast, Int.ofNat_eq_natCast]
  subst hH
  simp only [stdH, Tl_A]
  refine ⟨⟨fun _ => Shp_A _ _, fun _ => Shp_A _ _, fun _ => h0⟩, ?_⟩
  by_cases h : s.mode = t.mode
  · simp [h]
  · have : (s.mode == t.mode) = false := by simpa using h
    simp [h, this]
noncomputable def e_vShield : Entry := pureE 42 fun H a => match a with
  | [.agg [.lit (.int .i64 s0), .vec 15 s1n s1f], .agg [.lit (.int .i64 t0), .vec 15 t1n t1f]] => some (.lit (.bool (H Bool fun _ => decide ((⟨s0, (Tl rowA s1n s1f)⟩ : Shd).mode = (⟨t0, (Tl rowA t1n t1f)⟩ : Shd).mode) && decide ((⟨s0, (Tl rowA s1n s1f)⟩ : Shd).parts = (⟨t0, (Tl rowA t1n t1f)⟩ : Shd).parts))), [H Prop fun _ => Shp rowA s1n s1f, H Prop fun _ => Shp rowA t1n t1f, H Prop fun _ => (⟨s0, (Tl rowA s1n s1f)⟩ : Shd).parts.length ≤ 2000000])
  | _ => none
theorem eok_vShield : EntryOk Try.prog e_vShield := pureM_ok (by unfold isBody; kernel_rfl) (by
  intro a r ob e hob
  split at e
  · rename_i s0 s1n s1f t0 t1n t1f
    simp only [Option.some.injEq, Prod.mk.injEq] at e
    obtain ⟨rfl, rfl⟩ := e
    exact ConN.args (.cons (.agg (.cons .rfl (.cons (.toT okRA rfl hob.1) .nil))) (.cons (.agg (.cons .rfl (.cons (.toT okRA rfl hob.2.1) .nil))) .nil)) (c_vShield (⟨s0, (Tl rowA s1n s1f)⟩ : Shd) (⟨t0, (Tl rowA t1n t1f)⟩ : Shd) hob.2.2.1)
  · simp at e)

end Go.Proofs.Ytfamdalilcbloaa.AM
