/- Lemmas and contracts (Shv); conditions: none. -/
import Derived.Test.YtbnohmfapmeaaaaGreatDoorK03
import Derived.Test.YtbnohmfapmeaaaaGreatDoorK12
import Derived.Test.YtbnohmfapmeaaaaGreatDoorK22
set_option linter.unusedVariables false
set_option linter.unusedSimpArgs false
set_option maxRecDepth 100000
set_option maxHeartbeats 4000000
set_option cbv.maxSteps 3000000
namespace Go.Proofs.YtbnohmfapmeaaaaGreatDoor.AM
/- Shields: valid ones, impaled, quartered, parts; conditions: none. -/
def cntH (m : Int) : Int := if m = 1 then 1 else if m = 2 then 2 else 4
def okH (s : Shd) : Bool := inB s.mode 1 3 && (decide ((s.parts.length : Int) = cntH s.mode) && !s.parts.any fun y => !okA y)
def shZ : Shd := ⟨0, []⟩
theorem cnt_get {m : Int} (h : inB m 1 3 = true) : IntKind.i64.wrap (m - 1) = m - 1 ∧ ([1, 2, 4] : List Int).getD (m - 1).toNat 0 = cntH m := by
  unfold inB at h
  rw [decide_eq_true_eq] at h
  have : m = 1 ∨ m = 2 ∨ m = 3 := by omega
  rcases this with rfl | rfl | rfl <;> decide
theorem cnt_le (m : Int) : cntH m ≤ 4 := by
  unfold cntH
  repeat' split
  all_goals omega
theorem c_validH (s : Shd) (h0 : s.parts.length ≤ 2000000) : ConN Tryz.prog 145 [aT rowH stdH fun _ => s] [] 0 (.lit (.bool (stdH Bool fun _ => okH s))) [] [] := by
  have hB : Base Tryz.prog (tabΓ [e_inside, e_areArms]) tabO := base_of tabOkO (ents_cons eok_inside <| ents_cons eok_areArms <| ents_nil)
  refine con_m (N := 22) hB (draw_ok hB mixed) Tryz.func145 rfl rfl (fun H => [aT rowH H fun _ => s]) (fun _ => []) 0 (fun H => .lit (.bool (H Bool fun _ => okH s))) (fun H => []) (fun _ => []) 200 (by simp) (fun x hx => ?_) (by simp [lk]) (by omega) (by simp) ?_
  · simp only [List.mem_cons, List.not_mem_nil, or_false] at hx
    rcases hx with rfl
    · exact aT_bl okRH _ _
  intro X hX hX0 H hH
  conv in Fin.chk _ _ => cbv
  try simp only [Plain_rowsA, Plain_rowsB, Plain_rowsF, Plain_rowsG, Plain_rowsI, Plain_rowsS, Plain_rowsU, Fin.satC_ret, Fin.satC_br, Fin.satC_need, Fin.satC_again, AllP, and_true, true_and, upd, List.length_nil, List.length_cons, Nat.zero_add, if_true, ncast, Int.ofNat_eq_natCast]
  subst hH
  simp only [stdH, Tl_A]
  cases hm : inB s.mode 1 3 with
  | false =>
    have : okH s = false := by unfold okH; rw [hm]; rfl
    rw [this]
    simp
  | true =>
    obtain ⟨e1, e2⟩ := cnt_get hm
    have hb : 1 ≤ s.mode ∧ s.mode ≤ 3 := by
      unfold inB at hm
      rw [decide_eq_true_eq] at hm
      exact hm
    rw [e1, e2]
    refine ⟨fun _ => ⟨by omega, by have : ((3 : Nat) : Int) = 3 := rfl; omega⟩, fun h => ?_, fun h => ⟨⟨Shp_A _ _, h0⟩, ?_⟩⟩
    · simp only [Bool.not_true, cond_false, bne_iff_ne, ne_eq] at h
      unfold okH
      rw [decide_eq_false h]; simp
    · simp only [Bool.not_true, cond_false, bne_eq_false_iff_eq] at h
      have h4 := cnt_le s.mode
      unfold okH
      rw [hm, decide_eq_true h, decide_eq_true (by omega)]; rfl
noncomputable def e_validH : Entry := pureE 145 fun H a => match a with
  | [.agg [.lit (.int .i64 s0), .vec 15 s1n s1f]] => some (.lit (.bool (H Bool fun _ => okH (⟨s0, (Tl rowA s1n s1f)⟩ : Shd))), [H Prop fun _ => Shp rowA s1n s1f, H Prop fun _ => (⟨s0, (Tl rowA s1n s1f)⟩ : Shd).parts.length ≤ 2000000])
  | _ => none
theorem eok_validH : EntryOk Tryz.prog e_validH := pureM_ok (by unfold isBody; kernel_rfl) (by
  intro a r ob e hob
  split at e
  · rename_i s0 s1n s1f
    simp only [Option.some.injEq, Prod.mk.injEq] at e
    obtain ⟨rfl, rfl⟩ := e
    exact ConN.args (.cons (.agg (.cons .rfl (.cons (.toT okRA rfl hob.1) .nil))) .nil) (c_validH (⟨s0, (Tl rowA s1n s1f)⟩ : Shd) hob.2.1)
  · simp at e)
theorem c_l20Count (m : Int)  : ConN Tryz.prog 132 [.lit (.int .i64 m)] [] 0 (.lit (.int .i64 (stdH Int fun _ => if m = 1 then 1 else if m = 2 then 2 else if m = 3 then 4 else 0))) [] [] := by
  have hB : Base Tryz.prog (tabΓ []) tab := base_of tabOk (ents_nil)
  refine con_m (N := 10) hB (draw_ok hB mixed) Tryz.func132 rfl rfl (fun H => [.lit (.int .i64 m)]) (fun _ => []) 0 (fun H => .lit (.int .i64 (H Int fun _ => if m = 1 then 1 else if m = 2 then 2 else if m = 3 then 4 else 0))) (fun H => []) (fun _ => []) 100 (by simp) (fun x hx => ?_) (by simp [lk]) (by omega) (by simp) ?_
  · simp only [List.mem_cons, List.not_mem_nil, or_false] at hx
    rcases hx with rfl
    · exact .lit
  intro X hX hX0 H hH
  conv in Fin.chk _ _ => cbv
  try simp only [Plain_rowsA, Plain_rowsB, Plain_rowsF, Plain_rowsG, Plain_rowsI, Plain_rowsS, Plain_rowsU, Fin.satC_ret, Fin.satC_br, Fin.satC_need, Fin.satC_again, AllP, and_true, true_and, upd, List.length_nil, List.length_cons, Nat.zero_add, if_true, ncast, Int.ofNat_eq_natCast]
  subst hH
  simp only [stdH, beq_iff_eq, beq_eq_false_iff_ne, ne_eq]
  refine ⟨fun h => ?_, fun h => ⟨fun h2 => ?_, fun h2 => ⟨fun h3 => ?_, fun h3 => ?_⟩⟩⟩
  · rw [if_pos h]
  · rw [if_neg h, if_pos h2]
  · rw [if_neg h, if_neg h2, if_pos h3]
  · rw [if_neg h, if_neg h2, if_neg h3]
noncomputable def e_l20Count : Entry := pureE 132 fun H a => match a with
  | [.lit (.int .i64 m)] => some (.lit (.int .i64 (H Int fun _ => if m = 1 then 1 else if m = 2 then 2 else if m = 3 then 4 else 0)), [])
  | _ => none
theorem eok_l20Count : EntryOk Tryz.prog e_l20Count := pureM_ok (by unfold isBody; kernel_rfl) (by
  intro a r ob e hob
  split at e
  · rename_i m
    simp only [Option.some.injEq, Prod.mk.injEq] at e
    obtain ⟨rfl, rfl⟩ := e
    exact ConN.args (.cons .rfl .nil) (c_l20Count m )
  · simp at e)
theorem c_l20Good (s : Shd) (h0 : s.parts.length ≤ 2000000) : ConN Tryz.prog 57 [aT rowH stdH fun _ => s] [] 0 (.lit (.bool (stdH Bool fun _ => okH s))) [] [] := by
  have hB : Base Tryz.prog (tabΓ [e_l20Count, e_l5Good]) tab := base_of tabOk (ents_cons eok_l20Count <| ents_cons eok_l5Good <| ents_nil)
  refine con_m (N := 31) hB (draw_ok hB mixed) Tryz.func57 rfl rfl (fun H => [aT rowH H fun _ => s]) (fun _ => []) 0 (fun H => .lit (.bool (H Bool fun _ => okH s))) (fun H => []) (fun _ => []) 200 (by simp) (fun x hx => ?_) (by simp [lk]) (by omega) (by simp) ?_
  · simp only [List.mem_cons, List.not_mem_nil, or_false] at hx
    rcases hx with rfl
    · exact aT_bl okRH _ _
  intro X hX hX0 H hH
  conv in Fin.chk _ _ => cbv
  try simp only [Plain_rowsA, Plain_rowsB, Plain_rowsF, Plain_rowsG, Plain_rowsI, Plain_rowsS, Plain_rowsU, Fin.satC_ret, Fin.satC_br, Fin.satC_need, Fin.satC_again, AllP, and_true, true_and, upd, List.length_nil, List.length_cons, Nat.zero_add, if_true, ncast, Int.ofNat_eq_natCast]
  refine ⟨fun h => ?_, fun h => ?_⟩
  · simp only [hH, stdH] at h ⊢
    unfold okH inB cntH
    by_cases m1 : s.mode = 1
    · simp [m1] at h ⊢; omega
    · by_cases m2 : s.mode = 2
      · simp [m2] at h ⊢; omega
      · by_cases m3 : s.mode = 3
        · simp [m3] at h ⊢; omega
        · have : decide (1 ≤ s.mode ∧ s.mode ≤ 3) = false := decide_eq_false (by omega)
          simp [this]
  · have hc : inB s.mode 1 3 = true ∧ (s.parts.length : Int) = cntH s.mode := by
      simp only [hH, stdH] at h
      unfold inB cntH
      by_cases m1 : s.mode = 1
      · simp [m1] at h ⊢; omega
      · by_cases m2 : s.mode = 2
        · simp [m2] at h ⊢; omega
        · by_cases m3 : s.mode = 3
          · simp [m3] at h ⊢; omega
          · simp [m1, m2, m3] at h
    have he : okH s = !s.parts.any fun y => !okA y := by
      unfold okH
      rw [hc.1, decide_eq_true hc.2]; rfl
    clear h
    refine loop_a hB (draw_ok hB mixed) hX hX0 hH false (ι := { i : Nat // i ≤ s.parts.length ∧ ∀ j, j < i → okA (s.parts.getD j default) = true }) 200 (fun i => [.i (H Int fun _ => (i.1 : Nat))]) (fun i => s.parts.length - i.1) (⟨0, by omega, by omega⟩) ?_ ?_
    · (conv in matchSt _ _ _ _ => cbv); simp only [AllG, AllP, and_true, hH, stdH, Nat.le_refl, ncast, Int.ofNat_eq_natCast, vrow_I, Arm.eta2, Fld.eta, Grp.eta]
      (repeat' (first | with_reducible exact True.intro | exact RowsEq.self okRA | rfl | refine And.intro ?_ ?_ | trivial))
    · intro I hI i
      conv in Fin.chk _ _ => cbv
      try simp only [Plain_rowsA, Plain_rowsB, Plain_rowsF, Plain_rowsG, Plain_rowsI, Plain_rowsS, Plain_rowsU, Fin.satC_ret, Fin.satC_br, Fin.satC_need, Fin.satC_again, AllP, and_true, true_and, upd, List.length_nil, List.length_cons, Nat.zero_add, if_true, ncast, Int.ofNat_eq_natCast]
      obtain ⟨i, hi, hall⟩ := i
      refine ⟨fun h1 => ⟨?_, fun h2 => ?_, fun h2 => ?_⟩, fun h1 => ?_⟩
      · simp only [hH, stdH, Nat.le_refl, decide_eq_true_eq, decide_eq_false_iff_not, Bool.not_eq_true', Bool.not_eq_false', peta, ncast, Int.ofNat_eq_natCast, beq_iff_eq, bne_iff_ne, beq_eq_false_iff_ne, bne_eq_false_iff_eq, ne_eq, Classical.not_not, Int.toNat_natCast, vrow_I, Arm.eta2, Fld.eta, Grp.eta] at h1 ⊢
        omega
      · simp only [hH, stdH, Nat.le_refl, decide_eq_true_eq, decide_eq_false_iff_not, Bool.not_eq_true', Bool.not_eq_false', peta, ncast, Int.ofNat_eq_natCast, beq_iff_eq, bne_iff_ne, beq_eq_false_iff_ne, bne_eq_false_iff_eq, ne_eq, Classical.not_not, Int.toNat_natCast, vrow_I, Arm.eta2, Fld.eta, Grp.eta] at h1
        simp only [hH, stdH, Int.toNat_natCast] at h2
        simp only [Arm.eta2, Fld.eta, Grp.eta] at h2
        try simp only [hH, stdH, Nat.le_refl, decide_eq_true_eq, decide_eq_false_iff_not, Bool.not_eq_true', Bool.not_eq_false', peta, ncast, Int.ofNat_eq_natCast, beq_iff_eq, bne_iff_ne, beq_eq_false_iff_ne, bne_eq_false_iff_eq, ne_eq, Classical.not_not, Int.toNat_natCast, vrow_I, Arm.eta2, Fld.eta, Grp.eta]
        rw [he, Bool.not_eq_false']
        exact List.any_eq_true.2 ⟨_, getDm (d := default) (show i < s.parts.length by omega), h2⟩
      · simp only [hH, stdH, Nat.le_refl, decide_eq_true_eq, decide_eq_false_iff_not, Bool.not_eq_true', Bool.not_eq_false', peta, ncast, Int.ofNat_eq_natCast, beq_iff_eq, bne_iff_ne, beq_eq_false_iff_ne, bne_eq_false_iff_eq, ne_eq, Classical.not_not, Int.toNat_natCast, vrow_I, Arm.eta2, Fld.eta, Grp.eta] at h1
        have h3 : okA (s.parts.getD i default) = true := by
          simp only [hH, stdH, Int.toNat_natCast] at h2
          simp only [Arm.eta2, Fld.eta, Grp.eta] at h2
          simpa using h2
        refine ⟨⟨i + 1, by omega, fun j hj => ?_⟩, by simp only; omega, ?_⟩
        · rcases Nat.lt_succ_iff_lt_or_eq.1 hj with h | rfl
          · exact hall j h
          · exact h3
        · rw [hI]
          (conv in matchSt _ _ _ _ => cbv); simp only [AllG, AllP, and_true, hH, stdH, Nat.le_refl, ncast, Int.ofNat_eq_natCast, vrow_I, Arm.eta2, Fld.eta, Grp.eta]
          rw [w1 (by omega)]
          (repeat' (first | with_reducible exact True.intro | exact RowsEq.self okRA | rfl | refine And.intro ?_ ?_ | trivial))
      · simp only [hH, stdH, Nat.le_refl, decide_eq_true_eq, decide_eq_false_iff_not, Bool.not_eq_true', Bool.not_eq_false', peta, ncast, Int.ofNat_eq_natCast, beq_iff_eq, bne_iff_ne, beq_eq_false_iff_ne, bne_eq_false_iff_eq, ne_eq, Classical.not_not, Int.toNat_natCast, vrow_I, Arm.eta2, Fld.eta, Grp.eta] at h1 ⊢
        obtain rfl : i = s.parts.length := by omega
        rw [he, Bool.not_eq_true', List.any_eq_false]
        intro x hx
        obtain ⟨j, hj, rfl⟩ := List.getElem_of_mem hx
        have := hall j hj
        rw [List.getD_eq_getElem?_getD, List.getElem?_eq_getElem hj, Option.getD_some] at this
        simp [this]
noncomputable def e_l20Good : Entry := pureE 57 fun H a => match a with
  | [.agg [.lit (.int .i64 s0), .vec 15 s1n s1f]] => some (.lit (.bool (H Bool fun _ => okH (⟨s0, (Tl rowA s1n s1f)⟩ : Shd))), [H Prop fun _ => Shp rowA s1n s1f, H Prop fun _ => (⟨s0, (Tl rowA s1n s1f)⟩ : Shd).parts.length ≤ 2000000])
  | _ => none
theorem eok_l20Good : EntryOk Tryz.prog e_l20Good := pureM_ok (by unfold isBody; kernel_rfl) (by
  intro a r ob e hob
  split at e
  · rename_i s0 s1n s1f
    simp only [Option.some.injEq, Prod.mk.injEq] at e
    obtain ⟨rfl, rfl⟩ := e
    exact ConN.args (.cons (.agg (.cons .rfl (.cons (.toT okRA rfl hob.1) .nil))) .nil) (c_l20Good (⟨s0, (Tl rowA s1n s1f)⟩ : Shd) hob.2.1)
  · simp at e)
end Go.Proofs.YtbnohmfapmeaaaaGreatDoor.AM

