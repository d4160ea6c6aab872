import Derived.Test.YtdicfibonfjalaaDoorAmT
import Derived.Test.YtdicfibonfjalaaDoorSpo
set_option linter.unusedVariables false
set_option linter.unusedSimpArgs false
set_option maxRecDepth 100000
set_option maxHeartbeats 4000000
set_option cbv.maxSteps 3000000
namespace Go.Proofs.YtdicfibonfjalaaDoor.AM
/- The law FnGroups holds; conditions: none. -/
theorem Cd.rq (c : Cd) : RowsEq 1 c.n c.rows c.n c.rows := ⟨rfl, fun j _ => ⟨rfl, rfl, fun x hx => by simp [Cd.rows] at hx; subst hx; exact .lit⟩⟩
theorem law_Groups (c : Cd) : Con Tryd.prog 3 [codeAV c] [] (.lit (.bool true)) [] := by
  have hB : Base Tryd.prog (tabΓ [e_vBig3 c, e_DrawGroupText c, e_groupText, e_parseG, e_ValidGroupS, e_IsValidGroup, e_DrawParseGroup c, e_RowsOf, e_DrawJoinGroups c, e_JoinGroups, e_JoinGroupsS]) tabO := base_of tabOkO (ents_cons (eok_vBig3 c) <| ents_cons (eok_DrawGroupText c) <| ents_cons eok_groupText <| ents_cons eok_parseG <| ents_cons eok_ValidGroupS <| ents_cons eok_IsValidGroup <| ents_cons (eok_DrawParseGroup c) <| ents_cons eok_RowsOf <| ents_cons (eok_DrawJoinGroups c) <| ents_cons eok_JoinGroups <| ents_cons eok_JoinGroupsS <| ents_nil)
  refine ConN.con (n := 0) (con_m (N := 147) hB (draw_ok hB mixed) Tryd.func3 rfl rfl (fun _ => [codeAV c]) (fun _ => []) 0 (fun H => .lit (.bool (H Bool fun _ => true))) (fun _ => []) (fun _ => []) 400 (by simp) (codeAV_bl c) (by simp [lk]) (by omega) (by simp) ?_)
  intro X hX hX0 H hH
  conv in Fin.chk _ _ => cbv
  try simp only [Plain_rowsA, Plain_rowsB, Plain_rowsC, Plain_rowsF, Plain_rowsG, Plain_rowsI, Plain_rowsS, Plain_rowsU, Fin.satC_ret, Fin.satC_br, Fin.satC_need, Fin.satC_again, AllP, and_true, true_and, upd, List.length_nil, List.length_cons, Nat.zero_add, if_true, ncast, Int.ofNat_eq_natCast]
  generalize hy : F_DrawGroupText c = y at *
  have ht := p_DrawParseGroup c
  generalize F_DrawParseGroup c = t at *
  refine ⟨?_, fun h => ?_, fun h => ⟨?_, ?_, fun h1 => ?_, fun h1 => ⟨?_, ?_, fun h2 => ?_, fun h2 => ?_⟩⟩⟩
  · try simp only [hH, stdH, decide_eq_true_eq, decide_eq_false_iff_not, Bool.not_eq_true', Bool.not_eq_false', peta, ncast, Int.ofNat_eq_natCast, beq_iff_eq, bne_iff_ne, beq_eq_false_iff_ne, bne_eq_false_iff_eq, ne_eq, Classical.not_not, Int.toNat_natCast, vrow_I, Arm.eta2, Fld.eta, Grp.eta]
  · try simp only [hH, stdH, decide_eq_true_eq, decide_eq_false_iff_not, Bool.not_eq_true', Bool.not_eq_false', peta, ncast, Int.ofNat_eq_natCast, beq_iff_eq, bne_iff_ne, beq_eq_false_iff_ne, bne_eq_false_iff_eq, ne_eq, Classical.not_not, Int.toNat_natCast, vrow_I, Arm.eta2, Fld.eta, Grp.eta]
  · try simp only [hH, stdH, decide_eq_true_eq, decide_eq_false_iff_not, Bool.not_eq_true', Bool.not_eq_false', peta, ncast, Int.ofNat_eq_natCast, beq_iff_eq, bne_iff_ne, beq_eq_false_iff_ne, bne_eq_false_iff_eq, ne_eq, Classical.not_not, Int.toNat_natCast, vrow_I, Arm.eta2, Fld.eta, Grp.eta]
  · try simp only [hH, stdH, decide_eq_true_eq, decide_eq_false_iff_not, Bool.not_eq_true', Bool.not_eq_false', peta, ncast, Int.ofNat_eq_natCast, beq_iff_eq, bne_iff_ne, beq_eq_false_iff_ne, bne_eq_false_iff_eq, ne_eq, Classical.not_not, Int.toNat_natCast, vrow_I, Arm.eta2, Fld.eta, Grp.eta]
    split
    · have := grpT_sz y; omega
    · exact Nat.zero_le _
  · exfalso
    simp only [hH, stdH, Grp.eta] at h1
    cases ho : okG y
    · simp [ho] at h1
    · have e1 : allT [fun _ => y.c == y.c, fun _ => y.k == y.k, fun _ => y.a == y.a, fun _ => y.t == y.t] = true := by simp [allT]
      simp only [ho, if_true, parseG_of ho, Option.isSome_some, Option.getD_some, e1] at h1
      simp at h1
  · try simp only [hH, stdH, decide_eq_true_eq, decide_eq_false_iff_not, Bool.not_eq_true', Bool.not_eq_false', peta, ncast, Int.ofNat_eq_natCast, beq_iff_eq, bne_iff_ne, beq_eq_false_iff_ne, bne_eq_false_iff_eq, ne_eq, Classical.not_not, Int.toNat_natCast, vrow_I, Arm.eta2, Fld.eta, Grp.eta]
  · try simp only [hH, stdH, decide_eq_true_eq, decide_eq_false_iff_not, Bool.not_eq_true', Bool.not_eq_false', peta, ncast, Int.ofNat_eq_natCast, beq_iff_eq, bne_iff_ne, beq_eq_false_iff_ne, bne_eq_false_iff_eq, ne_eq, Classical.not_not, Int.toNat_natCast, vrow_I, Arm.eta2, Fld.eta, Grp.eta]
    omega
  · exfalso
    simp only [hH, stdH, Grp.eta, beqT] at h2
    cases hp : pG t with
    | none => rw [hp] at h2; simp at h2
    | some g =>
      have hg := pG_iff.1 hp
      simp only [hp, Option.isSome_some, Option.getD_some, hg.1, if_true, hg.2, decide_true] at h2
      simp at h2
  have hl : (roT y.c).length ≤ 3 := by
    unfold roT
    split
    · unfold rowT
      rw [List.getD_eq_getElem?_getD]
      cases e : rowGs[(y.c - 1).toNat]? with
      | none => exact Nat.zero_le _
      | some l => have : ∀ l ∈ rowGs, l.length ≤ 3 := by decide
                  exact this l (List.mem_of_getElem? e)
    · exact Nat.zero_le _
  have hs : ∀ i, i ≤ 3 → 0 ≤ ((roT y.c).take i).sum ∧ ((roT y.c).take i).sum ≤ 100 := by
    have : ∀ l ∈ [] :: rowGs, ∀ i, i ≤ 3 → 0 ≤ (l.take i).sum ∧ (l.take i).sum ≤ 100 := by decide
    intro i hi
    refine this _ ?_ i hi
    unfold roT
    split
    · unfold rowT
      rw [List.getD_eq_getElem?_getD]
      cases e : rowGs[(y.c - 1).toNat]? with
      | none => exact List.mem_cons_self
      | some l => exact List.mem_cons_of_mem _ (List.mem_of_getElem? e)
    · exact List.mem_cons_self
  have hg3 : ∀ i, i < (roT y.c).length → ((roT y.c).take (i + 1)).sum = ((roT y.c).take i).sum + (roT y.c).getD i 0 := fun i hi => by
    rw [List.take_succ_eq_append_getElem hi, List.sum_append, List.getD_eq_getElem?_getD, List.getElem?_eq_getElem hi]; simp
  refine loop_a hB (draw_ok hB mixed) hX hX0 hH false (ι := { i : Nat // i ≤ (roT y.c).length }) 400 (fun i => [.i (H Int fun _ => ((roT y.c).take i.1).sum), .i (H Int fun _ => (i.1 : Nat))]) (fun i => (roT y.c).length - i.1) (⟨0, by omega⟩) ?_ ?_
  · (conv in matchSt _ _ _ _ => cbv); simp only [AllG, AllP, and_true, hH, stdH, ncast, Int.ofNat_eq_natCast, vrow_I, Arm.eta2, Fld.eta, Grp.eta]
    (repeat' (first | rfl | trivial | exact RowsEq.self okI | exact c.rq | refine And.intro ?_ ?_))
  · intro I hI i
    conv in Fin.chk _ _ => cbv
    try simp only [Plain_rowsA, Plain_rowsB, Plain_rowsC, Plain_rowsF, Plain_rowsG, Plain_rowsI, Plain_rowsS, Plain_rowsU, Fin.satC_ret, Fin.satC_br, Fin.satC_need, Fin.satC_again, AllP, and_true, true_and, upd, List.length_nil, List.length_cons, Nat.zero_add, if_true, ncast, Int.ofNat_eq_natCast]
    obtain ⟨i, hi⟩ := i
    have ha := hs i (by omega)
    refine ⟨fun h3 => ?_, fun h3 => ?_⟩
    · simp only [hH, stdH, decide_eq_true_eq, decide_eq_false_iff_not, Bool.not_eq_true', Bool.not_eq_false', peta, ncast, Int.ofNat_eq_natCast, beq_iff_eq, bne_iff_ne, beq_eq_false_iff_ne, bne_eq_false_iff_eq, ne_eq, Classical.not_not, Int.toNat_natCast, vrow_I, Arm.eta2, Fld.eta, Grp.eta] at h3
      have hb := hs (i + 1) (by omega)
      have hc := hg3 i (by omega)
      repeat' (first | refine And.intro ?_ ?_ | intro _)
      all_goals try (simp only [hH, stdH]; omega)
      refine ⟨⟨i + 1, by omega⟩, by simp only; omega, ?_⟩
      rw [hI]
      (conv in matchSt _ _ _ _ => cbv); simp only [AllG, AllP, and_true, hH, stdH, ncast, Int.ofNat_eq_natCast, vrow_I, Arm.eta2, Fld.eta, Grp.eta]
      simp only [Int.toNat_natCast]
      rw [w1 (by omega), ← hc, wi (by omega) (by omega)]
      (repeat' (first | rfl | trivial | exact RowsEq.self okI | exact c.rq | refine And.intro ?_ ?_))
    · simp only [hH, stdH, decide_eq_true_eq, decide_eq_false_iff_not, Bool.not_eq_true', Bool.not_eq_false', peta, ncast, Int.ofNat_eq_natCast, beq_iff_eq, bne_iff_ne, beq_eq_false_iff_ne, bne_eq_false_iff_eq, ne_eq, Classical.not_not, Int.toNat_natCast, vrow_I, Arm.eta2, Fld.eta, Grp.eta] at h3
      obtain rfl : i = (roT y.c).length := by omega
      try simp only [hH, stdH, decide_eq_true_eq, decide_eq_false_iff_not, Bool.not_eq_true', Bool.not_eq_false', peta, ncast, Int.ofNat_eq_natCast, beq_iff_eq, bne_iff_ne, beq_eq_false_iff_ne, bne_eq_false_iff_eq, ne_eq, Classical.not_not, Int.toNat_natCast, vrow_I, Arm.eta2, Fld.eta, Grp.eta]
      rw [List.take_length]
      generalize F_DrawJoinGroups c = z
      have e1 : ∀ j : Grp, allT [fun _ => j.c == j.c, fun _ => j.k == j.k, fun _ => j.a == j.a, fun _ => j.t == j.t] = true := fun j => by simp [allT]
      simp only [e1]
      refine ⟨fun h4 => ?_, fun _ => ⟨trivial, fun h4 => ?_, fun _ => ?_⟩⟩
      · exfalso
        cases ho : okG y
        · rw [ho] at h4; cases h4
        · have hc := (okG_c ho).1
          have e2 : inB y.c 1 6 = true := by unfold inB; simp; omega
          have e3 : (roT y.c).sum = y.c := by
            unfold roT
            rw [e2, if_pos rfl]
            rcases (by omega : y.c = 1 ∨ y.c = 2 ∨ y.c = 3 ∨ y.c = 4 ∨ y.c = 5 ∨ y.c = 6) with e | e | e | e | e | e <;> rw [e] <;> rfl
          rw [ho, e2, e3] at h4
          simp at h4
      · simp at h4
      · cases joOk z.a z.b
        · rfl
        · simp [joG]

end Go.Proofs.YtdicfibonfjalaaDoor.AM
