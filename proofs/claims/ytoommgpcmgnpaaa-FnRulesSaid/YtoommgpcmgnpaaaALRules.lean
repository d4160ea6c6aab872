import Derived.Test.YtoommgpcmgnpaaaAmT
import Derived.Test.YtoommgpcmgnpaaaFdt
import Derived.Test.YtoommgpcmgnpaaaDrl
import Derived.Test.YtoommgpcmgnpaaaRpb
import Derived.Test.YtoommgpcmgnpaaaRpc
import Derived.Test.YtoommgpcmgnpaaaAly
import Derived.Test.YtoommgpcmgnpaaaRpa
import Derived.Test.YtoommgpcmgnpaaaShd
set_option linter.unusedVariables false
set_option linter.unusedSimpArgs false
set_option maxRecDepth 100000
set_option maxHeartbeats 4000000
set_option cbv.maxSteps 3000000
namespace Go.Proofs.Ytoommgpcmgnpaaa.AM
/- The law FnRules holds; conditions: none. -/
theorem tinF_all {a : Arm} {x : Int} (h : okA a = true) (g : (tinF a.f).all (clsh x) = true) : clsh x a.f.p = true ∧ 1 ≤ a.f.p ∧ a.f.p ≤ 9 := by
  have hf := (okA_p h).1
  refine ⟨List.all_eq_true.1 g _ ?_, ?_⟩
  · unfold tinF
    split <;> simp
  · unfold okF at hf
    simp only [Bool.and_eq_true, inB, decide_eq_true_eq] at hf
    omega
theorem okFd_mk {p u l : Int} (h1 : 1 ≤ p ∧ p ≤ 3) (h2 : 1 ≤ u ∧ u ≤ 9) (h3 : 1 ≤ l ∧ l ≤ 9) (h4 : clsh u l = true) : okFd ⟨p, u, l⟩ = true := by
  unfold okFd inB
  simp only [Bool.and_eq_true, decide_eq_true_eq]
  exact ⟨h1, h2, h3, h4⟩
theorem fnds_ok {a : Arm} (h : okA a = true) : ∀ x ∈ fnds a, okFd x = true := by
  intro x hx
  obtain ⟨q1, q2, q3⟩ := okA_p h
  unfold fnds at hx
  rw [List.mem_append, List.mem_append] at hx
  rcases hx with (hx | hx) | hx
  · cases e : (bif !decide (a.o = 0) then (tinF a.f).all (clsh a.t) else false) with
    | false => rw [e] at hx; cases hx
    | true =>
      rw [e] at hx
      obtain rfl := List.mem_singleton.1 hx
      rcases q3 with ⟨g, _⟩ | ⟨g, _, _, g2, _⟩
      · rw [g] at e; cases e
      · rw [decide_eq_false g] at e
        obtain ⟨t1, t2⟩ := tinF_all h e
        unfold inB at g2
        exact okFd_mk (by omega) (of_decide_eq_true g2) t2 t1
  · cases e : (bif !noG a.n then clsh a.n.t a.t else false) with
    | false => rw [e] at hx; cases hx
    | true =>
      rw [e] at hx
      obtain rfl := List.mem_singleton.1 hx
      cases gn : noG a.n with
      | true => rw [gn] at e; cases e
      | false =>
        rw [gn] at e
        rcases q3 with ⟨_, _, _, g⟩ | ⟨_, _, _, g2, g3⟩
        · rw [gn] at g; cases g
        · unfold inB at g2
          rcases noG_t g3 with ⟨g, _⟩ | ⟨_, _, g⟩
          · rw [gn] at g; cases g
          · exact okFd_mk (by omega) g (of_decide_eq_true g2) e
  · cases e : (bif !noG a.r then (tinF a.f).all (clsh a.r.t) else false) with
    | false => rw [e] at hx; cases hx
    | true =>
      rw [e] at hx
      obtain rfl := List.mem_singleton.1 hx
      cases gn : noG a.r with
      | true => rw [gn] at e; cases e
      | false =>
        rw [gn] at e
        obtain ⟨t1, t2⟩ := tinF_all h e
        rcases noG_t q2 with ⟨g, _⟩ | ⟨_, _, g⟩
        · rw [gn] at g; cases g
        · exact okFd_mk (by omega) g t2 t1
theorem TlD_H {H : Hold} (hH : H = stdH) (L : List Fdg) : Tl rowD (H Nat fun _ => L.length) (rowsD H fun _ => L) = L := by subst hH; exact Tl_D L
theorem law_Rules (c : Cd) : Con Try.prog 3 [codeAV c] [] (.lit (.bool true)) [] := by
  have hB : Base Try.prog (tabΓ [e_rBig2 c, e_DrawRuleFindings c, e_RuleFindings, e_RuleFindingsS, e_rFindings, e_KeepsRules, e_fdText, e_parseFd, e_DrawRepairArms c, e_repairH, e_repairS, e_IsValidArms, e_DrawParseFinding c, e_parseFdS]) tab := base_of tabOk (ents_cons (eok_rBig2 c) <| ents_cons (eok_DrawRuleFindings c) <| ents_cons eok_RuleFindings <| ents_cons eok_RuleFindingsS <| ents_cons eok_rFindings <| ents_cons eok_KeepsRules <| ents_cons eok_fdText <| ents_cons eok_parseFd <| ents_cons (eok_DrawRepairArms c) <| ents_cons eok_repairH <| ents_cons eok_repairS <| ents_cons eok_IsValidArms <| ents_cons (eok_DrawParseFinding c) <| ents_cons eok_parseFdS <| ents_nil)
  refine ConN.con (n := 0) (con_m (N := 181) hB (draw_ok hB mixed) Try.func3 rfl rfl (fun _ => [codeAV c]) (fun _ => []) 0 (fun H => .lit (.bool (H Bool fun _ => true))) (fun _ => []) (fun _ => []) 600 (by simp) (codeAV_bl c) (by simp [lk]) (by omega) (by simp) ?_)
  intro X hX hX0 H hH
  conv in Fin.chk _ _ => cbv
  try simp only [Plain_rowsA, Plain_rowsB, Plain_rowsC, Plain_rowsD, Plain_rowsF, Plain_rowsG, Plain_rowsI, Plain_rowsS, Plain_rowsU, Fin.satC_ret, Fin.satC_br, Fin.satC_need, Fin.satC_again, AllP, and_true, true_and, upd, List.length_nil, List.length_cons, Nat.zero_add, if_true, ncast, Int.ofNat_eq_natCast]
  simp only [TlD_H hH, hetaA hH]
  have T : H Prop fun _ => True := by rw [hH]; trivial
  obtain ⟨a, ha⟩ : ∃ a, F_DrawRuleFindings c = a := ⟨_, rfl⟩
  simp only [ha]
  have l0 : ∀ x ∈ (if okA a = true then fnds a else []), okFd x = true := by
    split
    · exact fnds_ok (by assumption)
    · intro x hx; cases hx
  have l1 : (if okA a = true then fnds a else []).length ≤ 3 := by
    split
    · exact fnds_len a
    · simp
  have l2 : (okA a && (fnds a).isEmpty) = (bif okA a then (((if okA a = true then fnds a else []).length : Nat) : Int) == 0 else false) := by
    cases okA a with
    | false => rfl
    | true => simp only [Bool.true_and, if_true, cond_true, emp_len]
  generalize (if okA a = true then fnds a else []) = L at *
  refine ⟨T, fun _ => ?_, fun _ => ⟨T, ⟨?_, ?_, ?_⟩, fun h1 => ?_, fun h1 => ⟨fun h2 => ?_, fun h2 => ?_⟩⟩⟩
  · try simp only [hH, stdH, decide_eq_true_eq, decide_eq_false_iff_not, Bool.not_eq_true', Bool.not_eq_false', peta, ncast, Int.ofNat_eq_natCast, beq_iff_eq, bne_iff_ne, beq_eq_false_iff_ne, bne_eq_false_iff_eq, ne_eq, Classical.not_not, Int.toNat_natCast, vrow_I, Arm.eta2, Fld.eta, Grp.eta]
  · try simp only [hH, stdH, decide_eq_true_eq, decide_eq_false_iff_not, Bool.not_eq_true', Bool.not_eq_false', peta, ncast, Int.ofNat_eq_natCast, beq_iff_eq, bne_iff_ne, beq_eq_false_iff_ne, bne_eq_false_iff_eq, ne_eq, Classical.not_not, Int.toNat_natCast, vrow_I, Arm.eta2, Fld.eta, Grp.eta]
    exact fun _ => Shp_D _ _
  · try simp only [hH, stdH, decide_eq_true_eq, decide_eq_false_iff_not, Bool.not_eq_true', Bool.not_eq_false', peta, ncast, Int.ofNat_eq_natCast, beq_iff_eq, bne_iff_ne, beq_eq_false_iff_ne, bne_eq_false_iff_eq, ne_eq, Classical.not_not, Int.toNat_natCast, vrow_I, Arm.eta2, Fld.eta, Grp.eta]
    exact fun _ => Shp_D _ _
  · try simp only [hH, stdH, decide_eq_true_eq, decide_eq_false_iff_not, Bool.not_eq_true', Bool.not_eq_false', peta, ncast, Int.ofNat_eq_natCast, beq_iff_eq, bne_iff_ne, beq_eq_false_iff_ne, bne_eq_false_iff_eq, ne_eq, Classical.not_not, Int.toNat_natCast, vrow_I, Arm.eta2, Fld.eta, Grp.eta]
    exact fun _ => by omega
  · exfalso
    simp only [hH, stdH, Int.toNat_natCast] at h1
    simp at h1
  · exfalso
    simp only [hH, stdH, Int.toNat_natCast] at h2
    rw [l2] at h2
    simp at h2
  · refine loop_a hB (draw_ok hB mixed) hX hX0 hH false (ι := { i : Nat // i ≤ L.length }) 600 (fun i => [.i (H Int fun _ => (i.1 : Nat))]) (fun i => L.length - i.1) (⟨0, by omega⟩) ?_ ?_
    · (conv in matchSt _ _ _ _ => cbv); simp only [AllG, AllP, and_true, hH, stdH, ncast, Int.ofNat_eq_natCast, vrow_I, Arm.eta2, Fld.eta, Grp.eta]
      (repeat' (first | trivial | exact RowsEq.self okRD | exact c.rqN | rfl | refine And.intro ?_ ?_))
    · intro I hI i
      conv in Fin.chk _ _ => cbv
      try simp only [Plain_rowsA, Plain_rowsB, Plain_rowsC, Plain_rowsD, Plain_rowsF, Plain_rowsG, Plain_rowsI, Plain_rowsS, Plain_rowsU, Fin.satC_ret, Fin.satC_br, Fin.satC_need, Fin.satC_again, AllP, and_true, true_and, upd, List.length_nil, List.length_cons, Nat.zero_add, if_true, ncast, Int.ofNat_eq_natCast]
      simp only [TlD_H hH, hetaA hH]
      obtain ⟨i, hi⟩ := i
      refine ⟨fun h3 => ⟨?_, ?_, fun h4 => ?_, fun h4 => ?_⟩, fun h3 => ?_⟩
      · simp only [hH, stdH, decide_eq_true_eq, decide_eq_false_iff_not, Bool.not_eq_true', Bool.not_eq_false', peta, ncast, Int.ofNat_eq_natCast, beq_iff_eq, bne_iff_ne, beq_eq_false_iff_ne, bne_eq_false_iff_eq, ne_eq, Classical.not_not, Int.toNat_natCast, vrow_I, Arm.eta2, Fld.eta, Grp.eta] at h3 ⊢
        omega
      · simp only [hH, stdH, decide_eq_true_eq, decide_eq_false_iff_not, Bool.not_eq_true', Bool.not_eq_false', peta, ncast, Int.ofNat_eq_natCast, beq_iff_eq, bne_iff_ne, beq_eq_false_iff_ne, bne_eq_false_iff_eq, ne_eq, Classical.not_not, Int.toNat_natCast, vrow_I, Arm.eta2, Fld.eta, Grp.eta] at h3
        try simp only [hH, stdH, decide_eq_true_eq, decide_eq_false_iff_not, Bool.not_eq_true', Bool.not_eq_false', peta, ncast, Int.ofNat_eq_natCast, beq_iff_eq, bne_iff_ne, beq_eq_false_iff_ne, bne_eq_false_iff_eq, ne_eq, Classical.not_not, Int.toNat_natCast, vrow_I, Arm.eta2, Fld.eta, Grp.eta]
        exact fun _ => by omega
      · exfalso
        simp only [hH, stdH, decide_eq_true_eq, decide_eq_false_iff_not, Bool.not_eq_true', Bool.not_eq_false', peta, ncast, Int.ofNat_eq_natCast, beq_iff_eq, bne_iff_ne, beq_eq_false_iff_ne, bne_eq_false_iff_eq, ne_eq, Classical.not_not, Int.toNat_natCast, vrow_I, Arm.eta2, Fld.eta, Grp.eta] at h3
        simp only [hH, stdH, Int.toNat_natCast] at h4
        have hx : okFd (L.getD i default) = true := l0 _ (by
          rw [List.getD_eq_getElem?_getD, List.getElem?_eq_getElem (by omega), Option.getD_some]
          exact List.getElem_mem _)
        generalize L.getD i default = x at *
        change (bif bif !okFd x then true else !(pfd (if okFd x = true then fdT x else ByteArray.empty)).isSome then true else !allT [fun _ => ((pfd (if okFd x = true then fdT x else ByteArray.empty)).getD ⟨0, 0, 0⟩).p == x.p, fun _ => ((pfd (if okFd x = true then fdT x else ByteArray.empty)).getD ⟨0, 0, 0⟩).u == x.u, fun _ => ((pfd (if okFd x = true then fdT x else ByteArray.empty)).getD ⟨0, 0, 0⟩).l == x.l]) = true at h4
        rw [hx, if_pos rfl, pfd_hit hx rfl] at h4
        simp [allT] at h4
      · simp only [hH, stdH, decide_eq_true_eq, decide_eq_false_iff_not, Bool.not_eq_true', Bool.not_eq_false', peta, ncast, Int.ofNat_eq_natCast, beq_iff_eq, bne_iff_ne, beq_eq_false_iff_ne, bne_eq_false_iff_eq, ne_eq, Classical.not_not, Int.toNat_natCast, vrow_I, Arm.eta2, Fld.eta, Grp.eta] at h3
        refine ⟨⟨i + 1, by omega⟩, by simp only; omega, ?_⟩
        rw [hI]
        (conv in matchSt _ _ _ _ => cbv); simp only [AllG, AllP, and_true, hH, stdH, ncast, Int.ofNat_eq_natCast, vrow_I, Arm.eta2, Fld.eta, Grp.eta]
        rw [w1 (by omega)]
        (repeat' (first | trivial | exact RowsEq.self okRD | exact c.rqN | rfl | refine And.intro ?_ ?_))
      · obtain ⟨b, hb⟩ : ∃ b, F_DrawRepairArms c = b := ⟨_, rfl⟩
        simp only [hb]
        have T2 : ∀ (x y z : Int) (b : Bool), (bif allT [fun _ => x == x, fun _ => y == y, fun _ => z == z] then b == b else false) = true := fun x y z b => by simp [allT]
        refine ⟨T, fun h4 => ?_, fun h4 => ⟨fun h5 => ⟨fun h6 => ?_, fun h6 => ⟨fun h7 => ?_, fun h7 => ⟨T, ?_⟩⟩⟩, fun h5 => ⟨T, ?_⟩⟩⟩
        · exfalso
          simp only [hH, stdH, Int.toNat_natCast] at h4
          simp [allT] at h4
        · exfalso
          simp only [hH, stdH, Int.toNat_natCast] at h5
          simp only [hH, stdH, Int.toNat_natCast] at h6
          obtain ⟨_, g1, g2, _⟩ := rp_law h5
          rw [g1, g2] at h6
          cases h6
        · exfalso
          simp only [hH, stdH, Int.toNat_natCast] at h5
          simp only [hH, stdH, Int.toNat_natCast] at h7
          obtain ⟨g0, _, _, g3⟩ := rp_law h5
          rw [g0, Bool.true_and, g3, beqd] at h7
          simp at h7
        · simp only [hH, stdH]
          exact (T2 _ _ _ _).symm
        · simp only [hH, stdH]
          exact (T2 _ _ _ _).symm

end Go.Proofs.Ytoommgpcmgnpaaa.AM
