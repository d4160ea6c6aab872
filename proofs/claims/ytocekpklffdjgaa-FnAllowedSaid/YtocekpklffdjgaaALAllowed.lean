import Derived.Test.YtocekpklffdjgaaAmT
import Derived.Test.YtocekpklffdjgaaAly
set_option linter.unusedVariables false
set_option linter.unusedSimpArgs false
set_option maxRecDepth 100000
set_option maxHeartbeats 4000000
set_option cbv.maxSteps 3000000
namespace Go.Proofs.Ytocekpklffdjgaa.AM
/- The law FnAllowed holds; conditions: none. -/
theorem ask3 {a : Arm} {p : Int} (h : (bif askA a p then p == 3 else false) = true) : askA a p = true ∧ p = 3 ∧ okA a = true ∧ noG a.r = false := by
  cases e : askA a p with
  | false => rw [e] at h; cases h
  | true =>
    rw [e] at h
    have hp : p = 3 := by simpa using h
    subst hp
    unfold askA at e
    cases ho : okA a with
    | false => rw [ho] at e; cases e
    | true => rw [ho] at e; refine ⟨rfl, rfl, rfl, ?_⟩; cases hr : noG a.r with
      | false => rfl
      | true => rw [hr] at e; cases e
def wT (a : Arm) (t : Int) : Arm := { a with r := { a.r with t := t } }
theorem wT_ok {a : Arm} {t : Int} (h : okA a = true) (hr : noG a.r = false) (ht : 1 ≤ t ∧ t ≤ 9) : okA (wT a t) = true ∧ noG (wT a t).r = false := by
  obtain ⟨f, o, l, x, n, ⟨c, k, q, y⟩⟩ := a
  simp only [okA, Bool.and_eq_true] at h
  obtain ⟨⟨hf, hg⟩, ho⟩ := h
  have hg2 : okG ⟨c, k, q, y⟩ = true := by simp only at hr; rw [hr] at hg; simpa using hg
  have hn : noG ⟨c, k, q, t⟩ = false := by
    unfold noG; simp; omega
  have hc : inB c 1 6 = true := by unfold okG at hg2; simp only [Bool.and_eq_true] at hg2; exact hg2.1.1
  refine ⟨?_, hn⟩
  simp only [okA, wT, Bool.and_eq_true]
  refine ⟨⟨hf, ?_⟩, ho⟩
  have : okG ⟨c, k, q, t⟩ = true := by
    unfold okG at hg2 ⊢; simp only [Bool.and_eq_true] at hg2 ⊢; exact ⟨hg2.1, by unfold inB; simpa using ht⟩
  rw [this]; simp
theorem any3 {a : Arm} (hr : noG a.r = false) : (fnds a).any (fun x => x.p == 3) = (tinF a.f).all (clsh a.r.t) := by
  unfold fnds
  rw [hr]
  generalize (tinF a.f).all (clsh a.r.t) = b1
  generalize (bif !decide (a.o = 0) then (tinF a.f).all (clsh a.t) else false) = b2
  generalize (bif !noG a.n then clsh a.n.t a.t else false) = b3
  cases b1 <;> cases b2 <;> cases b3 <;> rfl
theorem tcs_mem {t : Int} {p : Int → Bool} (ht : 1 ≤ t ∧ t ≤ 9) : ((tcs 9).filter p).contains t = p t := by
  rw [Bool.eq_iff_iff, List.contains_iff_mem, List.mem_filter]
  constructor
  · exact fun h => h.2
  · refine fun h => ⟨?_, h⟩
    unfold tcs
    rw [List.mem_map]
    exact ⟨(t - 1).toNat, by rw [List.mem_range]; omega, by omega⟩
theorem any_snoc {α : Type} {p : α → Bool} {l : List α} {i : Nat} {d : α} (h : i < l.length) : (l.take (i + 1)).any p = ((l.take i).any p || p (l.getD i d)) := by
  rw [List.take_succ_eq_append_getElem h, List.any_append, List.getD_eq_getElem?_getD, List.getElem?_eq_getElem h]
  simp
theorem Cd.rq (c : Cd) : RowsEq 1 c.n c.rows c.n c.rows := ⟨rfl, fun j _ => ⟨rfl, rfl, fun x hx => by simp [Cd.rows] at hx; subst hx; exact .lit⟩⟩
theorem bor_bif (a b : Bool) : (a || b) = bif a then true else b := by cases a <;> rfl
theorem bnot_self (b : Bool) : (!b == b) = false := by cases b <;> rfl
theorem law_Allowed (c : Cd) : Con Try.prog 3 [codeAV c] [] (.lit (.bool true)) [] := by
  have hB : Base Try.prog (tabΓ [e_rBig2 c, e_DrawAllowedAt c, e_AllowedAt, e_AllowedAtS, e_rInts, e_RuleFindings, e_rHas, e_DrawLenientFindings c, e_LenientFindings, e_LenientFindingsS, e_rFindings, e_DrawIsPoorField c, e_IsPoorField, e_IsPoorFieldS]) tab := base_of tabOk (ents_cons (eok_rBig2 c) <| ents_cons (eok_DrawAllowedAt c) <| ents_cons eok_AllowedAt <| ents_cons eok_AllowedAtS <| ents_cons eok_rInts <| ents_cons eok_RuleFindings <| ents_cons eok_rHas <| ents_cons (eok_DrawLenientFindings c) <| ents_cons eok_LenientFindings <| ents_cons eok_LenientFindingsS <| ents_cons eok_rFindings <| ents_cons (eok_DrawIsPoorField c) <| ents_cons eok_IsPoorField <| ents_cons eok_IsPoorFieldS <| ents_nil)
  refine ConN.con (con_m (N := 153) hB (draw_ok hB mixed) Try.func3 rfl rfl (fun H => [codeAV c]) (fun _ => []) 0 (fun H => .lit (.bool (H Bool fun _ => true))) (fun H => []) (fun _ => []) 600 (by simp) (codeAV_bl c) (by simp [lk]) (by omega) (by simp) ?_)
  intro X hX hX0 H hH
  conv in Fin.chk _ _ => cbv
  try simp only [Fin.satC_ret, Fin.satC_br, Fin.satC_need, Fin.satC_again, AllP, and_true, true_and, upd, List.length_nil, List.length_cons, Nat.zero_add, if_true, ncast, Int.ofNat_eq_natCast]
  generalize F_DrawAllowedAt c = y at *
  obtain ⟨a, p⟩ := y
  dsimp only at *
  have l3 := tcs_le 9 (alwP (belF a p))
  refine ⟨?_, fun h0 => ?_, fun h0 => ⟨?_, ⟨?_, ?_, ?_⟩, fun h1 => ?_, fun h1 => ⟨fun h2 => ?_, fun h2 => ?_⟩⟩⟩
  · try simp only [hH, stdH, decide_eq_true_eq, decide_eq_false_iff_not, Bool.not_eq_true', Bool.not_eq_false', peta, ncast, Int.ofNat_eq_natCast, beq_iff_eq, bne_iff_ne, beq_eq_false_iff_ne, bne_eq_false_iff_eq, ne_eq, Classical.not_not, Int.toNat_natCast, vrow_I, Arm.eta2, Fld.eta, Grp.eta]
  · try simp only [hH, stdH, decide_eq_true_eq, decide_eq_false_iff_not, Bool.not_eq_true', Bool.not_eq_false', peta, ncast, Int.ofNat_eq_natCast, beq_iff_eq, bne_iff_ne, beq_eq_false_iff_ne, bne_eq_false_iff_eq, ne_eq, Classical.not_not, Int.toNat_natCast, vrow_I, Arm.eta2, Fld.eta, Grp.eta]
  · try simp only [hH, stdH, decide_eq_true_eq, decide_eq_false_iff_not, Bool.not_eq_true', Bool.not_eq_false', peta, ncast, Int.ofNat_eq_natCast, beq_iff_eq, bne_iff_ne, beq_eq_false_iff_ne, bne_eq_false_iff_eq, ne_eq, Classical.not_not, Int.toNat_natCast, vrow_I, Arm.eta2, Fld.eta, Grp.eta]
  · try simp only [hH, stdH, decide_eq_true_eq, decide_eq_false_iff_not, Bool.not_eq_true', Bool.not_eq_false', peta, ncast, Int.ofNat_eq_natCast, beq_iff_eq, bne_iff_ne, beq_eq_false_iff_ne, bne_eq_false_iff_eq, ne_eq, Classical.not_not, Int.toNat_natCast, vrow_I, Arm.eta2, Fld.eta, Grp.eta]
    exact fun _ => Shp_I _ _
  · try simp only [hH, stdH, decide_eq_true_eq, decide_eq_false_iff_not, Bool.not_eq_true', Bool.not_eq_false', peta, ncast, Int.ofNat_eq_natCast, beq_iff_eq, bne_iff_ne, beq_eq_false_iff_ne, bne_eq_false_iff_eq, ne_eq, Classical.not_not, Int.toNat_natCast, vrow_I, Arm.eta2, Fld.eta, Grp.eta]
    exact fun _ => Shp_I _ _
  · try simp only [hH, stdH, decide_eq_true_eq, decide_eq_false_iff_not, Bool.not_eq_true', Bool.not_eq_false', peta, ncast, Int.ofNat_eq_natCast, beq_iff_eq, bne_iff_ne, beq_eq_false_iff_ne, bne_eq_false_iff_eq, ne_eq, Classical.not_not, Int.toNat_natCast, vrow_I, Arm.eta2, Fld.eta, Grp.eta]
    intro _
    split
    · simp only [Tl_I]; omega
    · simp [Tl_len]
  · simp only [hH, stdH, Int.toNat_natCast] at h1
    simp [bnot_self] at h1
  · simp only [hH, stdH, Int.toNat_natCast] at h2
    simp only [Arm.eta2, Fld.eta, Grp.eta] at h2
    obtain ⟨e1, rfl, ho, hr⟩ := ask3 h2
    clear h2 h1
    refine loop_a hB (draw_ok hB mixed) hX hX0 hH false (ι := { n : Nat // n ≤ 9 }) 600 (fun i => [.i (H Int fun _ => ((i.1 : Nat) : Int) + 1)]) (fun i => 9 - i.1) (⟨0, by omega⟩) ?_ ?_
    · (conv in matchSt _ _ _ _ => cbv); simp only [AllG, AllP, and_true, hH, stdH, ncast, Int.ofNat_eq_natCast, vrow_I, Arm.eta2, Fld.eta, Grp.eta]
      (repeat' (first | rfl | trivial | exact RowsEq.self okI | exact RowsEq.ofT okI rfl (Shp_zero _) rfl | exact RowsEq.snoc okI rfl | exact RowsEq.self okI | exact RowsEq.self okRA | exact List.length_append | refine And.intro ?_ ?_))
      exact c.rq
    · intro I hI i
      conv in Fin.chk _ _ => cbv
      try simp only [Fin.satC_ret, Fin.satC_br, Fin.satC_need, Fin.satC_again, AllP, and_true, true_and, upd, List.length_nil, List.length_cons, Nat.zero_add, if_true, ncast, Int.ofNat_eq_natCast]
      obtain ⟨i, hi⟩ := i
      refine ⟨fun h3 => ⟨fun h4 => ?_, fun h4 => ?_⟩, fun h3 => ?_⟩
      · simp only [hH, stdH, decide_eq_true_eq, decide_eq_false_iff_not, Bool.not_eq_true', Bool.not_eq_false', peta, ncast, Int.ofNat_eq_natCast, beq_iff_eq, bne_iff_ne, beq_eq_false_iff_ne, bne_eq_false_iff_eq, ne_eq, Classical.not_not, Int.toNat_natCast, vrow_I, Arm.eta2, Fld.eta, Grp.eta] at h3
        simp only [hH, stdH, Int.toNat_natCast] at h4
        have w := wT_ok (t := (i : Int) + 1) ho hr ⟨by omega, by omega⟩
        have h5 : (!okA (wT a ((i : Int) + 1))) = true := h4
        rw [w.1] at h5; cases h5
      · simp only [hH, stdH, decide_eq_true_eq, decide_eq_false_iff_not, Bool.not_eq_true', Bool.not_eq_false', peta, ncast, Int.ofNat_eq_natCast, beq_iff_eq, bne_iff_ne, beq_eq_false_iff_ne, bne_eq_false_iff_eq, ne_eq, Classical.not_not, Int.toNat_natCast, vrow_I, Arm.eta2, Fld.eta, Grp.eta] at h3
        have w := wT_ok (t := (i : Int) + 1) ho hr ⟨by omega, by omega⟩
        have l4 := fnds_len (wT a ((i : Int) + 1))
        clear h4
        refine loop_a hB (draw_ok hB mixed) hX hX0 hH true (ι := { k : Nat // k ≤ (fnds (wT a ((i : Int) + 1))).length }) 600 (fun k => [.b (H Bool fun _ => ((fnds (wT a ((i : Int) + 1))).take k.1).any (fun x => x.p == 3)), .i (H Int fun _ => (k.1 : Nat))]) (fun k => (fnds (wT a ((i : Int) + 1))).length - k.1) (⟨0, by omega⟩) ?_ ?_
        · (conv in matchSt _ _ _ _ => cbv); simp only [AllG, AllP, and_true, hH, stdH, ncast, Int.ofNat_eq_natCast, vrow_I, Arm.eta2, Fld.eta, Grp.eta]
          (repeat' (first | rfl | trivial | exact RowsEq.self okRD | exact RowsEq.ofT okRD rfl (Shp_zero _) rfl | exact RowsEq.snoc okRD rfl | exact RowsEq.self okI | exact RowsEq.self okRA | exact List.length_append | refine And.intro ?_ ?_))
          exact c.rq
        · intro J hJ k
          conv in Fin.chk _ _ => cbv
          try simp only [Fin.satC_ret, Fin.satC_br, Fin.satC_need, Fin.satC_again, AllP, and_true, true_and, upd, List.length_nil, List.length_cons, Nat.zero_add, if_true, ncast, Int.ofNat_eq_natCast]
          obtain ⟨k, hk⟩ := k
          refine ⟨fun h5 => ?_, fun h5 => ?_⟩
          · have hW : (⟨a.f, a.o, a.l, a.t, a.n, ⟨a.r.c, a.r.k, a.r.a, (i : Int) + 1⟩⟩ : Arm) = wT a ((i : Int) + 1) := rfl
            simp only [hH, stdH, decide_eq_true_eq, decide_eq_false_iff_not, Bool.not_eq_true', Bool.not_eq_false', peta, ncast, Int.ofNat_eq_natCast, beq_iff_eq, bne_iff_ne, beq_eq_false_iff_ne, bne_eq_false_iff_eq, ne_eq, Classical.not_not, Int.toNat_natCast, vrow_I, Arm.eta2, Fld.eta, Grp.eta] at h5
            simp only [hW, w.1, if_true] at h5
            refine ⟨?_, ⟨⟨k + 1, by omega⟩, by simp only; omega, ?_⟩⟩
            · try simp only [hH, stdH, decide_eq_true_eq, decide_eq_false_iff_not, Bool.not_eq_true', Bool.not_eq_false', peta, ncast, Int.ofNat_eq_natCast, beq_iff_eq, bne_iff_ne, beq_eq_false_iff_ne, bne_eq_false_iff_eq, ne_eq, Classical.not_not, Int.toNat_natCast, vrow_I, Arm.eta2, Fld.eta, Grp.eta]
              simp only [hW, w.1, if_true]
              intro _; omega
            · rw [hJ]
              (conv in matchSt _ _ _ _ => cbv); simp only [AllG, AllP, and_true, hH, stdH, ncast, Int.ofNat_eq_natCast, vrow_I, Arm.eta2, Fld.eta, Grp.eta]
              rw [w1 (by omega), any_snoc (d := default) (by omega), bor_bif]
              simp only [hW, w.1, if_true]
              (repeat' (first | rfl | trivial | exact RowsEq.self okRD | exact RowsEq.ofT okRD rfl (Shp_zero _) rfl | exact RowsEq.snoc okRD rfl | exact RowsEq.self okI | exact RowsEq.self okRA | exact List.length_append | refine And.intro ?_ ?_))
              all_goals exact c.rq
          · have hW : (⟨a.f, a.o, a.l, a.t, a.n, ⟨a.r.c, a.r.k, a.r.a, (i : Int) + 1⟩⟩ : Arm) = wT a ((i : Int) + 1) := rfl
            simp only [hH, stdH, decide_eq_true_eq, decide_eq_false_iff_not, Bool.not_eq_true', Bool.not_eq_false', peta, ncast, Int.ofNat_eq_natCast, beq_iff_eq, bne_iff_ne, beq_eq_false_iff_ne, bne_eq_false_iff_eq, ne_eq, Classical.not_not, Int.toNat_natCast, vrow_I, Arm.eta2, Fld.eta, Grp.eta] at h5
            simp only [hW, w.1, if_true] at h5
            obtain rfl : k = (fnds (wT a ((i : Int) + 1))).length := by omega
            refine ⟨⟨?_, ?_⟩, fun h6 => ?_, fun h6 => ?_⟩
            · try simp only [hH, stdH, decide_eq_true_eq, decide_eq_false_iff_not, Bool.not_eq_true', Bool.not_eq_false', peta, ncast, Int.ofNat_eq_natCast, beq_iff_eq, bne_iff_ne, beq_eq_false_iff_ne, bne_eq_false_iff_eq, ne_eq, Classical.not_not, Int.toNat_natCast, vrow_I, Arm.eta2, Fld.eta, Grp.eta]
              exact Shp_I _ _
            · try simp only [hH, stdH, decide_eq_true_eq, decide_eq_false_iff_not, Bool.not_eq_true', Bool.not_eq_false', peta, ncast, Int.ofNat_eq_natCast, beq_iff_eq, bne_iff_ne, beq_eq_false_iff_ne, bne_eq_false_iff_eq, ne_eq, Classical.not_not, Int.toNat_natCast, vrow_I, Arm.eta2, Fld.eta, Grp.eta]
              (try simp only [Tl_I])
              simp only [e1, if_true]
              omega
            · have e6 : ((fnds (wT a ((i : Int) + 1))).take (fnds (wT a ((i : Int) + 1))).length).any (fun x => x.p == 3) = (tinF a.f).all (clsh ((i : Int) + 1)) := by
                rw [List.take_length, any3 w.2]; rfl
              have e7 : List.elem ((i : Int) + 1) (if askA a 3 = true then (tcs 9).filter (alwP (belF a 3)) else []) = !(tinF a.f).all (clsh ((i : Int) + 1)) := by
                rw [if_pos e1]
                exact (tcs_mem (p := alwP (belF a 3)) ⟨by omega, by omega⟩).trans rfl
              simp only [hH, stdH, Int.toNat_natCast] at h6
              simp only [Arm.eta2, Fld.eta, Grp.eta, Tl_I] at h6
              rw [e6, e7] at h6
              generalize (tinF a.f).all (clsh ((i : Int) + 1)) = q at h6
              cases q <;> cases h6
            · rw [if_neg (by decide)]
              refine ⟨⟨i + 1, by omega⟩, by simp only; omega, ?_⟩
              rw [hI]
              (conv in matchSt _ _ _ _ => cbv); simp only [AllG, AllP, and_true, hH, stdH, ncast, Int.ofNat_eq_natCast, vrow_I, Arm.eta2, Fld.eta, Grp.eta]
              rw [show IntKind.i64.wrap ((i : Int) + 1 + 1) = ((i + 1 : Nat) : Int) + 1 by rw [wi] <;> omega]
              (repeat' (first | rfl | trivial | exact RowsEq.self okRD | exact RowsEq.ofT okRD rfl (Shp_zero _) rfl | exact RowsEq.snoc okRD rfl | exact RowsEq.self okI | exact RowsEq.self okRA | exact List.length_append | refine And.intro ?_ ?_))
              all_goals exact c.rq
      · try simp only [hH, stdH, decide_eq_true_eq, decide_eq_false_iff_not, Bool.not_eq_true', Bool.not_eq_false', peta, ncast, Int.ofNat_eq_natCast, beq_iff_eq, bne_iff_ne, beq_eq_false_iff_ne, bne_eq_false_iff_eq, ne_eq, Classical.not_not, Int.toNat_natCast, vrow_I, Arm.eta2, Fld.eta, Grp.eta]
        generalize F_DrawLenientFindings c = z at *
        generalize F_DrawIsPoorField c = u at *
        have l1 := fnds_len z
        have l2 := List.length_filter_le (lentF z) (fnds z)
        simp only [bnot_self, decide_true, Bool.not_true, cond_false, eq_self, beq_self_eq_true, cond_true]
        generalize okA z = q
        cases q
        · simp [Shp_zero, Tl_len]
        · simp [Shp_D, Tl_len]; omega
  · try simp only [hH, stdH, decide_eq_true_eq, decide_eq_false_iff_not, Bool.not_eq_true', Bool.not_eq_false', peta, ncast, Int.ofNat_eq_natCast, beq_iff_eq, bne_iff_ne, beq_eq_false_iff_ne, bne_eq_false_iff_eq, ne_eq, Classical.not_not, Int.toNat_natCast, vrow_I, Arm.eta2, Fld.eta, Grp.eta]
    generalize F_DrawLenientFindings c = z at *
    generalize F_DrawIsPoorField c = u at *
    have l1 := fnds_len z
    have l2 := List.length_filter_le (lentF z) (fnds z)
    simp only [bnot_self, decide_true, Bool.not_true, cond_false, eq_self, beq_self_eq_true, cond_true]
    generalize okA z = q
    cases q
    · simp [Shp_zero, Tl_len]
    · simp [Shp_D, Tl_len]; omega

end Go.Proofs.Ytocekpklffdjgaa.AM
