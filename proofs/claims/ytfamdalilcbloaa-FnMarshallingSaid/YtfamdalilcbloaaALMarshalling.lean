import Derived.Test.YtfamdalilcbloaaAmT
import Derived.Test.YtfamdalilcbloaaShs
set_option linter.unusedVariables false
set_option linter.unusedSimpArgs false
set_option maxRecDepth 100000
set_option maxHeartbeats 4000000
set_option cbv.maxSteps 3000000
namespace Go.Proofs.Ytfamdalilcbloaa.AM
/- The law FnMarshalling holds; conditions: none. -/
theorem okH2 {a z : Arm} (h : (okA a && okA z) = true) : okH ⟨2, [a, z]⟩ = true := by
  rw [Bool.and_eq_true] at h
  simp [okH, inB, cntH, h.1, h.2]
theorem okH3 {a z : Arm} (h : (okA a && okA z) = true) : okH ⟨3, [a, z, z, a]⟩ = true := by
  rw [Bool.and_eq_true] at h
  simp [okH, inB, cntH, h.1, h.2]
theorem cnr0 {o : Arm} {l : List Arm} (h : (l.any fun y => decide (y = o)) = false) : cnr o l = 0 := by
  unfold cnr
  rw [List.countP_eq_zero]
  rw [List.any_eq_false] at h
  exact h
theorem cnr1 {o : Arm} {l : List Arm} (h : (l.any fun y => decide (y = o)) = true) : 0 < cnr o l := by
  unfold cnr
  rw [List.countP_pos_iff]
  obtain ⟨y, h1, h2⟩ := List.any_eq_true.1 h
  exact ⟨y, h1, h2⟩
theorem rpl0 {o a : Arm} {l : List Arm} (h : (l.any fun y => decide (y = o)) = false) : rpl o a l = l := by
  unfold rpl
  rw [List.any_eq_false] at h
  refine (List.map_congr_left fun y hy => ?_).trans (List.map_id _)
  have := h y hy
  rw [decide_eq_true_eq] at this
  exact if_neg this
theorem law_Marshalling (c : Cd) : Con Try.prog 8 [codeAV c] [] (.lit (.bool true)) [] := by
  have hB : Base Try.prog (tabΓ [e_vBig c, e_DrawImpale c, e_impale, e_quarter, e_impaleS, e_vShield, e_partAt, e_DrawReplacePart c, e_replH, e_replHS, e_vAmong]) tab := base_of tabOk (ents_cons (eok_vBig c) <| ents_cons (eok_DrawImpale c) <| ents_cons eok_impale <| ents_cons eok_quarter <| ents_cons eok_impaleS <| ents_cons eok_vShield <| ents_cons eok_partAt <| ents_cons (eok_DrawReplacePart c) <| ents_cons eok_replH <| ents_cons eok_replHS <| ents_cons eok_vAmong <| ents_nil)
  refine ConN.con (n := 0) (con_m (N := 175) hB (draw_ok hB mixed) Try.func8 rfl rfl (fun _ => [codeAV c]) (fun _ => []) 0 (fun H => .lit (.bool (H Bool fun _ => true))) (fun _ => []) (fun _ => []) 600 (by simp) (codeAV_bl c) (by simp [lk]) (by omega) (by simp) ?_)
  intro X hX hX0 H hH
  conv in Fin.chk _ _ => cbv
  try simp only [Plain_rowsA, Plain_rowsB, Plain_rowsF, Plain_rowsG, Plain_rowsI, Plain_rowsS, Plain_rowsU, Fin.satC_ret, Fin.satC_br, Fin.satC_need, Fin.satC_again, AllP, and_true, true_and, upd, List.length_nil, List.length_cons, Nat.zero_add, if_true, ncast, Int.ofNat_eq_natCast]
  subst hH
  have hs := p_DrawReplacePart c
  simp only at hs
  simp only [stdH, Arm.eta2, Fld.eta, Grp.eta, Tl_A, Shp_A, implies_true, true_and, and_true, eq_self]
  generalize (F_DrawImpale c).a = a
  generalize (F_DrawImpale c).z = z
  generalize F_DrawReplacePart c = r at *
  obtain ⟨s, o, x⟩ := r
  simp only at hs ⊢
  cases hq : (okA a && okA z) with
  | true =>
    have e2 := okH2 hq
    have e3 := okH3 hq
    have k2 : atH ⟨2, [a, z]⟩ true true = 1 := rfl
    have k3 : atH ⟨3, [a, z, z, a]⟩ true true = 3 := rfl
    simp only [if_true, e2, e3, k2, k3, Bool.not_true, Bool.not_false, cond_true, cond_false, beq_self_eq_true, decide_true, List.length_cons, List.length_nil, eqAE]
    have d1 : decide (((0 + 1 + 1 : Nat) : Int) ≤ 1) = false := by decide
    have d2 : decide (((0 + 1 + 1 + 1 + 1 : Nat) : Int) ≤ 3) = false := by decide
    have g1 : decide ([a, z].getD (Int.toNat 1) default = z) = true := decide_eq_true rfl
    have g2 : decide ([a, z, z, a].getD (Int.toNat 3) default = a) = true := decide_eq_true rfl
    have n4 : (((0 + 1 + 1 + 1 + 1 : Nat) : Int) != 4) = false := by decide
    simp only [d1, d2, g1, g2, n4, Bool.not_true, cond_true, cond_false]
    have zl : shZ.parts.length = 0 := rfl
    generalize hk : okR3 ⟨s.mode, s.parts⟩ o x = k
    have hl : (rpl o x s.parts).length = s.parts.length := by unfold rpl; simp
    intro _
    cases k with
    | false =>
      simp only [Bool.false_eq_true, if_false, Bool.not_false, Bool.not_true, cond_true, cond_false, zl, bne_self_eq_false, Bool.and_self]
      repeat' (first | exact trivial | rfl | omega | refine And.intro ?_ ?_ | (intro h; first | (cases h; done) | skip))
    | true =>
      cases ha : s.parts.any fun y => decide (y = o) with
      | true =>
        have hc := cnr1 ha
        have hd : decide ((0 : Int) < (cnr o s.parts : Nat)) = true := decide_eq_true (by omega)
        have he : (((cnr o s.parts : Nat) : Int) == 0) = false := by rw [beq_eq_false_iff_ne]; omega
        simp only [if_true, Bool.false_eq_true, if_false, Bool.not_false, Bool.not_true, cond_true, cond_false, zl, bne_self_eq_false, Bool.and_self, hd, he, hl, beq_self_eq_true]
        repeat' (first | exact trivial | rfl | omega | refine And.intro ?_ ?_ | (intro h; first | (cases h; done) | skip))
      | false =>
        have hc := cnr0 ha
        have hr := rpl0 (a := x) ha
        simp only [if_true, Bool.false_eq_true, if_false, Bool.not_false, Bool.not_true, cond_true, cond_false, zl, bne_self_eq_false, Bool.and_self, hc, hr, beq_self_eq_true, decide_true, Bool.and_true]
        repeat' (first | exact trivial | rfl | omega | refine And.intro ?_ ?_ | (intro h; first | (cases h; done) | skip))
  | false =>
    simp only [Bool.false_eq_true, if_false, Bool.not_true, Bool.not_false, cond_true, cond_false, beq_self_eq_true, decide_true, List.length_cons, List.length_nil, eqAE]
    have z2 : okH ⟨shZ.mode, shZ.parts⟩ = false := rfl
    simp only [z2, Bool.not_false, cond_true, cond_false]
    have zl : shZ.parts.length = 0 := rfl
    generalize hk : okR3 ⟨s.mode, s.parts⟩ o x = k
    have hl : (rpl o x s.parts).length = s.parts.length := by unfold rpl; simp
    intro _
    cases k with
    | false =>
      simp only [Bool.false_eq_true, if_false, Bool.not_false, Bool.not_true, cond_true, cond_false, zl, bne_self_eq_false, Bool.and_self]
      repeat' (first | exact trivial | rfl | omega | refine And.intro ?_ ?_ | (intro h; first | (cases h; done) | skip))
    | true =>
      cases ha : s.parts.any fun y => decide (y = o) with
      | true =>
        have hc := cnr1 ha
        have hd : decide ((0 : Int) < (cnr o s.parts : Nat)) = true := decide_eq_true (by omega)
        have he : (((cnr o s.parts : Nat) : Int) == 0) = false := by rw [beq_eq_false_iff_ne]; omega
        simp only [if_true, Bool.false_eq_true, if_false, Bool.not_false, Bool.not_true, cond_true, cond_false, zl, bne_self_eq_false, Bool.and_self, hd, he, hl, beq_self_eq_true]
        repeat' (first | exact trivial | rfl | omega | refine And.intro ?_ ?_ | (intro h; first | (cases h; done) | skip))
      | false =>
        have hc := cnr0 ha
        have hr := rpl0 (a := x) ha
        simp only [if_true, Bool.false_eq_true, if_false, Bool.not_false, Bool.not_true, cond_true, cond_false, zl, bne_self_eq_false, Bool.and_self, hc, hr, beq_self_eq_true, decide_true, Bool.and_true]
        repeat' (first | exact trivial | rfl | omega | refine And.intro ?_ ?_ | (intro h; first | (cases h; done) | skip))

end Go.Proofs.Ytfamdalilcbloaa.AM
