import Derived.Test.YthilcnfnbgbkdaaDoorAmT
import Derived.Test.YthilcnfnbgbkdaaDoorMrg
import Derived.Test.YthilcnfnbgbkdaaDoorGrd
set_option linter.unusedVariables false
set_option linter.unusedSimpArgs false
set_option maxRecDepth 100000
set_option maxHeartbeats 4000000
set_option cbv.maxSteps 3000000
namespace Go.Proofs.YthilcnfnbgbkdaaDoor.AM
/- The law FnQuarterings holds; conditions: none. -/
theorem TlA_H3 {H : Hold} (hH : H = stdH) (L : List Arm) : Tl rowA (H Nat fun _ => L.length) (rowsA H fun _ => L) = L := by subst hH; exact Tl_A L
theorem TlA_part {L : List Arm} {i : Nat} (h : i ≤ L.length) : Tl rowA (hiOf L.length (some (i : Int)) - loOf none) (fun j => rowsA stdH (fun _ => L) (loOf none + j)) = L.take i := by
  simp only [hiOf, loOf, Int.toNat_natCast, Nat.sub_zero]
  exact Tl_part okRA h
theorem gridQ_len (n : Nat) : (gridQ n).length = (gr n).1 := by simp [gridQ]
theorem gridQ_at {n i : Nat} (h : i < (gr n).1) : (gridQ n).getD i [] = gridR n i (gr n).2 := by
  simp [gridQ, gridR, List.getD_eq_getElem?_getD, h]
theorem gridR_at {n r k p : Nat} (h : p < k) : (gridR n r k).getD p 0 = (((r * (gr n).2 + p) % n : Nat) : Int) := by
  simp [gridR, List.getD_eq_getElem?_getD, h]
theorem qlT_len (l : List Arm) : (qlT l).length = l.length := by simp [qlT]
theorem law_Quarterings (c : Cd) : Con Tryd.prog 3 [codeAV c] [] (.lit (.bool true)) [] := by
  have hB : Base Tryd.prog (tabΓ [e_vBig c, e_DrawMerge c, e_mergeH, e_mergeS, e_vArmsL, e_validQ, e_goodQS, e_vAmong, e_qlinesL, e_fillQ, e_gridOf]) tabG := base_of tabOkG (ents_cons (eok_vBig c) <| ents_cons (eok_DrawMerge c) <| ents_cons eok_mergeH <| ents_cons eok_mergeS <| ents_cons eok_vArmsL <| ents_cons eok_validQ <| ents_cons eok_goodQS <| ents_cons eok_vAmong <| ents_cons eok_qlinesL <| ents_cons eok_fillQ <| ents_cons eok_gridOf <| ents_nil)
  refine ConN.con (n := 0) (con_m (N := 184) hB (draw_ok hB mixed) Tryd.func3 rfl rfl (fun _ => [codeAV c]) (fun _ => []) 0 (fun H => .lit (.bool (H Bool fun _ => true))) (fun _ => []) (fun _ => []) 600 (by simp) (codeAV_bl c) (by simp [lk]) (by omega) (by simp) ?_)
  intro X hX hX0 H hH
  conv in Fin.chk _ _ => cbv
  try simp only [Plain_rowsA, Plain_rowsB, Plain_rowsC, Plain_rowsF, Plain_rowsG, Plain_rowsI, Plain_rowsS, Plain_rowsU, Fin.satC_ret, Fin.satC_br, Fin.satC_need, Fin.satC_again, AllP, and_true, true_and, upd, List.length_nil, List.length_cons, Nat.zero_add, if_true, ncast, Int.ofNat_eq_natCast]
  simp only [TlA_H3 hH, hetaA hH]
  have hd := p_DrawMerge c
  simp only at hd
  obtain ⟨r, hr⟩ : ∃ r, F_DrawMerge c = r := ⟨_, rfl⟩
  rw [hr] at hd
  simp only [hr]
  obtain ⟨a, b⟩ := r
  simp only at hd ⊢
  have F : ∀ X : Prop, (X → H Prop fun _ => True) := fun X _ => by rw [hH]; trivial
  cases hq : (okQ a && okQ b) with
  | false =>
    simp only [Bool.false_eq_true, if_false]
    refine ⟨(by rw [hH]; trivial), fun _ => ?_, fun _ => ⟨(by rw [hH]; trivial), ?_, ?_, ⟨?_, ?_, ?_⟩, ⟨?_, ?_⟩, ⟨?_, ?_⟩, fun h1 => ?_, fun h1 => ⟨fun h2 => ?_, fun h2 => ?_⟩⟩⟩
    · try simp only [hH, stdH, decide_eq_true_eq, decide_eq_false_iff_not, Bool.not_eq_true', Bool.not_eq_false', peta, ncast, Int.ofNat_eq_natCast, beq_iff_eq, bne_iff_ne, beq_eq_false_iff_ne, bne_eq_false_iff_eq, ne_eq, Classical.not_not, Int.toNat_natCast, vrow_I, Arm.eta2, Fld.eta, Grp.eta]
    · try simp only [hH, stdH, decide_eq_true_eq, decide_eq_false_iff_not, Bool.not_eq_true', Bool.not_eq_false', peta, ncast, Int.ofNat_eq_natCast, beq_iff_eq, bne_iff_ne, beq_eq_false_iff_ne, bne_eq_false_iff_eq, ne_eq, Classical.not_not, Int.toNat_natCast, vrow_I, Arm.eta2, Fld.eta, Grp.eta]
      exact ⟨Shp_A _ _, Shp_A _ _, by omega, by omega⟩
    · try simp only [hH, stdH, decide_eq_true_eq, decide_eq_false_iff_not, Bool.not_eq_true', Bool.not_eq_false', peta, ncast, Int.ofNat_eq_natCast, beq_iff_eq, bne_iff_ne, beq_eq_false_iff_ne, bne_eq_false_iff_eq, ne_eq, Classical.not_not, Int.toNat_natCast, vrow_I, Arm.eta2, Fld.eta, Grp.eta]
      exact ⟨Shp_A _ _, Shp_A _ _, by omega, by omega⟩
    · try simp only [hH, stdH, decide_eq_true_eq, decide_eq_false_iff_not, Bool.not_eq_true', Bool.not_eq_false', peta, ncast, Int.ofNat_eq_natCast, beq_iff_eq, bne_iff_ne, beq_eq_false_iff_ne, bne_eq_false_iff_eq, ne_eq, Classical.not_not, Int.toNat_natCast, vrow_I, Arm.eta2, Fld.eta, Grp.eta]
      exact fun _ => Shp_A _ _
    · try simp only [hH, stdH, decide_eq_true_eq, decide_eq_false_iff_not, Bool.not_eq_true', Bool.not_eq_false', peta, ncast, Int.ofNat_eq_natCast, beq_iff_eq, bne_iff_ne, beq_eq_false_iff_ne, bne_eq_false_iff_eq, ne_eq, Classical.not_not, Int.toNat_natCast, vrow_I, Arm.eta2, Fld.eta, Grp.eta]
      exact fun _ => Shp_A _ _
    · try simp only [hH, stdH, decide_eq_true_eq, decide_eq_false_iff_not, Bool.not_eq_true', Bool.not_eq_false', peta, ncast, Int.ofNat_eq_natCast, beq_iff_eq, bne_iff_ne, beq_eq_false_iff_ne, bne_eq_false_iff_eq, ne_eq, Classical.not_not, Int.toNat_natCast, vrow_I, Arm.eta2, Fld.eta, Grp.eta]
      exact fun _ => by simp
    · try simp only [hH, stdH, decide_eq_true_eq, decide_eq_false_iff_not, Bool.not_eq_true', Bool.not_eq_false', peta, ncast, Int.ofNat_eq_natCast, beq_iff_eq, bne_iff_ne, beq_eq_false_iff_ne, bne_eq_false_iff_eq, ne_eq, Classical.not_not, Int.toNat_natCast, vrow_I, Arm.eta2, Fld.eta, Grp.eta]
      exact fun _ => Shp_A _ _
    · try simp only [hH, stdH, decide_eq_true_eq, decide_eq_false_iff_not, Bool.not_eq_true', Bool.not_eq_false', peta, ncast, Int.ofNat_eq_natCast, beq_iff_eq, bne_iff_ne, beq_eq_false_iff_ne, bne_eq_false_iff_eq, ne_eq, Classical.not_not, Int.toNat_natCast, vrow_I, Arm.eta2, Fld.eta, Grp.eta]
      exact fun _ => by omega
    · try simp only [hH, stdH, decide_eq_true_eq, decide_eq_false_iff_not, Bool.not_eq_true', Bool.not_eq_false', peta, ncast, Int.ofNat_eq_natCast, beq_iff_eq, bne_iff_ne, beq_eq_false_iff_ne, bne_eq_false_iff_eq, ne_eq, Classical.not_not, Int.toNat_natCast, vrow_I, Arm.eta2, Fld.eta, Grp.eta]
      exact fun _ => Shp_A _ _
    · try simp only [hH, stdH, decide_eq_true_eq, decide_eq_false_iff_not, Bool.not_eq_true', Bool.not_eq_false', peta, ncast, Int.ofNat_eq_natCast, beq_iff_eq, bne_iff_ne, beq_eq_false_iff_ne, bne_eq_false_iff_eq, ne_eq, Classical.not_not, Int.toNat_natCast, vrow_I, Arm.eta2, Fld.eta, Grp.eta]
      exact fun _ => by omega
    · exfalso
      simp only [hH, stdH, Int.toNat_natCast] at h1
      simp at h1
    · try simp only [hH, stdH, decide_eq_true_eq, decide_eq_false_iff_not, Bool.not_eq_true', Bool.not_eq_false', peta, ncast, Int.ofNat_eq_natCast, beq_iff_eq, bne_iff_ne, beq_eq_false_iff_ne, bne_eq_false_iff_eq, ne_eq, Classical.not_not, Int.toNat_natCast, vrow_I, Arm.eta2, Fld.eta, Grp.eta]
      rfl
    · exfalso
      simp only [hH, stdH, Int.toNat_natCast] at h2
      simp at h2
  | true =>
    simp only [if_true]
    rw [Bool.and_eq_true] at hq
    obtain ⟨ha, hb⟩ := hq
    have hok := okQ_mrg ha hb
    obtain ⟨e, he, hnew, _⟩ := mrg_ext a b
    obtain ⟨m, hm⟩ : ∃ m, mrg a b = m := ⟨_, rfl⟩
    rw [hm] at hok he
    simp only [hm]
    obtain ⟨m1, m2⟩ := okQ_len hok
    have hl : a.length ≤ m.length := by rw [he, List.length_append]; omega
    have ht : m.take a.length = a := by rw [he]; exact List.take_left' rfl
    refine ⟨(by rw [hH]; trivial), fun _ => ?_, fun _ => ⟨(by rw [hH]; trivial), ?_, ?_, ⟨?_, ?_, ?_⟩, ⟨?_, ?_⟩, ⟨?_, ?_⟩, fun h1 => ?_, fun h1 => ⟨fun h2 => ?_, fun h2 => ⟨⟨?_, ?_⟩, ?_, ⟨?_, ?_, ?_⟩, fun h3 => ?_, fun h3 => ?_⟩⟩⟩⟩
    · try simp only [hH, stdH, decide_eq_true_eq, decide_eq_false_iff_not, Bool.not_eq_true', Bool.not_eq_false', peta, ncast, Int.ofNat_eq_natCast, beq_iff_eq, bne_iff_ne, beq_eq_false_iff_ne, bne_eq_false_iff_eq, ne_eq, Classical.not_not, Int.toNat_natCast, vrow_I, Arm.eta2, Fld.eta, Grp.eta]
    · try simp only [hH, stdH, decide_eq_true_eq, decide_eq_false_iff_not, Bool.not_eq_true', Bool.not_eq_false', peta, ncast, Int.ofNat_eq_natCast, beq_iff_eq, bne_iff_ne, beq_eq_false_iff_ne, bne_eq_false_iff_eq, ne_eq, Classical.not_not, Int.toNat_natCast, vrow_I, Arm.eta2, Fld.eta, Grp.eta]
      exact ⟨Shp_A _ _, Shp_A _ _, by omega, by omega⟩
    · try simp only [hH, stdH, decide_eq_true_eq, decide_eq_false_iff_not, Bool.not_eq_true', Bool.not_eq_false', peta, ncast, Int.ofNat_eq_natCast, beq_iff_eq, bne_iff_ne, beq_eq_false_iff_ne, bne_eq_false_iff_eq, ne_eq, Classical.not_not, Int.toNat_natCast, vrow_I, Arm.eta2, Fld.eta, Grp.eta]
      exact ⟨Shp_A _ _, Shp_A _ _, by omega, by omega⟩
    · try simp only [hH, stdH, decide_eq_true_eq, decide_eq_false_iff_not, Bool.not_eq_true', Bool.not_eq_false', peta, ncast, Int.ofNat_eq_natCast, beq_iff_eq, bne_iff_ne, beq_eq_false_iff_ne, bne_eq_false_iff_eq, ne_eq, Classical.not_not, Int.toNat_natCast, vrow_I, Arm.eta2, Fld.eta, Grp.eta]
      exact fun _ => Shp_A _ _
    · try simp only [hH, stdH, decide_eq_true_eq, decide_eq_false_iff_not, Bool.not_eq_true', Bool.not_eq_false', peta, ncast, Int.ofNat_eq_natCast, beq_iff_eq, bne_iff_ne, beq_eq_false_iff_ne, bne_eq_false_iff_eq, ne_eq, Classical.not_not, Int.toNat_natCast, vrow_I, Arm.eta2, Fld.eta, Grp.eta]
      exact fun _ => Shp_A _ _
    · try simp only [hH, stdH, decide_eq_true_eq, decide_eq_false_iff_not, Bool.not_eq_true', Bool.not_eq_false', peta, ncast, Int.ofNat_eq_natCast, beq_iff_eq, bne_iff_ne, beq_eq_false_iff_ne, bne_eq_false_iff_eq, ne_eq, Classical.not_not, Int.toNat_natCast, vrow_I, Arm.eta2, Fld.eta, Grp.eta]
      exact fun _ => by omega
    · try simp only [hH, stdH, decide_eq_true_eq, decide_eq_false_iff_not, Bool.not_eq_true', Bool.not_eq_false', peta, ncast, Int.ofNat_eq_natCast, beq_iff_eq, bne_iff_ne, beq_eq_false_iff_ne, bne_eq_false_iff_eq, ne_eq, Classical.not_not, Int.toNat_natCast, vrow_I, Arm.eta2, Fld.eta, Grp.eta]
      exact fun _ => Shp_A _ _
    · try simp only [hH, stdH, decide_eq_true_eq, decide_eq_false_iff_not, Bool.not_eq_true', Bool.not_eq_false', peta, ncast, Int.ofNat_eq_natCast, beq_iff_eq, bne_iff_ne, beq_eq_false_iff_ne, bne_eq_false_iff_eq, ne_eq, Classical.not_not, Int.toNat_natCast, vrow_I, Arm.eta2, Fld.eta, Grp.eta]
      exact fun _ => by omega
    · try simp only [hH, stdH, decide_eq_true_eq, decide_eq_false_iff_not, Bool.not_eq_true', Bool.not_eq_false', peta, ncast, Int.ofNat_eq_natCast, beq_iff_eq, bne_iff_ne, beq_eq_false_iff_ne, bne_eq_false_iff_eq, ne_eq, Classical.not_not, Int.toNat_natCast, vrow_I, Arm.eta2, Fld.eta, Grp.eta]
      exact fun _ => Shp_A _ _
    · try simp only [hH, stdH, decide_eq_true_eq, decide_eq_false_iff_not, Bool.not_eq_true', Bool.not_eq_false', peta, ncast, Int.ofNat_eq_natCast, beq_iff_eq, bne_iff_ne, beq_eq_false_iff_ne, bne_eq_false_iff_eq, ne_eq, Classical.not_not, Int.toNat_natCast, vrow_I, Arm.eta2, Fld.eta, Grp.eta]
      exact fun _ => by omega
    · exfalso
      simp only [hH, stdH, Int.toNat_natCast] at h1
      simp at h1
    · exfalso
      simp only [hH, stdH, Int.toNat_natCast] at h2
      simp at h2
    · try simp only [hH, stdH, decide_eq_true_eq, decide_eq_false_iff_not, Bool.not_eq_true', Bool.not_eq_false', peta, ncast, Int.ofNat_eq_natCast, beq_iff_eq, bne_iff_ne, beq_eq_false_iff_ne, bne_eq_false_iff_eq, ne_eq, Classical.not_not, Int.toNat_natCast, vrow_I, Arm.eta2, Fld.eta, Grp.eta]
      exact Shp_A _ _
    · try simp only [hH, stdH, decide_eq_true_eq, decide_eq_false_iff_not, Bool.not_eq_true', Bool.not_eq_false', peta, ncast, Int.ofNat_eq_natCast, beq_iff_eq, bne_iff_ne, beq_eq_false_iff_ne, bne_eq_false_iff_eq, ne_eq, Classical.not_not, Int.toNat_natCast, vrow_I, Arm.eta2, Fld.eta, Grp.eta]
      omega
    · try simp only [hH, stdH, decide_eq_true_eq, decide_eq_false_iff_not, Bool.not_eq_true', Bool.not_eq_false', peta, ncast, Int.ofNat_eq_natCast, beq_iff_eq, bne_iff_ne, beq_eq_false_iff_ne, bne_eq_false_iff_eq, ne_eq, Classical.not_not, Int.toNat_natCast, vrow_I, Arm.eta2, Fld.eta, Grp.eta]
      intro _
      exact ⟨trivial, by omega, by simp only [hiOf, loOf]; omega, by simp only [hiOf]; omega⟩
    · try simp only [hH, stdH, decide_eq_true_eq, decide_eq_false_iff_not, Bool.not_eq_true', Bool.not_eq_false', peta, ncast, Int.ofNat_eq_natCast, beq_iff_eq, bne_iff_ne, beq_eq_false_iff_ne, bne_eq_false_iff_eq, ne_eq, Classical.not_not, Int.toNat_natCast, vrow_I, Arm.eta2, Fld.eta, Grp.eta]
      exact fun _ => Shp_part okRA _
    · try simp only [hH, stdH, decide_eq_true_eq, decide_eq_false_iff_not, Bool.not_eq_true', Bool.not_eq_false', peta, ncast, Int.ofNat_eq_natCast, beq_iff_eq, bne_iff_ne, beq_eq_false_iff_ne, bne_eq_false_iff_eq, ne_eq, Classical.not_not, Int.toNat_natCast, vrow_I, Arm.eta2, Fld.eta, Grp.eta]
      exact fun _ => Shp_A _ _
    · try simp only [hH, stdH, decide_eq_true_eq, decide_eq_false_iff_not, Bool.not_eq_true', Bool.not_eq_false', peta, ncast, Int.ofNat_eq_natCast, beq_iff_eq, bne_iff_ne, beq_eq_false_iff_ne, bne_eq_false_iff_eq, ne_eq, Classical.not_not, Int.toNat_natCast, vrow_I, Arm.eta2, Fld.eta, Grp.eta]
      intro _
      rw [TlA_part hl, ht]; omega
    · exfalso
      simp only [hH, stdH, Int.toNat_natCast] at h3
      rw [TlA_part hl, ht, hok] at h3
      simp at h3
      omega
    · refine loop_a hB (draw_ok hB mixed) hX hX0 hH false (ι := { i : Nat // a.length ≤ i ∧ i ≤ m.length }) 600 (fun i => [.i (H Int fun _ => (i.1 : Nat))]) (fun i => m.length - i.1) (⟨a.length, by omega⟩) ?_ ?_
      · (conv in matchSt _ _ _ _ => cbv); simp only [AllG, AllP, and_true, hH, stdH, ncast, Int.ofNat_eq_natCast, vrow_I, Arm.eta2, Fld.eta, Grp.eta]
        (repeat' (first | trivial | exact RowsEq.self okRA | exact c.rqN | rfl | refine And.intro ?_ ?_))
      · intro I hI i
        conv in Fin.chk _ _ => cbv
        try simp only [Plain_rowsA, Plain_rowsB, Plain_rowsC, Plain_rowsF, Plain_rowsG, Plain_rowsI, Plain_rowsS, Plain_rowsU, Fin.satC_ret, Fin.satC_br, Fin.satC_need, Fin.satC_again, AllP, and_true, true_and, upd, List.length_nil, List.length_cons, Nat.zero_add, if_true, ncast, Int.ofNat_eq_natCast]
        simp only [hetaA hH, heta hH]
        obtain ⟨i, hi1, hi⟩ := i
        refine ⟨fun h4 => ⟨?_, ⟨?_, ?_⟩, ?_, ⟨?_, ?_⟩, fun h5 => ?_, fun h5 => ?_⟩, fun h4 => ?_⟩
        · simp only [hH, stdH, decide_eq_true_eq, decide_eq_false_iff_not, Bool.not_eq_true', Bool.not_eq_false', peta, ncast, Int.ofNat_eq_natCast, beq_iff_eq, bne_iff_ne, beq_eq_false_iff_ne, bne_eq_false_iff_eq, ne_eq, Classical.not_not, Int.toNat_natCast, vrow_I, Arm.eta2, Fld.eta, Grp.eta] at h4 ⊢
          omega
        · try simp only [hH, stdH, decide_eq_true_eq, decide_eq_false_iff_not, Bool.not_eq_true', Bool.not_eq_false', peta, ncast, Int.ofNat_eq_natCast, beq_iff_eq, bne_iff_ne, beq_eq_false_iff_ne, bne_eq_false_iff_eq, ne_eq, Classical.not_not, Int.toNat_natCast, vrow_I, Arm.eta2, Fld.eta, Grp.eta]
          exact Shp_A _ _
        · try simp only [hH, stdH, decide_eq_true_eq, decide_eq_false_iff_not, Bool.not_eq_true', Bool.not_eq_false', peta, ncast, Int.ofNat_eq_natCast, beq_iff_eq, bne_iff_ne, beq_eq_false_iff_ne, bne_eq_false_iff_eq, ne_eq, Classical.not_not, Int.toNat_natCast, vrow_I, Arm.eta2, Fld.eta, Grp.eta]
          simp only [Tl_A]; omega
        · simp only [hH, stdH, decide_eq_true_eq, decide_eq_false_iff_not, Bool.not_eq_true', Bool.not_eq_false', peta, ncast, Int.ofNat_eq_natCast, beq_iff_eq, bne_iff_ne, beq_eq_false_iff_ne, bne_eq_false_iff_eq, ne_eq, Classical.not_not, Int.toNat_natCast, vrow_I, Arm.eta2, Fld.eta, Grp.eta] at h4 ⊢
          exact fun _ => by omega
        · try simp only [hH, stdH, decide_eq_true_eq, decide_eq_false_iff_not, Bool.not_eq_true', Bool.not_eq_false', peta, ncast, Int.ofNat_eq_natCast, beq_iff_eq, bne_iff_ne, beq_eq_false_iff_ne, bne_eq_false_iff_eq, ne_eq, Classical.not_not, Int.toNat_natCast, vrow_I, Arm.eta2, Fld.eta, Grp.eta]
          exact fun _ => Shp_A _ _
        · try simp only [hH, stdH, decide_eq_true_eq, decide_eq_false_iff_not, Bool.not_eq_true', Bool.not_eq_false', peta, ncast, Int.ofNat_eq_natCast, beq_iff_eq, bne_iff_ne, beq_eq_false_iff_ne, bne_eq_false_iff_eq, ne_eq, Classical.not_not, Int.toNat_natCast, vrow_I, Arm.eta2, Fld.eta, Grp.eta]
          simp only [Tl_A]
          exact fun _ => by omega
        · exfalso
          simp only [hH, stdH, decide_eq_true_eq, decide_eq_false_iff_not, Bool.not_eq_true', Bool.not_eq_false', peta, ncast, Int.ofNat_eq_natCast, beq_iff_eq, bne_iff_ne, beq_eq_false_iff_ne, bne_eq_false_iff_eq, ne_eq, Classical.not_not, Int.toNat_natCast, vrow_I, Arm.eta2, Fld.eta, Grp.eta] at h4
          simp only [hH, stdH, Int.toNat_natCast] at h5
          simp only [Tl_A, Int.toNat_natCast] at h5
          have hx : m.getD i default ∈ e := by
            rw [he, List.getD_eq_getElem?_getD, List.getElem?_append_right hi1, List.getElem?_eq_getElem (by rw [he, List.length_append] at h4; omega), Option.getD_some]
            exact List.getElem_mem _
          obtain ⟨hx1, hx2⟩ := hnew _ hx
          have b1 : (b.any fun y => decide (y = m.getD i default)) = true := List.any_eq_true.2 ⟨_, hx1, by simp⟩
          have b2 : (a.any fun y => decide (y = m.getD i default)) = false := by
            rw [List.any_eq_false]
            intro y hy
            simp only [decide_eq_true_eq]
            rintro rfl
            exact hx2 hy
          rw [b1, b2] at h5
          cases h5
        · simp only [hH, stdH, decide_eq_true_eq, decide_eq_false_iff_not, Bool.not_eq_true', Bool.not_eq_false', peta, ncast, Int.ofNat_eq_natCast, beq_iff_eq, bne_iff_ne, beq_eq_false_iff_ne, bne_eq_false_iff_eq, ne_eq, Classical.not_not, Int.toNat_natCast, vrow_I, Arm.eta2, Fld.eta, Grp.eta] at h4
          refine ⟨⟨i + 1, by omega, by omega⟩, by simp only; omega, ?_⟩
          rw [hI]
          (conv in matchSt _ _ _ _ => cbv); simp only [AllG, AllP, and_true, hH, stdH, ncast, Int.ofNat_eq_natCast, vrow_I, Arm.eta2, Fld.eta, Grp.eta]
          rw [w1 (by omega)]
          (repeat' (first | trivial | exact RowsEq.self okRA | exact c.rqN | rfl | refine And.intro ?_ ?_))
        · simp only [hH, stdH, decide_eq_true_eq, decide_eq_false_iff_not, Bool.not_eq_true', Bool.not_eq_false', peta, ncast, Int.ofNat_eq_natCast, beq_iff_eq, bne_iff_ne, beq_eq_false_iff_ne, bne_eq_false_iff_eq, ne_eq, Classical.not_not, Int.toNat_natCast, vrow_I, Arm.eta2, Fld.eta, Grp.eta] at h4
          obtain rfl : i = m.length := by omega
          simp only [TlA_H3 hH, hlen hH, Int.toNat_natCast]
          obtain ⟨q1, q2, q3, q4, q5⟩ := gr_ok m.length (by omega) m1
          obtain ⟨G, hG⟩ : ∃ G, gridQ m.length = G := ⟨_, rfl⟩
          obtain ⟨Q, hQ⟩ : ∃ Q, qlT m = Q := ⟨_, rfl⟩
          obtain ⟨R, hR⟩ : ∃ R, (gr m.length).1 = R := ⟨_, rfl⟩
          obtain ⟨P, hP⟩ : ∃ P, (gr m.length).2 = P := ⟨_, rfl⟩
          have gl : G.length = R := by rw [← hG, ← hR]; exact gridQ_len _
          have ql : Q.length = m.length := by rw [← hQ]; exact qlT_len _
          have gc : ∀ i, i < R → (G.getD i []).length = P ∧ ∀ k, k < P → (G.getD i []).getD k 0 = (((i * P + k) % m.length : Nat) : Int) := fun i hi => by
            rw [← hG, gridQ_at (by omega), gridR_len]
            exact ⟨hP, fun k hk => by rw [gridR_at (by omega), hP]⟩
          simp only [hG, hQ, hR, hP]
          rw [hR] at q1 q3 q4
          rw [hP] at q2 q3 q5
          refine ⟨⟨?_, ?_, ?_⟩, ⟨?_, ?_, ?_⟩, ?_, fun h5 => ?_, fun h5 => ?_⟩
          · try simp only [hH, stdH, decide_eq_true_eq, decide_eq_false_iff_not, Bool.not_eq_true', Bool.not_eq_false', peta, ncast, Int.ofNat_eq_natCast, beq_iff_eq, bne_iff_ne, beq_eq_false_iff_ne, bne_eq_false_iff_eq, ne_eq, Classical.not_not, Int.toNat_natCast, vrow_I, Arm.eta2, Fld.eta, Grp.eta]
            exact Shp_A _ _
          · try simp only [hH, stdH, decide_eq_true_eq, decide_eq_false_iff_not, Bool.not_eq_true', Bool.not_eq_false', peta, ncast, Int.ofNat_eq_natCast, beq_iff_eq, bne_iff_ne, beq_eq_false_iff_ne, bne_eq_false_iff_eq, ne_eq, Classical.not_not, Int.toNat_natCast, vrow_I, Arm.eta2, Fld.eta, Grp.eta]
            omega
          · try simp only [hH, stdH, decide_eq_true_eq, decide_eq_false_iff_not, Bool.not_eq_true', Bool.not_eq_false', peta, ncast, Int.ofNat_eq_natCast, beq_iff_eq, bne_iff_ne, beq_eq_false_iff_ne, bne_eq_false_iff_eq, ne_eq, Classical.not_not, Int.toNat_natCast, vrow_I, Arm.eta2, Fld.eta, Grp.eta]
            exact hok
          · try simp only [hH, stdH, decide_eq_true_eq, decide_eq_false_iff_not, Bool.not_eq_true', Bool.not_eq_false', peta, ncast, Int.ofNat_eq_natCast, beq_iff_eq, bne_iff_ne, beq_eq_false_iff_ne, bne_eq_false_iff_eq, ne_eq, Classical.not_not, Int.toNat_natCast, vrow_I, Arm.eta2, Fld.eta, Grp.eta]
            exact Shp_A _ _
          · try simp only [hH, stdH, decide_eq_true_eq, decide_eq_false_iff_not, Bool.not_eq_true', Bool.not_eq_false', peta, ncast, Int.ofNat_eq_natCast, beq_iff_eq, bne_iff_ne, beq_eq_false_iff_ne, bne_eq_false_iff_eq, ne_eq, Classical.not_not, Int.toNat_natCast, vrow_I, Arm.eta2, Fld.eta, Grp.eta]
            omega
          · try simp only [hH, stdH, decide_eq_true_eq, decide_eq_false_iff_not, Bool.not_eq_true', Bool.not_eq_false', peta, ncast, Int.ofNat_eq_natCast, beq_iff_eq, bne_iff_ne, beq_eq_false_iff_ne, bne_eq_false_iff_eq, ne_eq, Classical.not_not, Int.toNat_natCast, vrow_I, Arm.eta2, Fld.eta, Grp.eta]
            exact hok
          · try simp only [hH, stdH, decide_eq_true_eq, decide_eq_false_iff_not, Bool.not_eq_true', Bool.not_eq_false', peta, ncast, Int.ofNat_eq_natCast, beq_iff_eq, bne_iff_ne, beq_eq_false_iff_ne, bne_eq_false_iff_eq, ne_eq, Classical.not_not, Int.toNat_natCast, vrow_I, Arm.eta2, Fld.eta, Grp.eta]
            exact ⟨by omega, by omega⟩
          · exfalso
            simp only [hH, stdH, Int.toNat_natCast] at h5
            rw [wm (by omega) (by omega), ql, gl] at h5
            simp at h5
            omega
          · have g0 : 0 ≤ R := Nat.zero_le _
            refine loop_c hB (draw_ok hB mixed) hX hX0 hH [5, 12, 14, 15, 17, 18] (ι := { i : Nat // i ≤ R }) 600 (fun i => [.i (H Int fun _ => (i.1 * P : Nat)), .i (H Int fun _ => (i.1 : Nat))]) (fun i => R - i.1) (⟨0, g0⟩) ?_ ?_
            · (conv in matchSt _ _ _ _ => cbv); simp only [AllG, AllP, and_true, hH, stdH, ncast, Int.ofNat_eq_natCast, vrow_I, Arm.eta2, Fld.eta, Grp.eta]
              rw [Nat.zero_mul]
              (repeat' (first | trivial | exact RowsEq.self okRA | exact RowsEq.self (okL okI) | exact RowsEq.self okS | exact c.rqN | rfl | refine And.intro ?_ ?_))
            · intro I3 hI3 i
              conv in Fin.chk _ _ => cbv
              try simp only [Plain_rowsA, Plain_rowsB, Plain_rowsC, Plain_rowsF, Plain_rowsG, Plain_rowsI, Plain_rowsS, Plain_rowsU, Fin.satC_ret, Fin.satC_br, Fin.satC_need, Fin.satC_again, AllP, and_true, true_and, upd, List.length_nil, List.length_cons, Nat.zero_add, if_true, ncast, Int.ofNat_eq_natCast]
              obtain ⟨i, hi⟩ := i
              refine ⟨fun h6 => ?_, fun h6 => ?_⟩
              · simp only [hH, stdH, decide_eq_true_eq, decide_eq_false_iff_not, Bool.not_eq_true', Bool.not_eq_false', peta, ncast, Int.ofNat_eq_natCast, beq_iff_eq, bne_iff_ne, beq_eq_false_iff_ne, bne_eq_false_iff_eq, ne_eq, Classical.not_not, Int.toNat_natCast, vrow_I, Arm.eta2, Fld.eta, Grp.eta] at h6
                rw [gl] at h6
                have h6 : i < R := by omega
                have g1 : 0 ≤ P := Nat.zero_le _
                have hm1 : (i + 1) * P ≤ 12 * 14 := Nat.mul_le_mul (by omega) q5
                rw [Nat.add_mul, Nat.one_mul] at hm1
                obtain ⟨gP, gV⟩ := gc i h6
                refine loop_c hB (draw_ok hB mixed) hX hX0 hH [5, 12, 14, 15, 17, 18, 19] (ι := { k : Nat // k ≤ P }) 600 (fun k => [.i (H Int fun _ => (i * P + k.1 : Nat)), .i (H Int fun _ => (k.1 : Nat))]) (fun k => P - k.1) (⟨0, g1⟩) ?_ ?_
                · (conv in matchSt _ _ _ _ => cbv); simp only [AllG, AllP, and_true, hH, stdH, ncast, Int.ofNat_eq_natCast, vrow_I, Arm.eta2, Fld.eta, Grp.eta]
                  rw [Nat.add_zero]
                  (repeat' (first | trivial | exact RowsEq.self okRA | exact RowsEq.self (okL okI) | exact RowsEq.self okS | exact c.rqN | rfl | refine And.intro ?_ ?_))
                · intro I4 hI4 k
                  conv in Fin.chk _ _ => cbv
                  try simp only [Plain_rowsA, Plain_rowsB, Plain_rowsC, Plain_rowsF, Plain_rowsG, Plain_rowsI, Plain_rowsS, Plain_rowsU, Fin.satC_ret, Fin.satC_br, Fin.satC_need, Fin.satC_again, AllP, and_true, true_and, upd, List.length_nil, List.length_cons, Nat.zero_add, if_true, ncast, Int.ofNat_eq_natCast]
                  obtain ⟨k, hk⟩ := k
                  simp only [hlen hH, Int.toNat_natCast]
                  refine ⟨?_, fun h7 => ⟨?_, ?_, ?_, fun h8 => ?_, fun h8 => ?_⟩, fun h7 => ?_⟩
                  · try simp only [hH, stdH, decide_eq_true_eq, decide_eq_false_iff_not, Bool.not_eq_true', Bool.not_eq_false', peta, ncast, Int.ofNat_eq_natCast, beq_iff_eq, bne_iff_ne, beq_eq_false_iff_ne, bne_eq_false_iff_eq, ne_eq, Classical.not_not, Int.toNat_natCast, vrow_I, Arm.eta2, Fld.eta, Grp.eta]
                    rw [gl]; omega
                  · try simp only [hH, stdH, decide_eq_true_eq, decide_eq_false_iff_not, Bool.not_eq_true', Bool.not_eq_false', peta, ncast, Int.ofNat_eq_natCast, beq_iff_eq, bne_iff_ne, beq_eq_false_iff_ne, bne_eq_false_iff_eq, ne_eq, Classical.not_not, Int.toNat_natCast, vrow_I, Arm.eta2, Fld.eta, Grp.eta]
                    rw [gl]; omega
                  · simp only [hH, stdH, decide_eq_true_eq, decide_eq_false_iff_not, Bool.not_eq_true', Bool.not_eq_false', peta, ncast, Int.ofNat_eq_natCast, beq_iff_eq, bne_iff_ne, beq_eq_false_iff_ne, bne_eq_false_iff_eq, ne_eq, Classical.not_not, Int.toNat_natCast, vrow_I, Arm.eta2, Fld.eta, Grp.eta] at h7
                    rw [gP] at h7
                    try simp only [hH, stdH, decide_eq_true_eq, decide_eq_false_iff_not, Bool.not_eq_true', Bool.not_eq_false', peta, ncast, Int.ofNat_eq_natCast, beq_iff_eq, bne_iff_ne, beq_eq_false_iff_ne, bne_eq_false_iff_eq, ne_eq, Classical.not_not, Int.toNat_natCast, vrow_I, Arm.eta2, Fld.eta, Grp.eta]
                    rw [gP]
                    omega
                  · try simp only [hH, stdH, decide_eq_true_eq, decide_eq_false_iff_not, Bool.not_eq_true', Bool.not_eq_false', peta, ncast, Int.ofNat_eq_natCast, beq_iff_eq, bne_iff_ne, beq_eq_false_iff_ne, bne_eq_false_iff_eq, ne_eq, Classical.not_not, Int.toNat_natCast, vrow_I, Arm.eta2, Fld.eta, Grp.eta]
                    omega
                  · exfalso
                    simp only [hH, stdH, decide_eq_true_eq, decide_eq_false_iff_not, Bool.not_eq_true', Bool.not_eq_false', peta, ncast, Int.ofNat_eq_natCast, beq_iff_eq, bne_iff_ne, beq_eq_false_iff_ne, bne_eq_false_iff_eq, ne_eq, Classical.not_not, Int.toNat_natCast, vrow_I, Arm.eta2, Fld.eta, Grp.eta] at h7
                    rw [gP] at h7
                    simp only [hH, stdH, Int.toNat_natCast] at h8
                    rw [gV k (by omega), Int.tmod_eq_emod_of_nonneg (by omega), Int.natCast_emod] at h8
                    simp at h8
                  · simp only [hH, stdH, decide_eq_true_eq, decide_eq_false_iff_not, Bool.not_eq_true', Bool.not_eq_false', peta, ncast, Int.ofNat_eq_natCast, beq_iff_eq, bne_iff_ne, beq_eq_false_iff_ne, bne_eq_false_iff_eq, ne_eq, Classical.not_not, Int.toNat_natCast, vrow_I, Arm.eta2, Fld.eta, Grp.eta] at h7
                    rw [gP] at h7
                    refine ⟨⟨k + 1, by omega⟩, by simp only; omega, ?_⟩
                    rw [hI4]
                    (conv in matchSt _ _ _ _ => cbv); simp only [AllG, AllP, and_true, hH, stdH, ncast, Int.ofNat_eq_natCast, vrow_I, Arm.eta2, Fld.eta, Grp.eta]
                    rw [w1 (by omega), w1 (by omega)]
                    (repeat' (first | trivial | exact RowsEq.self okRA | exact RowsEq.self (okL okI) | exact RowsEq.self okS | exact c.rqN | rfl | refine And.intro ?_ ?_))
                  · simp only [hH, stdH, decide_eq_true_eq, decide_eq_false_iff_not, Bool.not_eq_true', Bool.not_eq_false', peta, ncast, Int.ofNat_eq_natCast, beq_iff_eq, bne_iff_ne, beq_eq_false_iff_ne, bne_eq_false_iff_eq, ne_eq, Classical.not_not, Int.toNat_natCast, vrow_I, Arm.eta2, Fld.eta, Grp.eta] at h7
                    rw [gP] at h7
                    obtain rfl : k = P := by omega
                    rw [if_neg (by decide)]
                    refine ⟨⟨i + 1, by omega⟩, by simp only; omega, ?_⟩
                    rw [hI3]
                    (conv in matchSt _ _ _ _ => cbv); simp only [AllG, AllP, and_true, hH, stdH, ncast, Int.ofNat_eq_natCast, vrow_I, Arm.eta2, Fld.eta, Grp.eta]
                    rw [w1 (by omega), Nat.add_mul, Nat.one_mul]
                    (repeat' (first | trivial | exact RowsEq.self okRA | exact RowsEq.self (okL okI) | exact RowsEq.self okS | exact c.rqN | rfl | refine And.intro ?_ ?_))
              · simp only [hH, stdH, decide_eq_true_eq, decide_eq_false_iff_not, Bool.not_eq_true', Bool.not_eq_false', peta, ncast, Int.ofNat_eq_natCast, beq_iff_eq, bne_iff_ne, beq_eq_false_iff_ne, bne_eq_false_iff_eq, ne_eq, Classical.not_not, Int.toNat_natCast, vrow_I, Arm.eta2, Fld.eta, Grp.eta] at h6
                rw [gl] at h6
                obtain rfl : i = R := by omega
                try simp only [hH, stdH, decide_eq_true_eq, decide_eq_false_iff_not, Bool.not_eq_true', Bool.not_eq_false', peta, ncast, Int.ofNat_eq_natCast, beq_iff_eq, bne_iff_ne, beq_eq_false_iff_ne, bne_eq_false_iff_eq, ne_eq, Classical.not_not, Int.toNat_natCast, vrow_I, Arm.eta2, Fld.eta, Grp.eta]
                rw [wm (by omega) (by omega)]
                simp

end Go.Proofs.YthilcnfnbgbkdaaDoor.AM
