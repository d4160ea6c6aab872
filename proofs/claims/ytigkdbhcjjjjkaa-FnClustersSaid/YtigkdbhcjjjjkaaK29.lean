/- Lemmas and contracts (ALClusters); conditions: none. -/
import Derived.Test.YtigkdbhcjjjjkaaK04
import Derived.Test.YtigkdbhcjjjjkaaK19
import Derived.Test.YtigkdbhcjjjjkaaK22
import Derived.Test.YtigkdbhcjjjjkaaK26
import Derived.Test.YtigkdbhcjjjjkaaK27
import Derived.Test.YtigkdbhcjjjjkaaK28
set_option linter.unusedVariables false
set_option linter.unusedSimpArgs false
set_option linter.unusedVariables false
set_option linter.unusedSimpArgs false
set_option maxRecDepth 100000
set_option maxHeartbeats 4000000
set_option cbv.maxSteps 3000000
namespace Go.Proofs.Ytigkdbhcjjjjkaa.AM
/- The law FnClusters holds; conditions: none. -/
def cluR (l : List Arm) (t : Int) : List (List Int) := if okCl l t then cluZ l t l.length else []
theorem cluR_len (l : List Arm) (t : Int) : (cluR l t).length ≤ l.length := by
  unfold cluR
  split
  · exact cluZ_rlen l t l.length
  · exact Nat.zero_le _
def sumG (r : List (List Int)) (k : Nat) : Nat := (r.take k).flatten.length
theorem sumG_s {r : List (List Int)} {k : Nat} (h : k < r.length) : sumG r (k + 1) = sumG r k + (r.getD k []).length := by
  unfold sumG
  rw [List.take_succ_eq_append_getElem h, List.flatten_append, List.length_append, List.getD_eq_getElem?_getD, List.getElem?_eq_getElem h, Option.getD_some]
  simp
theorem sumG_all {l : List Arm} {t : Int} (h : okCl l t = true) : sumG (cluR l t) (cluR l t).length = l.length := by
  unfold sumG
  rw [List.take_length]
  unfold cluR
  rw [if_pos h]
  unfold cluZ
  rw [flatZ_len]
  exact cluB_len (adjA_sym l t)
theorem take_fl (r : List (List Int)) (k : Nat) : (r.take k).flatten.length ≤ r.flatten.length := by
  conv => rhs; rw [← List.take_append_drop k r, List.flatten_append, List.length_append]
  exact Nat.le_add_right _ _
theorem sumG_le (l : List Arm) (t : Int) (k : Nat) : sumG (cluR l t) k ≤ l.length := by
  refine Nat.le_trans (take_fl _ k) ?_
  unfold cluR
  split
  · exact cluZ_flen l t (Nat.le_refl _)
  · exact Nat.zero_le _
theorem cluR_in (l : List Arm) (t : Int) : Ln 2000000 (cluR l t) ∨ 2000000 < l.length := by
  rcases Nat.lt_or_ge 2000000 l.length with h | h
  · exact .inr h
  · refine .inl ⟨fun r hr => ?_⟩
    have h1 : r.length ≤ (cluR l t).flatten.length := by
      obtain ⟨a, b, e⟩ := List.append_of_mem hr
      rw [e, List.flatten_append, List.flatten_cons, List.length_append, List.length_append]
      omega
    have h2 := sumG_le l t (cluR l t).length
    unfold sumG at h2
    rw [List.take_length] at h2
    omega
theorem mdZ_ok {m : List Arm} (h : mdZ m ≠ []) : okL10 m = true := by
  unfold mdZ at h
  split at h
  · assumption
  · exact absurd rfl h
theorem mdZ_at {m : List Arm} {i : Nat} (hi : i < (mdZ m).length) : okL10 m = true ∧ i < (bstS (qA m) m.length (2 ^ m.length)).length ∧ (mdZ m).getD i 0 = (((bstS (qA m) m.length (2 ^ m.length)).getD i 0 : Nat) : Int) ∧ (bstS (qA m) m.length (2 ^ m.length)).getD i 0 < m.length := by
  have h := mdZ_ok (m := m) (fun e => by rw [e] at hi; exact absurd hi (Nat.not_lt_zero _))
  have e : mdZ m = toZ (bstS (qA m) m.length (2 ^ m.length)) := if_pos h
  rw [e, toZ_len] at hi
  refine ⟨h, hi, by rw [e, toZ_at hi], ?_⟩
  rw [getN hi]
  exact (bstS_ok (qA m) m.length (2 ^ m.length)).1.lt _ (List.getElem_mem hi)
theorem mdZ_no {m : List Arm} {i k : Nat} (hi : i < (mdZ m).length) (hk : k < i) : decide (dI (m.getD ((mdZ m).getD i 0).toNat default) (m.getD ((mdZ m).getD k 0).toNat default) < 2) = false := by
  obtain ⟨h, i1, i2, i3⟩ := mdZ_at hi
  obtain ⟨_, k1, k2, k3⟩ := mdZ_at (show k < (mdZ m).length by omega)
  rw [i2, k2, Int.toNat_natCast, Int.toNat_natCast, dI_dS ((okL10_in h).2 _ i3) ((okL10_in h).2 _ k3), dS_sym]
  have := List.pairwise_iff_getElem.1 (bstS_ok (qA m) m.length (2 ^ m.length)).1.no k i k1 i1 hk
  rw [getN i1, getN k1]
  exact this
theorem TlA_H2 {H : Hold} (hH : H = stdH) (L : List Arm) : Tl rowA (H Nat fun _ => L.length) (rowsA H fun _ => L) = L := by subst hH; exact Tl_A L
theorem law_Clusters (c : Cd) : Con Try.prog 3 [codeAV c] [] (.lit (.bool true)) [] := by
  have hB : Base Try.prog (tabΓ [e_vBig c, e_DrawClusters c, e_clustersI, e_clustersS, e_vTable, e_DrawMostDistinct c, e_mostI, e_mostS, e_vIntsE, e_Conflict]) tab := base_of tabOk (ents_cons (eok_vBig c) <| ents_cons (eok_DrawClusters c) <| ents_cons eok_clustersI <| ents_cons eok_clustersS <| ents_cons eok_vTable <| ents_cons (eok_DrawMostDistinct c) <| ents_cons eok_mostI <| ents_cons eok_mostS <| ents_cons eok_vIntsE <| ents_cons eok_Conflict <| ents_nil)
  refine ConN.con (n := 0) (con_m (N := 124) hB (draw_ok hB mixed) Try.func3 rfl rfl (fun _ => [codeAV c]) (fun _ => []) 0 (fun H => .lit (.bool (H Bool fun _ => true))) (fun _ => []) (fun _ => []) 600 (by simp) (codeAV_bl c) (by simp [lk]) (by omega) (by simp) ?_)
  intro X hX hX0 H hH
  conv in Fin.chk _ _ => cbv
  try simp only [Plain_rowsA, Plain_rowsB, Plain_rowsF, Plain_rowsG, Plain_rowsI, Plain_rowsS, Plain_rowsU, Fin.satC_ret, Fin.satC_br, Fin.satC_need, Fin.satC_again, AllP, and_true, true_and, upd, List.length_nil, List.length_cons, Nat.zero_add, if_true, ncast, Int.ofNat_eq_natCast]
  simp only [TlA_H2 hH, hetaA hH]
  have hd := p_DrawClusters c
  have hd2 := p_DrawMostDistinct c
  simp only at hd hd2
  obtain ⟨r, hr⟩ : ∃ r, F_DrawClusters c = r := ⟨_, rfl⟩
  obtain ⟨m, hm⟩ : ∃ m, F_DrawMostDistinct c = m := ⟨_, rfl⟩
  rw [hr] at hd
  rw [hm] at hd2
  simp only [hr]
  obtain ⟨l, t⟩ := r
  simp only at hd ⊢
  have eT : Tl (rowL rowI) (cluR l t).length (rowsL rowsI 1 stdH fun _ => cluR l t) = cluR l t := Tl_rowsT (okL okI) _
  have hcr := cluR_len l t
  refine ⟨(by rw [hH]; trivial), fun _ => ?_, fun _ => ⟨(by rw [hH]; trivial), ⟨?_, ?_⟩, ⟨?_, ?_⟩, ⟨?_, ?_, ?_, ?_⟩, fun h1 => ?_, fun h1 => ?_⟩⟩
  · try simp only [hH, stdH, Nat.le_refl, decide_eq_true_eq, decide_eq_false_iff_not, Bool.not_eq_true', Bool.not_eq_false', peta, ncast, Int.ofNat_eq_natCast, beq_iff_eq, bne_iff_ne, beq_eq_false_iff_ne, bne_eq_false_iff_eq, ne_eq, Classical.not_not, Int.toNat_natCast, vrow_I, Arm.eta2, Fld.eta, Grp.eta]
  · try simp only [hH, stdH, Nat.le_refl, decide_eq_true_eq, decide_eq_false_iff_not, Bool.not_eq_true', Bool.not_eq_false', peta, ncast, Int.ofNat_eq_natCast, beq_iff_eq, bne_iff_ne, beq_eq_false_iff_ne, bne_eq_false_iff_eq, ne_eq, Classical.not_not, Int.toNat_natCast, vrow_I, Arm.eta2, Fld.eta, Grp.eta]
    exact Shp_A _ _
  · try simp only [hH, stdH, Nat.le_refl, decide_eq_true_eq, decide_eq_false_iff_not, Bool.not_eq_true', Bool.not_eq_false', peta, ncast, Int.ofNat_eq_natCast, beq_iff_eq, bne_iff_ne, beq_eq_false_iff_ne, bne_eq_false_iff_eq, ne_eq, Classical.not_not, Int.toNat_natCast, vrow_I, Arm.eta2, Fld.eta, Grp.eta]
    omega
  · try simp only [hH, stdH, Nat.le_refl, decide_eq_true_eq, decide_eq_false_iff_not, Bool.not_eq_true', Bool.not_eq_false', peta, ncast, Int.ofNat_eq_natCast, beq_iff_eq, bne_iff_ne, beq_eq_false_iff_ne, bne_eq_false_iff_eq, ne_eq, Classical.not_not, Int.toNat_natCast, vrow_I, Arm.eta2, Fld.eta, Grp.eta]
    exact Shp_A _ _
  · try simp only [hH, stdH, Nat.le_refl, decide_eq_true_eq, decide_eq_false_iff_not, Bool.not_eq_true', Bool.not_eq_false', peta, ncast, Int.ofNat_eq_natCast, beq_iff_eq, bne_iff_ne, beq_eq_false_iff_ne, bne_eq_false_iff_eq, ne_eq, Classical.not_not, Int.toNat_natCast, vrow_I, Arm.eta2, Fld.eta, Grp.eta]
    omega
  · try simp only [hH, stdH, Nat.le_refl, decide_eq_true_eq, decide_eq_false_iff_not, Bool.not_eq_true', Bool.not_eq_false', peta, ncast, Int.ofNat_eq_natCast, beq_iff_eq, bne_iff_ne, beq_eq_false_iff_ne, bne_eq_false_iff_eq, ne_eq, Classical.not_not, Int.toNat_natCast, vrow_I, Arm.eta2, Fld.eta, Grp.eta]
    exact fun _ => Shp_rowsT (okL okI) _ (fun _ => cluR l t)
  · try simp only [hH, stdH, Nat.le_refl, decide_eq_true_eq, decide_eq_false_iff_not, Bool.not_eq_true', Bool.not_eq_false', peta, ncast, Int.ofNat_eq_natCast, beq_iff_eq, bne_iff_ne, beq_eq_false_iff_ne, bne_eq_false_iff_eq, ne_eq, Classical.not_not, Int.toNat_natCast, vrow_I, Arm.eta2, Fld.eta, Grp.eta]
    exact fun _ => Shp_rowsT (okL okI) _ (fun _ => cluR l t)
  · try simp only [hH, stdH, Nat.le_refl, decide_eq_true_eq, decide_eq_false_iff_not, Bool.not_eq_true', Bool.not_eq_false', peta, ncast, Int.ofNat_eq_natCast, beq_iff_eq, bne_iff_ne, beq_eq_false_iff_ne, bne_eq_false_iff_eq, ne_eq, Classical.not_not, Int.toNat_natCast, vrow_I, Arm.eta2, Fld.eta, Grp.eta]
    intro _
    change (Tl (rowL rowI) (cluR l t).length (rowsL rowsI 1 stdH fun _ => cluR l t)).length ≤ 2000000
    rw [eT]
    omega
  · try simp only [hH, stdH, Nat.le_refl, decide_eq_true_eq, decide_eq_false_iff_not, Bool.not_eq_true', Bool.not_eq_false', peta, ncast, Int.ofNat_eq_natCast, beq_iff_eq, bne_iff_ne, beq_eq_false_iff_ne, bne_eq_false_iff_eq, ne_eq, Classical.not_not, Int.toNat_natCast, vrow_I, Arm.eta2, Fld.eta, Grp.eta]
    intro _
    change Ln 2000000 (Tl (rowL rowI) (cluR l t).length (rowsL rowsI 1 stdH fun _ => cluR l t))
    rw [eT]
    exact (cluR_in l t).resolve_right (by omega)
  · exfalso
    simp only [hH, stdH, Int.toNat_natCast] at h1
    simp at h1
  · refine loop_a hB (draw_ok hB mixed) hX hX0 hH false (ι := { k : Nat // k ≤ (cluR l t).length }) 600 (fun k => [.i (H Int fun _ => (sumG (cluR l t) k.1 : Nat)), .i (H Int fun _ => (k.1 : Nat))]) (fun k => (cluR l t).length - k.1) (⟨0, Nat.zero_le _⟩) ?_ ?_
    · (conv in matchSt _ _ _ _ => cbv); simp only [AllG, AllP, and_true, hH, stdH, Nat.le_refl, ncast, Int.ofNat_eq_natCast, vrow_I, Arm.eta2, Fld.eta, Grp.eta]
      (repeat' (with_reducible refine And.intro ?_ ?_)) <;> (first | exact True.intro | exact Eq.refl _ | exact RowsEq.self (okL okI) | exact RowsEq.self okRA | exact c.rqN)
    · intro I hI k
      conv in Fin.chk _ _ => cbv
      try simp only [Plain_rowsA, Plain_rowsB, Plain_rowsF, Plain_rowsG, Plain_rowsI, Plain_rowsS, Plain_rowsU, Fin.satC_ret, Fin.satC_br, Fin.satC_need, Fin.satC_again, AllP, and_true, true_and, upd, List.length_nil, List.length_cons, Nat.zero_add, if_true, ncast, Int.ofNat_eq_natCast]
      simp only [TlA_H2 hH, hetaA hH, hr, hm]
      obtain ⟨k, hk⟩ := k
      refine ⟨fun h1 => ?_, fun h1 => ?_⟩
      · simp only [hH, stdH, Nat.le_refl, decide_eq_true_eq, decide_eq_false_iff_not, Bool.not_eq_true', Bool.not_eq_false', peta, ncast, Int.ofNat_eq_natCast, beq_iff_eq, bne_iff_ne, beq_eq_false_iff_ne, bne_eq_false_iff_eq, ne_eq, Classical.not_not, Int.toNat_natCast, vrow_I, Arm.eta2, Fld.eta, Grp.eta] at h1
        have h1 : (k : Int) < (((cluR l t).length : Nat) : Int) := h1
        have h1 : k < (cluR l t).length := by omega
        refine ⟨?_, ⟨k + 1, by omega⟩, by simp only; omega, ?_⟩
        · try simp only [hH, stdH, Nat.le_refl, decide_eq_true_eq, decide_eq_false_iff_not, Bool.not_eq_true', Bool.not_eq_false', peta, ncast, Int.ofNat_eq_natCast, beq_iff_eq, bne_iff_ne, beq_eq_false_iff_ne, bne_eq_false_iff_eq, ne_eq, Classical.not_not, Int.toNat_natCast, vrow_I, Arm.eta2, Fld.eta, Grp.eta]
          omega
        · rw [hI]
          (conv in matchSt _ _ _ _ => cbv); simp only [AllG, AllP, and_true, hH, stdH, Nat.le_refl, ncast, Int.ofNat_eq_natCast, vrow_I, Arm.eta2, Fld.eta, Grp.eta]
          have e : ((sumG (cluR l t) (k + 1) : Nat) : Int) = IntKind.i64.wrap (((sumG (cluR l t) k : Nat) : Int) + ((((cluR l t).getD ((k : Nat) : Int).toNat []).length : Nat) : Int)) := by
            have := sumG_s h1
            have := sumG_le l t (k + 1)
            rw [Int.toNat_natCast, wi (by omega) (by omega)]
            omega
          (repeat' (with_reducible refine And.intro ?_ ?_)) <;> (first | exact True.intro | exact Eq.refl _ | exact (w1 (by omega)).symm | exact e | exact RowsEq.self (okL okI) | exact RowsEq.self okRA | exact c.rqN)
      · simp only [hH, stdH, Nat.le_refl, decide_eq_true_eq, decide_eq_false_iff_not, Bool.not_eq_true', Bool.not_eq_false', peta, ncast, Int.ofNat_eq_natCast, beq_iff_eq, bne_iff_ne, beq_eq_false_iff_ne, bne_eq_false_iff_eq, ne_eq, Classical.not_not, Int.toNat_natCast, vrow_I, Arm.eta2, Fld.eta, Grp.eta] at h1
        have h1 : ¬ (k : Int) < (((cluR l t).length : Nat) : Int) := h1
        obtain rfl : k = (cluR l t).length := by omega
        have hml : (mdZ m).length ≤ 10 := by
          unfold mdZ
          split
          · rename_i ho
            rw [toZ_len]
            have h1 := (bstS_ok (qA m) m.length (2 ^ m.length)).1
            exact Nat.le_trans (nd_len (h1.asc.imp fun hh => by omega) h1.lt) (okL10_in ho).1
          · exact Nat.zero_le _
        refine ⟨(by rw [hH]; trivial), ⟨?_, ?_⟩, ⟨?_, ?_⟩, ⟨?_, ?_, ?_⟩, fun h2 => ?_, fun h2 => ?_⟩
        · try simp only [hH, stdH, Nat.le_refl, decide_eq_true_eq, decide_eq_false_iff_not, Bool.not_eq_true', Bool.not_eq_false', peta, ncast, Int.ofNat_eq_natCast, beq_iff_eq, bne_iff_ne, beq_eq_false_iff_ne, bne_eq_false_iff_eq, ne_eq, Classical.not_not, Int.toNat_natCast, vrow_I, Arm.eta2, Fld.eta, Grp.eta]
          exact Shp_A _ _
        · try simp only [hH, stdH, Nat.le_refl, decide_eq_true_eq, decide_eq_false_iff_not, Bool.not_eq_true', Bool.not_eq_false', peta, ncast, Int.ofNat_eq_natCast, beq_iff_eq, bne_iff_ne, beq_eq_false_iff_ne, bne_eq_false_iff_eq, ne_eq, Classical.not_not, Int.toNat_natCast, vrow_I, Arm.eta2, Fld.eta, Grp.eta]
          omega
        · try simp only [hH, stdH, Nat.le_refl, decide_eq_true_eq, decide_eq_false_iff_not, Bool.not_eq_true', Bool.not_eq_false', peta, ncast, Int.ofNat_eq_natCast, beq_iff_eq, bne_iff_ne, beq_eq_false_iff_ne, bne_eq_false_iff_eq, ne_eq, Classical.not_not, Int.toNat_natCast, vrow_I, Arm.eta2, Fld.eta, Grp.eta]
          exact Shp_A _ _
        · try simp only [hH, stdH, Nat.le_refl, decide_eq_true_eq, decide_eq_false_iff_not, Bool.not_eq_true', Bool.not_eq_false', peta, ncast, Int.ofNat_eq_natCast, beq_iff_eq, bne_iff_ne, beq_eq_false_iff_ne, bne_eq_false_iff_eq, ne_eq, Classical.not_not, Int.toNat_natCast, vrow_I, Arm.eta2, Fld.eta, Grp.eta]
          omega
        · try simp only [hH, stdH, Nat.le_refl, decide_eq_true_eq, decide_eq_false_iff_not, Bool.not_eq_true', Bool.not_eq_false', peta, ncast, Int.ofNat_eq_natCast, beq_iff_eq, bne_iff_ne, beq_eq_false_iff_ne, bne_eq_false_iff_eq, ne_eq, Classical.not_not, Int.toNat_natCast, vrow_I, Arm.eta2, Fld.eta, Grp.eta]
          exact fun _ => Shp_I _ _
        · try simp only [hH, stdH, Nat.le_refl, decide_eq_true_eq, decide_eq_false_iff_not, Bool.not_eq_true', Bool.not_eq_false', peta, ncast, Int.ofNat_eq_natCast, beq_iff_eq, bne_iff_ne, beq_eq_false_iff_ne, bne_eq_false_iff_eq, ne_eq, Classical.not_not, Int.toNat_natCast, vrow_I, Arm.eta2, Fld.eta, Grp.eta]
          exact fun _ => Shp_I _ _
        · try simp only [hH, stdH, Nat.le_refl, decide_eq_true_eq, decide_eq_false_iff_not, Bool.not_eq_true', Bool.not_eq_false', peta, ncast, Int.ofNat_eq_natCast, beq_iff_eq, bne_iff_ne, beq_eq_false_iff_ne, bne_eq_false_iff_eq, ne_eq, Classical.not_not, Int.toNat_natCast, vrow_I, Arm.eta2, Fld.eta, Grp.eta]
          intro _
          rw [Tl_I]
          omega
        · exfalso
          simp only [hH, stdH, Int.toNat_natCast] at h2
          simp at h2
        · refine loop_a hB (draw_ok hB mixed) hX hX0 hH false (ι := { i : Nat // i ≤ (mdZ m).length }) 600 (fun i => [.i (H Int fun _ => (i.1 : Nat))]) (fun i => (mdZ m).length - i.1) (⟨0, Nat.zero_le _⟩) ?_ ?_
          · (conv in matchSt _ _ _ _ => cbv); simp only [AllG, AllP, and_true, hH, stdH, Nat.le_refl, ncast, Int.ofNat_eq_natCast, vrow_I, Arm.eta2, Fld.eta, Grp.eta]
            (repeat' (with_reducible refine And.intro ?_ ?_)) <;> (first | exact True.intro | exact Eq.refl _ | exact RowsEq.self okI | exact RowsEq.self okRA | exact c.rqN)
          · intro I2 hI2 i
            conv in Fin.chk _ _ => cbv
            try simp only [Plain_rowsA, Plain_rowsB, Plain_rowsF, Plain_rowsG, Plain_rowsI, Plain_rowsS, Plain_rowsU, Fin.satC_ret, Fin.satC_br, Fin.satC_need, Fin.satC_again, AllP, and_true, true_and, upd, List.length_nil, List.length_cons, Nat.zero_add, if_true, ncast, Int.ofNat_eq_natCast]
            obtain ⟨i, hi⟩ := i
            refine ⟨fun h3 => ?_, fun h3 => ?_⟩
            · simp only [hH, stdH, Int.toNat_natCast] at h3
              have h3 : (i : Int) < (((mdZ m).length : Nat) : Int) := of_decide_eq_true h3
              have h3 : i < (mdZ m).length := by omega
              refine loop_a hB (draw_ok hB mixed) hX hX0 hH true (ι := { k : Nat // k ≤ i }) 600 (fun k => [.i (H Int fun _ => (k.1 : Nat))]) (fun k => i - k.1) (⟨0, Nat.zero_le _⟩) ?_ ?_
              · (conv in matchSt _ _ _ _ => cbv); simp only [AllG, AllP, and_true, hH, stdH, Nat.le_refl, ncast, Int.ofNat_eq_natCast, vrow_I, Arm.eta2, Fld.eta, Grp.eta]
                (repeat' (with_reducible refine And.intro ?_ ?_)) <;> (first | exact True.intro | exact Eq.refl _ | exact RowsEq.self okI | exact RowsEq.self okRA | exact c.rqN)
              · intro I3 hI3 k
                conv in Fin.chk _ _ => cbv
                try simp only [Plain_rowsA, Plain_rowsB, Plain_rowsF, Plain_rowsG, Plain_rowsI, Plain_rowsS, Plain_rowsU, Fin.satC_ret, Fin.satC_br, Fin.satC_need, Fin.satC_again, AllP, and_true, true_and, upd, List.length_nil, List.length_cons, Nat.zero_add, if_true, ncast, Int.ofNat_eq_natCast]
                obtain ⟨k, hk⟩ := k
                refine ⟨fun h4 => ?_, fun h4 => ?_⟩
                · simp only [hH, stdH, Int.toNat_natCast] at h4
                  have h4 : (k : Int) < (i : Int) := of_decide_eq_true h4
                  have h4 : k < i := by omega
                  obtain ⟨hok, i1, i2, i3⟩ := mdZ_at h3
                  obtain ⟨_, k1, k2, k3⟩ := mdZ_at (show k < (mdZ m).length by omega)
                  have oi : okA (m.getD ((mdZ m).getD i 0).toNat default) = true := by rw [i2, Int.toNat_natCast]; exact (okL10_in hok).2 _ i3
                  have ok : okA (m.getD ((mdZ m).getD k 0).toNat default) = true := by rw [k2, Int.toNat_natCast]; exact (okL10_in hok).2 _ k3
                  have hno := mdZ_no h3 h4
                  refine ⟨?_, ?_, ?_, ?_, fun h5 => ?_, fun h5 => ?_⟩
                  · try simp only [hH, stdH, Nat.le_refl, decide_eq_true_eq, decide_eq_false_iff_not, Bool.not_eq_true', Bool.not_eq_false', peta, ncast, Int.ofNat_eq_natCast, beq_iff_eq, bne_iff_ne, beq_eq_false_iff_ne, bne_eq_false_iff_eq, ne_eq, Classical.not_not, Int.toNat_natCast, vrow_I, Arm.eta2, Fld.eta, Grp.eta]
                    omega
                  · try simp only [hH, stdH, Nat.le_refl, decide_eq_true_eq, decide_eq_false_iff_not, Bool.not_eq_true', Bool.not_eq_false', peta, ncast, Int.ofNat_eq_natCast, beq_iff_eq, bne_iff_ne, beq_eq_false_iff_ne, bne_eq_false_iff_eq, ne_eq, Classical.not_not, Int.toNat_natCast, vrow_I, Arm.eta2, Fld.eta, Grp.eta]
                    rw [i2]; omega
                  · try simp only [hH, stdH, Nat.le_refl, decide_eq_true_eq, decide_eq_false_iff_not, Bool.not_eq_true', Bool.not_eq_false', peta, ncast, Int.ofNat_eq_natCast, beq_iff_eq, bne_iff_ne, beq_eq_false_iff_ne, bne_eq_false_iff_eq, ne_eq, Classical.not_not, Int.toNat_natCast, vrow_I, Arm.eta2, Fld.eta, Grp.eta]
                    omega
                  · try simp only [hH, stdH, Nat.le_refl, decide_eq_true_eq, decide_eq_false_iff_not, Bool.not_eq_true', Bool.not_eq_false', peta, ncast, Int.ofNat_eq_natCast, beq_iff_eq, bne_iff_ne, beq_eq_false_iff_ne, bne_eq_false_iff_eq, ne_eq, Classical.not_not, Int.toNat_natCast, vrow_I, Arm.eta2, Fld.eta, Grp.eta]
                    rw [k2]; omega
                  · exfalso
                    simp only [hH, stdH, Arm.eta, Int.toNat_natCast] at h5
                    change (bif !(okA (m.getD ((mdZ m).getD i 0).toNat default) && okA (m.getD ((mdZ m).getD k 0).toNat default)) then true else _) = true at h5
                    rw [oi, ok] at h5
                    simp only [Bool.and_true, Bool.not_true, cond_false, cond_true, Bool.true_and, Bool.and_self, hno] at h5
                    cases h5
                  · refine ⟨⟨k + 1, by omega⟩, by simp only; omega, ?_⟩
                    rw [hI3]
                    (conv in matchSt _ _ _ _ => cbv); simp only [AllG, AllP, and_true, hH, stdH, Nat.le_refl, ncast, Int.ofNat_eq_natCast, vrow_I, Arm.eta2, Fld.eta, Grp.eta]
                    rw [w1 (by omega)]
                    (repeat' (with_reducible refine And.intro ?_ ?_)) <;> (first | exact True.intro | exact Eq.refl _ | exact RowsEq.self okI | exact RowsEq.self okRA | exact c.rqN)
                · simp only [hH, stdH, Int.toNat_natCast] at h4
                  have h4 : ¬ (k : Int) < (i : Int) := of_decide_eq_false h4
                  obtain rfl : k = i := by omega
                  rw [if_neg (by decide)]
                  refine ⟨⟨k + 1, by omega⟩, by simp only; omega, ?_⟩
                  rw [hI2]
                  (conv in matchSt _ _ _ _ => cbv); simp only [AllG, AllP, and_true, hH, stdH, Nat.le_refl, ncast, Int.ofNat_eq_natCast, vrow_I, Arm.eta2, Fld.eta, Grp.eta]
                  rw [w1 (by omega)]
                  (repeat' (with_reducible refine And.intro ?_ ?_)) <;> (first | exact True.intro | exact Eq.refl _ | exact RowsEq.self okI | exact RowsEq.self okRA | exact c.rqN)
            · try simp only [hH, stdH, Nat.le_refl, decide_eq_true_eq, decide_eq_false_iff_not, Bool.not_eq_true', Bool.not_eq_false', peta, ncast, Int.ofNat_eq_natCast, beq_iff_eq, bne_iff_ne, beq_eq_false_iff_ne, bne_eq_false_iff_eq, ne_eq, Classical.not_not, Int.toNat_natCast, vrow_I, Arm.eta2, Fld.eta, Grp.eta]
              cases ho : okCl l t with
              | false => rfl
              | true => rw [sumG_all ho]; simp

end Go.Proofs.Ytigkdbhcjjjjkaa.AM

