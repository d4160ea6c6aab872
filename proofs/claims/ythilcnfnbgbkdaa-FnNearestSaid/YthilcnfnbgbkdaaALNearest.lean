import Derived.Test.YthilcnfnbgbkdaaAmT
import Derived.Test.YthilcnfnbgbkdaaTbl
import Derived.Test.YthilcnfnbgbkdaaFre
import Derived.Test.YthilcnfnbgbkdaaFrs
import Derived.Test.YthilcnfnbgbkdaaVtb
import Derived.Test.YthilcnfnbgbkdaaDal
set_option linter.unusedVariables false
set_option linter.unusedSimpArgs false
set_option maxRecDepth 100000
set_option maxHeartbeats 4000000
set_option cbv.maxSteps 3000000
namespace Go.Proofs.Ythilcnfnbgbkdaa.AM
/- The law FnNearest holds; conditions: none. -/
structure LsAr where
  l : List Arm
  a : Arm
deriving Inhabited
def r_DrawNear (n : Nat) (H : Hold) (y : Unit → LsAr) : AV := .tup [.vec 15 (H Nat fun _ => ((y ()).l).length) (rowsA H fun _ => (y ()).l), aT rowA H fun _ => (y ()).a]
def nb_DrawNear (H : Hold) (y : Unit → LsAr) : List Blk := []
theorem x_DrawNear (c : Cd) : ∃ y, DrfM Try.prog 6 r_DrawNear nb_DrawNear (fun y => y.l.length ≤ 24) c y := by
  have hB : Base Try.prog (tabΓ [e_armsList c, e_anyArms c, e_like c]) tab := base_of tabOk (ents_cons (eok_armsList c) <| ents_cons (eok_anyArms c) <| ents_cons (eok_like c) <| ents_nil)
  refine drfM_ok (N := 23) hB (draw_ok hB mixed) Try.func6 rfl rfl r_DrawNear nb_DrawNear (fun y => y.l.length ≤ 24) c 200 (by simp) ?_
  intro H hH
  conv in finish _ _ _ _ _ _ _ _ => cbv
  simp only [Fin.sat0, AllP, and_true, true_and, ncast, Int.ofNat_eq_natCast, heta hH]
  have h : Bd 440 (0, 0) := ⟨by decide, by decide⟩
  obtain ⟨a1, l1⟩ := p_armsList c (0, 0) h.mono
  have b1 := a1.bd h (by omega : 378 + 62 ≤ 440)
  simp only [hetaA hH, heta hH, hlen hH]
  refine ⟨?_, fun h2 => ⟨?_, ?_⟩, fun h2 => ⟨?_, ?_, ?_, ?_⟩⟩
  · try simp only [hH, stdH, decide_eq_true_eq, decide_eq_false_iff_not, Bool.not_eq_true', Bool.not_eq_false', peta, ncast, Int.ofNat_eq_natCast, beq_iff_eq, bne_iff_ne, beq_eq_false_iff_ne, bne_eq_false_iff_eq, ne_eq, Classical.not_not, Int.toNat_natCast, vrow_I, Arm.eta2, Fld.eta, Grp.eta]
    exact h.mono
  · try simp only [hH, stdH, decide_eq_true_eq, decide_eq_false_iff_not, Bool.not_eq_true', Bool.not_eq_false', peta, ncast, Int.ofNat_eq_natCast, beq_iff_eq, bne_iff_ne, beq_eq_false_iff_ne, bne_eq_false_iff_eq, ne_eq, Classical.not_not, Int.toNat_natCast, vrow_I, Arm.eta2, Fld.eta, Grp.eta]
    exact b1.mono
  · refine ⟨⟨(F_armsList c (0, 0)).1, (F_anyArms c (F_armsList c (0, 0)).2).1⟩, l1, ?_⟩
    (conv in matchEx _ _ _ _ _ _ _ => cbv); simp only [AllG, AllP, and_true, hH, stdH, ncast, Int.ofNat_eq_natCast, vrow_I, Arm.eta2, Fld.eta, Grp.eta]
    (repeat' (first | trivial | exact RowsEq.self okRA | rfl | refine And.intro ?_ ?_))
  · simp only [hH, stdH, decide_eq_true_eq, decide_eq_false_iff_not, Bool.not_eq_true', Bool.not_eq_false', peta, ncast, Int.ofNat_eq_natCast, beq_iff_eq, bne_iff_ne, beq_eq_false_iff_ne, bne_eq_false_iff_eq, ne_eq, Classical.not_not, Int.toNat_natCast, vrow_I, Arm.eta2, Fld.eta, Grp.eta] at h2 ⊢
    omega
  · simp only [hH, stdH, decide_eq_true_eq, decide_eq_false_iff_not, Bool.not_eq_true', Bool.not_eq_false', peta, ncast, Int.ofNat_eq_natCast, beq_iff_eq, bne_iff_ne, beq_eq_false_iff_ne, bne_eq_false_iff_eq, ne_eq, Classical.not_not, Int.toNat_natCast, vrow_I, Arm.eta2, Fld.eta, Grp.eta] at h2 ⊢
    exact ⟨by omega, rfl⟩
  · try simp only [hH, stdH, decide_eq_true_eq, decide_eq_false_iff_not, Bool.not_eq_true', Bool.not_eq_false', peta, ncast, Int.ofNat_eq_natCast, beq_iff_eq, bne_iff_ne, beq_eq_false_iff_ne, bne_eq_false_iff_eq, ne_eq, Classical.not_not, Int.toNat_natCast, vrow_I, Arm.eta2, Fld.eta, Grp.eta]
    exact b1.mono
  · refine ⟨⟨(F_armsList c (0, 0)).1, (F_like c ((F_armsList c (0, 0)).1.getD 0 default) (F_armsList c (0, 0)).2).1⟩, l1, ?_⟩
    (conv in matchEx _ _ _ _ _ _ _ => cbv); simp only [AllG, AllP, and_true, hH, stdH, ncast, Int.ofNat_eq_natCast, vrow_I, Arm.eta2, Fld.eta, Grp.eta]
    (repeat' (first | trivial | exact RowsEq.self okRA | rfl | refine And.intro ?_ ?_))
noncomputable def F_DrawNear (c : Cd) : LsAr := drfM Try.prog 6 r_DrawNear nb_DrawNear (fun y => y.l.length ≤ 24) c
noncomputable def e_DrawNear (c : Cd) : Entry := codeEN 6 c (fun nx H => r_DrawNear nx H fun _ => F_DrawNear c) (fun H => nb_DrawNear H fun _ => F_DrawNear c)
theorem eok_DrawNear (c : Cd) : EntryOk Try.prog (e_DrawNear c) := codeEN_ok (by unfold isBody; kernel_rfl) (drfM_spec (x_DrawNear c)).1 (fun nx => by (repeat' (first | exact .nil | exact .slc ⟨by omega, by simp [nb_DrawNear]⟩ (by omega) | exact .pl .lit | exact .pl (vT_bl okRA (fun _ => (F_DrawNear c).l) _) | exact .pl (aT_bl okRA (fun _ => (F_DrawNear c).a) _) | apply ReL.cons | apply Re.aggL | apply Re.tupL))) (fun b hq => by
      simp [nb_DrawNear] at hq)
theorem p_DrawNear (c : Cd) : (fun y => y.l.length ≤ 24) (F_DrawNear c) := (drfM_spec (x_DrawNear c)).2
theorem TlA_H2 {H : Hold} (hH : H = stdH) (L : List Arm) : Tl rowA (H Nat fun _ => L.length) (rowsA H fun _ => L) = L := by subst hH; exact Tl_A L
theorem near_ok {l : List Arm} {a : Arm} {k : Nat} (hn : nrO l a = true) (hk : k < l.length) : (bif bif !(okA (l.getD k default) && okA a) then true else decide ((bif okA (l.getD k default) && okA a then dI (l.getD k default) a else 0) < nrN l a) then true else bif ((k : Int) == nrI l a) then ((bif okA (l.getD k default) && okA a then dI (l.getD k default) a else 0) != nrN l a) else false) = false := by
  obtain ⟨hl, ha, hp⟩ := nrO_in hn
  have hx := okLs_at hl hk
  have e1 : (okA (l.getD k default) && okA a) = true := by rw [hx, ha]; rfl
  obtain ⟨e3, e4⟩ := nr_yes hn
  have e5 := bst_least (fun y => dS y a) l l.length k hk
  rw [e1, e3, e4, dI_dS hx ha]
  simp only [Bool.not_true, cond_false, cond_true]
  rw [decide_eq_false (by omega)]
  simp only [cond_false]
  by_cases hkb : (k : Int) = (bst (fun y => dS y a) l l.length : Nat)
  · have hkb2 : bst (fun y => dS y a) l l.length = k := by omega
    rw [hkb2]; simp
  · rw [show ((k : Int) == (bst (fun y => dS y a) l l.length : Nat)) = false by rw [beq_eq_false_iff_ne]; exact hkb]; rfl
theorem law_Nearest (c : Cd) : Con Try.prog 3 [codeAV c] [] (.lit (.bool true)) [] := by
  have hB : Base Try.prog (tabΓ [e_vBig c, e_DrawNear c, e_nearH, e_nearS, e_ArmsDifferences, e_tblH, e_tblS, e_vTable, e_freeH, e_freeS, e_vIntsE]) tab := base_of tabOk (ents_cons (eok_vBig c) <| ents_cons (eok_DrawNear c) <| ents_cons eok_nearH <| ents_cons eok_nearS <| ents_cons eok_ArmsDifferences <| ents_cons eok_tblH <| ents_cons eok_tblS <| ents_cons eok_vTable <| ents_cons eok_freeH <| ents_cons eok_freeS <| ents_cons eok_vIntsE <| ents_nil)
  refine ConN.con (n := 0) (con_m (N := 130) hB (draw_ok hB mixed) Try.func3 rfl rfl (fun _ => [codeAV c]) (fun _ => []) 0 (fun H => .lit (.bool (H Bool fun _ => true))) (fun _ => []) (fun _ => []) 600 (by simp) (codeAV_bl c) (by simp [lk]) (by omega) (by simp) ?_)
  intro X hX hX0 H hH
  conv in Fin.chk _ _ => cbv
  try simp only [Plain_rowsA, Plain_rowsB, Plain_rowsF, Plain_rowsG, Plain_rowsI, Plain_rowsS, Plain_rowsU, Fin.satC_ret, Fin.satC_br, Fin.satC_need, Fin.satC_again, AllP, and_true, true_and, upd, List.length_nil, List.length_cons, Nat.zero_add, if_true, ncast, Int.ofNat_eq_natCast]
  simp only [TlA_H2 hH, hetaA hH]
  have hd := p_DrawNear c
  simp only at hd
  obtain ⟨r, hr⟩ : ∃ r, F_DrawNear c = r := ⟨_, rfl⟩
  rw [hr] at hd
  simp only [hr]
  obtain ⟨l, a⟩ := r
  simp only at hd ⊢
  refine ⟨(by rw [hH]; trivial), fun _ => ?_, fun _ => ⟨(by rw [hH]; trivial), ⟨?_, ?_⟩, ⟨?_, ?_⟩, fun h1 => ?_, fun h1 => ?_⟩⟩
  · try simp only [hH, stdH, decide_eq_true_eq, decide_eq_false_iff_not, Bool.not_eq_true', Bool.not_eq_false', peta, ncast, Int.ofNat_eq_natCast, beq_iff_eq, bne_iff_ne, beq_eq_false_iff_ne, bne_eq_false_iff_eq, ne_eq, Classical.not_not, Int.toNat_natCast, vrow_I, Arm.eta2, Fld.eta, Grp.eta]
  · try simp only [hH, stdH, decide_eq_true_eq, decide_eq_false_iff_not, Bool.not_eq_true', Bool.not_eq_false', peta, ncast, Int.ofNat_eq_natCast, beq_iff_eq, bne_iff_ne, beq_eq_false_iff_ne, bne_eq_false_iff_eq, ne_eq, Classical.not_not, Int.toNat_natCast, vrow_I, Arm.eta2, Fld.eta, Grp.eta]
    exact Shp_A _ _
  · try simp only [hH, stdH, decide_eq_true_eq, decide_eq_false_iff_not, Bool.not_eq_true', Bool.not_eq_false', peta, ncast, Int.ofNat_eq_natCast, beq_iff_eq, bne_iff_ne, beq_eq_false_iff_ne, bne_eq_false_iff_eq, ne_eq, Classical.not_not, Int.toNat_natCast, vrow_I, Arm.eta2, Fld.eta, Grp.eta]
    omega
  · try simp only [hH, stdH, decide_eq_true_eq, decide_eq_false_iff_not, Bool.not_eq_true', Bool.not_eq_false', peta, ncast, Int.ofNat_eq_natCast, beq_iff_eq, bne_iff_ne, beq_eq_false_iff_ne, bne_eq_false_iff_eq, ne_eq, Classical.not_not, Int.toNat_natCast, vrow_I, Arm.eta2, Fld.eta, Grp.eta]
    exact Shp_A _ _
  · try simp only [hH, stdH, decide_eq_true_eq, decide_eq_false_iff_not, Bool.not_eq_true', Bool.not_eq_false', peta, ncast, Int.ofNat_eq_natCast, beq_iff_eq, bne_iff_ne, beq_eq_false_iff_ne, bne_eq_false_iff_eq, ne_eq, Classical.not_not, Int.toNat_natCast, vrow_I, Arm.eta2, Fld.eta, Grp.eta]
    omega
  · simp only [hH, stdH, Int.toNat_natCast] at h1
    simp at h1
  · refine loop_a hB (draw_ok hB mixed) hX hX0 hH false (ι := { k : Nat // k ≤ l.length }) 600 (fun k => [.i (H Int fun _ => (k.1 : Nat))]) (fun k => l.length - k.1) (⟨0, by omega⟩) ?_ ?_
    · (conv in matchSt _ _ _ _ => cbv); simp only [AllG, AllP, and_true, hH, stdH, ncast, Int.ofNat_eq_natCast, vrow_I, Arm.eta2, Fld.eta, Grp.eta]
      (repeat' (first | trivial | exact RowsEq.self okRA | exact c.rqN | rfl | refine And.intro ?_ ?_))
    · intro I hI k
      conv in Fin.chk _ _ => cbv
      try simp only [Plain_rowsA, Plain_rowsB, Plain_rowsF, Plain_rowsG, Plain_rowsI, Plain_rowsS, Plain_rowsU, Fin.satC_ret, Fin.satC_br, Fin.satC_need, Fin.satC_again, AllP, and_true, true_and, upd, List.length_nil, List.length_cons, Nat.zero_add, if_true, ncast, Int.ofNat_eq_natCast]
      simp only [TlA_H2 hH, hetaA hH, hr]
      obtain ⟨k, hk⟩ := k
      refine ⟨fun h1 => ?_, fun h1 => ?_⟩
      · simp only [hH, stdH, Int.toNat_natCast] at h1
        obtain ⟨hk2, hn⟩ : k < l.length ∧ nrO l a = true := by
          by_cases hk2 : (k : Int) < (l.length : Nat)
          · rw [decide_eq_true hk2, cond_true] at h1; exact ⟨by omega, h1⟩
          · rw [decide_eq_false hk2] at h1; cases h1
        have hb := near_ok hn hk2
        refine ⟨?_, fun h2 => ?_, fun h2 => ?_⟩
        · try simp only [hH, stdH, decide_eq_true_eq, decide_eq_false_iff_not, Bool.not_eq_true', Bool.not_eq_false', peta, ncast, Int.ofNat_eq_natCast, beq_iff_eq, bne_iff_ne, beq_eq_false_iff_ne, bne_eq_false_iff_eq, ne_eq, Classical.not_not, Int.toNat_natCast, vrow_I, Arm.eta2, Fld.eta, Grp.eta]
          omega
        · exfalso
          simp only [hH, stdH, Int.toNat_natCast] at h2
          rw [hb] at h2
          cases h2
        · refine ⟨⟨k + 1, by omega⟩, by simp only; omega, ?_⟩
          rw [hI]
          (conv in matchSt _ _ _ _ => cbv); simp only [AllG, AllP, and_true, hH, stdH, ncast, Int.ofNat_eq_natCast, vrow_I, Arm.eta2, Fld.eta, Grp.eta]
          rw [w1 (by omega)]
          (repeat' (first | trivial | exact RowsEq.self okRA | exact c.rqN | rfl | refine And.intro ?_ ?_))
      · refine ⟨⟨?_, ?_⟩, ⟨?_, ?_⟩, ⟨?_, ?_, ?_, ?_⟩, fun h2 => ?_, fun h2 => ⟨⟨?_, ?_⟩, ⟨?_, ?_⟩, ⟨?_, ?_, ?_⟩, ?_⟩⟩
        · try simp only [hH, stdH, decide_eq_true_eq, decide_eq_false_iff_not, Bool.not_eq_true', Bool.not_eq_false', peta, ncast, Int.ofNat_eq_natCast, beq_iff_eq, bne_iff_ne, beq_eq_false_iff_ne, bne_eq_false_iff_eq, ne_eq, Classical.not_not, Int.toNat_natCast, vrow_I, Arm.eta2, Fld.eta, Grp.eta]
          exact Shp_A _ _
        · try simp only [hH, stdH, decide_eq_true_eq, decide_eq_false_iff_not, Bool.not_eq_true', Bool.not_eq_false', peta, ncast, Int.ofNat_eq_natCast, beq_iff_eq, bne_iff_ne, beq_eq_false_iff_ne, bne_eq_false_iff_eq, ne_eq, Classical.not_not, Int.toNat_natCast, vrow_I, Arm.eta2, Fld.eta, Grp.eta]
          omega
        · try simp only [hH, stdH, decide_eq_true_eq, decide_eq_false_iff_not, Bool.not_eq_true', Bool.not_eq_false', peta, ncast, Int.ofNat_eq_natCast, beq_iff_eq, bne_iff_ne, beq_eq_false_iff_ne, bne_eq_false_iff_eq, ne_eq, Classical.not_not, Int.toNat_natCast, vrow_I, Arm.eta2, Fld.eta, Grp.eta]
          exact Shp_A _ _
        · try simp only [hH, stdH, decide_eq_true_eq, decide_eq_false_iff_not, Bool.not_eq_true', Bool.not_eq_false', peta, ncast, Int.ofNat_eq_natCast, beq_iff_eq, bne_iff_ne, beq_eq_false_iff_ne, bne_eq_false_iff_eq, ne_eq, Classical.not_not, Int.toNat_natCast, vrow_I, Arm.eta2, Fld.eta, Grp.eta]
          omega
        · try simp only [hH, stdH, decide_eq_true_eq, decide_eq_false_iff_not, Bool.not_eq_true', Bool.not_eq_false', peta, ncast, Int.ofNat_eq_natCast, beq_iff_eq, bne_iff_ne, beq_eq_false_iff_ne, bne_eq_false_iff_eq, ne_eq, Classical.not_not, Int.toNat_natCast, vrow_I, Arm.eta2, Fld.eta, Grp.eta]
          exact fun _ => Shp_rowsT (okL okI) _ (fun _ => if okLs l = true then tbl l else [])
        · try simp only [hH, stdH, decide_eq_true_eq, decide_eq_false_iff_not, Bool.not_eq_true', Bool.not_eq_false', peta, ncast, Int.ofNat_eq_natCast, beq_iff_eq, bne_iff_ne, beq_eq_false_iff_ne, bne_eq_false_iff_eq, ne_eq, Classical.not_not, Int.toNat_natCast, vrow_I, Arm.eta2, Fld.eta, Grp.eta]
          exact fun _ => Shp_rowsT (okL okI) _ (fun _ => if okLs l = true then tbl l else [])
        · try simp only [hH, stdH, decide_eq_true_eq, decide_eq_false_iff_not, Bool.not_eq_true', Bool.not_eq_false', peta, ncast, Int.ofNat_eq_natCast, beq_iff_eq, bne_iff_ne, beq_eq_false_iff_ne, bne_eq_false_iff_eq, ne_eq, Classical.not_not, Int.toNat_natCast, vrow_I, Arm.eta2, Fld.eta, Grp.eta]
          intro _
          rw [Tl_len]
          split
          · unfold tbl; rw [List.length_map]; omega
          · simp
        · try simp only [hH, stdH, decide_eq_true_eq, decide_eq_false_iff_not, Bool.not_eq_true', Bool.not_eq_false', peta, ncast, Int.ofNat_eq_natCast, beq_iff_eq, bne_iff_ne, beq_eq_false_iff_ne, bne_eq_false_iff_eq, ne_eq, Classical.not_not, Int.toNat_natCast, vrow_I, Arm.eta2, Fld.eta, Grp.eta]
          intro _
          rw [show Tl (rowL rowI) (if okLs l = true then tbl l else []).length (rowsL rowsI 1 stdH fun _ => if okLs l = true then tbl l else []) = (if okLs l = true then tbl l else []) from Tl_rowsT (okL okI) _]
          refine ⟨fun r hr => ?_⟩
          split at hr
          · unfold tbl at hr
            obtain ⟨x, _, rfl⟩ := List.mem_map.1 hr
            rw [List.length_map]; omega
          · cases hr
        · exfalso
          simp only [hH, stdH, Int.toNat_natCast] at h2
          simp at h2
        · try simp only [hH, stdH, decide_eq_true_eq, decide_eq_false_iff_not, Bool.not_eq_true', Bool.not_eq_false', peta, ncast, Int.ofNat_eq_natCast, beq_iff_eq, bne_iff_ne, beq_eq_false_iff_ne, bne_eq_false_iff_eq, ne_eq, Classical.not_not, Int.toNat_natCast, vrow_I, Arm.eta2, Fld.eta, Grp.eta]
          exact Shp_A _ _
        · try simp only [hH, stdH, decide_eq_true_eq, decide_eq_false_iff_not, Bool.not_eq_true', Bool.not_eq_false', peta, ncast, Int.ofNat_eq_natCast, beq_iff_eq, bne_iff_ne, beq_eq_false_iff_ne, bne_eq_false_iff_eq, ne_eq, Classical.not_not, Int.toNat_natCast, vrow_I, Arm.eta2, Fld.eta, Grp.eta]
          omega
        · try simp only [hH, stdH, decide_eq_true_eq, decide_eq_false_iff_not, Bool.not_eq_true', Bool.not_eq_false', peta, ncast, Int.ofNat_eq_natCast, beq_iff_eq, bne_iff_ne, beq_eq_false_iff_ne, bne_eq_false_iff_eq, ne_eq, Classical.not_not, Int.toNat_natCast, vrow_I, Arm.eta2, Fld.eta, Grp.eta]
          exact Shp_A _ _
        · try simp only [hH, stdH, decide_eq_true_eq, decide_eq_false_iff_not, Bool.not_eq_true', Bool.not_eq_false', peta, ncast, Int.ofNat_eq_natCast, beq_iff_eq, bne_iff_ne, beq_eq_false_iff_ne, bne_eq_false_iff_eq, ne_eq, Classical.not_not, Int.toNat_natCast, vrow_I, Arm.eta2, Fld.eta, Grp.eta]
          omega
        · try simp only [hH, stdH, decide_eq_true_eq, decide_eq_false_iff_not, Bool.not_eq_true', Bool.not_eq_false', peta, ncast, Int.ofNat_eq_natCast, beq_iff_eq, bne_iff_ne, beq_eq_false_iff_ne, bne_eq_false_iff_eq, ne_eq, Classical.not_not, Int.toNat_natCast, vrow_I, Arm.eta2, Fld.eta, Grp.eta]
          exact fun _ => Shp_I _ _
        · try simp only [hH, stdH, decide_eq_true_eq, decide_eq_false_iff_not, Bool.not_eq_true', Bool.not_eq_false', peta, ncast, Int.ofNat_eq_natCast, beq_iff_eq, bne_iff_ne, beq_eq_false_iff_ne, bne_eq_false_iff_eq, ne_eq, Classical.not_not, Int.toNat_natCast, vrow_I, Arm.eta2, Fld.eta, Grp.eta]
          exact fun _ => Shp_I _ _
        · try simp only [hH, stdH, decide_eq_true_eq, decide_eq_false_iff_not, Bool.not_eq_true', Bool.not_eq_false', peta, ncast, Int.ofNat_eq_natCast, beq_iff_eq, bne_iff_ne, beq_eq_false_iff_ne, bne_eq_false_iff_eq, ne_eq, Classical.not_not, Int.toNat_natCast, vrow_I, Arm.eta2, Fld.eta, Grp.eta]
          intro _
          rw [Tl_len]
          split
          · have := frT_len l a 9; omega
          · simp
        · try simp only [hH, stdH, decide_eq_true_eq, decide_eq_false_iff_not, Bool.not_eq_true', Bool.not_eq_false', peta, ncast, Int.ofNat_eq_natCast, beq_iff_eq, bne_iff_ne, beq_eq_false_iff_ne, bne_eq_false_iff_eq, ne_eq, Classical.not_not, Int.toNat_natCast, vrow_I, Arm.eta2, Fld.eta, Grp.eta]
          try simp

end Go.Proofs.Ythilcnfnbgbkdaa.AM
