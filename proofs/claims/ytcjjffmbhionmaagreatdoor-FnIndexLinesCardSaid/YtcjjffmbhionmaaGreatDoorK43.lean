/- Lemmas and contracts (Fdr); conditions: none. -/
import Derived.Test.YtcjjffmbhionmaaGreatDoorK03
import Derived.Test.YtcjjffmbhionmaaGreatDoorK28
import Derived.Test.YtcjjffmbhionmaaGreatDoorK42
set_option linter.unusedVariables false
set_option linter.unusedSimpArgs false
set_option maxRecDepth 100000
set_option maxHeartbeats 4000000
set_option cbv.maxSteps 3000000
namespace Go.Proofs.YtcjjffmbhionmaaGreatDoor.AM
/- Features are drawn; conditions: none. -/
def ftD : List ByteArray := [(⟨⟨[116, 49]⟩⟩ : ByteArray), (⟨⟨[116, 51]⟩⟩ : ByteArray), (⟨⟨[116, 52]⟩⟩ : ByteArray), (⟨⟨[116, 53]⟩⟩ : ByteArray), (⟨⟨[116, 50]⟩⟩ : ByteArray), (⟨⟨[100, 48]⟩⟩ : ByteArray), (⟨⟨[100, 49]⟩⟩ : ByteArray), (⟨⟨[100, 52]⟩⟩ : ByteArray), (⟨⟨[108, 49]⟩⟩ : ByteArray), (⟨⟨[108, 50]⟩⟩ : ByteArray), (⟨⟨[111, 48]⟩⟩ : ByteArray), (⟨⟨[111, 50]⟩⟩ : ByteArray), (⟨⟨[111, 55]⟩⟩ : ByteArray), (⟨⟨[107, 49]⟩⟩ : ByteArray), (⟨⟨[107, 52]⟩⟩ : ByteArray), (⟨⟨[110, 48]⟩⟩ : ByteArray), (⟨⟨[110, 49]⟩⟩ : ByteArray), (⟨⟨[110, 51]⟩⟩ : ByteArray), (⟨⟨[110, 49, 50]⟩⟩ : ByteArray), (⟨⟨[108, 48]⟩⟩ : ByteArray), (⟨⟨[110, 49, 51]⟩⟩ : ByteArray), (⟨⟨[116, 49, 48]⟩⟩ : ByteArray), (⟨⟨[120, 49]⟩⟩ : ByteArray), (⟨⟨[116]⟩⟩ : ByteArray)]
theorem ftD_sz (k : Nat) : Sz 200 (ftD.take k) := ⟨fun x hx => (show ∀ x ∈ ftD, x.size ≤ 200 by decide) x (List.mem_of_mem_take hx)⟩
theorem ftD_cut {x : Int} (hx : 0 ≤ x ∧ x < 24) : IntKind.i64.wrap (19 + IntKind.i64.wrap (x.tdiv 4)) = ((19 + (x / 4).toNat : Nat) : Int) ∧ 19 + (x / 4).toNat ≤ 24 := by
  have e : x.tdiv 4 = x / 4 := Int.tdiv_eq_ediv_of_nonneg hx.1
  rw [e, wi (x := x / 4) (by omega) (by omega), wi (by omega) (by omega)]
  omega
theorem hiD {k : Nat} : hiOf 24 (some ((k : Nat) : Int)) - loOf none = k := by
  show ((k : Nat) : Int).toNat - 0 = k
  omega
theorem TlD_H {H : Hold} (hH : H = stdH) {x : Int} (hx : 0 ≤ x ∧ x < 24) : Tl rowS (H Nat fun _ => hiOf 24 (some (H Int fun _ => IntKind.i64.wrap (19 + H Int fun _ => IntKind.i64.wrap ((H Int fun _ => x).tdiv 4)))) - loOf none) (fun j => rowsS H (fun _ => [(⟨⟨[116, 49]⟩⟩ : ByteArray), (⟨⟨[116, 51]⟩⟩ : ByteArray), (⟨⟨[116, 52]⟩⟩ : ByteArray), (⟨⟨[116, 53]⟩⟩ : ByteArray), (⟨⟨[116, 50]⟩⟩ : ByteArray), (⟨⟨[100, 48]⟩⟩ : ByteArray), (⟨⟨[100, 49]⟩⟩ : ByteArray), (⟨⟨[100, 52]⟩⟩ : ByteArray), (⟨⟨[108, 49]⟩⟩ : ByteArray), (⟨⟨[108, 50]⟩⟩ : ByteArray), (⟨⟨[111, 48]⟩⟩ : ByteArray), (⟨⟨[111, 50]⟩⟩ : ByteArray), (⟨⟨[111, 55]⟩⟩ : ByteArray), (⟨⟨[107, 49]⟩⟩ : ByteArray), (⟨⟨[107, 52]⟩⟩ : ByteArray), (⟨⟨[110, 48]⟩⟩ : ByteArray), (⟨⟨[110, 49]⟩⟩ : ByteArray), (⟨⟨[110, 51]⟩⟩ : ByteArray), (⟨⟨[110, 49, 50]⟩⟩ : ByteArray), (⟨⟨[108, 48]⟩⟩ : ByteArray), (⟨⟨[110, 49, 51]⟩⟩ : ByteArray), (⟨⟨[116, 49, 48]⟩⟩ : ByteArray), (⟨⟨[120, 49]⟩⟩ : ByteArray), (⟨⟨[116]⟩⟩ : ByteArray)]) (H Nat fun _ => loOf none + j)) = ftD.take (19 + (x / 4).toNat) := by
  obtain ⟨e, h⟩ := ftD_cut hx
  subst hH
  simp only [stdH, e, hiD]
  exact (Tl_offS (L := ftD) (o := 0) (n := 19 + (x / 4).toNat) (by show 0 + _ ≤ 24; omega)).trans (by rw [List.drop_zero])
theorem ftD_len {x : Int} (hx : 0 ≤ x ∧ x < 24) : (ftD.take (19 + (x / 4).toNat)).length = 19 + (x / 4).toNat := by
  rw [List.length_take]
  show min _ 24 = _
  have := (ftD_cut hx).2
  omega
def r_feature (n : Nat) (H : Hold) (y : Unit → ByteArray) : AV := .lit (.string (H ByteArray fun _ => (y ())))
def nb_feature (H : Hold) (y : Unit → ByteArray) : List Blk := []
theorem x_feature (c : Cd)  (st : DS) (h : Bd 4 st)  : ∃ y, DrwM Tryz.prog 66 48 4 r_feature nb_feature (fun y => y.size ≤ 200) c [] st y := by
  have hB : Base Tryz.prog (tabΓ [e_pick c, e_ofS c]) tab := base_of tabOk (ents_cons (eok_pick c) <| ents_cons (eok_ofS c) <| ents_nil)
  refine drwM_ok (N := 11) hB (draw_ok hB mixed) Tryz.func48 rfl rfl 66 4 r_feature nb_feature (fun y => y.size ≤ 200) c (fun H => []) st 200 (by simp) (fun x hx => ?_) ?_
  · cases hx
  intro H hH
  conv in finish _ _ _ _ _ _ _ _ => cbv
  simp only [Fin.sat0, AllP, and_true, true_and, ncast, Int.ofNat_eq_natCast, heta hH]
  obtain ⟨a1, m1, n1⟩ := p_pick c 24 st (h.mono (by omega))
  have b1 := a1.bd h (by omega : 2 + 2 ≤ 4)
  have hx : 0 ≤ (F_pick c 24 st).1 ∧ (F_pick c 24 st).1 < 24 := ⟨m1, by omega⟩
  have hl := ftD_len hx
  obtain ⟨a2, l2⟩ := p_ofS c (ftD.take (19 + ((F_pick c 24 st).1 / 4).toNat)) (F_pick c 24 st).2 (b1.mono (by omega)) (by omega) (by have := (ftD_cut hx).2; omega) (ftD_sz _)
  simp only [TlD_H hH hx]
  refine ⟨?_, ?_, ?_, ⟨?_, ?_, ?_, ?_, ?_⟩, ?_⟩
  · try simp only [hH, stdH, Nat.le_refl, decide_eq_true_eq, decide_eq_false_iff_not, Bool.not_eq_true', Bool.not_eq_false', peta, ncast, Int.ofNat_eq_natCast, beq_iff_eq, bne_iff_ne, beq_eq_false_iff_ne, bne_eq_false_iff_eq, ne_eq, Classical.not_not, Int.toNat_natCast, vrow_I, Arm.eta2, Fld.eta, Grp.eta]
    exact h.mono (by omega)
  · try simp only [hH, stdH, Nat.le_refl, decide_eq_true_eq, decide_eq_false_iff_not, Bool.not_eq_true', Bool.not_eq_false', peta, ncast, Int.ofNat_eq_natCast, beq_iff_eq, bne_iff_ne, beq_eq_false_iff_ne, bne_eq_false_iff_eq, ne_eq, Classical.not_not, Int.toNat_natCast, vrow_I, Arm.eta2, Fld.eta, Grp.eta]
    decide
  · obtain ⟨e, q⟩ := ftD_cut hx
    simp only [hH, stdH, e]
    exact ⟨trivial, by show (0 : Int) ≤ ((_ : Nat) : Int); omega, Nat.zero_le _, by show ((_ : Nat) : Int).toNat ≤ 24; omega⟩
  · try simp only [hH, stdH, Nat.le_refl, decide_eq_true_eq, decide_eq_false_iff_not, Bool.not_eq_true', Bool.not_eq_false', peta, ncast, Int.ofNat_eq_natCast, beq_iff_eq, bne_iff_ne, beq_eq_false_iff_ne, bne_eq_false_iff_eq, ne_eq, Classical.not_not, Int.toNat_natCast, vrow_I, Arm.eta2, Fld.eta, Grp.eta]
    exact b1.mono (by omega)
  · try simp only [hH, stdH, Nat.le_refl, decide_eq_true_eq, decide_eq_false_iff_not, Bool.not_eq_true', Bool.not_eq_false', peta, ncast, Int.ofNat_eq_natCast, beq_iff_eq, bne_iff_ne, beq_eq_false_iff_ne, bne_eq_false_iff_eq, ne_eq, Classical.not_not, Int.toNat_natCast, vrow_I, Arm.eta2, Fld.eta, Grp.eta]
    exact Shp_offS ftD _ _
  · try simp only [hH, stdH, Nat.le_refl, decide_eq_true_eq, decide_eq_false_iff_not, Bool.not_eq_true', Bool.not_eq_false', peta, ncast, Int.ofNat_eq_natCast, beq_iff_eq, bne_iff_ne, beq_eq_false_iff_ne, bne_eq_false_iff_eq, ne_eq, Classical.not_not, Int.toNat_natCast, vrow_I, Arm.eta2, Fld.eta, Grp.eta]
    omega
  · have := (ftD_cut hx).2
    try simp only [hH, stdH, Nat.le_refl, decide_eq_true_eq, decide_eq_false_iff_not, Bool.not_eq_true', Bool.not_eq_false', peta, ncast, Int.ofNat_eq_natCast, beq_iff_eq, bne_iff_ne, beq_eq_false_iff_ne, bne_eq_false_iff_eq, ne_eq, Classical.not_not, Int.toNat_natCast, vrow_I, Arm.eta2, Fld.eta, Grp.eta]
    omega
  · try simp only [hH, stdH, Nat.le_refl, decide_eq_true_eq, decide_eq_false_iff_not, Bool.not_eq_true', Bool.not_eq_false', peta, ncast, Int.ofNat_eq_natCast, beq_iff_eq, bne_iff_ne, beq_eq_false_iff_ne, bne_eq_false_iff_eq, ne_eq, Classical.not_not, Int.toNat_natCast, vrow_I, Arm.eta2, Fld.eta, Grp.eta]
    exact ftD_sz _
  · refine ⟨((F_ofS c (ftD.take (19 + ((F_pick c 24 st).1 / 4).toNat)) (F_pick c 24 st).2).1, (F_ofS c (ftD.take (19 + ((F_pick c 24 st).1 / 4).toNat)) (F_pick c 24 st).2).2), (a1.trans a2 (Nat.le_refl _)).le (by omega), l2, ?_⟩
    (conv in matchEx _ _ _ _ _ _ _ => cbv); simp only [AllG, AllP, and_true, hH, stdH, Nat.le_refl, ncast, Int.ofNat_eq_natCast, vrow_I, Arm.eta2, Fld.eta, Grp.eta]
    all_goals (repeat' (with_reducible refine And.intro ?_ ?_)) <;> (first | exact Eq.refl _ | exact True.intro | exact c.rqN)
noncomputable def F_feature (c : Cd)  (st : DS) : ByteArray × DS := drwM Tryz.prog 66 48 4 r_feature nb_feature (fun y => y.size ≤ 200) c [] st
noncomputable def e_feature (c : Cd) : Entry := curEN 66 48 4 c fun H st a nx => match a with
  | [] => some (r_feature nx H (fun _ => (F_feature c  st).1), nb_feature H (fun _ => (F_feature c  st).1), (fun _ => (F_feature c  st).2), [])
  | _ => none
theorem eok_feature (c : Cd) : EntryOk Tryz.prog (e_feature c) := curEN_ok (by unfold isBody; kernel_rfl) (by
  intro st a nx r nb y ob e hb hob
  split at e
  · simp only [Option.some.injEq, Prod.mk.injEq] at e
    obtain ⟨rfl, rfl, rfl, rfl⟩ := e
    have hd := drwM_spec (x_feature c  st hb )
    refine ⟨_, _, ConN.args (.cons .rfl .nil) hd.1, fun x hx => ?_, rfl, ?_, fun q b hq => ⟨b, hq, .same ?_⟩⟩
    · cases hx
    · (repeat' (first | exact .nil | exact .slc ⟨by omega, by simp [nb_feature]⟩ (by omega) | exact .pl .lit | apply ReL.cons | apply Re.aggL | apply Re.tupL))
    · replace hq := List.mem_of_getElem? hq
      simp [nb_feature] at hq
  · simp at e)
theorem p_feature (c : Cd)  (st : DS) (h : Bd 4 st)  : Adv 4 st (F_feature c  st).2 ∧ (fun y => y.size ≤ 200) (F_feature c  st).1 := (drwM_spec (x_feature c  st h )).2
def ftC (x z : ByteArray) : List ByteArray := [x, z, (⟨⟨[]⟩⟩ : ByteArray), (⟨⟨[116, 48, 49]⟩⟩ : ByteArray), (⟨⟨[110, 45, 49]⟩⟩ : ByteArray), (⟨⟨[100, 56]⟩⟩ : ByteArray), (⟨⟨[107, 57]⟩⟩ : ByteArray), (⟨⟨[108, 53]⟩⟩ : ByteArray), (⟨⟨[116, 48]⟩⟩ : ByteArray)]
theorem ftC_sz {x z : ByteArray} (hx : x.size ≤ 200) (hz : z.size ≤ 200) : Sz 200 (ftC x z) := ⟨fun s hs => by
  unfold ftC at hs
  simp only [List.mem_cons, List.not_mem_nil, or_false] at hs
  rcases hs with rfl | rfl | rfl | rfl | rfl | rfl | rfl | rfl | rfl <;> first | assumption | decide⟩
theorem TlC_H {H : Hold} (hH : H = stdH) (x z : ByteArray) : Tl rowS 9 (rowsS H fun _ => [H ByteArray fun _ => x, H ByteArray fun _ => z, (⟨⟨[]⟩⟩ : ByteArray), (⟨⟨[116, 48, 49]⟩⟩ : ByteArray), (⟨⟨[110, 45, 49]⟩⟩ : ByteArray), (⟨⟨[100, 56]⟩⟩ : ByteArray), (⟨⟨[107, 57]⟩⟩ : ByteArray), (⟨⟨[108, 53]⟩⟩ : ByteArray), (⟨⟨[116, 48]⟩⟩ : ByteArray)]) = ftC x z := by subst hH; exact Tl_rowsT okS (ftC x z)
def r_DrawIsFeature (n : Nat) (H : Hold) (y : Unit → ByteArray) : AV := .lit (.string (H ByteArray fun _ => (y ())))
def nb_DrawIsFeature (H : Hold) (y : Unit → ByteArray) : List Blk := []
theorem x_DrawIsFeature (c : Cd) : ∃ y, DrfM Tryz.prog 16 r_DrawIsFeature nb_DrawIsFeature (fun y => y.size ≤ 200) c y := by
  have hB : Base Tryz.prog (tabΓ [e_feature c, e_ofS c]) tab := base_of tabOk (ents_cons (eok_feature c) <| ents_cons (eok_ofS c) <| ents_nil)
  refine drfM_ok (N := 14) hB (draw_ok hB mixed) Tryz.func16 rfl rfl r_DrawIsFeature nb_DrawIsFeature (fun y => y.size ≤ 200) c 200 (by simp) ?_
  intro H hH
  conv in finish _ _ _ _ _ _ _ _ => cbv
  simp only [Fin.sat0, AllP, and_true, true_and, ncast, Int.ofNat_eq_natCast, heta hH]
  have h : Bd 10 (0, 0) := ⟨by decide, by decide⟩
  obtain ⟨a1, l1⟩ := p_feature c (0, 0) (h.mono (by omega))
  have b1 := a1.bd h (by omega : 4 + 6 ≤ 10)
  obtain ⟨a2, l2⟩ := p_feature c (F_feature c (0, 0)).2 (b1.mono (by omega))
  have b2 := a2.bd b1 (by omega : 4 + 2 ≤ 6)
  obtain ⟨a3, l3⟩ := p_ofS c (ftC (F_feature c (0, 0)).1 (F_feature c (F_feature c (0, 0)).2).1) (F_feature c (F_feature c (0, 0)).2).2 (b2.mono (by omega)) (by show 1 ≤ 9; decide) (by show 9 ≤ 100; decide) (ftC_sz l1 l2)
  simp only [TlC_H hH]
  refine ⟨?_, ?_, ⟨?_, ?_, ?_, ?_, ?_⟩, ?_⟩
  · try simp only [hH, stdH, Nat.le_refl, decide_eq_true_eq, decide_eq_false_iff_not, Bool.not_eq_true', Bool.not_eq_false', peta, ncast, Int.ofNat_eq_natCast, beq_iff_eq, bne_iff_ne, beq_eq_false_iff_ne, bne_eq_false_iff_eq, ne_eq, Classical.not_not, Int.toNat_natCast, vrow_I, Arm.eta2, Fld.eta, Grp.eta]
    exact h.mono (by omega)
  · try simp only [hH, stdH, Nat.le_refl, decide_eq_true_eq, decide_eq_false_iff_not, Bool.not_eq_true', Bool.not_eq_false', peta, ncast, Int.ofNat_eq_natCast, beq_iff_eq, bne_iff_ne, beq_eq_false_iff_ne, bne_eq_false_iff_eq, ne_eq, Classical.not_not, Int.toNat_natCast, vrow_I, Arm.eta2, Fld.eta, Grp.eta]
    exact b1.mono (by omega)
  · try simp only [hH, stdH, Nat.le_refl, decide_eq_true_eq, decide_eq_false_iff_not, Bool.not_eq_true', Bool.not_eq_false', peta, ncast, Int.ofNat_eq_natCast, beq_iff_eq, bne_iff_ne, beq_eq_false_iff_ne, bne_eq_false_iff_eq, ne_eq, Classical.not_not, Int.toNat_natCast, vrow_I, Arm.eta2, Fld.eta, Grp.eta]
    exact b2.mono (by omega)
  · try simp only [hH, stdH, Nat.le_refl, decide_eq_true_eq, decide_eq_false_iff_not, Bool.not_eq_true', Bool.not_eq_false', peta, ncast, Int.ofNat_eq_natCast, beq_iff_eq, bne_iff_ne, beq_eq_false_iff_ne, bne_eq_false_iff_eq, ne_eq, Classical.not_not, Int.toNat_natCast, vrow_I, Arm.eta2, Fld.eta, Grp.eta]
    exact Shp_rowsT okS 9 (fun _ => ftC _ _)
  · try simp only [hH, stdH, Nat.le_refl, decide_eq_true_eq, decide_eq_false_iff_not, Bool.not_eq_true', Bool.not_eq_false', peta, ncast, Int.ofNat_eq_natCast, beq_iff_eq, bne_iff_ne, beq_eq_false_iff_ne, bne_eq_false_iff_eq, ne_eq, Classical.not_not, Int.toNat_natCast, vrow_I, Arm.eta2, Fld.eta, Grp.eta]
    exact (show 1 ≤ 9 by decide)
  · try simp only [hH, stdH, Nat.le_refl, decide_eq_true_eq, decide_eq_false_iff_not, Bool.not_eq_true', Bool.not_eq_false', peta, ncast, Int.ofNat_eq_natCast, beq_iff_eq, bne_iff_ne, beq_eq_false_iff_ne, bne_eq_false_iff_eq, ne_eq, Classical.not_not, Int.toNat_natCast, vrow_I, Arm.eta2, Fld.eta, Grp.eta]
    exact (show 9 ≤ 100 by decide)
  · try simp only [hH, stdH, Nat.le_refl, decide_eq_true_eq, decide_eq_false_iff_not, Bool.not_eq_true', Bool.not_eq_false', peta, ncast, Int.ofNat_eq_natCast, beq_iff_eq, bne_iff_ne, beq_eq_false_iff_ne, bne_eq_false_iff_eq, ne_eq, Classical.not_not, Int.toNat_natCast, vrow_I, Arm.eta2, Fld.eta, Grp.eta]
    exact ftC_sz l1 l2
  · refine ⟨(F_ofS c (ftC (F_feature c (0, 0)).1 (F_feature c (F_feature c (0, 0)).2).1) (F_feature c (F_feature c (0, 0)).2).2).1, l3, ?_⟩
    (conv in matchEx _ _ _ _ _ _ _ => cbv); simp only [AllG, AllP, and_true, hH, stdH, Nat.le_refl, ncast, Int.ofNat_eq_natCast, vrow_I, Arm.eta2, Fld.eta, Grp.eta]
    all_goals (repeat' (with_reducible refine And.intro ?_ ?_)) <;> (first | exact Eq.refl _ | exact True.intro | exact c.rqN)
noncomputable def F_DrawIsFeature (c : Cd) : ByteArray := drfM Tryz.prog 16 r_DrawIsFeature nb_DrawIsFeature (fun y => y.size ≤ 200) c
noncomputable def e_DrawIsFeature (c : Cd) : Entry := codeEN 16 c (fun nx H => r_DrawIsFeature nx H fun _ => F_DrawIsFeature c) (fun H => nb_DrawIsFeature H fun _ => F_DrawIsFeature c)
theorem eok_DrawIsFeature (c : Cd) : EntryOk Tryz.prog (e_DrawIsFeature c) := codeEN_ok (by unfold isBody; kernel_rfl) (drfM_spec (x_DrawIsFeature c)).1 (fun nx => by (repeat' (first | exact .nil | exact .slc ⟨by omega, by simp [nb_DrawIsFeature]⟩ (by omega) | exact .pl .lit | apply ReL.cons | apply Re.aggL | apply Re.tupL))) (fun b hq => by
      simp [nb_DrawIsFeature] at hq)
theorem p_DrawIsFeature (c : Cd) : (fun y => y.size ≤ 200) (F_DrawIsFeature c) := (drfM_spec (x_DrawIsFeature c)).2
def r_DrawFeaturesOf (n : Nat) (H : Hold) (y : Unit → Arm) : AV := aT rowA H fun _ => (y ())
def nb_DrawFeaturesOf (H : Hold) (y : Unit → Arm) : List Blk := []
theorem x_DrawFeaturesOf (c : Cd) : ∃ y, DrfM Tryz.prog 12 r_DrawFeaturesOf nb_DrawFeaturesOf (fun y => True) c y := by
  have hB : Base Tryz.prog (tabΓ [e_anyArms c]) tab := base_of tabOk (ents_cons (eok_anyArms c) <| ents_nil)
  refine drfM_ok (N := 9) hB (draw_ok hB mixed) Tryz.func12 rfl rfl r_DrawFeaturesOf nb_DrawFeaturesOf (fun y => True) c 100 (by simp) ?_
  intro H hH
  conv in finish _ _ _ _ _ _ _ _ => cbv
  simp only [Fin.sat0, AllP, and_true, true_and, ncast, Int.ofNat_eq_natCast, heta hH]
  have h : Bd 54 (0, 0) := ⟨by decide, by decide⟩
  refine ⟨?_, ⟨(F_anyArms c (0, 0)).1, trivial, ?_⟩⟩
  · try simp only [hH, stdH, Nat.le_refl, decide_eq_true_eq, decide_eq_false_iff_not, Bool.not_eq_true', Bool.not_eq_false', peta, ncast, Int.ofNat_eq_natCast, beq_iff_eq, bne_iff_ne, beq_eq_false_iff_ne, bne_eq_false_iff_eq, ne_eq, Classical.not_not, Int.toNat_natCast, vrow_I, Arm.eta2, Fld.eta, Grp.eta]
    exact h.mono
  · (conv in matchEx _ _ _ _ _ _ _ => cbv); simp only [AllG, AllP, and_true, hH, stdH, Nat.le_refl, ncast, Int.ofNat_eq_natCast, vrow_I, Arm.eta2, Fld.eta, Grp.eta]
    all_goals (repeat' (with_reducible refine And.intro ?_ ?_)) <;> (first | exact Eq.refl _ | exact True.intro | exact c.rqN)
noncomputable def F_DrawFeaturesOf (c : Cd) : Arm := drfM Tryz.prog 12 r_DrawFeaturesOf nb_DrawFeaturesOf (fun y => True) c
noncomputable def e_DrawFeaturesOf (c : Cd) : Entry := codeEN 12 c (fun nx H => r_DrawFeaturesOf nx H fun _ => F_DrawFeaturesOf c) (fun H => nb_DrawFeaturesOf H fun _ => F_DrawFeaturesOf c)
theorem eok_DrawFeaturesOf (c : Cd) : EntryOk Tryz.prog (e_DrawFeaturesOf c) := codeEN_ok (by unfold isBody; kernel_rfl) (drfM_spec (x_DrawFeaturesOf c)).1 (fun nx => by (repeat' (first | exact .nil | exact .slc ⟨by omega, by simp [nb_DrawFeaturesOf]⟩ (by omega) | exact .pl .lit | exact .pl (aT_bl okRA (fun _ => (F_DrawFeaturesOf c)) _) | apply ReL.cons | apply Re.aggL | apply Re.tupL))) (fun b hq => by
      simp [nb_DrawFeaturesOf] at hq)
def r_DrawBuildIndex (n : Nat) (H : Hold) (y : Unit → List Grt) : AV := .agg [.vec 18 (H Nat fun _ => ((y ())).length) (rowsW H fun _ => (y ()))]
def nb_DrawBuildIndex (H : Hold) (y : Unit → List Grt) : List Blk := []
theorem x_DrawBuildIndex (c : Cd) : ∃ y, DrfM Tryz.prog 6 r_DrawBuildIndex nb_DrawBuildIndex (fun y => y.length ≤ 20 ∧ ∀ g ∈ y, g.name.size ≤ 200) c y := by
  have hB : Base Tryz.prog (tabΓ [e_anyRegister c]) tab := base_of tabOk (ents_cons (eok_anyRegister c) <| ents_nil)
  refine drfM_ok (N := 9) hB (draw_ok hB mixed) Tryz.func6 rfl rfl r_DrawBuildIndex nb_DrawBuildIndex (fun y => y.length ≤ 20 ∧ ∀ g ∈ y, g.name.size ≤ 200) c 100 (by simp) ?_
  intro H hH
  conv in finish _ _ _ _ _ _ _ _ => cbv
  simp only [Fin.sat0, AllP, and_true, true_and, ncast, Int.ofNat_eq_natCast, heta hH]
  have h : Bd 640 (0, 0) := ⟨by decide, by decide⟩
  obtain ⟨a1, m1⟩ := p_anyRegister c (0, 0) (h.mono (by omega))
  generalize F_anyRegister c (0, 0) = y1 at *
  obtain ⟨L, st1⟩ := y1
  dsimp only at *
  refine ⟨?_, ⟨L, m1, ?_⟩⟩
  · try simp only [hH, stdH, Nat.le_refl, decide_eq_true_eq, decide_eq_false_iff_not, Bool.not_eq_true', Bool.not_eq_false', peta, ncast, Int.ofNat_eq_natCast, beq_iff_eq, bne_iff_ne, beq_eq_false_iff_ne, bne_eq_false_iff_eq, ne_eq, Classical.not_not, Int.toNat_natCast, vrow_I, Arm.eta2, Fld.eta, Grp.eta]
    exact h.mono
  · (conv in matchEx _ _ _ _ _ _ _ => cbv); simp only [AllG, AllP, and_true, hH, stdH, Nat.le_refl, ncast, Int.ofNat_eq_natCast, vrow_I, Arm.eta2, Fld.eta, Grp.eta]
    all_goals (repeat' (with_reducible refine And.intro ?_ ?_)) <;> (first | exact Eq.refl _ | exact True.intro | exact RowsEq.self okRW)
noncomputable def F_DrawBuildIndex (c : Cd) : List Grt := drfM Tryz.prog 6 r_DrawBuildIndex nb_DrawBuildIndex (fun y => y.length ≤ 20 ∧ ∀ g ∈ y, g.name.size ≤ 200) c
noncomputable def e_DrawBuildIndex (c : Cd) : Entry := codeEN 6 c (fun nx H => r_DrawBuildIndex nx H fun _ => F_DrawBuildIndex c) (fun H => nb_DrawBuildIndex H fun _ => F_DrawBuildIndex c)
theorem eok_DrawBuildIndex (c : Cd) : EntryOk Tryz.prog (e_DrawBuildIndex c) := codeEN_ok (by unfold isBody; kernel_rfl) (drfM_spec (x_DrawBuildIndex c)).1 (fun nx => by (repeat' (first | exact .nil | exact .slc ⟨by omega, by simp [nb_DrawBuildIndex]⟩ (by omega) | exact .pl .lit | exact .pl (vT_bl okRW (fun _ => (F_DrawBuildIndex c)) _) | apply ReL.cons | apply Re.aggL | apply Re.tupL))) (fun b hq => by
      simp [nb_DrawBuildIndex] at hq)
theorem p_DrawBuildIndex (c : Cd) : (fun y => y.length ≤ 20 ∧ ∀ g ∈ y, g.name.size ≤ 200) (F_DrawBuildIndex c) := (drfM_spec (x_DrawBuildIndex c)).2

end Go.Proofs.YtcjjffmbhionmaaGreatDoor.AM

