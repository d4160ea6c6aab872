/- Lemmas and contracts (Rbu); conditions: none. -/
import Derived.Test.YtpilblmncpeelaaK04
import Derived.Test.YtpilblmncpeelaaK19
set_option linter.unusedVariables false
set_option linter.unusedSimpArgs false
set_option linter.unusedVariables false
set_option linter.unusedSimpArgs false
set_option maxRecDepth 100000
set_option maxHeartbeats 4000000
set_option cbv.maxSteps 3000000
namespace Go.Proofs.Ytpilblmncpeelaa.AM
/- Regions drawn; conditions: none. -/
noncomputable def zrG (c : Cd) : Nat → List Int → DS → List Int × DS
  | 0, L, st => (L, st)
  | m + 1, L, st => zrG c m (addR L (F_pick c 20 st).1 (F_pick c 24 (F_pick c 20 st).2).1) (F_pick c 24 (F_pick c 20 st).2).2
theorem zrG_ok (c : Cd) : ∀ (m : Nat) (L : List Int) (st : DS) (k : Nat), Bd (4 * m + k) st → okSt L → Adv (4 * m) st (zrG c m L st).2 ∧ okSt (zrG c m L st).1
  | 0, L, st, k, _, hL => ⟨Adv.refl _ _, hL⟩
  | m + 1, L, st, k, h, hL => by
    obtain ⟨a1, m1, n1⟩ := p_pick c 20 st (h.mono (by omega))
    have b1 : Bd (4 * m + k + 2) (F_pick c 20 st).2 := a1.bd h (by omega)
    obtain ⟨a2, m2, n2⟩ := p_pick c 24 (F_pick c 20 st).2 (b1.mono (by omega))
    have b2 : Bd (4 * m + k) (F_pick c 24 (F_pick c 20 st).2).2 := a2.bd b1 (by omega)
    obtain ⟨a3, h3⟩ := zrG_ok c m (addR L (F_pick c 20 st).1 (F_pick c 24 (F_pick c 20 st).2).1) _ k b2 (okSt_add _ _ hL)
    exact ⟨(a1.t (a2.t a3)).le (by omega), h3⟩
/-- The cells ahead of those that are added. -/
noncomputable def zrA (c : Cd) (st : DS) : List Int × DS :=
  let d := F_pick c 8 st
  let p := F_pick c 2 d.2
  let o := F_pick c 8 p.2
  let w := F_pick c 3 o.2
  (cmR (IntKind.i64.wrap (1 + w.1)) (genR (ptG d.1 p.1)) (genR (ordG o.1)) 24, w.2)
noncomputable def zrE (c : Cd) (g : List Int × DS) : List Int × DS :=
  let k := F_pick c 12 g.2
  (if k.1 = 0 then List.replicate 24 0 else if k.1 = 1 then genR shN else g.1, k.2)
noncomputable def zrY (c : Cd) (st : DS) : List Int × DS :=
  let a := zrA c st
  let n := F_pick c 6 a.2
  zrE c (zrG c n.1.toNat a.1 n.2)
theorem ptG_sh {d p : Int} (y x : Nat) (h : ptG d p y x = true) : shN y x = true := by
  unfold ptG at h
  rw [Bool.and_eq_true] at h
  exact h.2
theorem ordG_sh {o : Int} (y x : Nat) (h : ordG o y x = true) : shN y x = true := by
  unfold ordG at h
  rw [Bool.and_eq_true] at h
  exact h.2
theorem zrA_ok (c : Cd) (st : DS) (h : Bd 8 st) : Adv 8 st (zrA c st).2 ∧ okSt (zrA c st).1 := by
  obtain ⟨a1, m1, n1⟩ := p_pick c 8 st h.mono
  have b1 : Bd 6 (F_pick c 8 st).2 := a1.bd h
  obtain ⟨a2, m2, n2⟩ := p_pick c 2 (F_pick c 8 st).2 b1.mono
  have b2 : Bd 4 (F_pick c 2 (F_pick c 8 st).2).2 := a2.bd b1
  obtain ⟨a3, m3, n3⟩ := p_pick c 8 (F_pick c 2 (F_pick c 8 st).2).2 b2.mono
  have b3 : Bd 2 (F_pick c 8 (F_pick c 2 (F_pick c 8 st).2).2).2 := a3.bd b2
  obtain ⟨a4, m4, n4⟩ := p_pick c 3 (F_pick c 8 (F_pick c 2 (F_pick c 8 st).2).2).2 b3.mono
  exact ⟨(a1.t (a2.t (a3.t a4))).le (by omega), cmR_st (genR_ok ptG_sh) (genR_ok ordG_sh)⟩
theorem rep_st : okSt (List.replicate 24 (0 : Int)) := by
  rw [← genAt_0 fun _ _ => false]
  exact okSt_gen (by decide)
theorem zrE_ok (c : Cd) (g : List Int × DS) (h : Bd 2 g.2) (hg : okSt g.1) : Adv 2 g.2 (zrE c g).2 ∧ okSt (zrE c g).1 := by
  obtain ⟨a1, m1, n1⟩ := p_pick c 12 g.2 h.mono
  refine ⟨a1, ?_⟩
  show okSt (if _ then _ else if _ then _ else _)
  split
  · exact rep_st
  · split
    · exact genR_st _
    · exact hg
theorem zrY_ok (c : Cd) (st : DS) (h : Bd 32 st) : Adv 32 st (zrY c st).2 ∧ okSt (zrY c st).1 := by
  obtain ⟨a1, k1⟩ := zrA_ok c st h.mono
  have b1 : Bd 24 (zrA c st).2 := a1.bd h
  obtain ⟨a2, m2, n2⟩ := p_pick c 6 (zrA c st).2 b1.mono
  have b2 : Bd 22 (F_pick c 6 (zrA c st).2).2 := a2.bd b1
  obtain ⟨a3, k3⟩ := zrG_ok c (F_pick c 6 (zrA c st).2).1.toNat (zrA c st).1 (F_pick c 6 (zrA c st).2).2 2 (b2.mono (by omega)) k1
  have b3 := a3.bd (m := 2) (n := 22) b2 (by omega)
  obtain ⟨a4, k4⟩ := zrE_ok c _ b3 k3
  exact ⟨(a1.t (a2.t (a3.t a4))).le (by omega), k4⟩
theorem hOne {H : Hold} (hH : H = stdH) (x : Int) : (1 + H Int fun _ => x) = 1 + x := by subst hH; rfl
theorem hPt {H : Hold} (hH : H = stdH) (x y : Int) : ptG (H Int fun _ => x) (H Int fun _ => y) = ptG x y := by subst hH; rfl
theorem hOr {H : Hold} (hH : H = stdH) (x : Int) : ordG (H Int fun _ => x) = ordG x := by subst hH; rfl
theorem hCm {H : Hold} (hH : H = stdH) (x : Int) : cmR (H Int fun _ => x) = cmR x := by subst hH; rfl
def r_region (n : Nat) (H : Hold) (y : Unit → List Int) : AV := .agg [.slc n 0 1 (H Nat fun _ => ((y ())).length)]
def nb_region (H : Hold) (y : Unit → List Int) : List Blk := [.rows 1 (H Nat fun _ => ((y ())).length) (rowsI H fun _ => (y ())) 3]
theorem x_region (c : Cd)  (st : DS) (h : Bd 32 st)  : ∃ y, DrwM Try.prog 56 69 32 r_region nb_region (fun y => okSt y) c [] st y := by
  have hB : Base Try.prog (tabΓ [e_pick c, e_PartS, e_OrdS, e_CombS, e_ShieldS, e_l9Empty, e_l9Add]) tabO := base_of tabOkO (ents_cons (eok_pick c) <| ents_cons eok_PartS <| ents_cons eok_OrdS <| ents_cons eok_CombS <| ents_cons eok_ShieldS <| ents_cons eok_l9Empty <| ents_cons eok_l9Add <| ents_nil)
  refine drwM_okL (N := 54) hB (draw_ok hB mixed) Try.func69 rfl rfl 56 32 r_region nb_region (fun y => okSt y) c (fun H => []) st 400 (by simp) (fun x hx => ?_) (zrY c st) (zrY_ok c st h) ?_
  · cases hx
  intro X hX hX0 H hH
  conv in Fin.chk _ _ => cbv
  try simp only [Plain_rowsA, Plain_rowsB, Plain_rowsF, Plain_rowsG, Plain_rowsI, Plain_rowsQ, Plain_rowsS, Plain_rowsU, Fin.satC_ret, Fin.satC_br, Fin.satC_need, Fin.satC_again, AllP, and_true, true_and, upd, List.length_nil, List.length_cons, Nat.zero_add, if_true, ncast, Int.ofNat_eq_natCast]
  have hY : zrY c st = zrE c (zrG c (F_pick c 6 (zrA c st).2).1.toNat (zrA c st).1 (F_pick c 6 (zrA c st).2).2) := rfl
  obtain ⟨aA, kA⟩ := zrA_ok c st h.mono
  have eA : zrA c st = (cmR (IntKind.i64.wrap (1 + (F_pick c 3 (F_pick c 8 (F_pick c 2 (F_pick c 8 st).2).2).2).1)) (genR (ptG (F_pick c 8 st).1 (F_pick c 2 (F_pick c 8 st).2).1)) (genR (ordG (F_pick c 8 (F_pick c 2 (F_pick c 8 st).2).2).1)) 24, (F_pick c 3 (F_pick c 8 (F_pick c 2 (F_pick c 8 st).2).2).2).2) := rfl
  simp only [heta hH, TlI_HR hH, hOne hH, hPt hH, hOr hH, hCm hH]
  obtain ⟨a1, m1, n1⟩ := p_pick c 8 st h.mono
  have b1 : Bd 30 (F_pick c 8 st).2 := a1.bd h
  generalize F_pick c 8 st = q1 at *
  obtain ⟨a2, m2, n2⟩ := p_pick c 2 q1.2 b1.mono
  have b2 : Bd 28 (F_pick c 2 q1.2).2 := a2.bd b1
  generalize F_pick c 2 q1.2 = q2 at *
  obtain ⟨a3, m3, n3⟩ := p_pick c 8 q2.2 b2.mono
  have b3 : Bd 26 (F_pick c 8 q2.2).2 := a3.bd b2
  generalize F_pick c 8 q2.2 = q3 at *
  obtain ⟨a4, m4, n4⟩ := p_pick c 3 q3.2 b3.mono
  have b4 : Bd 24 (F_pick c 3 q3.2).2 := a4.bd b3
  generalize F_pick c 3 q3.2 = q4 at *
  obtain ⟨a5, m5, n5⟩ := p_pick c 6 q4.2 b4.mono
  have b5 : Bd 22 (F_pick c 6 q4.2).2 := a5.bd b4
  have kP := genR_ok (ptG_sh (d := q1.1) (p := q2.1))
  have kO := genR_ok (ordG_sh (o := q3.1))
  rw [eA] at hY kA
  simp only at hY kA
  generalize F_pick c 6 q4.2 = q5 at *
  generalize cmR (IntKind.i64.wrap (1 + q4.1)) (genR (ptG q1.1 q2.1)) (genR (ordG q3.1)) 24 = L0 at *
  (repeat' (with_reducible first | refine And.intro ?_ ?_ | intro hh))
  all_goals try (clear hX hX0 hB X; subst hH; simp only [stdH, Tl_I, inB_iff] at *; first | with_reducible exact trivial | with_reducible exact Shp_I _ _ | with_reducible exact Bd.mono (by assumption) | with_reducible exact kP | with_reducible exact kO | omega | (refine ⟨?_, ?_⟩ <;> omega) | (rw [wi (by omega) (by omega)]; omega) | exact (rfl : List.length _ = 1))
  all_goals try (rw [hH]; exact trivial)
  all_goals try (rw [hH]; exact fun _ _ => rfl)
  have g0 : okSt L0 ∧ Bd (4 * q5.1.toNat + 2) q5.2 ∧ q5.1.toNat ≤ 5 ∧ zrE c (zrG c q5.1.toNat L0 q5.2) = zrY c st := ⟨kA, b5.mono (by omega), by omega, hY.symm⟩
  have l0 := kA.1
  refine loop_w hB (draw_ok hB mixed) hX hX0 hH [6] [0, 2, 7, 9] (ι := { p : Nat × List Int × DS // okSt p.2.1 ∧ Bd (4 * p.1 + 2) p.2.2 ∧ p.1 ≤ 5 ∧ zrE c (zrG c p.1 p.2.1 p.2.2) = zrY c st }) 400 (fun p => [.i (H Int fun _ => (p.1.1 : Nat)), .i (H Int fun _ => p.1.2.2.1), .i (H Int fun _ => p.1.2.2.2), .r (H Nat fun _ => (p.1.2.1).length) (rowsI H fun _ => p.1.2.1)]) (fun p => p.1.1) (⟨(q5.1.toNat, L0, q5.2), g0⟩) ?_ ?_
  · (conv in matchSt _ _ _ _ => cbv); simp only [AllG, AllP, and_true, hH, stdH, Nat.le_refl, ncast, Int.ofNat_eq_natCast, vrow_I, Arm.eta2, Fld.eta, Grp.eta]
    (repeat' (with_reducible refine And.intro ?_ ?_)) <;> (first | exact True.intro | exact RowsEq.self okI | exact c.rqN | omega)
  · intro I hI p
    conv in Fin.chk _ _ => cbv
    try simp only [Plain_rowsA, Plain_rowsB, Plain_rowsF, Plain_rowsG, Plain_rowsI, Plain_rowsQ, Plain_rowsS, Plain_rowsU, Fin.satC_ret, Fin.satC_br, Fin.satC_need, Fin.satC_again, AllP, and_true, true_and, upd, List.length_nil, List.length_cons, Nat.zero_add, if_true, ncast, Int.ofNat_eq_natCast]
    obtain ⟨⟨m, L, s1⟩, g1, g2, g3, g4⟩ := p
    simp only at g1 g2 g3 g4 ⊢
    have gl := g1.1
    have tl : Tl rowI (H Nat fun _ => L0.length) (rowsI H fun _ => L) = L := by rw [l0, ← gl]; exact TlI_HR hH L
    have shp : Shp rowI L0.length (rowsI stdH fun _ => L) := by rw [l0, ← gl]; exact Shp_I _ _
    simp only [heta hH, tl]
    refine ⟨fun h1 => ?_, fun h1 => ?_⟩
    · simp only [hH, stdH, decide_eq_true_eq] at h1
      obtain ⟨m, rfl⟩ : ∃ q, m = q + 1 := ⟨m - 1, by omega⟩
      obtain ⟨a6, m6, n6⟩ := p_pick c 20 s1 (g2.mono (by omega))
      have b6 : Bd (4 * m + 4) (F_pick c 20 s1).2 := a6.bd g2 (by omega)
      obtain ⟨a7, m7, n7⟩ := p_pick c 24 (F_pick c 20 s1).2 (b6.mono (by omega))
      have b7 : Bd (4 * m + 2) (F_pick c 24 (F_pick c 20 s1).2).2 := a7.bd b6 (by omega)
      have g5 : zrG c (m + 1) L s1 = zrG c m (addR L (F_pick c 20 s1).1 (F_pick c 24 (F_pick c 20 s1).2).1) (F_pick c 24 (F_pick c 20 s1).2).2 := rfl
      rw [g5] at g4
      refine ⟨?_, ?_, ?_, ?_⟩
      · try simp only [hH, stdH, Nat.le_refl, decide_eq_true_eq, decide_eq_false_iff_not, Bool.not_eq_true', Bool.not_eq_false', peta, ncast, Int.ofNat_eq_natCast, beq_iff_eq, bne_iff_ne, beq_eq_false_iff_ne, bne_eq_false_iff_eq, ne_eq, Classical.not_not, Int.toNat_natCast, vrow_I, Arm.eta2, Fld.eta, Grp.eta]
        exact g2.mono (by omega)
      · try simp only [hH, stdH, Nat.le_refl, decide_eq_true_eq, decide_eq_false_iff_not, Bool.not_eq_true', Bool.not_eq_false', peta, ncast, Int.ofNat_eq_natCast, beq_iff_eq, bne_iff_ne, beq_eq_false_iff_ne, bne_eq_false_iff_eq, ne_eq, Classical.not_not, Int.toNat_natCast, vrow_I, Arm.eta2, Fld.eta, Grp.eta]
        exact b6.mono (by omega)
      · try simp only [hH, stdH, Nat.le_refl, decide_eq_true_eq, decide_eq_false_iff_not, Bool.not_eq_true', Bool.not_eq_false', peta, ncast, Int.ofNat_eq_natCast, beq_iff_eq, bne_iff_ne, beq_eq_false_iff_ne, bne_eq_false_iff_eq, ne_eq, Classical.not_not, Int.toNat_natCast, vrow_I, Arm.eta2, Fld.eta, Grp.eta]
        exact ⟨by omega, shp, g1⟩
      · refine ⟨⟨(m, addR L (F_pick c 20 s1).1 (F_pick c 24 (F_pick c 20 s1).2).1, (F_pick c 24 (F_pick c 20 s1).2).2), okSt_add _ _ g1, b7, by simp only; omega, g4⟩, by simp only; omega, ?_⟩
        rw [hI]
        (conv in matchSt _ _ _ _ => cbv); simp only [AllG, AllP, and_true, hH, stdH, Nat.le_refl, ncast, Int.ofNat_eq_natCast, vrow_I, Arm.eta2, Fld.eta, Grp.eta]
        have el := addR_len L (F_pick c 20 s1).1 (F_pick c 24 (F_pick c 20 s1).2).1
        have el2 : (addR L (F_pick c 20 s1).1 (F_pick c 24 (F_pick c 20 s1).2).1).length = L0.length := by rw [el, gl, l0]
        have rq : RowsEq 1 (addR L (F_pick c 20 s1).1 (F_pick c 24 (F_pick c 20 s1).2).1).length (rowsI stdH fun _ => addR L (F_pick c 20 s1).1 (F_pick c 24 (F_pick c 20 s1).2).1) L0.length (rowsI stdH fun _ => addR L (F_pick c 20 s1).1 (F_pick c 24 (F_pick c 20 s1).2).1) := by
          rw [← el2]
          exact RowsEq.self okI
        rw [show IntKind.i64.wrap (((m + 1 : Nat) : Int) - 1) = (m : Int) by rw [wi (by omega) (by omega)]; omega]
        (repeat' (with_reducible refine And.intro ?_ ?_)) <;> (first | exact True.intro | exact RowsEq.self okI | exact c.rqN | exact rq | exact el2 | exact el2.symm | exact Eq.refl _ | skip)
    · simp only [hH, stdH, decide_eq_false_iff_not] at h1
      obtain rfl : m = 0 := by omega
      have e : zrY c st = zrE c (L, s1) := by rw [← g4]; rfl
      have e2 : zrE c (L, s1) = (if (F_pick c 12 s1).1 = 0 then List.replicate 24 0 else if (F_pick c 12 s1).1 = 1 then genR shN else L, (F_pick c 12 s1).2) := rfl
      rw [e, e2]
      obtain ⟨a6, m6, n6⟩ := p_pick c 12 s1 (g2.mono (by omega))
      generalize F_pick c 12 s1 = q6 at *
      have lS : (genR shN).length = 24 := (genR_st shN).1
      (repeat' (with_reducible first | refine And.intro ?_ ?_ | intro hh))
      all_goals try (rw [hH]; exact Bd.mono (by assumption))
      all_goals simp only [hH, stdH, beq_iff_eq, beq_eq_false_iff_ne, ne_eq] at *
      all_goals try exact c.rqN
      all_goals (by_cases e0 : q6.1 = 0 <;> by_cases e1 : q6.1 = 1)
      all_goals try (exfalso; omega)
      all_goals first | rw [if_pos e0] | rw [if_neg e0, if_pos e1] | rw [if_neg e0, if_neg e1]
      all_goals first | (rw [gl, l0]; done) | (simp only [List.length_replicate]; done) | exact RowsEq.self okI | exact lS.symm | skip
noncomputable def F_region (c : Cd)  (st : DS) : List Int × DS := drwM Try.prog 56 69 32 r_region nb_region (fun y => okSt y) c [] st
noncomputable def e_region (c : Cd) : Entry := curEN 56 69 32 c fun H st a nx => match a with
  | [] => some (r_region nx H (fun _ => (F_region c  st).1), nb_region H (fun _ => (F_region c  st).1), (fun _ => (F_region c  st).2), [])
  | _ => none
theorem eok_region (c : Cd) : EntryOk Try.prog (e_region c) := curEN_ok (by unfold isBody; kernel_rfl) (by
  intro st a nx r nb y ob e hb hob
  split at e
  · simp only [Option.some.injEq, Prod.mk.injEq] at e
    obtain ⟨rfl, rfl, rfl, rfl⟩ := e
    have hd := drwM_spec (x_region c  st hb )
    refine ⟨_, _, ConN.args (.cons .rfl .nil) hd.1, fun x hx => ?_, rfl, ?_, fun q b hq => ⟨b, hq, .same ?_⟩⟩
    · cases hx
    · (repeat' (first | exact .nil | exact .slc ⟨by omega, by simp [nb_region]⟩ (by omega) | exact .pl .lit | apply ReL.cons | apply Re.aggL | apply Re.tupL))
    · replace hq := List.mem_of_getElem? hq
      simp only [nb_region, List.mem_cons, List.not_mem_nil, or_false] at hq; subst hq; exact bT_bl okI _ (fun _ => (F_region c  st).1) _
  · simp at e)
theorem p_region (c : Cd)  (st : DS) (h : Bd 32 st)  : Adv 32 st (F_region c  st).2 ∧ (fun y => okSt y) (F_region c  st).1 := (drwM_spec (x_region c  st h )).2
theorem frzI {n m : Nat} {L : List Int} (h : m + n = L.length) (hm : 0 < m) : frzP stdH (m * 1) 1 (L.drop m).length (rowsI stdH fun _ => L.drop m) n L.length (rowsI stdH fun _ => L) := by
  refine frzP_of (by omega) (by rw [Nat.mul_div_cancel _ (by omega)]; omega) (by omega) (fun j _ => rfl) ?_ (by omega)
  have h1 := Shp_dropR (D := rowI) (a := m) (k := 1) (m := n) (by omega) (Shp_I L.length L) (by omega)
  have h2 := Tl_dropR (D := rowI) (a := m) (k := 1) (m := n) (by omega) (Tl_I L) (by omega)
  rw [List.take_of_length_le (by rw [List.length_drop]; omega)] at h2
  exact RowsEq.ofT okI rfl h1 h2.symm
theorem amR {H : Hold} (hH : H = stdH) (c : Cd) (st : DS) (h : Bd 2 st) : Adv 2 st (F_among c 4 (ints (rowsN .i64 H fun _ => [1, 1048576, -1, 1024])) st).2 ∧ -1 ≤ (F_among c 4 (ints (rowsN .i64 H fun _ => [1, 1048576, -1, 1024])) st).1 ∧ (F_among c 4 (ints (rowsN .i64 H fun _ => [1, 1048576, -1, 1024])) st).1 ≤ 1048576 := by
  subst hH
  obtain ⟨a, j, hj, e⟩ := p_among c 4 (ints (rowsN .i64 stdH fun _ => [1, 1048576, -1, 1024])) st h (by decide) (by decide)
  refine ⟨a, ?_⟩
  rw [e]
  match j, hj with
  | 0, _ => exact ⟨by decide, by decide⟩
  | 1, _ => exact ⟨by decide, by decide⟩
  | 2, _ => exact ⟨by decide, by decide⟩
  | 3, _ => exact ⟨by decide, by decide⟩
theorem okSt.wb {L : List Int} (h : okSt L) : rgWB L ∧ L.length ≤ 25 := ⟨fun y hy => by have := h.2 y (by rw [← h.1]; exact hy); omega, by have := h.1; omega⟩
theorem wb_app {L : List Int} (h : okSt L) : rgWB (L ++ [0]) ∧ (L ++ [0]).length ≤ 25 := by
  have hl := h.1
  refine ⟨fun y hy => ?_, by rw [List.length_append, List.length_singleton]; omega⟩
  rw [List.getD_eq_getElem?_getD, List.getElem?_append]
  split
  · rw [← List.getD_eq_getElem?_getD]
    have := h.2 y (by omega)
    omega
  · rw [show y - L.length = 0 by rw [List.length_append, List.length_singleton] at hy; omega]
    decide
theorem wb_set {L : List Int} {v : Int} (h : okSt L) (hv : -1 ≤ v ∧ v ≤ 1048576) : rgWB (L.set 23 v) ∧ (L.set 23 v).length ≤ 25 := by
  have hl := h.1
  refine ⟨fun y hy => ?_, by rw [List.length_set]; omega⟩
  rw [List.length_set] at hy
  rw [getD_setZ]
  split
  · exact hv
  · have := h.2 y (by omega)
    omega
theorem wb_drop {L : List Int} (h : okSt L) : rgWB (L.drop 1) ∧ (L.drop 1).length ≤ 25 := by
  have hl := h.1
  refine ⟨fun y hy => ?_, by rw [List.length_drop]; omega⟩
  rw [List.length_drop] at hy
  rw [List.getD_eq_getElem?_getD, List.getElem?_drop, ← List.getD_eq_getElem?_getD]
  have := h.2 (1 + y) (by omega)
  omega
def r_anyRegion (n : Nat) (H : Hold) (y : Unit → Rgn) : AV := aT rowZ H fun _ => (y ())
def nb_anyRegion (H : Hold) (y : Unit → Rgn) : List Blk := []
theorem x_anyRegion (c : Cd)  (st : DS) (h : Bd 36 st)  : ∃ y, DrwM Try.prog 56 45 36 r_anyRegion nb_anyRegion (fun y => rgWB y.rows ∧ y.rows.length ≤ 25) c [] st y := by
  have hB : Base Try.prog (tabΓ [e_region c, e_pick c, e_among c]) tabO := base_of tabOkO (ents_cons (eok_region c) <| ents_cons (eok_pick c) <| ents_cons (eok_among c) <| ents_nil)
  refine drwM_ok (N := 30) hB (draw_ok hB mixed) Try.func45 rfl rfl 56 36 r_anyRegion nb_anyRegion (fun y => rgWB y.rows ∧ y.rows.length ≤ 25) c (fun H => []) st 400 (by simp) (fun x hx => ?_) ?_
  · cases hx
  intro H hH
  conv in finish _ _ _ _ _ _ _ _ => cbv
  simp only [Fin.sat0, AllP, and_true, true_and, ncast, Int.ofNat_eq_natCast, heta hH]
  have a1 := p_region c st (Bd.mono (by assumption))
  obtain ⟨a1, m0⟩ := a1
  generalize F_region c st = y1 at *
  have b1 : Bd 4 y1.2 := a1.bd h
  obtain ⟨L, st1⟩ := y1
  dsimp only at *
  try simp only [hlen hH, heta hH]
  have a2 := (p_pick c 30 st1 (Bd.mono (by assumption))).1; generalize F_pick c 30 st1 = y2 at *; have b2 : Bd 2 y2.2 := a2.bd (by assumption)
  obtain ⟨a3, n3⟩ := amR hH c y2.2 b2
  generalize F_among c 4 (ints (rowsN .i64 H fun _ => [1, 1048576, -1, 1024])) y2.2 = y3 at *
  have hl := m0.1
  (repeat' (with_reducible first | refine And.intro ?_ ?_ | intro hh))
  all_goals try (rw [hH]; with_reducible exact trivial)
  all_goals try (rw [hH]; exact Bd.mono (by assumption))
  all_goals try (simp only [hH, stdH]; first | omega | exact ⟨by omega, rfl⟩ | (refine ⟨?_, ?_⟩ <;> omega))
  · refine ⟨(⟨L ++ [0]⟩, y2.2), (a1.t a2).le (by decide), wb_app m0, ?_⟩
    (conv in matchEx _ _ _ _ _ _ _ => cbv); simp only [AllG, AllP, and_true, hH, stdH, Nat.le_refl, ncast, Int.ofNat_eq_natCast, vrow_I, Arm.eta2, Fld.eta, Grp.eta]
    (repeat' (first | with_reducible exact True.intro | exact c.rqN | exact RowsEq.self okI | exact RowsEq.more okI (m := 1) (M := [0]) (Shp_I 1 [0]) (Tl_I [0]) | rfl | refine And.intro ?_ ?_ | trivial))
  · rw [hH]
    exact fun _ _ => rfl
  · refine ⟨(⟨L.set 23 y3.1⟩, y3.2), ((a1.t a2).t a3).le (by decide), wb_set m0 n3, ?_⟩
    (conv in matchEx _ _ _ _ _ _ _ => cbv); simp only [AllG, AllP, and_true, hH, stdH, Nat.le_refl, ncast, Int.ofNat_eq_natCast, vrow_I, Arm.eta2, Fld.eta, Grp.eta]
    (repeat' (first | with_reducible exact True.intro | exact c.rqN | exact RowsEq.putD okI (L := L) (j := 23) (x := y3.1) rfl | rfl | refine And.intro ?_ ?_ | trivial))
  · try simp only [hH, stdH, Nat.le_refl, decide_eq_true_eq, decide_eq_false_iff_not, Bool.not_eq_true', Bool.not_eq_false', peta, ncast, Int.ofNat_eq_natCast, beq_iff_eq, bne_iff_ne, beq_eq_false_iff_ne, bne_eq_false_iff_eq, ne_eq, Classical.not_not, Int.toNat_natCast, vrow_I, Arm.eta2, Fld.eta, Grp.eta]
    exact ⟨by omega, trivial, by simp [hiOf, loOf]; omega, by simp [hiOf]⟩
  · refine ⟨(⟨L.drop 1⟩, y2.2), (a1.t a2).le (by decide), wb_drop m0, ?_⟩
    (conv in matchEx _ _ _ _ _ _ _ => cbv); simp only [AllG, AllP, and_true, hH, stdH, Nat.le_refl, ncast, Int.ofNat_eq_natCast, vrow_I, Arm.eta2, Fld.eta, Grp.eta]
    have sz : hiOf L.length none - loOf (some (1 : Int)) = L.length - 1 := by simp [hiOf, loOf]
    rw [sz]
    exact ⟨trivial, trivial, c.rqN, frzI (m := 1) (n := L.length - 1) (L := L) (by omega) (by omega)⟩
  · refine ⟨(⟨L⟩, y2.2), (a1.t a2).le (by decide), m0.wb, ?_⟩
    (conv in matchEx _ _ _ _ _ _ _ => cbv); simp only [AllG, AllP, and_true, hH, stdH, Nat.le_refl, ncast, Int.ofNat_eq_natCast, vrow_I, Arm.eta2, Fld.eta, Grp.eta]
    (repeat' (first | with_reducible exact True.intro | exact c.rqN | exact RowsEq.self okI | exact RowsEq.more okI (m := 1) (M := [0]) (Shp_I 1 [0]) (Tl_I [0]) | rfl | refine And.intro ?_ ?_ | trivial))
noncomputable def F_anyRegion (c : Cd)  (st : DS) : Rgn × DS := drwM Try.prog 56 45 36 r_anyRegion nb_anyRegion (fun y => rgWB y.rows ∧ y.rows.length ≤ 25) c [] st
noncomputable def e_anyRegion (c : Cd) : Entry := curEN 56 45 36 c fun H st a nx => match a with
  | [] => some (r_anyRegion nx H (fun _ => (F_anyRegion c  st).1), nb_anyRegion H (fun _ => (F_anyRegion c  st).1), (fun _ => (F_anyRegion c  st).2), [])
  | _ => none
theorem eok_anyRegion (c : Cd) : EntryOk Try.prog (e_anyRegion c) := curEN_ok (by unfold isBody; kernel_rfl) (by
  intro st a nx r nb y ob e hb hob
  split at e
  · simp only [Option.some.injEq, Prod.mk.injEq] at e
    obtain ⟨rfl, rfl, rfl, rfl⟩ := e
    have hd := drwM_spec (x_anyRegion c  st hb )
    refine ⟨_, _, ConN.args (.cons .rfl .nil) hd.1, fun x hx => ?_, rfl, ?_, fun q b hq => ⟨b, hq, .same ?_⟩⟩
    · cases hx
    · (repeat' (first | exact .nil | exact .slc ⟨by omega, by simp [nb_anyRegion]⟩ (by omega) | exact .pl .lit | exact .pl (aT_bl okRZ (fun _ => (F_anyRegion c  st).1) _) | apply ReL.cons | apply Re.aggL | apply Re.tupL))
    · replace hq := List.mem_of_getElem? hq
      simp [nb_anyRegion] at hq
  · simp at e)
theorem p_anyRegion (c : Cd)  (st : DS) (h : Bd 36 st)  : Adv 36 st (F_anyRegion c  st).2 ∧ (fun y => rgWB y.rows ∧ y.rows.length ≤ 25) (F_anyRegion c  st).1 := (drwM_spec (x_anyRegion c  st h )).2
def r_part11 (n : Nat) (H : Hold) (y : Unit → Rgn) : AV := aT rowZ H fun _ => (y ())
def nb_part11 (H : Hold) (y : Unit → Rgn) : List Blk := []
theorem x_part11 (c : Cd)  (st : DS) (h : Bd 42 st)  : ∃ y, DrwM Try.prog 56 21 42 r_part11 nb_part11 (fun y => rgWB y.rows ∧ y.rows.length ≤ 25) c [] st y := by
  have hB : Base Try.prog (tabΓ [e_anyRegion c, e_one c, e_arms c, e_RegS]) tabO := base_of tabOkO (ents_cons (eok_anyRegion c) <| ents_cons (eok_one c) <| ents_cons (eok_arms c) <| ents_cons eok_RegS <| ents_nil)
  refine drwM_ok (N := 12) hB (draw_ok hB mixed) Try.func21 rfl rfl 56 42 r_part11 nb_part11 (fun y => rgWB y.rows ∧ y.rows.length ≤ 25) c (fun H => []) st 400 (by simp) (fun x hx => ?_) ?_
  · cases hx
  intro H hH
  conv in finish _ _ _ _ _ _ _ _ => cbv
  simp only [Fin.sat0, AllP, and_true, true_and, ncast, Int.ofNat_eq_natCast, heta hH]
  have a1 := (p_one c 4 st (Bd.mono (by assumption))).1; generalize F_one c 4 st = y1 at *; have b1 : Bd 40 y1.2 := a1.bd (by assumption)
  obtain ⟨a2, k2⟩ := p_anyRegion c y1.2 (b1.mono (by omega))
  generalize F_anyRegion c y1.2 = y2 at *
  have a3 := (p_arms c y1.2 (Bd.mono (by assumption))).1; generalize F_arms c y1.2 = y3 at *; have b3 : Bd 2 y3.2 := a3.bd (by assumption)
  have a4 := (p_one c 2 y3.2 (Bd.mono (by assumption))).1; generalize F_one c 2 y3.2 = y4 at *; have b4 : Bd 0 y4.2 := a4.bd (by assumption)
  (repeat' (with_reducible first | refine And.intro ?_ ?_ | intro hh))
  all_goals try (rw [hH]; with_reducible exact trivial)
  all_goals try (rw [hH]; exact Bd.mono (by assumption))
  · refine ⟨(⟨y2.1.rows⟩, y2.2), (a1.t a2).le (by omega), k2, ?_⟩
    (conv in matchEx _ _ _ _ _ _ _ => cbv); simp only [AllG, AllP, and_true, hH, stdH, Nat.le_refl, ncast, Int.ofNat_eq_natCast, vrow_I, Arm.eta2, Fld.eta, Grp.eta]
    (repeat' (first | with_reducible exact True.intro | exact c.rqN | exact RowsEq.self okI | exact RowsEq.more okI (m := 1) (M := [0]) (Shp_I 1 [0]) (Tl_I [0]) | rfl | refine And.intro ?_ ?_ | trivial))
  · refine ⟨(⟨genR (orlG y3.1.o y3.1.l y4.1)⟩, y4.2), (a1.t (a3.t a4)).le (by omega), (genR_st _).wb, ?_⟩
    (conv in matchEx _ _ _ _ _ _ _ => cbv); simp only [AllG, AllP, and_true, hH, stdH, Nat.le_refl, ncast, Int.ofNat_eq_natCast, vrow_I, Arm.eta2, Fld.eta, Grp.eta]
    (repeat' (first | with_reducible exact True.intro | exact c.rqN | exact RowsEq.self okI | exact RowsEq.more okI (m := 1) (M := [0]) (Shp_I 1 [0]) (Tl_I [0]) | rfl | refine And.intro ?_ ?_ | trivial))
noncomputable def F_part11 (c : Cd)  (st : DS) : Rgn × DS := drwM Try.prog 56 21 42 r_part11 nb_part11 (fun y => rgWB y.rows ∧ y.rows.length ≤ 25) c [] st
noncomputable def e_part11 (c : Cd) : Entry := curEN 56 21 42 c fun H st a nx => match a with
  | [] => some (r_part11 nx H (fun _ => (F_part11 c  st).1), nb_part11 H (fun _ => (F_part11 c  st).1), (fun _ => (F_part11 c  st).2), [])
  | _ => none
theorem eok_part11 (c : Cd) : EntryOk Try.prog (e_part11 c) := curEN_ok (by unfold isBody; kernel_rfl) (by
  intro st a nx r nb y ob e hb hob
  split at e
  · simp only [Option.some.injEq, Prod.mk.injEq] at e
    obtain ⟨rfl, rfl, rfl, rfl⟩ := e
    have hd := drwM_spec (x_part11 c  st hb )
    refine ⟨_, _, ConN.args (.cons .rfl .nil) hd.1, fun x hx => ?_, rfl, ?_, fun q b hq => ⟨b, hq, .same ?_⟩⟩
    · cases hx
    · (repeat' (first | exact .nil | exact .slc ⟨by omega, by simp [nb_part11]⟩ (by omega) | exact .pl .lit | exact .pl (aT_bl okRZ (fun _ => (F_part11 c  st).1) _) | apply ReL.cons | apply Re.aggL | apply Re.tupL))
    · replace hq := List.mem_of_getElem? hq
      simp [nb_part11] at hq
  · simp at e)
theorem p_part11 (c : Cd)  (st : DS) (h : Bd 42 st)  : Adv 42 st (F_part11 c  st).2 ∧ (fun y => rgWB y.rows ∧ y.rows.length ≤ 25) (F_part11 c  st).1 := (drwM_spec (x_part11 c  st h )).2
structure RgSM where
  r : Rgn
  s : Int
  m : Int
deriving Inhabited
def r_DrawFill (n : Nat) (H : Hold) (y : Unit → RgSM) : AV := .tup [aT rowZ H fun _ => (y ()).r, .lit (.int .i64 (H Int fun _ => (y ()).s)), .lit (.int .i64 (H Int fun _ => (y ()).m))]
def nb_DrawFill (H : Hold) (y : Unit → RgSM) : List Blk := []
theorem x_DrawFill (c : Cd) : ∃ y, DrfM Try.prog 6 r_DrawFill nb_DrawFill (fun y => rgWB y.r.rows ∧ y.r.rows.length ≤ 25) c y := by
  have hB : Base Try.prog (tabΓ [e_part11 c, e_among c]) tabO := base_of tabOkO (ents_cons (eok_part11 c) <| ents_cons (eok_among c) <| ents_nil)
  refine drfM_ok (N := 17) hB (draw_ok hB mixed) Try.func6 rfl rfl r_DrawFill nb_DrawFill (fun y => rgWB y.r.rows ∧ y.r.rows.length ≤ 25) c 200 (by simp) ?_
  intro H hH
  conv in finish _ _ _ _ _ _ _ _ => cbv
  simp only [Fin.sat0, AllP, and_true, true_and, ncast, Int.ofNat_eq_natCast, heta hH]
  have h : Bd 46 (0, 0) := ⟨by decide, by decide⟩
  obtain ⟨a1, k1⟩ := p_part11 c (0, 0) (Bd.mono (by assumption))
  generalize F_part11 c (0, 0) = y1 at *
  have b1 : Bd 4 y1.2 := a1.bd h
  have b2 : Bd 2 (F_among c 9 (ints (rowsN .i64 H fun _ => [1, 2, 3, 4, 5, 6, 8, 0, 9])) y1.2).2 := (p_among c 9 _ y1.2 b1.mono (by decide) (by decide)).1.bd b1
  generalize F_among c 9 (ints (rowsN .i64 H fun _ => [1, 2, 3, 4, 5, 6, 8, 0, 9])) y1.2 = y2 at *
  generalize F_among c 7 (ints (rowsN .i64 H fun _ => [6, 40, 3, 0, 41, -1, 40])) y2.2 = y3 at *
  (repeat' (with_reducible first | refine And.intro ?_ ?_))
  all_goals try (rw [hH]; exact Bd.mono (by assumption))
  all_goals try (rw [hH]; exact fun _ _ => rfl)
  all_goals try (rw [hH]; show _ ∧ _; decide)
  all_goals try (simp only [hH, stdH]; omega)
  refine ⟨⟨y1.1, y2.1, y3.1⟩, k1, ?_⟩
  (conv in matchEx _ _ _ _ _ _ _ => cbv); simp only [AllG, AllP, and_true, hH, stdH, Nat.le_refl, ncast, Int.ofNat_eq_natCast, vrow_I, Arm.eta2, Fld.eta, Grp.eta]
  (repeat' (first | with_reducible exact True.intro | exact c.rqN | exact RowsEq.self okI | rfl | refine And.intro ?_ ?_ | trivial))
noncomputable def F_DrawFill (c : Cd) : RgSM := drfM Try.prog 6 r_DrawFill nb_DrawFill (fun y => rgWB y.r.rows ∧ y.r.rows.length ≤ 25) c
noncomputable def e_DrawFill (c : Cd) : Entry := codeEN 6 c (fun nx H => r_DrawFill nx H fun _ => F_DrawFill c) (fun H => nb_DrawFill H fun _ => F_DrawFill c)
theorem eok_DrawFill (c : Cd) : EntryOk Try.prog (e_DrawFill c) := codeEN_ok (by unfold isBody; kernel_rfl) (drfM_spec (x_DrawFill c)).1 (fun nx => by (repeat' (first | exact .nil | exact .slc ⟨by omega, by simp [nb_DrawFill]⟩ (by omega) | exact .pl .lit | exact .pl (aT_bl okRZ (fun _ => (F_DrawFill c).r) _) | apply ReL.cons | apply Re.aggL | apply Re.tupL))) (fun b hq => by
      simp [nb_DrawFill] at hq)
theorem p_DrawFill (c : Cd) : (fun y => rgWB y.r.rows ∧ y.r.rows.length ≤ 25) (F_DrawFill c) := (drfM_spec (x_DrawFill c)).2
structure RgN where
  r : Rgn
  n : Int
deriving Inhabited
def r_DrawLargest (n : Nat) (H : Hold) (y : Unit → RgN) : AV := .tup [aT rowZ H fun _ => (y ()).r, .lit (.int .i64 (H Int fun _ => (y ()).n))]
def nb_DrawLargest (H : Hold) (y : Unit → RgN) : List Blk := []
theorem x_DrawLargest (c : Cd) : ∃ y, DrfM Try.prog 12 r_DrawLargest nb_DrawLargest (fun y => rgWB y.r.rows ∧ y.r.rows.length ≤ 25) c y := by
  have hB : Base Try.prog (tabΓ [e_part11 c, e_pick c]) tabO := base_of tabOkO (ents_cons (eok_part11 c) <| ents_cons (eok_pick c) <| ents_nil)
  refine drfM_ok (N := 12) hB (draw_ok hB mixed) Try.func12 rfl rfl r_DrawLargest nb_DrawLargest (fun y => rgWB y.r.rows ∧ y.r.rows.length ≤ 25) c 200 (by simp) ?_
  intro H hH
  conv in finish _ _ _ _ _ _ _ _ => cbv
  simp only [Fin.sat0, AllP, and_true, true_and, ncast, Int.ofNat_eq_natCast, heta hH]
  have h : Bd 44 (0, 0) := ⟨by decide, by decide⟩
  obtain ⟨a1, k1⟩ := p_part11 c (0, 0) (Bd.mono (by assumption))
  generalize F_part11 c (0, 0) = y1 at *
  have b1 : Bd 2 y1.2 := a1.bd h
  generalize F_pick c 8 y1.2 = y2 at *
  (repeat' (with_reducible first | refine And.intro ?_ ?_))
  all_goals try (rw [hH]; exact Bd.mono (by assumption))
  refine ⟨⟨y1.1, y2.1⟩, k1, ?_⟩
  (conv in matchEx _ _ _ _ _ _ _ => cbv); simp only [AllG, AllP, and_true, hH, stdH, Nat.le_refl, ncast, Int.ofNat_eq_natCast, vrow_I, Arm.eta2, Fld.eta, Grp.eta]
  (repeat' (first | with_reducible exact True.intro | exact c.rqN | exact RowsEq.self okI | rfl | refine And.intro ?_ ?_ | trivial))
noncomputable def F_DrawLargest (c : Cd) : RgN := drfM Try.prog 12 r_DrawLargest nb_DrawLargest (fun y => rgWB y.r.rows ∧ y.r.rows.length ≤ 25) c
noncomputable def e_DrawLargest (c : Cd) : Entry := codeEN 12 c (fun nx H => r_DrawLargest nx H fun _ => F_DrawLargest c) (fun H => nb_DrawLargest H fun _ => F_DrawLargest c)
theorem eok_DrawLargest (c : Cd) : EntryOk Try.prog (e_DrawLargest c) := codeEN_ok (by unfold isBody; kernel_rfl) (drfM_spec (x_DrawLargest c)).1 (fun nx => by (repeat' (first | exact .nil | exact .slc ⟨by omega, by simp [nb_DrawLargest]⟩ (by omega) | exact .pl .lit | exact .pl (aT_bl okRZ (fun _ => (F_DrawLargest c).r) _) | apply ReL.cons | apply Re.aggL | apply Re.tupL))) (fun b hq => by
      simp [nb_DrawLargest] at hq)
theorem p_DrawLargest (c : Cd) : (fun y => rgWB y.r.rows ∧ y.r.rows.length ≤ 25) (F_DrawLargest c) := (drfM_spec (x_DrawLargest c)).2

end Go.Proofs.Ytpilblmncpeelaa.AM

