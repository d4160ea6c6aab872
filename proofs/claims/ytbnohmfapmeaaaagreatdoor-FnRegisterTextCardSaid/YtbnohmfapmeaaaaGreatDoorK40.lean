/- Lemmas and contracts (Rgy); conditions: none. -/
import Derived.Test.YtbnohmfapmeaaaaGreatDoorK03
import Derived.Test.YtbnohmfapmeaaaaGreatDoorK25
import Derived.Test.YtbnohmfapmeaaaaGreatDoorK38
import Derived.Test.YtbnohmfapmeaaaaGreatDoorK39
set_option linter.unusedVariables false
set_option linter.unusedSimpArgs false
set_option maxRecDepth 100000
set_option maxHeartbeats 4000000
set_option cbv.maxSteps 3000000
namespace Go.Proofs.YtbnohmfapmeaaaaGreatDoor.AM
/- Registers are drawn whose grants have texts; conditions: none. -/
def gTx (g : Grt) : Prop := g.name.size ≤ 200 ∧ (0 ≤ g.num ∧ g.num ≤ 999) ∧ (0 ≤ g.year ∧ g.year ≤ 2999) ∧ okA g.arms = true
noncomputable def rvB (c : Cd) (a : Arm) (st : DS) : Arm × DS := if (F_one c 2 (F_likeV c a st).2).1 = true then F_armsV c (F_one c 2 (F_likeV c a st).2).2 else ((F_likeV c a st).1, (F_one c 2 (F_likeV c a st).2).2)
theorem rvB_ok (c : Cd) (a : Arm) (st : DS) (h : Bd 80 st) (ha : okA a = true) : Adv 80 st (rvB c a st).2 ∧ okA (rvB c a st).1 = true := by
  obtain ⟨a1, q1⟩ := p_likeV c a st (h.mono (by omega)) ha
  have b1 := a1.bd h (by omega : 40 + 40 ≤ 80)
  have a2 := (p_one c 2 (F_likeV c a st).2 (b1.mono (by omega))).1
  have b2 := a2.bd b1 (by omega : 2 + 38 ≤ 40)
  obtain ⟨a3, q3⟩ := p_armsV c (F_one c 2 (F_likeV c a st).2).2 (b2.mono (by omega))
  unfold rvB
  split
  · exact ⟨a1.trans (a2.trans a3 (Nat.le_refl _)) (by omega), q3⟩
  · exact ⟨a1.trans a2 (by omega), q1⟩
noncomputable def rvG (c : Cd) (a : Arm) : Nat → List Grt → Int → Int → DS → List Grt × DS
  | 0, L, _, _, st => (L, st)
  | n + 1, L, y, k, st => if cfl L (rvB c a st).1 = true then rvG c a n L y k (rvB c a st).2 else rvG c a n (L ++ [⟨k + 1 + (F_pick c 2 (F_pick c 20 (rvB c a st).2).2).1, (F_ofS c nmL (F_pick c 2 (F_pick c 20 (rvB c a st).2).2).2).1, y + (F_pick c 20 (rvB c a st).2).1, (rvB c a st).1⟩]) (y + (F_pick c 20 (rvB c a st).2).1) (k + 1 + (F_pick c 2 (F_pick c 20 (rvB c a st).2).2).1) (F_ofS c nmL (F_pick c 2 (F_pick c 20 (rvB c a st).2).2).2).2
theorem rvG_c {c : Cd} {a : Arm} {n : Nat} {L : List Grt} {y k : Int} {st s : DS} {x : Arm} (hb : rvB c a st = (x, s)) (hc : cfl L x = true) : rvG c a (n + 1) L y k st = rvG c a n L y k s := by
  conv => lhs; unfold rvG
  simp only [hb, hc, if_true]
theorem rvG_n {c : Cd} {a : Arm} {n : Nat} {L : List Grt} {y k : Int} {st s : DS} {x : Arm} (hb : rvB c a st = (x, s)) (hc : cfl L x = false) : rvG c a (n + 1) L y k st = rvG c a n (L ++ [⟨k + 1 + (F_pick c 2 (F_pick c 20 s).2).1, (F_ofS c nmL (F_pick c 2 (F_pick c 20 s).2).2).1, y + (F_pick c 20 s).1, x⟩]) (y + (F_pick c 20 s).1) (k + 1 + (F_pick c 2 (F_pick c 20 s).2).1) (F_ofS c nmL (F_pick c 2 (F_pick c 20 s).2).2).2 := by
  conv => lhs; unfold rvG
  simp only [hb, hc, Bool.false_eq_true, if_false]
theorem rvG_ok (c : Cd) (a : Arm) (ha : okA a = true) : ∀ (n : Nat) (L : List Grt) (y k : Int) (st : DS) (m : Nat), Bd (86 * n + m) st → (1500 ≤ y ∧ y ≤ 1700 - 20 * (n : Int)) → (0 ≤ k ∧ k ≤ 20 - 2 * (n : Int)) → (∀ g ∈ L, gTx g) → Adv (86 * n) st (rvG c a n L y k st).2 ∧ (rvG c a n L y k st).1.length ≤ L.length + n ∧ ∀ g ∈ (rvG c a n L y k st).1, gTx g
  | 0, L, y, k, st, m, _, _, _, hL => ⟨Adv.refl _ _, Nat.le_refl _, hL⟩
  | n + 1, L, y, k, st, m, h, hy, hk, hL => by
    obtain ⟨a1, q1⟩ := rvB_ok c a st (h.mono (by omega)) ha
    have b1 := a1.bd h (by omega : 80 + (6 + 86 * n + m) ≤ 86 * (n + 1) + m)
    obtain ⟨a2, m2, n2⟩ := p_pick c 20 (rvB c a st).2 (b1.mono (by omega))
    have b2 := a2.bd b1 (by omega : 2 + (4 + 86 * n + m) ≤ 6 + 86 * n + m)
    obtain ⟨a3, m3, n3⟩ := p_pick c 2 (F_pick c 20 (rvB c a st).2).2 (b2.mono (by omega))
    have b3 := a3.bd b2 (by omega : 2 + (2 + 86 * n + m) ≤ 4 + 86 * n + m)
    obtain ⟨a4, l4⟩ := p_ofS c nmL (F_pick c 2 (F_pick c 20 (rvB c a st).2).2).2 (b3.mono (by omega)) (by decide) (by decide) nmL_sz
    have b4 := a4.bd b3 (by omega : 2 + (86 * n + m) ≤ 2 + 86 * n + m)
    unfold rvG
    split
    · obtain ⟨h1, h2, h3⟩ := rvG_ok c a ha n L y k (rvB c a st).2 m (b1.mono (by omega)) (by omega) (by omega) hL
      exact ⟨a1.trans h1 (by omega), by omega, h3⟩
    · obtain ⟨h1, h2, h3⟩ := rvG_ok c a ha n (L ++ [⟨k + 1 + (F_pick c 2 (F_pick c 20 (rvB c a st).2).2).1, (F_ofS c nmL (F_pick c 2 (F_pick c 20 (rvB c a st).2).2).2).1, y + (F_pick c 20 (rvB c a st).2).1, (rvB c a st).1⟩]) (y + (F_pick c 20 (rvB c a st).2).1) (k + 1 + (F_pick c 2 (F_pick c 20 (rvB c a st).2).2).1) (F_ofS c nmL (F_pick c 2 (F_pick c 20 (rvB c a st).2).2).2).2 m b4 (by omega) (by omega) (by
        intro g hg
        rcases List.mem_append.1 hg with hg | hg
        · exact hL g hg
        · rw [List.mem_singleton] at hg; subst hg; exact ⟨l4, ⟨by show 0 ≤ k + 1 + _; omega, by show k + 1 + _ ≤ 999; omega⟩, ⟨by show 0 ≤ y + _; omega, by show y + _ ≤ 2999; omega⟩, q1⟩)
      rw [List.length_append, List.length_singleton] at h2
      exact ⟨a1.trans (a2.trans (a3.trans (a4.trans h1 (Nat.le_refl _)) (Nat.le_refl _)) (Nat.le_refl _)) (by omega), by omega, h3⟩
noncomputable def rvY (c : Cd) (st : DS) : List Grt × DS := rvG c (F_armsV c (F_pick c 100 st).2).1 (F_pick c 6 (F_armsV c (F_pick c 100 st).2).2).1.toNat [] (1500 + (F_pick c 100 st).1) 0 (F_pick c 6 (F_armsV c (F_pick c 100 st).2).2).2
theorem rvY_ok (c : Cd) (st : DS) (h : Bd 472 st) : Adv 472 st (rvY c st).2 ∧ ((rvY c st).1.length ≤ 5 ∧ ∀ g ∈ (rvY c st).1, gTx g) := by
  obtain ⟨a1, m1, n1⟩ := p_pick c 100 st (h.mono (by omega))
  have b1 := a1.bd h (by omega : 2 + 470 ≤ 472)
  obtain ⟨a2, q2⟩ := p_armsV c (F_pick c 100 st).2 (b1.mono (by omega))
  have b2 := a2.bd b1 (by omega : 38 + 432 ≤ 470)
  obtain ⟨a3, m3, n3⟩ := p_pick c 6 (F_armsV c (F_pick c 100 st).2).2 (b2.mono (by omega))
  have b3 := a3.bd b2 (by omega : 2 + 430 ≤ 432)
  obtain ⟨h1, h2, h3⟩ := rvG_ok c (F_armsV c (F_pick c 100 st).2).1 q2 (F_pick c 6 (F_armsV c (F_pick c 100 st).2).2).1.toNat [] (1500 + (F_pick c 100 st).1) 0 (F_pick c 6 (F_armsV c (F_pick c 100 st).2).2).2 0 (b3.mono (by omega)) (by omega) (by omega) (by simp)
  simp only [List.length_nil] at h2
  exact ⟨a1.trans (a2.trans (a3.trans (h1.le (by omega : _ ≤ 430)) (Nat.le_refl _)) (Nat.le_refl _)) (by omega), by unfold rvY; omega, h3⟩
def r_registerV (n : Nat) (H : Hold) (y : Unit → List Grt) : AV := .agg [.slc n 0 18 (H Nat fun _ => ((y ())).length)]
def nb_registerV (H : Hold) (y : Unit → List Grt) : List Blk := [.rows 18 (H Nat fun _ => ((y ())).length) (rowsW H fun _ => (y ())) 100]
theorem x_registerV (c : Cd)  (st : DS) (h : Bd 472 st)  : ∃ y, DrwM Tryz.prog 107 76 472 r_registerV nb_registerV (fun y => y.length ≤ 5 ∧ ∀ g ∈ y, gTx g) c [] st y := by
  have hB : Base Tryz.prog (tabΓ [e_pick c, e_armsV c, e_likeV c, e_one c, e_l16Conflicts, e_ofS c]) tabO := base_of tabOkO (ents_cons (eok_pick c) <| ents_cons (eok_armsV c) <| ents_cons (eok_likeV c) <| ents_cons (eok_one c) <| ents_cons eok_l16Conflicts <| ents_cons (eok_ofS c) <| ents_nil)
  refine drwM_okL (N := 56) hB (draw_ok hB mixed) Tryz.func76 rfl rfl 107 472 r_registerV nb_registerV (fun y => y.length ≤ 5 ∧ ∀ g ∈ y, gTx g) c (fun H => []) st 400 (by simp) (fun x hx => ?_) (rvY c st) (rvY_ok c st h) ?_
  · cases hx
  intro X hX hX0 H hH
  conv in Fin.chk _ _ => cbv
  try simp only [Plain_rowsA, Plain_rowsB, Plain_rowsC, Plain_rowsD, Plain_rowsF, Plain_rowsG, Plain_rowsI, Plain_rowsS, Plain_rowsU, Fin.satC_ret, Fin.satC_br, Fin.satC_need, Fin.satC_again, AllP, and_true, true_and, upd, List.length_nil, List.length_cons, Nat.zero_add, if_true, ncast, zqe]
  simp only [hetaA hH, heta hH]
  obtain ⟨a1, m1, n1⟩ := p_pick c 100 st (h.mono (by omega))
  have b1 := a1.bd h (by omega : 2 + 470 ≤ 472)
  obtain ⟨a2, q2⟩ := p_armsV c (F_pick c 100 st).2 (b1.mono (by omega))
  have b2 := a2.bd b1 (by omega : 38 + 432 ≤ 470)
  obtain ⟨a3, m3, n3⟩ := p_pick c 6 (F_armsV c (F_pick c 100 st).2).2 (b2.mono (by omega))
  have b3 := a3.bd b2 (by omega : 2 + 430 ≤ 432)
  have eY : rvY c st = rvG c (F_armsV c (F_pick c 100 st).2).1 (F_pick c 6 (F_armsV c (F_pick c 100 st).2).2).1.toNat [] (1500 + (F_pick c 100 st).1) 0 (F_pick c 6 (F_armsV c (F_pick c 100 st).2).2).2 := rfl
  generalize F_pick c 100 st = k1 at *
  obtain ⟨k1, s1⟩ := k1
  simp only at *
  generalize F_armsV c s1 = a at *
  obtain ⟨a, s2⟩ := a
  simp only at *
  generalize F_pick c 6 s2 = k3 at *
  obtain ⟨k3, s3⟩ := k3
  simp only at *
  refine ⟨?_, ?_, ?_, ?_⟩
  · try simp only [hH, stdH, zql, zqa, zqb, zqc, zqd, peta, ncast, zqe, zqf, zqg, zqh, zqi, ne_eq, zqj, zqk, vrow_I, Arm.eta2, Fld.eta, Grp.eta]
    exact h.mono
  · try simp only [hH, stdH, zql, zqa, zqb, zqc, zqd, peta, ncast, zqe, zqf, zqg, zqh, zqi, ne_eq, zqj, zqk, vrow_I, Arm.eta2, Fld.eta, Grp.eta]
    exact b1.mono
  · try simp only [hH, stdH, zql, zqa, zqb, zqc, zqd, peta, ncast, zqe, zqf, zqg, zqh, zqi, ne_eq, zqj, zqk, vrow_I, Arm.eta2, Fld.eta, Grp.eta]
    exact b2.mono
  · have g0 : k3.toNat ≤ 5 ∧ ([] : List Grt).length + k3.toNat ≤ 5 ∧ (1500 ≤ 1500 + k1 ∧ 1500 + k1 ≤ 1700 - 20 * (k3.toNat : Int)) ∧ ((0 : Int) ≤ 0 ∧ (0 : Int) ≤ 20 - 2 * (k3.toNat : Int)) ∧ Bd (86 * k3.toNat) s3 ∧ (∀ g ∈ ([] : List Grt), g.name.size ≤ 200) ∧ rvG c a k3.toNat [] (1500 + k1) 0 s3 = rvY c st := ⟨by omega, by simp only [List.length_nil]; omega, by omega, by omega, b3.mono (by omega), by simp, eY.symm⟩
    refine loop_c hB (draw_ok hB mixed) hX hX0 hH [0, 2, 3, 4, 5, 6, 7] (ι := { p : Nat × List Grt × Int × Int × DS // p.1 ≤ 5 ∧ p.2.1.length + p.1 ≤ 5 ∧ (1500 ≤ p.2.2.1 ∧ p.2.2.1 ≤ 1700 - 20 * (p.1 : Int)) ∧ (0 ≤ p.2.2.2.1 ∧ p.2.2.2.1 ≤ 20 - 2 * (p.1 : Int)) ∧ Bd (86 * p.1) p.2.2.2.2 ∧ (∀ g ∈ p.2.1, g.name.size ≤ 200) ∧ rvG c a p.1 p.2.1 p.2.2.1 p.2.2.2.1 p.2.2.2.2 = rvY c st }) 400 (fun i => [.i (H Int fun _ => i.1.2.2.1), .i (H Int fun _ => i.1.2.2.2.1), .i (H Int fun _ => (i.1.1 : Nat)), .i (H Int fun _ => i.1.2.2.2.2.1), .i (H Int fun _ => i.1.2.2.2.2.2), .r (H Nat fun _ => (i.1.2.1).length) (rowsW H fun _ => i.1.2.1)]) (fun i => i.1.1) (⟨(k3.toNat, [], 1500 + k1, 0, s3), g0⟩) ?_ ?_
    · (conv in matchSt _ _ _ _ => cbv); simp only [AllG, AllP, and_true, hH, stdH, zql, ncast, zqe, vrow_I, Arm.eta2, Fld.eta, Grp.eta]
      rw [wi (by omega) (by omega)]
      all_goals (repeat' (with_reducible refine And.intro ?_ ?_)) <;> (first | exact Eq.refl _ | exact True.intro | exact RowsEq.ofT okRW rfl (Shp_zero _) rfl | exact c.rqN | omega)
    · intro I hI i
      conv in Fin.chk _ _ => cbv
      try simp only [Plain_rowsA, Plain_rowsB, Plain_rowsC, Plain_rowsD, Plain_rowsF, Plain_rowsG, Plain_rowsI, Plain_rowsS, Plain_rowsU, Fin.satC_ret, Fin.satC_br, Fin.satC_need, Fin.satC_again, AllP, and_true, true_and, upd, List.length_nil, List.length_cons, Nat.zero_add, if_true, ncast, zqe]
      obtain ⟨⟨n, L, y, k, s4⟩, g1, g2, g3, g4, g5, g6, g7⟩ := i
      simp only at g1 g2 g3 g4 g5 g6 g7
      simp only [hetaA hH, heta hH, TlW_H hH, TlS4_H hH]
      refine ⟨fun h1 => ?_, fun h1 => ?_⟩
      · simp only [hH, stdH, zql, zqa, zqb, zqc, zqd, peta, ncast, zqe, zqf, zqg, zqh, zqi, ne_eq, zqj, zqk, vrow_I, Arm.eta2, Fld.eta, Grp.eta] at h1
        obtain ⟨m, rfl⟩ : ∃ m, n = m + 1 := ⟨n - 1, by omega⟩
        have e5 : IntKind.i64.wrap (((m + 1 : Nat) : Int) - 1) = (m : Int) := by rw [wi] <;> omega
        have a4 := (p_likeV c a s4 (g5.mono (by omega)) q2).1
        have b4 := a4.bd g5 (by omega : 40 + (46 + 86 * m) ≤ 86 * (m + 1))
        have a9 := (p_one c 2 (F_likeV c a s4).2 (b4.mono (by omega))).1
        have b9 := a9.bd b4 (by omega : 2 + (44 + 86 * m) ≤ 46 + 86 * m)
        refine ⟨⟨?_, ?_⟩, ?_, fun h2 => ⟨?_, ?_⟩, fun h2 => ?_⟩
        · try simp only [hH, stdH, zql, zqa, zqb, zqc, zqd, peta, ncast, zqe, zqf, zqg, zqh, zqi, ne_eq, zqj, zqk, vrow_I, Arm.eta2, Fld.eta, Grp.eta]
          exact g5.mono (by omega)
        · try simp only [hH, stdH, zql, zqa, zqb, zqc, zqd, peta, ncast, zqe, zqf, zqg, zqh, zqi, ne_eq, zqj, zqk, vrow_I, Arm.eta2, Fld.eta, Grp.eta]
          exact q2
        · try simp only [hH, stdH, zql, zqa, zqb, zqc, zqd, peta, ncast, zqe, zqf, zqg, zqh, zqi, ne_eq, zqj, zqk, vrow_I, Arm.eta2, Fld.eta, Grp.eta]
          exact b4.mono (by omega)
        · try simp only [hH, stdH, zql, zqa, zqb, zqc, zqd, peta, ncast, zqe, zqf, zqg, zqh, zqi, ne_eq, zqj, zqk, vrow_I, Arm.eta2, Fld.eta, Grp.eta]
          exact b9.mono (by omega)
        · simp only [hH, stdH, Int.toNat_natCast] at h2
          have a10 := (p_armsV c (F_one c 2 (F_likeV c a s4).2).2 (b9.mono (by omega))).1
          have bB := a10.bd b9 (by omega : 38 + (6 + 86 * m) ≤ 44 + 86 * m)
          have hb : rvB c a s4 = ((F_armsV c (F_one c 2 (F_likeV c a s4).2).2).1, (F_armsV c (F_one c 2 (F_likeV c a s4).2).2).2) := if_pos h2
          obtain ⟨a5, m5, n5⟩ := p_pick c 20 (F_armsV c (F_one c 2 (F_likeV c a s4).2).2).2 (bB.mono (by omega))
          have b5 := a5.bd bB (by omega : 2 + (4 + 86 * m) ≤ 6 + 86 * m)
          obtain ⟨a6, m6, n6⟩ := p_pick c 2 (F_pick c 20 (F_armsV c (F_one c 2 (F_likeV c a s4).2).2).2).2 (b5.mono (by omega))
          have b6 := a6.bd b5 (by omega : 2 + (2 + 86 * m) ≤ 4 + 86 * m)
          obtain ⟨a7, l7⟩ := p_ofS c nmL (F_pick c 2 (F_pick c 20 (F_armsV c (F_one c 2 (F_likeV c a s4).2).2).2).2).2 (b6.mono (by omega)) (by decide) (by decide) nmL_sz
          have b7 := a7.bd b6 (by omega : 2 + 86 * m ≤ 2 + 86 * m)
          refine ⟨⟨?_, ?_, ?_, ?_⟩, fun h3 => ?_, fun h3 => ⟨?_, ?_, ⟨?_, ?_, ?_, ?_, ?_⟩, ⟨?_, ?_⟩, ?_⟩⟩
          · try simp only [hH, stdH, zql, zqa, zqb, zqc, zqd, peta, ncast, zqe, zqf, zqg, zqh, zqi, ne_eq, zqj, zqk, vrow_I, Arm.eta2, Fld.eta, Grp.eta]
            exact fun j _ => rfl
          · try simp only [hH, stdH, zql, zqa, zqb, zqc, zqd, peta, ncast, zqe, zqf, zqg, zqh, zqi, ne_eq, zqj, zqk, vrow_I, Arm.eta2, Fld.eta, Grp.eta]
            exact Shp_W _ _
          · try simp only [hH, stdH, zql, zqa, zqb, zqc, zqd, peta, ncast, zqe, zqf, zqg, zqh, zqi, ne_eq, zqj, zqk, vrow_I, Arm.eta2, Fld.eta, Grp.eta]
            omega
          · try simp only [hH, stdH, zql, zqa, zqb, zqc, zqd, peta, ncast, zqe, zqf, zqg, zqh, zqi, ne_eq, zqj, zqk, vrow_I, Arm.eta2, Fld.eta, Grp.eta]
          · simp only [hH, stdH, Int.toNat_natCast] at h3
            rw [cfl_n] at h3
            refine ⟨⟨(m, L, y, k, (F_armsV c (F_one c 2 (F_likeV c a s4).2).2).2), by omega, by simp only; omega, by simp only; omega, by simp only; omega, bB.mono (by simp only; omega), g6, (rvG_c hb h3).symm.trans g7⟩, by simp only; omega, ?_⟩
            rw [hI]
            (conv in matchSt _ _ _ _ => cbv); simp only [AllG, AllP, and_true, hH, stdH, zql, ncast, zqe, vrow_I, Arm.eta2, Fld.eta, Grp.eta]
            rw [e5]
            all_goals (repeat' (with_reducible refine And.intro ?_ ?_)) <;> (first | exact Eq.refl _ | exact True.intro | exact Nat.le_refl _ | exact RowsEq.self okRW | exact RowsEq.ofT okRW rfl (Shp_zero _) rfl | exact RowsEq.snoc okRW rfl | exact List.length_append | exact c.rqN)
          · try simp only [hH, stdH, zql, zqa, zqb, zqc, zqd, peta, ncast, zqe, zqf, zqg, zqh, zqi, ne_eq, zqj, zqk, vrow_I, Arm.eta2, Fld.eta, Grp.eta]
            exact bB.mono (by omega)
          · try simp only [hH, stdH, zql, zqa, zqb, zqc, zqd, peta, ncast, zqe, zqf, zqg, zqh, zqi, ne_eq, zqj, zqk, vrow_I, Arm.eta2, Fld.eta, Grp.eta]
            exact b5.mono (by omega)
          · try simp only [hH, stdH, zql, zqa, zqb, zqc, zqd, peta, ncast, zqe, zqf, zqg, zqh, zqi, ne_eq, zqj, zqk, vrow_I, Arm.eta2, Fld.eta, Grp.eta]
            exact b6.mono (by omega)
          · try simp only [hH, stdH, zql, zqa, zqb, zqc, zqd, peta, ncast, zqe, zqf, zqg, zqh, zqi, ne_eq, zqj, zqk, vrow_I, Arm.eta2, Fld.eta, Grp.eta]
            exact Shp_rowsT okS 4 (fun _ => nmL)
          · try simp only [hH, stdH, zql, zqa, zqb, zqc, zqd, peta, ncast, zqe, zqf, zqg, zqh, zqi, ne_eq, zqj, zqk, vrow_I, Arm.eta2, Fld.eta, Grp.eta]
            exact (by decide : 1 ≤ nmL.length)
          · try simp only [hH, stdH, zql, zqa, zqb, zqc, zqd, peta, ncast, zqe, zqf, zqg, zqh, zqi, ne_eq, zqj, zqk, vrow_I, Arm.eta2, Fld.eta, Grp.eta]
            exact (by decide : nmL.length ≤ 100)
          · try simp only [hH, stdH, zql, zqa, zqb, zqc, zqd, peta, ncast, zqe, zqf, zqg, zqh, zqi, ne_eq, zqj, zqk, vrow_I, Arm.eta2, Fld.eta, Grp.eta]
            exact nmL_sz
          · try simp only [hH, stdH, zql, zqa, zqb, zqc, zqd, peta, ncast, zqe, zqf, zqg, zqh, zqi, ne_eq, zqj, zqk, vrow_I, Arm.eta2, Fld.eta, Grp.eta]
          · try simp only [hH, stdH, zql, zqa, zqb, zqc, zqd, peta, ncast, zqe, zqf, zqg, zqh, zqi, ne_eq, zqj, zqk, vrow_I, Arm.eta2, Fld.eta, Grp.eta]
            ((repeat' (with_reducible refine And.intro ?_ ?_)) <;> (first | exact True.intro | omega | exact Eq.refl _))
          · simp only [hH, stdH, Int.toNat_natCast] at h3
            rw [cfl_n] at h3
            refine ⟨⟨(m, L ++ [⟨k + 1 + (F_pick c 2 (F_pick c 20 (F_armsV c (F_one c 2 (F_likeV c a s4).2).2).2).2).1, (F_ofS c nmL (F_pick c 2 (F_pick c 20 (F_armsV c (F_one c 2 (F_likeV c a s4).2).2).2).2).2).1, y + (F_pick c 20 (F_armsV c (F_one c 2 (F_likeV c a s4).2).2).2).1, (F_armsV c (F_one c 2 (F_likeV c a s4).2).2).1⟩], y + (F_pick c 20 (F_armsV c (F_one c 2 (F_likeV c a s4).2).2).2).1, k + 1 + (F_pick c 2 (F_pick c 20 (F_armsV c (F_one c 2 (F_likeV c a s4).2).2).2).2).1, (F_ofS c nmL (F_pick c 2 (F_pick c 20 (F_armsV c (F_one c 2 (F_likeV c a s4).2).2).2).2).2).2), by omega, by simp only [List.length_append, List.length_singleton]; omega, by simp only; omega, by simp only; omega, b7.mono (by simp only; omega), fun g hg => ?_, (rvG_n hb h3).symm.trans g7⟩, by simp only; omega, ?_⟩
            · rcases List.mem_append.1 hg with hg | hg
              · exact g6 g hg
              · rw [List.mem_singleton] at hg
                subst hg
                exact l7
            · rw [hI]
              (conv in matchSt _ _ _ _ => cbv); simp only [AllG, AllP, and_true, hH, stdH, zql, ncast, zqe, vrow_I, Arm.eta2, Fld.eta, Grp.eta]
              have wy : IntKind.i64.wrap (y + (F_pick c 20 (F_armsV c (F_one c 2 (F_likeV c a s4).2).2).2).1) = y + (F_pick c 20 (F_armsV c (F_one c 2 (F_likeV c a s4).2).2).2).1 := wi (by omega) (by omega)
              have wk : IntKind.i64.wrap (k + 1) = k + 1 := wi (by omega) (by omega)
              have wl : IntKind.i64.wrap (k + 1 + (F_pick c 2 (F_pick c 20 (F_armsV c (F_one c 2 (F_likeV c a s4).2).2).2).2).1) = k + 1 + (F_pick c 2 (F_pick c 20 (F_armsV c (F_one c 2 (F_likeV c a s4).2).2).2).2).1 := wi (by omega) (by omega)
              simp only [e5, wy, wk, wl]
              all_goals (repeat' (with_reducible refine And.intro ?_ ?_)) <;> (first | exact Eq.refl _ | exact True.intro | exact GW_eq | exact RowsEq.snoc okRW rfl | exact List.length_append | exact c.rqN)
        · simp only [hH, stdH, Int.toNat_natCast] at h2
          have bB : Bd (6 + 86 * m) (F_one c 2 (F_likeV c a s4).2).2 := b9.mono (by omega)
          have hb : rvB c a s4 = ((F_likeV c a s4).1, (F_one c 2 (F_likeV c a s4).2).2) := if_neg (ne_true_of_eq_false h2)
          obtain ⟨a5, m5, n5⟩ := p_pick c 20 (F_one c 2 (F_likeV c a s4).2).2 (bB.mono (by omega))
          have b5 := a5.bd bB (by omega : 2 + (4 + 86 * m) ≤ 6 + 86 * m)
          obtain ⟨a6, m6, n6⟩ := p_pick c 2 (F_pick c 20 (F_one c 2 (F_likeV c a s4).2).2).2 (b5.mono (by omega))
          have b6 := a6.bd b5 (by omega : 2 + (2 + 86 * m) ≤ 4 + 86 * m)
          obtain ⟨a7, l7⟩ := p_ofS c nmL (F_pick c 2 (F_pick c 20 (F_one c 2 (F_likeV c a s4).2).2).2).2 (b6.mono (by omega)) (by decide) (by decide) nmL_sz
          have b7 := a7.bd b6 (by omega : 2 + 86 * m ≤ 2 + 86 * m)
          refine ⟨⟨?_, ?_, ?_, ?_⟩, fun h3 => ?_, fun h3 => ⟨?_, ?_, ⟨?_, ?_, ?_, ?_, ?_⟩, ⟨?_, ?_⟩, ?_⟩⟩
          · try simp only [hH, stdH, zql, zqa, zqb, zqc, zqd, peta, ncast, zqe, zqf, zqg, zqh, zqi, ne_eq, zqj, zqk, vrow_I, Arm.eta2, Fld.eta, Grp.eta]
            exact fun j _ => rfl
          · try simp only [hH, stdH, zql, zqa, zqb, zqc, zqd, peta, ncast, zqe, zqf, zqg, zqh, zqi, ne_eq, zqj, zqk, vrow_I, Arm.eta2, Fld.eta, Grp.eta]
            exact Shp_W _ _
          · try simp only [hH, stdH, zql, zqa, zqb, zqc, zqd, peta, ncast, zqe, zqf, zqg, zqh, zqi, ne_eq, zqj, zqk, vrow_I, Arm.eta2, Fld.eta, Grp.eta]
            omega
          · try simp only [hH, stdH, zql, zqa, zqb, zqc, zqd, peta, ncast, zqe, zqf, zqg, zqh, zqi, ne_eq, zqj, zqk, vrow_I, Arm.eta2, Fld.eta, Grp.eta]
          · simp only [hH, stdH, Int.toNat_natCast] at h3
            rw [cfl_n] at h3
            refine ⟨⟨(m, L, y, k, (F_one c 2 (F_likeV c a s4).2).2), by omega, by simp only; omega, by simp only; omega, by simp only; omega, bB.mono (by simp only; omega), g6, (rvG_c hb h3).symm.trans g7⟩, by simp only; omega, ?_⟩
            rw [hI]
            (conv in matchSt _ _ _ _ => cbv); simp only [AllG, AllP, and_true, hH, stdH, zql, ncast, zqe, vrow_I, Arm.eta2, Fld.eta, Grp.eta]
            rw [e5]
            all_goals (repeat' (with_reducible refine And.intro ?_ ?_)) <;> (first | exact Eq.refl _ | exact True.intro | exact Nat.le_refl _ | exact RowsEq.self okRW | exact RowsEq.ofT okRW rfl (Shp_zero _) rfl | exact RowsEq.snoc okRW rfl | exact List.length_append | exact c.rqN)
          · try simp only [hH, stdH, zql, zqa, zqb, zqc, zqd, peta, ncast, zqe, zqf, zqg, zqh, zqi, ne_eq, zqj, zqk, vrow_I, Arm.eta2, Fld.eta, Grp.eta]
            exact bB.mono (by omega)
          · try simp only [hH, stdH, zql, zqa, zqb, zqc, zqd, peta, ncast, zqe, zqf, zqg, zqh, zqi, ne_eq, zqj, zqk, vrow_I, Arm.eta2, Fld.eta, Grp.eta]
            exact b5.mono (by omega)
          · try simp only [hH, stdH, zql, zqa, zqb, zqc, zqd, peta, ncast, zqe, zqf, zqg, zqh, zqi, ne_eq, zqj, zqk, vrow_I, Arm.eta2, Fld.eta, Grp.eta]
            exact b6.mono (by omega)
          · try simp only [hH, stdH, zql, zqa, zqb, zqc, zqd, peta, ncast, zqe, zqf, zqg, zqh, zqi, ne_eq, zqj, zqk, vrow_I, Arm.eta2, Fld.eta, Grp.eta]
            exact Shp_rowsT okS 4 (fun _ => nmL)
          · try simp only [hH, stdH, zql, zqa, zqb, zqc, zqd, peta, ncast, zqe, zqf, zqg, zqh, zqi, ne_eq, zqj, zqk, vrow_I, Arm.eta2, Fld.eta, Grp.eta]
            exact (by decide : 1 ≤ nmL.length)
          · try simp only [hH, stdH, zql, zqa, zqb, zqc, zqd, peta, ncast, zqe, zqf, zqg, zqh, zqi, ne_eq, zqj, zqk, vrow_I, Arm.eta2, Fld.eta, Grp.eta]
            exact (by decide : nmL.length ≤ 100)
          · try simp only [hH, stdH, zql, zqa, zqb, zqc, zqd, peta, ncast, zqe, zqf, zqg, zqh, zqi, ne_eq, zqj, zqk, vrow_I, Arm.eta2, Fld.eta, Grp.eta]
            exact nmL_sz
          · try simp only [hH, stdH, zql, zqa, zqb, zqc, zqd, peta, ncast, zqe, zqf, zqg, zqh, zqi, ne_eq, zqj, zqk, vrow_I, Arm.eta2, Fld.eta, Grp.eta]
          · try simp only [hH, stdH, zql, zqa, zqb, zqc, zqd, peta, ncast, zqe, zqf, zqg, zqh, zqi, ne_eq, zqj, zqk, vrow_I, Arm.eta2, Fld.eta, Grp.eta]
            ((repeat' (with_reducible refine And.intro ?_ ?_)) <;> (first | exact True.intro | omega | exact Eq.refl _))
          · simp only [hH, stdH, Int.toNat_natCast] at h3
            rw [cfl_n] at h3
            refine ⟨⟨(m, L ++ [⟨k + 1 + (F_pick c 2 (F_pick c 20 (F_one c 2 (F_likeV c a s4).2).2).2).1, (F_ofS c nmL (F_pick c 2 (F_pick c 20 (F_one c 2 (F_likeV c a s4).2).2).2).2).1, y + (F_pick c 20 (F_one c 2 (F_likeV c a s4).2).2).1, (F_likeV c a s4).1⟩], y + (F_pick c 20 (F_one c 2 (F_likeV c a s4).2).2).1, k + 1 + (F_pick c 2 (F_pick c 20 (F_one c 2 (F_likeV c a s4).2).2).2).1, (F_ofS c nmL (F_pick c 2 (F_pick c 20 (F_one c 2 (F_likeV c a s4).2).2).2).2).2), by omega, by simp only [List.length_append, List.length_singleton]; omega, by simp only; omega, by simp only; omega, b7.mono (by simp only; omega), fun g hg => ?_, (rvG_n hb h3).symm.trans g7⟩, by simp only; omega, ?_⟩
            · rcases List.mem_append.1 hg with hg | hg
              · exact g6 g hg
              · rw [List.mem_singleton] at hg
                subst hg
                exact l7
            · rw [hI]
              (conv in matchSt _ _ _ _ => cbv); simp only [AllG, AllP, and_true, hH, stdH, zql, ncast, zqe, vrow_I, Arm.eta2, Fld.eta, Grp.eta]
              have wy : IntKind.i64.wrap (y + (F_pick c 20 (F_one c 2 (F_likeV c a s4).2).2).1) = y + (F_pick c 20 (F_one c 2 (F_likeV c a s4).2).2).1 := wi (by omega) (by omega)
              have wk : IntKind.i64.wrap (k + 1) = k + 1 := wi (by omega) (by omega)
              have wl : IntKind.i64.wrap (k + 1 + (F_pick c 2 (F_pick c 20 (F_one c 2 (F_likeV c a s4).2).2).2).1) = k + 1 + (F_pick c 2 (F_pick c 20 (F_one c 2 (F_likeV c a s4).2).2).2).1 := wi (by omega) (by omega)
              simp only [e5, wy, wk, wl]
              all_goals (repeat' (with_reducible refine And.intro ?_ ?_)) <;> (first | exact Eq.refl _ | exact True.intro | exact GW_eq | exact RowsEq.snoc okRW rfl | exact List.length_append | exact c.rqN)
      · simp only [hH, stdH, zql, zqa, zqb, zqc, zqd, peta, ncast, zqe, zqf, zqg, zqh, zqi, ne_eq, zqj, zqk, vrow_I, Arm.eta2, Fld.eta, Grp.eta] at h1
        obtain rfl : n = 0 := by omega
        have e : (L, s4) = rvY c st := g7
        rw [← e]
        try simp only [hH, stdH, zql, zqa, zqb, zqc, zqd, peta, ncast, zqe, zqf, zqg, zqh, zqi, ne_eq, zqj, zqk, vrow_I, Arm.eta2, Fld.eta, Grp.eta]
        all_goals (repeat' (with_reducible refine And.intro ?_ ?_)) <;> (first | exact Eq.refl _ | exact True.intro | exact RowsEq.self okRW | exact c.rqN)
noncomputable def F_registerV (c : Cd)  (st : DS) : List Grt × DS := drwM Tryz.prog 107 76 472 r_registerV nb_registerV (fun y => y.length ≤ 5 ∧ ∀ g ∈ y, gTx g) c [] st
noncomputable def e_registerV (c : Cd) : Entry := curEN 107 76 472 c fun H st a nx => match a with
  | [] => some (r_registerV nx H (fun _ => (F_registerV c  st).1), nb_registerV H (fun _ => (F_registerV c  st).1), (fun _ => (F_registerV c  st).2), [])
  | _ => none
theorem eok_registerV (c : Cd) : EntryOk Tryz.prog (e_registerV c) := curEN_ok (by unfold isBody; kernel_rfl) (by
  intro st a nx r nb y ob e hb hob
  split at e
  · simp only [Option.some.injEq, Prod.mk.injEq] at e
    obtain ⟨rfl, rfl, rfl, rfl⟩ := e
    have hd := drwM_spec (x_registerV c  st hb )
    refine ⟨_, _, ConN.args (.cons .rfl .nil) hd.1, fun x hx => ?_, rfl, ?_, fun q b hq => ⟨b, hq, .same ?_⟩⟩
    · cases hx
    · (repeat' (first | exact .nil | exact .slc ⟨by omega, by simp [nb_registerV]⟩ (by omega) | exact .pl .lit | apply ReL.cons | apply Re.aggL | apply Re.tupL))
    · replace hq := List.mem_of_getElem? hq
      simp only [nb_registerV, List.mem_cons, List.not_mem_nil, or_false] at hq; subst hq; exact bT_bl okRW _ (fun _ => (F_registerV c  st).1) _
  · simp at e)
theorem p_registerV (c : Cd)  (st : DS) (h : Bd 472 st)  : Adv 472 st (F_registerV c  st).2 ∧ (fun y => y.length ≤ 5 ∧ ∀ g ∈ y, gTx g) (F_registerV c  st).1 := (drwM_spec (x_registerV c  st h )).2
theorem lnW_szT {g : Grt} (h : gTx g) : (lnW g).size ≤ 500 := by
  obtain ⟨h1, h2, h3, h4⟩ := h
  have h6 := numD_sz3 (i := g.num.toNat) (by omega)
  have h7 := numD_sz4 (i := g.year.toNat) (by omega)
  have h8 := arm_sz h4
  unfold lnW
  simp only [ByteArray.size_append, bsz, List.length_cons, List.length_nil]
  omega
theorem gTx_at {l : List Grt} (h : ∀ g ∈ l, gTx g) {i : Nat} (hi : i < l.length) : gTx (l.getD i default) := by
  rw [List.getD_eq_getElem?_getD, List.getElem?_eq_getElem hi, Option.getD_some]
  exact h _ (List.getElem_mem hi)
theorem rgT_szT {l : List Grt} (h : ∀ g ∈ l, gTx g) : ∀ i, i ≤ l.length → (rgT l i).size ≤ 500 * i
  | 0, _ => Nat.le_refl 0
  | i + 1, hi => by
    have h1 := rgT_szT h i (by omega)
    have h2 := lnW_szT (gTx_at h (show i < l.length by omega))
    unfold rgT
    rw [ByteArray.size_append]
    omega
theorem c_l16TextT (r : Rgr) (h0 : r.gs.length ≤ 20) (h1 : ∀ g ∈ r.gs, gTx g) : ConN Tryz.prog 75 [aT rowJ stdH fun _ => r] [] 0 (.lit (.string (stdH ByteArray fun _ => rgT r.gs r.gs.length))) [] [] := by
  have hB : Base Tryz.prog (tabΓ [e_l1NumD, e_l6Text]) tab := base_of tabOk (ents_cons eok_l1NumD <| ents_cons eok_l6Text <| ents_nil)
  refine con_m (N := 39) hB (draw_ok hB mixed) Tryz.func75 rfl rfl (fun H => [aT rowJ H fun _ => r]) (fun _ => []) 0 (fun H => .lit (.string (H ByteArray fun _ => rgT r.gs r.gs.length))) (fun H => []) (fun _ => []) 300 (by simp) (fun x hx => ?_) (by simp [lk]) (by omega) (by simp) ?_
  · simp only [List.mem_cons, List.not_mem_nil, or_false] at hx
    rcases hx with rfl
    · exact aT_bl okRJ _ _
  intro X hX hX0 H hH
  conv in Fin.chk _ _ => cbv
  try simp only [Plain_rowsA, Plain_rowsB, Plain_rowsC, Plain_rowsD, Plain_rowsF, Plain_rowsG, Plain_rowsI, Plain_rowsS, Plain_rowsU, Fin.satC_ret, Fin.satC_br, Fin.satC_need, Fin.satC_again, AllP, and_true, true_and, upd, List.length_nil, List.length_cons, Nat.zero_add, if_true, ncast, zqe]
  refine loop_a hB (draw_ok hB mixed) hX hX0 hH false (ι := { i : Nat // i ≤ r.gs.length }) 300 (fun i => [.s (H ByteArray fun _ => rgT r.gs i.1), .i (H Int fun _ => (i.1 : Nat))]) (fun i => r.gs.length - i.1) (⟨0, by omega⟩) ?_ ?_
  · (conv in matchSt _ _ _ _ => cbv); simp only [AllG, AllP, and_true, hH, stdH, zql, ncast, zqe, vrow_I, Arm.eta2, Fld.eta, Grp.eta]
    all_goals (repeat' (with_reducible refine And.intro ?_ ?_)) <;> (first | exact Eq.refl _ | exact True.intro | exact Nat.le_refl _ | exact RowsEq.self okRW | exact RowsEq.ofT okRW rfl (Shp_zero _) rfl | exact RowsEq.snoc okRW rfl | exact List.length_append | exact c.rqN)
  · intro I hI i
    conv in Fin.chk _ _ => cbv
    try simp only [Plain_rowsA, Plain_rowsB, Plain_rowsC, Plain_rowsD, Plain_rowsF, Plain_rowsG, Plain_rowsI, Plain_rowsS, Plain_rowsU, Fin.satC_ret, Fin.satC_br, Fin.satC_need, Fin.satC_again, AllP, and_true, true_and, upd, List.length_nil, List.length_cons, Nat.zero_add, if_true, ncast, zqe]
    obtain ⟨i, hi⟩ := i
    simp only [hetaA hH, hetaW hH]
    refine ⟨fun h2 => ?_, fun h2 => ?_⟩
    · simp only [hH, stdH, zql, zqa, zqb, zqc, zqd, peta, ncast, zqe, zqf, zqg, zqh, zqi, ne_eq, zqj, zqk, vrow_I, Arm.eta2, Fld.eta, Grp.eta] at h2
      have hi' : i < r.gs.length := by omega
      obtain ⟨n5, n1, n3, n4⟩ := gTx_at h1 hi'
      have n6 := numD_sz3 (i := (r.gs.getD i default).num.toNat) (by omega)
      have n7 := numD_sz4 (i := (r.gs.getD i default).year.toNat) (by omega)
      have n8 := armT_sz (r.gs.getD i default).arms
      have n9 := rgT_szT h1 i hi
      (repeat' (with_reducible refine And.intro ?_ ?_))
      all_goals try (simp only [hH, stdH, zqk, ByteArray.size_append, bsz, List.length_cons, List.length_nil]; first | exact n4 | omega)
      refine ⟨⟨i + 1, by omega⟩, by simp only; omega, ?_⟩
      rw [hI]
      (conv in matchSt _ _ _ _ => cbv); simp only [AllG, AllP, and_true, hH, stdH, zql, ncast, zqe, vrow_I, Arm.eta2, Fld.eta, Grp.eta]
      rw [w1 (by omega), show rgT r.gs (i + 1) = rgT r.gs i ++ lnW (r.gs.getD i default) from rfl]
      unfold lnW
      simp only [Int.toNat_natCast, ByteArray.append_assoc]
      all_goals (repeat' (with_reducible refine And.intro ?_ ?_)) <;> (first | exact Eq.refl _ | exact True.intro | exact Nat.le_refl _ | exact RowsEq.self okRW | exact RowsEq.ofT okRW rfl (Shp_zero _) rfl | exact RowsEq.snoc okRW rfl | exact List.length_append | exact c.rqN)
    · simp only [hH, stdH, zql, zqa, zqb, zqc, zqd, peta, ncast, zqe, zqf, zqg, zqh, zqi, ne_eq, zqj, zqk, vrow_I, Arm.eta2, Fld.eta, Grp.eta] at h2
      obtain rfl : i = r.gs.length := by omega
      try simp only [hH, stdH, zql, zqa, zqb, zqc, zqd, peta, ncast, zqe, zqf, zqg, zqh, zqi, ne_eq, zqj, zqk, vrow_I, Arm.eta2, Fld.eta, Grp.eta]
      first | done | exact ⟨trivial, trivial⟩
noncomputable def e_l16TextT : Entry := pureE 75 fun H a => match a with
  | [.agg [.vec 18 r0n r0f]] => some (.lit (.string (H ByteArray fun _ => rgT (⟨(Tl rowW r0n r0f)⟩ : Rgr).gs (⟨(Tl rowW r0n r0f)⟩ : Rgr).gs.length)), [H Prop fun _ => Shp rowW r0n r0f, H Prop fun _ => (⟨(Tl rowW r0n r0f)⟩ : Rgr).gs.length ≤ 20, H Prop fun _ => ∀ g ∈ (⟨(Tl rowW r0n r0f)⟩ : Rgr).gs, gTx g])
  | _ => none
theorem eok_l16TextT : EntryOk Tryz.prog e_l16TextT := pureM_ok (by unfold isBody; kernel_rfl) (by
  intro a r ob e hob
  split at e
  · rename_i r0n r0f
    simp only [Option.some.injEq, Prod.mk.injEq] at e
    obtain ⟨rfl, rfl⟩ := e
    exact ConN.args (.cons (.agg (.cons (.toT okRW rfl hob.1) .nil)) .nil) (c_l16TextT (⟨(Tl rowW r0n r0f)⟩ : Rgr) hob.2.1 hob.2.2.1)
  · simp at e)
def r_DrawParseRegister (n : Nat) (H : Hold) (y : Unit → ByteArray) : AV := .lit (.string (H ByteArray fun _ => (y ())))
def nb_DrawParseRegister (H : Hold) (y : Unit → ByteArray) : List Blk := []
theorem x_DrawParseRegister (c : Cd) : ∃ y, DrfM Tryz.prog 19 r_DrawParseRegister nb_DrawParseRegister (fun y => y.size ≤ 60000) c y := by
  have hB : Base Tryz.prog (tabΓ [e_registerV c, e_l16TextT, e_one c, e_spoilt c]) tabO := base_of tabOkO (ents_cons (eok_registerV c) <| ents_cons eok_l16TextT <| ents_cons (eok_one c) <| ents_cons (eok_spoilt c) <| ents_nil)
  refine drfM_ok (N := 17) hB (draw_ok hB mixed) Tryz.func19 rfl rfl r_DrawParseRegister nb_DrawParseRegister (fun y => y.size ≤ 60000) c 200 (by simp) ?_
  intro H hH
  conv in finish _ _ _ _ _ _ _ _ => cbv
  simp only [Fin.sat0, AllP, and_true, true_and, ncast, Int.ofNat_eq_natCast, heta hH]
  have h : Bd 632 (0, 0) := ⟨by decide, by decide⟩
  obtain ⟨a1, z1, m1⟩ := p_registerV c (0, 0) (h.mono (by omega))
  generalize F_registerV c (0, 0) = y1 at *
  have b1 : Bd 154 y1.2 := a1.bd h (by omega : 472 + 154 ≤ 632)
  simp only [TlW_H hH, hlen hH]
  obtain ⟨L, st1⟩ := y1
  dsimp only at *
  have hz := rgT_szT m1 _ (Nat.le_refl _)
  have a2 := (p_one c 4 st1 (Bd.mono (by assumption))).1; generalize F_one c 4 st1 = y2 at *; have b2 : Bd 152 y2.2 := a2.bd (by assumption)
  obtain ⟨a3, q3⟩ := p_spoilt c (rgT L L.length) (⟨⟨[49, 32, 65, 10, 97]⟩⟩ : ByteArray) y2.2 b2.mono (by omega) (by decide) (by decide)
  refine ⟨?_, ⟨?_, ?_, ?_, ?_⟩, ?_, fun _ => ⟨?_, ?_⟩, fun _ => ?_⟩
  · try simp only [hH, stdH, zql, zqa, zqb, zqc, zqd, peta, ncast, zqe, zqf, zqg, zqh, zqi, ne_eq, zqj, zqk, vrow_I, Arm.eta2, Fld.eta, Grp.eta]
    exact h.mono (by omega)
  · try simp only [hH, stdH, zql, zqa, zqb, zqc, zqd, peta, ncast, zqe, zqf, zqg, zqh, zqi, ne_eq, zqj, zqk, vrow_I, Arm.eta2, Fld.eta, Grp.eta]
    exact fun _ _ => rfl
  · try simp only [hH, stdH, zql, zqa, zqb, zqc, zqd, peta, ncast, zqe, zqf, zqg, zqh, zqi, ne_eq, zqj, zqk, vrow_I, Arm.eta2, Fld.eta, Grp.eta]
    exact Shp_W _ _
  · try simp only [hH, stdH, zql, zqa, zqb, zqc, zqd, peta, ncast, zqe, zqf, zqg, zqh, zqi, ne_eq, zqj, zqk, vrow_I, Arm.eta2, Fld.eta, Grp.eta]
    omega
  · try simp only [hH, stdH, zql, zqa, zqb, zqc, zqd, peta, ncast, zqe, zqf, zqg, zqh, zqi, ne_eq, zqj, zqk, vrow_I, Arm.eta2, Fld.eta, Grp.eta]
    exact m1
  · try simp only [hH, stdH, zql, zqa, zqb, zqc, zqd, peta, ncast, zqe, zqf, zqg, zqh, zqi, ne_eq, zqj, zqk, vrow_I, Arm.eta2, Fld.eta, Grp.eta]
    exact b1.mono
  · try simp only [hH, stdH, zql, zqa, zqb, zqc, zqd, peta, ncast, zqe, zqf, zqg, zqh, zqi, ne_eq, zqj, zqk, vrow_I, Arm.eta2, Fld.eta, Grp.eta]
    exact ⟨b2.mono, by omega, by decide, by decide⟩
  · refine ⟨(F_spoilt c (rgT L L.length) (⟨⟨[49, 32, 65, 10, 97]⟩⟩ : ByteArray) y2.2).1, by show _ ≤ 60000; omega, ?_⟩
    (conv in matchEx _ _ _ _ _ _ _ => cbv); simp only [AllG, AllP, and_true, hH, stdH, zql, ncast, zqe, vrow_I, Arm.eta2, Fld.eta, Grp.eta]
    skip
  · refine ⟨rgT L L.length, by show _ ≤ 60000; omega, ?_⟩
    (conv in matchEx _ _ _ _ _ _ _ => cbv); simp only [AllG, AllP, and_true, hH, stdH, zql, ncast, zqe, vrow_I, Arm.eta2, Fld.eta, Grp.eta]
    skip
noncomputable def F_DrawParseRegister (c : Cd) : ByteArray := drfM Tryz.prog 19 r_DrawParseRegister nb_DrawParseRegister (fun y => y.size ≤ 60000) c
noncomputable def e_DrawParseRegister (c : Cd) : Entry := codeEN 19 c (fun nx H => r_DrawParseRegister nx H fun _ => F_DrawParseRegister c) (fun H => nb_DrawParseRegister H fun _ => F_DrawParseRegister c)
theorem eok_DrawParseRegister (c : Cd) : EntryOk Tryz.prog (e_DrawParseRegister c) := codeEN_ok (by unfold isBody; kernel_rfl) (drfM_spec (x_DrawParseRegister c)).1 (fun nx => by (repeat' (first | exact .nil | exact .slc ⟨by omega, by simp [nb_DrawParseRegister]⟩ (by omega) | exact .pl .lit | apply ReL.cons | apply Re.aggL | apply Re.tupL))) (fun b hq => by
      simp [nb_DrawParseRegister] at hq)
theorem p_DrawParseRegister (c : Cd) : (fun y => y.size ≤ 60000) (F_DrawParseRegister c) := (drfM_spec (x_DrawParseRegister c)).2

end Go.Proofs.YtbnohmfapmeaaaaGreatDoor.AM

