/- Lemmas and contracts (Dal); conditions: none. -/
import Derived.Test.YtigkdbhcjjjjkaaK04
import Derived.Test.YtigkdbhcjjjjkaaK06
import Derived.Test.YtigkdbhcjjjjkaaK12
import Derived.Test.YtigkdbhcjjjjkaaK14
set_option linter.unusedVariables false
set_option linter.unusedSimpArgs false
set_option linter.unusedVariables false
set_option linter.unusedSimpArgs false
set_option maxRecDepth 100000
set_option maxHeartbeats 4000000
set_option cbv.maxSteps 3000000
namespace Go.Proofs.Ytigkdbhcjjjjkaa.AM
/- Lists of arms like each other are drawn; conditions: none. -/
/-- What a round of draws of one kind leaves: n more arms like a. -/
noncomputable def alG (c : Cd) (a : Arm) : Nat → List Arm → DS → List Arm × DS
  | 0, L, st => (L, st)
  | n + 1, L, st => alG c a n (L ++ [(F_like c a st).1]) (F_like c a st).2
theorem alG_ok (c : Cd) (a : Arm) : ∀ (n : Nat) (L : List Arm) (st : DS) (k : Nat), Bd (40 * n + k) st → Adv (40 * n) st (alG c a n L st).2 ∧ (alG c a n L st).1.length = L.length + n
  | 0, L, st, k, _ => ⟨Adv.refl _ _, rfl⟩
  | n + 1, L, st, k, h => by
    have a1 := (p_like c a st (h.mono (by omega))).1
    obtain ⟨h1, h2⟩ := alG_ok c a n (L ++ [(F_like c a st).1]) (F_like c a st).2 k (a1.bd h (by omega))
    refine ⟨a1.trans h1 (by omega), ?_⟩
    show (alG c a n (L ++ [(F_like c a st).1]) (F_like c a st).2).1.length = _
    rw [h2, List.length_append, List.length_singleton]; omega
/-- One of them may be replaced by any arms. -/
noncomputable def alB (c : Cd) (p : List Arm × DS) : List Arm × DS := if 0 < p.1.length then (if (F_one c 16 p.2).1 = true then (p.1.set (F_pick c p.1.length (F_one c 16 p.2).2).1.toNat (F_anyArms c (F_pick c p.1.length (F_one c 16 p.2).2).2).1, (F_anyArms c (F_pick c p.1.length (F_one c 16 p.2).2).2).2) else (p.1, (F_one c 16 p.2).2)) else p
theorem alB_ok (c : Cd) (p : List Arm × DS) (h : Bd 58 p.2) : Adv 58 p.2 (alB c p).2 ∧ (alB c p).1.length = p.1.length := by
  unfold alB
  have a1 := (p_one c 16 p.2 (h.mono (by omega))).1
  split
  · rename_i h0
    split
    · have a2 := (p_pick c p.1.length (F_one c 16 p.2).2 ((a1.bd h (by omega : 2 + 56 ≤ 58)).mono (by omega))).1
      have a3 := (p_anyArms c _ ((a2.bd (a1.bd h (by omega : 2 + 56 ≤ 58)) (by omega : 2 + 54 ≤ 56)).mono (by omega))).1
      exact ⟨a1.trans (a2.trans a3 (Nat.le_refl _)) (by omega), by simp⟩
    · exact ⟨a1.le (by omega), rfl⟩
  · exact ⟨(Adv.refl 0 p.2).le (by omega), rfl⟩
def alF (n : Int) : Arm := ⟨⟨0, 0, IntKind.i64.wrap (1 + n.tmod 9), 0⟩, 0, 0, 0, ⟨0, 0, 0, 0⟩, ⟨0, 0, 0, 0⟩⟩
/-- More arms, until there are too many. -/
noncomputable def alM (c : Cd) : Nat → Nat → List Arm → DS → List Arm × DS
  | 0, _, L, st => (L, (F_pick c 2 st).2)
  | f + 1, i, L, st => if (L.length : Int) < 16 + (F_pick c 2 st).1 then alM c f (i + 1) (L ++ [alF i]) (F_pick c 2 st).2 else (L, (F_pick c 2 st).2)
theorem alM_ok (c : Cd) : ∀ (f i : Nat) (L : List Arm) (st : DS) (k : Nat), Bd (2 * f + 2 + k) st → Adv (2 * f + 2) st (alM c f i L st).2 ∧ (alM c f i L st).1.length ≤ L.length + f
  | 0, i, L, st, k, h => by
    have a1 := (p_pick c 2 st (h.mono (by omega))).1
    exact ⟨a1.le (by omega), by simp [alM]⟩
  | f + 1, i, L, st, k, h => by
    have a1 := (p_pick c 2 st (h.mono (by omega))).1
    unfold alM
    split
    · obtain ⟨h1, h2⟩ := alM_ok c f (i + 1) (L ++ [alF i]) (F_pick c 2 st).2 k (a1.bd h (by omega))
      refine ⟨a1.trans h1 (by omega), ?_⟩
      rw [List.length_append, List.length_singleton] at h2; omega
    · exact ⟨a1.le (by omega), by simp⟩
noncomputable def alA (c : Cd) (st : DS) : List Arm × DS := alB c (alG c (F_arms c st).1 (F_pick c 7 (F_arms c st).2).1.toNat [] (F_pick c 7 (F_arms c st).2).2)
noncomputable def alY (c : Cd) (st : DS) : List Arm × DS := if (F_one c 24 (alA c st).2).1 = true then alM c 18 0 (alA c st).1 (F_one c 24 (alA c st).2).2 else ((alA c st).1, (F_one c 24 (alA c st).2).2)
theorem alY_ok (c : Cd) (st : DS) (h : Bd 378 st) : Adv 378 st (alY c st).2 ∧ (alY c st).1.length ≤ 24 := by
  obtain ⟨a1, _⟩ := p_arms c st (h.mono (by omega))
  have b1 := a1.bd h (by omega : 38 + 340 ≤ 378)
  obtain ⟨a2, m2, n2⟩ := p_pick c 7 (F_arms c st).2 (b1.mono (by omega))
  have b2 := a2.bd b1 (by omega : 2 + 338 ≤ 340)
  have hn : (F_pick c 7 (F_arms c st).2).1.toNat ≤ 6 := by omega
  obtain ⟨a3, l3⟩ := alG_ok c (F_arms c st).1 (F_pick c 7 (F_arms c st).2).1.toNat [] _ 0 (b2.mono (by omega))
  have a3 := a3.le (by omega : _ ≤ 240)
  have b3 := a3.bd b2 (by omega : 240 + 98 ≤ 338)
  obtain ⟨a4, l4⟩ := alB_ok c (alG c (F_arms c st).1 (F_pick c 7 (F_arms c st).2).1.toNat [] (F_pick c 7 (F_arms c st).2).2) (b3.mono (by omega))
  have b4 := a4.bd b3 (by omega : 58 + 40 ≤ 98)
  have l5 : (alA c st).1.length ≤ 6 := by unfold alA; rw [l4, l3]; simp only [List.length_nil]; omega
  have a5 : Adv 338 st (alA c st).2 := a1.trans (a2.trans (a3.trans a4 (Nat.le_refl _)) (Nat.le_refl _)) (by omega)
  have b5 := a5.bd h (by omega : 338 + 40 ≤ 378)
  obtain ⟨a6, _⟩ := p_one c 24 (alA c st).2 (b5.mono (by omega))
  have b6 := a6.bd b5 (by omega : 2 + 38 ≤ 40)
  unfold alY
  split
  · obtain ⟨a7, l7⟩ := alM_ok c 18 0 (alA c st).1 (F_one c 24 (alA c st).2).2 0 (b6.mono (by omega))
    exact ⟨a5.trans (a6.trans a7 (Nat.le_refl _)) (by omega), by omega⟩
  · exact ⟨a5.trans a6 (by omega), by simp only; omega⟩
theorem and_c2 {p q : Prop} [Decidable p] [Decidable q] (h : (bif decide p then decide q else false) = true) : p ∧ q := by
  by_cases hp : p
  · rw [decide_eq_true hp, cond_true, decide_eq_true_eq] at h; exact ⟨hp, h⟩
  · rw [decide_eq_false hp] at h; cases h
theorem and_n2 {p q : Prop} [Decidable p] [Decidable q] (h : (bif decide p then decide q else false) = false) : ¬ p ∨ ¬ q := by
  by_cases hp : p
  · rw [decide_eq_true hp, cond_true, decide_eq_false_iff_not] at h; exact .inr h
  · exact .inl hp
def r_armsList (n : Nat) (H : Hold) (y : Unit → List Arm) : AV := .slc n 0 15 (H Nat fun _ => ((y ())).length)
def nb_armsList (H : Hold) (y : Unit → List Arm) : List Blk := [.rows 15 (H Nat fun _ => ((y ())).length) (rowsA H fun _ => (y ())) 43]
theorem x_armsList (c : Cd)  (st : DS) (h : Bd 378 st)  : ∃ y, DrwM Try.prog 55 24 378 r_armsList nb_armsList (fun y => y.length ≤ 24) c [] st y := by
  have hB : Base Try.prog (tabΓ [e_arms c, e_pick c, e_like c, e_one c, e_anyArms c]) tabO := base_of tabOkO (ents_cons (eok_arms c) <| ents_cons (eok_pick c) <| ents_cons (eok_like c) <| ents_cons (eok_one c) <| ents_cons (eok_anyArms c) <| ents_nil)
  refine drwM_okL (N := 60) hB (draw_ok hB mixed) Try.func24 rfl rfl 55 378 r_armsList nb_armsList (fun y => y.length ≤ 24) c (fun H => []) st 400 (by simp) (fun x hx => ?_) (alY c st) (alY_ok c st h) ?_
  · cases hx
  intro X hX hX0 H hH
  conv in Fin.chk _ _ => cbv
  try simp only [Plain_rowsA, Plain_rowsB, Plain_rowsF, Plain_rowsG, Plain_rowsI, Plain_rowsS, Plain_rowsU, Fin.satC_ret, Fin.satC_br, Fin.satC_need, Fin.satC_again, AllP, and_true, true_and, upd, List.length_nil, List.length_cons, Nat.zero_add, if_true, ncast, Int.ofNat_eq_natCast]
  simp only [hetaA hH, heta hH]
  obtain ⟨a1, _⟩ := p_arms c st (h.mono (by omega))
  have b1 := a1.bd h (by omega : 38 + 340 ≤ 378)
  obtain ⟨a2, m2, n2⟩ := p_pick c 7 (F_arms c st).2 (b1.mono (by omega))
  have b2 := a2.bd b1 (by omega : 2 + 338 ≤ 340)
  have hn6 : (F_pick c 7 (F_arms c st).2).1.toNat ≤ 6 := by omega
  have eA : alA c st = alB c (alG c (F_arms c st).1 (F_pick c 7 (F_arms c st).2).1.toNat [] (F_pick c 7 (F_arms c st).2).2) := rfl
  have eY : alY c st = if (F_one c 24 (alA c st).2).1 = true then alM c 18 0 (alA c st).1 (F_one c 24 (alA c st).2).2 else ((alA c st).1, (F_one c 24 (alA c st).2).2) := rfl
  obtain ⟨x, hx⟩ : ∃ x, (F_arms c st).1 = x := ⟨_, rfl⟩
  refine ⟨?_, ?_, ?_⟩
  · try simp only [hH, stdH, Nat.le_refl, decide_eq_true_eq, decide_eq_false_iff_not, Bool.not_eq_true', Bool.not_eq_false', peta, ncast, Int.ofNat_eq_natCast, beq_iff_eq, bne_iff_ne, beq_eq_false_iff_ne, bne_eq_false_iff_eq, ne_eq, Classical.not_not, Int.toNat_natCast, vrow_I, Arm.eta2, Fld.eta, Grp.eta]
    exact h.mono (by omega)
  · try simp only [hH, stdH, Nat.le_refl, decide_eq_true_eq, decide_eq_false_iff_not, Bool.not_eq_true', Bool.not_eq_false', peta, ncast, Int.ofNat_eq_natCast, beq_iff_eq, bne_iff_ne, beq_eq_false_iff_ne, bne_eq_false_iff_eq, ne_eq, Classical.not_not, Int.toNat_natCast, vrow_I, Arm.eta2, Fld.eta, Grp.eta]
    exact b1.mono (by omega)
  · have g0 : (F_pick c 7 (F_arms c st).2).1.toNat ≤ 6 ∧ ([] : List Arm).length + (F_pick c 7 (F_arms c st).2).1.toNat ≤ 6 ∧ Bd (40 * (F_pick c 7 (F_arms c st).2).1.toNat + 98) (F_pick c 7 (F_arms c st).2).2 ∧ alB c (alG c (F_arms c st).1 (F_pick c 7 (F_arms c st).2).1.toNat [] (F_pick c 7 (F_arms c st).2).2) = alA c st := ⟨hn6, by simp only [List.length_nil]; omega, b2.mono (by omega), rfl⟩
    refine loop_a hB (draw_ok hB mixed) hX hX0 hH false (ι := { p : Nat × List Arm × DS // p.1 ≤ 6 ∧ p.2.1.length + p.1 ≤ 6 ∧ Bd (40 * p.1 + 98) p.2.2 ∧ alB c (alG c (F_arms c st).1 p.1 p.2.1 p.2.2) = alA c st }) 400 (fun i => [.r (H Nat fun _ => (i.1.2.1).length) (rowsA H fun _ => i.1.2.1), .i (H Int fun _ => (i.1.1 : Nat)), .i (H Int fun _ => i.1.2.2.1), .i (H Int fun _ => i.1.2.2.2)]) (fun i => i.1.1) (⟨((F_pick c 7 (F_arms c st).2).1.toNat, [], (F_pick c 7 (F_arms c st).2).2), g0⟩) ?_ ?_
    · (conv in matchSt _ _ _ _ => cbv); simp only [AllG, AllP, and_true, hH, stdH, Nat.le_refl, ncast, Int.ofNat_eq_natCast, vrow_I, Arm.eta2, Fld.eta, Grp.eta]
      (repeat' (first | with_reducible exact True.intro | exact c.rqN | exact RowsEq.ofT okRA rfl (Shp_zero _) rfl | (show ((F_pick c 7 (F_arms c st).2).1.toNat : Int) = _; omega) | rfl | refine And.intro ?_ ?_ | trivial))
    · intro I hI i
      conv in Fin.chk _ _ => cbv
      try simp only [Plain_rowsA, Plain_rowsB, Plain_rowsF, Plain_rowsG, Plain_rowsI, Plain_rowsS, Plain_rowsU, Fin.satC_ret, Fin.satC_br, Fin.satC_need, Fin.satC_again, AllP, and_true, true_and, upd, List.length_nil, List.length_cons, Nat.zero_add, if_true, ncast, Int.ofNat_eq_natCast]
      obtain ⟨⟨n, L, s3⟩, g1, g2, g3, g4⟩ := i
      simp only at g1 g2 g3 g4 ⊢
      simp only [hetaA hH, heta hH, hlen hH]
      refine ⟨fun h1 => ?_, fun h1 => ?_⟩
      · simp only [hH, stdH, Nat.le_refl, decide_eq_true_eq, decide_eq_false_iff_not, Bool.not_eq_true', Bool.not_eq_false', peta, ncast, Int.ofNat_eq_natCast, beq_iff_eq, bne_iff_ne, beq_eq_false_iff_ne, bne_eq_false_iff_eq, ne_eq, Classical.not_not, Int.toNat_natCast, vrow_I, Arm.eta2, Fld.eta, Grp.eta] at h1
        obtain ⟨m, rfl⟩ : ∃ m, n = m + 1 := ⟨n - 1, by omega⟩
        have e5 : IntKind.i64.wrap (((m + 1 : Nat) : Int) - 1) = (m : Int) := by rw [wi] <;> omega
        have a3 := (p_like c (F_arms c st).1 s3 (g3.mono (by omega))).1
        have b3 : Bd (40 * m + 98) (F_like c (F_arms c st).1 s3).2 := a3.bd g3 (by omega)
        refine ⟨?_, ?_, ?_⟩
        · try simp only [hH, stdH, Nat.le_refl, decide_eq_true_eq, decide_eq_false_iff_not, Bool.not_eq_true', Bool.not_eq_false', peta, ncast, Int.ofNat_eq_natCast, beq_iff_eq, bne_iff_ne, beq_eq_false_iff_ne, bne_eq_false_iff_eq, ne_eq, Classical.not_not, Int.toNat_natCast, vrow_I, Arm.eta2, Fld.eta, Grp.eta]
          exact g3.mono (by omega)
        · try simp only [hH, stdH, Nat.le_refl, decide_eq_true_eq, decide_eq_false_iff_not, Bool.not_eq_true', Bool.not_eq_false', peta, ncast, Int.ofNat_eq_natCast, beq_iff_eq, bne_iff_ne, beq_eq_false_iff_ne, bne_eq_false_iff_eq, ne_eq, Classical.not_not, Int.toNat_natCast, vrow_I, Arm.eta2, Fld.eta, Grp.eta]
          exact ⟨trivial, by omega, by omega⟩
        · refine ⟨⟨(m, L ++ [(F_like c (F_arms c st).1 s3).1], (F_like c (F_arms c st).1 s3).2), by omega, by simp only [List.length_append, List.length_singleton]; omega, b3, g4⟩, by simp only; omega, ?_⟩
          rw [hI]
          (conv in matchSt _ _ _ _ => cbv); simp only [AllG, AllP, and_true, hH, stdH, Nat.le_refl, ncast, Int.ofNat_eq_natCast, vrow_I, Arm.eta2, Fld.eta, Grp.eta]
          rw [e5]
          (repeat' (first | with_reducible exact True.intro | exact c.rqN | exact rows_snocA rfl | exact RowsEq.self okRA | exact List.length_append | rfl | refine And.intro ?_ ?_ | trivial))
      · simp only [hH, stdH, Nat.le_refl, decide_eq_true_eq, decide_eq_false_iff_not, Bool.not_eq_true', Bool.not_eq_false', peta, ncast, Int.ofNat_eq_natCast, beq_iff_eq, bne_iff_ne, beq_eq_false_iff_ne, bne_eq_false_iff_eq, ne_eq, Classical.not_not, Int.toNat_natCast, vrow_I, Arm.eta2, Fld.eta, Grp.eta] at h1
        obtain rfl : n = 0 := by omega
        have g6 : alB c (L, s3) = alA c st := g4
        have b3 : Bd 98 s3 := g3.mono (by omega)
        have a4 := (p_one c 16 s3 (b3.mono (by omega))).1
        have b4 : Bd 96 (F_one c 16 s3).2 := a4.bd b3 (by omega)
        obtain ⟨a5, m5, n5⟩ := p_pick c ((L.length : Nat) : Int) (F_one c 16 s3).2 (b4.mono (by omega))
        have b5 : Bd 94 (F_pick c ((L.length : Nat) : Int) (F_one c 16 s3).2).2 := a5.bd b4 (by omega)
        have a6 := (p_anyArms c (F_pick c ((L.length : Nat) : Int) (F_one c 16 s3).2).2 (b5.mono (by omega))).1
        have b6 : Bd 40 (F_anyArms c (F_pick c ((L.length : Nat) : Int) (F_one c 16 s3).2).2).2 := a6.bd b5 (by omega)
        have hL6 : L.length ≤ 6 := by omega
        have b40 : Bd 40 (F_one c 16 s3).2 := b4.mono (by omega)
        have b3' : Bd 40 s3 := b3.mono (by omega)
        refine ⟨fun h2 => ⟨?_, fun h3 => ⟨?_, ?_, ?_, ?_, ?_, fun h4 => ?_, fun h4 => ?_⟩, fun h3 => ⟨?_, fun h4 => ?_, fun h4 => ?_⟩⟩, fun h2 => ⟨?_, fun h3 => ?_, fun _ => ⟨?_, fun h4 => ?_, fun h4 => ?_⟩⟩⟩
        · try simp only [hH, stdH, Nat.le_refl, decide_eq_true_eq, decide_eq_false_iff_not, Bool.not_eq_true', Bool.not_eq_false', peta, ncast, Int.ofNat_eq_natCast, beq_iff_eq, bne_iff_ne, beq_eq_false_iff_ne, bne_eq_false_iff_eq, ne_eq, Classical.not_not, Int.toNat_natCast, vrow_I, Arm.eta2, Fld.eta, Grp.eta]
          exact b3.mono
        · try simp only [hH, stdH, Nat.le_refl, decide_eq_true_eq, decide_eq_false_iff_not, Bool.not_eq_true', Bool.not_eq_false', peta, ncast, Int.ofNat_eq_natCast, beq_iff_eq, bne_iff_ne, beq_eq_false_iff_ne, bne_eq_false_iff_eq, ne_eq, Classical.not_not, Int.toNat_natCast, vrow_I, Arm.eta2, Fld.eta, Grp.eta]
          exact b4.mono
        · try simp only [hH, stdH, Nat.le_refl, decide_eq_true_eq, decide_eq_false_iff_not, Bool.not_eq_true', Bool.not_eq_false', peta, ncast, Int.ofNat_eq_natCast, beq_iff_eq, bne_iff_ne, beq_eq_false_iff_ne, bne_eq_false_iff_eq, ne_eq, Classical.not_not, Int.toNat_natCast, vrow_I, Arm.eta2, Fld.eta, Grp.eta]
          exact b5.mono
        · simp only [hH, stdH, Nat.le_refl, decide_eq_true_eq, decide_eq_false_iff_not, Bool.not_eq_true', Bool.not_eq_false', peta, ncast, Int.ofNat_eq_natCast, beq_iff_eq, bne_iff_ne, beq_eq_false_iff_ne, bne_eq_false_iff_eq, ne_eq, Classical.not_not, Int.toNat_natCast, vrow_I, Arm.eta2, Fld.eta, Grp.eta] at h2 ⊢
          omega
        · simp only [hH, stdH, Nat.le_refl, decide_eq_true_eq, decide_eq_false_iff_not, Bool.not_eq_true', Bool.not_eq_false', peta, ncast, Int.ofNat_eq_natCast, beq_iff_eq, bne_iff_ne, beq_eq_false_iff_ne, bne_eq_false_iff_eq, ne_eq, Classical.not_not, Int.toNat_natCast, vrow_I, Arm.eta2, Fld.eta, Grp.eta] at h2 ⊢
          exact ⟨by omega, rfl⟩
        · try simp only [hH, stdH, Nat.le_refl, decide_eq_true_eq, decide_eq_false_iff_not, Bool.not_eq_true', Bool.not_eq_false', peta, ncast, Int.ofNat_eq_natCast, beq_iff_eq, bne_iff_ne, beq_eq_false_iff_ne, bne_eq_false_iff_eq, ne_eq, Classical.not_not, Int.toNat_natCast, vrow_I, Arm.eta2, Fld.eta, Grp.eta]
          exact b6.mono
        · have ea : alA c st = (L.set (F_pick c ((L.length : Nat) : Int) (F_one c 16 s3).2).1.toNat (F_anyArms c (F_pick c ((L.length : Nat) : Int) (F_one c 16 s3).2).2).1, (F_anyArms c (F_pick c ((L.length : Nat) : Int) (F_one c 16 s3).2).2).2) := by
            simp only [hH, stdH, Nat.le_refl, decide_eq_true_eq, decide_eq_false_iff_not, Bool.not_eq_true', Bool.not_eq_false', peta, ncast, Int.ofNat_eq_natCast, beq_iff_eq, bne_iff_ne, beq_eq_false_iff_ne, bne_eq_false_iff_eq, ne_eq, Classical.not_not, Int.toNat_natCast, vrow_I, Arm.eta2, Fld.eta, Grp.eta] at h2 h3
            simp only [cond_true] at h3
            rw [← g6]; unfold alB; rw [if_pos (show 0 < L.length by omega), if_pos h3]
          have hl : (L.set (F_pick c ((L.length : Nat) : Int) (F_one c 16 s3).2).1.toNat (F_anyArms c (F_pick c ((L.length : Nat) : Int) (F_one c 16 s3).2).2).1).length ≤ 6 := by rw [List.length_set]; omega
          simp only [hH, stdH, Nat.le_refl, decide_eq_true_eq, decide_eq_false_iff_not, Bool.not_eq_true', Bool.not_eq_false', peta, ncast, Int.ofNat_eq_natCast, beq_iff_eq, bne_iff_ne, beq_eq_false_iff_ne, bne_eq_false_iff_eq, ne_eq, Classical.not_not, Int.toNat_natCast, vrow_I, Arm.eta2, Fld.eta, Grp.eta] at h4
          have eY2 : alY c st = alM c 18 0 (L.set (F_pick c ((L.length : Nat) : Int) (F_one c 16 s3).2).1.toNat (F_anyArms c (F_pick c ((L.length : Nat) : Int) (F_one c 16 s3).2).2).1) (F_one c 24 (F_anyArms c (F_pick c ((L.length : Nat) : Int) (F_one c 16 s3).2).2).2).2 := by rw [eY, ea]; exact if_pos h4
          have a9 := (p_one c 24 (F_anyArms c (F_pick c ((L.length : Nat) : Int) (F_one c 16 s3).2).2).2 (Bd.mono b6 (by omega))).1
          have g5 : (0 : Nat) ≤ 18 ∧ ((L.set (F_pick c ((L.length : Nat) : Int) (F_one c 16 s3).2).1.toNat (F_anyArms c (F_pick c ((L.length : Nat) : Int) (F_one c 16 s3).2).2).1)).length ≤ 6 + 0 ∧ Bd (2 * (18 - 0) + 2) (F_one c 24 (F_anyArms c (F_pick c ((L.length : Nat) : Int) (F_one c 16 s3).2).2).2).2 ∧ alM c (18 - 0) 0 (L.set (F_pick c ((L.length : Nat) : Int) (F_one c 16 s3).2).1.toNat (F_anyArms c (F_pick c ((L.length : Nat) : Int) (F_one c 16 s3).2).2).1) (F_one c 24 (F_anyArms c (F_pick c ((L.length : Nat) : Int) (F_one c 16 s3).2).2).2).2 = alY c st := ⟨by omega, by have := hl; omega, a9.bd b6 (by omega), eY2.symm⟩
          refine loop_a hB (draw_ok hB mixed) hX hX0 hH false (ι := { p : Nat × List Arm × DS // p.1 ≤ 18 ∧ p.2.1.length ≤ 6 + p.1 ∧ Bd (2 * (18 - p.1) + 2) p.2.2 ∧ alM c (18 - p.1) p.1 p.2.1 p.2.2 = alY c st }) 400 (fun i => [.r (H Nat fun _ => (i.1.2.1).length) (rowsA H fun _ => i.1.2.1), .i (H Int fun _ => (i.1.1 : Nat)), .i (H Int fun _ => i.1.2.2.1), .i (H Int fun _ => i.1.2.2.2)]) (fun i => 18 - i.1.1) (⟨(0, (L.set (F_pick c ((L.length : Nat) : Int) (F_one c 16 s3).2).1.toNat (F_anyArms c (F_pick c ((L.length : Nat) : Int) (F_one c 16 s3).2).2).1), (F_one c 24 (F_anyArms c (F_pick c ((L.length : Nat) : Int) (F_one c 16 s3).2).2).2).2), g5⟩) ?_ ?_
          · (conv in matchSt _ _ _ _ => cbv); simp only [AllG, AllP, and_true, hH, stdH, Nat.le_refl, ncast, Int.ofNat_eq_natCast, vrow_I, Arm.eta2, Fld.eta, Grp.eta]
            (repeat' (first | with_reducible exact True.intro | exact c.rqN | exact RowsEq.self okRA | exact RowsEq.put okRA rfl | exact List.length_set | rfl | refine And.intro ?_ ?_ | trivial))
          · intro I2 hI2 i
            conv in Fin.chk _ _ => cbv
            try simp only [Plain_rowsA, Plain_rowsB, Plain_rowsF, Plain_rowsG, Plain_rowsI, Plain_rowsS, Plain_rowsU, Fin.satC_ret, Fin.satC_br, Fin.satC_need, Fin.satC_again, AllP, and_true, true_and, upd, List.length_nil, List.length_cons, Nat.zero_add, if_true, ncast, Int.ofNat_eq_natCast]
            obtain ⟨⟨n, L, s4⟩, g1, g2, g3, g4⟩ := i
            simp only at g1 g2 g3 g4 ⊢
            simp only [hetaA hH, heta hH]
            obtain ⟨a5, m5, n5⟩ := p_pick c 2 s4 (g3.mono (by omega))
            have w5 : IntKind.i64.wrap (16 + (F_pick c 2 s4).1) = 16 + (F_pick c 2 s4).1 := wi (by omega) (by omega)
            refine ⟨?_, fun h5 => ⟨?_, ?_, ?_⟩, fun h5 => ?_⟩
            · try simp only [hH, stdH, Nat.le_refl, decide_eq_true_eq, decide_eq_false_iff_not, Bool.not_eq_true', Bool.not_eq_false', peta, ncast, Int.ofNat_eq_natCast, beq_iff_eq, bne_iff_ne, beq_eq_false_iff_ne, bne_eq_false_iff_eq, ne_eq, Classical.not_not, Int.toNat_natCast, vrow_I, Arm.eta2, Fld.eta, Grp.eta]
              exact g3.mono (by omega)
            · try simp only [hH, stdH, Nat.le_refl, decide_eq_true_eq, decide_eq_false_iff_not, Bool.not_eq_true', Bool.not_eq_false', peta, ncast, Int.ofNat_eq_natCast, beq_iff_eq, bne_iff_ne, beq_eq_false_iff_ne, bne_eq_false_iff_eq, ne_eq, Classical.not_not, Int.toNat_natCast, vrow_I, Arm.eta2, Fld.eta, Grp.eta]
              try omega
            · try simp only [hH, stdH, Nat.le_refl, decide_eq_true_eq, decide_eq_false_iff_not, Bool.not_eq_true', Bool.not_eq_false', peta, ncast, Int.ofNat_eq_natCast, beq_iff_eq, bne_iff_ne, beq_eq_false_iff_ne, bne_eq_false_iff_eq, ne_eq, Classical.not_not, Int.toNat_natCast, vrow_I, Arm.eta2, Fld.eta, Grp.eta]
              exact ⟨trivial, by omega, by omega⟩
            · simp only [hH, stdH, Int.toNat_natCast] at h5
              rw [w5] at h5
              obtain ⟨h6, h7⟩ := and_c2 h5
              obtain ⟨f, hf⟩ : ∃ f, 18 - n = f + 1 := ⟨18 - n - 1, by omega⟩
              have hf2 : 18 - (n + 1) = f := by omega
              have g5 : alM c (18 - (n + 1)) (n + 1) (L ++ [alF (n : Nat)]) (F_pick c 2 s4).2 = alY c st := by
                rw [← g4, hf, hf2]
                exact (if_pos h6).symm
              refine ⟨⟨(n + 1, L ++ [alF (n : Nat)], (F_pick c 2 s4).2), by simp only; omega, by simp only [List.length_append, List.length_singleton]; omega, a5.bd g3 (by simp only; omega), g5⟩, by simp only; omega, ?_⟩
              rw [hI2]
              (conv in matchSt _ _ _ _ => cbv); simp only [AllG, AllP, and_true, hH, stdH, Nat.le_refl, ncast, Int.ofNat_eq_natCast, vrow_I, Arm.eta2, Fld.eta, Grp.eta]
              rw [w1 (by omega)]
              (repeat' (first | with_reducible exact True.intro | exact c.rqN | exact rows_snocA rfl | exact List.length_append | rfl | refine And.intro ?_ ?_ | trivial))
            · simp only [hH, stdH, Int.toNat_natCast] at h5
              rw [w5] at h5
              have g5 : (L, (F_pick c 2 s4).2) = alY c st := by
                rw [← g4]
                rcases and_n2 h5 with h6 | h6
                · cases 18 - n with
                  | zero => rfl
                  | succ f => unfold alM; rw [if_neg h6]
                · rw [show 18 - n = 0 by omega]; rfl
              rw [← g5]
              try simp only [hH, stdH, Nat.le_refl, decide_eq_true_eq, decide_eq_false_iff_not, Bool.not_eq_true', Bool.not_eq_false', peta, ncast, Int.ofNat_eq_natCast, beq_iff_eq, bne_iff_ne, beq_eq_false_iff_ne, bne_eq_false_iff_eq, ne_eq, Classical.not_not, Int.toNat_natCast, vrow_I, Arm.eta2, Fld.eta, Grp.eta]
              exact ⟨trivial, trivial, c.rqN, RowsEq.self okRA, trivial⟩
        · have ea : alA c st = (L.set (F_pick c ((L.length : Nat) : Int) (F_one c 16 s3).2).1.toNat (F_anyArms c (F_pick c ((L.length : Nat) : Int) (F_one c 16 s3).2).2).1, (F_anyArms c (F_pick c ((L.length : Nat) : Int) (F_one c 16 s3).2).2).2) := by
            simp only [hH, stdH, Nat.le_refl, decide_eq_true_eq, decide_eq_false_iff_not, Bool.not_eq_true', Bool.not_eq_false', peta, ncast, Int.ofNat_eq_natCast, beq_iff_eq, bne_iff_ne, beq_eq_false_iff_ne, bne_eq_false_iff_eq, ne_eq, Classical.not_not, Int.toNat_natCast, vrow_I, Arm.eta2, Fld.eta, Grp.eta] at h2 h3
            simp only [cond_true] at h3
            rw [← g6]; unfold alB; rw [if_pos (show 0 < L.length by omega), if_pos h3]
          simp only [hH, stdH, Nat.le_refl, decide_eq_true_eq, decide_eq_false_iff_not, Bool.not_eq_true', Bool.not_eq_false', peta, ncast, Int.ofNat_eq_natCast, beq_iff_eq, bne_iff_ne, beq_eq_false_iff_ne, bne_eq_false_iff_eq, ne_eq, Classical.not_not, Int.toNat_natCast, vrow_I, Arm.eta2, Fld.eta, Grp.eta] at h4
          have eY2 : alY c st = ((L.set (F_pick c ((L.length : Nat) : Int) (F_one c 16 s3).2).1.toNat (F_anyArms c (F_pick c ((L.length : Nat) : Int) (F_one c 16 s3).2).2).1), (F_one c 24 (F_anyArms c (F_pick c ((L.length : Nat) : Int) (F_one c 16 s3).2).2).2).2) := by rw [eY, ea]; exact if_neg (by rw [h4]; decide)
          rw [eY2]
          try simp only [hH, stdH, Nat.le_refl, decide_eq_true_eq, decide_eq_false_iff_not, Bool.not_eq_true', Bool.not_eq_false', peta, ncast, Int.ofNat_eq_natCast, beq_iff_eq, bne_iff_ne, beq_eq_false_iff_ne, bne_eq_false_iff_eq, ne_eq, Classical.not_not, Int.toNat_natCast, vrow_I, Arm.eta2, Fld.eta, Grp.eta]
          (repeat' (first | with_reducible exact True.intro | exact c.rqN | exact RowsEq.self okRA | exact RowsEq.put okRA rfl | exact List.length_set | rfl | refine And.intro ?_ ?_ | trivial))
        · try simp only [hH, stdH, Nat.le_refl, decide_eq_true_eq, decide_eq_false_iff_not, Bool.not_eq_true', Bool.not_eq_false', peta, ncast, Int.ofNat_eq_natCast, beq_iff_eq, bne_iff_ne, beq_eq_false_iff_ne, bne_eq_false_iff_eq, ne_eq, Classical.not_not, Int.toNat_natCast, vrow_I, Arm.eta2, Fld.eta, Grp.eta]
          exact b4.mono
        · have ea : alA c st = (L, (F_one c 16 s3).2) := by
            simp only [hH, stdH, Nat.le_refl, decide_eq_true_eq, decide_eq_false_iff_not, Bool.not_eq_true', Bool.not_eq_false', peta, ncast, Int.ofNat_eq_natCast, beq_iff_eq, bne_iff_ne, beq_eq_false_iff_ne, bne_eq_false_iff_eq, ne_eq, Classical.not_not, Int.toNat_natCast, vrow_I, Arm.eta2, Fld.eta, Grp.eta] at h2 h3
            simp only [cond_true] at h3
            rw [← g6]; unfold alB; rw [if_pos (show 0 < L.length by omega), if_neg (by rw [h3]; decide)]
          simp only [hH, stdH, Nat.le_refl, decide_eq_true_eq, decide_eq_false_iff_not, Bool.not_eq_true', Bool.not_eq_false', peta, ncast, Int.ofNat_eq_natCast, beq_iff_eq, bne_iff_ne, beq_eq_false_iff_ne, bne_eq_false_iff_eq, ne_eq, Classical.not_not, Int.toNat_natCast, vrow_I, Arm.eta2, Fld.eta, Grp.eta] at h4
          have eY2 : alY c st = alM c 18 0 L (F_one c 24 (F_one c 16 s3).2).2 := by rw [eY, ea]; exact if_pos h4
          have a9 := (p_one c 24 (F_one c 16 s3).2 (Bd.mono b40 (by omega))).1
          have g5 : (0 : Nat) ≤ 18 ∧ (L).length ≤ 6 + 0 ∧ Bd (2 * (18 - 0) + 2) (F_one c 24 (F_one c 16 s3).2).2 ∧ alM c (18 - 0) 0 L (F_one c 24 (F_one c 16 s3).2).2 = alY c st := ⟨by omega, by have := hL6; omega, a9.bd b40 (by omega), eY2.symm⟩
          refine loop_a hB (draw_ok hB mixed) hX hX0 hH false (ι := { p : Nat × List Arm × DS // p.1 ≤ 18 ∧ p.2.1.length ≤ 6 + p.1 ∧ Bd (2 * (18 - p.1) + 2) p.2.2 ∧ alM c (18 - p.1) p.1 p.2.1 p.2.2 = alY c st }) 400 (fun i => [.r (H Nat fun _ => (i.1.2.1).length) (rowsA H fun _ => i.1.2.1), .i (H Int fun _ => (i.1.1 : Nat)), .i (H Int fun _ => i.1.2.2.1), .i (H Int fun _ => i.1.2.2.2)]) (fun i => 18 - i.1.1) (⟨(0, L, (F_one c 24 (F_one c 16 s3).2).2), g5⟩) ?_ ?_
          · (conv in matchSt _ _ _ _ => cbv); simp only [AllG, AllP, and_true, hH, stdH, Nat.le_refl, ncast, Int.ofNat_eq_natCast, vrow_I, Arm.eta2, Fld.eta, Grp.eta]
            (repeat' (first | with_reducible exact True.intro | exact c.rqN | exact RowsEq.self okRA | exact RowsEq.put okRA rfl | exact List.length_set | rfl | refine And.intro ?_ ?_ | trivial))
          · intro I2 hI2 i
            conv in Fin.chk _ _ => cbv
            try simp only [Plain_rowsA, Plain_rowsB, Plain_rowsF, Plain_rowsG, Plain_rowsI, Plain_rowsS, Plain_rowsU, Fin.satC_ret, Fin.satC_br, Fin.satC_need, Fin.satC_again, AllP, and_true, true_and, upd, List.length_nil, List.length_cons, Nat.zero_add, if_true, ncast, Int.ofNat_eq_natCast]
            obtain ⟨⟨n, L, s4⟩, g1, g2, g3, g4⟩ := i
            simp only at g1 g2 g3 g4 ⊢
            simp only [hetaA hH, heta hH]
            obtain ⟨a5, m5, n5⟩ := p_pick c 2 s4 (g3.mono (by omega))
            have w5 : IntKind.i64.wrap (16 + (F_pick c 2 s4).1) = 16 + (F_pick c 2 s4).1 := wi (by omega) (by omega)
            refine ⟨?_, fun h5 => ⟨?_, ?_, ?_⟩, fun h5 => ?_⟩
            · try simp only [hH, stdH, Nat.le_refl, decide_eq_true_eq, decide_eq_false_iff_not, Bool.not_eq_true', Bool.not_eq_false', peta, ncast, Int.ofNat_eq_natCast, beq_iff_eq, bne_iff_ne, beq_eq_false_iff_ne, bne_eq_false_iff_eq, ne_eq, Classical.not_not, Int.toNat_natCast, vrow_I, Arm.eta2, Fld.eta, Grp.eta]
              exact g3.mono (by omega)
            · try simp only [hH, stdH, Nat.le_refl, decide_eq_true_eq, decide_eq_false_iff_not, Bool.not_eq_true', Bool.not_eq_false', peta, ncast, Int.ofNat_eq_natCast, beq_iff_eq, bne_iff_ne, beq_eq_false_iff_ne, bne_eq_false_iff_eq, ne_eq, Classical.not_not, Int.toNat_natCast, vrow_I, Arm.eta2, Fld.eta, Grp.eta]
              try omega
            · try simp only [hH, stdH, Nat.le_refl, decide_eq_true_eq, decide_eq_false_iff_not, Bool.not_eq_true', Bool.not_eq_false', peta, ncast, Int.ofNat_eq_natCast, beq_iff_eq, bne_iff_ne, beq_eq_false_iff_ne, bne_eq_false_iff_eq, ne_eq, Classical.not_not, Int.toNat_natCast, vrow_I, Arm.eta2, Fld.eta, Grp.eta]
              exact ⟨trivial, by omega, by omega⟩
            · simp only [hH, stdH, Int.toNat_natCast] at h5
              rw [w5] at h5
              obtain ⟨h6, h7⟩ := and_c2 h5
              obtain ⟨f, hf⟩ : ∃ f, 18 - n = f + 1 := ⟨18 - n - 1, by omega⟩
              have hf2 : 18 - (n + 1) = f := by omega
              have g5 : alM c (18 - (n + 1)) (n + 1) (L ++ [alF (n : Nat)]) (F_pick c 2 s4).2 = alY c st := by
                rw [← g4, hf, hf2]
                exact (if_pos h6).symm
              refine ⟨⟨(n + 1, L ++ [alF (n : Nat)], (F_pick c 2 s4).2), by simp only; omega, by simp only [List.length_append, List.length_singleton]; omega, a5.bd g3 (by simp only; omega), g5⟩, by simp only; omega, ?_⟩
              rw [hI2]
              (conv in matchSt _ _ _ _ => cbv); simp only [AllG, AllP, and_true, hH, stdH, Nat.le_refl, ncast, Int.ofNat_eq_natCast, vrow_I, Arm.eta2, Fld.eta, Grp.eta]
              rw [w1 (by omega)]
              (repeat' (first | with_reducible exact True.intro | exact c.rqN | exact rows_snocA rfl | exact List.length_append | rfl | refine And.intro ?_ ?_ | trivial))
            · simp only [hH, stdH, Int.toNat_natCast] at h5
              rw [w5] at h5
              have g5 : (L, (F_pick c 2 s4).2) = alY c st := by
                rw [← g4]
                rcases and_n2 h5 with h6 | h6
                · cases 18 - n with
                  | zero => rfl
                  | succ f => unfold alM; rw [if_neg h6]
                · rw [show 18 - n = 0 by omega]; rfl
              rw [← g5]
              try simp only [hH, stdH, Nat.le_refl, decide_eq_true_eq, decide_eq_false_iff_not, Bool.not_eq_true', Bool.not_eq_false', peta, ncast, Int.ofNat_eq_natCast, beq_iff_eq, bne_iff_ne, beq_eq_false_iff_ne, bne_eq_false_iff_eq, ne_eq, Classical.not_not, Int.toNat_natCast, vrow_I, Arm.eta2, Fld.eta, Grp.eta]
              exact ⟨trivial, trivial, c.rqN, RowsEq.self okRA, trivial⟩
        · have ea : alA c st = (L, (F_one c 16 s3).2) := by
            simp only [hH, stdH, Nat.le_refl, decide_eq_true_eq, decide_eq_false_iff_not, Bool.not_eq_true', Bool.not_eq_false', peta, ncast, Int.ofNat_eq_natCast, beq_iff_eq, bne_iff_ne, beq_eq_false_iff_ne, bne_eq_false_iff_eq, ne_eq, Classical.not_not, Int.toNat_natCast, vrow_I, Arm.eta2, Fld.eta, Grp.eta] at h2 h3
            simp only [cond_true] at h3
            rw [← g6]; unfold alB; rw [if_pos (show 0 < L.length by omega), if_neg (by rw [h3]; decide)]
          simp only [hH, stdH, Nat.le_refl, decide_eq_true_eq, decide_eq_false_iff_not, Bool.not_eq_true', Bool.not_eq_false', peta, ncast, Int.ofNat_eq_natCast, beq_iff_eq, bne_iff_ne, beq_eq_false_iff_ne, bne_eq_false_iff_eq, ne_eq, Classical.not_not, Int.toNat_natCast, vrow_I, Arm.eta2, Fld.eta, Grp.eta] at h4
          have eY2 : alY c st = (L, (F_one c 24 (F_one c 16 s3).2).2) := by rw [eY, ea]; exact if_neg (by rw [h4]; decide)
          rw [eY2]
          try simp only [hH, stdH, Nat.le_refl, decide_eq_true_eq, decide_eq_false_iff_not, Bool.not_eq_true', Bool.not_eq_false', peta, ncast, Int.ofNat_eq_natCast, beq_iff_eq, bne_iff_ne, beq_eq_false_iff_ne, bne_eq_false_iff_eq, ne_eq, Classical.not_not, Int.toNat_natCast, vrow_I, Arm.eta2, Fld.eta, Grp.eta]
          (repeat' (first | with_reducible exact True.intro | exact c.rqN | exact RowsEq.self okRA | exact RowsEq.put okRA rfl | exact List.length_set | rfl | refine And.intro ?_ ?_ | trivial))
        · try simp only [hH, stdH, Nat.le_refl, decide_eq_true_eq, decide_eq_false_iff_not, Bool.not_eq_true', Bool.not_eq_false', peta, ncast, Int.ofNat_eq_natCast, beq_iff_eq, bne_iff_ne, beq_eq_false_iff_ne, bne_eq_false_iff_eq, ne_eq, Classical.not_not, Int.toNat_natCast, vrow_I, Arm.eta2, Fld.eta, Grp.eta]
        · exfalso
          simp [hH] at h3
        · try simp only [hH, stdH, Nat.le_refl, decide_eq_true_eq, decide_eq_false_iff_not, Bool.not_eq_true', Bool.not_eq_false', peta, ncast, Int.ofNat_eq_natCast, beq_iff_eq, bne_iff_ne, beq_eq_false_iff_ne, bne_eq_false_iff_eq, ne_eq, Classical.not_not, Int.toNat_natCast, vrow_I, Arm.eta2, Fld.eta, Grp.eta]
          exact b3.mono
        · have ea : alA c st = (L, s3) := by
            simp only [hH, stdH, Nat.le_refl, decide_eq_true_eq, decide_eq_false_iff_not, Bool.not_eq_true', Bool.not_eq_false', peta, ncast, Int.ofNat_eq_natCast, beq_iff_eq, bne_iff_ne, beq_eq_false_iff_ne, bne_eq_false_iff_eq, ne_eq, Classical.not_not, Int.toNat_natCast, vrow_I, Arm.eta2, Fld.eta, Grp.eta] at h2
            rw [← g6]; unfold alB; rw [if_neg (show ¬ 0 < L.length by omega)]
          simp only [hH, stdH, Nat.le_refl, decide_eq_true_eq, decide_eq_false_iff_not, Bool.not_eq_true', Bool.not_eq_false', peta, ncast, Int.ofNat_eq_natCast, beq_iff_eq, bne_iff_ne, beq_eq_false_iff_ne, bne_eq_false_iff_eq, ne_eq, Classical.not_not, Int.toNat_natCast, vrow_I, Arm.eta2, Fld.eta, Grp.eta] at h4
          have eY2 : alY c st = alM c 18 0 L (F_one c 24 s3).2 := by rw [eY, ea]; exact if_pos h4
          have a9 := (p_one c 24 s3 (Bd.mono b3' (by omega))).1
          have g5 : (0 : Nat) ≤ 18 ∧ (L).length ≤ 6 + 0 ∧ Bd (2 * (18 - 0) + 2) (F_one c 24 s3).2 ∧ alM c (18 - 0) 0 L (F_one c 24 s3).2 = alY c st := ⟨by omega, by have := hL6; omega, a9.bd b3' (by omega), eY2.symm⟩
          refine loop_a hB (draw_ok hB mixed) hX hX0 hH false (ι := { p : Nat × List Arm × DS // p.1 ≤ 18 ∧ p.2.1.length ≤ 6 + p.1 ∧ Bd (2 * (18 - p.1) + 2) p.2.2 ∧ alM c (18 - p.1) p.1 p.2.1 p.2.2 = alY c st }) 400 (fun i => [.r (H Nat fun _ => (i.1.2.1).length) (rowsA H fun _ => i.1.2.1), .i (H Int fun _ => (i.1.1 : Nat)), .i (H Int fun _ => i.1.2.2.1), .i (H Int fun _ => i.1.2.2.2)]) (fun i => 18 - i.1.1) (⟨(0, L, (F_one c 24 s3).2), g5⟩) ?_ ?_
          · (conv in matchSt _ _ _ _ => cbv); simp only [AllG, AllP, and_true, hH, stdH, Nat.le_refl, ncast, Int.ofNat_eq_natCast, vrow_I, Arm.eta2, Fld.eta, Grp.eta]
            (repeat' (first | with_reducible exact True.intro | exact c.rqN | exact RowsEq.self okRA | exact RowsEq.put okRA rfl | exact List.length_set | rfl | refine And.intro ?_ ?_ | trivial))
          · intro I2 hI2 i
            conv in Fin.chk _ _ => cbv
            try simp only [Plain_rowsA, Plain_rowsB, Plain_rowsF, Plain_rowsG, Plain_rowsI, Plain_rowsS, Plain_rowsU, Fin.satC_ret, Fin.satC_br, Fin.satC_need, Fin.satC_again, AllP, and_true, true_and, upd, List.length_nil, List.length_cons, Nat.zero_add, if_true, ncast, Int.ofNat_eq_natCast]
            obtain ⟨⟨n, L, s4⟩, g1, g2, g3, g4⟩ := i
            simp only at g1 g2 g3 g4 ⊢
            simp only [hetaA hH, heta hH]
            obtain ⟨a5, m5, n5⟩ := p_pick c 2 s4 (g3.mono (by omega))
            have w5 : IntKind.i64.wrap (16 + (F_pick c 2 s4).1) = 16 + (F_pick c 2 s4).1 := wi (by omega) (by omega)
            refine ⟨?_, fun h5 => ⟨?_, ?_, ?_⟩, fun h5 => ?_⟩
            · try simp only [hH, stdH, Nat.le_refl, decide_eq_true_eq, decide_eq_false_iff_not, Bool.not_eq_true', Bool.not_eq_false', peta, ncast, Int.ofNat_eq_natCast, beq_iff_eq, bne_iff_ne, beq_eq_false_iff_ne, bne_eq_false_iff_eq, ne_eq, Classical.not_not, Int.toNat_natCast, vrow_I, Arm.eta2, Fld.eta, Grp.eta]
              exact g3.mono (by omega)
            · try simp only [hH, stdH, Nat.le_refl, decide_eq_true_eq, decide_eq_false_iff_not, Bool.not_eq_true', Bool.not_eq_false', peta, ncast, Int.ofNat_eq_natCast, beq_iff_eq, bne_iff_ne, beq_eq_false_iff_ne, bne_eq_false_iff_eq, ne_eq, Classical.not_not, Int.toNat_natCast, vrow_I, Arm.eta2, Fld.eta, Grp.eta]
              try omega
            · try simp only [hH, stdH, Nat.le_refl, decide_eq_true_eq, decide_eq_false_iff_not, Bool.not_eq_true', Bool.not_eq_false', peta, ncast, Int.ofNat_eq_natCast, beq_iff_eq, bne_iff_ne, beq_eq_false_iff_ne, bne_eq_false_iff_eq, ne_eq, Classical.not_not, Int.toNat_natCast, vrow_I, Arm.eta2, Fld.eta, Grp.eta]
              exact ⟨trivial, by omega, by omega⟩
            · simp only [hH, stdH, Int.toNat_natCast] at h5
              rw [w5] at h5
              obtain ⟨h6, h7⟩ := and_c2 h5
              obtain ⟨f, hf⟩ : ∃ f, 18 - n = f + 1 := ⟨18 - n - 1, by omega⟩
              have hf2 : 18 - (n + 1) = f := by omega
              have g5 : alM c (18 - (n + 1)) (n + 1) (L ++ [alF (n : Nat)]) (F_pick c 2 s4).2 = alY c st := by
                rw [← g4, hf, hf2]
                exact (if_pos h6).symm
              refine ⟨⟨(n + 1, L ++ [alF (n : Nat)], (F_pick c 2 s4).2), by simp only; omega, by simp only [List.length_append, List.length_singleton]; omega, a5.bd g3 (by simp only; omega), g5⟩, by simp only; omega, ?_⟩
              rw [hI2]
              (conv in matchSt _ _ _ _ => cbv); simp only [AllG, AllP, and_true, hH, stdH, Nat.le_refl, ncast, Int.ofNat_eq_natCast, vrow_I, Arm.eta2, Fld.eta, Grp.eta]
              rw [w1 (by omega)]
              (repeat' (first | with_reducible exact True.intro | exact c.rqN | exact rows_snocA rfl | exact List.length_append | rfl | refine And.intro ?_ ?_ | trivial))
            · simp only [hH, stdH, Int.toNat_natCast] at h5
              rw [w5] at h5
              have g5 : (L, (F_pick c 2 s4).2) = alY c st := by
                rw [← g4]
                rcases and_n2 h5 with h6 | h6
                · cases 18 - n with
                  | zero => rfl
                  | succ f => unfold alM; rw [if_neg h6]
                · rw [show 18 - n = 0 by omega]; rfl
              rw [← g5]
              try simp only [hH, stdH, Nat.le_refl, decide_eq_true_eq, decide_eq_false_iff_not, Bool.not_eq_true', Bool.not_eq_false', peta, ncast, Int.ofNat_eq_natCast, beq_iff_eq, bne_iff_ne, beq_eq_false_iff_ne, bne_eq_false_iff_eq, ne_eq, Classical.not_not, Int.toNat_natCast, vrow_I, Arm.eta2, Fld.eta, Grp.eta]
              exact ⟨trivial, trivial, c.rqN, RowsEq.self okRA, trivial⟩
        · have ea : alA c st = (L, s3) := by
            simp only [hH, stdH, Nat.le_refl, decide_eq_true_eq, decide_eq_false_iff_not, Bool.not_eq_true', Bool.not_eq_false', peta, ncast, Int.ofNat_eq_natCast, beq_iff_eq, bne_iff_ne, beq_eq_false_iff_ne, bne_eq_false_iff_eq, ne_eq, Classical.not_not, Int.toNat_natCast, vrow_I, Arm.eta2, Fld.eta, Grp.eta] at h2
            rw [← g6]; unfold alB; rw [if_neg (show ¬ 0 < L.length by omega)]
          simp only [hH, stdH, Nat.le_refl, decide_eq_true_eq, decide_eq_false_iff_not, Bool.not_eq_true', Bool.not_eq_false', peta, ncast, Int.ofNat_eq_natCast, beq_iff_eq, bne_iff_ne, beq_eq_false_iff_ne, bne_eq_false_iff_eq, ne_eq, Classical.not_not, Int.toNat_natCast, vrow_I, Arm.eta2, Fld.eta, Grp.eta] at h4
          have eY2 : alY c st = (L, (F_one c 24 s3).2) := by rw [eY, ea]; exact if_neg (by rw [h4]; decide)
          rw [eY2]
          try simp only [hH, stdH, Nat.le_refl, decide_eq_true_eq, decide_eq_false_iff_not, Bool.not_eq_true', Bool.not_eq_false', peta, ncast, Int.ofNat_eq_natCast, beq_iff_eq, bne_iff_ne, beq_eq_false_iff_ne, bne_eq_false_iff_eq, ne_eq, Classical.not_not, Int.toNat_natCast, vrow_I, Arm.eta2, Fld.eta, Grp.eta]
          (repeat' (first | with_reducible exact True.intro | exact c.rqN | exact RowsEq.self okRA | exact RowsEq.put okRA rfl | exact List.length_set | rfl | refine And.intro ?_ ?_ | trivial))
noncomputable def F_armsList (c : Cd)  (st : DS) : List Arm × DS := drwM Try.prog 55 24 378 r_armsList nb_armsList (fun y => y.length ≤ 24) c [] st
noncomputable def e_armsList (c : Cd) : Entry := curEN 55 24 378 c fun H st a nx => match a with
  | [] => some (r_armsList nx H (fun _ => (F_armsList c  st).1), nb_armsList H (fun _ => (F_armsList c  st).1), (fun _ => (F_armsList c  st).2), [])
  | _ => none
theorem eok_armsList (c : Cd) : EntryOk Try.prog (e_armsList c) := curEN_ok (by unfold isBody; kernel_rfl) (by
  intro st a nx r nb y ob e hb hob
  split at e
  · simp only [Option.some.injEq, Prod.mk.injEq] at e
    obtain ⟨rfl, rfl, rfl, rfl⟩ := e
    have hd := drwM_spec (x_armsList c  st hb )
    refine ⟨_, _, ConN.args (.cons .rfl .nil) hd.1, fun x hx => ?_, rfl, ?_, fun q b hq => ⟨b, hq, .same ?_⟩⟩
    · cases hx
    · (repeat' (first | exact .nil | exact .slc ⟨by omega, by simp [nb_armsList]⟩ (by omega) | exact .pl .lit | apply ReL.cons | apply Re.aggL | apply Re.tupL))
    · replace hq := List.mem_of_getElem? hq
      simp only [nb_armsList, List.mem_cons, List.not_mem_nil, or_false] at hq; subst hq; exact bT_bl okRA _ (fun _ => (F_armsList c  st).1) _
  · simp at e)
theorem p_armsList (c : Cd)  (st : DS) (h : Bd 378 st)  : Adv 378 st (F_armsList c  st).2 ∧ (fun y => y.length ≤ 24) (F_armsList c  st).1 := (drwM_spec (x_armsList c  st h )).2

end Go.Proofs.Ytigkdbhcjjjjkaa.AM

