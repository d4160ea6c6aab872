import Derived.Test.YthilcnfnbgbkdaaDoorAmT
import Derived.Test.YthilcnfnbgbkdaaDoorAmDl
import Derived.Test.YthilcnfnbgbkdaaDoorDrA
import Derived.Test.YthilcnfnbgbkdaaDoorQtr
import Derived.Test.YthilcnfnbgbkdaaDoorShd
set_option linter.unusedVariables false
set_option linter.unusedSimpArgs false
set_option maxRecDepth 100000
set_option maxHeartbeats 4000000
set_option cbv.maxSteps 3000000
namespace Go.Proofs.YthilcnfnbgbkdaaDoor.AM
/- Quarterings are drawn; conditions: none. -/
def addN (L : List Arm) (x : Arm) : List Arm := if L.any (fun y => decide (y = x)) = true then L else L ++ [x]
theorem addN_len (L : List Arm) (x : Arm) : L.length ≤ (addN L x).length ∧ (addN L x).length ≤ L.length + 1 := by
  unfold addN
  split
  · omega
  · simp
theorem addN_pos {L : List Arm} {x : Arm} : 1 ≤ (addN L x).length := by
  unfold addN
  split
  · rename_i h
    cases L with
    | nil => simp at h
    | cons _ _ => simp
  · simp
noncomputable def quG (c : Cd) : Nat → List Arm → DS → List Arm × DS
  | 0, L, st => (L, st)
  | n + 1, L, st => quG c n (addN L (F_arms c st).1) (F_arms c st).2
theorem quG_ok (c : Cd) : ∀ (n : Nat) (L : List Arm) (st : DS) (k : Nat), Bd (38 * n + k) st → Adv (38 * n) st (quG c n L st).2 ∧ L.length ≤ (quG c n L st).1.length ∧ (quG c n L st).1.length ≤ L.length + n ∧ (1 ≤ n → 1 ≤ (quG c n L st).1.length)
  | 0, L, st, k, _ => ⟨Adv.refl _ _, Nat.le_refl _, Nat.le_refl _, by omega⟩
  | n + 1, L, st, k, h => by
    have a1 := (p_arms c st (h.mono (by omega))).1
    obtain ⟨h1, h2, h3, _⟩ := quG_ok c n (addN L (F_arms c st).1) (F_arms c st).2 k (a1.bd h (by omega))
    have h4 := addN_len L (F_arms c st).1
    have h5 := addN_pos (L := L) (x := (F_arms c st).1)
    exact ⟨a1.trans h1 (by omega), Nat.le_trans h4.1 h2, Nat.le_trans h3 (by omega), fun _ => Nat.le_trans h5 h2⟩
noncomputable def quY (c : Cd) (st : DS) : List Arm × DS := quG c (1 + (F_pick c 5 st).1).toNat [] (F_pick c 5 st).2
theorem quY_ok (c : Cd) (st : DS) (h : Bd 192 st) : Adv 192 st (quY c st).2 ∧ (1 ≤ (quY c st).1.length ∧ (quY c st).1.length ≤ 5) := by
  obtain ⟨a1, m1, n1⟩ := p_pick c 5 st (h.mono (by omega))
  have b1 := a1.bd h (by omega : 2 + 190 ≤ 192)
  obtain ⟨a2, l1, l2, l3⟩ := quG_ok c (1 + (F_pick c 5 st).1).toNat [] (F_pick c 5 st).2 0 (b1.mono (by omega))
  simp only [List.length_nil] at l2
  exact ⟨a1.trans a2 (by omega), l3 (by omega), Nat.le_trans l2 (by omega)⟩
def r_quarterings (n : Nat) (H : Hold) (y : Unit → List Arm) : AV := .slc n 0 15 (H Nat fun _ => ((y ())).length)
def nb_quarterings (H : Hold) (y : Unit → List Arm) : List Blk := [.rows 15 (H Nat fun _ => ((y ())).length) (rowsA H fun _ => (y ())) 37]
theorem x_quarterings (c : Cd)  (st : DS) (h : Bd 192 st)  : ∃ y, DrwM Tryd.prog 50 25 192 r_quarterings nb_quarterings (fun y => 1 ≤ y.length ∧ y.length ≤ 5) c [] st y := by
  have hB : Base Tryd.prog (tabΓ [e_pick c, e_arms c, e_l21Find]) tabO := base_of tabOkO (ents_cons (eok_pick c) <| ents_cons (eok_arms c) <| ents_cons eok_l21Find <| ents_nil)
  refine drwM_okL (N := 25) hB (draw_ok hB mixed) Tryd.func25 rfl rfl 50 192 r_quarterings nb_quarterings (fun y => 1 ≤ y.length ∧ y.length ≤ 5) c (fun H => []) st 400 (by simp) (fun x hx => ?_) (quY c st) (quY_ok c st h) ?_
  · cases hx
  intro X hX hX0 H hH
  conv in Fin.chk _ _ => cbv
  try simp only [Plain_rowsA, Plain_rowsB, Plain_rowsF, Plain_rowsG, Plain_rowsI, Plain_rowsS, Plain_rowsU, Fin.satC_ret, Fin.satC_br, Fin.satC_need, Fin.satC_again, AllP, and_true, true_and, upd, List.length_nil, List.length_cons, Nat.zero_add, if_true, ncast, Int.ofNat_eq_natCast]
  simp only [hetaA hH, heta hH]
  obtain ⟨a1, m1, n1⟩ := p_pick c 5 st (h.mono (by omega))
  have b1 := a1.bd h (by omega : 2 + 190 ≤ 192)
  refine ⟨?_, ?_⟩
  · try simp only [hH, stdH, decide_eq_true_eq, decide_eq_false_iff_not, Bool.not_eq_true', Bool.not_eq_false', peta, ncast, Int.ofNat_eq_natCast, beq_iff_eq, bne_iff_ne, beq_eq_false_iff_ne, bne_eq_false_iff_eq, ne_eq, Classical.not_not, Int.toNat_natCast, vrow_I, Arm.eta2, Fld.eta, Grp.eta]
    exact h.mono
  · have g0 : (1 + (F_pick c 5 st).1).toNat ≤ 5 ∧ ([] : List Arm).length + (1 + (F_pick c 5 st).1).toNat ≤ 5 ∧ Bd (38 * (1 + (F_pick c 5 st).1).toNat) (F_pick c 5 st).2 ∧ quG c (1 + (F_pick c 5 st).1).toNat [] (F_pick c 5 st).2 = quY c st := ⟨by omega, by simp only [List.length_nil]; omega, b1.mono (by omega), rfl⟩
    refine loop_a hB (draw_ok hB mixed) hX hX0 hH false (ι := { p : Nat × List Arm × DS // p.1 ≤ 5 ∧ p.2.1.length + p.1 ≤ 5 ∧ Bd (38 * p.1) p.2.2 ∧ quG c p.1 p.2.1 p.2.2 = quY c st }) 400 (fun i => [.r (H Nat fun _ => (i.1.2.1).length) (rowsA H fun _ => i.1.2.1), .i (H Int fun _ => (i.1.1 : Nat)), .i (H Int fun _ => i.1.2.2.1), .i (H Int fun _ => i.1.2.2.2)]) (fun i => i.1.1) (⟨((1 + (F_pick c 5 st).1).toNat, [], (F_pick c 5 st).2), g0⟩) ?_ ?_
    · (conv in matchSt _ _ _ _ => cbv); simp only [AllG, AllP, and_true, hH, stdH, ncast, Int.ofNat_eq_natCast, vrow_I, Arm.eta2, Fld.eta, Grp.eta]
      exact ⟨trivial, trivial, c.rqN, RowsEq.ofT okRA rfl (Shp_zero _) rfl, (by rw [wi (by omega) (by omega)]; omega), rfl⟩
    · intro I hI i
      conv in Fin.chk _ _ => cbv
      try simp only [Plain_rowsA, Plain_rowsB, Plain_rowsF, Plain_rowsG, Plain_rowsI, Plain_rowsS, Plain_rowsU, Fin.satC_ret, Fin.satC_br, Fin.satC_need, Fin.satC_again, AllP, and_true, true_and, upd, List.length_nil, List.length_cons, Nat.zero_add, if_true, ncast, Int.ofNat_eq_natCast]
      obtain ⟨⟨n, L, s1⟩, g1, g2, g3, g4⟩ := i
      simp only at g1 g2 g3 g4 ⊢
      simp only [hetaA hH, heta hH]
      refine ⟨fun h1 => ?_, fun h1 => ?_⟩
      · simp only [hH, stdH, decide_eq_true_eq, decide_eq_false_iff_not, Bool.not_eq_true', Bool.not_eq_false', peta, ncast, Int.ofNat_eq_natCast, beq_iff_eq, bne_iff_ne, beq_eq_false_iff_ne, bne_eq_false_iff_eq, ne_eq, Classical.not_not, Int.toNat_natCast, vrow_I, Arm.eta2, Fld.eta, Grp.eta] at h1
        obtain ⟨m, rfl⟩ : ∃ m, n = m + 1 := ⟨n - 1, by omega⟩
        have e5 : IntKind.i64.wrap (((m + 1 : Nat) : Int) - 1) = (m : Int) := by rw [wi] <;> omega
        have a2 := (p_arms c s1 (g3.mono (by omega))).1
        have b2 : Bd (38 * m) (F_arms c s1).2 := a2.bd g3 (by omega)
        have l2 := addN_len L (F_arms c s1).1
        refine ⟨?_, ⟨?_, ?_, ?_⟩, fun h2 => ⟨?_, ?_⟩, fun h2 => ?_⟩
        · try simp only [hH, stdH, decide_eq_true_eq, decide_eq_false_iff_not, Bool.not_eq_true', Bool.not_eq_false', peta, ncast, Int.ofNat_eq_natCast, beq_iff_eq, bne_iff_ne, beq_eq_false_iff_ne, bne_eq_false_iff_eq, ne_eq, Classical.not_not, Int.toNat_natCast, vrow_I, Arm.eta2, Fld.eta, Grp.eta]
          exact g3.mono (by omega)
        · try simp only [hH, stdH, decide_eq_true_eq, decide_eq_false_iff_not, Bool.not_eq_true', Bool.not_eq_false', peta, ncast, Int.ofNat_eq_natCast, beq_iff_eq, bne_iff_ne, beq_eq_false_iff_ne, bne_eq_false_iff_eq, ne_eq, Classical.not_not, Int.toNat_natCast, vrow_I, Arm.eta2, Fld.eta, Grp.eta]
          exact fun j _ => rfl
        · try simp only [hH, stdH, decide_eq_true_eq, decide_eq_false_iff_not, Bool.not_eq_true', Bool.not_eq_false', peta, ncast, Int.ofNat_eq_natCast, beq_iff_eq, bne_iff_ne, beq_eq_false_iff_ne, bne_eq_false_iff_eq, ne_eq, Classical.not_not, Int.toNat_natCast, vrow_I, Arm.eta2, Fld.eta, Grp.eta]
          exact Shp_A _ _
        · try simp only [hH, stdH, decide_eq_true_eq, decide_eq_false_iff_not, Bool.not_eq_true', Bool.not_eq_false', peta, ncast, Int.ofNat_eq_natCast, beq_iff_eq, bne_iff_ne, beq_eq_false_iff_ne, bne_eq_false_iff_eq, ne_eq, Classical.not_not, Int.toNat_natCast, vrow_I, Arm.eta2, Fld.eta, Grp.eta]
          simp only [Tl_A]; omega
        · try simp only [hH, stdH, decide_eq_true_eq, decide_eq_false_iff_not, Bool.not_eq_true', Bool.not_eq_false', peta, ncast, Int.ofNat_eq_natCast, beq_iff_eq, bne_iff_ne, beq_eq_false_iff_ne, bne_eq_false_iff_eq, ne_eq, Classical.not_not, Int.toNat_natCast, vrow_I, Arm.eta2, Fld.eta, Grp.eta]
          exact ⟨trivial, by omega, by omega⟩
        · simp only [hH, stdH, Int.toNat_natCast] at h2
          simp only [Tl_A, idxF_lt, Bool.not_eq_true'] at h2
          have e : addN L (F_arms c s1).1 = L ++ [(F_arms c s1).1] := if_neg (by rw [h2]; decide)
          rw [e] at l2
          have g5 : quG c m (L ++ [(F_arms c s1).1]) (F_arms c s1).2 = quY c st := by rw [← g4, ← e]; rfl
          refine ⟨⟨(m, L ++ [(F_arms c s1).1], (F_arms c s1).2), by omega, by simp only; omega, b2, g5⟩, by simp only; omega, ?_⟩
          rw [hI]
          (conv in matchSt _ _ _ _ => cbv); simp only [AllG, AllP, and_true, hH, stdH, ncast, Int.ofNat_eq_natCast, vrow_I, Arm.eta2, Fld.eta, Grp.eta]
          rw [e5]
          (repeat' (first | trivial | exact c.rqN | exact rows_snocA rfl | exact List.length_append | rfl | refine And.intro ?_ ?_))
        · simp only [hH, stdH, Int.toNat_natCast] at h2
          simp only [Tl_A, idxF_lt, Bool.not_eq_false'] at h2
          have e : addN L (F_arms c s1).1 = L := if_pos h2
          rw [e] at l2
          have g5 : quG c m L (F_arms c s1).2 = quY c st := by
            rw [← g4]
            show _ = quG c m (addN L (F_arms c s1).1) (F_arms c s1).2
            rw [e]
          refine ⟨⟨(m, L, (F_arms c s1).2), by omega, by simp only; omega, b2, g5⟩, by simp only; omega, ?_⟩
          rw [hI]
          (conv in matchSt _ _ _ _ => cbv); simp only [AllG, AllP, and_true, hH, stdH, ncast, Int.ofNat_eq_natCast, vrow_I, Arm.eta2, Fld.eta, Grp.eta]
          rw [e5]
          (repeat' (first | trivial | exact c.rqN | exact RowsEq.self okRA | rfl | refine And.intro ?_ ?_))
      · simp only [hH, stdH, decide_eq_true_eq, decide_eq_false_iff_not, Bool.not_eq_true', Bool.not_eq_false', peta, ncast, Int.ofNat_eq_natCast, beq_iff_eq, bne_iff_ne, beq_eq_false_iff_ne, bne_eq_false_iff_eq, ne_eq, Classical.not_not, Int.toNat_natCast, vrow_I, Arm.eta2, Fld.eta, Grp.eta] at h1
        obtain rfl : n = 0 := by omega
        have e : (L, s1) = quY c st := g4
        rw [← e]
        try simp only [hH, stdH, decide_eq_true_eq, decide_eq_false_iff_not, Bool.not_eq_true', Bool.not_eq_false', peta, ncast, Int.ofNat_eq_natCast, beq_iff_eq, bne_iff_ne, beq_eq_false_iff_ne, bne_eq_false_iff_eq, ne_eq, Classical.not_not, Int.toNat_natCast, vrow_I, Arm.eta2, Fld.eta, Grp.eta]
        exact ⟨trivial, trivial, c.rqN, RowsEq.self okRA, trivial⟩
noncomputable def F_quarterings (c : Cd)  (st : DS) : List Arm × DS := drwM Tryd.prog 50 25 192 r_quarterings nb_quarterings (fun y => 1 ≤ y.length ∧ y.length ≤ 5) c [] st
noncomputable def e_quarterings (c : Cd) : Entry := curEN 50 25 192 c fun H st a nx => match a with
  | [] => some (r_quarterings nx H (fun _ => (F_quarterings c  st).1), nb_quarterings H (fun _ => (F_quarterings c  st).1), (fun _ => (F_quarterings c  st).2), [])
  | _ => none
theorem eok_quarterings (c : Cd) : EntryOk Tryd.prog (e_quarterings c) := curEN_ok (by unfold isBody; kernel_rfl) (by
  intro st a nx r nb y ob e hb hob
  split at e
  · simp only [Option.some.injEq, Prod.mk.injEq] at e
    obtain ⟨rfl, rfl, rfl, rfl⟩ := e
    have hd := drwM_spec (x_quarterings c  st hb )
    refine ⟨_, _, ConN.args (.cons .rfl .nil) hd.1, fun x hx => ?_, rfl, ?_, fun q b hq => ⟨b, hq, .same ?_⟩⟩
    · cases hx
    · (repeat' (first | exact .nil | exact .slc ⟨by omega, by simp [nb_quarterings]⟩ (by omega) | exact .pl .lit | apply ReL.cons | apply Re.aggL | apply Re.tupL))
    · replace hq := List.mem_of_getElem? hq
      simp only [nb_quarterings, List.mem_cons, List.not_mem_nil, or_false] at hq; subst hq; exact bT_bl okRA _ (fun _ => (F_quarterings c  st).1) _
  · simp at e)
theorem p_quarterings (c : Cd)  (st : DS) (h : Bd 192 st)  : Adv 192 st (F_quarterings c  st).2 ∧ (fun y => 1 ≤ y.length ∧ y.length ≤ 5) (F_quarterings c  st).1 := (drwM_spec (x_quarterings c  st h )).2
def quF (n : Int) : Arm := ⟨⟨0, 0, IntKind.i64.wrap (1 + n.tmod 9), 0⟩, 0, 0, 0, ⟨0, 0, 0, 0⟩, ⟨IntKind.i64.wrap (1 + n.tmod 6), 4, 0, IntKind.i64.wrap (1 + IntKind.i64.wrap (n.tdiv 2))⟩⟩
noncomputable def quM (c : Cd) : Nat → Nat → List Arm → DS → List Arm × DS
  | 0, _, L, st => (L, (F_pick c 2 st).2)
  | f + 1, i, L, st => if (L.length : Int) < 12 + (F_pick c 2 st).1 then quM c f (i + 1) (L ++ [quF (i : Nat)]) (F_pick c 2 st).2 else (L, (F_pick c 2 st).2)
theorem quM_ok (c : Cd) : ∀ (f i : Nat) (L : List Arm) (st : DS) (k : Nat), Bd (2 * f + 2 + k) st → Adv (2 * f + 2) st (quM c f i L st).2 ∧ (quM c f i L st).1.length ≤ L.length + f
  | 0, i, L, st, k, h => by
    have a1 := (p_pick c 2 st (h.mono (by omega))).1
    exact ⟨a1.le (by omega), by simp [quM]⟩
  | f + 1, i, L, st, k, h => by
    have a1 := (p_pick c 2 st (h.mono (by omega))).1
    unfold quM
    split
    · obtain ⟨h1, h2⟩ := quM_ok c f (i + 1) (L ++ [quF (i : Nat)]) (F_pick c 2 st).2 k (a1.bd h (by omega))
      refine ⟨a1.trans h1 (by omega), ?_⟩
      rw [List.length_append, List.length_singleton] at h2; omega
    · exact ⟨a1.le (by omega), by simp⟩
noncomputable def aqA (c : Cd) (q : List Arm × DS) (k : Int × DS) : List Arm × DS := if k.1 = 0 then ([], k.2) else if k.1 = 1 then (q.1 ++ [q.1.getD 0 default], k.2) else if k.1 = 2 then (q.1.set 0 (F_anyArms c k.2).1, (F_anyArms c k.2).2) else if k.1 = 3 then quM c 14 0 q.1 k.2 else (q.1, k.2)
noncomputable def aqY (c : Cd) (st : DS) : List Arm × DS := aqA c (F_quarterings c st) (F_pick c 20 (F_quarterings c st).2)
theorem aqY_ok (c : Cd) (st : DS) (h : Bd 250 st) : Adv 250 st (aqY c st).2 ∧ (aqY c st).1.length ≤ 20 := by
  obtain ⟨a1, m1, n1⟩ := p_quarterings c st (h.mono (by omega))
  have b1 := a1.bd h (by omega : 192 + 58 ≤ 250)
  obtain ⟨a2, m2, n2⟩ := p_pick c 20 (F_quarterings c st).2 (b1.mono (by omega))
  have b2 := a2.bd b1 (by omega : 2 + 56 ≤ 58)
  have a3 := (p_anyArms c (F_pick c 20 (F_quarterings c st).2).2 (b2.mono (by omega))).1
  obtain ⟨a4, l4⟩ := quM_ok c 14 0 (F_quarterings c st).1 (F_pick c 20 (F_quarterings c st).2).2 0 (b2.mono (by omega))
  unfold aqY aqA
  repeat' split
  · exact ⟨a1.trans a2 (by omega), by simp⟩
  · exact ⟨a1.trans a2 (by omega), by simp only [List.length_append, List.length_singleton]; omega⟩
  · exact ⟨a1.trans (a2.trans a3 (Nat.le_refl _)) (by omega), by simp only [List.length_set]; omega⟩
  · exact ⟨a1.trans (a2.trans a4 (Nat.le_refl _)) (by omega), by omega⟩
  · exact ⟨a1.trans a2 (by omega), by simp only; omega⟩
theorem and_c {p q : Prop} [Decidable p] [Decidable q] (h : (bif decide p then decide q else false) = true) : p ∧ q := by
  by_cases hp : p
  · rw [decide_eq_true hp, cond_true, decide_eq_true_eq] at h; exact ⟨hp, h⟩
  · rw [decide_eq_false hp] at h; cases h
theorem and_n {p q : Prop} [Decidable p] [Decidable q] (h : (bif decide p then decide q else false) = false) : ¬ p ∨ ¬ q := by
  by_cases hp : p
  · rw [decide_eq_true hp, cond_true, decide_eq_false_iff_not] at h; exact .inr h
  · exact .inl hp
def r_anyQuarterings (n : Nat) (H : Hold) (y : Unit → List Arm) : AV := .vec 15 (H Nat fun _ => ((y ())).length) (rowsA H fun _ => (y ()))
def nb_anyQuarterings (H : Hold) (y : Unit → List Arm) : List Blk := []
theorem x_anyQuarterings (c : Cd)  (st : DS) (h : Bd 250 st)  : ∃ y, DrwM Tryd.prog 50 15 250 r_anyQuarterings nb_anyQuarterings (fun y => y.length ≤ 20) c [] st y := by
  have hB : Base Tryd.prog (tabΓ [e_quarterings c, e_pick c, e_anyArms c]) tabO := base_of tabOkO (ents_cons (eok_quarterings c) <| ents_cons (eok_pick c) <| ents_cons (eok_anyArms c) <| ents_nil)
  refine drwM_okL (N := 56) hB (draw_ok hB mixed) Tryd.func15 rfl rfl 50 250 r_anyQuarterings nb_anyQuarterings (fun y => y.length ≤ 20) c (fun H => []) st 400 (by simp) (fun x hx => ?_) (aqY c st) (aqY_ok c st h) ?_
  · cases hx
  intro X hX hX0 H hH
  conv in Fin.chk _ _ => cbv
  try simp only [Plain_rowsA, Plain_rowsB, Plain_rowsF, Plain_rowsG, Plain_rowsI, Plain_rowsS, Plain_rowsU, Fin.satC_ret, Fin.satC_br, Fin.satC_need, Fin.satC_again, AllP, and_true, true_and, upd, List.length_nil, List.length_cons, Nat.zero_add, if_true, ncast, Int.ofNat_eq_natCast]
  simp only [hetaA hH, heta hH]
  obtain ⟨a1, m1, n1⟩ := p_quarterings c st (h.mono (by omega))
  have b1 := a1.bd h (by omega : 192 + 58 ≤ 250)
  obtain ⟨a2, m2, n2⟩ := p_pick c 20 (F_quarterings c st).2 (b1.mono (by omega))
  have b2 := a2.bd b1 (by omega : 2 + 56 ≤ 58)
  have eY : aqY c st = aqA c (F_quarterings c st) (F_pick c 20 (F_quarterings c st).2) := rfl
  generalize F_quarterings c st = q at *
  obtain ⟨q, s1⟩ := q
  simp only at *
  generalize F_pick c 20 s1 = k at *
  obtain ⟨k, s2⟩ := k
  simp only at *
  refine ⟨?_, ?_, fun h1 => ?_, fun h1 => ⟨fun h2 => ?_, fun h2 => ⟨fun h3 => ?_, fun h3 => ⟨fun h4 => ?_, fun h4 => ?_⟩⟩⟩⟩
  · try simp only [hH, stdH, decide_eq_true_eq, decide_eq_false_iff_not, Bool.not_eq_true', Bool.not_eq_false', peta, ncast, Int.ofNat_eq_natCast, beq_iff_eq, bne_iff_ne, beq_eq_false_iff_ne, bne_eq_false_iff_eq, ne_eq, Classical.not_not, Int.toNat_natCast, vrow_I, Arm.eta2, Fld.eta, Grp.eta]
    exact h.mono
  · try simp only [hH, stdH, decide_eq_true_eq, decide_eq_false_iff_not, Bool.not_eq_true', Bool.not_eq_false', peta, ncast, Int.ofNat_eq_natCast, beq_iff_eq, bne_iff_ne, beq_eq_false_iff_ne, bne_eq_false_iff_eq, ne_eq, Classical.not_not, Int.toNat_natCast, vrow_I, Arm.eta2, Fld.eta, Grp.eta]
    exact b1.mono
  · simp only [hH, stdH, decide_eq_true_eq, decide_eq_false_iff_not, Bool.not_eq_true', Bool.not_eq_false', peta, ncast, Int.ofNat_eq_natCast, beq_iff_eq, bne_iff_ne, beq_eq_false_iff_ne, bne_eq_false_iff_eq, ne_eq, Classical.not_not, Int.toNat_natCast, vrow_I, Arm.eta2, Fld.eta, Grp.eta] at h1
    rw [show aqY c st = ([], s2) by rw [eY]; exact if_pos h1]
    try simp only [hH, stdH, decide_eq_true_eq, decide_eq_false_iff_not, Bool.not_eq_true', Bool.not_eq_false', peta, ncast, Int.ofNat_eq_natCast, beq_iff_eq, bne_iff_ne, beq_eq_false_iff_ne, bne_eq_false_iff_eq, ne_eq, Classical.not_not, Int.toNat_natCast, vrow_I, Arm.eta2, Fld.eta, Grp.eta]
    exact ⟨trivial, trivial, c.rqN, RowsEq.ofT okRA rfl (Shp_zero _) rfl⟩
  · simp only [hH, stdH, decide_eq_true_eq, decide_eq_false_iff_not, Bool.not_eq_true', Bool.not_eq_false', peta, ncast, Int.ofNat_eq_natCast, beq_iff_eq, bne_iff_ne, beq_eq_false_iff_ne, bne_eq_false_iff_eq, ne_eq, Classical.not_not, Int.toNat_natCast, vrow_I, Arm.eta2, Fld.eta, Grp.eta] at h1 h2
    rw [show aqY c st = (q ++ [q.getD 0 default], s2) by rw [eY]; unfold aqA; rw [if_neg h1, if_pos h2]]
    try simp only [hH, stdH, decide_eq_true_eq, decide_eq_false_iff_not, Bool.not_eq_true', Bool.not_eq_false', peta, ncast, Int.ofNat_eq_natCast, beq_iff_eq, bne_iff_ne, beq_eq_false_iff_ne, bne_eq_false_iff_eq, ne_eq, Classical.not_not, Int.toNat_natCast, vrow_I, Arm.eta2, Fld.eta, Grp.eta]
    exact ⟨⟨by omega, by omega⟩, ⟨by omega, rfl⟩, ⟨trivial, by omega, by omega⟩, trivial, trivial, c.rqN, rows_snocA rfl⟩
  · simp only [hH, stdH, decide_eq_true_eq, decide_eq_false_iff_not, Bool.not_eq_true', Bool.not_eq_false', peta, ncast, Int.ofNat_eq_natCast, beq_iff_eq, bne_iff_ne, beq_eq_false_iff_ne, bne_eq_false_iff_eq, ne_eq, Classical.not_not, Int.toNat_natCast, vrow_I, Arm.eta2, Fld.eta, Grp.eta] at h1 h2 h3
    rw [show aqY c st = (q.set 0 (F_anyArms c s2).1, (F_anyArms c s2).2) by rw [eY]; unfold aqA; rw [if_neg h1, if_neg h2, if_pos h3]]
    try simp only [hH, stdH, decide_eq_true_eq, decide_eq_false_iff_not, Bool.not_eq_true', Bool.not_eq_false', peta, ncast, Int.ofNat_eq_natCast, beq_iff_eq, bne_iff_ne, beq_eq_false_iff_ne, bne_eq_false_iff_eq, ne_eq, Classical.not_not, Int.toNat_natCast, vrow_I, Arm.eta2, Fld.eta, Grp.eta]
    exact ⟨b2.mono, ⟨by omega, by omega⟩, ⟨by omega, rfl⟩, trivial, trivial, c.rqN, RowsEq.put okRA rfl⟩
  · simp only [hH, stdH, decide_eq_true_eq, decide_eq_false_iff_not, Bool.not_eq_true', Bool.not_eq_false', peta, ncast, Int.ofNat_eq_natCast, beq_iff_eq, bne_iff_ne, beq_eq_false_iff_ne, bne_eq_false_iff_eq, ne_eq, Classical.not_not, Int.toNat_natCast, vrow_I, Arm.eta2, Fld.eta, Grp.eta] at h1 h2 h3 h4
    have eY : aqY c st = quM c 14 0 q s2 := by rw [eY]; unfold aqA; rw [if_neg h1, if_neg h2, if_neg h3, if_pos h4]
    have g0 : (0 : Nat) ≤ 14 ∧ q.length ≤ 5 + 0 ∧ Bd (2 * (14 - 0) + 2) s2 ∧ quM c (14 - 0) 0 q s2 = aqY c st := ⟨by omega, by omega, b2.mono (by omega), eY.symm⟩
    refine loop_a hB (draw_ok hB mixed) hX hX0 hH false (ι := { p : Nat × List Arm × DS // p.1 ≤ 14 ∧ p.2.1.length ≤ 5 + p.1 ∧ Bd (2 * (14 - p.1) + 2) p.2.2 ∧ quM c (14 - p.1) p.1 p.2.1 p.2.2 = aqY c st }) 400 (fun i => [.r (H Nat fun _ => (i.1.2.1).length) (rowsA H fun _ => i.1.2.1), .i (H Int fun _ => (i.1.1 : Nat)), .i (H Int fun _ => i.1.2.2.1), .i (H Int fun _ => i.1.2.2.2)]) (fun i => 14 - i.1.1) (⟨(0, q, s2), g0⟩) ?_ ?_
    · (conv in matchSt _ _ _ _ => cbv); simp only [AllG, AllP, and_true, hH, stdH, ncast, Int.ofNat_eq_natCast, vrow_I, Arm.eta2, Fld.eta, Grp.eta]
      exact ⟨trivial, trivial, c.rqN, RowsEq.self okRA, rfl⟩
    · intro I hI i
      conv in Fin.chk _ _ => cbv
      try simp only [Plain_rowsA, Plain_rowsB, Plain_rowsF, Plain_rowsG, Plain_rowsI, Plain_rowsS, Plain_rowsU, Fin.satC_ret, Fin.satC_br, Fin.satC_need, Fin.satC_again, AllP, and_true, true_and, upd, List.length_nil, List.length_cons, Nat.zero_add, if_true, ncast, Int.ofNat_eq_natCast]
      obtain ⟨⟨n, L, s3⟩, g1, g2, g3, g4⟩ := i
      simp only at g1 g2 g3 g4 ⊢
      simp only [hetaA hH, heta hH]
      obtain ⟨a5, m5, n5⟩ := p_pick c 2 s3 (g3.mono (by omega))
      have w5 : IntKind.i64.wrap (12 + (F_pick c 2 s3).1) = 12 + (F_pick c 2 s3).1 := wi (by omega) (by omega)
      refine ⟨?_, fun h5 => ⟨?_, ?_, ?_, ?_, ?_⟩, fun h5 => ?_⟩
      · try simp only [hH, stdH, decide_eq_true_eq, decide_eq_false_iff_not, Bool.not_eq_true', Bool.not_eq_false', peta, ncast, Int.ofNat_eq_natCast, beq_iff_eq, bne_iff_ne, beq_eq_false_iff_ne, bne_eq_false_iff_eq, ne_eq, Classical.not_not, Int.toNat_natCast, vrow_I, Arm.eta2, Fld.eta, Grp.eta]
        exact g3.mono (by omega)
      · try simp only [hH, stdH, decide_eq_true_eq, decide_eq_false_iff_not, Bool.not_eq_true', Bool.not_eq_false', peta, ncast, Int.ofNat_eq_natCast, beq_iff_eq, bne_iff_ne, beq_eq_false_iff_ne, bne_eq_false_iff_eq, ne_eq, Classical.not_not, Int.toNat_natCast, vrow_I, Arm.eta2, Fld.eta, Grp.eta]
        try omega
      · try simp only [hH, stdH, decide_eq_true_eq, decide_eq_false_iff_not, Bool.not_eq_true', Bool.not_eq_false', peta, ncast, Int.ofNat_eq_natCast, beq_iff_eq, bne_iff_ne, beq_eq_false_iff_ne, bne_eq_false_iff_eq, ne_eq, Classical.not_not, Int.toNat_natCast, vrow_I, Arm.eta2, Fld.eta, Grp.eta]
        try omega
      · try simp only [hH, stdH, decide_eq_true_eq, decide_eq_false_iff_not, Bool.not_eq_true', Bool.not_eq_false', peta, ncast, Int.ofNat_eq_natCast, beq_iff_eq, bne_iff_ne, beq_eq_false_iff_ne, bne_eq_false_iff_eq, ne_eq, Classical.not_not, Int.toNat_natCast, vrow_I, Arm.eta2, Fld.eta, Grp.eta]
        try omega
      · try simp only [hH, stdH, decide_eq_true_eq, decide_eq_false_iff_not, Bool.not_eq_true', Bool.not_eq_false', peta, ncast, Int.ofNat_eq_natCast, beq_iff_eq, bne_iff_ne, beq_eq_false_iff_ne, bne_eq_false_iff_eq, ne_eq, Classical.not_not, Int.toNat_natCast, vrow_I, Arm.eta2, Fld.eta, Grp.eta]
        exact ⟨trivial, by omega, by omega⟩
      · simp only [hH, stdH, Int.toNat_natCast] at h5
        rw [w5] at h5
        obtain ⟨h6, h7⟩ := and_c h5
        obtain ⟨f, hf⟩ : ∃ f, 14 - n = f + 1 := ⟨14 - n - 1, by omega⟩
        have hf2 : 14 - (n + 1) = f := by omega
        have g5 : quM c (14 - (n + 1)) (n + 1) (L ++ [quF (n : Nat)]) (F_pick c 2 s3).2 = aqY c st := by
          rw [← g4, hf, hf2]
          exact (if_pos h6).symm
        refine ⟨⟨(n + 1, L ++ [quF (n : Nat)], (F_pick c 2 s3).2), by simp only; omega, by simp only [List.length_append, List.length_singleton]; omega, a5.bd g3 (by simp only; omega), g5⟩, by simp only; omega, ?_⟩
        rw [hI]
        (conv in matchSt _ _ _ _ => cbv); simp only [AllG, AllP, and_true, hH, stdH, ncast, Int.ofNat_eq_natCast, vrow_I, Arm.eta2, Fld.eta, Grp.eta]
        rw [w1 (by omega)]
        (repeat' (first | trivial | exact c.rqN | exact rows_snocA rfl | exact List.length_append | rfl | refine And.intro ?_ ?_))
      · simp only [hH, stdH, Int.toNat_natCast] at h5
        rw [w5] at h5
        have g5 : (L, (F_pick c 2 s3).2) = aqY c st := by
          rw [← g4]
          rcases and_n h5 with h6 | h6
          · cases 14 - n with
            | zero => rfl
            | succ f => unfold quM; rw [if_neg h6]
          · rw [show 14 - n = 0 by omega]; rfl
        rw [← g5]
        try simp only [hH, stdH, decide_eq_true_eq, decide_eq_false_iff_not, Bool.not_eq_true', Bool.not_eq_false', peta, ncast, Int.ofNat_eq_natCast, beq_iff_eq, bne_iff_ne, beq_eq_false_iff_ne, bne_eq_false_iff_eq, ne_eq, Classical.not_not, Int.toNat_natCast, vrow_I, Arm.eta2, Fld.eta, Grp.eta]
        exact ⟨trivial, trivial, c.rqN, RowsEq.self okRA⟩
  · simp only [hH, stdH, decide_eq_true_eq, decide_eq_false_iff_not, Bool.not_eq_true', Bool.not_eq_false', peta, ncast, Int.ofNat_eq_natCast, beq_iff_eq, bne_iff_ne, beq_eq_false_iff_ne, bne_eq_false_iff_eq, ne_eq, Classical.not_not, Int.toNat_natCast, vrow_I, Arm.eta2, Fld.eta, Grp.eta] at h1 h2 h3 h4
    rw [show aqY c st = (q, s2) by rw [eY]; unfold aqA; rw [if_neg h1, if_neg h2, if_neg h3, if_neg h4]]
    try simp only [hH, stdH, decide_eq_true_eq, decide_eq_false_iff_not, Bool.not_eq_true', Bool.not_eq_false', peta, ncast, Int.ofNat_eq_natCast, beq_iff_eq, bne_iff_ne, beq_eq_false_iff_ne, bne_eq_false_iff_eq, ne_eq, Classical.not_not, Int.toNat_natCast, vrow_I, Arm.eta2, Fld.eta, Grp.eta]
    exact ⟨trivial, trivial, c.rqN, RowsEq.self okRA⟩
noncomputable def F_anyQuarterings (c : Cd)  (st : DS) : List Arm × DS := drwM Tryd.prog 50 15 250 r_anyQuarterings nb_anyQuarterings (fun y => y.length ≤ 20) c [] st
noncomputable def e_anyQuarterings (c : Cd) : Entry := curEN 50 15 250 c fun H st a nx => match a with
  | [] => some (r_anyQuarterings nx H (fun _ => (F_anyQuarterings c  st).1), nb_anyQuarterings H (fun _ => (F_anyQuarterings c  st).1), (fun _ => (F_anyQuarterings c  st).2), [])
  | _ => none
theorem eok_anyQuarterings (c : Cd) : EntryOk Tryd.prog (e_anyQuarterings c) := curEN_ok (by unfold isBody; kernel_rfl) (by
  intro st a nx r nb y ob e hb hob
  split at e
  · simp only [Option.some.injEq, Prod.mk.injEq] at e
    obtain ⟨rfl, rfl, rfl, rfl⟩ := e
    have hd := drwM_spec (x_anyQuarterings c  st hb )
    refine ⟨_, _, ConN.args (.cons .rfl .nil) hd.1, fun x hx => ?_, rfl, ?_, fun q b hq => ⟨b, hq, .same ?_⟩⟩
    · cases hx
    · (repeat' (first | exact .nil | exact .slc ⟨by omega, by simp [nb_anyQuarterings]⟩ (by omega) | exact .pl .lit | exact .pl (vT_bl okRA (fun _ => (F_anyQuarterings c  st).1) _) | apply ReL.cons | apply Re.aggL | apply Re.tupL))
    · replace hq := List.mem_of_getElem? hq
      simp [nb_anyQuarterings] at hq
  · simp at e)
theorem p_anyQuarterings (c : Cd)  (st : DS) (h : Bd 250 st)  : Adv 250 st (F_anyQuarterings c  st).2 ∧ (fun y => y.length ≤ 20) (F_anyQuarterings c  st).1 := (drwM_spec (x_anyQuarterings c  st h )).2
noncomputable def shG (c : Cd) : List Arm → List Arm → DS → List Arm × DS
  | [], out, st => (out, st)
  | x :: r, out, st => shG c r (if (F_one c 3 st).1 = true then addN out x else out) (F_one c 3 st).2
theorem shG_ok (c : Cd) : ∀ (r out : List Arm) (st : DS) (k : Nat), Bd (2 * r.length + k) st → Adv (2 * r.length) st (shG c r out st).2 ∧ (shG c r out st).1.length ≤ out.length + r.length
  | [], out, st, k, _ => ⟨Adv.refl _ _, by simp [shG]⟩
  | x :: r, out, st, k, h => by
    have a1 := (p_one c 3 st (h.mono (by simp only [List.length_cons]; omega))).1
    obtain ⟨h1, h2⟩ := shG_ok c r (if (F_one c 3 st).1 = true then addN out x else out) (F_one c 3 st).2 k (a1.bd h (by simp only [List.length_cons]; omega))
    have h3 := addN_len out x
    refine ⟨a1.trans h1 (by simp only [List.length_cons]; omega), ?_⟩
    show (shG c r (if (F_one c 3 st).1 = true then addN out x else out) (F_one c 3 st).2).1.length ≤ _
    simp only [List.length_cons]
    split at h2 <;> rename_i hc <;> simp only [hc, if_true, Bool.false_eq_true, if_false] <;> omega
noncomputable def shY (c : Cd) (l : List Arm) (st : DS) : List Arm × DS := shG c l (F_quarterings c st).1 (F_quarterings c st).2
theorem shY_ok (c : Cd) (l : List Arm) (st : DS) (h : Bd 232 st) (hl : l.length ≤ 20) : Adv 232 st (shY c l st).2 ∧ (shY c l st).1.length ≤ 25 := by
  obtain ⟨a1, m1, n1⟩ := p_quarterings c st (h.mono (by omega))
  have b1 := a1.bd h (by omega : 192 + 40 ≤ 232)
  obtain ⟨a2, l2⟩ := shG_ok c l (F_quarterings c st).1 (F_quarterings c st).2 0 (b1.mono (by omega))
  exact ⟨a1.trans a2 (by omega), Nat.le_trans l2 (by omega)⟩
def r_shared (n : Nat) (H : Hold) (y : Unit → List Arm) : AV := .vec 15 (H Nat fun _ => ((y ())).length) (rowsA H fun _ => (y ()))
def nb_shared (H : Hold) (y : Unit → List Arm) : List Blk := []
theorem x_shared (c : Cd) (l : List Arm) (st : DS) (h : Bd 232 st) (h0 : l.length ≤ 20) : ∃ y, DrwM Tryd.prog 50 16 232 r_shared nb_shared (fun y => y.length ≤ 25) c [.vec 15 (stdH Nat fun _ => (l).length) (rowsA stdH fun _ => l)] st y := by
  have hB : Base Tryd.prog (tabΓ [e_quarterings c, e_one c, e_l21Find]) tabO := base_of tabOkO (ents_cons (eok_quarterings c) <| ents_cons (eok_one c) <| ents_cons eok_l21Find <| ents_nil)
  refine drwM_okL (N := 34) hB (draw_ok hB mixed) Tryd.func16 rfl rfl 50 232 r_shared nb_shared (fun y => y.length ≤ 25) c (fun H => [.vec 15 (H Nat fun _ => (l).length) (rowsA H fun _ => l)]) st 400 (by simp) (fun x hx => ?_) (shY c l st) (shY_ok c l st h h0) ?_
  · simp only [List.mem_cons, List.not_mem_nil, or_false] at hx; rcases hx with rfl
    · exact vl_bl okRA l _
  intro X hX hX0 H hH
  conv in Fin.chk _ _ => cbv
  try simp only [Plain_rowsA, Plain_rowsB, Plain_rowsF, Plain_rowsG, Plain_rowsI, Plain_rowsS, Plain_rowsU, Fin.satC_ret, Fin.satC_br, Fin.satC_need, Fin.satC_again, AllP, and_true, true_and, upd, List.length_nil, List.length_cons, Nat.zero_add, if_true, ncast, Int.ofNat_eq_natCast]
  simp only [hetaA hH, heta hH]
  obtain ⟨a1, m1, n1⟩ := p_quarterings c st (h.mono (by omega))
  have b1 := a1.bd h (by omega : 192 + 40 ≤ 232)
  have eY : shY c l st = shG c l (F_quarterings c st).1 (F_quarterings c st).2 := rfl
  generalize F_quarterings c st = q at *
  obtain ⟨q, s1⟩ := q
  simp only at *
  refine ⟨?_, ?_⟩
  · try simp only [hH, stdH, decide_eq_true_eq, decide_eq_false_iff_not, Bool.not_eq_true', Bool.not_eq_false', peta, ncast, Int.ofNat_eq_natCast, beq_iff_eq, bne_iff_ne, beq_eq_false_iff_ne, bne_eq_false_iff_eq, ne_eq, Classical.not_not, Int.toNat_natCast, vrow_I, Arm.eta2, Fld.eta, Grp.eta]
    exact h.mono
  · have g0 : (0 : Nat) ≤ l.length ∧ q.length ≤ 5 + 0 ∧ Bd (2 * (l.length - 0)) s1 ∧ shG c (l.drop 0) q s1 = shY c l st := ⟨by omega, by omega, b1.mono (by omega), eY.symm⟩
    refine loop_a hB (draw_ok hB mixed) hX hX0 hH false (ι := { p : Nat × List Arm × DS // p.1 ≤ l.length ∧ p.2.1.length ≤ 5 + p.1 ∧ Bd (2 * (l.length - p.1)) p.2.2 ∧ shG c (l.drop p.1) p.2.1 p.2.2 = shY c l st }) 400 (fun i => [.r (H Nat fun _ => (i.1.2.1).length) (rowsA H fun _ => i.1.2.1), .i (H Int fun _ => (i.1.1 : Nat)), .i (H Int fun _ => i.1.2.2.1), .i (H Int fun _ => i.1.2.2.2)]) (fun i => l.length - i.1.1) (⟨(0, q, s1), g0⟩) ?_ ?_
    · (conv in matchSt _ _ _ _ => cbv); simp only [AllG, AllP, and_true, hH, stdH, ncast, Int.ofNat_eq_natCast, vrow_I, Arm.eta2, Fld.eta, Grp.eta]
      exact ⟨trivial, trivial, c.rqN, RowsEq.self okRA, rfl, trivial, RowsEq.self okRA⟩
    · intro I hI i
      conv in Fin.chk _ _ => cbv
      try simp only [Plain_rowsA, Plain_rowsB, Plain_rowsF, Plain_rowsG, Plain_rowsI, Plain_rowsS, Plain_rowsU, Fin.satC_ret, Fin.satC_br, Fin.satC_need, Fin.satC_again, AllP, and_true, true_and, upd, List.length_nil, List.length_cons, Nat.zero_add, if_true, ncast, Int.ofNat_eq_natCast]
      obtain ⟨⟨n, L, s3⟩, g1, g2, g3, g4⟩ := i
      simp only at g1 g2 g3 g4 ⊢
      simp only [hetaA hH, heta hH]
      refine ⟨fun h5 => ?_, fun h5 => ?_⟩
      · simp only [hH, stdH, decide_eq_true_eq, decide_eq_false_iff_not, Bool.not_eq_true', Bool.not_eq_false', peta, ncast, Int.ofNat_eq_natCast, beq_iff_eq, bne_iff_ne, beq_eq_false_iff_ne, bne_eq_false_iff_eq, ne_eq, Classical.not_not, Int.toNat_natCast, vrow_I, Arm.eta2, Fld.eta, Grp.eta] at h5
        have hn : n < l.length := by omega
        have a5 := (p_one c 3 s3 (g3.mono (by omega))).1
        have hd : l.drop n = l.getD n default :: l.drop (n + 1) := by
          rw [List.drop_eq_getElem_cons hn, List.getD_eq_getElem?_getD, List.getElem?_eq_getElem hn, Option.getD_some]
        have g5 : shG c (l.drop (n + 1)) (if (F_one c 3 s3).1 = true then addN L (l.getD n default) else L) (F_one c 3 s3).2 = shY c l st := by
          rw [← g4, hd]; rfl
        have b5 : Bd (2 * (l.length - (n + 1))) (F_one c 3 s3).2 := a5.bd g3 (by omega)
        have hl := addN_len L (l.getD n default)
        refine ⟨?_, ?_, ⟨?_, ?_, ?_⟩, fun h6 => ⟨?_, ?_, ?_⟩, fun h6 => ?_⟩
        · try simp only [hH, stdH, decide_eq_true_eq, decide_eq_false_iff_not, Bool.not_eq_true', Bool.not_eq_false', peta, ncast, Int.ofNat_eq_natCast, beq_iff_eq, bne_iff_ne, beq_eq_false_iff_ne, bne_eq_false_iff_eq, ne_eq, Classical.not_not, Int.toNat_natCast, vrow_I, Arm.eta2, Fld.eta, Grp.eta]
          exact g3.mono (by omega)
        · try simp only [hH, stdH, decide_eq_true_eq, decide_eq_false_iff_not, Bool.not_eq_true', Bool.not_eq_false', peta, ncast, Int.ofNat_eq_natCast, beq_iff_eq, bne_iff_ne, beq_eq_false_iff_ne, bne_eq_false_iff_eq, ne_eq, Classical.not_not, Int.toNat_natCast, vrow_I, Arm.eta2, Fld.eta, Grp.eta]
          exact fun _ => ⟨by omega, by omega⟩
        · try simp only [hH, stdH, decide_eq_true_eq, decide_eq_false_iff_not, Bool.not_eq_true', Bool.not_eq_false', peta, ncast, Int.ofNat_eq_natCast, beq_iff_eq, bne_iff_ne, beq_eq_false_iff_ne, bne_eq_false_iff_eq, ne_eq, Classical.not_not, Int.toNat_natCast, vrow_I, Arm.eta2, Fld.eta, Grp.eta]
          exact fun _ j _ => rfl
        · try simp only [hH, stdH, decide_eq_true_eq, decide_eq_false_iff_not, Bool.not_eq_true', Bool.not_eq_false', peta, ncast, Int.ofNat_eq_natCast, beq_iff_eq, bne_iff_ne, beq_eq_false_iff_ne, bne_eq_false_iff_eq, ne_eq, Classical.not_not, Int.toNat_natCast, vrow_I, Arm.eta2, Fld.eta, Grp.eta]
          exact fun _ => Shp_A _ _
        · try simp only [hH, stdH, decide_eq_true_eq, decide_eq_false_iff_not, Bool.not_eq_true', Bool.not_eq_false', peta, ncast, Int.ofNat_eq_natCast, beq_iff_eq, bne_iff_ne, beq_eq_false_iff_ne, bne_eq_false_iff_eq, ne_eq, Classical.not_not, Int.toNat_natCast, vrow_I, Arm.eta2, Fld.eta, Grp.eta]
          simp only [Tl_A]
          exact fun _ => by omega
        · try simp only [hH, stdH, decide_eq_true_eq, decide_eq_false_iff_not, Bool.not_eq_true', Bool.not_eq_false', peta, ncast, Int.ofNat_eq_natCast, beq_iff_eq, bne_iff_ne, beq_eq_false_iff_ne, bne_eq_false_iff_eq, ne_eq, Classical.not_not, Int.toNat_natCast, vrow_I, Arm.eta2, Fld.eta, Grp.eta]
          exact ⟨by omega, by omega⟩
        · try simp only [hH, stdH, decide_eq_true_eq, decide_eq_false_iff_not, Bool.not_eq_true', Bool.not_eq_false', peta, ncast, Int.ofNat_eq_natCast, beq_iff_eq, bne_iff_ne, beq_eq_false_iff_ne, bne_eq_false_iff_eq, ne_eq, Classical.not_not, Int.toNat_natCast, vrow_I, Arm.eta2, Fld.eta, Grp.eta]
          exact ⟨trivial, by omega, by omega⟩
        · simp only [hH, stdH, Int.toNat_natCast] at h6
          simp only [Tl_A, idxF_lt, Arm.eta2, Fld.eta, Grp.eta] at h6
          obtain ⟨h7, h8⟩ : (F_one c 3 s3).1 = true ∧ (L.any fun y => decide (y = l.getD n default)) = false := by
            cases hq : (F_one c 3 s3).1 with
            | false => rw [hq] at h6; cases h6
            | true => rw [hq] at h6; exact ⟨rfl, by rw [cond_true, Bool.not_eq_true'] at h6; exact h6⟩
          have e : addN L (l.getD n default) = L ++ [l.getD n default] := if_neg (by rw [h8]; decide)
          rw [if_pos h7, e] at g5
          rw [e] at hl
          refine ⟨⟨(n + 1, L ++ [l.getD n default], (F_one c 3 s3).2), by simp only; omega, by simp only; omega, b5, g5⟩, by simp only; omega, ?_⟩
          rw [hI]
          (conv in matchSt _ _ _ _ => cbv); simp only [AllG, AllP, and_true, hH, stdH, ncast, Int.ofNat_eq_natCast, vrow_I, Arm.eta2, Fld.eta, Grp.eta]
          rw [w1 (by omega)]
          (repeat' (first | trivial | exact c.rqN | exact rows_snocA rfl | exact RowsEq.self okRA | exact List.length_append | rfl | refine And.intro ?_ ?_))
        · simp only [hH, stdH, Int.toNat_natCast] at h6
          simp only [Tl_A, idxF_lt, Arm.eta2, Fld.eta, Grp.eta] at h6
          have e : (if (F_one c 3 s3).1 = true then addN L (l.getD n default) else L) = L := by
            cases hq : (F_one c 3 s3).1 with
            | false => simp
            | true =>
              rw [hq, cond_true, Bool.not_eq_false'] at h6
              rw [if_pos rfl]
              exact if_pos h6
          rw [e] at g5
          refine ⟨⟨(n + 1, L, (F_one c 3 s3).2), by simp only; omega, by simp only; omega, b5, g5⟩, by simp only; omega, ?_⟩
          rw [hI]
          (conv in matchSt _ _ _ _ => cbv); simp only [AllG, AllP, and_true, hH, stdH, ncast, Int.ofNat_eq_natCast, vrow_I, Arm.eta2, Fld.eta, Grp.eta]
          rw [w1 (by omega)]
          (repeat' (first | trivial | exact c.rqN | exact RowsEq.self okRA | rfl | refine And.intro ?_ ?_))
      · simp only [hH, stdH, decide_eq_true_eq, decide_eq_false_iff_not, Bool.not_eq_true', Bool.not_eq_false', peta, ncast, Int.ofNat_eq_natCast, beq_iff_eq, bne_iff_ne, beq_eq_false_iff_ne, bne_eq_false_iff_eq, ne_eq, Classical.not_not, Int.toNat_natCast, vrow_I, Arm.eta2, Fld.eta, Grp.eta] at h5
        obtain rfl : n = l.length := by omega
        rw [List.drop_length] at g4
        have g5 : (L, s3) = shY c l st := g4
        rw [← g5]
        try simp only [hH, stdH, decide_eq_true_eq, decide_eq_false_iff_not, Bool.not_eq_true', Bool.not_eq_false', peta, ncast, Int.ofNat_eq_natCast, beq_iff_eq, bne_iff_ne, beq_eq_false_iff_ne, bne_eq_false_iff_eq, ne_eq, Classical.not_not, Int.toNat_natCast, vrow_I, Arm.eta2, Fld.eta, Grp.eta]
        exact ⟨trivial, trivial, c.rqN, RowsEq.self okRA⟩
noncomputable def F_shared (c : Cd) (l : List Arm) (st : DS) : List Arm × DS := drwM Tryd.prog 50 16 232 r_shared nb_shared (fun y => y.length ≤ 25) c [.vec 15 (stdH Nat fun _ => (l).length) (rowsA stdH fun _ => l)] st
noncomputable def e_shared (c : Cd) : Entry := curEN 50 16 232 c fun H st a nx => match a with
  | [.vec 15 ln lf] => some (r_shared nx H (fun _ => (F_shared c (Tl rowA ln lf) st).1), nb_shared H (fun _ => (F_shared c (Tl rowA ln lf) st).1), (fun _ => (F_shared c (Tl rowA ln lf) st).2), [H Prop fun _ => Shp rowA ln lf, H Prop fun _ => (Tl rowA ln lf).length ≤ 20])
  | _ => none
theorem eok_shared (c : Cd) : EntryOk Tryd.prog (e_shared c) := curEN_ok (by unfold isBody; kernel_rfl) (by
  intro st a nx r nb y ob e hb hob
  split at e
  · rename_i ln lf
    simp only [Option.some.injEq, Prod.mk.injEq] at e
    obtain ⟨rfl, rfl, rfl, rfl⟩ := e
    have hd := drwM_spec (x_shared c (Tl rowA ln lf) st hb hob.2.1)
    refine ⟨_, _, ConN.args (.cons .rfl (.cons (.toT okRA rfl hob.1) .nil)) hd.1, fun x hx => ?_, rfl, ?_, fun q b hq => ⟨b, hq, .same ?_⟩⟩
    · simp only [List.mem_cons, List.not_mem_nil, or_false] at hx
      rcases hx with rfl
      · exact (hob.1).bl okRA _
    · (repeat' (first | exact .nil | exact .slc ⟨by omega, by simp [nb_shared]⟩ (by omega) | exact .pl .lit | exact .pl (vT_bl okRA (fun _ => (F_shared c (Tl rowA ln lf) st).1) _) | apply ReL.cons | apply Re.aggL | apply Re.tupL))
    · replace hq := List.mem_of_getElem? hq
      simp [nb_shared] at hq
  · simp at e)
theorem p_shared (c : Cd) (l : List Arm) (st : DS) (h : Bd 232 st) (h0 : l.length ≤ 20) : Adv 232 st (F_shared c l st).2 ∧ (fun y => y.length ≤ 25) (F_shared c l st).1 := (drwM_spec (x_shared c l st h h0)).2
structure Dsc where
  own : List Arm
  hs : Bool
deriving Inhabited
def rowsE (H : Hold) (L : Unit → List Dsc) (j : Nat) : List AV := [.vec 15 (H Nat fun _ => (((L ()).getD j default).own).length) (rowsA H fun _ => ((L ()).getD j default).own), .lit (.bool (H Bool fun _ => ((L ()).getD j default).hs))]
def rowE : RowD Dsc := ⟨2, default, fun H x => [.vec 15 (H Nat fun _ => ((x ()).own).length) (rowsA H fun _ => (x ()).own), .lit (.bool (H Bool fun _ => (x ()).hs))], fun l => match l with
  | [.vec _ x0n x0f, .lit (.bool x1)] => ⟨(Tl rowA x0n x0f), x1⟩
  | _ => default, rowsE⟩
theorem okRE : RowOk rowE := ⟨fun _ => rfl, fun x c hc => by simp only [rowE, List.mem_cons, List.not_mem_nil, or_false] at hc; rcases hc with rfl | rfl <;> (first | exact .lit | exact vT_bl okRA (fun _ => (x ()).own) 0), fun x => (by show (⟨Tl rowA (x.own).length (rowsT rowA stdH fun _ => x.own), x.hs⟩ : Dsc) = x; rw [Tl_rowsT okRA]), fun _ _ => rfl⟩
theorem Dsc.eta (a : Dsc) : (⟨a.own, a.hs⟩ : Dsc) = a := rfl
theorem Tl_E (L : List Dsc) : Tl rowE L.length (rowsE stdH fun _ => L) = L := Tl_rowsT okRE L
theorem Shp_E (n : Nat) (L : List Dsc) : Shp rowE n (rowsE stdH fun _ => L) := Shp_rowsT okRE n (fun _ => L)
noncomputable def deG (c : Cd) (l : List Arm) : Nat → List Dsc → DS → List Dsc × DS
  | 0, L, st => (L, st)
  | n + 1, L, st => deG c l n (L ++ [⟨(F_shared c l st).1, !(F_one c 3 (F_shared c l st).2).1⟩]) (F_one c 3 (F_shared c l st).2).2
theorem deG_ok (c : Cd) (l : List Arm) (hl : l.length ≤ 20) : ∀ (n : Nat) (L : List Dsc) (st : DS) (k : Nat), Bd (234 * n + k) st → (∀ d ∈ L, d.own.length ≤ 25) → Adv (234 * n) st (deG c l n L st).2 ∧ (deG c l n L st).1.length = L.length + n ∧ ∀ d ∈ (deG c l n L st).1, d.own.length ≤ 25
  | 0, L, st, k, _, h => ⟨Adv.refl _ _, rfl, h⟩
  | n + 1, L, st, k, h, hL => by
    obtain ⟨a1, m1⟩ := p_shared c l st (h.mono (by omega)) hl
    have b1 := a1.bd h (by omega : 232 + (2 + 234 * n + k) ≤ 234 * (n + 1) + k)
    have a2 := (p_one c 3 (F_shared c l st).2 (b1.mono (by omega))).1
    obtain ⟨h1, h2, h3⟩ := deG_ok c l hl n (L ++ [⟨(F_shared c l st).1, !(F_one c 3 (F_shared c l st).2).1⟩]) _ k (a2.bd b1 (by omega)) (by
      intro d hd
      rcases List.mem_append.1 hd with hd | hd
      · exact hL d hd
      · rw [List.mem_singleton] at hd; subst hd; exact m1)
    refine ⟨a1.trans (a2.trans h1 (Nat.le_refl _)) (by omega), ?_, h3⟩
    show (deG c l n (L ++ [⟨(F_shared c l st).1, !(F_one c 3 (F_shared c l st).2).1⟩]) (F_one c 3 (F_shared c l st).2).2).1.length = _
    rw [h2, List.length_append, List.length_singleton]; omega
noncomputable def deA (c : Cd) (l : List Arm) (st : DS) : List Dsc × DS := deG c l (F_pick c 5 st).1.toNat [] (F_pick c 5 st).2
noncomputable def deY (c : Cd) (l : List Arm) (st : DS) : List Dsc × DS := if (F_one c 24 (deA c l st).2).1 = true then ((deA c l st).1 ++ [⟨(F_anyQuarterings c (F_one c 24 (deA c l st).2).2).1, true⟩], (F_anyQuarterings c (F_one c 24 (deA c l st).2).2).2) else ((deA c l st).1, (F_one c 24 (deA c l st).2).2)
theorem deA_ok (c : Cd) (l : List Arm) (st : DS) (h : Bd 938 st) (hl : l.length ≤ 20) : Adv 938 st (deA c l st).2 ∧ (deA c l st).1.length ≤ 4 ∧ ∀ d ∈ (deA c l st).1, d.own.length ≤ 25 := by
  obtain ⟨a1, m1, n1⟩ := p_pick c 5 st (h.mono (by omega))
  have b1 := a1.bd h (by omega : 2 + 936 ≤ 938)
  obtain ⟨a2, l2, l3⟩ := deG_ok c l hl (F_pick c 5 st).1.toNat [] (F_pick c 5 st).2 0 (b1.mono (by omega)) (by simp)
  exact ⟨a1.trans (a2.le (by omega : _ ≤ 936)) (by omega), by unfold deA; rw [l2]; simp only [List.length_nil]; omega, l3⟩
theorem deY_ok (c : Cd) (l : List Arm) (st : DS) (h : Bd 1190 st) (hl : l.length ≤ 20) : Adv 1190 st (deY c l st).2 ∧ ((deY c l st).1.length ≤ 5 ∧ ∀ d ∈ (deY c l st).1, d.own.length ≤ 25) := by
  obtain ⟨a1, l1, m1⟩ := deA_ok c l st (h.mono (by omega)) hl
  have b1 := a1.bd h (by omega : 938 + 252 ≤ 1190)
  have a2 := (p_one c 24 (deA c l st).2 (b1.mono (by omega))).1
  have b2 := a2.bd b1 (by omega : 2 + 250 ≤ 252)
  obtain ⟨a3, l3⟩ := p_anyQuarterings c (F_one c 24 (deA c l st).2).2 (b2.mono (by omega))
  unfold deY
  split
  · refine ⟨a1.trans (a2.trans a3 (Nat.le_refl _)) (by omega), by simp only [List.length_append, List.length_singleton]; omega, fun d hd => ?_⟩
    rcases List.mem_append.1 hd with hd | hd
    · exact m1 d hd
    · rw [List.mem_singleton] at hd; subst hd; exact Nat.le_trans l3 (by omega)
  · exact ⟨a1.trans a2 (by omega), by simp only; omega, m1⟩
structure ArDs where
  a : List Arm
  l : List Dsc
deriving Inhabited
structure ArIn where
  l : List Arm
  i : Int
deriving Inhabited

end Go.Proofs.YthilcnfnbgbkdaaDoor.AM
