import Derived.Test.YtoommgpcmgnpaaaAmT
import Derived.Test.YtoommgpcmgnpaaaRpa
import Derived.Test.YtoommgpcmgnpaaaAmDl
set_option linter.unusedVariables false
set_option linter.unusedSimpArgs false
set_option maxRecDepth 100000
set_option maxHeartbeats 4000000
set_option cbv.maxSteps 3000000
namespace Go.Proofs.Ytoommgpcmgnpaaa.AM
/- Arms repaired: the reference's; conditions: none. -/
def Nn (st : RpS) : Prop := ∀ p, st = some p → 0 ≤ p.2
theorem foldl_nn {f : RpS → Int → RpS} (hf : ∀ st x, Nn st → Nn (f st x)) : ∀ (l : List Int) (st : RpS), Nn st → Nn (l.foldl f st)
  | [], _, h => h
  | x :: l, st, h => foldl_nn hf l _ (hf st x h)
theorem rpStep_nn {a : Arm} {x y : Int} (st : RpS) (z : Int) (h : Nn st) : Nn (rpStep a x y st z) := by
  unfold rpStep
  split
  · intro p e
    cases e
    exact (chg_in a x y z).1
  · exact h
theorem rpZ_nn {a : Arm} {x y : Int} {st : RpS} (h : Nn st) (m : Nat) : Nn (rpZ a x y st m) := foldl_nn rpStep_nn _ _ h
theorem rpY_nn {a : Arm} {x : Int} {st : RpS} (h : Nn st) (k : Nat) : Nn (rpY a x st k) := foldl_nn (fun st y h => foldl_nn rpStep_nn _ _ h) _ _ h
theorem rpX_nn {a : Arm} (i : Nat) : Nn (rpX a i) := foldl_nn (fun st x h => foldl_nn (fun st y h => foldl_nn rpStep_nn _ _ h) _ _ h) _ _ (fun p e => by cases e)
theorem rp_cs {a : Arm} {st : RpS} (h : Nn st) (x y z n : Int) (hn : n = chg a x y z) : (bif (bif decide (rn (-1) st < 0) then true else decide (n < rn (-1) st)) then (((fnds (rTA a x y z)).length : Nat) : Int) == 0 else false) = rpT a st x y z := by
  subst hn
  rw [emp_len]
  have hc := chg_in a x y z
  unfold rpT
  cases st with
  | none => simp only [rn]; rw [decide_eq_true (by omega : chg a x y z < 4)]; rfl
  | some p =>
    have := h p rfl
    have h1 : decide (rn (-1) (some p) < 0) = false := decide_eq_false (by simp only [rn]; omega)
    rw [h1]
    simp only [rn, cond_false, bif_and2]
    rfl
theorem chO {a : Arm} (h : okA a = true) : (if (!decide (a.o = 0)) = true then tcs 9 else [0]) = chI a.t := by
  unfold chI
  obtain ⟨_, _, q3⟩ := okA_p h
  rcases q3 with ⟨g, _, g2, _⟩ | ⟨g, _, _, g2, _⟩
  · rw [if_neg (by simp [g]), if_pos g2]
  · unfold inB at g2
    rw [decide_eq_true_eq] at g2
    rw [if_pos (by simp [g]), if_neg (by omega)]
theorem chG {g : Grp} (h : noG g = true ∨ okG g = true) : (if (!noG g) = true then tcs 9 else [0]) = chI g.t := by
  unfold chI
  rcases noG_t h with ⟨h1, h2⟩ | ⟨h1, _, h2⟩
  · rw [h1, if_neg (by decide), if_pos h2]
  · rw [h1, if_pos (by decide), if_neg (by omega)]
theorem chN {a : Arm} (h : okA a = true) : (if (!noG a.n) = true then tcs 9 else [0]) = chI a.n.t := chG (by
  obtain ⟨_, _, q3⟩ := okA_p h
  rcases q3 with ⟨_, _, _, g⟩ | ⟨_, _, _, _, g⟩
  · exact .inl g
  · exact g)
theorem chR {a : Arm} (h : okA a = true) : (if (!noG a.r) = true then tcs 9 else [0]) = chI a.r.t := chG (okA_p h).2.1
theorem rp_none2 {a : Arm} (ho : okA a = true) (h : decide (rn (-1) (rp a) < 0) = true) : rpO a = false ∧ rpN a = 0 ∧ rpA a = zA := by
  unfold rpO rpN rpA
  rw [ho]
  cases e : rp a with
  | none => exact ⟨rfl, rfl, rfl⟩
  | some p =>
    obtain ⟨x, y, z, _, _, _, rfl, _⟩ := (rp_ok a).1 p e
    rw [e, decide_eq_true_eq] at h
    have := chg_in a x y z
    simp only [rn] at h
    omega
theorem rp_some2 {a : Arm} (ho : okA a = true) (h : decide (rn (-1) (rp a) < 0) = false) : rpO a = true ∧ rpN a = rn (-1) (rp a) ∧ rpA a = rb (rp a) := by
  unfold rpO rpN rpA
  rw [ho]
  cases e : rp a with
  | none => rw [e] at h; cases h
  | some p => exact ⟨rfl, rfl, rfl⟩
attribute [local irreducible] chI tcs rpX rpY rpZ rp fnds
theorem c_repairS (a : Arm)  : ConN Try.prog 15 [aT rowA stdH fun _ => a] [] 0 (.tup [aT rowA stdH fun _ => rpA a, .lit (.int .i64 (stdH Int fun _ => rpN a)), .lit (.bool (stdH Bool fun _ => rpO a))]) [] [] := by
  have hB : Base Try.prog (tabΓ [e_l5Good, e_l8Choices, e_l4None, e_l8Findings]) tabO := base_of tabOkO (ents_cons eok_l5Good <| ents_cons eok_l8Choices <| ents_cons eok_l4None <| ents_cons eok_l8Findings <| ents_nil)
  refine con_m (N := 115) hB (draw_ok hB mixed) Try.func15 rfl rfl (fun H => [aT rowA H fun _ => a]) (fun _ => []) 0 (fun H => .tup [aT rowA H fun _ => rpA a, .lit (.int .i64 (H Int fun _ => rpN a)), .lit (.bool (H Bool fun _ => rpO a))]) (fun H => []) (fun _ => []) 300 (by simp) (fun x hx => ?_) (by simp [lk]) (by omega) (by simp) ?_
  · simp only [List.mem_cons, List.not_mem_nil, or_false] at hx
    rcases hx with rfl
    · exact aT_bl okRA _ _
  intro X hX hX0 H hH
  conv in Fin.chk _ _ => cbv
  try simp only [Plain_rowsA, Plain_rowsB, Plain_rowsD, Plain_rowsF, Plain_rowsG, Plain_rowsI, Plain_rowsS, Plain_rowsU, Fin.satC_ret, Fin.satC_br, Fin.satC_need, Fin.satC_again, AllP, and_true, true_and, upd, List.length_nil, List.length_cons, Nat.zero_add, if_true, ncast, Int.ofNat_eq_natCast]
  have no : okA a = false → rpO a = false ∧ rpN a = 0 ∧ rpA a = zA := fun h => by
    unfold rpO rpN rpA
    rw [h]
    exact ⟨rfl, rfl, rfl⟩
  simp only [hetaA hH, heta hH]
  have n1 := chI_len a.t
  have n2 := chI_len a.n.t
  have n3 := chI_len a.r.t
  refine ⟨fun h => ?_, fun h => ?_⟩
  · simp only [hH, stdH, Int.toNat_natCast] at h
    simp only [Arm.eta2, Fld.eta, Grp.eta, Bool.not_eq_true'] at h
    obtain ⟨e1, e2, e3⟩ := no h
    rw [e1, e2, e3]
    try simp only [hH, stdH, decide_eq_true_eq, decide_eq_false_iff_not, Bool.not_eq_true', Bool.not_eq_false', peta, ncast, Int.ofNat_eq_natCast, beq_iff_eq, bne_iff_ne, beq_eq_false_iff_ne, bne_eq_false_iff_eq, ne_eq, Classical.not_not, Int.toNat_natCast, vrow_I, Arm.eta2, Fld.eta, Grp.eta]
    (repeat' (with_reducible refine And.intro ?_ ?_)) <;> (first | exact Eq.refl _ | exact True.intro | exact RowsEq.self okI)
  · simp only [hH, stdH, Int.toNat_natCast] at h
    simp only [Arm.eta2, Fld.eta, Grp.eta, Bool.not_eq_false'] at h
    have l1 : (if (H Bool fun _ => (H Int fun _ => a.o) != 0) = true then tcs 9 else [0]) = chI a.t := by rw [hH, ← chO h]; simp only [stdH, bned]
    have l2 : (if (H Bool fun _ => !H Bool fun _ => noG ⟨H Int fun _ => a.n.c, H Int fun _ => a.n.k, H Int fun _ => a.n.a, H Int fun _ => a.n.t⟩) = true then tcs 9 else [0]) = chI a.n.t := by rw [hH]; exact chN h
    have l3 : (if (H Bool fun _ => !H Bool fun _ => noG ⟨H Int fun _ => a.r.c, H Int fun _ => a.r.k, H Int fun _ => a.r.a, H Int fun _ => a.r.t⟩) = true then tcs 9 else [0]) = chI a.r.t := by rw [hH]; exact chR h
    simp only [l1, l2, l3]
    clear l1 l2 l3
    refine loop_a hB (draw_ok hB mixed) hX hX0 hH false (ι := { i : Nat // i ≤ (chI a.t).length }) 300 (fun i => [.i (H Int fun _ => rn (-1) (rpX a i.1)), .i (H Int fun _ => (i.1 : Nat)), .i (H Int fun _ => (rb (rpX a i.1)).f.d), .i (H Int fun _ => (rb (rpX a i.1)).f.l), .i (H Int fun _ => (rb (rpX a i.1)).f.p), .i (H Int fun _ => (rb (rpX a i.1)).f.q), .i (H Int fun _ => (rb (rpX a i.1)).o), .i (H Int fun _ => (rb (rpX a i.1)).l), .i (H Int fun _ => (rb (rpX a i.1)).t), .i (H Int fun _ => (rb (rpX a i.1)).n.c), .i (H Int fun _ => (rb (rpX a i.1)).n.k), .i (H Int fun _ => (rb (rpX a i.1)).n.a), .i (H Int fun _ => (rb (rpX a i.1)).n.t), .i (H Int fun _ => (rb (rpX a i.1)).r.c), .i (H Int fun _ => (rb (rpX a i.1)).r.k), .i (H Int fun _ => (rb (rpX a i.1)).r.a), .i (H Int fun _ => (rb (rpX a i.1)).r.t)]) (fun i => (chI a.t).length - i.1) (⟨0, by omega⟩) ?_ ?_
    · (conv in matchSt _ _ _ _ => cbv); simp only [AllG, AllP, and_true, hH, stdH, ncast, Int.ofNat_eq_natCast, vrow_I, Arm.eta2, Fld.eta, Grp.eta]
      rw [rpX_0]
      (repeat' (with_reducible refine And.intro ?_ ?_)) <;> (first | exact Eq.refl _ | exact True.intro | exact RowsEq.self okI)
    · intro I hI i
      conv in Fin.chk _ _ => cbv
      try simp only [Plain_rowsA, Plain_rowsB, Plain_rowsD, Plain_rowsF, Plain_rowsG, Plain_rowsI, Plain_rowsS, Plain_rowsU, Fin.satC_ret, Fin.satC_br, Fin.satC_need, Fin.satC_again, AllP, and_true, true_and, upd, List.length_nil, List.length_cons, Nat.zero_add, if_true, ncast, Int.ofNat_eq_natCast]
      obtain ⟨i, hi⟩ := i
      refine ⟨fun h1 => ?_, fun h1 => ⟨fun h2 => ?_, fun h2 => ?_⟩⟩
      · simp only [hH, stdH, decide_eq_true_eq, decide_eq_false_iff_not, Bool.not_eq_true', Bool.not_eq_false', peta, ncast, Int.ofNat_eq_natCast, beq_iff_eq, bne_iff_ne, beq_eq_false_iff_ne, bne_eq_false_iff_eq, ne_eq, Classical.not_not, Int.toNat_natCast, vrow_I, Arm.eta2, Fld.eta, Grp.eta] at h1
        have h1 : i < (chI a.t).length := by omega
        have g1 : 0 ≤ (chI a.n.t).length := Nat.zero_le _
        refine loop_a hB (draw_ok hB mixed) hX hX0 hH true (ι := { k : Nat // k ≤ (chI a.n.t).length }) 300 (fun k => [.i (H Int fun _ => rn (-1) (rpY a ((chI a.t).getD i 0) (rpX a i) k.1)), .i (H Int fun _ => (k.1 : Nat)), .i (H Int fun _ => (rb (rpY a ((chI a.t).getD i 0) (rpX a i) k.1)).f.d), .i (H Int fun _ => (rb (rpY a ((chI a.t).getD i 0) (rpX a i) k.1)).f.l), .i (H Int fun _ => (rb (rpY a ((chI a.t).getD i 0) (rpX a i) k.1)).f.p), .i (H Int fun _ => (rb (rpY a ((chI a.t).getD i 0) (rpX a i) k.1)).f.q), .i (H Int fun _ => (rb (rpY a ((chI a.t).getD i 0) (rpX a i) k.1)).o), .i (H Int fun _ => (rb (rpY a ((chI a.t).getD i 0) (rpX a i) k.1)).l), .i (H Int fun _ => (rb (rpY a ((chI a.t).getD i 0) (rpX a i) k.1)).t), .i (H Int fun _ => (rb (rpY a ((chI a.t).getD i 0) (rpX a i) k.1)).n.c), .i (H Int fun _ => (rb (rpY a ((chI a.t).getD i 0) (rpX a i) k.1)).n.k), .i (H Int fun _ => (rb (rpY a ((chI a.t).getD i 0) (rpX a i) k.1)).n.a), .i (H Int fun _ => (rb (rpY a ((chI a.t).getD i 0) (rpX a i) k.1)).n.t), .i (H Int fun _ => (rb (rpY a ((chI a.t).getD i 0) (rpX a i) k.1)).r.c), .i (H Int fun _ => (rb (rpY a ((chI a.t).getD i 0) (rpX a i) k.1)).r.k), .i (H Int fun _ => (rb (rpY a ((chI a.t).getD i 0) (rpX a i) k.1)).r.a), .i (H Int fun _ => (rb (rpY a ((chI a.t).getD i 0) (rpX a i) k.1)).r.t)]) (fun k => (chI a.n.t).length - k.1) (⟨0, g1⟩) ?_ ?_
        · (conv in matchSt _ _ _ _ => cbv); simp only [AllG, AllP, and_true, hH, stdH, ncast, Int.ofNat_eq_natCast, vrow_I, Arm.eta2, Fld.eta, Grp.eta]
          rw [rpY_0]
          (repeat' (with_reducible refine And.intro ?_ ?_)) <;> (first | exact Eq.refl _ | exact True.intro | exact RowsEq.self okI)
        · intro I2 hI2 k
          conv in Fin.chk _ _ => cbv
          try simp only [Plain_rowsA, Plain_rowsB, Plain_rowsD, Plain_rowsF, Plain_rowsG, Plain_rowsI, Plain_rowsS, Plain_rowsU, Fin.satC_ret, Fin.satC_br, Fin.satC_need, Fin.satC_again, AllP, and_true, true_and, upd, List.length_nil, List.length_cons, Nat.zero_add, if_true, ncast, Int.ofNat_eq_natCast]
          obtain ⟨k, hk⟩ := k
          refine ⟨fun h2 => ?_, fun h2 => ?_⟩
          · simp only [hH, stdH, decide_eq_true_eq, decide_eq_false_iff_not, Bool.not_eq_true', Bool.not_eq_false', peta, ncast, Int.ofNat_eq_natCast, beq_iff_eq, bne_iff_ne, beq_eq_false_iff_ne, bne_eq_false_iff_eq, ne_eq, Classical.not_not, Int.toNat_natCast, vrow_I, Arm.eta2, Fld.eta, Grp.eta] at h2
            have h2 : k < (chI a.n.t).length := by omega
            have g2 : 0 ≤ (chI a.r.t).length := Nat.zero_le _
            refine loop_a hB (draw_ok hB mixed) hX hX0 hH true (ι := { m : Nat // m ≤ (chI a.r.t).length }) 300 (fun m => [.i (H Int fun _ => rn (-1) (rpZ a ((chI a.t).getD i 0) ((chI a.n.t).getD k 0) (rpY a ((chI a.t).getD i 0) (rpX a i) k) m.1)), .i (H Int fun _ => (m.1 : Nat)), .i (H Int fun _ => (rb (rpZ a ((chI a.t).getD i 0) ((chI a.n.t).getD k 0) (rpY a ((chI a.t).getD i 0) (rpX a i) k) m.1)).f.d), .i (H Int fun _ => (rb (rpZ a ((chI a.t).getD i 0) ((chI a.n.t).getD k 0) (rpY a ((chI a.t).getD i 0) (rpX a i) k) m.1)).f.l), .i (H Int fun _ => (rb (rpZ a ((chI a.t).getD i 0) ((chI a.n.t).getD k 0) (rpY a ((chI a.t).getD i 0) (rpX a i) k) m.1)).f.p), .i (H Int fun _ => (rb (rpZ a ((chI a.t).getD i 0) ((chI a.n.t).getD k 0) (rpY a ((chI a.t).getD i 0) (rpX a i) k) m.1)).f.q), .i (H Int fun _ => (rb (rpZ a ((chI a.t).getD i 0) ((chI a.n.t).getD k 0) (rpY a ((chI a.t).getD i 0) (rpX a i) k) m.1)).o), .i (H Int fun _ => (rb (rpZ a ((chI a.t).getD i 0) ((chI a.n.t).getD k 0) (rpY a ((chI a.t).getD i 0) (rpX a i) k) m.1)).l), .i (H Int fun _ => (rb (rpZ a ((chI a.t).getD i 0) ((chI a.n.t).getD k 0) (rpY a ((chI a.t).getD i 0) (rpX a i) k) m.1)).t), .i (H Int fun _ => (rb (rpZ a ((chI a.t).getD i 0) ((chI a.n.t).getD k 0) (rpY a ((chI a.t).getD i 0) (rpX a i) k) m.1)).n.c), .i (H Int fun _ => (rb (rpZ a ((chI a.t).getD i 0) ((chI a.n.t).getD k 0) (rpY a ((chI a.t).getD i 0) (rpX a i) k) m.1)).n.k), .i (H Int fun _ => (rb (rpZ a ((chI a.t).getD i 0) ((chI a.n.t).getD k 0) (rpY a ((chI a.t).getD i 0) (rpX a i) k) m.1)).n.a), .i (H Int fun _ => (rb (rpZ a ((chI a.t).getD i 0) ((chI a.n.t).getD k 0) (rpY a ((chI a.t).getD i 0) (rpX a i) k) m.1)).n.t), .i (H Int fun _ => (rb (rpZ a ((chI a.t).getD i 0) ((chI a.n.t).getD k 0) (rpY a ((chI a.t).getD i 0) (rpX a i) k) m.1)).r.c), .i (H Int fun _ => (rb (rpZ a ((chI a.t).getD i 0) ((chI a.n.t).getD k 0) (rpY a ((chI a.t).getD i 0) (rpX a i) k) m.1)).r.k), .i (H Int fun _ => (rb (rpZ a ((chI a.t).getD i 0) ((chI a.n.t).getD k 0) (rpY a ((chI a.t).getD i 0) (rpX a i) k) m.1)).r.a), .i (H Int fun _ => (rb (rpZ a ((chI a.t).getD i 0) ((chI a.n.t).getD k 0) (rpY a ((chI a.t).getD i 0) (rpX a i) k) m.1)).r.t)]) (fun m => (chI a.r.t).length - m.1) (⟨0, g2⟩) ?_ ?_
            · (conv in matchSt _ _ _ _ => cbv); simp only [AllG, AllP, and_true, hH, stdH, ncast, Int.ofNat_eq_natCast, vrow_I, Arm.eta2, Fld.eta, Grp.eta]
              rw [rpZ_0]
              (repeat' (with_reducible refine And.intro ?_ ?_)) <;> (first | exact Eq.refl _ | exact True.intro | exact RowsEq.self okI)
            · intro I3 hI3 m
              conv in Fin.chk _ _ => cbv
              try simp only [Plain_rowsA, Plain_rowsB, Plain_rowsD, Plain_rowsF, Plain_rowsG, Plain_rowsI, Plain_rowsS, Plain_rowsU, Fin.satC_ret, Fin.satC_br, Fin.satC_need, Fin.satC_again, AllP, and_true, true_and, upd, List.length_nil, List.length_cons, Nat.zero_add, if_true, ncast, Int.ofNat_eq_natCast]
              obtain ⟨m, hm⟩ := m
              refine ⟨fun h3 => ⟨?_, ?_, ?_, ?_⟩, fun h3 => ?_⟩
              · try simp only [hH, stdH, decide_eq_true_eq, decide_eq_false_iff_not, Bool.not_eq_true', Bool.not_eq_false', peta, ncast, Int.ofNat_eq_natCast, beq_iff_eq, bne_iff_ne, beq_eq_false_iff_ne, bne_eq_false_iff_eq, ne_eq, Classical.not_not, Int.toNat_natCast, vrow_I, Arm.eta2, Fld.eta, Grp.eta]
                omega
              · try simp only [hH, stdH, decide_eq_true_eq, decide_eq_false_iff_not, Bool.not_eq_true', Bool.not_eq_false', peta, ncast, Int.ofNat_eq_natCast, beq_iff_eq, bne_iff_ne, beq_eq_false_iff_ne, bne_eq_false_iff_eq, ne_eq, Classical.not_not, Int.toNat_natCast, vrow_I, Arm.eta2, Fld.eta, Grp.eta]
                omega
              · simp only [hH, stdH, decide_eq_true_eq, decide_eq_false_iff_not, Bool.not_eq_true', Bool.not_eq_false', peta, ncast, Int.ofNat_eq_natCast, beq_iff_eq, bne_iff_ne, beq_eq_false_iff_ne, bne_eq_false_iff_eq, ne_eq, Classical.not_not, Int.toNat_natCast, vrow_I, Arm.eta2, Fld.eta, Grp.eta] at h3 ⊢
                omega
              · simp only [hH, stdH, decide_eq_true_eq, decide_eq_false_iff_not, Bool.not_eq_true', Bool.not_eq_false', peta, ncast, Int.ofNat_eq_natCast, beq_iff_eq, bne_iff_ne, beq_eq_false_iff_ne, bne_eq_false_iff_eq, ne_eq, Classical.not_not, Int.toNat_natCast, vrow_I, Arm.eta2, Fld.eta, Grp.eta] at h3
                have h3 : m < (chI a.r.t).length := by omega
                refine ⟨fun h5 => ⟨fun h6 => ⟨fun h7 => ⟨fun h4 => ?_, fun h4 => ?_⟩, fun h7 => ⟨fun h4 => ?_, fun h4 => ?_⟩⟩, fun h6 => ⟨fun h7 => ⟨fun h4 => ?_, fun h4 => ?_⟩, fun h7 => ⟨fun h4 => ?_, fun h4 => ?_⟩⟩⟩, fun h5 => ⟨fun h6 => ⟨fun h7 => ⟨fun h4 => ?_, fun h4 => ?_⟩, fun h7 => ⟨fun h4 => ?_, fun h4 => ?_⟩⟩, fun h6 => ⟨fun h7 => ⟨fun h4 => ?_, fun h4 => ?_⟩, fun h7 => ⟨fun h4 => ?_, fun h4 => ?_⟩⟩⟩⟩
                · skip
                  simp only [hH, stdH, decide_eq_true_eq, decide_eq_false_iff_not, Bool.not_eq_true', Bool.not_eq_false', peta, ncast, Int.ofNat_eq_natCast, beq_iff_eq, bne_iff_ne, beq_eq_false_iff_ne, bne_eq_false_iff_eq, ne_eq, Classical.not_not, Int.toNat_natCast, vrow_I, Arm.eta2, Fld.eta, Grp.eta] at h5
                  simp only [hH, stdH, decide_eq_true_eq, decide_eq_false_iff_not, Bool.not_eq_true', Bool.not_eq_false', peta, ncast, Int.ofNat_eq_natCast, beq_iff_eq, bne_iff_ne, beq_eq_false_iff_ne, bne_eq_false_iff_eq, ne_eq, Classical.not_not, Int.toNat_natCast, vrow_I, Arm.eta2, Fld.eta, Grp.eta] at h6
                  simp only [hH, stdH, decide_eq_true_eq, decide_eq_false_iff_not, Bool.not_eq_true', Bool.not_eq_false', peta, ncast, Int.ofNat_eq_natCast, beq_iff_eq, bne_iff_ne, beq_eq_false_iff_ne, bne_eq_false_iff_eq, ne_eq, Classical.not_not, Int.toNat_natCast, vrow_I, Arm.eta2, Fld.eta, Grp.eta] at h7
                  have hn : (IntKind.i64.wrap (IntKind.i64.wrap (IntKind.i64.wrap (0 + 1) + 1) + 1) : Int) = chg a ((chI a.t).getD i 0) ((chI a.n.t).getD k 0) ((chI a.r.t).getD m 0) := by
                    unfold chg
                    simp only [h5, h6, h7, eq_self, if_true, if_false]
                    rfl
                  simp only [hH, stdH, Int.toNat_natCast] at h4
                  have nn : Nn (rpZ a ((chI a.t).getD i 0) ((chI a.n.t).getD k 0) (rpY a ((chI a.t).getD i 0) (rpX a i) k) m) := rpZ_nn (rpY_nn (rpX_nn _) _) _
                  have h8 : rpT a (rpZ a ((chI a.t).getD i 0) ((chI a.n.t).getD k 0) (rpY a ((chI a.t).getD i 0) (rpX a i) k) m) ((chI a.t).getD i 0) ((chI a.n.t).getD k 0) ((chI a.r.t).getD m 0) = true := (rp_cs nn ((chI a.t).getD i 0) ((chI a.n.t).getD k 0) ((chI a.r.t).getD m 0) _ hn).symm.trans h4
                  have e5 : rpStep a ((chI a.t).getD i 0) ((chI a.n.t).getD k 0) (rpZ a ((chI a.t).getD i 0) ((chI a.n.t).getD k 0) (rpY a ((chI a.t).getD i 0) (rpX a i) k) m) ((chI a.r.t).getD m 0) = some (rTA a ((chI a.t).getD i 0) ((chI a.n.t).getD k 0) ((chI a.r.t).getD m 0), chg a ((chI a.t).getD i 0) ((chI a.n.t).getD k 0) ((chI a.r.t).getD m 0)) := if_pos h8
                  refine ⟨⟨m + 1, by omega⟩, by simp only; omega, ?_⟩
                  rw [hI3]
                  (conv in matchSt _ _ _ _ => cbv); simp only [AllG, AllP, and_true, hH, stdH, ncast, Int.ofNat_eq_natCast, vrow_I, Arm.eta2, Fld.eta, Grp.eta]
                  rw [w1 (by omega), rpZ_s h3, e5]
                  simp only [Int.toNat_natCast]
                  (repeat' (with_reducible refine And.intro ?_ ?_)) <;> (first | exact Eq.refl _ | exact True.intro | exact RowsEq.self okI | exact hn.symm)
                · skip
                  simp only [hH, stdH, decide_eq_true_eq, decide_eq_false_iff_not, Bool.not_eq_true', Bool.not_eq_false', peta, ncast, Int.ofNat_eq_natCast, beq_iff_eq, bne_iff_ne, beq_eq_false_iff_ne, bne_eq_false_iff_eq, ne_eq, Classical.not_not, Int.toNat_natCast, vrow_I, Arm.eta2, Fld.eta, Grp.eta] at h5
                  simp only [hH, stdH, decide_eq_true_eq, decide_eq_false_iff_not, Bool.not_eq_true', Bool.not_eq_false', peta, ncast, Int.ofNat_eq_natCast, beq_iff_eq, bne_iff_ne, beq_eq_false_iff_ne, bne_eq_false_iff_eq, ne_eq, Classical.not_not, Int.toNat_natCast, vrow_I, Arm.eta2, Fld.eta, Grp.eta] at h6
                  simp only [hH, stdH, decide_eq_true_eq, decide_eq_false_iff_not, Bool.not_eq_true', Bool.not_eq_false', peta, ncast, Int.ofNat_eq_natCast, beq_iff_eq, bne_iff_ne, beq_eq_false_iff_ne, bne_eq_false_iff_eq, ne_eq, Classical.not_not, Int.toNat_natCast, vrow_I, Arm.eta2, Fld.eta, Grp.eta] at h7
                  have hn : (IntKind.i64.wrap (IntKind.i64.wrap (IntKind.i64.wrap (0 + 1) + 1) + 1) : Int) = chg a ((chI a.t).getD i 0) ((chI a.n.t).getD k 0) ((chI a.r.t).getD m 0) := by
                    unfold chg
                    simp only [h5, h6, h7, eq_self, if_true, if_false]
                    rfl
                  simp only [hH, stdH, Int.toNat_natCast] at h4
                  have nn : Nn (rpZ a ((chI a.t).getD i 0) ((chI a.n.t).getD k 0) (rpY a ((chI a.t).getD i 0) (rpX a i) k) m) := rpZ_nn (rpY_nn (rpX_nn _) _) _
                  have h8 : rpT a (rpZ a ((chI a.t).getD i 0) ((chI a.n.t).getD k 0) (rpY a ((chI a.t).getD i 0) (rpX a i) k) m) ((chI a.t).getD i 0) ((chI a.n.t).getD k 0) ((chI a.r.t).getD m 0) = false := (rp_cs nn ((chI a.t).getD i 0) ((chI a.n.t).getD k 0) ((chI a.r.t).getD m 0) _ hn).symm.trans h4
                  have e5 : rpStep a ((chI a.t).getD i 0) ((chI a.n.t).getD k 0) (rpZ a ((chI a.t).getD i 0) ((chI a.n.t).getD k 0) (rpY a ((chI a.t).getD i 0) (rpX a i) k) m) ((chI a.r.t).getD m 0) = (rpZ a ((chI a.t).getD i 0) ((chI a.n.t).getD k 0) (rpY a ((chI a.t).getD i 0) (rpX a i) k) m) := if_neg (by rw [h8]; decide)
                  refine ⟨⟨m + 1, by omega⟩, by simp only; omega, ?_⟩
                  rw [hI3]
                  (conv in matchSt _ _ _ _ => cbv); simp only [AllG, AllP, and_true, hH, stdH, ncast, Int.ofNat_eq_natCast, vrow_I, Arm.eta2, Fld.eta, Grp.eta]
                  rw [w1 (by omega), rpZ_s h3, e5]
                  (repeat' (with_reducible refine And.intro ?_ ?_)) <;> (first | exact Eq.refl _ | exact True.intro | exact RowsEq.self okI)
                · skip
                  simp only [hH, stdH, decide_eq_true_eq, decide_eq_false_iff_not, Bool.not_eq_true', Bool.not_eq_false', peta, ncast, Int.ofNat_eq_natCast, beq_iff_eq, bne_iff_ne, beq_eq_false_iff_ne, bne_eq_false_iff_eq, ne_eq, Classical.not_not, Int.toNat_natCast, vrow_I, Arm.eta2, Fld.eta, Grp.eta] at h5
                  simp only [hH, stdH, decide_eq_true_eq, decide_eq_false_iff_not, Bool.not_eq_true', Bool.not_eq_false', peta, ncast, Int.ofNat_eq_natCast, beq_iff_eq, bne_iff_ne, beq_eq_false_iff_ne, bne_eq_false_iff_eq, ne_eq, Classical.not_not, Int.toNat_natCast, vrow_I, Arm.eta2, Fld.eta, Grp.eta] at h6
                  simp only [hH, stdH, decide_eq_true_eq, decide_eq_false_iff_not, Bool.not_eq_true', Bool.not_eq_false', peta, ncast, Int.ofNat_eq_natCast, beq_iff_eq, bne_iff_ne, beq_eq_false_iff_ne, bne_eq_false_iff_eq, ne_eq, Classical.not_not, Int.toNat_natCast, vrow_I, Arm.eta2, Fld.eta, Grp.eta] at h7
                  have hn : (IntKind.i64.wrap (IntKind.i64.wrap (0 + 1) + 1) : Int) = chg a ((chI a.t).getD i 0) ((chI a.n.t).getD k 0) ((chI a.r.t).getD m 0) := by
                    unfold chg
                    simp only [h5, h6, h7, eq_self, if_true, if_false]
                    rfl
                  simp only [hH, stdH, Int.toNat_natCast] at h4
                  have nn : Nn (rpZ a ((chI a.t).getD i 0) ((chI a.n.t).getD k 0) (rpY a ((chI a.t).getD i 0) (rpX a i) k) m) := rpZ_nn (rpY_nn (rpX_nn _) _) _
                  have h8 : rpT a (rpZ a ((chI a.t).getD i 0) ((chI a.n.t).getD k 0) (rpY a ((chI a.t).getD i 0) (rpX a i) k) m) ((chI a.t).getD i 0) ((chI a.n.t).getD k 0) ((chI a.r.t).getD m 0) = true := (rp_cs nn ((chI a.t).getD i 0) ((chI a.n.t).getD k 0) ((chI a.r.t).getD m 0) _ hn).symm.trans h4
                  have e5 : rpStep a ((chI a.t).getD i 0) ((chI a.n.t).getD k 0) (rpZ a ((chI a.t).getD i 0) ((chI a.n.t).getD k 0) (rpY a ((chI a.t).getD i 0) (rpX a i) k) m) ((chI a.r.t).getD m 0) = some (rTA a ((chI a.t).getD i 0) ((chI a.n.t).getD k 0) ((chI a.r.t).getD m 0), chg a ((chI a.t).getD i 0) ((chI a.n.t).getD k 0) ((chI a.r.t).getD m 0)) := if_pos h8
                  refine ⟨⟨m + 1, by omega⟩, by simp only; omega, ?_⟩
                  rw [hI3]
                  (conv in matchSt _ _ _ _ => cbv); simp only [AllG, AllP, and_true, hH, stdH, ncast, Int.ofNat_eq_natCast, vrow_I, Arm.eta2, Fld.eta, Grp.eta]
                  rw [w1 (by omega), rpZ_s h3, e5]
                  simp only [Int.toNat_natCast]
                  (repeat' (with_reducible refine And.intro ?_ ?_)) <;> (first | exact Eq.refl _ | exact True.intro | exact RowsEq.self okI | exact hn.symm)
                · skip
                  simp only [hH, stdH, decide_eq_true_eq, decide_eq_false_iff_not, Bool.not_eq_true', Bool.not_eq_false', peta, ncast, Int.ofNat_eq_natCast, beq_iff_eq, bne_iff_ne, beq_eq_false_iff_ne, bne_eq_false_iff_eq, ne_eq, Classical.not_not, Int.toNat_natCast, vrow_I, Arm.eta2, Fld.eta, Grp.eta] at h5
                  simp only [hH, stdH, decide_eq_true_eq, decide_eq_false_iff_not, Bool.not_eq_true', Bool.not_eq_false', peta, ncast, Int.ofNat_eq_natCast, beq_iff_eq, bne_iff_ne, beq_eq_false_iff_ne, bne_eq_false_iff_eq, ne_eq, Classical.not_not, Int.toNat_natCast, vrow_I, Arm.eta2, Fld.eta, Grp.eta] at h6
                  simp only [hH, stdH, decide_eq_true_eq, decide_eq_false_iff_not, Bool.not_eq_true', Bool.not_eq_false', peta, ncast, Int.ofNat_eq_natCast, beq_iff_eq, bne_iff_ne, beq_eq_false_iff_ne, bne_eq_false_iff_eq, ne_eq, Classical.not_not, Int.toNat_natCast, vrow_I, Arm.eta2, Fld.eta, Grp.eta] at h7
                  have hn : (IntKind.i64.wrap (IntKind.i64.wrap (0 + 1) + 1) : Int) = chg a ((chI a.t).getD i 0) ((chI a.n.t).getD k 0) ((chI a.r.t).getD m 0) := by
                    unfold chg
                    simp only [h5, h6, h7, eq_self, if_true, if_false]
                    rfl
                  simp only [hH, stdH, Int.toNat_natCast] at h4
                  have nn : Nn (rpZ a ((chI a.t).getD i 0) ((chI a.n.t).getD k 0) (rpY a ((chI a.t).getD i 0) (rpX a i) k) m) := rpZ_nn (rpY_nn (rpX_nn _) _) _
                  have h8 : rpT a (rpZ a ((chI a.t).getD i 0) ((chI a.n.t).getD k 0) (rpY a ((chI a.t).getD i 0) (rpX a i) k) m) ((chI a.t).getD i 0) ((chI a.n.t).getD k 0) ((chI a.r.t).getD m 0) = false := (rp_cs nn ((chI a.t).getD i 0) ((chI a.n.t).getD k 0) ((chI a.r.t).getD m 0) _ hn).symm.trans h4
                  have e5 : rpStep a ((chI a.t).getD i 0) ((chI a.n.t).getD k 0) (rpZ a ((chI a.t).getD i 0) ((chI a.n.t).getD k 0) (rpY a ((chI a.t).getD i 0) (rpX a i) k) m) ((chI a.r.t).getD m 0) = (rpZ a ((chI a.t).getD i 0) ((chI a.n.t).getD k 0) (rpY a ((chI a.t).getD i 0) (rpX a i) k) m) := if_neg (by rw [h8]; decide)
                  refine ⟨⟨m + 1, by omega⟩, by simp only; omega, ?_⟩
                  rw [hI3]
                  (conv in matchSt _ _ _ _ => cbv); simp only [AllG, AllP, and_true, hH, stdH, ncast, Int.ofNat_eq_natCast, vrow_I, Arm.eta2, Fld.eta, Grp.eta]
                  rw [w1 (by omega), rpZ_s h3, e5]
                  (repeat' (with_reducible refine And.intro ?_ ?_)) <;> (first | exact Eq.refl _ | exact True.intro | exact RowsEq.self okI)
                · skip
                  simp only [hH, stdH, decide_eq_true_eq, decide_eq_false_iff_not, Bool.not_eq_true', Bool.not_eq_false', peta, ncast, Int.ofNat_eq_natCast, beq_iff_eq, bne_iff_ne, beq_eq_false_iff_ne, bne_eq_false_iff_eq, ne_eq, Classical.not_not, Int.toNat_natCast, vrow_I, Arm.eta2, Fld.eta, Grp.eta] at h5
                  simp only [hH, stdH, decide_eq_true_eq, decide_eq_false_iff_not, Bool.not_eq_true', Bool.not_eq_false', peta, ncast, Int.ofNat_eq_natCast, beq_iff_eq, bne_iff_ne, beq_eq_false_iff_ne, bne_eq_false_iff_eq, ne_eq, Classical.not_not, Int.toNat_natCast, vrow_I, Arm.eta2, Fld.eta, Grp.eta] at h6
                  simp only [hH, stdH, decide_eq_true_eq, decide_eq_false_iff_not, Bool.not_eq_true', Bool.not_eq_false', peta, ncast, Int.ofNat_eq_natCast, beq_iff_eq, bne_iff_ne, beq_eq_false_iff_ne, bne_eq_false_iff_eq, ne_eq, Classical.not_not, Int.toNat_natCast, vrow_I, Arm.eta2, Fld.eta, Grp.eta] at h7
                  have hn : (IntKind.i64.wrap (IntKind.i64.wrap (0 + 1) + 1) : Int) = chg a ((chI a.t).getD i 0) ((chI a.n.t).getD k 0) ((chI a.r.t).getD m 0) := by
                    unfold chg
                    simp only [h5, h6, h7, eq_self, if_true, if_false]
                    rfl
                  simp only [hH, stdH, Int.toNat_natCast] at h4
                  have nn : Nn (rpZ a ((chI a.t).getD i 0) ((chI a.n.t).getD k 0) (rpY a ((chI a.t).getD i 0) (rpX a i) k) m) := rpZ_nn (rpY_nn (rpX_nn _) _) _
                  have h8 : rpT a (rpZ a ((chI a.t).getD i 0) ((chI a.n.t).getD k 0) (rpY a ((chI a.t).getD i 0) (rpX a i) k) m) ((chI a.t).getD i 0) ((chI a.n.t).getD k 0) ((chI a.r.t).getD m 0) = true := (rp_cs nn ((chI a.t).getD i 0) ((chI a.n.t).getD k 0) ((chI a.r.t).getD m 0) _ hn).symm.trans h4
                  have e5 : rpStep a ((chI a.t).getD i 0) ((chI a.n.t).getD k 0) (rpZ a ((chI a.t).getD i 0) ((chI a.n.t).getD k 0) (rpY a ((chI a.t).getD i 0) (rpX a i) k) m) ((chI a.r.t).getD m 0) = some (rTA a ((chI a.t).getD i 0) ((chI a.n.t).getD k 0) ((chI a.r.t).getD m 0), chg a ((chI a.t).getD i 0) ((chI a.n.t).getD k 0) ((chI a.r.t).getD m 0)) := if_pos h8
                  refine ⟨⟨m + 1, by omega⟩, by simp only; omega, ?_⟩
                  rw [hI3]
                  (conv in matchSt _ _ _ _ => cbv); simp only [AllG, AllP, and_true, hH, stdH, ncast, Int.ofNat_eq_natCast, vrow_I, Arm.eta2, Fld.eta, Grp.eta]
                  rw [w1 (by omega), rpZ_s h3, e5]
                  simp only [Int.toNat_natCast]
                  (repeat' (with_reducible refine And.intro ?_ ?_)) <;> (first | exact Eq.refl _ | exact True.intro | exact RowsEq.self okI | exact hn.symm)
                · skip
                  simp only [hH, stdH, decide_eq_true_eq, decide_eq_false_iff_not, Bool.not_eq_true', Bool.not_eq_false', peta, ncast, Int.ofNat_eq_natCast, beq_iff_eq, bne_iff_ne, beq_eq_false_iff_ne, bne_eq_false_iff_eq, ne_eq, Classical.not_not, Int.toNat_natCast, vrow_I, Arm.eta2, Fld.eta, Grp.eta] at h5
                  simp only [hH, stdH, decide_eq_true_eq, decide_eq_false_iff_not, Bool.not_eq_true', Bool.not_eq_false', peta, ncast, Int.ofNat_eq_natCast, beq_iff_eq, bne_iff_ne, beq_eq_false_iff_ne, bne_eq_false_iff_eq, ne_eq, Classical.not_not, Int.toNat_natCast, vrow_I, Arm.eta2, Fld.eta, Grp.eta] at h6
                  simp only [hH, stdH, decide_eq_true_eq, decide_eq_false_iff_not, Bool.not_eq_true', Bool.not_eq_false', peta, ncast, Int.ofNat_eq_natCast, beq_iff_eq, bne_iff_ne, beq_eq_false_iff_ne, bne_eq_false_iff_eq, ne_eq, Classical.not_not, Int.toNat_natCast, vrow_I, Arm.eta2, Fld.eta, Grp.eta] at h7
                  have hn : (IntKind.i64.wrap (IntKind.i64.wrap (0 + 1) + 1) : Int) = chg a ((chI a.t).getD i 0) ((chI a.n.t).getD k 0) ((chI a.r.t).getD m 0) := by
                    unfold chg
                    simp only [h5, h6, h7, eq_self, if_true, if_false]
                    rfl
                  simp only [hH, stdH, Int.toNat_natCast] at h4
                  have nn : Nn (rpZ a ((chI a.t).getD i 0) ((chI a.n.t).getD k 0) (rpY a ((chI a.t).getD i 0) (rpX a i) k) m) := rpZ_nn (rpY_nn (rpX_nn _) _) _
                  have h8 : rpT a (rpZ a ((chI a.t).getD i 0) ((chI a.n.t).getD k 0) (rpY a ((chI a.t).getD i 0) (rpX a i) k) m) ((chI a.t).getD i 0) ((chI a.n.t).getD k 0) ((chI a.r.t).getD m 0) = false := (rp_cs nn ((chI a.t).getD i 0) ((chI a.n.t).getD k 0) ((chI a.r.t).getD m 0) _ hn).symm.trans h4
                  have e5 : rpStep a ((chI a.t).getD i 0) ((chI a.n.t).getD k 0) (rpZ a ((chI a.t).getD i 0) ((chI a.n.t).getD k 0) (rpY a ((chI a.t).getD i 0) (rpX a i) k) m) ((chI a.r.t).getD m 0) = (rpZ a ((chI a.t).getD i 0) ((chI a.n.t).getD k 0) (rpY a ((chI a.t).getD i 0) (rpX a i) k) m) := if_neg (by rw [h8]; decide)
                  refine ⟨⟨m + 1, by omega⟩, by simp only; omega, ?_⟩
                  rw [hI3]
                  (conv in matchSt _ _ _ _ => cbv); simp only [AllG, AllP, and_true, hH, stdH, ncast, Int.ofNat_eq_natCast, vrow_I, Arm.eta2, Fld.eta, Grp.eta]
                  rw [w1 (by omega), rpZ_s h3, e5]
                  (repeat' (with_reducible refine And.intro ?_ ?_)) <;> (first | exact Eq.refl _ | exact True.intro | exact RowsEq.self okI)
                · skip
                  simp only [hH, stdH, decide_eq_true_eq, decide_eq_false_iff_not, Bool.not_eq_true', Bool.not_eq_false', peta, ncast, Int.ofNat_eq_natCast, beq_iff_eq, bne_iff_ne, beq_eq_false_iff_ne, bne_eq_false_iff_eq, ne_eq, Classical.not_not, Int.toNat_natCast, vrow_I, Arm.eta2, Fld.eta, Grp.eta] at h5
                  simp only [hH, stdH, decide_eq_true_eq, decide_eq_false_iff_not, Bool.not_eq_true', Bool.not_eq_false', peta, ncast, Int.ofNat_eq_natCast, beq_iff_eq, bne_iff_ne, beq_eq_false_iff_ne, bne_eq_false_iff_eq, ne_eq, Classical.not_not, Int.toNat_natCast, vrow_I, Arm.eta2, Fld.eta, Grp.eta] at h6
                  simp only [hH, stdH, decide_eq_true_eq, decide_eq_false_iff_not, Bool.not_eq_true', Bool.not_eq_false', peta, ncast, Int.ofNat_eq_natCast, beq_iff_eq, bne_iff_ne, beq_eq_false_iff_ne, bne_eq_false_iff_eq, ne_eq, Classical.not_not, Int.toNat_natCast, vrow_I, Arm.eta2, Fld.eta, Grp.eta] at h7
                  have hn : (IntKind.i64.wrap (0 + 1) : Int) = chg a ((chI a.t).getD i 0) ((chI a.n.t).getD k 0) ((chI a.r.t).getD m 0) := by
                    unfold chg
                    simp only [h5, h6, h7, eq_self, if_true, if_false]
                    rfl
                  simp only [hH, stdH, Int.toNat_natCast] at h4
                  have nn : Nn (rpZ a ((chI a.t).getD i 0) ((chI a.n.t).getD k 0) (rpY a ((chI a.t).getD i 0) (rpX a i) k) m) := rpZ_nn (rpY_nn (rpX_nn _) _) _
                  have h8 : rpT a (rpZ a ((chI a.t).getD i 0) ((chI a.n.t).getD k 0) (rpY a ((chI a.t).getD i 0) (rpX a i) k) m) ((chI a.t).getD i 0) ((chI a.n.t).getD k 0) ((chI a.r.t).getD m 0) = true := (rp_cs nn ((chI a.t).getD i 0) ((chI a.n.t).getD k 0) ((chI a.r.t).getD m 0) _ hn).symm.trans h4
                  have e5 : rpStep a ((chI a.t).getD i 0) ((chI a.n.t).getD k 0) (rpZ a ((chI a.t).getD i 0) ((chI a.n.t).getD k 0) (rpY a ((chI a.t).getD i 0) (rpX a i) k) m) ((chI a.r.t).getD m 0) = some (rTA a ((chI a.t).getD i 0) ((chI a.n.t).getD k 0) ((chI a.r.t).getD m 0), chg a ((chI a.t).getD i 0) ((chI a.n.t).getD k 0) ((chI a.r.t).getD m 0)) := if_pos h8
                  refine ⟨⟨m + 1, by omega⟩, by simp only; omega, ?_⟩
                  rw [hI3]
                  (conv in matchSt _ _ _ _ => cbv); simp only [AllG, AllP, and_true, hH, stdH, ncast, Int.ofNat_eq_natCast, vrow_I, Arm.eta2, Fld.eta, Grp.eta]
                  rw [w1 (by omega), rpZ_s h3, e5]
                  simp only [Int.toNat_natCast]
                  (repeat' (with_reducible refine And.intro ?_ ?_)) <;> (first | exact Eq.refl _ | exact True.intro | exact RowsEq.self okI | exact hn.symm)
                · skip
                  simp only [hH, stdH, decide_eq_true_eq, decide_eq_false_iff_not, Bool.not_eq_true', Bool.not_eq_false', peta, ncast, Int.ofNat_eq_natCast, beq_iff_eq, bne_iff_ne, beq_eq_false_iff_ne, bne_eq_false_iff_eq, ne_eq, Classical.not_not, Int.toNat_natCast, vrow_I, Arm.eta2, Fld.eta, Grp.eta] at h5
                  simp only [hH, stdH, decide_eq_true_eq, decide_eq_false_iff_not, Bool.not_eq_true', Bool.not_eq_false', peta, ncast, Int.ofNat_eq_natCast, beq_iff_eq, bne_iff_ne, beq_eq_false_iff_ne, bne_eq_false_iff_eq, ne_eq, Classical.not_not, Int.toNat_natCast, vrow_I, Arm.eta2, Fld.eta, Grp.eta] at h6
                  simp only [hH, stdH, decide_eq_true_eq, decide_eq_false_iff_not, Bool.not_eq_true', Bool.not_eq_false', peta, ncast, Int.ofNat_eq_natCast, beq_iff_eq, bne_iff_ne, beq_eq_false_iff_ne, bne_eq_false_iff_eq, ne_eq, Classical.not_not, Int.toNat_natCast, vrow_I, Arm.eta2, Fld.eta, Grp.eta] at h7
                  have hn : (IntKind.i64.wrap (0 + 1) : Int) = chg a ((chI a.t).getD i 0) ((chI a.n.t).getD k 0) ((chI a.r.t).getD m 0) := by
                    unfold chg
                    simp only [h5, h6, h7, eq_self, if_true, if_false]
                    rfl
                  simp only [hH, stdH, Int.toNat_natCast] at h4
                  have nn : Nn (rpZ a ((chI a.t).getD i 0) ((chI a.n.t).getD k 0) (rpY a ((chI a.t).getD i 0) (rpX a i) k) m) := rpZ_nn (rpY_nn (rpX_nn _) _) _
                  have h8 : rpT a (rpZ a ((chI a.t).getD i 0) ((chI a.n.t).getD k 0) (rpY a ((chI a.t).getD i 0) (rpX a i) k) m) ((chI a.t).getD i 0) ((chI a.n.t).getD k 0) ((chI a.r.t).getD m 0) = false := (rp_cs nn ((chI a.t).getD i 0) ((chI a.n.t).getD k 0) ((chI a.r.t).getD m 0) _ hn).symm.trans h4
                  have e5 : rpStep a ((chI a.t).getD i 0) ((chI a.n.t).getD k 0) (rpZ a ((chI a.t).getD i 0) ((chI a.n.t).getD k 0) (rpY a ((chI a.t).getD i 0) (rpX a i) k) m) ((chI a.r.t).getD m 0) = (rpZ a ((chI a.t).getD i 0) ((chI a.n.t).getD k 0) (rpY a ((chI a.t).getD i 0) (rpX a i) k) m) := if_neg (by rw [h8]; decide)
                  refine ⟨⟨m + 1, by omega⟩, by simp only; omega, ?_⟩
                  rw [hI3]
                  (conv in matchSt _ _ _ _ => cbv); simp only [AllG, AllP, and_true, hH, stdH, ncast, Int.ofNat_eq_natCast, vrow_I, Arm.eta2, Fld.eta, Grp.eta]
                  rw [w1 (by omega), rpZ_s h3, e5]
                  (repeat' (with_reducible refine And.intro ?_ ?_)) <;> (first | exact Eq.refl _ | exact True.intro | exact RowsEq.self okI)
                · skip
                  simp only [hH, stdH, decide_eq_true_eq, decide_eq_false_iff_not, Bool.not_eq_true', Bool.not_eq_false', peta, ncast, Int.ofNat_eq_natCast, beq_iff_eq, bne_iff_ne, beq_eq_false_iff_ne, bne_eq_false_iff_eq, ne_eq, Classical.not_not, Int.toNat_natCast, vrow_I, Arm.eta2, Fld.eta, Grp.eta] at h5
                  simp only [hH, stdH, decide_eq_true_eq, decide_eq_false_iff_not, Bool.not_eq_true', Bool.not_eq_false', peta, ncast, Int.ofNat_eq_natCast, beq_iff_eq, bne_iff_ne, beq_eq_false_iff_ne, bne_eq_false_iff_eq, ne_eq, Classical.not_not, Int.toNat_natCast, vrow_I, Arm.eta2, Fld.eta, Grp.eta] at h6
                  simp only [hH, stdH, decide_eq_true_eq, decide_eq_false_iff_not, Bool.not_eq_true', Bool.not_eq_false', peta, ncast, Int.ofNat_eq_natCast, beq_iff_eq, bne_iff_ne, beq_eq_false_iff_ne, bne_eq_false_iff_eq, ne_eq, Classical.not_not, Int.toNat_natCast, vrow_I, Arm.eta2, Fld.eta, Grp.eta] at h7
                  have hn : (IntKind.i64.wrap (IntKind.i64.wrap (0 + 1) + 1) : Int) = chg a ((chI a.t).getD i 0) ((chI a.n.t).getD k 0) ((chI a.r.t).getD m 0) := by
                    unfold chg
                    simp only [h5, h6, h7, eq_self, if_true, if_false]
                    rfl
                  simp only [hH, stdH, Int.toNat_natCast] at h4
                  have nn : Nn (rpZ a ((chI a.t).getD i 0) ((chI a.n.t).getD k 0) (rpY a ((chI a.t).getD i 0) (rpX a i) k) m) := rpZ_nn (rpY_nn (rpX_nn _) _) _
                  have h8 : rpT a (rpZ a ((chI a.t).getD i 0) ((chI a.n.t).getD k 0) (rpY a ((chI a.t).getD i 0) (rpX a i) k) m) ((chI a.t).getD i 0) ((chI a.n.t).getD k 0) ((chI a.r.t).getD m 0) = true := (rp_cs nn ((chI a.t).getD i 0) ((chI a.n.t).getD k 0) ((chI a.r.t).getD m 0) _ hn).symm.trans h4
                  have e5 : rpStep a ((chI a.t).getD i 0) ((chI a.n.t).getD k 0) (rpZ a ((chI a.t).getD i 0) ((chI a.n.t).getD k 0) (rpY a ((chI a.t).getD i 0) (rpX a i) k) m) ((chI a.r.t).getD m 0) = some (rTA a ((chI a.t).getD i 0) ((chI a.n.t).getD k 0) ((chI a.r.t).getD m 0), chg a ((chI a.t).getD i 0) ((chI a.n.t).getD k 0) ((chI a.r.t).getD m 0)) := if_pos h8
                  refine ⟨⟨m + 1, by omega⟩, by simp only; omega, ?_⟩
                  rw [hI3]
                  (conv in matchSt _ _ _ _ => cbv); simp only [AllG, AllP, and_true, hH, stdH, ncast, Int.ofNat_eq_natCast, vrow_I, Arm.eta2, Fld.eta, Grp.eta]
                  rw [w1 (by omega), rpZ_s h3, e5]
                  simp only [Int.toNat_natCast]
                  (repeat' (with_reducible refine And.intro ?_ ?_)) <;> (first | exact Eq.refl _ | exact True.intro | exact RowsEq.self okI | exact hn.symm)
                · skip
                  simp only [hH, stdH, decide_eq_true_eq, decide_eq_false_iff_not, Bool.not_eq_true', Bool.not_eq_false', peta, ncast, Int.ofNat_eq_natCast, beq_iff_eq, bne_iff_ne, beq_eq_false_iff_ne, bne_eq_false_iff_eq, ne_eq, Classical.not_not, Int.toNat_natCast, vrow_I, Arm.eta2, Fld.eta, Grp.eta] at h5
                  simp only [hH, stdH, decide_eq_true_eq, decide_eq_false_iff_not, Bool.not_eq_true', Bool.not_eq_false', peta, ncast, Int.ofNat_eq_natCast, beq_iff_eq, bne_iff_ne, beq_eq_false_iff_ne, bne_eq_false_iff_eq, ne_eq, Classical.not_not, Int.toNat_natCast, vrow_I, Arm.eta2, Fld.eta, Grp.eta] at h6
                  simp only [hH, stdH, decide_eq_true_eq, decide_eq_false_iff_not, Bool.not_eq_true', Bool.not_eq_false', peta, ncast, Int.ofNat_eq_natCast, beq_iff_eq, bne_iff_ne, beq_eq_false_iff_ne, bne_eq_false_iff_eq, ne_eq, Classical.not_not, Int.toNat_natCast, vrow_I, Arm.eta2, Fld.eta, Grp.eta] at h7
                  have hn : (IntKind.i64.wrap (IntKind.i64.wrap (0 + 1) + 1) : Int) = chg a ((chI a.t).getD i 0) ((chI a.n.t).getD k 0) ((chI a.r.t).getD m 0) := by
                    unfold chg
                    simp only [h5, h6, h7, eq_self, if_true, if_false]
                    rfl
                  simp only [hH, stdH, Int.toNat_natCast] at h4
                  have nn : Nn (rpZ a ((chI a.t).getD i 0) ((chI a.n.t).getD k 0) (rpY a ((chI a.t).getD i 0) (rpX a i) k) m) := rpZ_nn (rpY_nn (rpX_nn _) _) _
                  have h8 : rpT a (rpZ a ((chI a.t).getD i 0) ((chI a.n.t).getD k 0) (rpY a ((chI a.t).getD i 0) (rpX a i) k) m) ((chI a.t).getD i 0) ((chI a.n.t).getD k 0) ((chI a.r.t).getD m 0) = false := (rp_cs nn ((chI a.t).getD i 0) ((chI a.n.t).getD k 0) ((chI a.r.t).getD m 0) _ hn).symm.trans h4
                  have e5 : rpStep a ((chI a.t).getD i 0) ((chI a.n.t).getD k 0) (rpZ a ((chI a.t).getD i 0) ((chI a.n.t).getD k 0) (rpY a ((chI a.t).getD i 0) (rpX a i) k) m) ((chI a.r.t).getD m 0) = (rpZ a ((chI a.t).getD i 0) ((chI a.n.t).getD k 0) (rpY a ((chI a.t).getD i 0) (rpX a i) k) m) := if_neg (by rw [h8]; decide)
                  refine ⟨⟨m + 1, by omega⟩, by simp only; omega, ?_⟩
                  rw [hI3]
                  (conv in matchSt _ _ _ _ => cbv); simp only [AllG, AllP, and_true, hH, stdH, ncast, Int.ofNat_eq_natCast, vrow_I, Arm.eta2, Fld.eta, Grp.eta]
                  rw [w1 (by omega), rpZ_s h3, e5]
                  (repeat' (with_reducible refine And.intro ?_ ?_)) <;> (first | exact Eq.refl _ | exact True.intro | exact RowsEq.self okI)
                · skip
                  simp only [hH, stdH, decide_eq_true_eq, decide_eq_false_iff_not, Bool.not_eq_true', Bool.not_eq_false', peta, ncast, Int.ofNat_eq_natCast, beq_iff_eq, bne_iff_ne, beq_eq_false_iff_ne, bne_eq_false_iff_eq, ne_eq, Classical.not_not, Int.toNat_natCast, vrow_I, Arm.eta2, Fld.eta, Grp.eta] at h5
                  simp only [hH, stdH, decide_eq_true_eq, decide_eq_false_iff_not, Bool.not_eq_true', Bool.not_eq_false', peta, ncast, Int.ofNat_eq_natCast, beq_iff_eq, bne_iff_ne, beq_eq_false_iff_ne, bne_eq_false_iff_eq, ne_eq, Classical.not_not, Int.toNat_natCast, vrow_I, Arm.eta2, Fld.eta, Grp.eta] at h6
                  simp only [hH, stdH, decide_eq_true_eq, decide_eq_false_iff_not, Bool.not_eq_true', Bool.not_eq_false', peta, ncast, Int.ofNat_eq_natCast, beq_iff_eq, bne_iff_ne, beq_eq_false_iff_ne, bne_eq_false_iff_eq, ne_eq, Classical.not_not, Int.toNat_natCast, vrow_I, Arm.eta2, Fld.eta, Grp.eta] at h7
                  have hn : (IntKind.i64.wrap (0 + 1) : Int) = chg a ((chI a.t).getD i 0) ((chI a.n.t).getD k 0) ((chI a.r.t).getD m 0) := by
                    unfold chg
                    simp only [h5, h6, h7, eq_self, if_true, if_false]
                    rfl
                  simp only [hH, stdH, Int.toNat_natCast] at h4
                  have nn : Nn (rpZ a ((chI a.t).getD i 0) ((chI a.n.t).getD k 0) (rpY a ((chI a.t).getD i 0) (rpX a i) k) m) := rpZ_nn (rpY_nn (rpX_nn _) _) _
                  have h8 : rpT a (rpZ a ((chI a.t).getD i 0) ((chI a.n.t).getD k 0) (rpY a ((chI a.t).getD i 0) (rpX a i) k) m) ((chI a.t).getD i 0) ((chI a.n.t).getD k 0) ((chI a.r.t).getD m 0) = true := (rp_cs nn ((chI a.t).getD i 0) ((chI a.n.t).getD k 0) ((chI a.r.t).getD m 0) _ hn).symm.trans h4
                  have e5 : rpStep a ((chI a.t).getD i 0) ((chI a.n.t).getD k 0) (rpZ a ((chI a.t).getD i 0) ((chI a.n.t).getD k 0) (rpY a ((chI a.t).getD i 0) (rpX a i) k) m) ((chI a.r.t).getD m 0) = some (rTA a ((chI a.t).getD i 0) ((chI a.n.t).getD k 0) ((chI a.r.t).getD m 0), chg a ((chI a.t).getD i 0) ((chI a.n.t).getD k 0) ((chI a.r.t).getD m 0)) := if_pos h8
                  refine ⟨⟨m + 1, by omega⟩, by simp only; omega, ?_⟩
                  rw [hI3]
                  (conv in matchSt _ _ _ _ => cbv); simp only [AllG, AllP, and_true, hH, stdH, ncast, Int.ofNat_eq_natCast, vrow_I, Arm.eta2, Fld.eta, Grp.eta]
                  rw [w1 (by omega), rpZ_s h3, e5]
                  simp only [Int.toNat_natCast]
                  (repeat' (with_reducible refine And.intro ?_ ?_)) <;> (first | exact Eq.refl _ | exact True.intro | exact RowsEq.self okI | exact hn.symm)
                · skip
                  simp only [hH, stdH, decide_eq_true_eq, decide_eq_false_iff_not, Bool.not_eq_true', Bool.not_eq_false', peta, ncast, Int.ofNat_eq_natCast, beq_iff_eq, bne_iff_ne, beq_eq_false_iff_ne, bne_eq_false_iff_eq, ne_eq, Classical.not_not, Int.toNat_natCast, vrow_I, Arm.eta2, Fld.eta, Grp.eta] at h5
                  simp only [hH, stdH, decide_eq_true_eq, decide_eq_false_iff_not, Bool.not_eq_true', Bool.not_eq_false', peta, ncast, Int.ofNat_eq_natCast, beq_iff_eq, bne_iff_ne, beq_eq_false_iff_ne, bne_eq_false_iff_eq, ne_eq, Classical.not_not, Int.toNat_natCast, vrow_I, Arm.eta2, Fld.eta, Grp.eta] at h6
                  simp only [hH, stdH, decide_eq_true_eq, decide_eq_false_iff_not, Bool.not_eq_true', Bool.not_eq_false', peta, ncast, Int.ofNat_eq_natCast, beq_iff_eq, bne_iff_ne, beq_eq_false_iff_ne, bne_eq_false_iff_eq, ne_eq, Classical.not_not, Int.toNat_natCast, vrow_I, Arm.eta2, Fld.eta, Grp.eta] at h7
                  have hn : (IntKind.i64.wrap (0 + 1) : Int) = chg a ((chI a.t).getD i 0) ((chI a.n.t).getD k 0) ((chI a.r.t).getD m 0) := by
                    unfold chg
                    simp only [h5, h6, h7, eq_self, if_true, if_false]
                    rfl
                  simp only [hH, stdH, Int.toNat_natCast] at h4
                  have nn : Nn (rpZ a ((chI a.t).getD i 0) ((chI a.n.t).getD k 0) (rpY a ((chI a.t).getD i 0) (rpX a i) k) m) := rpZ_nn (rpY_nn (rpX_nn _) _) _
                  have h8 : rpT a (rpZ a ((chI a.t).getD i 0) ((chI a.n.t).getD k 0) (rpY a ((chI a.t).getD i 0) (rpX a i) k) m) ((chI a.t).getD i 0) ((chI a.n.t).getD k 0) ((chI a.r.t).getD m 0) = false := (rp_cs nn ((chI a.t).getD i 0) ((chI a.n.t).getD k 0) ((chI a.r.t).getD m 0) _ hn).symm.trans h4
                  have e5 : rpStep a ((chI a.t).getD i 0) ((chI a.n.t).getD k 0) (rpZ a ((chI a.t).getD i 0) ((chI a.n.t).getD k 0) (rpY a ((chI a.t).getD i 0) (rpX a i) k) m) ((chI a.r.t).getD m 0) = (rpZ a ((chI a.t).getD i 0) ((chI a.n.t).getD k 0) (rpY a ((chI a.t).getD i 0) (rpX a i) k) m) := if_neg (by rw [h8]; decide)
                  refine ⟨⟨m + 1, by omega⟩, by simp only; omega, ?_⟩
                  rw [hI3]
                  (conv in matchSt _ _ _ _ => cbv); simp only [AllG, AllP, and_true, hH, stdH, ncast, Int.ofNat_eq_natCast, vrow_I, Arm.eta2, Fld.eta, Grp.eta]
                  rw [w1 (by omega), rpZ_s h3, e5]
                  (repeat' (with_reducible refine And.intro ?_ ?_)) <;> (first | exact Eq.refl _ | exact True.intro | exact RowsEq.self okI)
                · skip
                  simp only [hH, stdH, decide_eq_true_eq, decide_eq_false_iff_not, Bool.not_eq_true', Bool.not_eq_false', peta, ncast, Int.ofNat_eq_natCast, beq_iff_eq, bne_iff_ne, beq_eq_false_iff_ne, bne_eq_false_iff_eq, ne_eq, Classical.not_not, Int.toNat_natCast, vrow_I, Arm.eta2, Fld.eta, Grp.eta] at h5
                  simp only [hH, stdH, decide_eq_true_eq, decide_eq_false_iff_not, Bool.not_eq_true', Bool.not_eq_false', peta, ncast, Int.ofNat_eq_natCast, beq_iff_eq, bne_iff_ne, beq_eq_false_iff_ne, bne_eq_false_iff_eq, ne_eq, Classical.not_not, Int.toNat_natCast, vrow_I, Arm.eta2, Fld.eta, Grp.eta] at h6
                  simp only [hH, stdH, decide_eq_true_eq, decide_eq_false_iff_not, Bool.not_eq_true', Bool.not_eq_false', peta, ncast, Int.ofNat_eq_natCast, beq_iff_eq, bne_iff_ne, beq_eq_false_iff_ne, bne_eq_false_iff_eq, ne_eq, Classical.not_not, Int.toNat_natCast, vrow_I, Arm.eta2, Fld.eta, Grp.eta] at h7
                  have hn : (IntKind.i64.wrap (0 + 1) : Int) = chg a ((chI a.t).getD i 0) ((chI a.n.t).getD k 0) ((chI a.r.t).getD m 0) := by
                    unfold chg
                    simp only [h5, h6, h7, eq_self, if_true, if_false]
                    rfl
                  simp only [hH, stdH, Int.toNat_natCast] at h4
                  have nn : Nn (rpZ a ((chI a.t).getD i 0) ((chI a.n.t).getD k 0) (rpY a ((chI a.t).getD i 0) (rpX a i) k) m) := rpZ_nn (rpY_nn (rpX_nn _) _) _
                  have h8 : rpT a (rpZ a ((chI a.t).getD i 0) ((chI a.n.t).getD k 0) (rpY a ((chI a.t).getD i 0) (rpX a i) k) m) ((chI a.t).getD i 0) ((chI a.n.t).getD k 0) ((chI a.r.t).getD m 0) = true := (rp_cs nn ((chI a.t).getD i 0) ((chI a.n.t).getD k 0) ((chI a.r.t).getD m 0) _ hn).symm.trans h4
                  have e5 : rpStep a ((chI a.t).getD i 0) ((chI a.n.t).getD k 0) (rpZ a ((chI a.t).getD i 0) ((chI a.n.t).getD k 0) (rpY a ((chI a.t).getD i 0) (rpX a i) k) m) ((chI a.r.t).getD m 0) = some (rTA a ((chI a.t).getD i 0) ((chI a.n.t).getD k 0) ((chI a.r.t).getD m 0), chg a ((chI a.t).getD i 0) ((chI a.n.t).getD k 0) ((chI a.r.t).getD m 0)) := if_pos h8
                  refine ⟨⟨m + 1, by omega⟩, by simp only; omega, ?_⟩
                  rw [hI3]
                  (conv in matchSt _ _ _ _ => cbv); simp only [AllG, AllP, and_true, hH, stdH, ncast, Int.ofNat_eq_natCast, vrow_I, Arm.eta2, Fld.eta, Grp.eta]
                  rw [w1 (by omega), rpZ_s h3, e5]
                  simp only [Int.toNat_natCast]
                  (repeat' (with_reducible refine And.intro ?_ ?_)) <;> (first | exact Eq.refl _ | exact True.intro | exact RowsEq.self okI | exact hn.symm)
                · skip
                  simp only [hH, stdH, decide_eq_true_eq, decide_eq_false_iff_not, Bool.not_eq_true', Bool.not_eq_false', peta, ncast, Int.ofNat_eq_natCast, beq_iff_eq, bne_iff_ne, beq_eq_false_iff_ne, bne_eq_false_iff_eq, ne_eq, Classical.not_not, Int.toNat_natCast, vrow_I, Arm.eta2, Fld.eta, Grp.eta] at h5
                  simp only [hH, stdH, decide_eq_true_eq, decide_eq_false_iff_not, Bool.not_eq_true', Bool.not_eq_false', peta, ncast, Int.ofNat_eq_natCast, beq_iff_eq, bne_iff_ne, beq_eq_false_iff_ne, bne_eq_false_iff_eq, ne_eq, Classical.not_not, Int.toNat_natCast, vrow_I, Arm.eta2, Fld.eta, Grp.eta] at h6
                  simp only [hH, stdH, decide_eq_true_eq, decide_eq_false_iff_not, Bool.not_eq_true', Bool.not_eq_false', peta, ncast, Int.ofNat_eq_natCast, beq_iff_eq, bne_iff_ne, beq_eq_false_iff_ne, bne_eq_false_iff_eq, ne_eq, Classical.not_not, Int.toNat_natCast, vrow_I, Arm.eta2, Fld.eta, Grp.eta] at h7
                  have hn : (IntKind.i64.wrap (0 + 1) : Int) = chg a ((chI a.t).getD i 0) ((chI a.n.t).getD k 0) ((chI a.r.t).getD m 0) := by
                    unfold chg
                    simp only [h5, h6, h7, eq_self, if_true, if_false]
                    rfl
                  simp only [hH, stdH, Int.toNat_natCast] at h4
                  have nn : Nn (rpZ a ((chI a.t).getD i 0) ((chI a.n.t).getD k 0) (rpY a ((chI a.t).getD i 0) (rpX a i) k) m) := rpZ_nn (rpY_nn (rpX_nn _) _) _
                  have h8 : rpT a (rpZ a ((chI a.t).getD i 0) ((chI a.n.t).getD k 0) (rpY a ((chI a.t).getD i 0) (rpX a i) k) m) ((chI a.t).getD i 0) ((chI a.n.t).getD k 0) ((chI a.r.t).getD m 0) = false := (rp_cs nn ((chI a.t).getD i 0) ((chI a.n.t).getD k 0) ((chI a.r.t).getD m 0) _ hn).symm.trans h4
                  have e5 : rpStep a ((chI a.t).getD i 0) ((chI a.n.t).getD k 0) (rpZ a ((chI a.t).getD i 0) ((chI a.n.t).getD k 0) (rpY a ((chI a.t).getD i 0) (rpX a i) k) m) ((chI a.r.t).getD m 0) = (rpZ a ((chI a.t).getD i 0) ((chI a.n.t).getD k 0) (rpY a ((chI a.t).getD i 0) (rpX a i) k) m) := if_neg (by rw [h8]; decide)
                  refine ⟨⟨m + 1, by omega⟩, by simp only; omega, ?_⟩
                  rw [hI3]
                  (conv in matchSt _ _ _ _ => cbv); simp only [AllG, AllP, and_true, hH, stdH, ncast, Int.ofNat_eq_natCast, vrow_I, Arm.eta2, Fld.eta, Grp.eta]
                  rw [w1 (by omega), rpZ_s h3, e5]
                  (repeat' (with_reducible refine And.intro ?_ ?_)) <;> (first | exact Eq.refl _ | exact True.intro | exact RowsEq.self okI)
                · skip
                  simp only [hH, stdH, decide_eq_true_eq, decide_eq_false_iff_not, Bool.not_eq_true', Bool.not_eq_false', peta, ncast, Int.ofNat_eq_natCast, beq_iff_eq, bne_iff_ne, beq_eq_false_iff_ne, bne_eq_false_iff_eq, ne_eq, Classical.not_not, Int.toNat_natCast, vrow_I, Arm.eta2, Fld.eta, Grp.eta] at h5
                  simp only [hH, stdH, decide_eq_true_eq, decide_eq_false_iff_not, Bool.not_eq_true', Bool.not_eq_false', peta, ncast, Int.ofNat_eq_natCast, beq_iff_eq, bne_iff_ne, beq_eq_false_iff_ne, bne_eq_false_iff_eq, ne_eq, Classical.not_not, Int.toNat_natCast, vrow_I, Arm.eta2, Fld.eta, Grp.eta] at h6
                  simp only [hH, stdH, decide_eq_true_eq, decide_eq_false_iff_not, Bool.not_eq_true', Bool.not_eq_false', peta, ncast, Int.ofNat_eq_natCast, beq_iff_eq, bne_iff_ne, beq_eq_false_iff_ne, bne_eq_false_iff_eq, ne_eq, Classical.not_not, Int.toNat_natCast, vrow_I, Arm.eta2, Fld.eta, Grp.eta] at h7
                  have hn : (0 : Int) = chg a ((chI a.t).getD i 0) ((chI a.n.t).getD k 0) ((chI a.r.t).getD m 0) := by
                    unfold chg
                    simp only [h5, h6, h7, eq_self, if_true, if_false]
                    rfl
                  simp only [hH, stdH, Int.toNat_natCast] at h4
                  have nn : Nn (rpZ a ((chI a.t).getD i 0) ((chI a.n.t).getD k 0) (rpY a ((chI a.t).getD i 0) (rpX a i) k) m) := rpZ_nn (rpY_nn (rpX_nn _) _) _
                  have h8 : rpT a (rpZ a ((chI a.t).getD i 0) ((chI a.n.t).getD k 0) (rpY a ((chI a.t).getD i 0) (rpX a i) k) m) ((chI a.t).getD i 0) ((chI a.n.t).getD k 0) ((chI a.r.t).getD m 0) = true := (rp_cs nn ((chI a.t).getD i 0) ((chI a.n.t).getD k 0) ((chI a.r.t).getD m 0) _ hn).symm.trans h4
                  have e5 : rpStep a ((chI a.t).getD i 0) ((chI a.n.t).getD k 0) (rpZ a ((chI a.t).getD i 0) ((chI a.n.t).getD k 0) (rpY a ((chI a.t).getD i 0) (rpX a i) k) m) ((chI a.r.t).getD m 0) = some (rTA a ((chI a.t).getD i 0) ((chI a.n.t).getD k 0) ((chI a.r.t).getD m 0), chg a ((chI a.t).getD i 0) ((chI a.n.t).getD k 0) ((chI a.r.t).getD m 0)) := if_pos h8
                  refine ⟨⟨m + 1, by omega⟩, by simp only; omega, ?_⟩
                  rw [hI3]
                  (conv in matchSt _ _ _ _ => cbv); simp only [AllG, AllP, and_true, hH, stdH, ncast, Int.ofNat_eq_natCast, vrow_I, Arm.eta2, Fld.eta, Grp.eta]
                  rw [w1 (by omega), rpZ_s h3, e5]
                  simp only [Int.toNat_natCast]
                  (repeat' (with_reducible refine And.intro ?_ ?_)) <;> (first | exact Eq.refl _ | exact True.intro | exact RowsEq.self okI | exact hn.symm)
                · skip
                  simp only [hH, stdH, decide_eq_true_eq, decide_eq_false_iff_not, Bool.not_eq_true', Bool.not_eq_false', peta, ncast, Int.ofNat_eq_natCast, beq_iff_eq, bne_iff_ne, beq_eq_false_iff_ne, bne_eq_false_iff_eq, ne_eq, Classical.not_not, Int.toNat_natCast, vrow_I, Arm.eta2, Fld.eta, Grp.eta] at h5
                  simp only [hH, stdH, decide_eq_true_eq, decide_eq_false_iff_not, Bool.not_eq_true', Bool.not_eq_false', peta, ncast, Int.ofNat_eq_natCast, beq_iff_eq, bne_iff_ne, beq_eq_false_iff_ne, bne_eq_false_iff_eq, ne_eq, Classical.not_not, Int.toNat_natCast, vrow_I, Arm.eta2, Fld.eta, Grp.eta] at h6
                  simp only [hH, stdH, decide_eq_true_eq, decide_eq_false_iff_not, Bool.not_eq_true', Bool.not_eq_false', peta, ncast, Int.ofNat_eq_natCast, beq_iff_eq, bne_iff_ne, beq_eq_false_iff_ne, bne_eq_false_iff_eq, ne_eq, Classical.not_not, Int.toNat_natCast, vrow_I, Arm.eta2, Fld.eta, Grp.eta] at h7
                  have hn : (0 : Int) = chg a ((chI a.t).getD i 0) ((chI a.n.t).getD k 0) ((chI a.r.t).getD m 0) := by
                    unfold chg
                    simp only [h5, h6, h7, eq_self, if_true, if_false]
                    rfl
                  simp only [hH, stdH, Int.toNat_natCast] at h4
                  have nn : Nn (rpZ a ((chI a.t).getD i 0) ((chI a.n.t).getD k 0) (rpY a ((chI a.t).getD i 0) (rpX a i) k) m) := rpZ_nn (rpY_nn (rpX_nn _) _) _
                  have h8 : rpT a (rpZ a ((chI a.t).getD i 0) ((chI a.n.t).getD k 0) (rpY a ((chI a.t).getD i 0) (rpX a i) k) m) ((chI a.t).getD i 0) ((chI a.n.t).getD k 0) ((chI a.r.t).getD m 0) = false := (rp_cs nn ((chI a.t).getD i 0) ((chI a.n.t).getD k 0) ((chI a.r.t).getD m 0) _ hn).symm.trans h4
                  have e5 : rpStep a ((chI a.t).getD i 0) ((chI a.n.t).getD k 0) (rpZ a ((chI a.t).getD i 0) ((chI a.n.t).getD k 0) (rpY a ((chI a.t).getD i 0) (rpX a i) k) m) ((chI a.r.t).getD m 0) = (rpZ a ((chI a.t).getD i 0) ((chI a.n.t).getD k 0) (rpY a ((chI a.t).getD i 0) (rpX a i) k) m) := if_neg (by rw [h8]; decide)
                  refine ⟨⟨m + 1, by omega⟩, by simp only; omega, ?_⟩
                  rw [hI3]
                  (conv in matchSt _ _ _ _ => cbv); simp only [AllG, AllP, and_true, hH, stdH, ncast, Int.ofNat_eq_natCast, vrow_I, Arm.eta2, Fld.eta, Grp.eta]
                  rw [w1 (by omega), rpZ_s h3, e5]
                  (repeat' (with_reducible refine And.intro ?_ ?_)) <;> (first | exact Eq.refl _ | exact True.intro | exact RowsEq.self okI)
              · skip
                simp only [hH, stdH, decide_eq_true_eq, decide_eq_false_iff_not, Bool.not_eq_true', Bool.not_eq_false', peta, ncast, Int.ofNat_eq_natCast, beq_iff_eq, bne_iff_ne, beq_eq_false_iff_ne, bne_eq_false_iff_eq, ne_eq, Classical.not_not, Int.toNat_natCast, vrow_I, Arm.eta2, Fld.eta, Grp.eta] at h3
                obtain rfl : m = (chI a.r.t).length := by omega
                rw [if_neg (by decide)]
                refine ⟨⟨k + 1, by omega⟩, by simp only; omega, ?_⟩
                rw [hI2]
                (conv in matchSt _ _ _ _ => cbv); simp only [AllG, AllP, and_true, hH, stdH, ncast, Int.ofNat_eq_natCast, vrow_I, Arm.eta2, Fld.eta, Grp.eta]
                rw [w1 (by omega), rpY_s h2]
                (repeat' (with_reducible refine And.intro ?_ ?_)) <;> (first | exact Eq.refl _ | exact True.intro | exact RowsEq.self okI)
          · simp only [hH, stdH, decide_eq_true_eq, decide_eq_false_iff_not, Bool.not_eq_true', Bool.not_eq_false', peta, ncast, Int.ofNat_eq_natCast, beq_iff_eq, bne_iff_ne, beq_eq_false_iff_ne, bne_eq_false_iff_eq, ne_eq, Classical.not_not, Int.toNat_natCast, vrow_I, Arm.eta2, Fld.eta, Grp.eta] at h2
            obtain rfl : k = (chI a.n.t).length := by omega
            rw [if_neg (by decide)]
            refine ⟨⟨i + 1, by omega⟩, by simp only; omega, ?_⟩
            rw [hI]
            (conv in matchSt _ _ _ _ => cbv); simp only [AllG, AllP, and_true, hH, stdH, ncast, Int.ofNat_eq_natCast, vrow_I, Arm.eta2, Fld.eta, Grp.eta]
            rw [w1 (by omega), rpX_s h1]
            (repeat' (with_reducible refine And.intro ?_ ?_)) <;> (first | exact Eq.refl _ | exact True.intro | exact RowsEq.self okI)
      · simp only [hH, stdH, decide_eq_true_eq, decide_eq_false_iff_not, Bool.not_eq_true', Bool.not_eq_false', peta, ncast, Int.ofNat_eq_natCast, beq_iff_eq, bne_iff_ne, beq_eq_false_iff_ne, bne_eq_false_iff_eq, ne_eq, Classical.not_not, Int.toNat_natCast, vrow_I, Arm.eta2, Fld.eta, Grp.eta] at h1
        obtain rfl : i = (chI a.t).length := by omega
        simp only [hH, stdH, Int.toNat_natCast] at h2
        rw [← rp_def] at h2
        obtain ⟨e1, e2, e3⟩ := rp_none2 h h2
        simp only [e1, e2, e3]
        try simp only [hH, stdH, decide_eq_true_eq, decide_eq_false_iff_not, Bool.not_eq_true', Bool.not_eq_false', peta, ncast, Int.ofNat_eq_natCast, beq_iff_eq, bne_iff_ne, beq_eq_false_iff_ne, bne_eq_false_iff_eq, ne_eq, Classical.not_not, Int.toNat_natCast, vrow_I, Arm.eta2, Fld.eta, Grp.eta]
        (repeat' (with_reducible refine And.intro ?_ ?_)) <;> (first | exact Eq.refl _ | exact True.intro | exact RowsEq.self okI)
      · simp only [hH, stdH, decide_eq_true_eq, decide_eq_false_iff_not, Bool.not_eq_true', Bool.not_eq_false', peta, ncast, Int.ofNat_eq_natCast, beq_iff_eq, bne_iff_ne, beq_eq_false_iff_ne, bne_eq_false_iff_eq, ne_eq, Classical.not_not, Int.toNat_natCast, vrow_I, Arm.eta2, Fld.eta, Grp.eta] at h1
        obtain rfl : i = (chI a.t).length := by omega
        simp only [hH, stdH, Int.toNat_natCast] at h2
        rw [← rp_def] at h2
        obtain ⟨e1, e2, e3⟩ := rp_some2 h h2
        simp only [e1, e2, e3, rp_def]
        try simp only [hH, stdH, decide_eq_true_eq, decide_eq_false_iff_not, Bool.not_eq_true', Bool.not_eq_false', peta, ncast, Int.ofNat_eq_natCast, beq_iff_eq, bne_iff_ne, beq_eq_false_iff_ne, bne_eq_false_iff_eq, ne_eq, Classical.not_not, Int.toNat_natCast, vrow_I, Arm.eta2, Fld.eta, Grp.eta]
        (repeat' (with_reducible refine And.intro ?_ ?_)) <;> (first | exact Eq.refl _ | exact True.intro | exact RowsEq.self okI)
noncomputable def e_repairS : Entry := pureE 15 fun H a => match a with
  | [.agg [.lit (.int .i64 a0), .lit (.int .i64 a1), .lit (.int .i64 a2), .lit (.int .i64 a3), .lit (.int .i64 a4), .lit (.int .i64 a5), .lit (.int .i64 a6), .lit (.int .i64 a7), .lit (.int .i64 a8), .lit (.int .i64 a9), .lit (.int .i64 a10), .lit (.int .i64 a11), .lit (.int .i64 a12), .lit (.int .i64 a13), .lit (.int .i64 a14)]] => some (.tup [aT rowA H fun _ => rpA (⟨⟨a0, a1, a2, a3⟩, a4, a5, a6, ⟨a7, a8, a9, a10⟩, ⟨a11, a12, a13, a14⟩⟩ : Arm), .lit (.int .i64 (H Int fun _ => rpN (⟨⟨a0, a1, a2, a3⟩, a4, a5, a6, ⟨a7, a8, a9, a10⟩, ⟨a11, a12, a13, a14⟩⟩ : Arm))), .lit (.bool (H Bool fun _ => rpO (⟨⟨a0, a1, a2, a3⟩, a4, a5, a6, ⟨a7, a8, a9, a10⟩, ⟨a11, a12, a13, a14⟩⟩ : Arm)))], [])
  | _ => none
theorem eok_repairS : EntryOk Try.prog e_repairS := pureM_ok (by unfold isBody; kernel_rfl) (by
  intro a r ob e hob
  split at e
  · rename_i a0 a1 a2 a3 a4 a5 a6 a7 a8 a9 a10 a11 a12 a13 a14
    simp only [Option.some.injEq, Prod.mk.injEq] at e
    obtain ⟨rfl, rfl⟩ := e
    exact ConN.args (.cons .rfl .nil) (c_repairS (⟨⟨a0, a1, a2, a3⟩, a4, a5, a6, ⟨a7, a8, a9, a10⟩, ⟨a11, a12, a13, a14⟩⟩ : Arm) )
  · simp at e)


end Go.Proofs.Ytoommgpcmgnpaaa.AM
