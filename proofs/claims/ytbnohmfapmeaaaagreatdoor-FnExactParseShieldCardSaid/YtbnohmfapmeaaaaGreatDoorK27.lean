/- Lemmas and contracts (Shy); conditions: none. -/
import Derived.Test.YtbnohmfapmeaaaaGreatDoorK03
import Derived.Test.YtbnohmfapmeaaaaGreatDoorK25
import Derived.Test.YtbnohmfapmeaaaaGreatDoorK26
set_option linter.unusedVariables false
set_option linter.unusedSimpArgs false
set_option maxRecDepth 100000
set_option maxHeartbeats 4000000
set_option cbv.maxSteps 3000000
namespace Go.Proofs.YtbnohmfapmeaaaaGreatDoor.AM
/- Texts of shields: the program's; conditions: none. -/
theorem jnB_le (s : ByteArray) : ∀ (L : List ByteArray) (m : Nat), (∀ x ∈ L, x.size ≤ m) → (jnB L s).size ≤ L.length * (m + s.size)
  | [], m, _ => Nat.zero_le _
  | [x], m, h => by
    have := h x (List.mem_cons_self)
    rw [jnB_one, List.length_singleton]
    omega
  | x :: y :: L, m, h => by
    have ih := jnB_le s (y :: L) m fun z hz => h z (List.mem_cons_of_mem _ hz)
    have h1 := h x List.mem_cons_self
    have e : (jnB (x :: y :: L) s).size = x.size + (s.size + (jnB (y :: L) s).size) := by
      have e2 : (jnB (x :: y :: L) s) = x ++ (s ++ jnB (y :: L) s) := by
        apply ByteArray.ext; apply Array.ext'
        unfold jnB
        rw [List.map_cons, List.map_cons, Lib.join_cons, Lib.join_cons]
        simp [Lib.joinTail]
      rw [e2, ByteArray.size_append, ByteArray.size_append]
    rw [e, List.length_cons, Nat.succ_mul]
    omega
theorem nmS_mem (l : List Arm) (x : Arm) : ∀ k, k ≤ 90 → (nmS l x k).length ≤ k ∧ ∀ w ∈ nmS l x k, w.size ≤ 2
  | 0, _ => ⟨Nat.le_refl 0, fun w h => by cases h⟩
  | k + 1, h => by
    obtain ⟨h1, h2⟩ := nmS_mem l x k (by omega)
    unfold nmS
    split
    · refine ⟨by rw [List.length_append, List.length_singleton]; omega, fun w hw => ?_⟩
      rcases List.mem_append.1 hw with hw | hw
      · exact h2 w hw
      · rw [List.mem_singleton] at hw
        rw [hw]; exact numD_sz (by omega)
    · exact ⟨by omega, h2⟩
theorem c_textH (s : Shd) (h0 : okH s = true) : ConN Tryz.prog 146 [aT rowH stdH fun _ => s] [] 0 (.lit (.string (stdH ByteArray fun _ => shT s))) [] [] := by
  have hB : Base Tryz.prog (tabΓ [e_differentH, e_armText, e_itoaS, e_join]) tabO := base_of tabOkO (ents_cons eok_differentH <| ents_cons eok_armText <| ents_cons eok_itoaS <| ents_cons eok_join <| ents_nil)
  refine con_m (N := 81) hB (draw_ok hB mixed) Tryz.func146 rfl rfl (fun H => [aT rowH H fun _ => s]) (fun _ => []) 0 (fun H => .lit (.string (H ByteArray fun _ => shT s))) (fun H => []) (fun _ => []) 400 (by simp) (fun x hx => ?_) (by simp [lk]) (by omega) (by simp) ?_
  · simp only [List.mem_cons, List.not_mem_nil, or_false] at hx
    rcases hx with rfl
    · exact aT_bl okRH _ _
  intro X hX hX0 H hH
  conv in Fin.chk _ _ => cbv
  try simp only [Plain_rowsA, Plain_rowsB, Plain_rowsC, Plain_rowsF, Plain_rowsG, Plain_rowsI, Plain_rowsS, Plain_rowsU, Fin.satC_ret, Fin.satC_br, Fin.satC_need, Fin.satC_again, AllP, and_true, true_and, upd, List.length_nil, List.length_cons, Nat.zero_add, if_true, ncast, Int.ofNat_eq_natCast]
  obtain ⟨g1, g2, g3⟩ := okH_in h0
  simp only [hetaA hH]
  have a0 : 1 ≤ s.parts.length → okA (s.parts.getD 0 default) = true := fun h => g3 _ (by
    rw [List.getD_eq_getElem?_getD, List.getElem?_eq_getElem (by omega), Option.getD_some]
    exact List.getElem_mem _)
  have a1 : 2 ≤ s.parts.length → okA (s.parts.getD 1 default) = true := fun h => g3 _ (by
    rw [List.getD_eq_getElem?_getD, List.getElem?_eq_getElem (by omega), Option.getD_some]
    exact List.getElem_mem _)
  refine ⟨fun h1 => ⟨?_, ?_, ?_⟩, fun h1 => ⟨fun h2 => ?_, fun h2 => ?_⟩⟩
  · simp only [hH, stdH, Nat.le_refl, decide_eq_true_eq, decide_eq_false_iff_not, Bool.not_eq_true', Bool.not_eq_false', peta, ncast, Int.ofNat_eq_natCast, beq_iff_eq, bne_iff_ne, beq_eq_false_iff_ne, bne_eq_false_iff_eq, ne_eq, Classical.not_not, Int.toNat_natCast, vrow_I, Arm.eta2, Fld.eta, Grp.eta] at h1
    rw [h1] at g2
    have g2 : (s.parts.length : Int) = 1 := g2
    try simp only [hH, stdH, Nat.le_refl, decide_eq_true_eq, decide_eq_false_iff_not, Bool.not_eq_true', Bool.not_eq_false', peta, ncast, Int.ofNat_eq_natCast, beq_iff_eq, bne_iff_ne, beq_eq_false_iff_ne, bne_eq_false_iff_eq, ne_eq, Classical.not_not, Int.toNat_natCast, vrow_I, Arm.eta2, Fld.eta, Grp.eta]
    omega
  · simp only [hH, stdH, Nat.le_refl, decide_eq_true_eq, decide_eq_false_iff_not, Bool.not_eq_true', Bool.not_eq_false', peta, ncast, Int.ofNat_eq_natCast, beq_iff_eq, bne_iff_ne, beq_eq_false_iff_ne, bne_eq_false_iff_eq, ne_eq, Classical.not_not, Int.toNat_natCast, vrow_I, Arm.eta2, Fld.eta, Grp.eta] at h1
    rw [h1] at g2
    have g2 : (s.parts.length : Int) = 1 := g2
    try simp only [hH, stdH, Nat.le_refl, decide_eq_true_eq, decide_eq_false_iff_not, Bool.not_eq_true', Bool.not_eq_false', peta, ncast, Int.ofNat_eq_natCast, beq_iff_eq, bne_iff_ne, beq_eq_false_iff_ne, bne_eq_false_iff_eq, ne_eq, Classical.not_not, Int.toNat_natCast, vrow_I, Arm.eta2, Fld.eta, Grp.eta]
    exact a0 (by omega)
  · simp only [hH, stdH, Nat.le_refl, decide_eq_true_eq, decide_eq_false_iff_not, Bool.not_eq_true', Bool.not_eq_false', peta, ncast, Int.ofNat_eq_natCast, beq_iff_eq, bne_iff_ne, beq_eq_false_iff_ne, bne_eq_false_iff_eq, ne_eq, Classical.not_not, Int.toNat_natCast, vrow_I, Arm.eta2, Fld.eta, Grp.eta] at h1
    try simp only [hH, stdH, Nat.le_refl, decide_eq_true_eq, decide_eq_false_iff_not, Bool.not_eq_true', Bool.not_eq_false', peta, ncast, Int.ofNat_eq_natCast, beq_iff_eq, bne_iff_ne, beq_eq_false_iff_ne, bne_eq_false_iff_eq, ne_eq, Classical.not_not, Int.toNat_natCast, vrow_I, Arm.eta2, Fld.eta, Grp.eta]
    unfold shT
    rw [if_pos h1]; rfl
  · have q1 : s.mode ≠ 1 := by
      simp only [hH, stdH, Nat.le_refl, decide_eq_true_eq, decide_eq_false_iff_not, Bool.not_eq_true', Bool.not_eq_false', peta, ncast, Int.ofNat_eq_natCast, beq_iff_eq, bne_iff_ne, beq_eq_false_iff_ne, bne_eq_false_iff_eq, ne_eq, Classical.not_not, Int.toNat_natCast, vrow_I, Arm.eta2, Fld.eta, Grp.eta] at h1
      exact h1
    simp only [hH, stdH, Nat.le_refl, decide_eq_true_eq, decide_eq_false_iff_not, Bool.not_eq_true', Bool.not_eq_false', peta, ncast, Int.ofNat_eq_natCast, beq_iff_eq, bne_iff_ne, beq_eq_false_iff_ne, bne_eq_false_iff_eq, ne_eq, Classical.not_not, Int.toNat_natCast, vrow_I, Arm.eta2, Fld.eta, Grp.eta] at h2
    rw [h2] at g2
    have g2 : (s.parts.length : Int) = 2 := g2
    have b0 := armT_sz (s.parts.getD 0 default)
    have b1 := armT_sz (s.parts.getD 1 default)
    refine ⟨?_, ?_, ?_, ?_, ?_, ?_, ?_, ?_⟩
    · try simp only [hH, stdH, Nat.le_refl, decide_eq_true_eq, decide_eq_false_iff_not, Bool.not_eq_true', Bool.not_eq_false', peta, ncast, Int.ofNat_eq_natCast, beq_iff_eq, bne_iff_ne, beq_eq_false_iff_ne, bne_eq_false_iff_eq, ne_eq, Classical.not_not, Int.toNat_natCast, vrow_I, Arm.eta2, Fld.eta, Grp.eta]
      omega
    · try simp only [hH, stdH, Nat.le_refl, decide_eq_true_eq, decide_eq_false_iff_not, Bool.not_eq_true', Bool.not_eq_false', peta, ncast, Int.ofNat_eq_natCast, beq_iff_eq, bne_iff_ne, beq_eq_false_iff_ne, bne_eq_false_iff_eq, ne_eq, Classical.not_not, Int.toNat_natCast, vrow_I, Arm.eta2, Fld.eta, Grp.eta]
      exact a0 (by omega)
    · try simp only [hH, stdH, Nat.le_refl, decide_eq_true_eq, decide_eq_false_iff_not, Bool.not_eq_true', Bool.not_eq_false', peta, ncast, Int.ofNat_eq_natCast, beq_iff_eq, bne_iff_ne, beq_eq_false_iff_ne, bne_eq_false_iff_eq, ne_eq, Classical.not_not, Int.toNat_natCast, vrow_I, Arm.eta2, Fld.eta, Grp.eta]
      simp only [bsz, List.length_cons, List.length_nil]
      show _ + (armT (s.parts.getD 0 default)).size ≤ _
      omega
    · try simp only [hH, stdH, Nat.le_refl, decide_eq_true_eq, decide_eq_false_iff_not, Bool.not_eq_true', Bool.not_eq_false', peta, ncast, Int.ofNat_eq_natCast, beq_iff_eq, bne_iff_ne, beq_eq_false_iff_ne, bne_eq_false_iff_eq, ne_eq, Classical.not_not, Int.toNat_natCast, vrow_I, Arm.eta2, Fld.eta, Grp.eta]
      simp only [ByteArray.size_append, bsz, List.length_cons, List.length_nil]
      show _ + (armT (s.parts.getD 0 default)).size + _ ≤ _
      omega
    · try simp only [hH, stdH, Nat.le_refl, decide_eq_true_eq, decide_eq_false_iff_not, Bool.not_eq_true', Bool.not_eq_false', peta, ncast, Int.ofNat_eq_natCast, beq_iff_eq, bne_iff_ne, beq_eq_false_iff_ne, bne_eq_false_iff_eq, ne_eq, Classical.not_not, Int.toNat_natCast, vrow_I, Arm.eta2, Fld.eta, Grp.eta]
      omega
    · try simp only [hH, stdH, Nat.le_refl, decide_eq_true_eq, decide_eq_false_iff_not, Bool.not_eq_true', Bool.not_eq_false', peta, ncast, Int.ofNat_eq_natCast, beq_iff_eq, bne_iff_ne, beq_eq_false_iff_ne, bne_eq_false_iff_eq, ne_eq, Classical.not_not, Int.toNat_natCast, vrow_I, Arm.eta2, Fld.eta, Grp.eta]
      exact a1 (by omega)
    · try simp only [hH, stdH, Nat.le_refl, decide_eq_true_eq, decide_eq_false_iff_not, Bool.not_eq_true', Bool.not_eq_false', peta, ncast, Int.ofNat_eq_natCast, beq_iff_eq, bne_iff_ne, beq_eq_false_iff_ne, bne_eq_false_iff_eq, ne_eq, Classical.not_not, Int.toNat_natCast, vrow_I, Arm.eta2, Fld.eta, Grp.eta]
      simp only [ByteArray.size_append, bsz, List.length_cons, List.length_nil]
      show _ + (armT (s.parts.getD 0 default)).size + _ + (armT (s.parts.getD 1 default)).size ≤ _
      omega
    · try simp only [hH, stdH, Nat.le_refl, decide_eq_true_eq, decide_eq_false_iff_not, Bool.not_eq_true', Bool.not_eq_false', peta, ncast, Int.ofNat_eq_natCast, beq_iff_eq, bne_iff_ne, beq_eq_false_iff_ne, bne_eq_false_iff_eq, ne_eq, Classical.not_not, Int.toNat_natCast, vrow_I, Arm.eta2, Fld.eta, Grp.eta]
      unfold shT
      rw [if_neg q1, if_pos h2]
      simp only [ByteArray.append_assoc]
      rfl
  have q1 : s.mode ≠ 1 := by
    simp only [hH, stdH, Nat.le_refl, decide_eq_true_eq, decide_eq_false_iff_not, Bool.not_eq_true', Bool.not_eq_false', peta, ncast, Int.ofNat_eq_natCast, beq_iff_eq, bne_iff_ne, beq_eq_false_iff_ne, bne_eq_false_iff_eq, ne_eq, Classical.not_not, Int.toNat_natCast, vrow_I, Arm.eta2, Fld.eta, Grp.eta] at h1
    exact h1
  have q2 : s.mode ≠ 2 := by
    simp only [hH, stdH, Nat.le_refl, decide_eq_true_eq, decide_eq_false_iff_not, Bool.not_eq_true', Bool.not_eq_false', peta, ncast, Int.ofNat_eq_natCast, beq_iff_eq, bne_iff_ne, beq_eq_false_iff_ne, bne_eq_false_iff_eq, ne_eq, Classical.not_not, Int.toNat_natCast, vrow_I, Arm.eta2, Fld.eta, Grp.eta] at h2
    exact h2
  have g3' : s.mode = 3 := by omega
  rw [g3'] at g2
  have g2 : (s.parts.length : Int) = 4 := g2
  have hT : shT s = (⟨⟨[113, 117, 97, 114, 116, 101, 114, 108, 121, 58, 32]⟩⟩ : ByteArray) ++ jnB ((fs1 s.parts s.parts.length).map (shP s.parts)) (⟨⟨[59, 32]⟩⟩ : ByteArray) := by
    unfold shT
    rw [if_neg q1, if_neg q2]
  have hF := fs1_len s.parts s.parts.length
  have hM := fs1_mem s.parts s.parts.length
  rw [hT]
  simp only [TlA_HS hH]
  generalize fs1 s.parts s.parts.length = F at *
  refine ⟨⟨?_, ?_⟩, ?_⟩
  · try simp only [hH, stdH, Nat.le_refl, decide_eq_true_eq, decide_eq_false_iff_not, Bool.not_eq_true', Bool.not_eq_false', peta, ncast, Int.ofNat_eq_natCast, beq_iff_eq, bne_iff_ne, beq_eq_false_iff_ne, bne_eq_false_iff_eq, ne_eq, Classical.not_not, Int.toNat_natCast, vrow_I, Arm.eta2, Fld.eta, Grp.eta]
    exact Shp_A _ _
  · try simp only [hH, stdH, Nat.le_refl, decide_eq_true_eq, decide_eq_false_iff_not, Bool.not_eq_true', Bool.not_eq_false', peta, ncast, Int.ofNat_eq_natCast, beq_iff_eq, bne_iff_ne, beq_eq_false_iff_ne, bne_eq_false_iff_eq, ne_eq, Classical.not_not, Int.toNat_natCast, vrow_I, Arm.eta2, Fld.eta, Grp.eta]
    omega
  refine loop_a hB (draw_ok hB mixed) hX hX0 hH false (ι := { i : Nat // i ≤ F.length }) 400 (fun i => [.r (H Nat fun _ => ((F.take i.1).map (shP s.parts)).length) (rowsS H fun _ => (F.take i.1).map (shP s.parts)), .i (H Int fun _ => (i.1 : Nat))]) (fun i => F.length - i.1) (⟨0, by omega⟩) ?_ ?_
  · (conv in matchSt _ _ _ _ => cbv); simp only [AllG, AllP, and_true, hH, stdH, Nat.le_refl, ncast, Int.ofNat_eq_natCast, vrow_I, Arm.eta2, Fld.eta, Grp.eta]
    all_goals (repeat' (with_reducible refine And.intro ?_ ?_)) <;> (first | exact Eq.refl _ | exact True.intro | exact Nat.le_refl _ | exact RowsEq.self okRA | exact RowsEq.ofT okRA rfl (Shp_zero _) rfl | exact RowsEq.snoc okRA rfl | exact RowsEq.self okI | exact RowsEq.ofT okI rfl (Shp_zero _) rfl | exact RowsEq.snoc okI rfl | exact RowsEq.more okI (Shp_I _ _) (Tl_I _) | exact RowsEq.self okS | exact RowsEq.ofT okS rfl (Shp_zero _) rfl | exact RowsEq.snoc okS rfl | exact RowsEq.more okS (Shp_S _ _) (Tl_S _) | exact List.length_append | exact c.rqN)
  · intro I hI i
    conv in Fin.chk _ _ => cbv
    try simp only [Plain_rowsA, Plain_rowsB, Plain_rowsC, Plain_rowsF, Plain_rowsG, Plain_rowsI, Plain_rowsS, Plain_rowsU, Fin.satC_ret, Fin.satC_br, Fin.satC_need, Fin.satC_again, AllP, and_true, true_and, upd, List.length_nil, List.length_cons, Nat.zero_add, if_true, ncast, Int.ofNat_eq_natCast]
    obtain ⟨i, hi⟩ := i
    refine ⟨fun h3 => ⟨?_, ?_, ?_⟩, fun h3 => ?_⟩
    · simp only [hH, stdH, Nat.le_refl, decide_eq_true_eq, decide_eq_false_iff_not, Bool.not_eq_true', Bool.not_eq_false', peta, ncast, Int.ofNat_eq_natCast, beq_iff_eq, bne_iff_ne, beq_eq_false_iff_ne, bne_eq_false_iff_eq, ne_eq, Classical.not_not, Int.toNat_natCast, vrow_I, Arm.eta2, Fld.eta, Grp.eta] at h3 ⊢
      omega
    · simp only [hH, stdH, Nat.le_refl, decide_eq_true_eq, decide_eq_false_iff_not, Bool.not_eq_true', Bool.not_eq_false', peta, ncast, Int.ofNat_eq_natCast, beq_iff_eq, bne_iff_ne, beq_eq_false_iff_ne, bne_eq_false_iff_eq, ne_eq, Classical.not_not, Int.toNat_natCast, vrow_I, Arm.eta2, Fld.eta, Grp.eta] at h3 ⊢
      exact ⟨by omega, rfl⟩
    · simp only [hH, stdH, Nat.le_refl, decide_eq_true_eq, decide_eq_false_iff_not, Bool.not_eq_true', Bool.not_eq_false', peta, ncast, Int.ofNat_eq_natCast, beq_iff_eq, bne_iff_ne, beq_eq_false_iff_ne, bne_eq_false_iff_eq, ne_eq, Classical.not_not, Int.toNat_natCast, vrow_I, Arm.eta2, Fld.eta, Grp.eta] at h3
      have h3 : i < F.length := by omega
      have hx := hM (F.getD i 0) (by rw [List.getD_eq_getElem?_getD, List.getElem?_eq_getElem h3, Option.getD_some]; exact List.getElem_mem _)
      have g0 : 0 ≤ s.parts.length := Nat.zero_le _
      refine loop_c hB (draw_ok hB mixed) hX hX0 hH [1, 2, 3, 35, 36, 37, 5, 6, 43, 44, 45] (ι := { k : Nat // k ≤ s.parts.length }) 400 (fun k => [.r (H Nat fun _ => (nmS s.parts (s.parts.getD (F.getD i 0).toNat default) k.1).length) (rowsS H fun _ => nmS s.parts (s.parts.getD (F.getD i 0).toNat default) k.1), .i (H Int fun _ => (k.1 : Nat))]) (fun k => s.parts.length - k.1) (⟨0, g0⟩) ?_ ?_
      · (conv in matchSt _ _ _ _ => cbv); simp only [AllG, AllP, and_true, hH, stdH, Nat.le_refl, ncast, Int.ofNat_eq_natCast, vrow_I, Arm.eta2, Fld.eta, Grp.eta]
        all_goals (repeat' (with_reducible refine And.intro ?_ ?_)) <;> (first | exact Eq.refl _ | exact True.intro | exact Nat.le_refl _ | exact RowsEq.self okRA | exact RowsEq.ofT okRA rfl (Shp_zero _) rfl | exact RowsEq.snoc okRA rfl | exact RowsEq.self okI | exact RowsEq.ofT okI rfl (Shp_zero _) rfl | exact RowsEq.snoc okI rfl | exact RowsEq.more okI (Shp_I _ _) (Tl_I _) | exact RowsEq.self okS | exact RowsEq.ofT okS rfl (Shp_zero _) rfl | exact RowsEq.snoc okS rfl | exact RowsEq.more okS (Shp_S _ _) (Tl_S _) | exact List.length_append | exact c.rqN)
      · intro I2 hI2 k
        conv in Fin.chk _ _ => cbv
        try simp only [Plain_rowsA, Plain_rowsB, Plain_rowsC, Plain_rowsF, Plain_rowsG, Plain_rowsI, Plain_rowsS, Plain_rowsU, Fin.satC_ret, Fin.satC_br, Fin.satC_need, Fin.satC_again, AllP, and_true, true_and, upd, List.length_nil, List.length_cons, Nat.zero_add, if_true, ncast, Int.ofNat_eq_natCast]
        obtain ⟨k, hk⟩ := k
        try simp only [hetaA hH, TlA_HS hH]
        have hnl := nmS_mem s.parts (s.parts.getD (F.getD i 0).toNat default) k (by omega)
        have eW : IntKind.i64.wrap ((k : Int) + 1) = ((k + 1 : Nat) : Int) := w1 (by omega)
        refine ⟨fun h5 => ⟨?_, ?_, fun h6 => ⟨?_, ?_, ?_⟩, fun h6 => ?_⟩, fun h5 => ?_⟩
        · simp only [hH, stdH, Nat.le_refl, decide_eq_true_eq, decide_eq_false_iff_not, Bool.not_eq_true', Bool.not_eq_false', peta, ncast, Int.ofNat_eq_natCast, beq_iff_eq, bne_iff_ne, beq_eq_false_iff_ne, bne_eq_false_iff_eq, ne_eq, Classical.not_not, Int.toNat_natCast, vrow_I, Arm.eta2, Fld.eta, Grp.eta] at h5 ⊢
          omega
        · try simp only [hH, stdH, Nat.le_refl, decide_eq_true_eq, decide_eq_false_iff_not, Bool.not_eq_true', Bool.not_eq_false', peta, ncast, Int.ofNat_eq_natCast, beq_iff_eq, bne_iff_ne, beq_eq_false_iff_ne, bne_eq_false_iff_eq, ne_eq, Classical.not_not, Int.toNat_natCast, vrow_I, Arm.eta2, Fld.eta, Grp.eta]
          omega
        · simp only [hH, stdH, Nat.le_refl, decide_eq_true_eq, decide_eq_false_iff_not, Bool.not_eq_true', Bool.not_eq_false', peta, ncast, Int.ofNat_eq_natCast, beq_iff_eq, bne_iff_ne, beq_eq_false_iff_ne, bne_eq_false_iff_eq, ne_eq, Classical.not_not, Int.toNat_natCast, vrow_I, Arm.eta2, Fld.eta, Grp.eta] at h5
          simp only [hH, stdH, eW]
          omega
        · try simp only [hH, stdH, Nat.le_refl, decide_eq_true_eq, decide_eq_false_iff_not, Bool.not_eq_true', Bool.not_eq_false', peta, ncast, Int.ofNat_eq_natCast, beq_iff_eq, bne_iff_ne, beq_eq_false_iff_ne, bne_eq_false_iff_eq, ne_eq, Classical.not_not, Int.toNat_natCast, vrow_I, Arm.eta2, Fld.eta, Grp.eta]
          exact ⟨trivial, by omega, by omega⟩
        · simp only [hH, stdH, Nat.le_refl, decide_eq_true_eq, decide_eq_false_iff_not, Bool.not_eq_true', Bool.not_eq_false', peta, ncast, Int.ofNat_eq_natCast, beq_iff_eq, bne_iff_ne, beq_eq_false_iff_ne, bne_eq_false_iff_eq, ne_eq, Classical.not_not, Int.toNat_natCast, vrow_I, Arm.eta2, Fld.eta, Grp.eta] at h5
          simp only [hH, stdH, eqAE, Int.toNat_natCast, decide_eq_true_eq] at h6
          refine ⟨⟨k + 1, by omega⟩, by simp only; omega, ?_⟩
          rw [hI2]
          (conv in matchSt _ _ _ _ => cbv); simp only [AllG, AllP, and_true, hH, stdH, Nat.le_refl, ncast, Int.ofNat_eq_natCast, vrow_I, Arm.eta2, Fld.eta, Grp.eta]
          rw [eW, show nmS s.parts (s.parts.getD (F.getD i 0).toNat default) (k + 1) = nmS s.parts (s.parts.getD (F.getD i 0).toNat default) k ++ [numD (k + 1)] from if_pos h6]
          simp only [Int.toNat_natCast]
          all_goals (repeat' (with_reducible refine And.intro ?_ ?_)) <;> (first | exact Eq.refl _ | exact True.intro | exact Nat.le_refl _ | exact RowsEq.self okRA | exact RowsEq.ofT okRA rfl (Shp_zero _) rfl | exact RowsEq.snoc okRA rfl | exact RowsEq.self okI | exact RowsEq.ofT okI rfl (Shp_zero _) rfl | exact RowsEq.snoc okI rfl | exact RowsEq.more okI (Shp_I _ _) (Tl_I _) | exact RowsEq.self okS | exact RowsEq.ofT okS rfl (Shp_zero _) rfl | exact RowsEq.snoc okS rfl | exact RowsEq.more okS (Shp_S _ _) (Tl_S _) | exact List.length_append | exact c.rqN)
        · simp only [hH, stdH, Nat.le_refl, decide_eq_true_eq, decide_eq_false_iff_not, Bool.not_eq_true', Bool.not_eq_false', peta, ncast, Int.ofNat_eq_natCast, beq_iff_eq, bne_iff_ne, beq_eq_false_iff_ne, bne_eq_false_iff_eq, ne_eq, Classical.not_not, Int.toNat_natCast, vrow_I, Arm.eta2, Fld.eta, Grp.eta] at h5
          simp only [hH, stdH, eqAE, Int.toNat_natCast, decide_eq_false_iff_not] at h6
          refine ⟨⟨k + 1, by omega⟩, by simp only; omega, ?_⟩
          rw [hI2]
          (conv in matchSt _ _ _ _ => cbv); simp only [AllG, AllP, and_true, hH, stdH, Nat.le_refl, ncast, Int.ofNat_eq_natCast, vrow_I, Arm.eta2, Fld.eta, Grp.eta]
          rw [eW, show nmS s.parts (s.parts.getD (F.getD i 0).toNat default) (k + 1) = nmS s.parts (s.parts.getD (F.getD i 0).toNat default) k from if_neg h6]
          all_goals (repeat' (with_reducible refine And.intro ?_ ?_)) <;> (first | exact Eq.refl _ | exact True.intro | exact Nat.le_refl _ | exact RowsEq.self okRA | exact RowsEq.ofT okRA rfl (Shp_zero _) rfl | exact RowsEq.snoc okRA rfl | exact RowsEq.self okI | exact RowsEq.ofT okI rfl (Shp_zero _) rfl | exact RowsEq.snoc okI rfl | exact RowsEq.more okI (Shp_I _ _) (Tl_I _) | exact RowsEq.self okS | exact RowsEq.ofT okS rfl (Shp_zero _) rfl | exact RowsEq.snoc okS rfl | exact RowsEq.more okS (Shp_S _ _) (Tl_S _) | exact List.length_append | exact c.rqN)
        · simp only [hH, stdH, Nat.le_refl, decide_eq_true_eq, decide_eq_false_iff_not, Bool.not_eq_true', Bool.not_eq_false', peta, ncast, Int.ofNat_eq_natCast, beq_iff_eq, bne_iff_ne, beq_eq_false_iff_ne, bne_eq_false_iff_eq, ne_eq, Classical.not_not, Int.toNat_natCast, vrow_I, Arm.eta2, Fld.eta, Grp.eta] at h5
          obtain rfl : k = s.parts.length := by omega
          have hz := nmK_sz s.parts (s.parts.getD (F.getD i 0).toNat default) s.parts.length (by omega)
          have ha := armT_sz (s.parts.getD (F.getD i 0).toNat default)
          unfold nmK at hz
          rw [if_neg (by decide)]
          refine ⟨⟨?_, ?_⟩, ?_, ?_, ?_, ?_, ?_, ?_⟩
          · try simp only [hH, stdH, Nat.le_refl, decide_eq_true_eq, decide_eq_false_iff_not, Bool.not_eq_true', Bool.not_eq_false', peta, ncast, Int.ofNat_eq_natCast, beq_iff_eq, bne_iff_ne, beq_eq_false_iff_ne, bne_eq_false_iff_eq, ne_eq, Classical.not_not, Int.toNat_natCast, vrow_I, Arm.eta2, Fld.eta, Grp.eta]
            exact fun _ _ => rfl
          · simp only [hH, stdH, TlS']
            exact ⟨ShpS' _ _, by omega, by omega⟩
          · simp only [hH, stdH, TlS', bsz, List.length_cons, List.length_nil]
            omega
          · try simp only [hH, stdH, Nat.le_refl, decide_eq_true_eq, decide_eq_false_iff_not, Bool.not_eq_true', Bool.not_eq_false', peta, ncast, Int.ofNat_eq_natCast, beq_iff_eq, bne_iff_ne, beq_eq_false_iff_ne, bne_eq_false_iff_eq, ne_eq, Classical.not_not, Int.toNat_natCast, vrow_I, Arm.eta2, Fld.eta, Grp.eta]
            omega
          · try simp only [hH, stdH, Nat.le_refl, decide_eq_true_eq, decide_eq_false_iff_not, Bool.not_eq_true', Bool.not_eq_false', peta, ncast, Int.ofNat_eq_natCast, beq_iff_eq, bne_iff_ne, beq_eq_false_iff_ne, bne_eq_false_iff_eq, ne_eq, Classical.not_not, Int.toNat_natCast, vrow_I, Arm.eta2, Fld.eta, Grp.eta]
            refine g3 _ ?_
            rw [List.getD_eq_getElem?_getD, List.getElem?_eq_getElem (by omega), Option.getD_some]
            exact List.getElem_mem _
          · simp only [hH, stdH, TlS', Int.toNat_natCast, ByteArray.size_append, bsz, List.length_cons, List.length_nil]
            omega
          · try simp only [hH, stdH, Nat.le_refl, decide_eq_true_eq, decide_eq_false_iff_not, Bool.not_eq_true', Bool.not_eq_false', peta, ncast, Int.ofNat_eq_natCast, beq_iff_eq, bne_iff_ne, beq_eq_false_iff_ne, bne_eq_false_iff_eq, ne_eq, Classical.not_not, Int.toNat_natCast, vrow_I, Arm.eta2, Fld.eta, Grp.eta]
            rw [List.length_map, List.length_take]
            exact ⟨trivial, by omega, by omega⟩
          · refine ⟨⟨i + 1, by omega⟩, by simp only; omega, ?_⟩
            rw [hI]
            (conv in matchSt _ _ _ _ => cbv); simp only [AllG, AllP, and_true, hH, stdH, Nat.le_refl, ncast, Int.ofNat_eq_natCast, vrow_I, Arm.eta2, Fld.eta, Grp.eta]
            have e9 : (F.take (i + 1)).map (shP s.parts) = (F.take i).map (shP s.parts) ++ [shP s.parts (F.getD i 0)] := by rw [List.map_take, getD_mapI h3, List.map_take]
            rw [w1 (by omega), e9, shP_eq]
            simp only [TlS', Int.toNat_natCast]
            refine ⟨RowsEq.self okRA, trivial, RowsEq.self okI, RowsEq.snocS (by simp only [ByteArray.append_assoc]; rfl), trivial, trivial, trivial, List.length_append⟩
    · simp only [hH, stdH, Nat.le_refl, decide_eq_true_eq, decide_eq_false_iff_not, Bool.not_eq_true', Bool.not_eq_false', peta, ncast, Int.ofNat_eq_natCast, beq_iff_eq, bne_iff_ne, beq_eq_false_iff_ne, bne_eq_false_iff_eq, ne_eq, Classical.not_not, Int.toNat_natCast, vrow_I, Arm.eta2, Fld.eta, Grp.eta] at h3
      obtain rfl : i = F.length := by omega
      have hz := jnB_le (⟨⟨[59, 32]⟩⟩ : ByteArray) (F.map (shP s.parts)) 6000 (fun x hx => by
        obtain ⟨q, _, rfl⟩ := List.mem_map.1 hx
        exact Nat.le_trans (shP_sz (by omega) q) (by omega))
      rw [List.length_map] at hz
      simp only [bsz, List.length_cons, List.length_nil] at hz
      refine ⟨⟨?_, ?_⟩, ?_, ?_⟩
      · try simp only [hH, stdH, Nat.le_refl, decide_eq_true_eq, decide_eq_false_iff_not, Bool.not_eq_true', Bool.not_eq_false', peta, ncast, Int.ofNat_eq_natCast, beq_iff_eq, bne_iff_ne, beq_eq_false_iff_ne, bne_eq_false_iff_eq, ne_eq, Classical.not_not, Int.toNat_natCast, vrow_I, Arm.eta2, Fld.eta, Grp.eta]
        exact fun _ _ => rfl
      · simp only [hH, stdH, TlS']
        simp only [List.take_length, List.length_map]
        exact ⟨ShpS' _ _, by omega, by omega⟩
      · simp only [hH, stdH, TlS']
        simp only [List.take_length, bsz, List.length_cons, List.length_nil]
        omega
      · simp only [hH, stdH, TlS']
        simp only [List.take_length]
noncomputable def e_textH : Entry := pureE 146 fun H a => match a with
  | [.agg [.lit (.int .i64 s0), .vec 15 s1n s1f]] => some (.lit (.string (H ByteArray fun _ => shT (⟨s0, (Tl rowA s1n s1f)⟩ : Shd))), [H Prop fun _ => Shp rowA s1n s1f, H Prop fun _ => okH (⟨s0, (Tl rowA s1n s1f)⟩ : Shd) = true])
  | _ => none
theorem eok_textH : EntryOk Tryz.prog e_textH := pureM_ok (by unfold isBody; kernel_rfl) (by
  intro a r ob e hob
  split at e
  · rename_i s0 s1n s1f
    simp only [Option.some.injEq, Prod.mk.injEq] at e
    obtain ⟨rfl, rfl⟩ := e
    exact ConN.args (.cons (.agg (.cons .rfl (.cons (.toT okRA rfl hob.1) .nil))) .nil) (c_textH (⟨s0, (Tl rowA s1n s1f)⟩ : Shd) hob.2.1)
  · simp at e)

end Go.Proofs.YtbnohmfapmeaaaaGreatDoor.AM

