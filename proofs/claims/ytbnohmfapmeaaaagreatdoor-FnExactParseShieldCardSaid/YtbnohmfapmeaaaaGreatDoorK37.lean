/- Lemmas and contracts (Shm); conditions: none. -/
import Derived.Test.YtbnohmfapmeaaaaGreatDoorK03
import Derived.Test.YtbnohmfapmeaaaaGreatDoorK26
import Derived.Test.YtbnohmfapmeaaaaGreatDoorK28
import Derived.Test.YtbnohmfapmeaaaaGreatDoorK34
import Derived.Test.YtbnohmfapmeaaaaGreatDoorK36
set_option linter.unusedVariables false
set_option linter.unusedSimpArgs false
set_option maxRecDepth 100000
set_option maxHeartbeats 4000000
set_option cbv.maxSteps 3000000
namespace Go.Proofs.YtbnohmfapmeaaaaGreatDoor.AM
/- Texts of shields read back: the program's; conditions: none. -/
theorem take_fold {L : List ByteArray} {f : List Arm → ByteArray → List Arm} {M : List Arm} {i : Nat} (h : i < L.length) : (L.take (i + 1)).foldl f M = f ((L.take i).foldl f M) (L.getD i ByteArray.empty) := by
  rw [List.take_succ_eq_append_getElem h, List.foldl_append, List.foldl_cons, List.foldl_nil, List.getD_eq_getElem?_getD, List.getElem?_eq_getElem h, Option.getD_some]
theorem getD_le2 {L : List ByteArray} {m : Nat} (h : ∀ x ∈ L, x.size ≤ m) (i : Nat) : (L.getD i ByteArray.empty).size ≤ m := by
  rw [List.getD_eq_getElem?_getD]
  cases e : L[i]? with
  | none => exact Nat.zero_le _
  | some s => exact h s (List.mem_of_getElem? e)
theorem pS_no {t : ByteArray} {c : Shd} (h : cndH t = c) (q : ¬ (okH c = true ∧ shT c = t)) : pS t = none := by
  subst h
  exact if_neg q
theorem pS_yes {t : ByteArray} {c : Shd} (h : cndH t = c) (q : okH c = true ∧ shT c = t) : pS t = some c := by
  subst h
  exact if_pos q
theorem condH {c : Shd} {t : ByteArray} : (bif !okH c then true else !((shR c).toList == t.toList)) = !decide (okH c = true ∧ shT c = t) := by
  rw [beqT]
  cases h : okH c
  · simp
  · rw [shR_y h]; simp
theorem inB_in {x a b : Int} (h : inB x a b = true) : a ≤ x ∧ x ≤ b := of_decide_eq_true h
theorem inB_mk {x a b : Int} (h : a ≤ x ∧ x ≤ b) : inB x a b = true := decide_eq_true h
theorem Tl_oneA (a : Arm) : Tl rowA 1 (rowsOf 15 (rowA.cells stdH fun _ => a)) = [a] := rfl
theorem Shp_oneA (a : Arm) : Shp rowA 1 (rowsOf 15 (rowA.cells stdH fun _ => a)) := ⟨fun j hj => by
  obtain rfl : j = 0 := by omega
  rfl⟩
theorem RowsEq.zerosH {α : Type} {D : RowD α} (ok : RowOk D) {d : α} (n : Nat) {f : Nat → List AV} (hf : ∀ j, f j = D.cells stdH fun _ => d) : RowsEq D.k (List.replicate n d).length (rowsT D stdH fun _ => List.replicate n d) n f :=
  .ofT ok rfl ⟨fun j _ => by rw [hf j, ok.of_cells]⟩ (by
    refine List.ext_getElem (by simp [Tl]) fun i h1 h2 => ?_
    simp only [Tl, List.getElem_map, List.getElem_range, List.getElem_replicate, hf, ok.of_cells])
theorem cnd_2 {H : Hold} (hH : H = stdH) {t : ByteArray} (h : (H Bool fun _ => isPre t (⟨⟨[105, 109, 112, 97, 108, 101, 100, 58, 32]⟩⟩ : ByteArray)) = true) : cndH t = ⟨2, (pcs (⟨⟨[59, 32]⟩⟩ : ByteArray) (afterP t (⟨⟨[105, 109, 112, 97, 108, 101, 100, 58, 32]⟩⟩ : ByteArray))).foldl stpP (List.replicate 2 zA)⟩ := by
  subst hH
  exact if_pos h
theorem cnd_3 {H : Hold} (hH : H = stdH) {t : ByteArray} (h : (H Bool fun _ => isPre t (⟨⟨[105, 109, 112, 97, 108, 101, 100, 58, 32]⟩⟩ : ByteArray)) = false) (h3 : (H Bool fun _ => isPre t (⟨⟨[113, 117, 97, 114, 116, 101, 114, 108, 121, 58, 32]⟩⟩ : ByteArray)) = true) : cndH t = ⟨3, (pcs (⟨⟨[59, 32]⟩⟩ : ByteArray) (afterP t (⟨⟨[113, 117, 97, 114, 116, 101, 114, 108, 121, 58, 32]⟩⟩ : ByteArray))).foldl stpP (List.replicate 4 zA)⟩ := by
  subst hH
  exact (if_neg (fun q => by have h : isPre t impB = false := h; rw [q] at h; cases h)).trans (if_pos h3)
theorem cnd_1 {H : Hold} (hH : H = stdH) {t : ByteArray} (h : (H Bool fun _ => isPre t (⟨⟨[105, 109, 112, 97, 108, 101, 100, 58, 32]⟩⟩ : ByteArray)) = false) (h3 : (H Bool fun _ => isPre t (⟨⟨[113, 117, 97, 114, 116, 101, 114, 108, 121, 58, 32]⟩⟩ : ByteArray)) = false) : cndH t = ⟨1, [(pA t).getD zA]⟩ := by
  subst hH
  exact (if_neg (fun q => by have h : isPre t impB = false := h; rw [q] at h; cases h)).trans (if_neg (fun q => by have h3 : isPre t qutB = false := h3; rw [q] at h3; cases h3))
theorem c_parseH (t : ByteArray) (h0 : t.size ≤ 2000000) : ConN Tryz.prog 9 [.lit (.string t)] [] 0 (.tup [aT rowH stdH fun _ => (pS t).getD shZ, .lit (.bool (stdH Bool fun _ => (pS t).isSome))]) [] [] := by
  have hB : Base Tryz.prog (tabΓ [e_cutPre, e_parseA, e_splitG, e_cutB, e_atoi, e_inside, e_shieldTx]) tabO := base_of tabOkO (ents_cons eok_cutPre <| ents_cons eok_parseA <| ents_cons eok_splitG <| ents_cons eok_cutB <| ents_cons eok_atoi <| ents_cons eok_inside <| ents_cons eok_shieldTx <| ents_nil)
  refine con_m (N := 121) hB (draw_ok hB mixed) Tryz.func9 rfl rfl (fun H => [.lit (.string t)]) (fun _ => []) 0 (fun H => .tup [aT rowH H fun _ => (pS t).getD shZ, .lit (.bool (H Bool fun _ => (pS t).isSome))]) (fun H => []) (fun _ => []) 600 (by simp) (fun x hx => ?_) (by simp [lk]) (by omega) (by simp) ?_
  · simp only [List.mem_cons, List.not_mem_nil, or_false] at hx
    rcases hx with rfl
    · exact .lit
  intro X hX hX0 H hH
  conv in Fin.chk _ _ => cbv
  try simp only [Plain_rowsA, Plain_rowsB, Plain_rowsC, Plain_rowsF, Plain_rowsG, Plain_rowsI, Plain_rowsS, Plain_rowsU, Fin.satC_ret, Fin.satC_br, Fin.satC_need, Fin.satC_again, AllP, and_true, true_and, upd, List.length_nil, List.length_cons, Nat.zero_add, if_true, ncast, Int.ofNat_eq_natCast]
  have s1 := afterP_sz t impB
  have s2 := afterP_sz t qutB
  have c2 : IntKind.i64.wrap (IntKind.i64.wrap (2 * 2) - 2) = 2 := by decide
  have c3 : IntKind.i64.wrap (IntKind.i64.wrap (2 * 3) - 2) = 4 := by decide
  refine ⟨fun h1 => ⟨fun h2 => ?_, fun h2 => ⟨?_, ?_, ?_⟩⟩, fun h1 => ⟨fun h7 => ⟨fun h2 => ?_, fun h2 => ⟨?_, ?_, ?_⟩⟩, fun h7 => ⟨fun h2 => ⟨?_, ⟨?_, ?_⟩, fun h4 => ?_, fun h4 => ?_⟩, fun h2 => ?_⟩⟩⟩
  · exact absurd h2 (by simp only [hH, stdH]; decide)
  · simp only [hH, stdH, c2]
    omega
  · simp only [hH, stdH]
    exact ⟨Nat.lt_of_le_of_lt s1 (by omega), by decide⟩
  · have hz : ∀ x ∈ pcs (⟨⟨[59, 32]⟩⟩ : ByteArray) (afterP t (⟨⟨[105, 109, 112, 97, 108, 101, 100, 58, 32]⟩⟩ : ByteArray)), x.size ≤ t.size := fun x hx => Nat.le_trans (pcs_sz (p := (⟨⟨[59, 32]⟩⟩ : ByteArray)) hx) (afterP_sz _ _)
    have g0 : 0 ≤ (pcs (⟨⟨[59, 32]⟩⟩ : ByteArray) (afterP t (⟨⟨[105, 109, 112, 97, 108, 101, 100, 58, 32]⟩⟩ : ByteArray))).length := Nat.zero_le _
    refine loop_c hB (draw_ok hB mixed) hX hX0 hH [0, 2, 4, 61, 62, 63] (ι := { i : Nat // i ≤ (pcs (⟨⟨[59, 32]⟩⟩ : ByteArray) (afterP t (⟨⟨[105, 109, 112, 97, 108, 101, 100, 58, 32]⟩⟩ : ByteArray))).length }) 600 (fun i => [.i (H Int fun _ => (i.1 : Nat)), .i (H Int fun _ => 2), .r (H Nat fun _ => (((pcs (⟨⟨[59, 32]⟩⟩ : ByteArray) (afterP t (⟨⟨[105, 109, 112, 97, 108, 101, 100, 58, 32]⟩⟩ : ByteArray))).take i.1).foldl stpP (List.replicate 2 zA)).length) (rowsA H fun _ => ((pcs (⟨⟨[59, 32]⟩⟩ : ByteArray) (afterP t (⟨⟨[105, 109, 112, 97, 108, 101, 100, 58, 32]⟩⟩ : ByteArray))).take i.1).foldl stpP (List.replicate 2 zA))]) (fun i => (pcs (⟨⟨[59, 32]⟩⟩ : ByteArray) (afterP t (⟨⟨[105, 109, 112, 97, 108, 101, 100, 58, 32]⟩⟩ : ByteArray))).length - i.1) (⟨0, g0⟩) ?_ ?_
    · (conv in matchSt _ _ _ _ => cbv); simp only [AllG, AllP, and_true, hH, stdH, Nat.le_refl, ncast, Int.ofNat_eq_natCast, vrow_I, Arm.eta2, Fld.eta, Grp.eta]
      rw [(show (IntKind.i64.wrap (IntKind.i64.wrap (2 * 2) - 2)).toNat = 2 by decide)]
      exact ⟨RowsEq.zerosH okRA _ (fun j => rfl), List.length_replicate, trivial, trivial, rfl, trivial, RowsEq.self okS⟩
    · intro I hI i
      conv in Fin.chk _ _ => cbv
      try simp only [Plain_rowsA, Plain_rowsB, Plain_rowsC, Plain_rowsF, Plain_rowsG, Plain_rowsI, Plain_rowsS, Plain_rowsU, Fin.satC_ret, Fin.satC_br, Fin.satC_need, Fin.satC_again, AllP, and_true, true_and, upd, List.length_nil, List.length_cons, Nat.zero_add, if_true, ncast, Int.ofNat_eq_natCast]
      obtain ⟨i, hi⟩ := i
      have hM : (((pcs (⟨⟨[59, 32]⟩⟩ : ByteArray) (afterP t (⟨⟨[105, 109, 112, 97, 108, 101, 100, 58, 32]⟩⟩ : ByteArray))).take i).foldl stpP (List.replicate 2 zA)).length = 2 := by rw [fold_len stpP_len, List.length_replicate]
      refine ⟨fun h3 => ?_, fun h3 => ?_⟩
      · simp only [hH, stdH, Nat.le_refl, decide_eq_true_eq, decide_eq_false_iff_not, Bool.not_eq_true', Bool.not_eq_false', peta, ncast, Int.ofNat_eq_natCast, beq_iff_eq, bne_iff_ne, beq_eq_false_iff_ne, bne_eq_false_iff_eq, ne_eq, Classical.not_not, Int.toNat_natCast, vrow_I, Arm.eta2, Fld.eta, Grp.eta] at h3
        have h3 : i < (pcs (⟨⟨[59, 32]⟩⟩ : ByteArray) (afterP t (⟨⟨[105, 109, 112, 97, 108, 101, 100, 58, 32]⟩⟩ : ByteArray))).length := by omega
        have e9 := take_fold (f := stpP) (M := List.replicate 2 zA) h3
        have q0 := getD_le2 hz i
        have q1 := cutB_sz ((pcs (⟨⟨[59, 32]⟩⟩ : ByteArray) (afterP t (⟨⟨[105, 109, 112, 97, 108, 101, 100, 58, 32]⟩⟩ : ByteArray))).getD i ByteArray.empty) (⟨⟨[58, 32]⟩⟩ : ByteArray)
        generalize ((pcs (⟨⟨[59, 32]⟩⟩ : ByteArray) (afterP t (⟨⟨[105, 109, 112, 97, 108, 101, 100, 58, 32]⟩⟩ : ByteArray))).take i).foldl stpP (List.replicate 2 zA) = M at *
        generalize hx : (pcs (⟨⟨[59, 32]⟩⟩ : ByteArray) (afterP t (⟨⟨[105, 109, 112, 97, 108, 101, 100, 58, 32]⟩⟩ : ByteArray))).getD i ByteArray.empty = p at *
        refine ⟨?_, ?_, ?_, ?_, ?_⟩
        · try simp only [hH, stdH, Nat.le_refl, decide_eq_true_eq, decide_eq_false_iff_not, Bool.not_eq_true', Bool.not_eq_false', peta, ncast, Int.ofNat_eq_natCast, beq_iff_eq, bne_iff_ne, beq_eq_false_iff_ne, bne_eq_false_iff_eq, ne_eq, Classical.not_not, Int.toNat_natCast, vrow_I, Arm.eta2, Fld.eta, Grp.eta]
          omega
        · simp only [hH, stdH, Int.toNat_natCast, hx]
          omega
        · simp only [hH, stdH, Int.toNat_natCast, hx]
          omega
        · simp only [hH, stdH, Int.toNat_natCast, hx]
          exact ⟨by omega, by decide⟩
        have g1 : 0 ≤ (pcs (⟨⟨[32, 97, 110, 100, 32]⟩⟩ : ByteArray) (cutB p (⟨⟨[58, 32]⟩⟩ : ByteArray)).1).length := Nat.zero_le _
        refine loop_c hB (draw_ok hB mixed) hX hX0 hH [0, 2, 4, 61, 62, 63, 17, 79, 80, 81] (ι := { j : Nat // j ≤ (pcs (⟨⟨[32, 97, 110, 100, 32]⟩⟩ : ByteArray) (cutB p (⟨⟨[58, 32]⟩⟩ : ByteArray)).1).length }) 600 (fun j => [.i (H Int fun _ => (j.1 : Nat)), .i (H Int fun _ => 2), .r (H Nat fun _ => (((pcs (⟨⟨[32, 97, 110, 100, 32]⟩⟩ : ByteArray) (cutB p (⟨⟨[58, 32]⟩⟩ : ByteArray)).1).take j.1).foldl (stp1 ((pA (cutB p (⟨⟨[58, 32]⟩⟩ : ByteArray)).2.1).getD zA)) M).length) (rowsA H fun _ => ((pcs (⟨⟨[32, 97, 110, 100, 32]⟩⟩ : ByteArray) (cutB p (⟨⟨[58, 32]⟩⟩ : ByteArray)).1).take j.1).foldl (stp1 ((pA (cutB p (⟨⟨[58, 32]⟩⟩ : ByteArray)).2.1).getD zA)) M)]) (fun j => (pcs (⟨⟨[32, 97, 110, 100, 32]⟩⟩ : ByteArray) (cutB p (⟨⟨[58, 32]⟩⟩ : ByteArray)).1).length - j.1) (⟨0, g1⟩) ?_ ?_
        · (conv in matchSt _ _ _ _ => cbv); simp only [AllG, AllP, and_true, hH, stdH, Nat.le_refl, ncast, Int.ofNat_eq_natCast, vrow_I, Arm.eta2, Fld.eta, Grp.eta]
          simp only [List.take_zero, List.foldl_nil]
          all_goals (repeat' (with_reducible refine And.intro ?_ ?_)) <;> (first | exact Eq.refl _ | exact True.intro | exact Nat.le_refl _ | exact RowsEq.self okRA | exact RowsEq.ofT okRA rfl (Shp_zero _) rfl | exact RowsEq.snoc okRA rfl | exact RowsEq.self okS | exact RowsEq.ofT okS rfl (Shp_zero _) rfl | exact RowsEq.snoc okS rfl | exact RowsEq.more okS (Shp_S _ _) (Tl_S _) | exact List.length_append | exact c.rqN)
        · intro I2 hI2 j
          conv in Fin.chk _ _ => cbv
          try simp only [Plain_rowsA, Plain_rowsB, Plain_rowsC, Plain_rowsF, Plain_rowsG, Plain_rowsI, Plain_rowsS, Plain_rowsU, Fin.satC_ret, Fin.satC_br, Fin.satC_need, Fin.satC_again, AllP, and_true, true_and, upd, List.length_nil, List.length_cons, Nat.zero_add, if_true, ncast, Int.ofNat_eq_natCast]
          obtain ⟨j, hj⟩ := j
          have hK : (((pcs (⟨⟨[32, 97, 110, 100, 32]⟩⟩ : ByteArray) (cutB p (⟨⟨[58, 32]⟩⟩ : ByteArray)).1).take j).foldl (stp1 ((pA (cutB p (⟨⟨[58, 32]⟩⟩ : ByteArray)).2.1).getD zA)) M).length = 2 := by rw [fold_len (stp1_len _), hM]
          have hw := getD_le2 (L := pcs (⟨⟨[32, 97, 110, 100, 32]⟩⟩ : ByteArray) (cutB p (⟨⟨[58, 32]⟩⟩ : ByteArray)).1) (fun y hy => pcs_sz hy) j
          have eW : IntKind.i64.wrap ((j : Int) + 1) = ((j + 1 : Nat) : Int) := w1 (by
            have := (pcs_len (⟨⟨[32, 97, 110, 100, 32]⟩⟩ : ByteArray) (cutB p (⟨⟨[58, 32]⟩⟩ : ByteArray)).1).1
            omega)
          refine ⟨fun h4 => ⟨?_, ?_, fun h5 => ⟨?_, ?_, ?_⟩, fun h5 => ?_⟩, fun h4 => ?_⟩
          · simp only [hH, stdH, Int.toNat_natCast, hx, decide_eq_true_eq] at h4 ⊢
            omega
          · simp only [hH, stdH, Int.toNat_natCast, hx]
            omega
          · simp only [hH, stdH, Int.toNat_natCast, hx, hK, bif_and, Bool.and_eq_true] at h5 ⊢
            have h6 := inB_in h5.2
            have eV : IntKind.i64.wrap (atV ((pcs (⟨⟨[32, 97, 110, 100, 32]⟩⟩ : ByteArray) (cutB p (⟨⟨[58, 32]⟩⟩ : ByteArray)).1).getD j ByteArray.empty) - 1) = atV ((pcs (⟨⟨[32, 97, 110, 100, 32]⟩⟩ : ByteArray) (cutB p (⟨⟨[58, 32]⟩⟩ : ByteArray)).1).getD j ByteArray.empty) - 1 := wi (by omega) (by omega)
            rw [eV]
            omega
          · simp only [hH, stdH, Int.toNat_natCast, hx, hK, bif_and, Bool.and_eq_true] at h5 ⊢
            have h6 := inB_in h5.2
            have eV : IntKind.i64.wrap (atV ((pcs (⟨⟨[32, 97, 110, 100, 32]⟩⟩ : ByteArray) (cutB p (⟨⟨[58, 32]⟩⟩ : ByteArray)).1).getD j ByteArray.empty) - 1) = atV ((pcs (⟨⟨[32, 97, 110, 100, 32]⟩⟩ : ByteArray) (cutB p (⟨⟨[58, 32]⟩⟩ : ByteArray)).1).getD j ByteArray.empty) - 1 := wi (by omega) (by omega)
            rw [eV]
            exact ⟨by omega, rfl⟩
          · simp only [hH, stdH, Int.toNat_natCast, hx, decide_eq_true_eq] at h4
            simp only [hH, stdH, Int.toNat_natCast, hx, hK, bif_and, Bool.and_eq_true] at h5
            have h4 : j < (pcs (⟨⟨[32, 97, 110, 100, 32]⟩⟩ : ByteArray) (cutB p (⟨⟨[58, 32]⟩⟩ : ByteArray)).1).length := by omega
            have h6 := inB_in h5.2
            have eV : IntKind.i64.wrap (atV ((pcs (⟨⟨[32, 97, 110, 100, 32]⟩⟩ : ByteArray) (cutB p (⟨⟨[58, 32]⟩⟩ : ByteArray)).1).getD j ByteArray.empty) - 1) = atV ((pcs (⟨⟨[32, 97, 110, 100, 32]⟩⟩ : ByteArray) (cutB p (⟨⟨[58, 32]⟩⟩ : ByteArray)).1).getD j ByteArray.empty) - 1 := wi (by omega) (by omega)
            refine ⟨⟨j + 1, by omega⟩, by simp only; omega, ?_⟩
            rw [hI2]
            (conv in matchSt _ _ _ _ => cbv); simp only [AllG, AllP, and_true, hH, stdH, Nat.le_refl, ncast, Int.ofNat_eq_natCast, vrow_I, Arm.eta2, Fld.eta, Grp.eta]
            simp only [Int.toNat_natCast, hx]
            rw [eW, eV, take_fold h4]
            have e6 : stp1 ((pA (cutB p (⟨⟨[58, 32]⟩⟩ : ByteArray)).2.1).getD zA) (((pcs (⟨⟨[32, 97, 110, 100, 32]⟩⟩ : ByteArray) (cutB p (⟨⟨[58, 32]⟩⟩ : ByteArray)).1).take j).foldl (stp1 ((pA (cutB p (⟨⟨[58, 32]⟩⟩ : ByteArray)).2.1).getD zA)) M) ((pcs (⟨⟨[32, 97, 110, 100, 32]⟩⟩ : ByteArray) (cutB p (⟨⟨[58, 32]⟩⟩ : ByteArray)).1).getD j ByteArray.empty) = (((pcs (⟨⟨[32, 97, 110, 100, 32]⟩⟩ : ByteArray) (cutB p (⟨⟨[58, 32]⟩⟩ : ByteArray)).1).take j).foldl (stp1 ((pA (cutB p (⟨⟨[58, 32]⟩⟩ : ByteArray)).2.1).getD zA)) M).set (atV ((pcs (⟨⟨[32, 97, 110, 100, 32]⟩⟩ : ByteArray) (cutB p (⟨⟨[58, 32]⟩⟩ : ByteArray)).1).getD j ByteArray.empty) - 1).toNat ((pA (cutB p (⟨⟨[58, 32]⟩⟩ : ByteArray)).2.1).getD zA) := if_pos ⟨h5.1, h6.1, by rw [hK]; exact h6.2⟩
            rw [e6]
            (repeat' (with_reducible refine And.intro ?_ ?_)) <;> (first | exact Eq.refl _ | exact True.intro | exact RowsEq.put okRA (x := (pA (cutB p (⟨⟨[58, 32]⟩⟩ : ByteArray)).2.1).getD zA) rfl | exact List.length_set | exact RowsEq.self okRA | exact RowsEq.self okS)
          · simp only [hH, stdH, Int.toNat_natCast, hx, decide_eq_true_eq] at h4
            simp only [hH, stdH, Int.toNat_natCast, hx, hK, bif_and, Bool.and_eq_false_iff] at h5
            have h4 : j < (pcs (⟨⟨[32, 97, 110, 100, 32]⟩⟩ : ByteArray) (cutB p (⟨⟨[58, 32]⟩⟩ : ByteArray)).1).length := by omega
            refine ⟨⟨j + 1, by omega⟩, by simp only; omega, ?_⟩
            rw [hI2]
            (conv in matchSt _ _ _ _ => cbv); simp only [AllG, AllP, and_true, hH, stdH, Nat.le_refl, ncast, Int.ofNat_eq_natCast, vrow_I, Arm.eta2, Fld.eta, Grp.eta]
            simp only [Int.toNat_natCast, hx]
            rw [eW, take_fold h4]
            have e6 : stp1 ((pA (cutB p (⟨⟨[58, 32]⟩⟩ : ByteArray)).2.1).getD zA) (((pcs (⟨⟨[32, 97, 110, 100, 32]⟩⟩ : ByteArray) (cutB p (⟨⟨[58, 32]⟩⟩ : ByteArray)).1).take j).foldl (stp1 ((pA (cutB p (⟨⟨[58, 32]⟩⟩ : ByteArray)).2.1).getD zA)) M) ((pcs (⟨⟨[32, 97, 110, 100, 32]⟩⟩ : ByteArray) (cutB p (⟨⟨[58, 32]⟩⟩ : ByteArray)).1).getD j ByteArray.empty) = ((pcs (⟨⟨[32, 97, 110, 100, 32]⟩⟩ : ByteArray) (cutB p (⟨⟨[58, 32]⟩⟩ : ByteArray)).1).take j).foldl (stp1 ((pA (cutB p (⟨⟨[58, 32]⟩⟩ : ByteArray)).2.1).getD zA)) M := if_neg fun q => by
              rcases h5 with h5 | h5
              · rw [q.1] at h5; cases h5
              · rw [inB_mk ⟨q.2.1, by have := q.2.2; rw [hK] at this; exact this⟩] at h5; cases h5
            rw [e6]
            all_goals (repeat' (with_reducible refine And.intro ?_ ?_)) <;> (first | exact Eq.refl _ | exact True.intro | exact Nat.le_refl _ | exact RowsEq.self okRA | exact RowsEq.ofT okRA rfl (Shp_zero _) rfl | exact RowsEq.snoc okRA rfl | exact RowsEq.self okS | exact RowsEq.ofT okS rfl (Shp_zero _) rfl | exact RowsEq.snoc okS rfl | exact RowsEq.more okS (Shp_S _ _) (Tl_S _) | exact List.length_append | exact c.rqN)
          · simp only [hH, stdH, Int.toNat_natCast, hx, decide_eq_false_iff_not] at h4
            obtain rfl : j = (pcs (⟨⟨[32, 97, 110, 100, 32]⟩⟩ : ByteArray) (cutB p (⟨⟨[58, 32]⟩⟩ : ByteArray)).1).length := by omega
            rw [if_neg (by decide)]
            refine ⟨⟨i + 1, by omega⟩, by simp only; omega, ?_⟩
            rw [hI]
            (conv in matchSt _ _ _ _ => cbv); simp only [AllG, AllP, and_true, hH, stdH, Nat.le_refl, ncast, Int.ofNat_eq_natCast, vrow_I, Arm.eta2, Fld.eta, Grp.eta]
            have z9 := afterP_sz t (⟨⟨[105, 109, 112, 97, 108, 101, 100, 58, 32]⟩⟩ : ByteArray)
            have z8 := (pcs_len (⟨⟨[59, 32]⟩⟩ : ByteArray) (afterP t (⟨⟨[105, 109, 112, 97, 108, 101, 100, 58, 32]⟩⟩ : ByteArray))).1
            rw [List.take_length, w1 (by omega), e9]
            have e10 : stpP M p = (pcs (⟨⟨[32, 97, 110, 100, 32]⟩⟩ : ByteArray) (cutB p (⟨⟨[58, 32]⟩⟩ : ByteArray)).1).foldl (stp1 ((pA (cutB p (⟨⟨[58, 32]⟩⟩ : ByteArray)).2.1).getD zA)) M := rfl
            rw [e10]
            all_goals (repeat' (with_reducible refine And.intro ?_ ?_)) <;> (first | exact Eq.refl _ | exact True.intro | exact Nat.le_refl _ | exact RowsEq.self okRA | exact RowsEq.ofT okRA rfl (Shp_zero _) rfl | exact RowsEq.snoc okRA rfl | exact RowsEq.self okS | exact RowsEq.ofT okS rfl (Shp_zero _) rfl | exact RowsEq.snoc okS rfl | exact RowsEq.more okS (Shp_S _ _) (Tl_S _) | exact List.length_append | exact c.rqN)
      · simp only [hH, stdH, Nat.le_refl, decide_eq_true_eq, decide_eq_false_iff_not, Bool.not_eq_true', Bool.not_eq_false', peta, ncast, Int.ofNat_eq_natCast, beq_iff_eq, bne_iff_ne, beq_eq_false_iff_ne, bne_eq_false_iff_eq, ne_eq, Classical.not_not, Int.toNat_natCast, vrow_I, Arm.eta2, Fld.eta, Grp.eta] at h3
        obtain rfl : i = (pcs (⟨⟨[59, 32]⟩⟩ : ByteArray) (afterP t (⟨⟨[105, 109, 112, 97, 108, 101, 100, 58, 32]⟩⟩ : ByteArray))).length := by omega
        rw [List.take_length] at *
        refine ⟨⟨?_, ?_⟩, fun h5 => ?_, fun h5 => ?_⟩
        · try simp only [hH, stdH, Nat.le_refl, decide_eq_true_eq, decide_eq_false_iff_not, Bool.not_eq_true', Bool.not_eq_false', peta, ncast, Int.ofNat_eq_natCast, beq_iff_eq, bne_iff_ne, beq_eq_false_iff_ne, bne_eq_false_iff_eq, ne_eq, Classical.not_not, Int.toNat_natCast, vrow_I, Arm.eta2, Fld.eta, Grp.eta]
          exact fun _ _ => rfl
        · simp only [hH, stdH, Tl_A]
          exact ⟨Shp_A _ _, by omega⟩
        · simp only [hH, stdH, Tl_A, condH, Bool.not_eq_true', decide_eq_false_iff_not] at h5 ⊢
          rw [pS_no (cnd_2 hH h1) h5]
          exact ⟨rfl, rfl, rfl⟩
        · simp only [hH, stdH, Tl_A, condH, Bool.not_eq_false', decide_eq_true_eq] at h5 ⊢
          rw [pS_yes (cnd_2 hH h1) h5]
          exact ⟨rfl, ⟨Nat.le_refl _, RowsEq.self okRA⟩, rfl⟩
  · exact absurd h2 (by simp only [hH, stdH]; decide)
  · simp only [hH, stdH, c3]
    omega
  · simp only [hH, stdH]
    exact ⟨Nat.lt_of_le_of_lt s2 (by omega), by decide⟩
  · have hz : ∀ x ∈ pcs (⟨⟨[59, 32]⟩⟩ : ByteArray) (afterP t (⟨⟨[113, 117, 97, 114, 116, 101, 114, 108, 121, 58, 32]⟩⟩ : ByteArray)), x.size ≤ t.size := fun x hx => Nat.le_trans (pcs_sz (p := (⟨⟨[59, 32]⟩⟩ : ByteArray)) hx) (afterP_sz _ _)
    have g0 : 0 ≤ (pcs (⟨⟨[59, 32]⟩⟩ : ByteArray) (afterP t (⟨⟨[113, 117, 97, 114, 116, 101, 114, 108, 121, 58, 32]⟩⟩ : ByteArray))).length := Nat.zero_le _
    refine loop_c hB (draw_ok hB mixed) hX hX0 hH [0, 2, 4, 61, 62, 63] (ι := { i : Nat // i ≤ (pcs (⟨⟨[59, 32]⟩⟩ : ByteArray) (afterP t (⟨⟨[113, 117, 97, 114, 116, 101, 114, 108, 121, 58, 32]⟩⟩ : ByteArray))).length }) 600 (fun i => [.i (H Int fun _ => (i.1 : Nat)), .i (H Int fun _ => 3), .r (H Nat fun _ => (((pcs (⟨⟨[59, 32]⟩⟩ : ByteArray) (afterP t (⟨⟨[113, 117, 97, 114, 116, 101, 114, 108, 121, 58, 32]⟩⟩ : ByteArray))).take i.1).foldl stpP (List.replicate 4 zA)).length) (rowsA H fun _ => ((pcs (⟨⟨[59, 32]⟩⟩ : ByteArray) (afterP t (⟨⟨[113, 117, 97, 114, 116, 101, 114, 108, 121, 58, 32]⟩⟩ : ByteArray))).take i.1).foldl stpP (List.replicate 4 zA))]) (fun i => (pcs (⟨⟨[59, 32]⟩⟩ : ByteArray) (afterP t (⟨⟨[113, 117, 97, 114, 116, 101, 114, 108, 121, 58, 32]⟩⟩ : ByteArray))).length - i.1) (⟨0, g0⟩) ?_ ?_
    · (conv in matchSt _ _ _ _ => cbv); simp only [AllG, AllP, and_true, hH, stdH, Nat.le_refl, ncast, Int.ofNat_eq_natCast, vrow_I, Arm.eta2, Fld.eta, Grp.eta]
      rw [(show (IntKind.i64.wrap (IntKind.i64.wrap (2 * 3) - 2)).toNat = 4 by decide)]
      exact ⟨RowsEq.zerosH okRA _ (fun j => rfl), List.length_replicate, trivial, trivial, rfl, trivial, RowsEq.self okS⟩
    · intro I hI i
      conv in Fin.chk _ _ => cbv
      try simp only [Plain_rowsA, Plain_rowsB, Plain_rowsC, Plain_rowsF, Plain_rowsG, Plain_rowsI, Plain_rowsS, Plain_rowsU, Fin.satC_ret, Fin.satC_br, Fin.satC_need, Fin.satC_again, AllP, and_true, true_and, upd, List.length_nil, List.length_cons, Nat.zero_add, if_true, ncast, Int.ofNat_eq_natCast]
      obtain ⟨i, hi⟩ := i
      have hM : (((pcs (⟨⟨[59, 32]⟩⟩ : ByteArray) (afterP t (⟨⟨[113, 117, 97, 114, 116, 101, 114, 108, 121, 58, 32]⟩⟩ : ByteArray))).take i).foldl stpP (List.replicate 4 zA)).length = 4 := by rw [fold_len stpP_len, List.length_replicate]
      refine ⟨fun h3 => ?_, fun h3 => ?_⟩
      · simp only [hH, stdH, Nat.le_refl, decide_eq_true_eq, decide_eq_false_iff_not, Bool.not_eq_true', Bool.not_eq_false', peta, ncast, Int.ofNat_eq_natCast, beq_iff_eq, bne_iff_ne, beq_eq_false_iff_ne, bne_eq_false_iff_eq, ne_eq, Classical.not_not, Int.toNat_natCast, vrow_I, Arm.eta2, Fld.eta, Grp.eta] at h3
        have h3 : i < (pcs (⟨⟨[59, 32]⟩⟩ : ByteArray) (afterP t (⟨⟨[113, 117, 97, 114, 116, 101, 114, 108, 121, 58, 32]⟩⟩ : ByteArray))).length := by omega
        have e9 := take_fold (f := stpP) (M := List.replicate 4 zA) h3
        have q0 := getD_le2 hz i
        have q1 := cutB_sz ((pcs (⟨⟨[59, 32]⟩⟩ : ByteArray) (afterP t (⟨⟨[113, 117, 97, 114, 116, 101, 114, 108, 121, 58, 32]⟩⟩ : ByteArray))).getD i ByteArray.empty) (⟨⟨[58, 32]⟩⟩ : ByteArray)
        generalize ((pcs (⟨⟨[59, 32]⟩⟩ : ByteArray) (afterP t (⟨⟨[113, 117, 97, 114, 116, 101, 114, 108, 121, 58, 32]⟩⟩ : ByteArray))).take i).foldl stpP (List.replicate 4 zA) = M at *
        generalize hx : (pcs (⟨⟨[59, 32]⟩⟩ : ByteArray) (afterP t (⟨⟨[113, 117, 97, 114, 116, 101, 114, 108, 121, 58, 32]⟩⟩ : ByteArray))).getD i ByteArray.empty = p at *
        refine ⟨?_, ?_, ?_, ?_, ?_⟩
        · try simp only [hH, stdH, Nat.le_refl, decide_eq_true_eq, decide_eq_false_iff_not, Bool.not_eq_true', Bool.not_eq_false', peta, ncast, Int.ofNat_eq_natCast, beq_iff_eq, bne_iff_ne, beq_eq_false_iff_ne, bne_eq_false_iff_eq, ne_eq, Classical.not_not, Int.toNat_natCast, vrow_I, Arm.eta2, Fld.eta, Grp.eta]
          omega
        · simp only [hH, stdH, Int.toNat_natCast, hx]
          omega
        · simp only [hH, stdH, Int.toNat_natCast, hx]
          omega
        · simp only [hH, stdH, Int.toNat_natCast, hx]
          exact ⟨by omega, by decide⟩
        have g1 : 0 ≤ (pcs (⟨⟨[32, 97, 110, 100, 32]⟩⟩ : ByteArray) (cutB p (⟨⟨[58, 32]⟩⟩ : ByteArray)).1).length := Nat.zero_le _
        refine loop_c hB (draw_ok hB mixed) hX hX0 hH [0, 2, 4, 61, 62, 63, 17, 79, 80, 81] (ι := { j : Nat // j ≤ (pcs (⟨⟨[32, 97, 110, 100, 32]⟩⟩ : ByteArray) (cutB p (⟨⟨[58, 32]⟩⟩ : ByteArray)).1).length }) 600 (fun j => [.i (H Int fun _ => (j.1 : Nat)), .i (H Int fun _ => 3), .r (H Nat fun _ => (((pcs (⟨⟨[32, 97, 110, 100, 32]⟩⟩ : ByteArray) (cutB p (⟨⟨[58, 32]⟩⟩ : ByteArray)).1).take j.1).foldl (stp1 ((pA (cutB p (⟨⟨[58, 32]⟩⟩ : ByteArray)).2.1).getD zA)) M).length) (rowsA H fun _ => ((pcs (⟨⟨[32, 97, 110, 100, 32]⟩⟩ : ByteArray) (cutB p (⟨⟨[58, 32]⟩⟩ : ByteArray)).1).take j.1).foldl (stp1 ((pA (cutB p (⟨⟨[58, 32]⟩⟩ : ByteArray)).2.1).getD zA)) M)]) (fun j => (pcs (⟨⟨[32, 97, 110, 100, 32]⟩⟩ : ByteArray) (cutB p (⟨⟨[58, 32]⟩⟩ : ByteArray)).1).length - j.1) (⟨0, g1⟩) ?_ ?_
        · (conv in matchSt _ _ _ _ => cbv); simp only [AllG, AllP, and_true, hH, stdH, Nat.le_refl, ncast, Int.ofNat_eq_natCast, vrow_I, Arm.eta2, Fld.eta, Grp.eta]
          simp only [List.take_zero, List.foldl_nil]
          all_goals (repeat' (with_reducible refine And.intro ?_ ?_)) <;> (first | exact Eq.refl _ | exact True.intro | exact Nat.le_refl _ | exact RowsEq.self okRA | exact RowsEq.ofT okRA rfl (Shp_zero _) rfl | exact RowsEq.snoc okRA rfl | exact RowsEq.self okS | exact RowsEq.ofT okS rfl (Shp_zero _) rfl | exact RowsEq.snoc okS rfl | exact RowsEq.more okS (Shp_S _ _) (Tl_S _) | exact List.length_append | exact c.rqN)
        · intro I2 hI2 j
          conv in Fin.chk _ _ => cbv
          try simp only [Plain_rowsA, Plain_rowsB, Plain_rowsC, Plain_rowsF, Plain_rowsG, Plain_rowsI, Plain_rowsS, Plain_rowsU, Fin.satC_ret, Fin.satC_br, Fin.satC_need, Fin.satC_again, AllP, and_true, true_and, upd, List.length_nil, List.length_cons, Nat.zero_add, if_true, ncast, Int.ofNat_eq_natCast]
          obtain ⟨j, hj⟩ := j
          have hK : (((pcs (⟨⟨[32, 97, 110, 100, 32]⟩⟩ : ByteArray) (cutB p (⟨⟨[58, 32]⟩⟩ : ByteArray)).1).take j).foldl (stp1 ((pA (cutB p (⟨⟨[58, 32]⟩⟩ : ByteArray)).2.1).getD zA)) M).length = 4 := by rw [fold_len (stp1_len _), hM]
          have hw := getD_le2 (L := pcs (⟨⟨[32, 97, 110, 100, 32]⟩⟩ : ByteArray) (cutB p (⟨⟨[58, 32]⟩⟩ : ByteArray)).1) (fun y hy => pcs_sz hy) j
          have eW : IntKind.i64.wrap ((j : Int) + 1) = ((j + 1 : Nat) : Int) := w1 (by
            have := (pcs_len (⟨⟨[32, 97, 110, 100, 32]⟩⟩ : ByteArray) (cutB p (⟨⟨[58, 32]⟩⟩ : ByteArray)).1).1
            omega)
          refine ⟨fun h4 => ⟨?_, ?_, fun h5 => ⟨?_, ?_, ?_⟩, fun h5 => ?_⟩, fun h4 => ?_⟩
          · simp only [hH, stdH, Int.toNat_natCast, hx, decide_eq_true_eq] at h4 ⊢
            omega
          · simp only [hH, stdH, Int.toNat_natCast, hx]
            omega
          · simp only [hH, stdH, Int.toNat_natCast, hx, hK, bif_and, Bool.and_eq_true] at h5 ⊢
            have h6 := inB_in h5.2
            have eV : IntKind.i64.wrap (atV ((pcs (⟨⟨[32, 97, 110, 100, 32]⟩⟩ : ByteArray) (cutB p (⟨⟨[58, 32]⟩⟩ : ByteArray)).1).getD j ByteArray.empty) - 1) = atV ((pcs (⟨⟨[32, 97, 110, 100, 32]⟩⟩ : ByteArray) (cutB p (⟨⟨[58, 32]⟩⟩ : ByteArray)).1).getD j ByteArray.empty) - 1 := wi (by omega) (by omega)
            rw [eV]
            omega
          · simp only [hH, stdH, Int.toNat_natCast, hx, hK, bif_and, Bool.and_eq_true] at h5 ⊢
            have h6 := inB_in h5.2
            have eV : IntKind.i64.wrap (atV ((pcs (⟨⟨[32, 97, 110, 100, 32]⟩⟩ : ByteArray) (cutB p (⟨⟨[58, 32]⟩⟩ : ByteArray)).1).getD j ByteArray.empty) - 1) = atV ((pcs (⟨⟨[32, 97, 110, 100, 32]⟩⟩ : ByteArray) (cutB p (⟨⟨[58, 32]⟩⟩ : ByteArray)).1).getD j ByteArray.empty) - 1 := wi (by omega) (by omega)
            rw [eV]
            exact ⟨by omega, rfl⟩
          · simp only [hH, stdH, Int.toNat_natCast, hx, decide_eq_true_eq] at h4
            simp only [hH, stdH, Int.toNat_natCast, hx, hK, bif_and, Bool.and_eq_true] at h5
            have h4 : j < (pcs (⟨⟨[32, 97, 110, 100, 32]⟩⟩ : ByteArray) (cutB p (⟨⟨[58, 32]⟩⟩ : ByteArray)).1).length := by omega
            have h6 := inB_in h5.2
            have eV : IntKind.i64.wrap (atV ((pcs (⟨⟨[32, 97, 110, 100, 32]⟩⟩ : ByteArray) (cutB p (⟨⟨[58, 32]⟩⟩ : ByteArray)).1).getD j ByteArray.empty) - 1) = atV ((pcs (⟨⟨[32, 97, 110, 100, 32]⟩⟩ : ByteArray) (cutB p (⟨⟨[58, 32]⟩⟩ : ByteArray)).1).getD j ByteArray.empty) - 1 := wi (by omega) (by omega)
            refine ⟨⟨j + 1, by omega⟩, by simp only; omega, ?_⟩
            rw [hI2]
            (conv in matchSt _ _ _ _ => cbv); simp only [AllG, AllP, and_true, hH, stdH, Nat.le_refl, ncast, Int.ofNat_eq_natCast, vrow_I, Arm.eta2, Fld.eta, Grp.eta]
            simp only [Int.toNat_natCast, hx]
            rw [eW, eV, take_fold h4]
            have e6 : stp1 ((pA (cutB p (⟨⟨[58, 32]⟩⟩ : ByteArray)).2.1).getD zA) (((pcs (⟨⟨[32, 97, 110, 100, 32]⟩⟩ : ByteArray) (cutB p (⟨⟨[58, 32]⟩⟩ : ByteArray)).1).take j).foldl (stp1 ((pA (cutB p (⟨⟨[58, 32]⟩⟩ : ByteArray)).2.1).getD zA)) M) ((pcs (⟨⟨[32, 97, 110, 100, 32]⟩⟩ : ByteArray) (cutB p (⟨⟨[58, 32]⟩⟩ : ByteArray)).1).getD j ByteArray.empty) = (((pcs (⟨⟨[32, 97, 110, 100, 32]⟩⟩ : ByteArray) (cutB p (⟨⟨[58, 32]⟩⟩ : ByteArray)).1).take j).foldl (stp1 ((pA (cutB p (⟨⟨[58, 32]⟩⟩ : ByteArray)).2.1).getD zA)) M).set (atV ((pcs (⟨⟨[32, 97, 110, 100, 32]⟩⟩ : ByteArray) (cutB p (⟨⟨[58, 32]⟩⟩ : ByteArray)).1).getD j ByteArray.empty) - 1).toNat ((pA (cutB p (⟨⟨[58, 32]⟩⟩ : ByteArray)).2.1).getD zA) := if_pos ⟨h5.1, h6.1, by rw [hK]; exact h6.2⟩
            rw [e6]
            (repeat' (with_reducible refine And.intro ?_ ?_)) <;> (first | exact Eq.refl _ | exact True.intro | exact RowsEq.put okRA (x := (pA (cutB p (⟨⟨[58, 32]⟩⟩ : ByteArray)).2.1).getD zA) rfl | exact List.length_set | exact RowsEq.self okRA | exact RowsEq.self okS)
          · simp only [hH, stdH, Int.toNat_natCast, hx, decide_eq_true_eq] at h4
            simp only [hH, stdH, Int.toNat_natCast, hx, hK, bif_and, Bool.and_eq_false_iff] at h5
            have h4 : j < (pcs (⟨⟨[32, 97, 110, 100, 32]⟩⟩ : ByteArray) (cutB p (⟨⟨[58, 32]⟩⟩ : ByteArray)).1).length := by omega
            refine ⟨⟨j + 1, by omega⟩, by simp only; omega, ?_⟩
            rw [hI2]
            (conv in matchSt _ _ _ _ => cbv); simp only [AllG, AllP, and_true, hH, stdH, Nat.le_refl, ncast, Int.ofNat_eq_natCast, vrow_I, Arm.eta2, Fld.eta, Grp.eta]
            simp only [Int.toNat_natCast, hx]
            rw [eW, take_fold h4]
            have e6 : stp1 ((pA (cutB p (⟨⟨[58, 32]⟩⟩ : ByteArray)).2.1).getD zA) (((pcs (⟨⟨[32, 97, 110, 100, 32]⟩⟩ : ByteArray) (cutB p (⟨⟨[58, 32]⟩⟩ : ByteArray)).1).take j).foldl (stp1 ((pA (cutB p (⟨⟨[58, 32]⟩⟩ : ByteArray)).2.1).getD zA)) M) ((pcs (⟨⟨[32, 97, 110, 100, 32]⟩⟩ : ByteArray) (cutB p (⟨⟨[58, 32]⟩⟩ : ByteArray)).1).getD j ByteArray.empty) = ((pcs (⟨⟨[32, 97, 110, 100, 32]⟩⟩ : ByteArray) (cutB p (⟨⟨[58, 32]⟩⟩ : ByteArray)).1).take j).foldl (stp1 ((pA (cutB p (⟨⟨[58, 32]⟩⟩ : ByteArray)).2.1).getD zA)) M := if_neg fun q => by
              rcases h5 with h5 | h5
              · rw [q.1] at h5; cases h5
              · rw [inB_mk ⟨q.2.1, by have := q.2.2; rw [hK] at this; exact this⟩] at h5; cases h5
            rw [e6]
            all_goals (repeat' (with_reducible refine And.intro ?_ ?_)) <;> (first | exact Eq.refl _ | exact True.intro | exact Nat.le_refl _ | exact RowsEq.self okRA | exact RowsEq.ofT okRA rfl (Shp_zero _) rfl | exact RowsEq.snoc okRA rfl | exact RowsEq.self okS | exact RowsEq.ofT okS rfl (Shp_zero _) rfl | exact RowsEq.snoc okS rfl | exact RowsEq.more okS (Shp_S _ _) (Tl_S _) | exact List.length_append | exact c.rqN)
          · simp only [hH, stdH, Int.toNat_natCast, hx, decide_eq_false_iff_not] at h4
            obtain rfl : j = (pcs (⟨⟨[32, 97, 110, 100, 32]⟩⟩ : ByteArray) (cutB p (⟨⟨[58, 32]⟩⟩ : ByteArray)).1).length := by omega
            rw [if_neg (by decide)]
            refine ⟨⟨i + 1, by omega⟩, by simp only; omega, ?_⟩
            rw [hI]
            (conv in matchSt _ _ _ _ => cbv); simp only [AllG, AllP, and_true, hH, stdH, Nat.le_refl, ncast, Int.ofNat_eq_natCast, vrow_I, Arm.eta2, Fld.eta, Grp.eta]
            have z9 := afterP_sz t (⟨⟨[113, 117, 97, 114, 116, 101, 114, 108, 121, 58, 32]⟩⟩ : ByteArray)
            have z8 := (pcs_len (⟨⟨[59, 32]⟩⟩ : ByteArray) (afterP t (⟨⟨[113, 117, 97, 114, 116, 101, 114, 108, 121, 58, 32]⟩⟩ : ByteArray))).1
            rw [List.take_length, w1 (by omega), e9]
            have e10 : stpP M p = (pcs (⟨⟨[32, 97, 110, 100, 32]⟩⟩ : ByteArray) (cutB p (⟨⟨[58, 32]⟩⟩ : ByteArray)).1).foldl (stp1 ((pA (cutB p (⟨⟨[58, 32]⟩⟩ : ByteArray)).2.1).getD zA)) M := rfl
            rw [e10]
            all_goals (repeat' (with_reducible refine And.intro ?_ ?_)) <;> (first | exact Eq.refl _ | exact True.intro | exact Nat.le_refl _ | exact RowsEq.self okRA | exact RowsEq.ofT okRA rfl (Shp_zero _) rfl | exact RowsEq.snoc okRA rfl | exact RowsEq.self okS | exact RowsEq.ofT okS rfl (Shp_zero _) rfl | exact RowsEq.snoc okS rfl | exact RowsEq.more okS (Shp_S _ _) (Tl_S _) | exact List.length_append | exact c.rqN)
      · simp only [hH, stdH, Nat.le_refl, decide_eq_true_eq, decide_eq_false_iff_not, Bool.not_eq_true', Bool.not_eq_false', peta, ncast, Int.ofNat_eq_natCast, beq_iff_eq, bne_iff_ne, beq_eq_false_iff_ne, bne_eq_false_iff_eq, ne_eq, Classical.not_not, Int.toNat_natCast, vrow_I, Arm.eta2, Fld.eta, Grp.eta] at h3
        obtain rfl : i = (pcs (⟨⟨[59, 32]⟩⟩ : ByteArray) (afterP t (⟨⟨[113, 117, 97, 114, 116, 101, 114, 108, 121, 58, 32]⟩⟩ : ByteArray))).length := by omega
        rw [List.take_length] at *
        refine ⟨⟨?_, ?_⟩, fun h5 => ?_, fun h5 => ?_⟩
        · try simp only [hH, stdH, Nat.le_refl, decide_eq_true_eq, decide_eq_false_iff_not, Bool.not_eq_true', Bool.not_eq_false', peta, ncast, Int.ofNat_eq_natCast, beq_iff_eq, bne_iff_ne, beq_eq_false_iff_ne, bne_eq_false_iff_eq, ne_eq, Classical.not_not, Int.toNat_natCast, vrow_I, Arm.eta2, Fld.eta, Grp.eta]
          exact fun _ _ => rfl
        · simp only [hH, stdH, Tl_A]
          exact ⟨Shp_A _ _, by omega⟩
        · simp only [hH, stdH, Tl_A, condH, Bool.not_eq_true', decide_eq_false_iff_not] at h5 ⊢
          rw [pS_no (cnd_3 hH h1 h7) h5]
          exact ⟨rfl, rfl, rfl⟩
        · simp only [hH, stdH, Tl_A, condH, Bool.not_eq_false', decide_eq_true_eq] at h5 ⊢
          rw [pS_yes (cnd_3 hH h1 h7) h5]
          exact ⟨rfl, ⟨Nat.le_refl _, RowsEq.self okRA⟩, rfl⟩
  · try simp only [hH, stdH, Nat.le_refl, decide_eq_true_eq, decide_eq_false_iff_not, Bool.not_eq_true', Bool.not_eq_false', peta, ncast, Int.ofNat_eq_natCast, beq_iff_eq, bne_iff_ne, beq_eq_false_iff_ne, bne_eq_false_iff_eq, ne_eq, Classical.not_not, Int.toNat_natCast, vrow_I, Arm.eta2, Fld.eta, Grp.eta]
    omega
  · try simp only [hH, stdH, Nat.le_refl, decide_eq_true_eq, decide_eq_false_iff_not, Bool.not_eq_true', Bool.not_eq_false', peta, ncast, Int.ofNat_eq_natCast, beq_iff_eq, bne_iff_ne, beq_eq_false_iff_ne, bne_eq_false_iff_eq, ne_eq, Classical.not_not, Int.toNat_natCast, vrow_I, Arm.eta2, Fld.eta, Grp.eta]
    exact Shp_oneA ((pA t).getD zA)
  · try simp only [hH, stdH, Nat.le_refl, decide_eq_true_eq, decide_eq_false_iff_not, Bool.not_eq_true', Bool.not_eq_false', peta, ncast, Int.ofNat_eq_natCast, beq_iff_eq, bne_iff_ne, beq_eq_false_iff_ne, bne_eq_false_iff_eq, ne_eq, Classical.not_not, Int.toNat_natCast, vrow_I, Arm.eta2, Fld.eta, Grp.eta]
    show (Tl rowA 1 (rowsOf 15 (rowA.cells stdH fun _ => (pA t).getD zA))).length ≤ 2000000
    rw [Tl_oneA]
    simp
  · simp only [hH, stdH] at h4 ⊢
    have h4 : (bif !okH ⟨1, [(pA t).getD zA]⟩ then true else !((shR ⟨1, [(pA t).getD zA]⟩).toList == t.toList)) = true := h4
    rw [condH, Bool.not_eq_true', decide_eq_false_iff_not] at h4
    rw [pS_no (cnd_1 hH h1 h7) h4]
    exact ⟨rfl, rfl, rfl⟩
  · simp only [hH, stdH] at h4 ⊢
    have h4 : (bif !okH ⟨1, [(pA t).getD zA]⟩ then true else !((shR ⟨1, [(pA t).getD zA]⟩).toList == t.toList)) = false := h4
    rw [condH, Bool.not_eq_false', decide_eq_true_eq] at h4
    rw [pS_yes (cnd_1 hH h1 h7) h4]
    exact ⟨rfl, RowsEq.lit okRA rfl rfl, rfl⟩
  · exact absurd h2 (by simp only [hH, stdH]; decide)
noncomputable def e_parseH : Entry := pureE 9 fun H a => match a with
  | [.lit (.string t)] => some (.tup [aT rowH H fun _ => (pS t).getD shZ, .lit (.bool (H Bool fun _ => (pS t).isSome))], [H Prop fun _ => t.size ≤ 2000000])
  | _ => none
theorem eok_parseH : EntryOk Tryz.prog e_parseH := pureM_ok (by unfold isBody; kernel_rfl) (by
  intro a r ob e hob
  split at e
  · rename_i t
    simp only [Option.some.injEq, Prod.mk.injEq] at e
    obtain ⟨rfl, rfl⟩ := e
    exact ConN.args (.cons .rfl .nil) (c_parseH t hob.1)
  · simp at e)

end Go.Proofs.YtbnohmfapmeaaaaGreatDoor.AM

