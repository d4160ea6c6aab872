/- Lemmas and contracts (Rps); conditions: none. -/
import Derived.Test.YtbnohmfapmeaaaaGreatDoorK03
import Derived.Test.YtbnohmfapmeaaaaGreatDoorK37
import Derived.Test.YtbnohmfapmeaaaaGreatDoorK44
set_option linter.unusedVariables false
set_option linter.unusedSimpArgs false
set_option maxRecDepth 100000
set_option maxHeartbeats 4000000
set_option cbv.maxSteps 3000000
namespace Go.Proofs.YtbnohmfapmeaaaaGreatDoor.AM
/- Texts of shields read by the reference; conditions: none. -/
theorem pcs_step {p : ByteArray} (hp : 1 ≤ p.size) (s : ByteArray) : pcs p s = if (cutB s p).2.2 = true then (cutB s p).1 :: pcs p (cutB s p).2.1 else [s] := by
  have e1 : pcs p s = pcsN p (s.size + 1) s := by
    unfold pcs
    rw [← pcs_eq hp s.size s (Nat.le_refl _), ← pcs_eq hp (s.size + 1) s (by omega)]
  have hz := cutB_sz s p
  have e2 : pcsN p s.size (cutB s p).2.1 = pcs p (cutB s p).2.1 := by
    unfold pcs
    rw [← pcs_eq hp s.size _ hz.2, ← pcs_eq hp _ _ (Nat.le_refl _)]
  rw [e1, pcsN_s, e2]
theorem pcs_hd {p : ByteArray} (hp : 1 ≤ p.size) (s : ByteArray) : pcs p s = (cutB s p).1 :: (if (cutB s p).2.2 = true then pcs p (cutB s p).2.1 else []) := by
  rw [pcs_step hp]
  split
  · rfl
  · rename_i q
    rw [cutB_nf (Bool.not_eq_true _ ▸ q)]
theorem bif_no {a b : Bool} (h : (bif !a then true else !b) = false) : a = true ∧ b = true := by revert h; cases a <;> cases b <;> decide
theorem pre_short {s p : ByteArray} (h : s.size < p.size) : isPre s p = false := by
  rw [← Bool.not_eq_true]
  intro q
  obtain ⟨t, rfl⟩ := isPre_iff.1 q
  rw [ByteArray.size_append] at h
  omega
theorem ofL_toL (l : List UInt8) : (ofL l).data.toList = l := rfl
theorem ext_left (p t : ByteArray) : (p ++ t).extract 0 p.size = p := by
  apply ByteArray.ext; apply Array.ext'
  rw [← ofL_ext, ofL_toL, ByteArray.toList_data_append, List.drop_zero, Nat.sub_zero]
  exact List.take_left' rfl
theorem ext_right (p t : ByteArray) : (p ++ t).extract p.size (p ++ t).size = t := by
  apply ByteArray.ext; apply Array.ext'
  rw [← ofL_end, ofL_toL, ByteArray.toList_data_append]
  exact List.drop_left' rfl
theorem ext_both {s : ByteArray} (n : Nat) : s.extract 0 n ++ s.extract n s.size = s := by
  apply ByteArray.ext; apply Array.ext'
  rw [← ofL_ext, ← ofL_end, ByteArray.toList_data_append, ofL_toL, ofL_toL, List.drop_zero, Nat.sub_zero]
  exact List.take_append_drop _ _
theorem pre_ext {s p : ByteArray} : isPre s p = decide (s.extract 0 p.size = p) := by
  by_cases q : s.extract 0 p.size = p
  · rw [decide_eq_true q, isPre_iff]
    have e0 := ext_both (s := s) p.size
    exact ⟨s.extract p.size s.size, by rw [q] at e0; exact e0.symm⟩
  · rw [decide_eq_false q, ← Bool.not_eq_true]
    intro w
    obtain ⟨t, rfl⟩ := isPre_iff.1 w
    exact q (ext_left p t)
theorem after_ext {s p : ByteArray} (h : isPre s p = true) : afterP s p = s.extract p.size s.size := by
  obtain ⟨t, rfl⟩ := isPre_iff.1 h
  rw [afterP_app, ext_right]
theorem c_l20After (t : ByteArray) (p : ByteArray) (h0 : t.size ≤ 2000000) (h1 : p.size ≤ 1000) : ConN Tryz.prog 54 [.lit (.string t), .lit (.string p)] [] 0 (.tup [.lit (.string (stdH ByteArray fun _ => if isPre t p = true then afterP t p else ByteArray.empty)), .lit (.bool (stdH Bool fun _ => isPre t p))]) [] [] := by
  have hB : Base Tryz.prog (tabΓ []) tab := base_of tabOk (ents_nil)
  refine con_m (N := 23) hB (draw_ok hB mixed) Tryz.func54 rfl rfl (fun H => [.lit (.string t), .lit (.string p)]) (fun _ => []) 0 (fun H => .tup [.lit (.string (H ByteArray fun _ => if isPre t p = true then afterP t p else ByteArray.empty)), .lit (.bool (H Bool fun _ => isPre t p))]) (fun H => []) (fun _ => []) 200 (by simp) (fun x hx => ?_) (by simp [lk]) (by omega) (by simp) ?_
  · simp only [List.mem_cons, List.not_mem_nil, or_false] at hx
    rcases hx with rfl | rfl
    · exact .lit
    · exact .lit
  intro X hX hX0 H hH
  conv in Fin.chk _ _ => cbv
  try simp only [Plain_rowsA, Plain_rowsB, Plain_rowsC, Plain_rowsF, Plain_rowsG, Plain_rowsI, Plain_rowsS, Plain_rowsU, Fin.satC_ret, Fin.satC_br, Fin.satC_need, Fin.satC_again, AllP, and_true, true_and, upd, List.length_nil, List.length_cons, Nat.zero_add, if_true, ncast, Int.ofNat_eq_natCast]
  simp only [hH, stdH]
  have e1 : t.extract (loOf none) (hiOf t.size (some (p.size : Int))) = t.extract 0 p.size := rfl
  have e2 : t.extract (loOf (some (p.size : Int))) (hiOf t.size none) = t.extract p.size t.size := rfl
  simp only [e1, e2, beqT]
  by_cases h : p.size ≤ t.size
  · have hd : decide ((t.size : Int) < p.size) = false := decide_eq_false (by omega)
    have hp := pre_ext (s := t) (p := p)
    simp only [hd, cond_false, ← hp, Bool.not_eq_true', Bool.not_eq_false']
    refine ⟨fun _ => ⟨trivial, by show (0 : Int) ≤ (p.size : Int); omega, Nat.zero_le _, h⟩, fun q => ⟨q, if_neg (by rw [q]; simp)⟩, fun q => ⟨⟨by show (0 : Int) ≤ (p.size : Int); omega, trivial, h, Nat.le_refl _⟩, q, ?_⟩⟩
    rw [if_pos q, after_ext q]
  · have hd : decide ((t.size : Int) < p.size) = true := decide_eq_true (by omega)
    have hp := pre_short (s := t) (p := p) (by omega)
    simp only [hd, cond_true, hp]
    refine ⟨(fun q => by cases q), fun _ => ?_, fun q => by cases q⟩
    simp
    rfl
noncomputable def e_l20After : Entry := pureE 54 fun H a => match a with
  | [.lit (.string t), .lit (.string p)] => some (.tup [.lit (.string (H ByteArray fun _ => if isPre t p = true then afterP t p else ByteArray.empty)), .lit (.bool (H Bool fun _ => isPre t p))], [H Prop fun _ => t.size ≤ 2000000, H Prop fun _ => p.size ≤ 1000])
  | _ => none
theorem eok_l20After : EntryOk Tryz.prog e_l20After := pureM_ok (by unfold isBody; kernel_rfl) (by
  intro a r ob e hob
  split at e
  · rename_i t p
    simp only [Option.some.injEq, Prod.mk.injEq] at e
    obtain ⟨rfl, rfl⟩ := e
    exact ConN.args (.cons .rfl (.cons .rfl .nil)) (c_l20After t p hob.1 hob.2.1)
  · simp at e)
theorem c_l20Pieces (t : ByteArray) (h0 : t.size ≤ 2000) : ConN Tryz.prog 126 [.lit (.string t)] [] 0 (.vec 1 (stdH Nat fun _ => (pcs semB t).length) (rowsS stdH fun _ => pcs semB t)) [] [] := by
  have hB : Base Tryz.prog (tabΓ [e_l6Cut]) tabO := base_of tabOkO (ents_cons eok_l6Cut <| ents_nil)
  refine con_m (N := 23) hB (draw_ok hB mixed) Tryz.func126 rfl rfl (fun H => [.lit (.string t)]) (fun _ => []) 0 (fun H => .vec 1 (H Nat fun _ => (pcs semB t).length) (rowsS H fun _ => pcs semB t)) (fun H => []) (fun _ => []) 300 (by simp) (fun x hx => ?_) (by simp [lk]) (by omega) (by simp) ?_
  · simp only [List.mem_cons, List.not_mem_nil, or_false] at hx
    rcases hx with rfl
    · exact .lit
  intro X hX hX0 H hH
  conv in Fin.chk _ _ => cbv
  try simp only [Plain_rowsA, Plain_rowsB, Plain_rowsC, Plain_rowsF, Plain_rowsG, Plain_rowsI, Plain_rowsS, Plain_rowsU, Fin.satC_ret, Fin.satC_br, Fin.satC_need, Fin.satC_again, AllP, and_true, true_and, upd, List.length_nil, List.length_cons, Nat.zero_add, if_true, ncast, Int.ofNat_eq_natCast]
  have hl := pcs_len semB t
  have es : (⟨⟨[59, 32]⟩⟩ : ByteArray) = semB := rfl
  have hp1 : 1 ≤ semB.size := by decide
  refine loop_a hB (draw_ok hB mixed) hX hX0 hH false (ι := { x : ByteArray × List ByteArray × Bool // x.1.size ≤ 2000 ∧ pcs semB t = x.2.1 ++ (if x.2.2 = true then pcs semB x.1 else []) }) 300 (fun x => [.s (H ByteArray fun _ => x.1.1), .r (H Nat fun _ => (x.1.2.1).length) (rowsS H fun _ => x.1.2.1), .b (H Bool fun _ => x.1.2.2)]) (fun x => if x.1.2.2 = true then (pcs semB x.1.1).length else 0) (⟨(t, [], true), h0, rfl⟩) ?_ ?_
  · (conv in matchSt _ _ _ _ => cbv); simp only [AllG, AllP, and_true, hH, stdH, Nat.le_refl, ncast, Int.ofNat_eq_natCast, vrow_I, Arm.eta2, Fld.eta, Grp.eta]
    all_goals (repeat' (with_reducible refine And.intro ?_ ?_)) <;> (first | exact Eq.refl _ | exact True.intro | exact Nat.le_refl _ | exact RowsEq.self okS | exact RowsEq.ofT okS rfl (Shp_zero _) rfl | exact RowsEq.snoc okS rfl | exact RowsEq.more okS (Shp_S _ _) (Tl_S _) | exact List.length_append | exact c.rqN)
  · intro I hI i
    conv in Fin.chk _ _ => cbv
    try simp only [Plain_rowsA, Plain_rowsB, Plain_rowsC, Plain_rowsF, Plain_rowsG, Plain_rowsI, Plain_rowsS, Plain_rowsU, Fin.satC_ret, Fin.satC_br, Fin.satC_need, Fin.satC_again, AllP, and_true, true_and, upd, List.length_nil, List.length_cons, Nat.zero_add, if_true, ncast, Int.ofNat_eq_natCast]
    obtain ⟨⟨x, out, mo⟩, hx, hw⟩ := i
    dsimp only at hx hw
    have hL := congrArg List.length hw
    rw [List.length_append] at hL
    have hz := cutB_sz x semB
    refine ⟨fun h1 => ⟨⟨?_, ?_⟩, ⟨?_, ?_⟩, ?_⟩, fun h1 => ?_⟩
    · try simp only [hH, stdH, Nat.le_refl, decide_eq_true_eq, decide_eq_false_iff_not, Bool.not_eq_true', Bool.not_eq_false', peta, ncast, Int.ofNat_eq_natCast, beq_iff_eq, bne_iff_ne, beq_eq_false_iff_ne, bne_eq_false_iff_eq, ne_eq, Classical.not_not, Int.toNat_natCast, vrow_I, Arm.eta2, Fld.eta, Grp.eta]
      omega
    · try simp only [hH, stdH, Nat.le_refl, decide_eq_true_eq, decide_eq_false_iff_not, Bool.not_eq_true', Bool.not_eq_false', peta, ncast, Int.ofNat_eq_natCast, beq_iff_eq, bne_iff_ne, beq_eq_false_iff_ne, bne_eq_false_iff_eq, ne_eq, Classical.not_not, Int.toNat_natCast, vrow_I, Arm.eta2, Fld.eta, Grp.eta]
      decide
    · try simp only [hH, stdH, Nat.le_refl, decide_eq_true_eq, decide_eq_false_iff_not, Bool.not_eq_true', Bool.not_eq_false', peta, ncast, Int.ofNat_eq_natCast, beq_iff_eq, bne_iff_ne, beq_eq_false_iff_ne, bne_eq_false_iff_eq, ne_eq, Classical.not_not, Int.toNat_natCast, vrow_I, Arm.eta2, Fld.eta, Grp.eta]
    · try simp only [hH, stdH, Nat.le_refl, decide_eq_true_eq, decide_eq_false_iff_not, Bool.not_eq_true', Bool.not_eq_false', peta, ncast, Int.ofNat_eq_natCast, beq_iff_eq, bne_iff_ne, beq_eq_false_iff_ne, bne_eq_false_iff_eq, ne_eq, Classical.not_not, Int.toNat_natCast, vrow_I, Arm.eta2, Fld.eta, Grp.eta]
      omega
    · have h1 : mo = true := by simpa only [hH, stdH] using h1
      rw [if_pos h1, pcs_step hp1 x] at hw
      refine ⟨⟨((cutB x semB).2.1, out ++ [(cutB x semB).1], (cutB x semB).2.2), by show (cutB x semB).2.1.size ≤ 2000; omega, ?_⟩, ?_, ?_⟩
      · dsimp only
        rw [hw, List.append_assoc]
        split
        · rfl
        · rename_i q
          rw [cutB_nf (Bool.not_eq_true _ ▸ q)]; rfl
      · dsimp only
        rw [if_pos h1, pcs_step hp1 x]
        split
        · rw [List.length_cons]; omega
        · rw [List.length_singleton]; omega
      · rw [hI]
        (conv in matchSt _ _ _ _ => cbv); simp only [AllG, AllP, and_true, hH, stdH, Nat.le_refl, ncast, Int.ofNat_eq_natCast, vrow_I, Arm.eta2, Fld.eta, Grp.eta]
        exact ⟨RowsEq.snocS rfl, rfl, List.length_append, rfl⟩
    · have h1 : mo = false := by simpa only [hH, stdH] using h1
      rw [h1] at hw
      simp only [Bool.false_eq_true, if_false, List.append_nil] at hw
      try simp only [hH, stdH, Nat.le_refl, decide_eq_true_eq, decide_eq_false_iff_not, Bool.not_eq_true', Bool.not_eq_false', peta, ncast, Int.ofNat_eq_natCast, beq_iff_eq, bne_iff_ne, beq_eq_false_iff_ne, bne_eq_false_iff_eq, ne_eq, Classical.not_not, Int.toNat_natCast, vrow_I, Arm.eta2, Fld.eta, Grp.eta]
      rw [hw]
      first | exact RowsEq.self okS | exact ⟨trivial, RowsEq.self okS⟩ | exact ⟨Nat.le_refl _, RowsEq.self okS⟩
noncomputable def e_l20Pieces : Entry := pureE 126 fun H a => match a with
  | [.lit (.string t)] => some (.vec 1 (H Nat fun _ => (pcs semB t).length) (rowsS H fun _ => pcs semB t), [H Prop fun _ => t.size ≤ 2000])
  | _ => none
theorem eok_l20Pieces : EntryOk Tryz.prog e_l20Pieces := pureM_ok (by unfold isBody; kernel_rfl) (by
  intro a r ob e hob
  split at e
  · rename_i t
    simp only [Option.some.injEq, Prod.mk.injEq] at e
    obtain ⟨rfl, rfl⟩ := e
    exact ConN.args (.cons .rfl .nil) (c_l20Pieces t hob.1)
  · simp at e)
theorem hidx {H : Hold} (hH : H = stdH) (n : Nat) : Int.toNat (H Int fun _ => (n : Int)) = n := by subst hH; rfl
theorem c_l20Parts (t : ByteArray) (m : Int) (h0 : t.size ≤ 2000) (h1 : 1 ≤ m ∧ m ≤ 9) : ConN Tryz.prog 55 [.lit (.string t), .lit (.int .i64 m)] [] 0 (.tup [.slc 0 0 15 (stdH Nat fun _ => ((rdP m (pcs semB t) (List.replicate m.toNat zA)).1).length), .lit (.bool (stdH Bool fun _ => (rdP m (pcs semB t) (List.replicate m.toNat zA)).2))]) [.rows 15 (stdH Nat fun _ => ((rdP m (pcs semB t) (List.replicate m.toNat zA)).1).length) (rowsA stdH fun _ => (rdP m (pcs semB t) (List.replicate m.toNat zA)).1) 64] [] := by
  have hB : Base Tryz.prog (tabΓ [e_l20Pieces, e_l6Cut, e_l6Parse, e_l1Read, e_l1In]) tabO := base_of tabOkO (ents_cons eok_l20Pieces <| ents_cons eok_l6Cut <| ents_cons eok_l6Parse <| ents_cons eok_l1Read <| ents_cons eok_l1In <| ents_nil)
  refine con_m (N := 80) hB (draw_ok hB mixed) Tryz.func55 rfl rfl (fun H => [.lit (.string t), .lit (.int .i64 m)]) (fun _ => []) 0 (fun H => .tup [.slc 0 0 15 (H Nat fun _ => ((rdP m (pcs semB t) (List.replicate m.toNat zA)).1).length), .lit (.bool (H Bool fun _ => (rdP m (pcs semB t) (List.replicate m.toNat zA)).2))]) (fun H => [.rows 15 (H Nat fun _ => ((rdP m (pcs semB t) (List.replicate m.toNat zA)).1).length) (rowsA H fun _ => (rdP m (pcs semB t) (List.replicate m.toNat zA)).1) 64]) (fun _ => []) 600 (by simp) (fun x hx => ?_) (by simp [lk]) (by omega) (by simp) ?_
  · simp only [List.mem_cons, List.not_mem_nil, or_false] at hx
    rcases hx with rfl | rfl
    · exact .lit
    · exact .lit
  intro X hX hX0 H hH
  conv in Fin.chk _ _ => cbv
  try simp only [Plain_rowsA, Plain_rowsB, Plain_rowsC, Plain_rowsF, Plain_rowsG, Plain_rowsI, Plain_rowsS, Plain_rowsU, Fin.satC_ret, Fin.satC_br, Fin.satC_need, Fin.satC_again, AllP, and_true, true_and, upd, List.length_nil, List.length_cons, Nat.zero_add, if_true, ncast, Int.ofNat_eq_natCast]
  have e0 : (List.replicate m.toNat zA).length = m.toNat := List.length_replicate
  refine ⟨?_, ?_, ?_⟩
  · try simp only [hH, stdH, Nat.le_refl, decide_eq_true_eq, decide_eq_false_iff_not, Bool.not_eq_true', Bool.not_eq_false', peta, ncast, Int.ofNat_eq_natCast, beq_iff_eq, bne_iff_ne, beq_eq_false_iff_ne, bne_eq_false_iff_eq, ne_eq, Classical.not_not, Int.toNat_natCast, vrow_I, Arm.eta2, Fld.eta, Grp.eta]
    omega
  · try simp only [hH, stdH, Nat.le_refl, decide_eq_true_eq, decide_eq_false_iff_not, Bool.not_eq_true', Bool.not_eq_false', peta, ncast, Int.ofNat_eq_natCast, beq_iff_eq, bne_iff_ne, beq_eq_false_iff_ne, bne_eq_false_iff_eq, ne_eq, Classical.not_not, Int.toNat_natCast, vrow_I, Arm.eta2, Fld.eta, Grp.eta]
    exact h0
  obtain ⟨P, hP⟩ : ∃ P, pcs semB t = P := ⟨_, rfl⟩
  obtain ⟨R, hR⟩ : ∃ R, rdP m P (List.replicate m.toNat zA) = R := ⟨_, rfl⟩
  have hPz : ∀ x ∈ P, x.size ≤ t.size := fun x hx => by rw [← hP] at hx; exact pcs_sz hx
  have hPl := pcs_len semB t
  rw [hP] at hPl
  simp only [hP, hR]
  refine loop_c hB (draw_ok hB mixed) hX hX0 hH [1, 6, 7, 8] (ι := { x : Nat × List Arm // x.1 ≤ P.length ∧ x.2.length = m.toNat ∧ rdP m (P.drop x.1) x.2 = R }) 600 (fun x => [.r (H Nat fun _ => (x.1.2).length) (rowsA H fun _ => x.1.2), .i (H Int fun _ => (x.1.1 : Nat))]) (fun x => P.length - x.1.1) (⟨(0, List.replicate m.toNat zA), Nat.zero_le _, e0, hR⟩) ?_ ?_
  · (conv in matchSt _ _ _ _ => cbv); simp only [AllG, AllP, and_true, hH, stdH, Nat.le_refl, ncast, Int.ofNat_eq_natCast, vrow_I, Arm.eta2, Fld.eta, Grp.eta]
    (repeat' (with_reducible refine And.intro ?_ ?_)) <;> (first | exact Eq.refl _ | exact True.intro | exact RowsEq.zerosH okRA _ (fun j => rfl) | exact e0 | exact RowsEq.self okS)
  · intro I hI i
    conv in Fin.chk _ _ => cbv
    try simp only [Plain_rowsA, Plain_rowsB, Plain_rowsC, Plain_rowsF, Plain_rowsG, Plain_rowsI, Plain_rowsS, Plain_rowsU, Fin.satC_ret, Fin.satC_br, Fin.satC_need, Fin.satC_again, AllP, and_true, true_and, upd, List.length_nil, List.length_cons, Nat.zero_add, if_true, ncast, Int.ofNat_eq_natCast]
    obtain ⟨⟨i, out⟩, hi, ho, hw⟩ := i
    dsimp only at hi ho hw
    have hpz := getD_le2 hPz i
    have hz := cutB_sz (P.getD i ByteArray.empty) colB
    refine ⟨fun h2 => ⟨?_, ⟨?_, ?_⟩, ?_, fun h3 => ?_, fun h3 => ?_⟩, fun h2 => ?_⟩
    · simp only [hH, stdH, Nat.le_refl, decide_eq_true_eq, decide_eq_false_iff_not, Bool.not_eq_true', Bool.not_eq_false', peta, ncast, Int.ofNat_eq_natCast, beq_iff_eq, bne_iff_ne, beq_eq_false_iff_ne, bne_eq_false_iff_eq, ne_eq, Classical.not_not, Int.toNat_natCast, vrow_I, Arm.eta2, Fld.eta, Grp.eta] at h2 ⊢
      omega
    · try simp only [hH, stdH, Nat.le_refl, decide_eq_true_eq, decide_eq_false_iff_not, Bool.not_eq_true', Bool.not_eq_false', peta, ncast, Int.ofNat_eq_natCast, beq_iff_eq, bne_iff_ne, beq_eq_false_iff_ne, bne_eq_false_iff_eq, ne_eq, Classical.not_not, Int.toNat_natCast, vrow_I, Arm.eta2, Fld.eta, Grp.eta]
      omega
    · try simp only [hH, stdH, Nat.le_refl, decide_eq_true_eq, decide_eq_false_iff_not, Bool.not_eq_true', Bool.not_eq_false', peta, ncast, Int.ofNat_eq_natCast, beq_iff_eq, bne_iff_ne, beq_eq_false_iff_ne, bne_eq_false_iff_eq, ne_eq, Classical.not_not, Int.toNat_natCast, vrow_I, Arm.eta2, Fld.eta, Grp.eta]
      decide
    · try simp only [hH, stdH, Nat.le_refl, decide_eq_true_eq, decide_eq_false_iff_not, Bool.not_eq_true', Bool.not_eq_false', peta, ncast, Int.ofNat_eq_natCast, beq_iff_eq, bne_iff_ne, beq_eq_false_iff_ne, bne_eq_false_iff_eq, ne_eq, Classical.not_not, Int.toNat_natCast, vrow_I, Arm.eta2, Fld.eta, Grp.eta]
      have : (cutB (P.getD i ByteArray.empty) colB).2.1.size ≤ 1100000 := by omega
      exact this
    · simp only [hH, stdH, Nat.le_refl, decide_eq_true_eq, decide_eq_false_iff_not, Bool.not_eq_true', Bool.not_eq_false', peta, ncast, Int.ofNat_eq_natCast, beq_iff_eq, bne_iff_ne, beq_eq_false_iff_ne, bne_eq_false_iff_eq, ne_eq, Classical.not_not, Int.toNat_natCast, vrow_I, Arm.eta2, Fld.eta, Grp.eta] at h2
      have h2 : i < P.length := by omega
      rw [List.drop_eq_getElem_cons h2] at hw
      have eg : P.getD i ByteArray.empty = P[i] := by rw [List.getD_eq_getElem?_getD, List.getElem?_eq_getElem h2, Option.getD_some]
      unfold rdP at hw
      simp only [hH, stdH, Int.toNat_natCast, eg] at h3
      rw [if_neg (fun q => by
        have h3 : (bif !(cutB P[i] colB).2.2 then true else !(pA (cutB P[i] colB).2.1).isSome) = true := h3
        rw [q.1, q.2] at h3
        cases h3)] at hw
      try simp only [hH, stdH, Nat.le_refl, decide_eq_true_eq, decide_eq_false_iff_not, Bool.not_eq_true', Bool.not_eq_false', peta, ncast, Int.ofNat_eq_natCast, beq_iff_eq, bne_iff_ne, beq_eq_false_iff_ne, bne_eq_false_iff_eq, ne_eq, Classical.not_not, Int.toNat_natCast, vrow_I, Arm.eta2, Fld.eta, Grp.eta]
      rw [← hw]
      exact ⟨RowsEq.self okRA, rfl, ho⟩
    · simp only [hH, stdH, Nat.le_refl, decide_eq_true_eq, decide_eq_false_iff_not, Bool.not_eq_true', Bool.not_eq_false', peta, ncast, Int.ofNat_eq_natCast, beq_iff_eq, bne_iff_ne, beq_eq_false_iff_ne, bne_eq_false_iff_eq, ne_eq, Classical.not_not, Int.toNat_natCast, vrow_I, Arm.eta2, Fld.eta, Grp.eta] at h2
      have h2 : i < P.length := by omega
      rw [List.drop_eq_getElem_cons h2] at hw
      have eg : P.getD i ByteArray.empty = P[i] := by rw [List.getD_eq_getElem?_getD, List.getElem?_eq_getElem h2, Option.getD_some]
      rw [← eg] at hw
      obtain ⟨p, hp⟩ : ∃ p, P.getD i ByteArray.empty = p := ⟨_, rfl⟩
      simp only [hH, stdH, Int.toNat_natCast] at h3
      rw [hp] at h3 hw hz hpz
      simp only [hidx hH, hp]
      have h3 : (bif !(cutB p colB).2.2 then true else !(pA (cutB p colB).2.1).isSome) = false := h3
      have h4 : (cutB p colB).2.2 = true ∧ (pA (cutB p colB).2.1).isSome = true := by
        cases q : (cutB p colB).2.2 with
        | false => rw [q] at h3; cases h3
        | true => rw [q] at h3; exact ⟨rfl, by simpa using h3⟩
      obtain ⟨R2, hR2⟩ : ∃ R2, rd1 (r6 (cutB p colB).2.1) m (pcs nndB (cutB p colB).1) out = R2 := ⟨_, rfl⟩
      unfold rdP at hw
      rw [if_pos h4, hR2] at hw
      have hn1 : 1 ≤ nndB.size := by decide
      have g0 : (cutB p colB).1.size ≤ 2000 := by omega
      refine loop_c hB (draw_ok hB mixed) hX hX0 hH [1, 6, 7, 8, 9, 12, 14] (ι := { x : ByteArray × List Arm × Bool // x.1.size ≤ 2000 ∧ x.2.1.length = m.toNat ∧ (if x.2.2 = true then rd1 (r6 (cutB p colB).2.1) m (pcs nndB x.1) x.2.1 else (x.2.1, true)) = R2 }) 600 (fun x => [.r (H Nat fun _ => (x.1.2.1).length) (rowsA H fun _ => x.1.2.1), .s (H ByteArray fun _ => x.1.1), .b (H Bool fun _ => x.1.2.2)]) (fun x => if x.1.2.2 = true then (pcs nndB x.1.1).length else 0) (⟨((cutB p colB).1, out, true), g0, ho, hR2⟩) ?_ ?_
      · (conv in matchSt _ _ _ _ => cbv); simp only [AllG, AllP, and_true, hH, stdH, Nat.le_refl, ncast, Int.ofNat_eq_natCast, vrow_I, Arm.eta2, Fld.eta, Grp.eta]
        (repeat' (with_reducible refine And.intro ?_ ?_)) <;> (first | exact True.intro | exact RowsEq.self okRA | exact RowsEq.self okS | (rw [hp]; rfl) | exact Eq.refl _)
      · intro I2 hI2 j
        conv in Fin.chk _ _ => cbv
        try simp only [Plain_rowsA, Plain_rowsB, Plain_rowsC, Plain_rowsF, Plain_rowsG, Plain_rowsI, Plain_rowsS, Plain_rowsU, Fin.satC_ret, Fin.satC_br, Fin.satC_need, Fin.satC_again, AllP, and_true, true_and, upd, List.length_nil, List.length_cons, Nat.zero_add, if_true, ncast, Int.ofNat_eq_natCast]
        obtain ⟨⟨x, o2, mo⟩, hx, ho2, hw2⟩ := j
        dsimp only at hx ho2 hw2
        have hz2 := cutB_sz x nndB
        refine ⟨fun h5 => ⟨⟨?_, ?_⟩, ?_, fun h6 => ?_, fun h6 => ⟨?_, ?_, ?_⟩⟩, fun h5 => ?_⟩
        · try simp only [hH, stdH, Nat.le_refl, decide_eq_true_eq, decide_eq_false_iff_not, Bool.not_eq_true', Bool.not_eq_false', peta, ncast, Int.ofNat_eq_natCast, beq_iff_eq, bne_iff_ne, beq_eq_false_iff_ne, bne_eq_false_iff_eq, ne_eq, Classical.not_not, Int.toNat_natCast, vrow_I, Arm.eta2, Fld.eta, Grp.eta]
          omega
        · try simp only [hH, stdH, Nat.le_refl, decide_eq_true_eq, decide_eq_false_iff_not, Bool.not_eq_true', Bool.not_eq_false', peta, ncast, Int.ofNat_eq_natCast, beq_iff_eq, bne_iff_ne, beq_eq_false_iff_ne, bne_eq_false_iff_eq, ne_eq, Classical.not_not, Int.toNat_natCast, vrow_I, Arm.eta2, Fld.eta, Grp.eta]
          decide
        · try simp only [hH, stdH, Nat.le_refl, decide_eq_true_eq, decide_eq_false_iff_not, Bool.not_eq_true', Bool.not_eq_false', peta, ncast, Int.ofNat_eq_natCast, beq_iff_eq, bne_iff_ne, beq_eq_false_iff_ne, bne_eq_false_iff_eq, ne_eq, Classical.not_not, Int.toNat_natCast, vrow_I, Arm.eta2, Fld.eta, Grp.eta]
          have : (cutB x nndB).1.size ≤ 2000000 := by omega
          exact this
        · have h5 : mo = true := by simpa only [hH, stdH] using h5
          rw [if_pos h5, pcs_hd hn1 x] at hw2
          simp only [hH, stdH] at h6
          have h6 : (bif !rdO (cutB x nndB).1 then true else !inB (rdV (cutB x nndB).1) 1 m) = true := h6
          unfold rd1 at hw2
          rw [if_neg (fun q => by
            rw [q.1, inB_mk q.2] at h6
            cases h6)] at hw2
          rw [← hw2, if_neg (by simp)] at hw
          try simp only [hH, stdH, Nat.le_refl, decide_eq_true_eq, decide_eq_false_iff_not, Bool.not_eq_true', Bool.not_eq_false', peta, ncast, Int.ofNat_eq_natCast, beq_iff_eq, bne_iff_ne, beq_eq_false_iff_ne, bne_eq_false_iff_eq, ne_eq, Classical.not_not, Int.toNat_natCast, vrow_I, Arm.eta2, Fld.eta, Grp.eta]
          rw [← hw]
          exact ⟨RowsEq.self okRA, rfl, ho2⟩
        · simp only [hH, stdH] at h6
          have h6 : (bif !rdO (cutB x nndB).1 then true else !inB (rdV (cutB x nndB).1) 1 m) = false := h6
          have h7 := inB_in (bif_no h6).2
          try simp only [hH, stdH, Nat.le_refl, decide_eq_true_eq, decide_eq_false_iff_not, Bool.not_eq_true', Bool.not_eq_false', peta, ncast, Int.ofNat_eq_natCast, beq_iff_eq, bne_iff_ne, beq_eq_false_iff_ne, bne_eq_false_iff_eq, ne_eq, Classical.not_not, Int.toNat_natCast, vrow_I, Arm.eta2, Fld.eta, Grp.eta]
          have eV : IntKind.i64.wrap (rdV (cutB x nndB).1 - 1) = rdV (cutB x nndB).1 - 1 := wi (by omega) (by omega)
          show 0 ≤ IntKind.i64.wrap (rdV (cutB x nndB).1 - 1) ∧ IntKind.i64.wrap (rdV (cutB x nndB).1 - 1) < _
          rw [eV]
          omega
        · simp only [hH, stdH] at h6
          have h6 : (bif !rdO (cutB x nndB).1 then true else !inB (rdV (cutB x nndB).1) 1 m) = false := h6
          have h7 := inB_in (bif_no h6).2
          try simp only [hH, stdH, Nat.le_refl, decide_eq_true_eq, decide_eq_false_iff_not, Bool.not_eq_true', Bool.not_eq_false', peta, ncast, Int.ofNat_eq_natCast, beq_iff_eq, bne_iff_ne, beq_eq_false_iff_ne, bne_eq_false_iff_eq, ne_eq, Classical.not_not, Int.toNat_natCast, vrow_I, Arm.eta2, Fld.eta, Grp.eta]
          have eV : IntKind.i64.wrap (rdV (cutB x nndB).1 - 1) = rdV (cutB x nndB).1 - 1 := wi (by omega) (by omega)
          show (IntKind.i64.wrap (rdV (cutB x nndB).1 - 1)).toNat < _ ∧ _
          rw [eV]
          exact ⟨by omega, rowsA_len _ _⟩
        · have h5 : mo = true := by simpa only [hH, stdH] using h5
          rw [if_pos h5, pcs_hd hn1 x] at hw2
          simp only [hH, stdH] at h6
          have h6 : (bif !rdO (cutB x nndB).1 then true else !inB (rdV (cutB x nndB).1) 1 m) = false := h6
          have h7 := inB_in (bif_no h6).2
          have eV : IntKind.i64.wrap (rdV (cutB x nndB).1 - 1) = rdV (cutB x nndB).1 - 1 := wi (by omega) (by omega)
          unfold rd1 at hw2
          rw [if_pos ⟨(bif_no h6).1, h7⟩] at hw2
          refine ⟨⟨((cutB x nndB).2.1, o2.set (rdV (cutB x nndB).1 - 1).toNat (r6 (cutB p colB).2.1), (cutB x nndB).2.2), by show (cutB x nndB).2.1.size ≤ 2000; omega, by show (o2.set _ _).length = _; rw [List.length_set]; exact ho2, ?_⟩, ?_, ?_⟩
          · dsimp only
            rw [← hw2]
            split
            · rfl
            · rfl
          · dsimp only
            rw [if_pos h5, pcs_hd hn1 x, List.length_cons]
            split <;> simp
          · rw [hI2]
            (conv in matchSt _ _ _ _ => cbv); simp only [AllG, AllP, and_true, hH, stdH, Nat.le_refl, ncast, Int.ofNat_eq_natCast, vrow_I, Arm.eta2, Fld.eta, Grp.eta]
            rw [show IntKind.i64.wrap (rdV (cutB x (⟨⟨[32, 97, 110, 100, 32]⟩⟩ : ByteArray)).1 - 1) = rdV (cutB x nndB).1 - 1 from eV, hp]
            (repeat' (with_reducible refine And.intro ?_ ?_)) <;> (first | exact True.intro | exact RowsEq.put okRA (x := r6 (cutB p colB).2.1) rfl | exact RowsEq.self okS | exact List.length_set | exact Eq.refl _)
        · have h5 : mo = false := by simpa only [hH, stdH] using h5
          rw [h5] at hw2
          simp only [Bool.false_eq_true, if_false] at hw2
          rw [← hw2, if_pos rfl] at hw
          rw [if_neg (by decide)]
          refine ⟨⟨(i + 1, o2), by show i + 1 ≤ P.length; omega, ho2, hw⟩, by simp only; omega, ?_⟩
          rw [hI]
          (conv in matchSt _ _ _ _ => cbv); simp only [AllG, AllP, and_true, hH, stdH, Nat.le_refl, ncast, Int.ofNat_eq_natCast, vrow_I, Arm.eta2, Fld.eta, Grp.eta]
          rw [w1 (by omega)]
          exact ⟨RowsEq.self okRA, rfl, RowsEq.self okS⟩
    · simp only [hH, stdH, Nat.le_refl, decide_eq_true_eq, decide_eq_false_iff_not, Bool.not_eq_true', Bool.not_eq_false', peta, ncast, Int.ofNat_eq_natCast, beq_iff_eq, bne_iff_ne, beq_eq_false_iff_ne, bne_eq_false_iff_eq, ne_eq, Classical.not_not, Int.toNat_natCast, vrow_I, Arm.eta2, Fld.eta, Grp.eta] at h2
      obtain rfl : i = P.length := by omega
      rw [List.drop_length] at hw
      unfold rdP at hw
      try simp only [hH, stdH, Nat.le_refl, decide_eq_true_eq, decide_eq_false_iff_not, Bool.not_eq_true', Bool.not_eq_false', peta, ncast, Int.ofNat_eq_natCast, beq_iff_eq, bne_iff_ne, beq_eq_false_iff_ne, bne_eq_false_iff_eq, ne_eq, Classical.not_not, Int.toNat_natCast, vrow_I, Arm.eta2, Fld.eta, Grp.eta]
      rw [← hw]
      exact ⟨RowsEq.self okRA, rfl, ho⟩
noncomputable def e_l20Parts : Entry := pureN 55 fun H a => match a with
  | [.lit (.string t), .lit (.int .i64 m)] => some (fun nx => .tup [.slc nx 0 15 (H Nat fun _ => ((rdP m (pcs semB t) (List.replicate m.toNat zA)).1).length), .lit (.bool (H Bool fun _ => (rdP m (pcs semB t) (List.replicate m.toNat zA)).2))], [.rows 15 (H Nat fun _ => ((rdP m (pcs semB t) (List.replicate m.toNat zA)).1).length) (rowsA H fun _ => (rdP m (pcs semB t) (List.replicate m.toNat zA)).1) 64], [H Prop fun _ => t.size ≤ 2000, H Prop fun _ => 1 ≤ m ∧ m ≤ 9])
  | _ => none
theorem eok_l20Parts : EntryOk Tryz.prog e_l20Parts := pureN_ok (by unfold isBody; kernel_rfl) (by
  intro a r nb ob e hob
  split at e
  · rename_i t m
    simp only [Option.some.injEq, Prod.mk.injEq] at e
    obtain ⟨rfl, rfl, rfl⟩ := e
    refine ⟨ConN.args (.cons .rfl (.cons .rfl .nil)) (c_l20Parts t m hob.1 hob.2.1), fun x hx => ?_, fun nx => ?_, fun b hb => ?_⟩
    · simp only [List.mem_cons, List.not_mem_nil, or_false] at hx
      rcases hx with rfl | rfl
      · exact .lit
      · exact .lit
    · (first | exact .slc ⟨by omega, by simp⟩ (by omega) | (refine .tup rfl (fun c x y hx hy => ?_); rcases c with _ | _ | _ | c <;> simp at hx hy <;> (subst hx; subst hy; first | exact .slc ⟨by omega, by simp⟩ (by omega) | exact .pl .lit | exact .pl (blq_ok 4 rfl) | (refine .agg rfl (fun c x y hx hy => ?_); rcases c with _ | _ | _ | c <;> simp at hx hy <;> (subst hx; subst hy; first | exact .slc ⟨by omega, by simp⟩ (by omega) | exact .pl .lit | exact .pl (blq_ok 4 rfl))))) | (refine .agg rfl (fun c x y hx hy => ?_); rcases c with _ | _ | _ | c <;> simp at hx hy <;> (subst hx; subst hy; first | exact .slc ⟨by omega, by simp⟩ (by omega) | exact .pl .lit | exact .pl (blq_ok 4 rfl))))
    · simp only [List.mem_cons, List.not_mem_nil, or_false] at hb; subst hb; exact bT_bl okRA _ (fun _ => (rdP m (pcs semB t) (List.replicate m.toNat zA)).1) _
  · simp at e)

end Go.Proofs.YtbnohmfapmeaaaaGreatDoor.AM

