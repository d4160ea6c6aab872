/- Lemmas and contracts (Sht); conditions: none. -/
import Derived.Test.YtbnohmfapmeaaaaGreatDoorK03
import Derived.Test.YtbnohmfapmeaaaaGreatDoorK09
import Derived.Test.YtbnohmfapmeaaaaGreatDoorK11
import Derived.Test.YtbnohmfapmeaaaaGreatDoorK12
set_option linter.unusedVariables false
set_option linter.unusedSimpArgs false
set_option maxRecDepth 100000
set_option maxHeartbeats 4000000
set_option cbv.maxSteps 3000000
namespace Go.Proofs.YtbnohmfapmeaaaaGreatDoor.AM
/- Texts of shields: parts that differ; conditions: none. -/
/-- The indices of the parts that differ from all before them. -/
def fs1 (l : List Arm) : Nat → List Int
  | 0 => []
  | n + 1 => if (l.take n).any (fun y => decide (y = l.getD n default)) = true then fs1 l n else fs1 l n ++ [(n : Int)]
theorem fs1_len (l : List Arm) : ∀ n, (fs1 l n).length ≤ n
  | 0 => Nat.le_refl 0
  | n + 1 => by
    have := fs1_len l n
    unfold fs1
    split
    · omega
    · rw [List.length_append, List.length_singleton]; omega
theorem idx_any {l : List Arm} {i : Nat} (h : i < l.length) : (idxF (fun y => decide (y = l.getD i default)) l == (i : Int)) = !(l.take i).any (fun y => decide (y = l.getD i default)) := by
  have hi : l.getD i default = l[i] := by rw [List.getD_eq_getElem?_getD, List.getElem?_eq_getElem h, Option.getD_some]
  cases e : (l.take i).any (fun y => decide (y = l.getD i default)) with
  | false =>
    rw [idxF_at default h (by simp) (fun j hj => ?_)]
    · simp
    · have := List.any_eq_false.1 e (l.getD j default) (by
        rw [List.getD_eq_getElem?_getD, List.getElem?_eq_getElem (by omega), Option.getD_some]
        exact List.mem_take_iff_getElem.2 ⟨j, by omega, rfl⟩)
      simpa using this
  | true =>
    obtain ⟨y, hy, hp⟩ := List.any_eq_true.1 e
    obtain ⟨j, hj, rfl⟩ := List.mem_take_iff_getElem.1 hy
    have hlt : l.findIdx (fun y => decide (y = l.getD i default)) ≤ j := Nat.le_of_not_lt fun hlt => by
      have := List.not_of_lt_findIdx hlt
      rw [hp] at this
      cases this
    unfold idxF
    rw [if_pos (List.any_eq_true.2 ⟨l[j], List.getElem_mem _, hp⟩)]
    simp only [Bool.not_true, beq_eq_false_iff_ne, ne_eq]
    omega
theorem seen_s {l : List Arm} {k : Nat} {x : Arm} (h : k < l.length) : (l.take (k + 1)).any (fun y => decide (y = x)) = bif (l.take k).any (fun y => decide (y = x)) then true else decide (l.getD k default = x) := by
  rw [List.take_succ_eq_append_getElem h, List.any_append, List.getD_eq_getElem?_getD, List.getElem?_eq_getElem h, Option.getD_some]
  cases (l.take k).any (fun y => decide (y = x)) <;> simp
theorem TlA_HS {H : Hold} (hH : H = stdH) (L : List Arm) : Tl rowA (H Nat fun _ => L.length) (rowsA H fun _ => L) = L := by subst hH; exact Tl_A L
theorem c_differentH (s : Shd) (h0 : s.parts.length ≤ 2000000) : ConN Tryz.prog 217 [aT rowH stdH fun _ => s] [] 0 (.slc 0 0 1 (stdH Nat fun _ => (fs1 s.parts s.parts.length).length)) [.rows 1 (stdH Nat fun _ => (fs1 s.parts s.parts.length).length) (rowsI stdH fun _ => fs1 s.parts s.parts.length) 3] [] := by
  have hB : Base Tryz.prog (tabΓ [e_idxA]) tabO := base_of tabOkO (ents_cons eok_idxA <| ents_nil)
  refine con_m (N := 27) hB (draw_ok hB mixed) Tryz.func217 rfl rfl (fun H => [aT rowH H fun _ => s]) (fun _ => []) 0 (fun H => .slc 0 0 1 (H Nat fun _ => (fs1 s.parts s.parts.length).length)) (fun H => [.rows 1 (H Nat fun _ => (fs1 s.parts s.parts.length).length) (rowsI H fun _ => fs1 s.parts s.parts.length) 3]) (fun _ => []) 300 (by simp) (fun x hx => ?_) (by simp [lk]) (by omega) (by simp) ?_
  · simp only [List.mem_cons, List.not_mem_nil, or_false] at hx
    rcases hx with rfl
    · exact aT_bl okRH _ _
  intro X hX hX0 H hH
  conv in Fin.chk _ _ => cbv
  try simp only [Plain_rowsA, Plain_rowsB, Plain_rowsF, Plain_rowsG, Plain_rowsI, Plain_rowsS, Plain_rowsU, Fin.satC_ret, Fin.satC_br, Fin.satC_need, Fin.satC_again, AllP, and_true, true_and, upd, List.length_nil, List.length_cons, Nat.zero_add, if_true, ncast, Int.ofNat_eq_natCast]
  refine loop_a hB (draw_ok hB mixed) hX hX0 hH false (ι := { i : Nat // i ≤ s.parts.length }) 300 (fun i => [.r (H Nat fun _ => (fs1 s.parts i.1).length) (rowsI H fun _ => fs1 s.parts i.1), .i (H Int fun _ => (i.1 : Nat))]) (fun i => s.parts.length - i.1) (⟨0, by omega⟩) ?_ ?_
  · (conv in matchSt _ _ _ _ => cbv); simp only [AllG, AllP, and_true, hH, stdH, Nat.le_refl, ncast, Int.ofNat_eq_natCast, vrow_I, Arm.eta2, Fld.eta, Grp.eta]
    all_goals (repeat' (with_reducible refine And.intro ?_ ?_)) <;> (first | exact Eq.refl _ | exact True.intro | exact Nat.le_refl _ | exact RowsEq.self okRA | exact RowsEq.ofT okRA rfl (Shp_zero _) rfl | exact RowsEq.snoc okRA rfl | exact RowsEq.self okI | exact RowsEq.ofT okI rfl (Shp_zero _) rfl | exact RowsEq.snoc okI rfl | exact RowsEq.more okI (Shp_I _ _) (Tl_I _) | exact List.length_append | exact c.rqN)
  · intro I hI i
    conv in Fin.chk _ _ => cbv
    try simp only [Plain_rowsA, Plain_rowsB, Plain_rowsF, Plain_rowsG, Plain_rowsI, Plain_rowsS, Plain_rowsU, Fin.satC_ret, Fin.satC_br, Fin.satC_need, Fin.satC_again, AllP, and_true, true_and, upd, List.length_nil, List.length_cons, Nat.zero_add, if_true, ncast, Int.ofNat_eq_natCast]
    obtain ⟨i, hi⟩ := i
    have hl := fs1_len s.parts i
    simp only [hetaA hH, TlA_HS hH]
    refine ⟨fun h1 => ⟨?_, ⟨?_, ?_⟩, fun h2 => ⟨⟨?_, ?_⟩, ?_⟩, fun h2 => ?_⟩, fun h1 => ?_⟩
    · simp only [hH, stdH, Nat.le_refl, decide_eq_true_eq, decide_eq_false_iff_not, Bool.not_eq_true', Bool.not_eq_false', peta, ncast, Int.ofNat_eq_natCast, beq_iff_eq, bne_iff_ne, beq_eq_false_iff_ne, bne_eq_false_iff_eq, ne_eq, Classical.not_not, Int.toNat_natCast, vrow_I, Arm.eta2, Fld.eta, Grp.eta] at h1 ⊢
      omega
    · try simp only [hH, stdH, Nat.le_refl, decide_eq_true_eq, decide_eq_false_iff_not, Bool.not_eq_true', Bool.not_eq_false', peta, ncast, Int.ofNat_eq_natCast, beq_iff_eq, bne_iff_ne, beq_eq_false_iff_ne, bne_eq_false_iff_eq, ne_eq, Classical.not_not, Int.toNat_natCast, vrow_I, Arm.eta2, Fld.eta, Grp.eta]
      exact Shp_A _ _
    · try simp only [hH, stdH, Nat.le_refl, decide_eq_true_eq, decide_eq_false_iff_not, Bool.not_eq_true', Bool.not_eq_false', peta, ncast, Int.ofNat_eq_natCast, beq_iff_eq, bne_iff_ne, beq_eq_false_iff_ne, bne_eq_false_iff_eq, ne_eq, Classical.not_not, Int.toNat_natCast, vrow_I, Arm.eta2, Fld.eta, Grp.eta]
      omega
    · try simp only [hH, stdH, Nat.le_refl, decide_eq_true_eq, decide_eq_false_iff_not, Bool.not_eq_true', Bool.not_eq_false', peta, ncast, Int.ofNat_eq_natCast, beq_iff_eq, bne_iff_ne, beq_eq_false_iff_ne, bne_eq_false_iff_eq, ne_eq, Classical.not_not, Int.toNat_natCast, vrow_I, Arm.eta2, Fld.eta, Grp.eta]
    · try simp only [hH, stdH, Nat.le_refl, decide_eq_true_eq, decide_eq_false_iff_not, Bool.not_eq_true', Bool.not_eq_false', peta, ncast, Int.ofNat_eq_natCast, beq_iff_eq, bne_iff_ne, beq_eq_false_iff_ne, bne_eq_false_iff_eq, ne_eq, Classical.not_not, Int.toNat_natCast, vrow_I, Arm.eta2, Fld.eta, Grp.eta]
      ((repeat' (with_reducible refine And.intro ?_ ?_)) <;> (first | exact True.intro | omega | exact Eq.refl _))
    · simp only [hH, stdH, Nat.le_refl, decide_eq_true_eq, decide_eq_false_iff_not, Bool.not_eq_true', Bool.not_eq_false', peta, ncast, Int.ofNat_eq_natCast, beq_iff_eq, bne_iff_ne, beq_eq_false_iff_ne, bne_eq_false_iff_eq, ne_eq, Classical.not_not, Int.toNat_natCast, vrow_I, Arm.eta2, Fld.eta, Grp.eta] at h1
      simp only [hH, stdH, Int.toNat_natCast] at h2
      rw [idx_any (by omega), Bool.not_eq_true'] at h2
      have e : fs1 s.parts (i + 1) = fs1 s.parts i ++ [(i : Int)] := if_neg (ne_true_of_eq_false h2)
      refine ⟨⟨i + 1, by omega⟩, by simp only; omega, ?_⟩
      rw [hI]
      (conv in matchSt _ _ _ _ => cbv); simp only [AllG, AllP, and_true, hH, stdH, Nat.le_refl, ncast, Int.ofNat_eq_natCast, vrow_I, Arm.eta2, Fld.eta, Grp.eta]
      rw [w1 (by omega), e]
      all_goals (repeat' (with_reducible refine And.intro ?_ ?_)) <;> (first | exact Eq.refl _ | exact True.intro | exact Nat.le_refl _ | exact RowsEq.self okRA | exact RowsEq.ofT okRA rfl (Shp_zero _) rfl | exact RowsEq.snoc okRA rfl | exact RowsEq.self okI | exact RowsEq.ofT okI rfl (Shp_zero _) rfl | exact RowsEq.snoc okI rfl | exact RowsEq.more okI (Shp_I _ _) (Tl_I _) | exact List.length_append | exact c.rqN)
    · simp only [hH, stdH, Nat.le_refl, decide_eq_true_eq, decide_eq_false_iff_not, Bool.not_eq_true', Bool.not_eq_false', peta, ncast, Int.ofNat_eq_natCast, beq_iff_eq, bne_iff_ne, beq_eq_false_iff_ne, bne_eq_false_iff_eq, ne_eq, Classical.not_not, Int.toNat_natCast, vrow_I, Arm.eta2, Fld.eta, Grp.eta] at h1
      simp only [hH, stdH, Int.toNat_natCast] at h2
      rw [idx_any (by omega), Bool.not_eq_false'] at h2
      have e : fs1 s.parts (i + 1) = fs1 s.parts i := if_pos h2
      refine ⟨⟨i + 1, by omega⟩, by simp only; omega, ?_⟩
      rw [hI]
      (conv in matchSt _ _ _ _ => cbv); simp only [AllG, AllP, and_true, hH, stdH, Nat.le_refl, ncast, Int.ofNat_eq_natCast, vrow_I, Arm.eta2, Fld.eta, Grp.eta]
      rw [w1 (by omega), e]
      all_goals (repeat' (with_reducible refine And.intro ?_ ?_)) <;> (first | exact Eq.refl _ | exact True.intro | exact Nat.le_refl _ | exact RowsEq.self okRA | exact RowsEq.ofT okRA rfl (Shp_zero _) rfl | exact RowsEq.snoc okRA rfl | exact RowsEq.self okI | exact RowsEq.ofT okI rfl (Shp_zero _) rfl | exact RowsEq.snoc okI rfl | exact RowsEq.more okI (Shp_I _ _) (Tl_I _) | exact List.length_append | exact c.rqN)
    · simp only [hH, stdH, Nat.le_refl, decide_eq_true_eq, decide_eq_false_iff_not, Bool.not_eq_true', Bool.not_eq_false', peta, ncast, Int.ofNat_eq_natCast, beq_iff_eq, bne_iff_ne, beq_eq_false_iff_ne, bne_eq_false_iff_eq, ne_eq, Classical.not_not, Int.toNat_natCast, vrow_I, Arm.eta2, Fld.eta, Grp.eta] at h1
      obtain rfl : i = s.parts.length := by omega
      try simp only [hH, stdH, Nat.le_refl, decide_eq_true_eq, decide_eq_false_iff_not, Bool.not_eq_true', Bool.not_eq_false', peta, ncast, Int.ofNat_eq_natCast, beq_iff_eq, bne_iff_ne, beq_eq_false_iff_ne, bne_eq_false_iff_eq, ne_eq, Classical.not_not, Int.toNat_natCast, vrow_I, Arm.eta2, Fld.eta, Grp.eta]
      exact ⟨RowsEq.self okI, trivial⟩
noncomputable def e_differentH : Entry := pureN 217 fun H a => match a with
  | [.agg [.lit (.int .i64 s0), .vec 15 s1n s1f]] => some (fun nx => .slc nx 0 1 (H Nat fun _ => (fs1 (⟨s0, (Tl rowA s1n s1f)⟩ : Shd).parts (⟨s0, (Tl rowA s1n s1f)⟩ : Shd).parts.length).length), [.rows 1 (H Nat fun _ => (fs1 (⟨s0, (Tl rowA s1n s1f)⟩ : Shd).parts (⟨s0, (Tl rowA s1n s1f)⟩ : Shd).parts.length).length) (rowsI H fun _ => fs1 (⟨s0, (Tl rowA s1n s1f)⟩ : Shd).parts (⟨s0, (Tl rowA s1n s1f)⟩ : Shd).parts.length) 3], [H Prop fun _ => Shp rowA s1n s1f, H Prop fun _ => (⟨s0, (Tl rowA s1n s1f)⟩ : Shd).parts.length ≤ 2000000])
  | _ => none
theorem eok_differentH : EntryOk Tryz.prog e_differentH := pureN_ok (by unfold isBody; kernel_rfl) (by
  intro a r nb ob e hob
  split at e
  · rename_i s0 s1n s1f
    simp only [Option.some.injEq, Prod.mk.injEq] at e
    obtain ⟨rfl, rfl, rfl⟩ := e
    refine ⟨ConN.args (.cons (.agg (.cons .rfl (.cons (.toT okRA rfl hob.1) .nil))) .nil) (c_differentH (⟨s0, (Tl rowA s1n s1f)⟩ : Shd) hob.2.1), fun x hx => ?_, fun nx => ?_, fun b hb => ?_⟩
    · simp only [List.mem_cons, List.not_mem_nil, or_false] at hx
      rcases hx with rfl
      · exact (.agg fun c hc => (by
        simp only [List.mem_cons, List.not_mem_nil, or_false] at hc
        rcases hc with rfl | rfl
        · exact .lit
        · exact (hob.1).bl okRA _))
    · (first | exact .slc ⟨by omega, by simp⟩ (by omega) | (refine .tup rfl (fun c x y hx hy => ?_); rcases c with _ | _ | _ | c <;> simp at hx hy <;> (subst hx; subst hy; first | exact .slc ⟨by omega, by simp⟩ (by omega) | exact .pl .lit | exact .pl (blq_ok 4 rfl) | (refine .agg rfl (fun c x y hx hy => ?_); rcases c with _ | _ | _ | c <;> simp at hx hy <;> (subst hx; subst hy; first | exact .slc ⟨by omega, by simp⟩ (by omega) | exact .pl .lit | exact .pl (blq_ok 4 rfl))))) | (refine .agg rfl (fun c x y hx hy => ?_); rcases c with _ | _ | _ | c <;> simp at hx hy <;> (subst hx; subst hy; first | exact .slc ⟨by omega, by simp⟩ (by omega) | exact .pl .lit | exact .pl (blq_ok 4 rfl))))
    · simp only [List.mem_cons, List.not_mem_nil, or_false] at hb; subst hb; exact bT_bl okI _ (fun _ => fs1 (⟨s0, (Tl rowA s1n s1f)⟩ : Shd).parts (⟨s0, (Tl rowA s1n s1f)⟩ : Shd).parts.length) _
  · simp at e)
theorem c_differentS (l : List Arm) (h0 : l.length ≤ 2000000) : ConN Tryz.prog 133 [.vec 15 (stdH Nat fun _ => (l).length) (rowsA stdH fun _ => l)] [] 0 (.slc 0 0 1 (stdH Nat fun _ => (fs1 l l.length).length)) [.rows 1 (stdH Nat fun _ => (fs1 l l.length).length) (rowsI stdH fun _ => fs1 l l.length) 3] [] := by
  have hB : Base Tryz.prog (tabΓ []) tabO := base_of tabOkO (ents_nil)
  refine con_m (N := 38) hB (draw_ok hB mixed) Tryz.func133 rfl rfl (fun H => [.vec 15 (H Nat fun _ => (l).length) (rowsA H fun _ => l)]) (fun _ => []) 0 (fun H => .slc 0 0 1 (H Nat fun _ => (fs1 l l.length).length)) (fun H => [.rows 1 (H Nat fun _ => (fs1 l l.length).length) (rowsI H fun _ => fs1 l l.length) 3]) (fun _ => []) 300 (by simp) (fun x hx => ?_) (by simp [lk]) (by omega) (by simp) ?_
  · simp only [List.mem_cons, List.not_mem_nil, or_false] at hx
    rcases hx with rfl
    · exact vl_bl okRA l _
  intro X hX hX0 H hH
  conv in Fin.chk _ _ => cbv
  try simp only [Plain_rowsA, Plain_rowsB, Plain_rowsF, Plain_rowsG, Plain_rowsI, Plain_rowsS, Plain_rowsU, Fin.satC_ret, Fin.satC_br, Fin.satC_need, Fin.satC_again, AllP, and_true, true_and, upd, List.length_nil, List.length_cons, Nat.zero_add, if_true, ncast, Int.ofNat_eq_natCast]
  refine loop_a hB (draw_ok hB mixed) hX hX0 hH false (ι := { i : Nat // i ≤ l.length }) 300 (fun i => [.r (H Nat fun _ => (fs1 l i.1).length) (rowsI H fun _ => fs1 l i.1), .i (H Int fun _ => (i.1 : Nat))]) (fun i => l.length - i.1) (⟨0, by omega⟩) ?_ ?_
  · (conv in matchSt _ _ _ _ => cbv); simp only [AllG, AllP, and_true, hH, stdH, Nat.le_refl, ncast, Int.ofNat_eq_natCast, vrow_I, Arm.eta2, Fld.eta, Grp.eta]
    all_goals (repeat' (with_reducible refine And.intro ?_ ?_)) <;> (first | exact Eq.refl _ | exact True.intro | exact Nat.le_refl _ | exact RowsEq.self okRA | exact RowsEq.ofT okRA rfl (Shp_zero _) rfl | exact RowsEq.snoc okRA rfl | exact RowsEq.self okI | exact RowsEq.ofT okI rfl (Shp_zero _) rfl | exact RowsEq.snoc okI rfl | exact RowsEq.more okI (Shp_I _ _) (Tl_I _) | exact List.length_append | exact c.rqN)
  · intro I hI i
    conv in Fin.chk _ _ => cbv
    try simp only [Plain_rowsA, Plain_rowsB, Plain_rowsF, Plain_rowsG, Plain_rowsI, Plain_rowsS, Plain_rowsU, Fin.satC_ret, Fin.satC_br, Fin.satC_need, Fin.satC_again, AllP, and_true, true_and, upd, List.length_nil, List.length_cons, Nat.zero_add, if_true, ncast, Int.ofNat_eq_natCast]
    obtain ⟨i, hi⟩ := i
    have hl := fs1_len l i
    refine ⟨fun h1 => ?_, fun h1 => ?_⟩
    · simp only [hH, stdH, Nat.le_refl, decide_eq_true_eq, decide_eq_false_iff_not, Bool.not_eq_true', Bool.not_eq_false', peta, ncast, Int.ofNat_eq_natCast, beq_iff_eq, bne_iff_ne, beq_eq_false_iff_ne, bne_eq_false_iff_eq, ne_eq, Classical.not_not, Int.toNat_natCast, vrow_I, Arm.eta2, Fld.eta, Grp.eta] at h1
      have h1 : i < l.length := by omega
      have g1 : 0 ≤ i := Nat.zero_le _
      refine loop_a hB (draw_ok hB mixed) hX hX0 hH true (ι := { k : Nat // k ≤ i }) 300 (fun k => [.b (H Bool fun _ => (l.take k.1).any (fun y => decide (y = l.getD i default))), .i (H Int fun _ => (k.1 : Nat))]) (fun k => i - k.1) (⟨0, g1⟩) ?_ ?_
      · (conv in matchSt _ _ _ _ => cbv); simp only [AllG, AllP, and_true, hH, stdH, Nat.le_refl, ncast, Int.ofNat_eq_natCast, vrow_I, Arm.eta2, Fld.eta, Grp.eta]
        all_goals (repeat' (with_reducible refine And.intro ?_ ?_)) <;> (first | exact Eq.refl _ | exact True.intro | exact Nat.le_refl _ | exact RowsEq.self okRA | exact RowsEq.ofT okRA rfl (Shp_zero _) rfl | exact RowsEq.snoc okRA rfl | exact RowsEq.self okI | exact RowsEq.ofT okI rfl (Shp_zero _) rfl | exact RowsEq.snoc okI rfl | exact RowsEq.more okI (Shp_I _ _) (Tl_I _) | exact List.length_append | exact c.rqN)
      · intro I2 hI2 k
        conv in Fin.chk _ _ => cbv
        try simp only [Plain_rowsA, Plain_rowsB, Plain_rowsF, Plain_rowsG, Plain_rowsI, Plain_rowsS, Plain_rowsU, Fin.satC_ret, Fin.satC_br, Fin.satC_need, Fin.satC_again, AllP, and_true, true_and, upd, List.length_nil, List.length_cons, Nat.zero_add, if_true, ncast, Int.ofNat_eq_natCast]
        obtain ⟨k, hk⟩ := k
        try simp only [hetaA hH, TlA_HS hH]
        refine ⟨fun h5 => ⟨?_, ?_, ?_⟩, fun h5 => ⟨fun h6 => ⟨⟨?_, ?_⟩, ?_⟩, fun h6 => ?_⟩⟩
        · simp only [hH, stdH, Nat.le_refl, decide_eq_true_eq, decide_eq_false_iff_not, Bool.not_eq_true', Bool.not_eq_false', peta, ncast, Int.ofNat_eq_natCast, beq_iff_eq, bne_iff_ne, beq_eq_false_iff_ne, bne_eq_false_iff_eq, ne_eq, Classical.not_not, Int.toNat_natCast, vrow_I, Arm.eta2, Fld.eta, Grp.eta] at h5 ⊢
          exact fun _ => by omega
        · simp only [hH, stdH, Nat.le_refl, decide_eq_true_eq, decide_eq_false_iff_not, Bool.not_eq_true', Bool.not_eq_false', peta, ncast, Int.ofNat_eq_natCast, beq_iff_eq, bne_iff_ne, beq_eq_false_iff_ne, bne_eq_false_iff_eq, ne_eq, Classical.not_not, Int.toNat_natCast, vrow_I, Arm.eta2, Fld.eta, Grp.eta] at h5 ⊢
          exact fun _ => by omega
        · simp only [hH, stdH, Nat.le_refl, decide_eq_true_eq, decide_eq_false_iff_not, Bool.not_eq_true', Bool.not_eq_false', peta, ncast, Int.ofNat_eq_natCast, beq_iff_eq, bne_iff_ne, beq_eq_false_iff_ne, bne_eq_false_iff_eq, ne_eq, Classical.not_not, Int.toNat_natCast, vrow_I, Arm.eta2, Fld.eta, Grp.eta] at h5
          refine ⟨⟨k + 1, by omega⟩, by simp only; omega, ?_⟩
          rw [hI2]
          (conv in matchSt _ _ _ _ => cbv); simp only [AllG, AllP, and_true, hH, stdH, Nat.le_refl, ncast, Int.ofNat_eq_natCast, vrow_I, Arm.eta2, Fld.eta, Grp.eta]
          simp only [eqAE]
          rw [w1 (by omega), seen_s (by omega)]
          all_goals (repeat' (with_reducible refine And.intro ?_ ?_)) <;> (first | exact Eq.refl _ | exact True.intro | exact Nat.le_refl _ | exact RowsEq.self okRA | exact RowsEq.ofT okRA rfl (Shp_zero _) rfl | exact RowsEq.snoc okRA rfl | exact RowsEq.self okI | exact RowsEq.ofT okI rfl (Shp_zero _) rfl | exact RowsEq.snoc okI rfl | exact RowsEq.more okI (Shp_I _ _) (Tl_I _) | exact List.length_append | exact c.rqN)
        · try simp only [hH, stdH, Nat.le_refl, decide_eq_true_eq, decide_eq_false_iff_not, Bool.not_eq_true', Bool.not_eq_false', peta, ncast, Int.ofNat_eq_natCast, beq_iff_eq, bne_iff_ne, beq_eq_false_iff_ne, bne_eq_false_iff_eq, ne_eq, Classical.not_not, Int.toNat_natCast, vrow_I, Arm.eta2, Fld.eta, Grp.eta]
        · try simp only [hH, stdH, Nat.le_refl, decide_eq_true_eq, decide_eq_false_iff_not, Bool.not_eq_true', Bool.not_eq_false', peta, ncast, Int.ofNat_eq_natCast, beq_iff_eq, bne_iff_ne, beq_eq_false_iff_ne, bne_eq_false_iff_eq, ne_eq, Classical.not_not, Int.toNat_natCast, vrow_I, Arm.eta2, Fld.eta, Grp.eta]
          ((repeat' (with_reducible refine And.intro ?_ ?_)) <;> (first | exact True.intro | omega | exact Eq.refl _))
        · simp only [hH, stdH, Nat.le_refl, decide_eq_true_eq, decide_eq_false_iff_not, Bool.not_eq_true', Bool.not_eq_false', peta, ncast, Int.ofNat_eq_natCast, beq_iff_eq, bne_iff_ne, beq_eq_false_iff_ne, bne_eq_false_iff_eq, ne_eq, Classical.not_not, Int.toNat_natCast, vrow_I, Arm.eta2, Fld.eta, Grp.eta] at h5
          obtain rfl : k = i := by omega
          simp only [hH, stdH, Int.toNat_natCast] at h6
          rw [Bool.not_eq_true'] at h6
          have e : fs1 l (k + 1) = fs1 l k ++ [(k : Int)] := if_neg (ne_true_of_eq_false h6)
          rw [if_neg (by decide)]
          refine ⟨⟨k + 1, by omega⟩, by simp only; omega, ?_⟩
          rw [hI]
          (conv in matchSt _ _ _ _ => cbv); simp only [AllG, AllP, and_true, hH, stdH, Nat.le_refl, ncast, Int.ofNat_eq_natCast, vrow_I, Arm.eta2, Fld.eta, Grp.eta]
          rw [w1 (by omega), e]
          all_goals (repeat' (with_reducible refine And.intro ?_ ?_)) <;> (first | exact Eq.refl _ | exact True.intro | exact Nat.le_refl _ | exact RowsEq.self okRA | exact RowsEq.ofT okRA rfl (Shp_zero _) rfl | exact RowsEq.snoc okRA rfl | exact RowsEq.self okI | exact RowsEq.ofT okI rfl (Shp_zero _) rfl | exact RowsEq.snoc okI rfl | exact RowsEq.more okI (Shp_I _ _) (Tl_I _) | exact List.length_append | exact c.rqN)
        · simp only [hH, stdH, Nat.le_refl, decide_eq_true_eq, decide_eq_false_iff_not, Bool.not_eq_true', Bool.not_eq_false', peta, ncast, Int.ofNat_eq_natCast, beq_iff_eq, bne_iff_ne, beq_eq_false_iff_ne, bne_eq_false_iff_eq, ne_eq, Classical.not_not, Int.toNat_natCast, vrow_I, Arm.eta2, Fld.eta, Grp.eta] at h5
          obtain rfl : k = i := by omega
          simp only [hH, stdH, Int.toNat_natCast] at h6
          rw [Bool.not_eq_false'] at h6
          have e : fs1 l (k + 1) = fs1 l k := if_pos h6
          rw [if_neg (by decide)]
          refine ⟨⟨k + 1, by omega⟩, by simp only; omega, ?_⟩
          rw [hI]
          (conv in matchSt _ _ _ _ => cbv); simp only [AllG, AllP, and_true, hH, stdH, Nat.le_refl, ncast, Int.ofNat_eq_natCast, vrow_I, Arm.eta2, Fld.eta, Grp.eta]
          rw [w1 (by omega), e]
          all_goals (repeat' (with_reducible refine And.intro ?_ ?_)) <;> (first | exact Eq.refl _ | exact True.intro | exact Nat.le_refl _ | exact RowsEq.self okRA | exact RowsEq.ofT okRA rfl (Shp_zero _) rfl | exact RowsEq.snoc okRA rfl | exact RowsEq.self okI | exact RowsEq.ofT okI rfl (Shp_zero _) rfl | exact RowsEq.snoc okI rfl | exact RowsEq.more okI (Shp_I _ _) (Tl_I _) | exact List.length_append | exact c.rqN)
    · simp only [hH, stdH, Nat.le_refl, decide_eq_true_eq, decide_eq_false_iff_not, Bool.not_eq_true', Bool.not_eq_false', peta, ncast, Int.ofNat_eq_natCast, beq_iff_eq, bne_iff_ne, beq_eq_false_iff_ne, bne_eq_false_iff_eq, ne_eq, Classical.not_not, Int.toNat_natCast, vrow_I, Arm.eta2, Fld.eta, Grp.eta] at h1
      obtain rfl : i = l.length := by omega
      try simp only [hH, stdH, Nat.le_refl, decide_eq_true_eq, decide_eq_false_iff_not, Bool.not_eq_true', Bool.not_eq_false', peta, ncast, Int.ofNat_eq_natCast, beq_iff_eq, bne_iff_ne, beq_eq_false_iff_ne, bne_eq_false_iff_eq, ne_eq, Classical.not_not, Int.toNat_natCast, vrow_I, Arm.eta2, Fld.eta, Grp.eta]
      exact ⟨RowsEq.self okI, trivial⟩
noncomputable def e_differentS : Entry := pureN 133 fun H a => match a with
  | [.vec 15 ln lf] => some (fun nx => .slc nx 0 1 (H Nat fun _ => (fs1 (Tl rowA ln lf) (Tl rowA ln lf).length).length), [.rows 1 (H Nat fun _ => (fs1 (Tl rowA ln lf) (Tl rowA ln lf).length).length) (rowsI H fun _ => fs1 (Tl rowA ln lf) (Tl rowA ln lf).length) 3], [H Prop fun _ => Shp rowA ln lf, H Prop fun _ => (Tl rowA ln lf).length ≤ 2000000])
  | _ => none
theorem eok_differentS : EntryOk Tryz.prog e_differentS := pureN_ok (by unfold isBody; kernel_rfl) (by
  intro a r nb ob e hob
  split at e
  · rename_i ln lf
    simp only [Option.some.injEq, Prod.mk.injEq] at e
    obtain ⟨rfl, rfl, rfl⟩ := e
    refine ⟨ConN.args (.cons (.toT okRA rfl hob.1) .nil) (c_differentS (Tl rowA ln lf) hob.2.1), fun x hx => ?_, fun nx => ?_, fun b hb => ?_⟩
    · simp only [List.mem_cons, List.not_mem_nil, or_false] at hx
      rcases hx with rfl
      · exact (hob.1).bl okRA _
    · (first | exact .slc ⟨by omega, by simp⟩ (by omega) | (refine .tup rfl (fun c x y hx hy => ?_); rcases c with _ | _ | _ | c <;> simp at hx hy <;> (subst hx; subst hy; first | exact .slc ⟨by omega, by simp⟩ (by omega) | exact .pl .lit | exact .pl (blq_ok 4 rfl) | (refine .agg rfl (fun c x y hx hy => ?_); rcases c with _ | _ | _ | c <;> simp at hx hy <;> (subst hx; subst hy; first | exact .slc ⟨by omega, by simp⟩ (by omega) | exact .pl .lit | exact .pl (blq_ok 4 rfl))))) | (refine .agg rfl (fun c x y hx hy => ?_); rcases c with _ | _ | _ | c <;> simp at hx hy <;> (subst hx; subst hy; first | exact .slc ⟨by omega, by simp⟩ (by omega) | exact .pl .lit | exact .pl (blq_ok 4 rfl))))
    · simp only [List.mem_cons, List.not_mem_nil, or_false] at hb; subst hb; exact bT_bl okI _ (fun _ => fs1 (Tl rowA ln lf) (Tl rowA ln lf).length) _
  · simp at e)

end Go.Proofs.YtbnohmfapmeaaaaGreatDoor.AM

