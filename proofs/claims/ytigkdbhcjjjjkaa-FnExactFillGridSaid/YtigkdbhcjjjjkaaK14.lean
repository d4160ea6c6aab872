/- Lemmas and contracts (Exm); conditions: none. -/
import Derived.Test.YtigkdbhcjjjjkaaK04
import Derived.Test.YtigkdbhcjjjjkaaK09
set_option linter.unusedVariables false
set_option linter.unusedSimpArgs false
set_option linter.unusedVariables false
set_option linter.unusedSimpArgs false
set_option maxRecDepth 100000
set_option maxHeartbeats 4000000
set_option cbv.maxSteps 3000000
namespace Go.Proofs.Ytigkdbhcjjjjkaa.AM
/- Lists of arms marked, and marks that are held; conditions: none. -/
def mkA (k : Int) : Arm := ⟨⟨k, k + 1, k + 2, k + 3⟩, k + 4, k + 5, k + 6, ⟨k + 7, k + 8, k + 9, k + 10⟩, ⟨k + 11, k + 12, k + 13, k + 14⟩⟩
def mkL (n : Nat) (k : Int) : List Arm := (List.range n).map fun i => mkA (k + 15 * (i : Nat))
theorem mkL_len (n : Nat) (k : Int) : (mkL n k).length = n := by simp [mkL]
theorem mkL_succ (n : Nat) (k : Int) : mkL (n + 1) k = mkL n k ++ [mkA (k + 15 * (n : Nat))] := by simp [mkL, List.range_succ]
theorem mkL_set {l : List Arm} {i : Nat} {k : Int} (h : i < l.length) : (mkL i k ++ l.drop i).set i (mkA (k + 15 * (i : Nat))) = mkL (i + 1) k ++ l.drop (i + 1) := by
  rw [List.set_append_right _ _ (by rw [mkL_len]; omega), mkL_len, Nat.sub_self, List.drop_eq_getElem_cons h, List.set_cons_zero, mkL_succ, List.append_assoc]
  rfl
theorem put2_same (j o : Nat) (cs : List AV) (f : Nat → List AV) : put2 j o cs f j = (match splice (f j) cs o with | some r => r | none => f j) := by unfold put2; rw [show Nat.beq j j = true by simp]; rfl
theorem put2_ne {j q : Nat} (h : q ≠ j) (o : Nat) (cs : List AV) (f : Nat → List AV) : put2 j o cs f q = f q := by unfold put2; rw [show Nat.beq q j = false by rw [← Bool.not_eq_true]; simpa using h]; rfl
theorem put1_same {α : Type} (j : Nat) (row : α) (f : Nat → α) : put1 j row f j = row := by unfold put1; rw [show Nat.beq j j = true by simp]; rfl
theorem put1_ne {α : Type} {j q : Nat} (h : q ≠ j) (row : α) (f : Nat → α) : put1 j row f q = f q := by unfold put1; rw [show Nat.beq q j = false by rw [← Bool.not_eq_true]; simpa using h]; rfl
theorem put2_15 {i : Nat} {f : Nat → List AV} (h : (f i).length = 15) (c0 c1 c2 c3 c4 c5 c6 c7 c8 c9 c10 c11 c12 c13 c14 : AV) : put2 i 14 [c14] (put2 i 13 [c13] (put2 i 12 [c12] (put2 i 11 [c11] (put2 i 10 [c10] (put2 i 9 [c9] (put2 i 8 [c8] (put2 i 7 [c7] (put2 i 6 [c6] (put2 i 5 [c5] (put2 i 4 [c4] (put2 i 3 [c3] (put2 i 2 [c2] (put2 i 1 [c1] (put2 i 0 [c0] f)))))))))))))) = put1 i [c0, c1, c2, c3, c4, c5, c6, c7, c8, c9, c10, c11, c12, c13, c14] f := by
  funext q
  by_cases hq : q = i
  · subst hq
    simp only [put2_same, put1_same]
    match hf : f q, h with
    | [d0, d1, d2, d3, d4, d5, d6, d7, d8, d9, d10, d11, d12, d13, d14], _ => simp only [splice, List.length_cons, List.length_nil, Nat.ble_eq, hf]; rfl
  · simp only [put2_ne hq, put1_ne hq]
theorem splice_len : ∀ {cs n : List AV} {o : Nat} {r : List AV}, splice cs n o = some r → r.length = cs.length
  | cs, n, 0, r, h => by
    simp only [splice] at h
    cases hb : Nat.ble n.length cs.length with
    | false => simp [hb] at h
    | true =>
      simp only [hb, cond_true, Option.some.injEq] at h
      subst h
      have := Nat.le_of_ble_eq_true hb
      simp; omega
  | [], n, o + 1, r, h => by simp [splice] at h
  | c :: cs, n, o + 1, r, h => by
    simp only [splice] at h
    cases hs : splice cs n o with
    | none => simp [hs] at h
    | some l =>
      simp only [hs, Option.some.injEq] at h
      subst h
      simp [splice_len hs]
theorem put2_len (j o : Nat) (cs : List AV) (f : Nat → List AV) (q : Nat) : (put2 j o cs f q).length = (f q).length := by
  by_cases h : q = j
  · subst h
    rw [put2_same]
    cases hs : splice (f q) cs o with
    | none => rfl
    | some r => exact splice_len hs
  · rw [put2_ne h]
theorem rowsA_len (L : List Arm) (j : Nat) : (rowsA stdH (fun _ => L) j).length = 15 := rfl
theorem wk0 {K : Int} (h : 0 ≤ K ∧ K ≤ 2000000000) : IntKind.i64.wrap (K + 1) = K + 1 := wi (by omega) (by omega)
theorem wk1 {K : Int} (h : 0 ≤ K ∧ K ≤ 2000000000) : IntKind.i64.wrap (K + 1 + 1) = K + 2 := by rw [wi (by omega) (by omega)]; omega
theorem wk2 {K : Int} (h : 0 ≤ K ∧ K ≤ 2000000000) : IntKind.i64.wrap (K + 2 + 1) = K + 3 := by rw [wi (by omega) (by omega)]; omega
theorem wk3 {K : Int} (h : 0 ≤ K ∧ K ≤ 2000000000) : IntKind.i64.wrap (K + 3 + 1) = K + 4 := by rw [wi (by omega) (by omega)]; omega
theorem wk4 {K : Int} (h : 0 ≤ K ∧ K ≤ 2000000000) : IntKind.i64.wrap (K + 4 + 1) = K + 5 := by rw [wi (by omega) (by omega)]; omega
theorem wk5 {K : Int} (h : 0 ≤ K ∧ K ≤ 2000000000) : IntKind.i64.wrap (K + 5 + 1) = K + 6 := by rw [wi (by omega) (by omega)]; omega
theorem wk6 {K : Int} (h : 0 ≤ K ∧ K ≤ 2000000000) : IntKind.i64.wrap (K + 6 + 1) = K + 7 := by rw [wi (by omega) (by omega)]; omega
theorem wk7 {K : Int} (h : 0 ≤ K ∧ K ≤ 2000000000) : IntKind.i64.wrap (K + 7 + 1) = K + 8 := by rw [wi (by omega) (by omega)]; omega
theorem wk8 {K : Int} (h : 0 ≤ K ∧ K ≤ 2000000000) : IntKind.i64.wrap (K + 8 + 1) = K + 9 := by rw [wi (by omega) (by omega)]; omega
theorem wk9 {K : Int} (h : 0 ≤ K ∧ K ≤ 2000000000) : IntKind.i64.wrap (K + 9 + 1) = K + 10 := by rw [wi (by omega) (by omega)]; omega
theorem wk10 {K : Int} (h : 0 ≤ K ∧ K ≤ 2000000000) : IntKind.i64.wrap (K + 10 + 1) = K + 11 := by rw [wi (by omega) (by omega)]; omega
theorem wk11 {K : Int} (h : 0 ≤ K ∧ K ≤ 2000000000) : IntKind.i64.wrap (K + 11 + 1) = K + 12 := by rw [wi (by omega) (by omega)]; omega
theorem wk12 {K : Int} (h : 0 ≤ K ∧ K ≤ 2000000000) : IntKind.i64.wrap (K + 12 + 1) = K + 13 := by rw [wi (by omega) (by omega)]; omega
theorem wk13 {K : Int} (h : 0 ≤ K ∧ K ≤ 2000000000) : IntKind.i64.wrap (K + 13 + 1) = K + 14 := by rw [wi (by omega) (by omega)]; omega
theorem wk14 {K : Int} (h : 0 ≤ K ∧ K ≤ 2000000000) : IntKind.i64.wrap (K + 14 + 1) = K + 15 := by rw [wi (by omega) (by omega)]; omega
theorem c_markArmsS (l : List Arm) (k : Int) (h0 : l.length ≤ 1048576) (h1 : 0 ≤ k ∧ k ≤ 1000000000) : ConN Try.prog 21 [.slc 0 0 15 (stdH Nat fun _ => l.length), .lit (.int .i64 k)] [(0, .rows 15 (stdH Nat fun _ => l.length) (rowsA stdH fun _ => l) 43)] 1 (.lit (.int .i64 (stdH Int fun _ => k + 15 * (l.length : Nat)))) [] [(0, .rows 15 (stdH Nat fun _ => l.length) (rowsA stdH fun _ => mkL l.length k) 43)] := by
  have hB : Base Try.prog (tabΓ []) tab := base_of tabOk (ents_nil)
  refine con_m (N := 130) hB (draw_ok hB mixed) Try.func21 rfl rfl (fun H => [.slc 0 0 15 (H Nat fun _ => l.length), .lit (.int .i64 k)]) (fun H => [(0, .rows 15 (H Nat fun _ => l.length) (rowsA H fun _ => l) 43)]) 1 (fun H => .lit (.int .i64 (H Int fun _ => k + 15 * (l.length : Nat)))) (fun H => []) (fun H => [(0, .rows 15 (H Nat fun _ => l.length) (rowsA H fun _ => mkL l.length k) 43)]) 3000 (by simp) (fun x hx => ?_) (fun i b hi => ?_) (fun i hi => ?_) (fun i b hi => ?_) ?_
  · simp only [List.mem_cons, List.not_mem_nil, or_false] at hx
    rcases hx with rfl | rfl
    · exact .slc (by omega)
    · exact .lit
  · have := lk_in hi
    simp only [List.mem_cons, List.not_mem_nil, or_false, Prod.mk.injEq] at this
    obtain ⟨rfl, rfl⟩ := this
    exact ⟨by omega, bT_bl okRA _ (fun _ => l) _, _, List.mem_cons_self⟩
  · obtain rfl : i = 0 := by omega
    exact ⟨_, rfl⟩
  · simp only [List.mem_cons, List.not_mem_nil, or_false, Prod.mk.injEq] at hi
    obtain ⟨rfl, rfl⟩ := hi
    exact ⟨_, rfl⟩
  intro X hX hX0 H hH
  conv in Fin.chk _ _ => cbv
  try simp only [Plain_rowsA, Plain_rowsB, Plain_rowsF, Plain_rowsG, Plain_rowsI, Plain_rowsS, Plain_rowsU, Fin.satC_ret, Fin.satC_br, Fin.satC_need, Fin.satC_again, AllP, and_true, true_and, upd, List.length_nil, List.length_cons, Nat.zero_add, if_true, ncast, Int.ofNat_eq_natCast]
  refine loop_a hB (draw_ok hB mixed) hX hX0 hH false (ι := { i : Nat // i ≤ l.length }) 3000 (fun i => [.r (H Nat fun _ => (mkL i.1 k ++ l.drop i.1).length) (rowsA H fun _ => mkL i.1 k ++ l.drop i.1), .i (H Int fun _ => k + 15 * ((i.1 : Nat) : Int)), .i (H Int fun _ => (i.1 : Nat))]) (fun i => l.length - i.1) (⟨0, by omega⟩) ?_ ?_
  · (conv in matchSt _ _ _ _ => cbv); simp only [AllG, AllP, and_true, hH, stdH, Nat.le_refl, ncast, Int.ofNat_eq_natCast, vrow_I, Arm.eta2, Fld.eta, Grp.eta]
    exact ⟨.self okRA, rfl, trivial, by omega⟩
  · intro I hI i
    conv in Fin.chk _ _ => cbv
    try simp only [Plain_rowsA, Plain_rowsB, Plain_rowsF, Plain_rowsG, Plain_rowsI, Plain_rowsS, Plain_rowsU, Fin.satC_ret, Fin.satC_br, Fin.satC_need, Fin.satC_again, AllP, and_true, true_and, upd, List.length_nil, List.length_cons, Nat.zero_add, if_true, ncast, Int.ofNat_eq_natCast]
    obtain ⟨i, hi⟩ := i
    refine ⟨fun h1 => ?_, fun h1 => ?_⟩
    · simp only [hH, stdH, Nat.le_refl, decide_eq_true_eq, decide_eq_false_iff_not, Bool.not_eq_true', Bool.not_eq_false', peta, ncast, Int.ofNat_eq_natCast, beq_iff_eq, bne_iff_ne, beq_eq_false_iff_ne, bne_eq_false_iff_eq, ne_eq, Classical.not_not, Int.toNat_natCast, vrow_I, Arm.eta2, Fld.eta, Grp.eta] at h1
      have hK : 0 ≤ k + 15 * (i : Int) ∧ k + 15 * (i : Int) ≤ 2000000000 := by omega
      repeat' (first | refine And.intro ?_ ?_ | intro _)
      all_goals try (simp only [hH, stdH, Int.toNat_natCast, List.length_append, mkL_len, List.length_drop, put2_len, rowsA_len, and_true]; omega)
      refine ⟨⟨i + 1, by omega⟩, by simp only; omega, ?_⟩
      rw [hI]
      (conv in matchSt _ _ _ _ => cbv); simp only [AllG, AllP, and_true, hH, stdH, Nat.le_refl, ncast, Int.ofNat_eq_natCast, vrow_I, Arm.eta2, Fld.eta, Grp.eta]
      simp only [wk0 hK, wk1 hK, wk2 hK, wk3 hK, wk4 hK, wk5 hK, wk6 hK, wk7 hK, wk8 hK, wk9 hK, wk10 hK, wk11 hK, wk12 hK, wk13 hK, wk14 hK, Int.toNat_natCast]
      rw [put2_15 (rowsA_len _ _), w1 (by omega)]
      refine ⟨RowsEq.put okRA (mkL_set (by omega)), rfl, trivial, by omega⟩
    · simp only [hH, stdH, Nat.le_refl, decide_eq_true_eq, decide_eq_false_iff_not, Bool.not_eq_true', Bool.not_eq_false', peta, ncast, Int.ofNat_eq_natCast, beq_iff_eq, bne_iff_ne, beq_eq_false_iff_ne, bne_eq_false_iff_eq, ne_eq, Classical.not_not, Int.toNat_natCast, vrow_I, Arm.eta2, Fld.eta, Grp.eta] at h1 ⊢
      obtain rfl : i = l.length := by omega
      simp only [List.drop_length, List.append_nil]
      refine ⟨?_, trivial⟩
      have := RowsEq.self okRA (k := 15) (L := mkL l.length k)
      rw [mkL_len] at this ⊢
      exact this
noncomputable def e_markArmsS : Entry := modE 21 15 43 fun H n g a => match a with
  | [.lit (.int .i64 k)] => some (.lit (.int .i64 (H Int fun _ => k + 15 * ((Tl rowA n g).length : Nat))), rowsA H fun _ => mkL (Tl rowA n g).length k, [H Prop fun _ => Shp rowA n g, H Prop fun _ => (Tl rowA n g).length ≤ 1048576, H Prop fun _ => 0 ≤ k ∧ k ≤ 1000000000])
  | _ => none
theorem eok_markArmsS : EntryOk Try.prog e_markArmsS := modE_ok (by unfold isBody; kernel_rfl) (by
  intro n g a r g' ob e hob
  split at e
  · rename_i k
    simp only [Option.some.injEq, Prod.mk.injEq] at e
    obtain ⟨rfl, rfl, rfl⟩ := e
    have hs := hob.1
    have hl : (Tl rowA n g).length = n := Tl_len n g
    refine ⟨rowsA stdH fun _ => Tl rowA n g, fun j hj => ⟨?_, ?_⟩, ?_, fun x hx => ?_, ?_, fun j hj => ?_⟩
    · rw [hs.row j hj]; exact ((okRA).row (fun _ => Tl rowA n g) j).trans (by rw [Tl_getD hj])
    · exact rows_blx okRA _ j
    · have := c_markArmsS (Tl rowA n g) k hob.2.1 hob.2.2.1
      simp only [stdH, hl] at this ⊢
      exact ConN.args (.cons .rfl (.cons .rfl .nil)) this
    · simp only [List.mem_cons, List.not_mem_nil, or_false] at hx
      rcases hx with rfl
      · exact .lit
    · first | exact .lit | exact .tup fun x h => (by cases h)
    · exact rows_blx okRA _ j
  · simp at e)

end Go.Proofs.Ytigkdbhcjjjjkaa.AM

