/- Lemmas and contracts (Mkg); conditions: none. -/
import Derived.Test.YtbnohmfapmeaaaaGreatDoorK03
import Derived.Test.YtbnohmfapmeaaaaGreatDoorK13
import Derived.Test.YtbnohmfapmeaaaaGreatDoorK14
import Derived.Test.YtbnohmfapmeaaaaGreatDoorK19
import Derived.Test.YtbnohmfapmeaaaaGreatDoorK35
import Derived.Test.YtbnohmfapmeaaaaGreatDoorK38
set_option linter.unusedVariables false
set_option linter.unusedSimpArgs false
set_option maxRecDepth 100000
set_option maxHeartbeats 4000000
set_option cbv.maxSteps 3000000
namespace Go.Proofs.YtbnohmfapmeaaaaGreatDoor.AM
/- Lists of grants marked, and marks that are held; conditions: none. -/
def mkG (k : Int) : Grt := ⟨k, markT (k + 1), k + 2, ⟨⟨k + 3, k + 4, k + 5, k + 6⟩, k + 7, k + 8, k + 9, ⟨k + 10, k + 11, k + 12, k + 13⟩, ⟨k + 14, k + 15, k + 16, k + 17⟩⟩⟩
def mkR (n : Nat) (k : Int) : List Grt := (List.range n).map fun i => mkG (k + 18 * (i : Nat))
theorem mkR_len (n : Nat) (k : Int) : (mkR n k).length = n := by simp [mkR]
theorem mkR_getD {n i : Nat} {k : Int} (h : i < n) : (mkR n k).getD i default = mkG (k + 18 * (i : Nat)) := by simp [mkR, List.getD_eq_getElem?_getD, h]
theorem mkR_succ (n : Nat) (k : Int) : mkR (n + 1) k = mkR n k ++ [mkG (k + 18 * (n : Nat))] := by simp [mkR, List.range_succ]
theorem mkR_set {l : List Grt} {i : Nat} {k : Int} (h : i < l.length) : (mkR i k ++ l.drop i).set i (mkG (k + 18 * (i : Nat))) = mkR (i + 1) k ++ l.drop (i + 1) := by
  rw [List.set_append_right _ _ (by rw [mkR_len]; omega), mkR_len, Nat.sub_self, List.drop_eq_getElem_cons h, List.set_cons_zero, mkR_succ, List.append_assoc]
  rfl
theorem put2_18 {i : Nat} {f : Nat → List AV} (h : (f i).length = 18) (c0 c1 c2 c3 c4 c5 c6 c7 c8 c9 c10 c11 c12 c13 c14 c15 c16 c17 : AV) : put2 i 17 [c17] (put2 i 16 [c16] (put2 i 15 [c15] (put2 i 14 [c14] (put2 i 13 [c13] (put2 i 12 [c12] (put2 i 11 [c11] (put2 i 10 [c10] (put2 i 9 [c9] (put2 i 8 [c8] (put2 i 7 [c7] (put2 i 6 [c6] (put2 i 5 [c5] (put2 i 4 [c4] (put2 i 3 [c3] (put2 i 2 [c2] (put2 i 1 [c1] (put2 i 0 [c0] f))))))))))))))))) = put1 i [c0, c1, c2, c3, c4, c5, c6, c7, c8, c9, c10, c11, c12, c13, c14, c15, c16, c17] f := by
  funext q
  by_cases hq : q = i
  · subst hq
    simp only [put2_same, put1_same]
    match hf : f q, h with
    | [d0, d1, d2, d3, d4, d5, d6, d7, d8, d9, d10, d11, d12, d13, d14, d15, d16, d17], _ => simp only [splice, List.length_cons, List.length_nil, Nat.ble_eq, hf]; rfl
  · simp only [put2_ne hq, put1_ne hq]
theorem rowsW_len (L : List Grt) (j : Nat) : (rowsW stdH (fun _ => L) j).length = 18 := rfl
theorem wk15 {K : Int} (h : 0 ≤ K ∧ K ≤ 2000000000) : IntKind.i64.wrap (K + 15 + 1) = K + 16 := by rw [wi (by omega) (by omega)]; omega
theorem wk16 {K : Int} (h : 0 ≤ K ∧ K ≤ 2000000000) : IntKind.i64.wrap (K + 16 + 1) = K + 17 := by rw [wi (by omega) (by omega)]; omega
theorem wk17 {K : Int} (h : 0 ≤ K ∧ K ≤ 2000000000) : IntKind.i64.wrap (K + 17 + 1) = K + 18 := by rw [wi (by omega) (by omega)]; omega
theorem RowsEq.putK {α : Type} {D : RowD α} (ok : RowOk D) {L : List α} {j : Nat} {x : α} {M : List α} (e : L.set j x = M) : RowsEq D.k M.length (rowsT D stdH fun _ => M) L.length (put1 j (D.cells stdH fun _ => x) (rowsT D stdH fun _ => L)) :=
  .ofT ok rfl (Shp_put1 (Shp_rowsT ok _ _) (by rw [ok.of_cells])) (by rw [Tl_put1, Tl_rowsT ok, ok.of_cells, e])
theorem c_markGrantS (l : List Grt) (k : Int) (h0 : l.length ≤ 1048576) (h1 : 0 ≤ k ∧ k ≤ 100000000) : ConN Tryz.prog 93 [.slc 0 0 18 (stdH Nat fun _ => l.length), .lit (.int .i64 k)] [(0, .rows 18 (stdH Nat fun _ => l.length) (rowsW stdH fun _ => l) 100)] 1 (.lit (.int .i64 (stdH Int fun _ => k + 18 * (l.length : Nat)))) [] [(0, .rows 18 (stdH Nat fun _ => l.length) (rowsW stdH fun _ => mkR l.length k) 100)] := by
  have hB : Base Tryz.prog (tabΓ [e_markText]) tab := base_of tabOk (ents_cons eok_markText <| ents_nil)
  refine con_m (N := 167) hB (draw_ok hB mixed) Tryz.func93 rfl rfl (fun H => [.slc 0 0 18 (H Nat fun _ => l.length), .lit (.int .i64 k)]) (fun H => [(0, .rows 18 (H Nat fun _ => l.length) (rowsW H fun _ => l) 100)]) 1 (fun H => .lit (.int .i64 (H Int fun _ => k + 18 * (l.length : Nat)))) (fun H => []) (fun H => [(0, .rows 18 (H Nat fun _ => l.length) (rowsW H fun _ => mkR l.length k) 100)]) 3000 (by simp) (fun x hx => ?_) (fun i b hi => ?_) (fun i hi => ?_) (fun i b hi => ?_) ?_
  · simp only [List.mem_cons, List.not_mem_nil, or_false] at hx
    rcases hx with rfl | rfl
    · exact .slc (by omega)
    · exact .lit
  · have := lk_in hi
    simp only [List.mem_cons, List.not_mem_nil, or_false, Prod.mk.injEq] at this
    obtain ⟨rfl, rfl⟩ := this
    exact ⟨by omega, bT_bl okRW _ (fun _ => l) _, _, List.mem_cons_self⟩
  · obtain rfl : i = 0 := by omega
    exact ⟨_, rfl⟩
  · simp only [List.mem_cons, List.not_mem_nil, or_false, Prod.mk.injEq] at hi
    obtain ⟨rfl, rfl⟩ := hi
    exact ⟨_, rfl⟩
  intro X hX hX0 H hH
  conv in Fin.chk _ _ => cbv
  try simp only [Plain_rowsA, Plain_rowsB, Plain_rowsC, Plain_rowsD, Plain_rowsF, Plain_rowsG, Plain_rowsI, Plain_rowsS, Plain_rowsU, Fin.satC_ret, Fin.satC_br, Fin.satC_need, Fin.satC_again, AllP, and_true, true_and, upd, List.length_nil, List.length_cons, Nat.zero_add, if_true, ncast, Int.ofNat_eq_natCast]
  refine loop_a hB (draw_ok hB mixed) hX hX0 hH false (ι := { i : Nat // i ≤ l.length }) 3000 (fun i => [.r (H Nat fun _ => (mkR i.1 k ++ l.drop i.1).length) (rowsW H fun _ => mkR i.1 k ++ l.drop i.1), .i (H Int fun _ => k + 18 * ((i.1 : Nat) : Int)), .i (H Int fun _ => (i.1 : Nat))]) (fun i => l.length - i.1) (⟨0, by omega⟩) ?_ ?_
  · (conv in matchSt _ _ _ _ => cbv); simp only [AllG, AllP, and_true, hH, stdH, Nat.le_refl, ncast, Int.ofNat_eq_natCast, vrow_I, Arm.eta2, Fld.eta, Grp.eta]
    exact ⟨.self okRW, rfl, trivial, by omega⟩
  · intro I hI i
    conv in Fin.chk _ _ => cbv
    try simp only [Plain_rowsA, Plain_rowsB, Plain_rowsC, Plain_rowsD, Plain_rowsF, Plain_rowsG, Plain_rowsI, Plain_rowsS, Plain_rowsU, Fin.satC_ret, Fin.satC_br, Fin.satC_need, Fin.satC_again, AllP, and_true, true_and, upd, List.length_nil, List.length_cons, Nat.zero_add, if_true, ncast, Int.ofNat_eq_natCast]
    obtain ⟨i, hi⟩ := i
    refine ⟨fun h1 => ?_, fun h1 => ?_⟩
    · simp only [hH, stdH, Nat.le_refl, decide_eq_true_eq, decide_eq_false_iff_not, Bool.not_eq_true', Bool.not_eq_false', peta, ncast, Int.ofNat_eq_natCast, beq_iff_eq, bne_iff_ne, beq_eq_false_iff_ne, bne_eq_false_iff_eq, ne_eq, Classical.not_not, Int.toNat_natCast, vrow_I, Arm.eta2, Fld.eta, Grp.eta] at h1
      have hK : 0 ≤ k + 18 * (i : Int) ∧ k + 18 * (i : Int) ≤ 2000000000 := by omega
      repeat' (first | refine And.intro ?_ ?_ | intro _)
      all_goals try (simp only [hH, stdH, Int.toNat_natCast, List.length_append, mkR_len, List.length_drop, put2_len, rowsW_len, and_true, wk0 hK]; omega)
      refine ⟨⟨i + 1, by omega⟩, by simp only; omega, ?_⟩
      rw [hI]
      (conv in matchSt _ _ _ _ => cbv); simp only [AllG, AllP, and_true, hH, stdH, Nat.le_refl, ncast, Int.ofNat_eq_natCast, vrow_I, Arm.eta2, Fld.eta, Grp.eta]
      simp only [wk0 hK, wk1 hK, wk2 hK, wk3 hK, wk4 hK, wk5 hK, wk6 hK, wk7 hK, wk8 hK, wk9 hK, wk10 hK, wk11 hK, wk12 hK, wk13 hK, wk14 hK, wk15 hK, wk16 hK, wk17 hK, Int.toNat_natCast]
      rw [put2_18 (rowsW_len _ _), w1 (by omega)]
      refine ⟨RowsEq.putK okRW (mkR_set (by omega)), rfl, trivial, by omega⟩
    · simp only [hH, stdH, Nat.le_refl, decide_eq_true_eq, decide_eq_false_iff_not, Bool.not_eq_true', Bool.not_eq_false', peta, ncast, Int.ofNat_eq_natCast, beq_iff_eq, bne_iff_ne, beq_eq_false_iff_ne, bne_eq_false_iff_eq, ne_eq, Classical.not_not, Int.toNat_natCast, vrow_I, Arm.eta2, Fld.eta, Grp.eta] at h1 ⊢
      obtain rfl : i = l.length := by omega
      simp only [List.drop_length, List.append_nil]
      refine ⟨?_, trivial⟩
      have := RowsEq.self okRW (k := 18) (L := mkR l.length k)
      rw [mkR_len] at this ⊢
      exact this
noncomputable def e_markGrantS : Entry := modE 93 18 100 fun H n g a => match a with
  | [.lit (.int .i64 k)] => some (.lit (.int .i64 (H Int fun _ => k + 18 * ((Tl rowW n g).length : Nat))), rowsW H fun _ => mkR (Tl rowW n g).length k, [H Prop fun _ => Shp rowW n g, H Prop fun _ => (Tl rowW n g).length ≤ 1048576, H Prop fun _ => 0 ≤ k ∧ k ≤ 100000000])
  | _ => none
theorem eok_markGrantS : EntryOk Tryz.prog e_markGrantS := modE_ok (by unfold isBody; kernel_rfl) (by
  intro n g a r g' ob e hob
  split at e
  · rename_i k
    simp only [Option.some.injEq, Prod.mk.injEq] at e
    obtain ⟨rfl, rfl, rfl⟩ := e
    have hs := hob.1
    have hl : (Tl rowW n g).length = n := Tl_len n g
    refine ⟨rowsW stdH fun _ => Tl rowW n g, fun j hj => ⟨?_, ?_⟩, ?_, fun x hx => ?_, ?_, fun j hj => ?_⟩
    · rw [hs.row j hj]; exact ((okRW).row (fun _ => Tl rowW n g) j).trans (by rw [Tl_getD hj])
    · exact rows_blx okRW _ j
    · have := c_markGrantS (Tl rowW n g) k hob.2.1 hob.2.2.1
      simp only [stdH, hl] at this ⊢
      exact ConN.args (.cons .rfl (.cons .rfl .nil)) this
    · simp only [List.mem_cons, List.not_mem_nil, or_false] at hx
      rcases hx with rfl
      · exact .lit
    · first | exact .lit | exact .tup fun x h => (by cases h)
    · exact rows_blx okRW _ j
  · simp at e)
theorem c_heldGrantS (a : List Grt) (k : Int) (h0 : a.length ≤ 1048576) (h1 : 0 ≤ k ∧ k ≤ 100000000) (h2 : a = mkR a.length k) : ConN Tryz.prog 94 [.vec 18 (stdH Nat fun _ => (a).length) (rowsW stdH fun _ => a), .lit (.int .i64 k)] [] 0 (.lit (.int .i64 (stdH Int fun _ => k + 18 * (a.length : Nat)))) [] [] := by
  have hB : Base Tryz.prog (tabΓ [e_markText]) tab := base_of tabOk (ents_cons eok_markText <| ents_nil)
  refine con_m (N := 203) hB (draw_ok hB mixed) Tryz.func94 rfl rfl (fun H => [.vec 18 (H Nat fun _ => (a).length) (rowsW H fun _ => a), .lit (.int .i64 k)]) (fun _ => []) 0 (fun H => .lit (.int .i64 (H Int fun _ => k + 18 * (a.length : Nat)))) (fun H => []) (fun _ => []) 3000 (by simp) (fun x hx => ?_) (by simp [lk]) (by omega) (by simp) ?_
  · simp only [List.mem_cons, List.not_mem_nil, or_false] at hx
    rcases hx with rfl | rfl
    · exact vl_bl okRW a _
    · exact .lit
  intro X hX hX0 H hH
  conv in Fin.chk _ _ => cbv
  try simp only [Plain_rowsA, Plain_rowsB, Plain_rowsC, Plain_rowsD, Plain_rowsF, Plain_rowsG, Plain_rowsI, Plain_rowsS, Plain_rowsU, Fin.satC_ret, Fin.satC_br, Fin.satC_need, Fin.satC_again, AllP, and_true, true_and, upd, List.length_nil, List.length_cons, Nat.zero_add, if_true, ncast, Int.ofNat_eq_natCast]
  refine loop_a hB (draw_ok hB mixed) hX hX0 hH false (ι := { i : Nat // i ≤ a.length }) 3000 (fun i => [.i (H Int fun _ => k + 18 * ((i.1 : Nat) : Int)), .i (H Int fun _ => 0), .i (H Int fun _ => (i.1 : Nat))]) (fun i => a.length - i.1) (⟨0, by omega⟩) ?_ ?_
  · (conv in matchSt _ _ _ _ => cbv); simp only [AllG, AllP, and_true, hH, stdH, Nat.le_refl, ncast, Int.ofNat_eq_natCast, vrow_I, Arm.eta2, Fld.eta, Grp.eta]
    exact ⟨rfl, trivial, by omega, .self okRW⟩
  · intro I hI i
    conv in Fin.chk _ _ => cbv
    try simp only [Plain_rowsA, Plain_rowsB, Plain_rowsC, Plain_rowsD, Plain_rowsF, Plain_rowsG, Plain_rowsI, Plain_rowsS, Plain_rowsU, Fin.satC_ret, Fin.satC_br, Fin.satC_need, Fin.satC_again, AllP, and_true, true_and, upd, List.length_nil, List.length_cons, Nat.zero_add, if_true, ncast, Int.ofNat_eq_natCast]
    obtain ⟨i, hi⟩ := i
    refine ⟨fun h1 => ?_, fun h1 => ?_⟩
    · simp only [hH, stdH, Nat.le_refl, decide_eq_true_eq, decide_eq_false_iff_not, Bool.not_eq_true', Bool.not_eq_false', peta, ncast, Int.ofNat_eq_natCast, beq_iff_eq, bne_iff_ne, beq_eq_false_iff_ne, bne_eq_false_iff_eq, ne_eq, Classical.not_not, Int.toNat_natCast, vrow_I, Arm.eta2, Fld.eta, Grp.eta] at h1
      have hK : 0 ≤ k + 18 * (i : Int) ∧ k + 18 * (i : Int) ≤ 2000000000 := by omega
      have hg : a.getD i default = mkG (k + 18 * (i : Int)) := (congrArg (fun l => List.getD l i default) h2).trans (mkR_getD (by omega))
      unfold mkG at hg
      repeat' (first | refine And.intro ?_ ?_ | (intro h; first | (refine False.elim ?_; simp only [hH, stdH, Int.toNat_natCast, hg, beq_self_eq_true, Bool.not_true, wk0 hK, wk1 hK, wk2 hK, wk3 hK, wk4 hK, wk5 hK, wk6 hK, wk7 hK, wk8 hK, wk9 hK, wk10 hK, wk11 hK, wk12 hK, wk13 hK, wk14 hK, wk15 hK, wk16 hK, wk17 hK, bne_self_eq_false, Bool.false_eq_true] at h; done) | clear h))
      all_goals try (simp only [hH, stdH, wk0 hK]; omega)
      refine ⟨⟨i + 1, by omega⟩, by simp only; omega, ?_⟩
      rw [hI]
      (conv in matchSt _ _ _ _ => cbv); simp only [AllG, AllP, and_true, hH, stdH, Nat.le_refl, ncast, Int.ofNat_eq_natCast, vrow_I, Arm.eta2, Fld.eta, Grp.eta]
      simp only [wk0 hK, wk1 hK, wk2 hK, wk3 hK, wk4 hK, wk5 hK, wk6 hK, wk7 hK, wk8 hK, wk9 hK, wk10 hK, wk11 hK, wk12 hK, wk13 hK, wk14 hK, wk15 hK, wk16 hK, wk17 hK]
      rw [w1 (by omega)]
      refine ⟨rfl, trivial, by omega, .self okRW⟩
    · simp only [hH, stdH, Nat.le_refl, decide_eq_true_eq, decide_eq_false_iff_not, Bool.not_eq_true', Bool.not_eq_false', peta, ncast, Int.ofNat_eq_natCast, beq_iff_eq, bne_iff_ne, beq_eq_false_iff_ne, bne_eq_false_iff_eq, ne_eq, Classical.not_not, Int.toNat_natCast, vrow_I, Arm.eta2, Fld.eta, Grp.eta] at h1 ⊢
      omega
noncomputable def e_heldGrantS : Entry := pureE 94 fun H a => match a with
  | [.vec 18 an af, .lit (.int .i64 k)] => some (.lit (.int .i64 (H Int fun _ => k + 18 * ((Tl rowW an af).length : Nat))), [H Prop fun _ => Shp rowW an af, H Prop fun _ => (Tl rowW an af).length ≤ 1048576, H Prop fun _ => 0 ≤ k ∧ k ≤ 100000000, H Prop fun _ => (Tl rowW an af) = mkR (Tl rowW an af).length k])
  | _ => none
theorem eok_heldGrantS : EntryOk Tryz.prog e_heldGrantS := pureM_ok (by unfold isBody; kernel_rfl) (by
  intro a r ob e hob
  split at e
  · rename_i an af k
    simp only [Option.some.injEq, Prod.mk.injEq] at e
    obtain ⟨rfl, rfl⟩ := e
    exact ConN.args (.cons (.toT okRW rfl hob.1) (.cons .rfl .nil)) (c_heldGrantS (Tl rowW an af) k hob.2.1 hob.2.2.1 hob.2.2.2.1)
  · simp at e)

end Go.Proofs.YtbnohmfapmeaaaaGreatDoor.AM

