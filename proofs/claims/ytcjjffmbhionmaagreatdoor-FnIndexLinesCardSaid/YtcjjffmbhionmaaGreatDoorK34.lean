/- Lemmas and contracts (Fsh); conditions: none. -/
import Derived.Test.YtcjjffmbhionmaaGreatDoorK03
import Derived.Test.YtcjjffmbhionmaaGreatDoorK28
import Derived.Test.YtcjjffmbhionmaaGreatDoorK33
set_option linter.unusedVariables false
set_option linter.unusedSimpArgs false
set_option maxRecDepth 100000
set_option maxHeartbeats 4000000
set_option cbv.maxSteps 3000000
namespace Go.Proofs.YtcjjffmbhionmaaGreatDoor.AM
/- Features that arms share with a list; conditions: none. -/
def hasF (a : Arm) (s : ByteArray) : Bool := (ftP a).any fun y => decide (y = s)
def shN (a : Arm) (l : List ByteArray) (i : Nat) : Nat := ((l.take i).filter (hasF a)).length
theorem shN_s {a : Arm} {l : List ByteArray} {i : Nat} (h : i < l.length) : shN a l (i + 1) = shN a l i + (if hasF a (l.getD i ByteArray.empty) = true then 1 else 0) := by
  unfold shN
  rw [List.take_succ_eq_append_getElem h, List.filter_append, List.length_append, List.getD_eq_getElem?_getD, List.getElem?_eq_getElem h, Option.getD_some]
  congr 1
  cases q : hasF a l[i] <;> simp [q]
theorem shN_le (a : Arm) (l : List ByteArray) (i : Nat) : shN a l i ≤ i := by
  unfold shN
  exact Nat.le_trans (List.length_filter_le _ _) (by rw [List.length_take]; omega)
theorem ftP_len (a : Arm) : (ftP a).length ≤ 12 := by
  unfold ftP
  have h1 := cmpL_le (srt (ftU a))
  rw [srt_len] at h1
  have := ftU_len a
  omega
theorem c_sharedF (a : Arm) (l : List ByteArray) (h0 : okA a = true) (h1 : l.length ≤ 100000) : ConN Tryz.prog 35 [aT rowA stdH fun _ => a, .vec 1 (stdH Nat fun _ => (l).length) (rowsS stdH fun _ => l)] [] 0 (.lit (.int .i64 (stdH Int fun _ => (shN a l l.length : Nat)))) [] [] := by
  have hB : Base Tryz.prog (tabΓ [e_featuresA, e_hasS, e_numB]) tab := base_of tabOk (ents_cons eok_featuresA <| ents_cons eok_hasS <| ents_cons eok_numB <| ents_nil)
  refine con_m (N := 25) hB (draw_ok hB mixed) Tryz.func35 rfl rfl (fun H => [aT rowA H fun _ => a, .vec 1 (H Nat fun _ => (l).length) (rowsS H fun _ => l)]) (fun _ => []) 0 (fun H => .lit (.int .i64 (H Int fun _ => (shN a l l.length : Nat)))) (fun H => []) (fun _ => []) 300 (by simp) (fun x hx => ?_) (by simp [lk]) (by omega) (by simp) ?_
  · simp only [List.mem_cons, List.not_mem_nil, or_false] at hx
    rcases hx with rfl | rfl
    · exact aT_bl okRA _ _
    · exact vl_bl okS l _
  intro X hX hX0 H hH
  conv in Fin.chk _ _ => cbv
  try simp only [Plain_rowsA, Plain_rowsB, Plain_rowsC, Plain_rowsF, Plain_rowsG, Plain_rowsI, Plain_rowsS, Plain_rowsU, Plain_rowsW, Fin.satC_ret, Fin.satC_br, Fin.satC_need, Fin.satC_again, AllP, and_true, true_and, upd, List.length_nil, List.length_cons, Nat.zero_add, if_true, ncast, Int.ofNat_eq_natCast]
  have hf := ftP_len a
  simp only [hetaA hH]
  refine ⟨?_, ?_⟩
  · try simp only [hH, stdH, Nat.le_refl, decide_eq_true_eq, decide_eq_false_iff_not, Bool.not_eq_true', Bool.not_eq_false', peta, ncast, Int.ofNat_eq_natCast, beq_iff_eq, bne_iff_ne, beq_eq_false_iff_ne, bne_eq_false_iff_eq, ne_eq, Classical.not_not, Int.toNat_natCast, vrow_I, Arm.eta2, Fld.eta, Grp.eta]
    exact h0
  refine loop_c hB (draw_ok hB mixed) hX hX0 hH [0, 1, 2, 4, 5, 6, 11, 12, 13] (ι := { i : Nat // i ≤ l.length }) 300 (fun i => [.i (H Int fun _ => (shN a l i.1 : Nat)), .i (H Int fun _ => (i.1 : Nat))]) (fun i => l.length - i.1) (⟨0, Nat.zero_le _⟩) ?_ ?_
  · (conv in matchSt _ _ _ _ => cbv); simp only [AllG, AllP, and_true, hH, stdH, Nat.le_refl, ncast, Int.ofNat_eq_natCast, vrow_I, Arm.eta2, Fld.eta, Grp.eta]
    (repeat' (with_reducible refine And.intro ?_ ?_)) <;> (first | exact True.intro | exact Eq.refl _ | exact RowsEq.self okS)
  · intro I hI i
    conv in Fin.chk _ _ => cbv
    try simp only [Plain_rowsA, Plain_rowsB, Plain_rowsC, Plain_rowsF, Plain_rowsG, Plain_rowsI, Plain_rowsS, Plain_rowsU, Plain_rowsW, Fin.satC_ret, Fin.satC_br, Fin.satC_need, Fin.satC_again, AllP, and_true, true_and, upd, List.length_nil, List.length_cons, Nat.zero_add, if_true, ncast, Int.ofNat_eq_natCast]
    obtain ⟨i, hi⟩ := i
    have hc := shN_le a l i
    refine ⟨fun h1 => ⟨?_, ⟨?_, ?_⟩, ?_⟩, fun h1 => ?_⟩
    · simp only [hH, stdH, Nat.le_refl, decide_eq_true_eq, decide_eq_false_iff_not, Bool.not_eq_true', Bool.not_eq_false', peta, ncast, Int.ofNat_eq_natCast, beq_iff_eq, bne_iff_ne, beq_eq_false_iff_ne, bne_eq_false_iff_eq, ne_eq, Classical.not_not, Int.toNat_natCast, vrow_I, Arm.eta2, Fld.eta, Grp.eta] at h1 ⊢
      omega
    · try simp only [hH, stdH, Nat.le_refl, decide_eq_true_eq, decide_eq_false_iff_not, Bool.not_eq_true', Bool.not_eq_false', peta, ncast, Int.ofNat_eq_natCast, beq_iff_eq, bne_iff_ne, beq_eq_false_iff_ne, bne_eq_false_iff_eq, ne_eq, Classical.not_not, Int.toNat_natCast, vrow_I, Arm.eta2, Fld.eta, Grp.eta]
      exact Shp_rowsT okS _ (fun _ => _)
    · simp only [hH, stdH, TlS']
      omega
    · simp only [hH, stdH, Nat.le_refl, decide_eq_true_eq, decide_eq_false_iff_not, Bool.not_eq_true', Bool.not_eq_false', peta, ncast, Int.ofNat_eq_natCast, beq_iff_eq, bne_iff_ne, beq_eq_false_iff_ne, bne_eq_false_iff_eq, ne_eq, Classical.not_not, Int.toNat_natCast, vrow_I, Arm.eta2, Fld.eta, Grp.eta] at h1
      refine ⟨⟨i + 1, by omega⟩, by simp only; omega, ?_⟩
      rw [hI]
      (conv in matchSt _ _ _ _ => cbv); simp only [AllG, AllP, and_true, hH, stdH, Nat.le_refl, ncast, Int.ofNat_eq_natCast, vrow_I, Arm.eta2, Fld.eta, Grp.eta]
      have e : IntKind.i64.wrap (((shN a l i : Nat) : Int) + nB (hasF a (l.getD i ByteArray.empty))) = ((shN a l (i + 1) : Nat) : Int) := by
        rw [shN_s (by omega)]
        unfold nB
        cases hasF a (l.getD i ByteArray.empty)
        · rw [cond_false, wi (by omega) (by omega)]; simp
        · rw [cond_true, wi (by omega) (by omega)]; simp
      simp only [Int.toNat_natCast, TlS']
      rw [w1 (by omega)]
      (repeat' (with_reducible refine And.intro ?_ ?_)) <;> (first | exact True.intro | exact e.symm | exact Eq.refl _ | exact RowsEq.self okS)
    · simp only [hH, stdH, Nat.le_refl, decide_eq_true_eq, decide_eq_false_iff_not, Bool.not_eq_true', Bool.not_eq_false', peta, ncast, Int.ofNat_eq_natCast, beq_iff_eq, bne_iff_ne, beq_eq_false_iff_ne, bne_eq_false_iff_eq, ne_eq, Classical.not_not, Int.toNat_natCast, vrow_I, Arm.eta2, Fld.eta, Grp.eta] at h1
      obtain rfl : i = l.length := by omega
      try simp only [hH, stdH, Nat.le_refl, decide_eq_true_eq, decide_eq_false_iff_not, Bool.not_eq_true', Bool.not_eq_false', peta, ncast, Int.ofNat_eq_natCast, beq_iff_eq, bne_iff_ne, beq_eq_false_iff_ne, bne_eq_false_iff_eq, ne_eq, Classical.not_not, Int.toNat_natCast, vrow_I, Arm.eta2, Fld.eta, Grp.eta]
noncomputable def e_sharedF : Entry := pureE 35 fun H a => match a with
  | [.agg [.lit (.int .i64 a0), .lit (.int .i64 a1), .lit (.int .i64 a2), .lit (.int .i64 a3), .lit (.int .i64 a4), .lit (.int .i64 a5), .lit (.int .i64 a6), .lit (.int .i64 a7), .lit (.int .i64 a8), .lit (.int .i64 a9), .lit (.int .i64 a10), .lit (.int .i64 a11), .lit (.int .i64 a12), .lit (.int .i64 a13), .lit (.int .i64 a14)], .vec 1 ln lf] => some (.lit (.int .i64 (H Int fun _ => (shN (⟨⟨a0, a1, a2, a3⟩, a4, a5, a6, ⟨a7, a8, a9, a10⟩, ⟨a11, a12, a13, a14⟩⟩ : Arm) (Tl rowS ln lf) (Tl rowS ln lf).length : Nat))), [H Prop fun _ => Shp rowS ln lf, H Prop fun _ => okA (⟨⟨a0, a1, a2, a3⟩, a4, a5, a6, ⟨a7, a8, a9, a10⟩, ⟨a11, a12, a13, a14⟩⟩ : Arm) = true, H Prop fun _ => (Tl rowS ln lf).length ≤ 100000])
  | _ => none
theorem eok_sharedF : EntryOk Tryz.prog e_sharedF := pureM_ok (by unfold isBody; kernel_rfl) (by
  intro a r ob e hob
  split at e
  · rename_i a0 a1 a2 a3 a4 a5 a6 a7 a8 a9 a10 a11 a12 a13 a14 ln lf
    simp only [Option.some.injEq, Prod.mk.injEq] at e
    obtain ⟨rfl, rfl⟩ := e
    exact ConN.args (.cons .rfl (.cons (.toT okS rfl hob.1) .nil)) (c_sharedF (⟨⟨a0, a1, a2, a3⟩, a4, a5, a6, ⟨a7, a8, a9, a10⟩, ⟨a11, a12, a13, a14⟩⟩ : Arm) (Tl rowS ln lf) hob.2.1 hob.2.2.1)
  · simp at e)
def luE (f : List ByteArray) (g : Grt) : Bool := ((shN g.arms f f.length : Nat) : Int) == ((f.length : Nat) : Int)
theorem c_luC (g : Grt) (f : List ByteArray) (h0 : okA g.arms = true) (h1 : f.length ≤ 100000) : ConN Tryz.prog 41 [aT rowW stdH fun _ => g, .rptr [.vec 1 (stdH Nat fun _ => (f).length) (rowsS stdH fun _ => f)]] [] 0 (.lit (.bool (stdH Bool fun _ => luE f g))) [] [] := by
  have hB : Base Tryz.prog (tabΓ [e_sharedF]) tab := base_of tabOk (ents_cons eok_sharedF <| ents_nil)
  refine con_m (N := 11) hB (draw_ok hB mixed) Tryz.func41 rfl rfl (fun H => [aT rowW H fun _ => g, .rptr [.vec 1 (H Nat fun _ => (f).length) (rowsS H fun _ => f)]]) (fun _ => []) 0 (fun H => .lit (.bool (H Bool fun _ => luE f g))) (fun H => []) (fun _ => []) 100 (by simp) (fun x hx => ?_) (by simp [lk]) (by omega) (by simp) ?_
  · simp only [List.mem_cons, List.not_mem_nil, or_false] at hx
    rcases hx with rfl | rfl
    · exact aT_bl okRW _ _
    · exact (by
        refine .rptr ?_
        intro c hc
        simp only [List.mem_cons, List.not_mem_nil, or_false] at hc
        rcases hc with rfl
        · exact vl_bl okS f _)
  intro X hX hX0 H hH
  conv in Fin.chk _ _ => cbv
  try simp only [Plain_rowsA, Plain_rowsB, Plain_rowsC, Plain_rowsF, Plain_rowsG, Plain_rowsI, Plain_rowsS, Plain_rowsU, Plain_rowsW, Fin.satC_ret, Fin.satC_br, Fin.satC_need, Fin.satC_again, AllP, and_true, true_and, upd, List.length_nil, List.length_cons, Nat.zero_add, if_true, ncast, Int.ofNat_eq_natCast]
  simp only [hetaA hH]
  subst hH
  simp only [stdH, TlS']
  exact ⟨⟨Shp_rowsT okS _ (fun _ => _), h0, h1⟩, rfl⟩
noncomputable def e_luC : Entry := pureE 41 fun H a => match a with
  | [.agg [.lit (.int .i64 g0), .lit (.string g1), .lit (.int .i64 g2), .lit (.int .i64 g3), .lit (.int .i64 g4), .lit (.int .i64 g5), .lit (.int .i64 g6), .lit (.int .i64 g7), .lit (.int .i64 g8), .lit (.int .i64 g9), .lit (.int .i64 g10), .lit (.int .i64 g11), .lit (.int .i64 g12), .lit (.int .i64 g13), .lit (.int .i64 g14), .lit (.int .i64 g15), .lit (.int .i64 g16), .lit (.int .i64 g17)], .rptr [.vec 1 fn ff]] => some (.lit (.bool (H Bool fun _ => luE (Tl rowS fn ff) (⟨g0, g1, g2, ⟨⟨g3, g4, g5, g6⟩, g7, g8, g9, ⟨g10, g11, g12, g13⟩, ⟨g14, g15, g16, g17⟩⟩⟩ : Grt))), [H Prop fun _ => Shp rowS fn ff, H Prop fun _ => okA (⟨g0, g1, g2, ⟨⟨g3, g4, g5, g6⟩, g7, g8, g9, ⟨g10, g11, g12, g13⟩, ⟨g14, g15, g16, g17⟩⟩⟩ : Grt).arms = true, H Prop fun _ => (Tl rowS fn ff).length ≤ 100000])
  | _ => none
theorem eok_luC : EntryOk Tryz.prog e_luC := pureM_ok (by unfold isBody; kernel_rfl) (by
  intro a r ob e hob
  split at e
  · rename_i g0 g1 g2 g3 g4 g5 g6 g7 g8 g9 g10 g11 g12 g13 g14 g15 g16 g17 fn ff
    simp only [Option.some.injEq, Prod.mk.injEq] at e
    obtain ⟨rfl, rfl⟩ := e
    exact ConN.args (.cons .rfl (.cons (.rptr (.cons (.toT okS rfl hob.1) .nil)) .nil)) (c_luC (⟨g0, g1, g2, ⟨⟨g3, g4, g5, g6⟩, g7, g8, g9, ⟨g10, g11, g12, g13⟩, ⟨g14, g15, g16, g17⟩⟩⟩ : Grt) (Tl rowS fn ff) hob.2.1 hob.2.2.1)
  · simp at e)
def biE (s : ByteArray) (g : Grt) : Bool := ((shN g.arms [s] 1 : Nat) : Int) == 1
theorem c_biC (g : Grt) (s : ByteArray) (h0 : okA g.arms = true) : ConN Tryz.prog 34 [aT rowW stdH fun _ => g, .rptr [.lit (.string s)]] [] 0 (.lit (.bool (stdH Bool fun _ => biE s g))) [] [] := by
  have hB : Base Tryz.prog (tabΓ [e_sharedF]) tab := base_of tabOk (ents_cons eok_sharedF <| ents_nil)
  refine con_m (N := 10) hB (draw_ok hB mixed) Tryz.func34 rfl rfl (fun H => [aT rowW H fun _ => g, .rptr [.lit (.string s)]]) (fun _ => []) 0 (fun H => .lit (.bool (H Bool fun _ => biE s g))) (fun H => []) (fun _ => []) 100 (by simp) (fun x hx => ?_) (by simp [lk]) (by omega) (by simp) ?_
  · simp only [List.mem_cons, List.not_mem_nil, or_false] at hx
    rcases hx with rfl | rfl
    · exact aT_bl okRW _ _
    · exact (by
        refine .rptr ?_
        intro c hc
        simp only [List.mem_cons, List.not_mem_nil, or_false] at hc
        rcases hc with rfl
        · exact .lit)
  intro X hX hX0 H hH
  conv in Fin.chk _ _ => cbv
  try simp only [Plain_rowsA, Plain_rowsB, Plain_rowsC, Plain_rowsF, Plain_rowsG, Plain_rowsI, Plain_rowsS, Plain_rowsU, Plain_rowsW, Fin.satC_ret, Fin.satC_br, Fin.satC_need, Fin.satC_again, AllP, and_true, true_and, upd, List.length_nil, List.length_cons, Nat.zero_add, if_true, ncast, Int.ofNat_eq_natCast]
  have e : Tl rowS 1 (rowsS stdH fun _ => [s]) = [s] := Tl_rowsT okS [s]
  simp only [hetaA hH]
  subst hH
  simp only [stdH, e]
  exact ⟨⟨Shp_rowsT okS _ (fun _ => _), h0, by simp⟩, rfl⟩
noncomputable def e_biC : Entry := pureE 34 fun H a => match a with
  | [.agg [.lit (.int .i64 g0), .lit (.string g1), .lit (.int .i64 g2), .lit (.int .i64 g3), .lit (.int .i64 g4), .lit (.int .i64 g5), .lit (.int .i64 g6), .lit (.int .i64 g7), .lit (.int .i64 g8), .lit (.int .i64 g9), .lit (.int .i64 g10), .lit (.int .i64 g11), .lit (.int .i64 g12), .lit (.int .i64 g13), .lit (.int .i64 g14), .lit (.int .i64 g15), .lit (.int .i64 g16), .lit (.int .i64 g17)], .rptr [.lit (.string s)]] => some (.lit (.bool (H Bool fun _ => biE s (⟨g0, g1, g2, ⟨⟨g3, g4, g5, g6⟩, g7, g8, g9, ⟨g10, g11, g12, g13⟩, ⟨g14, g15, g16, g17⟩⟩⟩ : Grt))), [H Prop fun _ => okA (⟨g0, g1, g2, ⟨⟨g3, g4, g5, g6⟩, g7, g8, g9, ⟨g10, g11, g12, g13⟩, ⟨g14, g15, g16, g17⟩⟩⟩ : Grt).arms = true])
  | _ => none
theorem eok_biC : EntryOk Tryz.prog e_biC := pureM_ok (by unfold isBody; kernel_rfl) (by
  intro a r ob e hob
  split at e
  · rename_i g0 g1 g2 g3 g4 g5 g6 g7 g8 g9 g10 g11 g12 g13 g14 g15 g16 g17 s
    simp only [Option.some.injEq, Prod.mk.injEq] at e
    obtain ⟨rfl, rfl⟩ := e
    exact ConN.args (.cons .rfl (.cons (.rptr (.cons .rfl .nil)) .nil)) (c_biC (⟨g0, g1, g2, ⟨⟨g3, g4, g5, g6⟩, g7, g8, g9, ⟨g10, g11, g12, g13⟩, ⟨g14, g15, g16, g17⟩⟩⟩ : Grt) s hob.1)
  · simp at e)
theorem okA_at {l : List Grt} (h : ∀ g ∈ l, okA g.arms = true) {i : Nat} (hi : i < l.length) : okA (l.getD i default).arms = true := by
  rw [List.getD_eq_getElem?_getD, List.getElem?_eq_getElem hi, Option.getD_some]
  exact h _ (List.getElem_mem hi)

end Go.Proofs.YtcjjffmbhionmaaGreatDoor.AM

