import Derived.Test.YtmpbmbioeeckeaaAmT
import Derived.Test.YtmpbmbioeeckeaaSab
import Derived.Test.YtmpbmbioeeckeaaMki
set_option linter.unusedVariables false
set_option linter.unusedSimpArgs false
set_option maxRecDepth 100000
set_option maxHeartbeats 4000000
set_option cbv.maxSteps 3000000
namespace Go.Proofs.Ytmpbmbioeeckeaa.AM
/- The law FnExactSortArms holds; conditions: none. -/
theorem Tl_mkN (n : Nat) (k : Int) : Tl rowI n (rowsI stdH fun _ => mkN n k) = mkN n k := by
  have := Tl_I (mkN n k); rwa [mkN_len] at this
theorem szY {x y : Int} (h : x - y < 0) : (if x - y < 0 then -1 else x - y) = -1 := if_pos h
theorem szN {x y : Int} (h : ¬ x - y < 0) : (if x - y < 0 then -1 else x - y) = x - y := if_neg h
theorem ok20_ne {a : List Arm} (h : ok20 a = true) : (decide (a.length ≤ 20) && !a.any fun y => !okA y) = true := h
theorem rowsI_len (L : List Int) (j : Nat) : (rowsI stdH (fun _ => L) j).length = 1 := rfl
theorem dlt0 (n : Nat) : decide (1 + (n : Int) < 0) = false := decide_eq_false (by omega)
theorem dltk (n : Nat) : decide (1 + 15 * (n : Int) < 0) = false := decide_eq_false (by omega)
theorem decF : decide False = false := rfl
theorem decT : decide True = true := rfl
theorem c_markIntN  (k : Int)  : ConN Try.prog 12 [.lit (.slice none 0 0), .lit (.int .i64 k)] [] 0 (.lit (.int .i64 (stdH Int fun _ => k))) [] [] := by
  have hB : Base Try.prog (tabΓ []) tabU := base_of tabOkU (ents_nil)
  refine con_m (N := 19) hB (draw_ok hB mixed) Try.func12 rfl rfl (fun H => [.lit (.slice none 0 0), .lit (.int .i64 k)]) (fun _ => []) 0 (fun H => .lit (.int .i64 (H Int fun _ => k))) (fun H => []) (fun _ => []) 300 (by simp) (fun x hx => ?_) (by simp [lk]) (by omega) (by simp) ?_
  · simp only [List.mem_cons, List.not_mem_nil, or_false] at hx
    rcases hx with rfl | rfl
    · exact .lit
    · exact .lit
  intro X hX hX0 H hH
  conv in Fin.chk _ _ => cbv
  try simp only [Plain_rowsA, Plain_rowsB, Plain_rowsC, Plain_rowsF, Plain_rowsG, Plain_rowsI, Plain_rowsS, Plain_rowsU, Fin.satC_ret, Fin.satC_br, Fin.satC_need, Fin.satC_again, AllP, and_true, true_and, upd, List.length_nil, List.length_cons, Nat.zero_add, if_true, ncast, Int.ofNat_eq_natCast]
  subst hH
  exact ⟨fun h => by simp [stdH] at h, fun _ => rfl⟩
noncomputable def e_markIntN : Entry := pureE 12 fun H a => match a with
  | [.lit (.slice none 0 0), .lit (.int .i64 k)] => some (.lit (.int .i64 (H Int fun _ => k)), [])
  | _ => none
theorem eok_markIntN : EntryOk Try.prog e_markIntN := pureM_ok (by unfold isBody; kernel_rfl) (by
  intro a r ob e hob
  split at e
  · rename_i k
    simp only [Option.some.injEq, Prod.mk.injEq] at e
    obtain ⟨rfl, rfl⟩ := e
    exact ConN.args (.cons .rfl (.cons .rfl .nil)) (c_markIntN k )
  · simp at e)
theorem c_lawSortY (a : List Arm) (h0 : a.length ≤ 20) (h1 : ok20 a = true) : ConN Try.prog 3 [.vec 15 (stdH Nat fun _ => (a).length) (rowsA stdH fun _ => a)] [] 0 (.lit (.bool (stdH Bool fun _ => true))) [] [] := by
  have hB : Base Try.prog (tabΓ [e_szArmsS, e_toArmsS, e_l6Sort, e_sortArmsY, e_eqArmsS, e_eqIntS, e_markArmsS, e_markIntS, e_heldIntS]) tabO := base_of tabOkO (ents_cons eok_szArmsS <| ents_cons eok_toArmsS <| ents_cons eok_l6Sort <| ents_cons eok_sortArmsY <| ents_cons eok_eqArmsS <| ents_cons eok_eqIntS <| ents_cons eok_markArmsS <| ents_cons eok_markIntS <| ents_cons eok_heldIntS <| ents_nil)
  refine con_m (N := 96) hB (draw_ok hB mixed) Try.func3 rfl rfl (fun H => [.vec 15 (H Nat fun _ => (a).length) (rowsA H fun _ => a)]) (fun _ => []) 0 (fun H => .lit (.bool (H Bool fun _ => true))) (fun H => []) (fun _ => []) 600 (by simp) (fun x hx => ?_) (by simp [lk]) (by omega) (by simp) ?_
  · simp only [List.mem_cons, List.not_mem_nil, or_false] at hx
    rcases hx with rfl
    · exact vl_bl okRA a _
  intro X hX hX0 H hH
  conv in Fin.chk _ _ => cbv
  try simp only [Plain_rowsA, Plain_rowsB, Plain_rowsC, Plain_rowsF, Plain_rowsG, Plain_rowsI, Plain_rowsS, Plain_rowsU, Fin.satC_ret, Fin.satC_br, Fin.satC_need, Fin.satC_again, AllP, and_true, true_and, upd, List.length_nil, List.length_cons, Nat.zero_add, if_true, ncast, Int.ofNat_eq_natCast]
  subst hH
  have hl : (srtA a).length = a.length := srtA_len a
  have hn : (a.any fun y => !okA y) = false := by
    have := ok20_ne h1
    simpa [h0] using this
  have e1 : ¬ 1048576 - (a.length : Int) < 0 := by omega
  simp only [stdH, Tl_A, Tl_I, Tl_mkN, mkN_len, mkL_len, Shp_A, Shp_I, h1, hn, if_true, srtA_ins, rowsA_len, rowsI_len, implies_true, and_true, true_and, decT, szN e1, Bool.not_true, Bool.not_false, cond_false, cond_true, eq_self, beq_self_eq_true, bne_self_eq_false, dlt0, dltk]
  repeat' (first | exact trivial | rfl | omega | refine And.intro ?_ ?_ | (intro h; first | (simp at h; done) | skip))
noncomputable def e_lawSortY : Entry := pureE 3 fun H a => match a with
  | [.vec 15 an af] => some (.lit (.bool (H Bool fun _ => true)), [H Prop fun _ => Shp rowA an af, H Prop fun _ => (Tl rowA an af).length ≤ 20, H Prop fun _ => ok20 (Tl rowA an af) = true])
  | _ => none
theorem eok_lawSortY : EntryOk Try.prog e_lawSortY := pureM_ok (by unfold isBody; kernel_rfl) (by
  intro a r ob e hob
  split at e
  · rename_i an af
    simp only [Option.some.injEq, Prod.mk.injEq] at e
    obtain ⟨rfl, rfl⟩ := e
    exact ConN.args (.cons (.toT okRA rfl hob.1) .nil) (c_lawSortY (Tl rowA an af) hob.2.1 hob.2.2.1)
  · simp at e)
theorem c_lawSortN (a : List Arm) (h0 : a.length ≤ 9223372036854775807) (h1 : ok20 a = false) : ConN Try.prog 3 [.vec 15 (stdH Nat fun _ => (a).length) (rowsA stdH fun _ => a)] [] 0 (.lit (.bool (stdH Bool fun _ => true))) [] [] := by
  have hB : Base Try.prog (tabΓ [e_szArmsS, e_toArmsS, e_l6Sort, e_sortArmsN, e_eqArmsS, nilE [1, 1] e_eqIntS, e_markArmsS, e_markIntN, nilE [1, 0] e_heldIntS]) tabO := base_of tabOkO (ents_cons eok_szArmsS <| ents_cons eok_toArmsS <| ents_cons eok_l6Sort <| ents_cons eok_sortArmsN <| ents_cons eok_eqArmsS <| ents_cons (nilE_ok eok_eqIntS) <| ents_cons eok_markArmsS <| ents_cons eok_markIntN <| ents_cons (nilE_ok eok_heldIntS) <| ents_nil)
  refine con_m (N := 96) hB (draw_ok hB mixed) Try.func3 rfl rfl (fun H => [.vec 15 (H Nat fun _ => (a).length) (rowsA H fun _ => a)]) (fun _ => []) 0 (fun H => .lit (.bool (H Bool fun _ => true))) (fun H => []) (fun _ => []) 600 (by simp) (fun x hx => ?_) (by simp [lk]) (by omega) (by simp) ?_
  · simp only [List.mem_cons, List.not_mem_nil, or_false] at hx
    rcases hx with rfl
    · exact vl_bl okRA a _
  intro X hX hX0 H hH
  conv in Fin.chk _ _ => cbv
  try simp only [Plain_rowsA, Plain_rowsB, Plain_rowsC, Plain_rowsF, Plain_rowsG, Plain_rowsI, Plain_rowsS, Plain_rowsU, Fin.satC_ret, Fin.satC_br, Fin.satC_need, Fin.satC_again, AllP, and_true, true_and, upd, List.length_nil, List.length_cons, Nat.zero_add, if_true, ncast, Int.ofNat_eq_natCast]
  subst hH
  have hn : (decide (a.length ≤ 20) && !a.any fun y => !okA y) = false := h1
  have hm : Tl rowI 0 (fun _ : Nat => ([] : List AV)) = [] := rfl
  have hk : ([] : List Int) = mkN 0 1 := rfl
  by_cases e1 : 1048576 - (a.length : Int) < 0
  · simp only [stdH, Tl_A, Shp_A, szY e1]
    repeat' (first | exact trivial | rfl | omega | refine And.intro ?_ ?_ | (intro h; first | (simp at h; done) | skip))
  · simp only [stdH, Tl_A, Tl_I, hm, Tl_mkN, mkN_len, mkL_len, Shp_A, Shp_I, Shp_zero, Tl_zero, h1, hn, Bool.false_eq_true, if_false, rowsA_len, rowsI_len, implies_true, and_true, true_and, decT, szN e1, Bool.not_true, Bool.not_false, cond_false, cond_true, eq_self, beq_self_eq_true, bne_self_eq_false, dlt0, dltk, List.length_nil]
    repeat' (first | exact trivial | rfl | omega | refine And.intro ?_ ?_ | (intro h; first | (simp at h; done) | skip))
noncomputable def e_lawSortN : Entry := pureE 3 fun H a => match a with
  | [.vec 15 an af] => some (.lit (.bool (H Bool fun _ => true)), [H Prop fun _ => Shp rowA an af, H Prop fun _ => (Tl rowA an af).length ≤ 9223372036854775807, H Prop fun _ => ok20 (Tl rowA an af) = false])
  | _ => none
theorem eok_lawSortN : EntryOk Try.prog e_lawSortN := pureM_ok (by unfold isBody; kernel_rfl) (by
  intro a r ob e hob
  split at e
  · rename_i an af
    simp only [Option.some.injEq, Prod.mk.injEq] at e
    obtain ⟨rfl, rfl⟩ := e
    exact ConN.args (.cons (.toT okRA rfl hob.1) .nil) (c_lawSortN (Tl rowA an af) hob.2.1 hob.2.2.1)
  · simp at e)
theorem law_SortArms (a : List Arm) (h0 : a.length ≤ 9223372036854775807) : ConN Try.prog 3 [vT rowA stdH fun _ => a] [] 0 (.lit (.bool true)) [] [] := by
  cases h : ok20 a with
  | true =>
    have hn : a.length ≤ 20 := by
      have := ok20_ne h
      rw [Bool.and_eq_true, decide_eq_true_eq] at this
      exact this.1
    exact c_lawSortY a hn h
  | false => exact c_lawSortN a h0 h

end Go.Proofs.Ytmpbmbioeeckeaa.AM
