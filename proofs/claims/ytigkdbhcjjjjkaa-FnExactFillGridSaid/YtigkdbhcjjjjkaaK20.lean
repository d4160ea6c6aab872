/- Lemmas and contracts (ALFillGrid); conditions: none. -/
import Derived.Test.YtigkdbhcjjjjkaaK04
import Derived.Test.YtigkdbhcjjjjkaaK14
import Derived.Test.YtigkdbhcjjjjkaaK17
import Derived.Test.YtigkdbhcjjjjkaaK18
import Derived.Test.YtigkdbhcjjjjkaaK19
set_option linter.unusedVariables false
set_option linter.unusedSimpArgs false
set_option linter.unusedVariables false
set_option linter.unusedSimpArgs false
set_option maxRecDepth 100000
set_option maxHeartbeats 4000000
set_option cbv.maxSteps 3000000
namespace Go.Proofs.Ytigkdbhcjjjjkaa.AM
/- The law FnExactFillGrid holds; conditions: none. -/
theorem gridQ_1 {n : Nat} (h : (gr n).1 = 1) : gridQ n = [gridR n 0 (gr n).2] := by unfold gridQ; rw [h]; rfl
theorem gridQ_2 {n : Nat} (h : (gr n).1 = 2) : gridQ n = [gridR n 0 (gr n).2, gridR n 1 (gr n).2] := by unfold gridQ; rw [h]; rfl
theorem gridQ_3 {n : Nat} (h : (gr n).1 = 3) : gridQ n = [gridR n 0 (gr n).2, gridR n 1 (gr n).2, gridR n 2 (gr n).2] := by unfold gridQ; rw [h]; rfl
theorem Tl_gR (n r p : Nat) : Tl rowI p (rowsI stdH fun _ => gridR n r p) = gridR n r p := by
  have := Tl_I (gridR n r p); rwa [gridR_len] at this
theorem Tl_LI (L : List (List Int)) : Tl (rowL rowI) L.length (rowsL rowsI 1 stdH fun _ => L) = L := Tl_rowsT (okL okI) L
theorem Shp_LI (n : Nat) (L : List (List Int)) : Shp (rowL rowI) n (rowsL rowsI 1 stdH fun _ => L) := Shp_rowsT (okL okI) n fun _ => L
theorem lenA15 (L : List Arm) (j : Nat) : (rowsA stdH (fun _ => L) j).length = 15 := rfl
theorem decTT : decide True = true := rfl
theorem c_fillN (l : List Arm) (h0 : l.length ≤ 2000000) (h1 : okQ l = false) : ConN Try.prog 18 [.vec 15 (stdH Nat fun _ => (l).length) (rowsA stdH fun _ => l)] [] 0 (.tup [.lit (.slice none 0 0), .lit (.bool (stdH Bool fun _ => false))]) [] [] := by
  have hB : Base Try.prog (tabΓ [e_validQ, e_gridOf]) tab := base_of tabOk (ents_cons eok_validQ <| ents_cons eok_gridOf <| ents_nil)
  refine con_m (N := 49) hB (draw_ok hB mixed) Try.func18 rfl rfl (fun H => [.vec 15 (H Nat fun _ => (l).length) (rowsA H fun _ => l)]) (fun _ => []) 0 (fun H => .tup [.lit (.slice none 0 0), .lit (.bool (H Bool fun _ => false))]) (fun H => []) (fun _ => []) 200 (by simp) (fun x hx => ?_) (by simp [lk]) (by omega) (by simp) ?_
  · simp only [List.mem_cons, List.not_mem_nil, or_false] at hx
    rcases hx with rfl
    · exact vl_bl okRA l _
  intro X hX hX0 H hH
  conv in Fin.chk _ _ => cbv
  try simp only [Plain_rowsA, Plain_rowsB, Plain_rowsF, Plain_rowsG, Plain_rowsI, Plain_rowsS, Plain_rowsU, Fin.satC_ret, Fin.satC_br, Fin.satC_need, Fin.satC_again, AllP, and_true, true_and, upd, List.length_nil, List.length_cons, Nat.zero_add, if_true, ncast, Int.ofNat_eq_natCast]
  subst hH
  simp only [stdH, Tl_A, Shp_A, h1, Bool.not_false, true_and, implies_true]
  exact ⟨h0, fun h => by simp at h⟩
noncomputable def e_fillN : Entry := pureE 18 fun H a => match a with
  | [.vec 15 ln lf] => some (.tup [.lit (.slice none 0 0), .lit (.bool (H Bool fun _ => false))], [H Prop fun _ => Shp rowA ln lf, H Prop fun _ => (Tl rowA ln lf).length ≤ 2000000, H Prop fun _ => okQ (Tl rowA ln lf) = false])
  | _ => none
theorem eok_fillN : EntryOk Try.prog e_fillN := pureM_ok (by unfold isBody; kernel_rfl) (by
  intro a r ob e hob
  split at e
  · rename_i ln lf
    simp only [Option.some.injEq, Prod.mk.injEq] at e
    obtain ⟨rfl, rfl⟩ := e
    exact ConN.args (.cons (.toT okRA rfl hob.1) .nil) (c_fillN (Tl rowA ln lf) hob.2.1 hob.2.2.1)
  · simp at e)
theorem c_eqSSN  (t : List (List Int)) (h0 : t.length = 0) : ConN Try.prog 19 [.lit (.slice none 0 0), .vec 1 (stdH Nat fun _ => (t).length) (rowsL rowsI 1 stdH fun _ => t)] [] 0 (.lit (.bool (stdH Bool fun _ => true))) [] [] := by
  have hB : Base Try.prog (tabΓ []) tabU := base_of tabOkU (ents_nil)
  refine con_m (N := 27) hB (draw_ok hB mixed) Try.func19 rfl rfl (fun H => [.lit (.slice none 0 0), .vec 1 (H Nat fun _ => (t).length) (rowsL rowsI 1 H fun _ => t)]) (fun _ => []) 0 (fun H => .lit (.bool (H Bool fun _ => true))) (fun H => []) (fun _ => []) 300 (by simp) (fun x hx => ?_) (by simp [lk]) (by omega) (by simp) ?_
  · simp only [List.mem_cons, List.not_mem_nil, or_false] at hx
    rcases hx with rfl | rfl
    · exact .lit
    · exact vl_bl (okL okI) t _
  intro X hX hX0 H hH
  conv in Fin.chk _ _ => cbv
  try simp only [Plain_rowsA, Plain_rowsB, Plain_rowsF, Plain_rowsG, Plain_rowsI, Plain_rowsS, Plain_rowsU, Fin.satC_ret, Fin.satC_br, Fin.satC_need, Fin.satC_again, AllP, and_true, true_and, upd, List.length_nil, List.length_cons, Nat.zero_add, if_true, ncast, Int.ofNat_eq_natCast]
  subst hH
  simp only [stdH, h0]
  exact ⟨fun h => by simp at h, fun _ => ⟨fun h => by simp at h, fun _ => trivial⟩⟩
noncomputable def e_eqSSN : Entry := pureE 19 fun H a => match a with
  | [.lit (.slice none 0 0), .vec 1 tn tf] => some (.lit (.bool (H Bool fun _ => true)), [H Prop fun _ => Shp (rowL rowI) tn tf, H Prop fun _ => (Tl (rowL rowI) tn tf).length = 0])
  | _ => none
theorem eok_eqSSN : EntryOk Try.prog e_eqSSN := pureM_ok (by unfold isBody; kernel_rfl) (by
  intro a r ob e hob
  split at e
  · rename_i tn tf
    simp only [Option.some.injEq, Prod.mk.injEq] at e
    obtain ⟨rfl, rfl⟩ := e
    exact ConN.args (.cons .rfl (.cons (.toT (okL okI) rfl hob.1) .nil)) (c_eqSSN (Tl (rowL rowI) tn tf) hob.2.1)
  · simp at e)
theorem c_markSSN  (k : Int)  : ConN Try.prog 22 [.lit (.slice none 0 0), .lit (.int .i64 k)] [] 0 (.lit (.int .i64 (stdH Int fun _ => k))) [] [] := by
  have hB : Base Try.prog (tabΓ []) tabU := base_of tabOkU (ents_nil)
  refine con_m (N := 19) hB (draw_ok hB mixed) Try.func22 rfl rfl (fun H => [.lit (.slice none 0 0), .lit (.int .i64 k)]) (fun _ => []) 0 (fun H => .lit (.int .i64 (H Int fun _ => k))) (fun H => []) (fun _ => []) 300 (by simp) (fun x hx => ?_) (by simp [lk]) (by omega) (by simp) ?_
  · simp only [List.mem_cons, List.not_mem_nil, or_false] at hx
    rcases hx with rfl | rfl
    · exact .lit
    · exact .lit
  intro X hX hX0 H hH
  conv in Fin.chk _ _ => cbv
  try simp only [Plain_rowsA, Plain_rowsB, Plain_rowsF, Plain_rowsG, Plain_rowsI, Plain_rowsS, Plain_rowsU, Fin.satC_ret, Fin.satC_br, Fin.satC_need, Fin.satC_again, AllP, and_true, true_and, upd, List.length_nil, List.length_cons, Nat.zero_add, if_true, ncast, Int.ofNat_eq_natCast]
  subst hH
  exact ⟨fun h => by simp [stdH] at h, fun _ => rfl⟩
noncomputable def e_markSSN : Entry := pureE 22 fun H a => match a with
  | [.lit (.slice none 0 0), .lit (.int .i64 k)] => some (.lit (.int .i64 (H Int fun _ => k)), [])
  | _ => none
theorem eok_markSSN : EntryOk Try.prog e_markSSN := pureM_ok (by unfold isBody; kernel_rfl) (by
  intro a r ob e hob
  split at e
  · rename_i k
    simp only [Option.some.injEq, Prod.mk.injEq] at e
    obtain ⟨rfl, rfl⟩ := e
    exact ConN.args (.cons .rfl (.cons .rfl .nil)) (c_markSSN k )
  · simp at e)
theorem c_heldSSN  (k : Int)  : ConN Try.prog 23 [.lit (.slice none 0 0), .lit (.int .i64 k)] [] 0 (.lit (.int .i64 (stdH Int fun _ => k))) [] [] := by
  have hB : Base Try.prog (tabΓ []) tabU := base_of tabOkU (ents_nil)
  refine con_m (N := 21) hB (draw_ok hB mixed) Try.func23 rfl rfl (fun H => [.lit (.slice none 0 0), .lit (.int .i64 k)]) (fun _ => []) 0 (fun H => .lit (.int .i64 (H Int fun _ => k))) (fun H => []) (fun _ => []) 300 (by simp) (fun x hx => ?_) (by simp [lk]) (by omega) (by simp) ?_
  · simp only [List.mem_cons, List.not_mem_nil, or_false] at hx
    rcases hx with rfl | rfl
    · exact .lit
    · exact .lit
  intro X hX hX0 H hH
  conv in Fin.chk _ _ => cbv
  try simp only [Plain_rowsA, Plain_rowsB, Plain_rowsF, Plain_rowsG, Plain_rowsI, Plain_rowsS, Plain_rowsU, Fin.satC_ret, Fin.satC_br, Fin.satC_need, Fin.satC_again, AllP, and_true, true_and, upd, List.length_nil, List.length_cons, Nat.zero_add, if_true, ncast, Int.ofNat_eq_natCast]
  subst hH
  exact ⟨fun h => by simp [stdH] at h, fun _ => rfl⟩
noncomputable def e_heldSSN : Entry := pureE 23 fun H a => match a with
  | [.lit (.slice none 0 0), .lit (.int .i64 k)] => some (.lit (.int .i64 (H Int fun _ => k)), [])
  | _ => none
theorem eok_heldSSN : EntryOk Try.prog e_heldSSN := pureM_ok (by unfold isBody; kernel_rfl) (by
  intro a r ob e hob
  split at e
  · rename_i k
    simp only [Option.some.injEq, Prod.mk.injEq] at e
    obtain ⟨rfl, rfl⟩ := e
    exact ConN.args (.cons .rfl (.cons .rfl .nil)) (c_heldSSN k )
  · simp at e)
theorem c_lawFG1 (a : List Arm) (h0 : a.length ≤ 9223372036854775807) (h1 : okQ a = true) (h2 : (gr a.length).1 = 1) : ConN Try.prog 4 [.vec 15 (stdH Nat fun _ => (a).length) (rowsA stdH fun _ => a)] [] 0 (.lit (.bool (stdH Bool fun _ => true))) [] [] := by
  have hB : Base Try.prog (tabΓ [e_szArmsS, e_toArmsS, e_fillSO, e_fill1, e_eqSS1, e_eqArmsS, e_markArmsS, e_markSS1, e_heldSS1]) tabO := base_of tabOkO (ents_cons eok_szArmsS <| ents_cons eok_toArmsS <| ents_cons eok_fillSO <| ents_cons eok_fill1 <| ents_cons eok_eqSS1 <| ents_cons eok_eqArmsS <| ents_cons eok_markArmsS <| ents_cons eok_markSS1 <| ents_cons eok_heldSS1 <| ents_nil)
  refine con_m (N := 96) hB (draw_ok hB mixed) Try.func4 rfl rfl (fun H => [.vec 15 (H Nat fun _ => (a).length) (rowsA H fun _ => a)]) (fun _ => []) 0 (fun H => .lit (.bool (H Bool fun _ => true))) (fun H => []) (fun _ => []) 600 (by simp) (fun x hx => ?_) (by simp [lk]) (by omega) (by simp) ?_
  · simp only [List.mem_cons, List.not_mem_nil, or_false] at hx
    rcases hx with rfl
    · exact vl_bl okRA a _
  intro X hX hX0 H hH
  conv in Fin.chk _ _ => cbv
  try simp only [Plain_rowsA, Plain_rowsB, Plain_rowsF, Plain_rowsG, Plain_rowsI, Plain_rowsS, Plain_rowsU, Fin.satC_ret, Fin.satC_br, Fin.satC_need, Fin.satC_again, AllP, and_true, true_and, upd, List.length_nil, List.length_cons, Nat.zero_add, if_true, ncast, Int.ofNat_eq_natCast]
  subst hH
  obtain ⟨l1, l2⟩ := okQ_len h1
  obtain ⟨q1, q2, q3, q4, q5⟩ := gr_ok a.length (by omega) l1
  have e1 : ¬ 1048576 - (a.length : Int) < 0 := by omega
  have e3 : decide (1 + 15 * (a.length : Int) < 0) = false := decide_eq_false (by omega)
  simp only [stdH, Tl_A, Shp_A, Tl_gR, Tl_mk, Shp_i, Tl_LI, Shp_LI, mkN_len, gridR_len, mkL_len, h1, h2, if_true, sz_no e1, e3, lenA15, implies_true, and_true, true_and, decTT, Bool.not_true, Bool.not_false, cond_false, cond_true, eq_self, beq_self_eq_true, bne_self_eq_false]
  repeat' (first | exact trivial | rfl | exact gridQ_1 h2 | omega | refine And.intro ?_ ?_ | (intro h; first | (simp at h; done) | (exfalso; have h := of_decide_eq_true h; omega) | skip))
theorem c_lawFG2 (a : List Arm) (h0 : a.length ≤ 9223372036854775807) (h1 : okQ a = true) (h2 : (gr a.length).1 = 2) : ConN Try.prog 4 [.vec 15 (stdH Nat fun _ => (a).length) (rowsA stdH fun _ => a)] [] 0 (.lit (.bool (stdH Bool fun _ => true))) [] [] := by
  have hB : Base Try.prog (tabΓ [e_szArmsS, e_toArmsS, e_fillSO, e_fill2, e_eqSS2, e_eqArmsS, e_markArmsS, e_markSS2, e_heldSS2]) tabO := base_of tabOkO (ents_cons eok_szArmsS <| ents_cons eok_toArmsS <| ents_cons eok_fillSO <| ents_cons eok_fill2 <| ents_cons eok_eqSS2 <| ents_cons eok_eqArmsS <| ents_cons eok_markArmsS <| ents_cons eok_markSS2 <| ents_cons eok_heldSS2 <| ents_nil)
  refine con_m (N := 96) hB (draw_ok hB mixed) Try.func4 rfl rfl (fun H => [.vec 15 (H Nat fun _ => (a).length) (rowsA H fun _ => a)]) (fun _ => []) 0 (fun H => .lit (.bool (H Bool fun _ => true))) (fun H => []) (fun _ => []) 600 (by simp) (fun x hx => ?_) (by simp [lk]) (by omega) (by simp) ?_
  · simp only [List.mem_cons, List.not_mem_nil, or_false] at hx
    rcases hx with rfl
    · exact vl_bl okRA a _
  intro X hX hX0 H hH
  conv in Fin.chk _ _ => cbv
  try simp only [Plain_rowsA, Plain_rowsB, Plain_rowsF, Plain_rowsG, Plain_rowsI, Plain_rowsS, Plain_rowsU, Fin.satC_ret, Fin.satC_br, Fin.satC_need, Fin.satC_again, AllP, and_true, true_and, upd, List.length_nil, List.length_cons, Nat.zero_add, if_true, ncast, Int.ofNat_eq_natCast]
  subst hH
  obtain ⟨l1, l2⟩ := okQ_len h1
  obtain ⟨q1, q2, q3, q4, q5⟩ := gr_ok a.length (by omega) l1
  have e1 : ¬ 1048576 - (a.length : Int) < 0 := by omega
  have e3 : decide (1 + 15 * (a.length : Int) < 0) = false := decide_eq_false (by omega)
  simp only [stdH, Tl_A, Shp_A, Tl_gR, Tl_mk, Shp_i, Tl_LI, Shp_LI, mkN_len, gridR_len, mkL_len, h1, h2, if_true, sz_no e1, e3, lenA15, implies_true, and_true, true_and, decTT, Bool.not_true, Bool.not_false, cond_false, cond_true, eq_self, beq_self_eq_true, bne_self_eq_false]
  repeat' (first | exact trivial | rfl | exact gridQ_2 h2 | omega | refine And.intro ?_ ?_ | (intro h; first | (simp at h; done) | (exfalso; have h := of_decide_eq_true h; omega) | skip))
theorem c_lawFG3 (a : List Arm) (h0 : a.length ≤ 9223372036854775807) (h1 : okQ a = true) (h2 : (gr a.length).1 = 3) : ConN Try.prog 4 [.vec 15 (stdH Nat fun _ => (a).length) (rowsA stdH fun _ => a)] [] 0 (.lit (.bool (stdH Bool fun _ => true))) [] [] := by
  have hB : Base Try.prog (tabΓ [e_szArmsS, e_toArmsS, e_fillSO, e_fill3, e_eqSS3, e_eqArmsS, e_markArmsS, e_markSS3, e_heldSS3]) tabO := base_of tabOkO (ents_cons eok_szArmsS <| ents_cons eok_toArmsS <| ents_cons eok_fillSO <| ents_cons eok_fill3 <| ents_cons eok_eqSS3 <| ents_cons eok_eqArmsS <| ents_cons eok_markArmsS <| ents_cons eok_markSS3 <| ents_cons eok_heldSS3 <| ents_nil)
  refine con_m (N := 96) hB (draw_ok hB mixed) Try.func4 rfl rfl (fun H => [.vec 15 (H Nat fun _ => (a).length) (rowsA H fun _ => a)]) (fun _ => []) 0 (fun H => .lit (.bool (H Bool fun _ => true))) (fun H => []) (fun _ => []) 600 (by simp) (fun x hx => ?_) (by simp [lk]) (by omega) (by simp) ?_
  · simp only [List.mem_cons, List.not_mem_nil, or_false] at hx
    rcases hx with rfl
    · exact vl_bl okRA a _
  intro X hX hX0 H hH
  conv in Fin.chk _ _ => cbv
  try simp only [Plain_rowsA, Plain_rowsB, Plain_rowsF, Plain_rowsG, Plain_rowsI, Plain_rowsS, Plain_rowsU, Fin.satC_ret, Fin.satC_br, Fin.satC_need, Fin.satC_again, AllP, and_true, true_and, upd, List.length_nil, List.length_cons, Nat.zero_add, if_true, ncast, Int.ofNat_eq_natCast]
  subst hH
  obtain ⟨l1, l2⟩ := okQ_len h1
  obtain ⟨q1, q2, q3, q4, q5⟩ := gr_ok a.length (by omega) l1
  have e1 : ¬ 1048576 - (a.length : Int) < 0 := by omega
  have e3 : decide (1 + 15 * (a.length : Int) < 0) = false := decide_eq_false (by omega)
  simp only [stdH, Tl_A, Shp_A, Tl_gR, Tl_mk, Shp_i, Tl_LI, Shp_LI, mkN_len, gridR_len, mkL_len, h1, h2, if_true, sz_no e1, e3, lenA15, implies_true, and_true, true_and, decTT, Bool.not_true, Bool.not_false, cond_false, cond_true, eq_self, beq_self_eq_true, bne_self_eq_false]
  repeat' (first | exact trivial | rfl | exact gridQ_3 h2 | omega | refine And.intro ?_ ?_ | (intro h; first | (simp at h; done) | (exfalso; have h := of_decide_eq_true h; omega) | skip))
theorem c_lawFGN (a : List Arm) (h0 : a.length ≤ 9223372036854775807) (h1 : okQ a = false) : ConN Try.prog 4 [.vec 15 (stdH Nat fun _ => (a).length) (rowsA stdH fun _ => a)] [] 0 (.lit (.bool (stdH Bool fun _ => true))) [] [] := by
  have hB : Base Try.prog (tabΓ [e_szArmsS, e_toArmsS, e_fillSO, e_fillN, e_eqSSN, e_eqArmsS, e_markArmsS, e_markSSN, e_heldSSN]) tabO := base_of tabOkO (ents_cons eok_szArmsS <| ents_cons eok_toArmsS <| ents_cons eok_fillSO <| ents_cons eok_fillN <| ents_cons eok_eqSSN <| ents_cons eok_eqArmsS <| ents_cons eok_markArmsS <| ents_cons eok_markSSN <| ents_cons eok_heldSSN <| ents_nil)
  refine con_m (N := 96) hB (draw_ok hB mixed) Try.func4 rfl rfl (fun H => [.vec 15 (H Nat fun _ => (a).length) (rowsA H fun _ => a)]) (fun _ => []) 0 (fun H => .lit (.bool (H Bool fun _ => true))) (fun H => []) (fun _ => []) 600 (by simp) (fun x hx => ?_) (by simp [lk]) (by omega) (by simp) ?_
  · simp only [List.mem_cons, List.not_mem_nil, or_false] at hx
    rcases hx with rfl
    · exact vl_bl okRA a _
  intro X hX hX0 H hH
  conv in Fin.chk _ _ => cbv
  try simp only [Plain_rowsA, Plain_rowsB, Plain_rowsF, Plain_rowsG, Plain_rowsI, Plain_rowsS, Plain_rowsU, Fin.satC_ret, Fin.satC_br, Fin.satC_need, Fin.satC_again, AllP, and_true, true_and, upd, List.length_nil, List.length_cons, Nat.zero_add, if_true, ncast, Int.ofNat_eq_natCast]
  subst hH
  by_cases e1 : 1048576 - (a.length : Int) < 0
  · simp only [stdH, Tl_A, Shp_A, sz_yes e1]
    repeat' (first | exact trivial | rfl | exact trivial | omega | refine And.intro ?_ ?_ | (intro h; first | (simp at h; done) | (exfalso; have h := of_decide_eq_true h; omega) | skip))
  have e3 : decide (1 + 15 * (a.length : Int) < 0) = false := decide_eq_false (by omega)
  simp only [stdH, Tl_A, Shp_A, Tl_LI, Shp_LI, mkL_len, h1, Bool.false_eq_true, if_false, List.length_nil, sz_no e1, e3, lenA15, implies_true, and_true, true_and, decTT, Bool.not_true, Bool.not_false, cond_false, cond_true, eq_self, beq_self_eq_true, bne_self_eq_false]
  repeat' (first | exact trivial | rfl | exact trivial | omega | refine And.intro ?_ ?_ | (intro h; first | (simp at h; done) | (exfalso; have h := of_decide_eq_true h; omega) | skip))
theorem law_FillGrid (a : List Arm) (h0 : a.length ≤ 9223372036854775807) : ConN Try.prog 4 [.vec 15 a.length (rowsA stdH fun _ => a)] [] 0 (.lit (.bool true)) [] [] := by
  cases h : okQ a with
  | false => exact c_lawFGN a h0 h
  | true =>
    obtain ⟨l1, l2⟩ := okQ_len h
    rcases gr_row a.length (by omega) l1 with e | e | e
    · exact c_lawFG1 a h0 h e
    · exact c_lawFG2 a h0 h e
    · exact c_lawFG3 a h0 h e

end Go.Proofs.Ytigkdbhcjjjjkaa.AM

