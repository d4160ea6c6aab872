import Derived.Test.YtocekpklffdjgaaAmT
import Derived.Test.YtocekpklffdjgaaAlw
import Derived.Test.YtocekpklffdjgaaDrA
import Derived.Test.YtocekpklffdjgaaVB
set_option linter.unusedVariables false
set_option linter.unusedSimpArgs false
set_option maxRecDepth 100000
set_option maxHeartbeats 4000000
set_option cbv.maxSteps 3000000
namespace Go.Proofs.Ytocekpklffdjgaa.AM
/- Tinctures that are allowed; conditions: none. -/
def tcs (n : Nat) : List Int := (List.range n).map fun i => ((i : Nat) : Int) + 1
theorem tcs_succ (n : Nat) (p : Int → Bool) : (tcs (n + 1)).filter p = (tcs n).filter p ++ (if p ((n : Int) + 1) then [(n : Int) + 1] else []) := by
  simp only [tcs, List.range_succ, List.map_append, List.filter_append, List.map_cons, List.map_nil, List.filter_cons, List.filter_nil]
theorem tcs_le (n : Nat) (p : Int → Bool) : ((tcs n).filter p).length ≤ n := Nat.le_trans (List.length_filter_le _ _) (by simp [tcs])
theorem Tl_lit1 (x : Int) : Tl rowI 1 (rowsOf 1 [.lit (.int .i64 x)]) = [x] := rfl
theorem Shp_lit1 (x : Int) : Shp rowI 1 (rowsOf 1 [.lit (.int .i64 x)]) := Shp_one rfl
theorem RowsEq.lit1 (x : Int) : RowsEq 1 1 (rowsOf 1 [.lit (.int .i64 x)]) 1 (rowsOf 1 [.lit (.int .i64 x)]) := ⟨rfl, fun j hj => by
  obtain rfl : j = 0 := by omega
  exact ⟨rfl, rfl, fun x hx => by simp [rowsOf] at hx; subst hx; exact .lit⟩⟩
def alwP (l : List Int) (x : Int) : Bool := !l.all (clsh x)
def belF (a : Arm) (place : Int) : List Int := if place = 2 then [a.t] else tinF a.f
def askA (a : Arm) (place : Int) : Bool := okA a && (bif (bif place == 1 then a.o != 0 else false) then true else bif (bif place == 2 then !noG a.n else false) then true else bif place == 3 then !noG a.r else false)
theorem c_AllowedAt (a : Arm) (place : Int)  : ConN Try.prog 15 [aT rowA stdH fun _ => a, .lit (.int .i64 place)] [] 0 (.tup [.vec 1 (stdH Nat fun _ => (if askA a place then (tcs 9).filter (alwP (belF a place)) else []).length) (rowsI stdH fun _ => if askA a place then (tcs 9).filter (alwP (belF a place)) else []), .lit (.bool (stdH Bool fun _ => askA a place))]) [] [] := by
  have hB : Base Try.prog (tabΓ [e_IsValidArms, e_tinF, e_breaks]) tabO := base_of tabOkO (ents_cons eok_IsValidArms <| ents_cons eok_tinF <| ents_cons eok_breaks <| ents_nil)
  refine con_m (N := 58) hB (draw_ok hB mixed) Try.func15 rfl rfl (fun H => [aT rowA H fun _ => a, .lit (.int .i64 place)]) (fun _ => []) 0 (fun H => .tup [.vec 1 (H Nat fun _ => (if askA a place then (tcs 9).filter (alwP (belF a place)) else []).length) (rowsI H fun _ => if askA a place then (tcs 9).filter (alwP (belF a place)) else []), .lit (.bool (H Bool fun _ => askA a place))]) (fun H => []) (fun _ => []) 200 (by simp) (fun x hx => ?_) (by simp [lk]) (by omega) (by simp) ?_
  · simp only [List.mem_cons, List.not_mem_nil, or_false] at hx
    rcases hx with rfl | rfl
    · exact aT_bl okRA _ _
    · exact .lit
  intro X hX hX0 H hH
  conv in Fin.chk _ _ => cbv
  try simp only [Fin.satC_ret, Fin.satC_br, Fin.satC_need, Fin.satC_again, AllP, and_true, true_and, upd, List.length_nil, List.length_cons, Nat.zero_add, if_true, ncast, Int.ofNat_eq_natCast]
  refine ⟨fun h => ?_, fun h => ⟨fun h1 => ?_, fun h1 => ⟨fun h2 => ?_, fun h2 => ⟨fun h3 => ?_, fun h3 => ?_⟩⟩⟩⟩
  · simp only [hH, stdH, decide_eq_true_eq, decide_eq_false_iff_not, Bool.not_eq_true', Bool.not_eq_false', peta, ncast, Int.ofNat_eq_natCast, beq_iff_eq, bne_iff_ne, beq_eq_false_iff_ne, bne_eq_false_iff_eq, ne_eq, Classical.not_not, Int.toNat_natCast, vrow_I, Arm.eta2, Fld.eta, Grp.eta] at h ⊢
    have e : askA a place = false := by unfold askA; rw [h]; rfl
    rw [e]; exact ⟨rfl, rfl⟩
  · simp only [hH, stdH, decide_eq_true_eq, decide_eq_false_iff_not, Bool.not_eq_true', Bool.not_eq_false', peta, ncast, Int.ofNat_eq_natCast, beq_iff_eq, bne_iff_ne, beq_eq_false_iff_ne, bne_eq_false_iff_eq, ne_eq, Classical.not_not, Int.toNat_natCast, vrow_I, Arm.eta2, Fld.eta, Grp.eta] at h
    simp only [hH, stdH, Int.toNat_natCast] at h1
    have e : askA a place = true := by unfold askA; rw [h, h1]; rfl
    have hb : belF a place = tinF a.f := by unfold belF; rw [if_neg]; rintro rfl; cases h1
    clear h1
    refine loop_a hB (draw_ok hB mixed) hX hX0 hH false (ι := { n : Nat // n ≤ 9 }) 200 (fun i => [.r (H Nat fun _ => ((tcs i.1).filter (alwP (tinF a.f))).length) (rowsI H fun _ => (tcs i.1).filter (alwP (tinF a.f))), .i (H Int fun _ => ((i.1 : Nat) : Int) + 1)]) (fun i => 9 - i.1) (⟨0, by omega⟩) ?_ ?_
    · (conv in matchSt _ _ _ _ => cbv); simp only [AllG, AllP, and_true, hH, stdH, ncast, Int.ofNat_eq_natCast, vrow_I, Arm.eta2, Fld.eta, Grp.eta]
      (repeat' (first | rfl | trivial | exact RowsEq.self okI | exact RowsEq.ofT okI rfl (Shp_zero _) rfl | exact RowsEq.snoc okI rfl | exact RowsEq.self okI | exact RowsEq.self okRA | exact List.length_append | refine And.intro ?_ ?_))
      all_goals exact .lit1 _
    · intro I hI i
      conv in Fin.chk _ _ => cbv
      try simp only [Fin.satC_ret, Fin.satC_br, Fin.satC_need, Fin.satC_again, AllP, and_true, true_and, upd, List.length_nil, List.length_cons, Nat.zero_add, if_true, ncast, Int.ofNat_eq_natCast]
      obtain ⟨i, hi⟩ := i
      have hf := tcs_le i (alwP (tinF a.f))
      refine ⟨fun h4 => ⟨⟨?_, ?_⟩, fun h5 => ⟨?_, ?_⟩, fun h5 => ?_⟩, fun h4 => ?_⟩
      · try simp only [hH, stdH, decide_eq_true_eq, decide_eq_false_iff_not, Bool.not_eq_true', Bool.not_eq_false', peta, ncast, Int.ofNat_eq_natCast, beq_iff_eq, bne_iff_ne, beq_eq_false_iff_ne, bne_eq_false_iff_eq, ne_eq, Classical.not_not, Int.toNat_natCast, vrow_I, Arm.eta2, Fld.eta, Grp.eta]
        first | exact Shp_I _ _ | exact Shp_lit1 _
      · try simp only [hH, stdH, decide_eq_true_eq, decide_eq_false_iff_not, Bool.not_eq_true', Bool.not_eq_false', peta, ncast, Int.ofNat_eq_natCast, beq_iff_eq, bne_iff_ne, beq_eq_false_iff_ne, bne_eq_false_iff_eq, ne_eq, Classical.not_not, Int.toNat_natCast, vrow_I, Arm.eta2, Fld.eta, Grp.eta]
        first | exact tinF_len' _ | (rw [Tl_len]; exact tinF_len' _) | (simp; done) | (simp [Tl]; done)
      · try simp only [hH, stdH, decide_eq_true_eq, decide_eq_false_iff_not, Bool.not_eq_true', Bool.not_eq_false', peta, ncast, Int.ofNat_eq_natCast, beq_iff_eq, bne_iff_ne, beq_eq_false_iff_ne, bne_eq_false_iff_eq, ne_eq, Classical.not_not, Int.toNat_natCast, vrow_I, Arm.eta2, Fld.eta, Grp.eta]
        refine ⟨trivial, by omega, by omega⟩
      · simp only [hH, stdH, decide_eq_true_eq, decide_eq_false_iff_not, Bool.not_eq_true', Bool.not_eq_false', peta, ncast, Int.ofNat_eq_natCast, beq_iff_eq, bne_iff_ne, beq_eq_false_iff_ne, bne_eq_false_iff_eq, ne_eq, Classical.not_not, Int.toNat_natCast, vrow_I, Arm.eta2, Fld.eta, Grp.eta] at h4 h5
        have h6 : alwP (tinF a.f) ((i : Int) + 1) = true := by unfold alwP; first | (simpa [Tl_I, Tl_lit1] using h5) | (rw [Bool.not_eq_true']; exact h5)
        refine ⟨⟨i + 1, by omega⟩, by simp only; omega, ?_⟩
        rw [hI]
        (conv in matchSt _ _ _ _ => cbv); simp only [AllG, AllP, and_true, hH, stdH, ncast, Int.ofNat_eq_natCast, vrow_I, Arm.eta2, Fld.eta, Grp.eta]
        rw [tcs_succ, if_pos h6, show IntKind.i64.wrap ((i : Int) + 1 + 1) = ((i + 1 : Nat) : Int) + 1 by rw [wi] <;> omega]
        (repeat' (first | rfl | trivial | exact RowsEq.self okI | exact RowsEq.ofT okI rfl (Shp_zero _) rfl | exact RowsEq.snoc okI rfl | exact RowsEq.self okI | exact RowsEq.self okRA | exact List.length_append | refine And.intro ?_ ?_))
        all_goals exact .lit1 _
      · simp only [hH, stdH, decide_eq_true_eq, decide_eq_false_iff_not, Bool.not_eq_true', Bool.not_eq_false', peta, ncast, Int.ofNat_eq_natCast, beq_iff_eq, bne_iff_ne, beq_eq_false_iff_ne, bne_eq_false_iff_eq, ne_eq, Classical.not_not, Int.toNat_natCast, vrow_I, Arm.eta2, Fld.eta, Grp.eta] at h4 h5
        have h6 : ¬ alwP (tinF a.f) ((i : Int) + 1) = true := by unfold alwP; first | (simpa [Tl_I, Tl_lit1] using h5) | (rw [Bool.not_eq_true']; simpa using h5)
        refine ⟨⟨i + 1, by omega⟩, by simp only; omega, ?_⟩
        rw [hI]
        (conv in matchSt _ _ _ _ => cbv); simp only [AllG, AllP, and_true, hH, stdH, ncast, Int.ofNat_eq_natCast, vrow_I, Arm.eta2, Fld.eta, Grp.eta]
        rw [tcs_succ, if_neg h6, List.append_nil, show IntKind.i64.wrap ((i : Int) + 1 + 1) = ((i + 1 : Nat) : Int) + 1 by rw [wi] <;> omega]
        (repeat' (first | rfl | trivial | exact RowsEq.self okI | exact RowsEq.ofT okI rfl (Shp_zero _) rfl | exact RowsEq.snoc okI rfl | exact RowsEq.self okI | exact RowsEq.self okRA | exact List.length_append | refine And.intro ?_ ?_))
        all_goals exact .lit1 _
      · simp only [hH, stdH, decide_eq_true_eq, decide_eq_false_iff_not, Bool.not_eq_true', Bool.not_eq_false', peta, ncast, Int.ofNat_eq_natCast, beq_iff_eq, bne_iff_ne, beq_eq_false_iff_ne, bne_eq_false_iff_eq, ne_eq, Classical.not_not, Int.toNat_natCast, vrow_I, Arm.eta2, Fld.eta, Grp.eta] at h4 ⊢
        obtain rfl : i = 9 := by omega
        rw [e, hb]
        exact ⟨rfl, .self okI⟩
  · simp only [hH, stdH, decide_eq_true_eq, decide_eq_false_iff_not, Bool.not_eq_true', Bool.not_eq_false', peta, ncast, Int.ofNat_eq_natCast, beq_iff_eq, bne_iff_ne, beq_eq_false_iff_ne, bne_eq_false_iff_eq, ne_eq, Classical.not_not, Int.toNat_natCast, vrow_I, Arm.eta2, Fld.eta, Grp.eta] at h
    simp only [hH, stdH, Int.toNat_natCast] at h1 h2
    rw [noGE] at h2
    have h2' : (bif place == 2 then !noG a.n else false) = true := h2
    have e : askA a place = true := by unfold askA; rw [h, h1, h2']; rfl
    have hb : belF a place = [a.t] := by unfold belF; rw [if_pos]; cases q : place == 2 <;> simp_all
    clear h1 h2
    refine loop_a hB (draw_ok hB mixed) hX hX0 hH false (ι := { n : Nat // n ≤ 9 }) 200 (fun i => [.r (H Nat fun _ => ((tcs i.1).filter (alwP [a.t])).length) (rowsI H fun _ => (tcs i.1).filter (alwP [a.t])), .i (H Int fun _ => ((i.1 : Nat) : Int) + 1)]) (fun i => 9 - i.1) (⟨0, by omega⟩) ?_ ?_
    · (conv in matchSt _ _ _ _ => cbv); simp only [AllG, AllP, and_true, hH, stdH, ncast, Int.ofNat_eq_natCast, vrow_I, Arm.eta2, Fld.eta, Grp.eta]
      (repeat' (first | rfl | trivial | exact RowsEq.self okI | exact RowsEq.ofT okI rfl (Shp_zero _) rfl | exact RowsEq.snoc okI rfl | exact RowsEq.self okI | exact RowsEq.self okRA | exact List.length_append | refine And.intro ?_ ?_))
      all_goals exact .lit1 _
    · intro I hI i
      conv in Fin.chk _ _ => cbv
      try simp only [Fin.satC_ret, Fin.satC_br, Fin.satC_need, Fin.satC_again, AllP, and_true, true_and, upd, List.length_nil, List.length_cons, Nat.zero_add, if_true, ncast, Int.ofNat_eq_natCast]
      obtain ⟨i, hi⟩ := i
      have hf := tcs_le i (alwP [a.t])
      refine ⟨fun h4 => ⟨⟨?_, ?_⟩, fun h5 => ⟨?_, ?_⟩, fun h5 => ?_⟩, fun h4 => ?_⟩
      · try simp only [hH, stdH, decide_eq_true_eq, decide_eq_false_iff_not, Bool.not_eq_true', Bool.not_eq_false', peta, ncast, Int.ofNat_eq_natCast, beq_iff_eq, bne_iff_ne, beq_eq_false_iff_ne, bne_eq_false_iff_eq, ne_eq, Classical.not_not, Int.toNat_natCast, vrow_I, Arm.eta2, Fld.eta, Grp.eta]
        first | exact Shp_I _ _ | exact Shp_lit1 _
      · try simp only [hH, stdH, decide_eq_true_eq, decide_eq_false_iff_not, Bool.not_eq_true', Bool.not_eq_false', peta, ncast, Int.ofNat_eq_natCast, beq_iff_eq, bne_iff_ne, beq_eq_false_iff_ne, bne_eq_false_iff_eq, ne_eq, Classical.not_not, Int.toNat_natCast, vrow_I, Arm.eta2, Fld.eta, Grp.eta]
        first | exact tinF_len' _ | (rw [Tl_len]; exact tinF_len' _) | (simp; done) | (simp [Tl]; done)
      · try simp only [hH, stdH, decide_eq_true_eq, decide_eq_false_iff_not, Bool.not_eq_true', Bool.not_eq_false', peta, ncast, Int.ofNat_eq_natCast, beq_iff_eq, bne_iff_ne, beq_eq_false_iff_ne, bne_eq_false_iff_eq, ne_eq, Classical.not_not, Int.toNat_natCast, vrow_I, Arm.eta2, Fld.eta, Grp.eta]
        refine ⟨trivial, by omega, by omega⟩
      · simp only [hH, stdH, decide_eq_true_eq, decide_eq_false_iff_not, Bool.not_eq_true', Bool.not_eq_false', peta, ncast, Int.ofNat_eq_natCast, beq_iff_eq, bne_iff_ne, beq_eq_false_iff_ne, bne_eq_false_iff_eq, ne_eq, Classical.not_not, Int.toNat_natCast, vrow_I, Arm.eta2, Fld.eta, Grp.eta] at h4 h5
        have h6 : alwP [a.t] ((i : Int) + 1) = true := by unfold alwP; first | (simpa [Tl_I, Tl_lit1] using h5) | (rw [Bool.not_eq_true']; exact h5)
        refine ⟨⟨i + 1, by omega⟩, by simp only; omega, ?_⟩
        rw [hI]
        (conv in matchSt _ _ _ _ => cbv); simp only [AllG, AllP, and_true, hH, stdH, ncast, Int.ofNat_eq_natCast, vrow_I, Arm.eta2, Fld.eta, Grp.eta]
        rw [tcs_succ, if_pos h6, show IntKind.i64.wrap ((i : Int) + 1 + 1) = ((i + 1 : Nat) : Int) + 1 by rw [wi] <;> omega]
        (repeat' (first | rfl | trivial | exact RowsEq.self okI | exact RowsEq.ofT okI rfl (Shp_zero _) rfl | exact RowsEq.snoc okI rfl | exact RowsEq.self okI | exact RowsEq.self okRA | exact List.length_append | refine And.intro ?_ ?_))
        all_goals exact .lit1 _
      · simp only [hH, stdH, decide_eq_true_eq, decide_eq_false_iff_not, Bool.not_eq_true', Bool.not_eq_false', peta, ncast, Int.ofNat_eq_natCast, beq_iff_eq, bne_iff_ne, beq_eq_false_iff_ne, bne_eq_false_iff_eq, ne_eq, Classical.not_not, Int.toNat_natCast, vrow_I, Arm.eta2, Fld.eta, Grp.eta] at h4 h5
        have h6 : ¬ alwP [a.t] ((i : Int) + 1) = true := by unfold alwP; first | (simpa [Tl_I, Tl_lit1] using h5) | (rw [Bool.not_eq_true']; simpa using h5)
        refine ⟨⟨i + 1, by omega⟩, by simp only; omega, ?_⟩
        rw [hI]
        (conv in matchSt _ _ _ _ => cbv); simp only [AllG, AllP, and_true, hH, stdH, ncast, Int.ofNat_eq_natCast, vrow_I, Arm.eta2, Fld.eta, Grp.eta]
        rw [tcs_succ, if_neg h6, List.append_nil, show IntKind.i64.wrap ((i : Int) + 1 + 1) = ((i + 1 : Nat) : Int) + 1 by rw [wi] <;> omega]
        (repeat' (first | rfl | trivial | exact RowsEq.self okI | exact RowsEq.ofT okI rfl (Shp_zero _) rfl | exact RowsEq.snoc okI rfl | exact RowsEq.self okI | exact RowsEq.self okRA | exact List.length_append | refine And.intro ?_ ?_))
        all_goals exact .lit1 _
      · simp only [hH, stdH, decide_eq_true_eq, decide_eq_false_iff_not, Bool.not_eq_true', Bool.not_eq_false', peta, ncast, Int.ofNat_eq_natCast, beq_iff_eq, bne_iff_ne, beq_eq_false_iff_ne, bne_eq_false_iff_eq, ne_eq, Classical.not_not, Int.toNat_natCast, vrow_I, Arm.eta2, Fld.eta, Grp.eta] at h4 ⊢
        obtain rfl : i = 9 := by omega
        rw [e, hb]
        exact ⟨rfl, .self okI⟩
  · simp only [hH, stdH, decide_eq_true_eq, decide_eq_false_iff_not, Bool.not_eq_true', Bool.not_eq_false', peta, ncast, Int.ofNat_eq_natCast, beq_iff_eq, bne_iff_ne, beq_eq_false_iff_ne, bne_eq_false_iff_eq, ne_eq, Classical.not_not, Int.toNat_natCast, vrow_I, Arm.eta2, Fld.eta, Grp.eta] at h
    simp only [hH, stdH, Int.toNat_natCast] at h1 h2 h3
    rw [noGE] at h2 h3
    have h2' : (bif place == 2 then !noG a.n else false) = false := h2
    have h3' : (bif place == 3 then !noG a.r else false) = true := h3
    have e : askA a place = true := by unfold askA; rw [h, h1, h2', h3']; rfl
    have hb : belF a place = tinF a.f := by unfold belF; rw [if_neg]; rintro rfl; cases h3
    clear h1 h2 h3
    refine loop_a hB (draw_ok hB mixed) hX hX0 hH false (ι := { n : Nat // n ≤ 9 }) 200 (fun i => [.r (H Nat fun _ => ((tcs i.1).filter (alwP (tinF a.f))).length) (rowsI H fun _ => (tcs i.1).filter (alwP (tinF a.f))), .i (H Int fun _ => ((i.1 : Nat) : Int) + 1)]) (fun i => 9 - i.1) (⟨0, by omega⟩) ?_ ?_
    · (conv in matchSt _ _ _ _ => cbv); simp only [AllG, AllP, and_true, hH, stdH, ncast, Int.ofNat_eq_natCast, vrow_I, Arm.eta2, Fld.eta, Grp.eta]
      (repeat' (first | rfl | trivial | exact RowsEq.self okI | exact RowsEq.ofT okI rfl (Shp_zero _) rfl | exact RowsEq.snoc okI rfl | exact RowsEq.self okI | exact RowsEq.self okRA | exact List.length_append | refine And.intro ?_ ?_))
      all_goals exact .lit1 _
    · intro I hI i
      conv in Fin.chk _ _ => cbv
      try simp only [Fin.satC_ret, Fin.satC_br, Fin.satC_need, Fin.satC_again, AllP, and_true, true_and, upd, List.length_nil, List.length_cons, Nat.zero_add, if_true, ncast, Int.ofNat_eq_natCast]
      obtain ⟨i, hi⟩ := i
      have hf := tcs_le i (alwP (tinF a.f))
      refine ⟨fun h4 => ⟨⟨?_, ?_⟩, fun h5 => ⟨?_, ?_⟩, fun h5 => ?_⟩, fun h4 => ?_⟩
      · try simp only [hH, stdH, decide_eq_true_eq, decide_eq_false_iff_not, Bool.not_eq_true', Bool.not_eq_false', peta, ncast, Int.ofNat_eq_natCast, beq_iff_eq, bne_iff_ne, beq_eq_false_iff_ne, bne_eq_false_iff_eq, ne_eq, Classical.not_not, Int.toNat_natCast, vrow_I, Arm.eta2, Fld.eta, Grp.eta]
        first | exact Shp_I _ _ | exact Shp_lit1 _
      · try simp only [hH, stdH, decide_eq_true_eq, decide_eq_false_iff_not, Bool.not_eq_true', Bool.not_eq_false', peta, ncast, Int.ofNat_eq_natCast, beq_iff_eq, bne_iff_ne, beq_eq_false_iff_ne, bne_eq_false_iff_eq, ne_eq, Classical.not_not, Int.toNat_natCast, vrow_I, Arm.eta2, Fld.eta, Grp.eta]
        first | exact tinF_len' _ | (rw [Tl_len]; exact tinF_len' _) | (simp; done) | (simp [Tl]; done)
      · try simp only [hH, stdH, decide_eq_true_eq, decide_eq_false_iff_not, Bool.not_eq_true', Bool.not_eq_false', peta, ncast, Int.ofNat_eq_natCast, beq_iff_eq, bne_iff_ne, beq_eq_false_iff_ne, bne_eq_false_iff_eq, ne_eq, Classical.not_not, Int.toNat_natCast, vrow_I, Arm.eta2, Fld.eta, Grp.eta]
        refine ⟨trivial, by omega, by omega⟩
      · simp only [hH, stdH, decide_eq_true_eq, decide_eq_false_iff_not, Bool.not_eq_true', Bool.not_eq_false', peta, ncast, Int.ofNat_eq_natCast, beq_iff_eq, bne_iff_ne, beq_eq_false_iff_ne, bne_eq_false_iff_eq, ne_eq, Classical.not_not, Int.toNat_natCast, vrow_I, Arm.eta2, Fld.eta, Grp.eta] at h4 h5
        have h6 : alwP (tinF a.f) ((i : Int) + 1) = true := by unfold alwP; first | (simpa [Tl_I, Tl_lit1] using h5) | (rw [Bool.not_eq_true']; exact h5)
        refine ⟨⟨i + 1, by omega⟩, by simp only; omega, ?_⟩
        rw [hI]
        (conv in matchSt _ _ _ _ => cbv); simp only [AllG, AllP, and_true, hH, stdH, ncast, Int.ofNat_eq_natCast, vrow_I, Arm.eta2, Fld.eta, Grp.eta]
        rw [tcs_succ, if_pos h6, show IntKind.i64.wrap ((i : Int) + 1 + 1) = ((i + 1 : Nat) : Int) + 1 by rw [wi] <;> omega]
        (repeat' (first | rfl | trivial | exact RowsEq.self okI | exact RowsEq.ofT okI rfl (Shp_zero _) rfl | exact RowsEq.snoc okI rfl | exact RowsEq.self okI | exact RowsEq.self okRA | exact List.length_append | refine And.intro ?_ ?_))
        all_goals exact .lit1 _
      · simp only [hH, stdH, decide_eq_true_eq, decide_eq_false_iff_not, Bool.not_eq_true', Bool.not_eq_false', peta, ncast, Int.ofNat_eq_natCast, beq_iff_eq, bne_iff_ne, beq_eq_false_iff_ne, bne_eq_false_iff_eq, ne_eq, Classical.not_not, Int.toNat_natCast, vrow_I, Arm.eta2, Fld.eta, Grp.eta] at h4 h5
        have h6 : ¬ alwP (tinF a.f) ((i : Int) + 1) = true := by unfold alwP; first | (simpa [Tl_I, Tl_lit1] using h5) | (rw [Bool.not_eq_true']; simpa using h5)
        refine ⟨⟨i + 1, by omega⟩, by simp only; omega, ?_⟩
        rw [hI]
        (conv in matchSt _ _ _ _ => cbv); simp only [AllG, AllP, and_true, hH, stdH, ncast, Int.ofNat_eq_natCast, vrow_I, Arm.eta2, Fld.eta, Grp.eta]
        rw [tcs_succ, if_neg h6, List.append_nil, show IntKind.i64.wrap ((i : Int) + 1 + 1) = ((i + 1 : Nat) : Int) + 1 by rw [wi] <;> omega]
        (repeat' (first | rfl | trivial | exact RowsEq.self okI | exact RowsEq.ofT okI rfl (Shp_zero _) rfl | exact RowsEq.snoc okI rfl | exact RowsEq.self okI | exact RowsEq.self okRA | exact List.length_append | refine And.intro ?_ ?_))
        all_goals exact .lit1 _
      · simp only [hH, stdH, decide_eq_true_eq, decide_eq_false_iff_not, Bool.not_eq_true', Bool.not_eq_false', peta, ncast, Int.ofNat_eq_natCast, beq_iff_eq, bne_iff_ne, beq_eq_false_iff_ne, bne_eq_false_iff_eq, ne_eq, Classical.not_not, Int.toNat_natCast, vrow_I, Arm.eta2, Fld.eta, Grp.eta] at h4 ⊢
        obtain rfl : i = 9 := by omega
        rw [e, hb]
        exact ⟨rfl, .self okI⟩
  · simp only [hH, stdH, decide_eq_true_eq, decide_eq_false_iff_not, Bool.not_eq_true', Bool.not_eq_false', peta, ncast, Int.ofNat_eq_natCast, beq_iff_eq, bne_iff_ne, beq_eq_false_iff_ne, bne_eq_false_iff_eq, ne_eq, Classical.not_not, Int.toNat_natCast, vrow_I, Arm.eta2, Fld.eta, Grp.eta] at h
    simp only [hH, stdH, Int.toNat_natCast] at h1 h2 h3
    rw [noGE] at h2 h3
    have h2' : (bif place == 2 then !noG a.n else false) = false := h2
    have h3' : (bif place == 3 then !noG a.r else false) = false := h3
    have e : askA a place = false := by unfold askA; rw [h, h1, h2', h3']; rfl
    try simp only [hH, stdH, decide_eq_true_eq, decide_eq_false_iff_not, Bool.not_eq_true', Bool.not_eq_false', peta, ncast, Int.ofNat_eq_natCast, beq_iff_eq, bne_iff_ne, beq_eq_false_iff_ne, bne_eq_false_iff_eq, ne_eq, Classical.not_not, Int.toNat_natCast, vrow_I, Arm.eta2, Fld.eta, Grp.eta]
    rw [e]; exact ⟨rfl, rfl⟩
noncomputable def e_AllowedAt : Entry := pureE 15 fun H a => match a with
  | [.agg [.lit (.int .i64 a0), .lit (.int .i64 a1), .lit (.int .i64 a2), .lit (.int .i64 a3), .lit (.int .i64 a4), .lit (.int .i64 a5), .lit (.int .i64 a6), .lit (.int .i64 a7), .lit (.int .i64 a8), .lit (.int .i64 a9), .lit (.int .i64 a10), .lit (.int .i64 a11), .lit (.int .i64 a12), .lit (.int .i64 a13), .lit (.int .i64 a14)], .lit (.int .i64 place)] => some (.tup [.vec 1 (H Nat fun _ => (if askA (⟨⟨a0, a1, a2, a3⟩, a4, a5, a6, ⟨a7, a8, a9, a10⟩, ⟨a11, a12, a13, a14⟩⟩ : Arm) place then (tcs 9).filter (alwP (belF (⟨⟨a0, a1, a2, a3⟩, a4, a5, a6, ⟨a7, a8, a9, a10⟩, ⟨a11, a12, a13, a14⟩⟩ : Arm) place)) else []).length) (rowsI H fun _ => if askA (⟨⟨a0, a1, a2, a3⟩, a4, a5, a6, ⟨a7, a8, a9, a10⟩, ⟨a11, a12, a13, a14⟩⟩ : Arm) place then (tcs 9).filter (alwP (belF (⟨⟨a0, a1, a2, a3⟩, a4, a5, a6, ⟨a7, a8, a9, a10⟩, ⟨a11, a12, a13, a14⟩⟩ : Arm) place)) else []), .lit (.bool (H Bool fun _ => askA (⟨⟨a0, a1, a2, a3⟩, a4, a5, a6, ⟨a7, a8, a9, a10⟩, ⟨a11, a12, a13, a14⟩⟩ : Arm) place))], [])
  | _ => none
theorem eok_AllowedAt : EntryOk Try.prog e_AllowedAt := pureM_ok (by unfold isBody; kernel_rfl) (by
  intro a r ob e hob
  split at e
  · rename_i a0 a1 a2 a3 a4 a5 a6 a7 a8 a9 a10 a11 a12 a13 a14 place
    simp only [Option.some.injEq, Prod.mk.injEq] at e
    obtain ⟨rfl, rfl⟩ := e
    exact ConN.args (.cons .rfl (.cons .rfl .nil)) (c_AllowedAt (⟨⟨a0, a1, a2, a3⟩, a4, a5, a6, ⟨a7, a8, a9, a10⟩, ⟨a11, a12, a13, a14⟩⟩ : Arm) place )
  · simp at e)
theorem inB3 {p : Int} (h : inB p 1 3 = true) : p = 1 ∨ p = 2 ∨ p = 3 := by unfold inB at h; simp at h; omega
theorem ask1 {a : Arm} {p : Int} (h : (bif !okA a then true else !inB p 1 3) = true) : askA a p = false := by
  unfold askA
  cases ho : okA a with
  | false => rfl
  | true =>
    rw [ho] at h
    have h2 : inB p 1 3 = false := by simpa using h
    have n1 : (p == 1) = false := by rw [beq_eq_false_iff_ne]; rintro rfl; cases h2
    have n2 : (p == 2) = false := by rw [beq_eq_false_iff_ne]; rintro rfl; cases h2
    have n3 : (p == 3) = false := by rw [beq_eq_false_iff_ne]; rintro rfl; cases h2
    rw [n1, n2, n3]; rfl
theorem okA_on {a : Arm} (h : okA a = true) (h0 : a.o = 0) : noG a.n = true := by
  simp only [okA, Bool.and_eq_true, if_pos h0] at h; exact h.2.2
theorem ask2 {a : Arm} {p : Int} (h : (bif !okA a then true else !inB p 1 3) = false) : askA a p = !(bif (bif (bif p != 3 then a.o == 0 else false) then true else bif p == 2 then noG a.n else false) then true else bif p == 3 then noG a.r else false) := by
  have ho : okA a = true := by cases ho : okA a <;> simp_all
  have hp := inB3 (p := p) (by rw [ho] at h; simpa using h)
  unfold askA
  rw [ho]
  by_cases h0 : a.o = 0
  · have := okA_on ho h0
    rcases hp with rfl | rfl | rfl <;> simp [h0, this]
  · rcases hp with rfl | rfl | rfl <;> simp [h0, bne]
theorem belP {a : Arm} {p x : Int} (h : (p == 2) = true) : alwP (belF a p) x = !clsh x a.t := by
  have : p = 2 := by simpa using h
  unfold belF alwP; rw [if_pos this]; simp
theorem belN {a : Arm} {p x : Int} (h : (p == 2) = false) : alwP (belF a p) x = !(tinF a.f).all (clsh x) := by
  have : ¬ p = 2 := by simpa using h
  unfold belF alwP; rw [if_neg this]
theorem c_AllowedAtS (a : Arm) (place : Int)  : ConN Try.prog 16 [aT rowA stdH fun _ => a, .lit (.int .i64 place)] [] 0 (.tup [.vec 1 (stdH Nat fun _ => (if askA a place then (tcs 9).filter (alwP (belF a place)) else []).length) (rowsI stdH fun _ => if askA a place then (tcs 9).filter (alwP (belF a place)) else []), .lit (.bool (stdH Bool fun _ => askA a place))]) [] [] := by
  have hB : Base Try.prog (tabΓ [e_l5Good, e_l1In, e_l4None, e_l8OnField, e_l2Clash]) tabO := base_of tabOkO (ents_cons eok_l5Good <| ents_cons eok_l1In <| ents_cons eok_l4None <| ents_cons eok_l8OnField <| ents_cons eok_l2Clash <| ents_nil)
  refine con_m (N := 66) hB (draw_ok hB mixed) Try.func16 rfl rfl (fun H => [aT rowA H fun _ => a, .lit (.int .i64 place)]) (fun _ => []) 0 (fun H => .tup [.vec 1 (H Nat fun _ => (if askA a place then (tcs 9).filter (alwP (belF a place)) else []).length) (rowsI H fun _ => if askA a place then (tcs 9).filter (alwP (belF a place)) else []), .lit (.bool (H Bool fun _ => askA a place))]) (fun H => []) (fun _ => []) 200 (by simp) (fun x hx => ?_) (by simp [lk]) (by omega) (by simp) ?_
  · simp only [List.mem_cons, List.not_mem_nil, or_false] at hx
    rcases hx with rfl | rfl
    · exact aT_bl okRA _ _
    · exact .lit
  intro X hX hX0 H hH
  conv in Fin.chk _ _ => cbv
  try simp only [Fin.satC_ret, Fin.satC_br, Fin.satC_need, Fin.satC_again, AllP, and_true, true_and, upd, List.length_nil, List.length_cons, Nat.zero_add, if_true, ncast, Int.ofNat_eq_natCast]
  refine ⟨fun h => ?_, fun h => ⟨fun h1 => ?_, fun h1 => ?_⟩⟩
  · simp only [hH, stdH, Int.toNat_natCast] at h
    have e := ask1 h
    try simp only [hH, stdH, decide_eq_true_eq, decide_eq_false_iff_not, Bool.not_eq_true', Bool.not_eq_false', peta, ncast, Int.ofNat_eq_natCast, beq_iff_eq, bne_iff_ne, beq_eq_false_iff_ne, bne_eq_false_iff_eq, ne_eq, Classical.not_not, Int.toNat_natCast, vrow_I, Arm.eta2, Fld.eta, Grp.eta]
    rw [e]; exact ⟨rfl, .ofT okI rfl (Shp_zero _) rfl⟩
  · simp only [hH, stdH, Int.toNat_natCast] at h h1
    have e := ask2 h
    have e2 : askA a place = false := by rw [e]; simp only [Bool.not_eq_false']; exact h1
    try simp only [hH, stdH, decide_eq_true_eq, decide_eq_false_iff_not, Bool.not_eq_true', Bool.not_eq_false', peta, ncast, Int.ofNat_eq_natCast, beq_iff_eq, bne_iff_ne, beq_eq_false_iff_ne, bne_eq_false_iff_eq, ne_eq, Classical.not_not, Int.toNat_natCast, vrow_I, Arm.eta2, Fld.eta, Grp.eta]
    rw [e2]; exact ⟨rfl, .ofT okI rfl (Shp_zero _) rfl⟩
  simp only [hH, stdH, Int.toNat_natCast] at h h1
  have e := ask2 h
  have e2 : askA a place = true := by rw [e]; simp only [Bool.not_eq_true']; exact h1
  clear e h h1
  refine loop_a hB (draw_ok hB mixed) hX hX0 hH false (ι := { n : Nat // n ≤ 9 }) 200 (fun i => [.r (H Nat fun _ => ((tcs i.1).filter (alwP (belF a place))).length) (rowsI H fun _ => (tcs i.1).filter (alwP (belF a place))), .i (H Int fun _ => ((i.1 : Nat) : Int) + 1)]) (fun i => 9 - i.1) (⟨0, by omega⟩) ?_ ?_
  · (conv in matchSt _ _ _ _ => cbv); simp only [AllG, AllP, and_true, hH, stdH, ncast, Int.ofNat_eq_natCast, vrow_I, Arm.eta2, Fld.eta, Grp.eta]
    (repeat' (first | rfl | trivial | exact RowsEq.self okI | exact RowsEq.ofT okI rfl (Shp_zero _) rfl | exact RowsEq.snoc okI rfl | exact RowsEq.self okI | exact RowsEq.self okRA | exact List.length_append | refine And.intro ?_ ?_))
  · intro I hI i
    conv in Fin.chk _ _ => cbv
    try simp only [Fin.satC_ret, Fin.satC_br, Fin.satC_need, Fin.satC_again, AllP, and_true, true_and, upd, List.length_nil, List.length_cons, Nat.zero_add, if_true, ncast, Int.ofNat_eq_natCast]
    obtain ⟨i, hi⟩ := i
    have hf := tcs_le i (alwP (belF a place))
    refine ⟨fun h4 => ⟨fun h5 => ⟨fun h6 => ⟨?_, ?_⟩, fun h6 => ?_⟩, fun h5 => ⟨fun h6 => ⟨?_, ?_⟩, fun h6 => ?_⟩⟩, fun h4 => ?_⟩
    · try simp only [hH, stdH, decide_eq_true_eq, decide_eq_false_iff_not, Bool.not_eq_true', Bool.not_eq_false', peta, ncast, Int.ofNat_eq_natCast, beq_iff_eq, bne_iff_ne, beq_eq_false_iff_ne, bne_eq_false_iff_eq, ne_eq, Classical.not_not, Int.toNat_natCast, vrow_I, Arm.eta2, Fld.eta, Grp.eta]
      refine ⟨trivial, by omega, by omega⟩
    simp only [hH, stdH, Int.toNat_natCast] at h5 h6
    · simp only [hH, stdH, decide_eq_true_eq, decide_eq_false_iff_not, Bool.not_eq_true', Bool.not_eq_false', peta, ncast, Int.ofNat_eq_natCast, beq_iff_eq, bne_iff_ne, beq_eq_false_iff_ne, bne_eq_false_iff_eq, ne_eq, Classical.not_not, Int.toNat_natCast, vrow_I, Arm.eta2, Fld.eta, Grp.eta] at h4
      refine ⟨⟨i + 1, by omega⟩, by simp only; omega, ?_⟩
      have h7 : alwP (belF a place) ((i : Int) + 1) = true := by rw [belP h5]; simpa using h6
      rw [hI]
      (conv in matchSt _ _ _ _ => cbv); simp only [AllG, AllP, and_true, hH, stdH, ncast, Int.ofNat_eq_natCast, vrow_I, Arm.eta2, Fld.eta, Grp.eta]
      rw [tcs_succ, show IntKind.i64.wrap ((i : Int) + 1 + 1) = ((i + 1 : Nat) : Int) + 1 by rw [wi] <;> omega]
      first | rw [if_pos h7] | (rw [if_neg (by rw [h7]; simp), List.append_nil])
      (repeat' (first | rfl | trivial | exact RowsEq.self okI | exact RowsEq.ofT okI rfl (Shp_zero _) rfl | exact RowsEq.snoc okI rfl | exact RowsEq.self okI | exact RowsEq.self okRA | exact List.length_append | refine And.intro ?_ ?_))
    simp only [hH, stdH, Int.toNat_natCast] at h5 h6
    · simp only [hH, stdH, decide_eq_true_eq, decide_eq_false_iff_not, Bool.not_eq_true', Bool.not_eq_false', peta, ncast, Int.ofNat_eq_natCast, beq_iff_eq, bne_iff_ne, beq_eq_false_iff_ne, bne_eq_false_iff_eq, ne_eq, Classical.not_not, Int.toNat_natCast, vrow_I, Arm.eta2, Fld.eta, Grp.eta] at h4
      refine ⟨⟨i + 1, by omega⟩, by simp only; omega, ?_⟩
      have h7 : alwP (belF a place) ((i : Int) + 1) = false := by rw [belP h5]; simpa using h6
      rw [hI]
      (conv in matchSt _ _ _ _ => cbv); simp only [AllG, AllP, and_true, hH, stdH, ncast, Int.ofNat_eq_natCast, vrow_I, Arm.eta2, Fld.eta, Grp.eta]
      rw [tcs_succ, show IntKind.i64.wrap ((i : Int) + 1 + 1) = ((i + 1 : Nat) : Int) + 1 by rw [wi] <;> omega]
      first | rw [if_pos h7] | (rw [if_neg (by rw [h7]; simp), List.append_nil])
      (repeat' (first | rfl | trivial | exact RowsEq.self okI | exact RowsEq.ofT okI rfl (Shp_zero _) rfl | exact RowsEq.snoc okI rfl | exact RowsEq.self okI | exact RowsEq.self okRA | exact List.length_append | refine And.intro ?_ ?_))
    · try simp only [hH, stdH, decide_eq_true_eq, decide_eq_false_iff_not, Bool.not_eq_true', Bool.not_eq_false', peta, ncast, Int.ofNat_eq_natCast, beq_iff_eq, bne_iff_ne, beq_eq_false_iff_ne, bne_eq_false_iff_eq, ne_eq, Classical.not_not, Int.toNat_natCast, vrow_I, Arm.eta2, Fld.eta, Grp.eta]
      refine ⟨trivial, by omega, by omega⟩
    simp only [hH, stdH, Int.toNat_natCast] at h5 h6
    · simp only [hH, stdH, decide_eq_true_eq, decide_eq_false_iff_not, Bool.not_eq_true', Bool.not_eq_false', peta, ncast, Int.ofNat_eq_natCast, beq_iff_eq, bne_iff_ne, beq_eq_false_iff_ne, bne_eq_false_iff_eq, ne_eq, Classical.not_not, Int.toNat_natCast, vrow_I, Arm.eta2, Fld.eta, Grp.eta] at h4
      refine ⟨⟨i + 1, by omega⟩, by simp only; omega, ?_⟩
      have h7 : alwP (belF a place) ((i : Int) + 1) = true := by rw [belN h5]; simpa using h6
      rw [hI]
      (conv in matchSt _ _ _ _ => cbv); simp only [AllG, AllP, and_true, hH, stdH, ncast, Int.ofNat_eq_natCast, vrow_I, Arm.eta2, Fld.eta, Grp.eta]
      rw [tcs_succ, show IntKind.i64.wrap ((i : Int) + 1 + 1) = ((i + 1 : Nat) : Int) + 1 by rw [wi] <;> omega]
      first | rw [if_pos h7] | (rw [if_neg (by rw [h7]; simp), List.append_nil])
      (repeat' (first | rfl | trivial | exact RowsEq.self okI | exact RowsEq.ofT okI rfl (Shp_zero _) rfl | exact RowsEq.snoc okI rfl | exact RowsEq.self okI | exact RowsEq.self okRA | exact List.length_append | refine And.intro ?_ ?_))
    simp only [hH, stdH, Int.toNat_natCast] at h5 h6
    · simp only [hH, stdH, decide_eq_true_eq, decide_eq_false_iff_not, Bool.not_eq_true', Bool.not_eq_false', peta, ncast, Int.ofNat_eq_natCast, beq_iff_eq, bne_iff_ne, beq_eq_false_iff_ne, bne_eq_false_iff_eq, ne_eq, Classical.not_not, Int.toNat_natCast, vrow_I, Arm.eta2, Fld.eta, Grp.eta] at h4
      refine ⟨⟨i + 1, by omega⟩, by simp only; omega, ?_⟩
      have h7 : alwP (belF a place) ((i : Int) + 1) = false := by rw [belN h5]; simpa using h6
      rw [hI]
      (conv in matchSt _ _ _ _ => cbv); simp only [AllG, AllP, and_true, hH, stdH, ncast, Int.ofNat_eq_natCast, vrow_I, Arm.eta2, Fld.eta, Grp.eta]
      rw [tcs_succ, show IntKind.i64.wrap ((i : Int) + 1 + 1) = ((i + 1 : Nat) : Int) + 1 by rw [wi] <;> omega]
      first | rw [if_pos h7] | (rw [if_neg (by rw [h7]; simp), List.append_nil])
      (repeat' (first | rfl | trivial | exact RowsEq.self okI | exact RowsEq.ofT okI rfl (Shp_zero _) rfl | exact RowsEq.snoc okI rfl | exact RowsEq.self okI | exact RowsEq.self okRA | exact List.length_append | refine And.intro ?_ ?_))
    · simp only [hH, stdH, decide_eq_true_eq, decide_eq_false_iff_not, Bool.not_eq_true', Bool.not_eq_false', peta, ncast, Int.ofNat_eq_natCast, beq_iff_eq, bne_iff_ne, beq_eq_false_iff_ne, bne_eq_false_iff_eq, ne_eq, Classical.not_not, Int.toNat_natCast, vrow_I, Arm.eta2, Fld.eta, Grp.eta] at h4 ⊢
      obtain rfl : i = 9 := by omega
      rw [e2]
      exact ⟨rfl, .self okI⟩
noncomputable def e_AllowedAtS : Entry := pureE 16 fun H a => match a with
  | [.agg [.lit (.int .i64 a0), .lit (.int .i64 a1), .lit (.int .i64 a2), .lit (.int .i64 a3), .lit (.int .i64 a4), .lit (.int .i64 a5), .lit (.int .i64 a6), .lit (.int .i64 a7), .lit (.int .i64 a8), .lit (.int .i64 a9), .lit (.int .i64 a10), .lit (.int .i64 a11), .lit (.int .i64 a12), .lit (.int .i64 a13), .lit (.int .i64 a14)], .lit (.int .i64 place)] => some (.tup [.vec 1 (H Nat fun _ => (if askA (⟨⟨a0, a1, a2, a3⟩, a4, a5, a6, ⟨a7, a8, a9, a10⟩, ⟨a11, a12, a13, a14⟩⟩ : Arm) place then (tcs 9).filter (alwP (belF (⟨⟨a0, a1, a2, a3⟩, a4, a5, a6, ⟨a7, a8, a9, a10⟩, ⟨a11, a12, a13, a14⟩⟩ : Arm) place)) else []).length) (rowsI H fun _ => if askA (⟨⟨a0, a1, a2, a3⟩, a4, a5, a6, ⟨a7, a8, a9, a10⟩, ⟨a11, a12, a13, a14⟩⟩ : Arm) place then (tcs 9).filter (alwP (belF (⟨⟨a0, a1, a2, a3⟩, a4, a5, a6, ⟨a7, a8, a9, a10⟩, ⟨a11, a12, a13, a14⟩⟩ : Arm) place)) else []), .lit (.bool (H Bool fun _ => askA (⟨⟨a0, a1, a2, a3⟩, a4, a5, a6, ⟨a7, a8, a9, a10⟩, ⟨a11, a12, a13, a14⟩⟩ : Arm) place))], [])
  | _ => none
theorem eok_AllowedAtS : EntryOk Try.prog e_AllowedAtS := pureM_ok (by unfold isBody; kernel_rfl) (by
  intro a r ob e hob
  split at e
  · rename_i a0 a1 a2 a3 a4 a5 a6 a7 a8 a9 a10 a11 a12 a13 a14 place
    simp only [Option.some.injEq, Prod.mk.injEq] at e
    obtain ⟨rfl, rfl⟩ := e
    exact ConN.args (.cons .rfl (.cons .rfl .nil)) (c_AllowedAtS (⟨⟨a0, a1, a2, a3⟩, a4, a5, a6, ⟨a7, a8, a9, a10⟩, ⟨a11, a12, a13, a14⟩⟩ : Arm) place )
  · simp at e)

end Go.Proofs.Ytocekpklffdjgaa.AM
