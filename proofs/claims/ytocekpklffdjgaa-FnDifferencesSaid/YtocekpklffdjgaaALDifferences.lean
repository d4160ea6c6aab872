import Derived.Test.YtocekpklffdjgaaAmT
import Derived.Test.YtocekpklffdjgaaDil
set_option linter.unusedVariables false
set_option linter.unusedSimpArgs false
set_option maxRecDepth 100000
set_option maxHeartbeats 4000000
set_option cbv.maxSteps 3000000
namespace Go.Proofs.Ytocekpklffdjgaa.AM
/- The law FnDifferences holds; conditions: none. -/
theorem c_vIntsN (a : List Int) (b : List Int) (h0 : a.length ≤ 1000000) : ConN Try.prog 34 [.vec 1 (stdH Nat fun _ => (a).length) (rowsI stdH fun _ => a), .vec 1 (stdH Nat fun _ => (b).length) (rowsI stdH fun _ => b)] [] 0 (.lit (.bool (stdH Bool fun _ => decide (a = b)))) [] [] := by
  have hB : Base Try.prog (tabΓ []) tab := base_of tabOk (ents_nil)
  refine con_m (N := 26) hB (draw_ok hB mixed) Try.func34 rfl rfl (fun H => [.vec 1 (H Nat fun _ => (a).length) (rowsI H fun _ => a), .vec 1 (H Nat fun _ => (b).length) (rowsI H fun _ => b)]) (fun _ => []) 0 (fun H => .lit (.bool (H Bool fun _ => decide (a = b)))) (fun H => []) (fun _ => []) 100 (by simp) (fun x hx => ?_) (by simp [lk]) (by omega) (by simp) ?_
  · simp only [List.mem_cons, List.not_mem_nil, or_false] at hx
    rcases hx with rfl | rfl
    · exact vl_bl okI a _
    · exact vl_bl okI b _
  intro X hX hX0 H hH
  conv in Fin.chk _ _ => cbv
  try simp only [Fin.satC_ret, Fin.satC_br, Fin.satC_need, Fin.satC_again, AllP, and_true, true_and, upd, List.length_nil, List.length_cons, Nat.zero_add, if_true, ncast, Int.ofNat_eq_natCast]
  refine ⟨fun h => ?_, fun h => ?_⟩
  · simp only [hH, stdH, decide_eq_true_eq, decide_eq_false_iff_not, Bool.not_eq_true', Bool.not_eq_false', peta, ncast, Int.ofNat_eq_natCast, beq_iff_eq, bne_iff_ne, beq_eq_false_iff_ne, bne_eq_false_iff_eq, ne_eq, Classical.not_not, Int.toNat_natCast] at h
    try simp only [hH, stdH, decide_eq_true_eq, decide_eq_false_iff_not, Bool.not_eq_true', Bool.not_eq_false', peta, ncast, Int.ofNat_eq_natCast, beq_iff_eq, bne_iff_ne, beq_eq_false_iff_ne, bne_eq_false_iff_eq, ne_eq, Classical.not_not, Int.toNat_natCast]
    rintro rfl; exact h rfl
  simp only [hH, stdH, decide_eq_true_eq, decide_eq_false_iff_not, Bool.not_eq_true', Bool.not_eq_false', peta, ncast, Int.ofNat_eq_natCast, beq_iff_eq, bne_iff_ne, beq_eq_false_iff_ne, bne_eq_false_iff_eq, ne_eq, Classical.not_not, Int.toNat_natCast] at h
  refine loop_a hB (draw_ok hB mixed) hX hX0 hH false (ι := { i : Nat // i ≤ a.length ∧ ∀ j, j < i → a.getD j 0 = b.getD j 0 }) 100 (fun i => [.i (H Int fun _ => (i.1 : Nat))]) (fun i => a.length - i.1) (⟨0, by omega, by omega⟩) ?_ ?_
  · (conv in matchSt _ _ _ _ => cbv); simp only [AllG, AllP, and_true, hH, stdH, ncast, Int.ofNat_eq_natCast]
    exact ⟨rfl, .self okI, .self okI⟩
  · intro I hI i
    conv in Fin.chk _ _ => cbv
    try simp only [Fin.satC_ret, Fin.satC_br, Fin.satC_need, Fin.satC_again, AllP, and_true, true_and, upd, List.length_nil, List.length_cons, Nat.zero_add, if_true, ncast, Int.ofNat_eq_natCast]
    obtain ⟨i, hi, hj⟩ := i
    refine ⟨fun h1 => ?_, fun h1 => ?_⟩
    · simp only [hH, stdH, decide_eq_true_eq, decide_eq_false_iff_not, Bool.not_eq_true', Bool.not_eq_false', peta, ncast, Int.ofNat_eq_natCast, beq_iff_eq, bne_iff_ne, beq_eq_false_iff_ne, bne_eq_false_iff_eq, ne_eq, Classical.not_not, Int.toNat_natCast] at h1
      refine ⟨?_, ?_, fun h2 => ?_, fun h2 => ?_⟩
      · (try simp only [hH, stdH, decide_eq_true_eq, decide_eq_false_iff_not, Bool.not_eq_true', Bool.not_eq_false', peta, ncast, Int.ofNat_eq_natCast, beq_iff_eq, bne_iff_ne, beq_eq_false_iff_ne, bne_eq_false_iff_eq, ne_eq, Classical.not_not, Int.toNat_natCast]); omega
      · (try simp only [hH, stdH, decide_eq_true_eq, decide_eq_false_iff_not, Bool.not_eq_true', Bool.not_eq_false', peta, ncast, Int.ofNat_eq_natCast, beq_iff_eq, bne_iff_ne, beq_eq_false_iff_ne, bne_eq_false_iff_eq, ne_eq, Classical.not_not, Int.toNat_natCast]); omega
      · simp only [hH, stdH, decide_eq_true_eq, decide_eq_false_iff_not, Bool.not_eq_true', Bool.not_eq_false', peta, ncast, Int.ofNat_eq_natCast, beq_iff_eq, bne_iff_ne, beq_eq_false_iff_ne, bne_eq_false_iff_eq, ne_eq, Classical.not_not, Int.toNat_natCast] at h2 ⊢
        rintro rfl; exact h2 rfl
      · simp only [hH, stdH, decide_eq_true_eq, decide_eq_false_iff_not, Bool.not_eq_true', Bool.not_eq_false', peta, ncast, Int.ofNat_eq_natCast, beq_iff_eq, bne_iff_ne, beq_eq_false_iff_ne, bne_eq_false_iff_eq, ne_eq, Classical.not_not, Int.toNat_natCast] at h2
        refine ⟨⟨i + 1, by omega, fun j hj' => ?_⟩, by simp only; omega, ?_⟩
        · rcases Nat.lt_succ_iff_lt_or_eq.1 hj' with h | rfl
          · exact hj j h
          · exact h2
        · rw [hI]
          (conv in matchSt _ _ _ _ => cbv); simp only [AllG, AllP, and_true, hH, stdH, ncast, Int.ofNat_eq_natCast]
          rw [w1 (by omega)]
          exact ⟨rfl, .self okI, .self okI⟩
    · simp only [hH, stdH, decide_eq_true_eq, decide_eq_false_iff_not, Bool.not_eq_true', Bool.not_eq_false', peta, ncast, Int.ofNat_eq_natCast, beq_iff_eq, bne_iff_ne, beq_eq_false_iff_ne, bne_eq_false_iff_eq, ne_eq, Classical.not_not, Int.toNat_natCast] at h1
      obtain rfl : i = a.length := by omega
      try simp only [hH, stdH, decide_eq_true_eq, decide_eq_false_iff_not, Bool.not_eq_true', Bool.not_eq_false', peta, ncast, Int.ofNat_eq_natCast, beq_iff_eq, bne_iff_ne, beq_eq_false_iff_ne, bne_eq_false_iff_eq, ne_eq, Classical.not_not, Int.toNat_natCast]
      refine List.ext_getElem (by omega) fun j h2 h3 => ?_
      have := hj j h2
      simpa [List.getD_eq_getElem?_getD, h2, h3] using this
noncomputable def e_vIntsN : Entry := pureE 34 fun H a => match a with
  | [.vec 1 an af, .vec 1 bn bf] => some (.lit (.bool (H Bool fun _ => decide ((Tl rowI an af) = (Tl rowI bn bf)))), [H Prop fun _ => Shp rowI an af, H Prop fun _ => Shp rowI bn bf, H Prop fun _ => (Tl rowI an af).length ≤ 1000000])
  | _ => none
theorem eok_vIntsN : EntryOk Try.prog e_vIntsN := pureM_ok (by unfold isBody; kernel_rfl) (by
  intro a r ob e hob
  split at e
  · rename_i an af bn bf
    simp only [Option.some.injEq, Prod.mk.injEq] at e
    obtain ⟨rfl, rfl⟩ := e
    exact ConN.args (.cons (.toT okI rfl hob.1) (.cons (.toT okI rfl hob.2.1) .nil)) (c_vIntsN (Tl rowI an af) (Tl rowI bn bf) hob.2.2.1)
  · simp at e)
theorem law_Differences (c : Cd) : Con Try.prog 4 [codeAV c] [] (.lit (.bool true)) [] := by
  have hB : Base Try.prog (tabΓ [e_vBig c, e_DrawArmsDifferences c, e_ArmsDifferences, e_ArmsDifferencesS, e_Conflict, e_DifferenceKinds, e_DifferenceKindsS, e_vIntsN]) tab := base_of tabOk (ents_cons (eok_vBig c) <| ents_cons (eok_DrawArmsDifferences c) <| ents_cons eok_ArmsDifferences <| ents_cons eok_ArmsDifferencesS <| ents_cons eok_Conflict <| ents_cons eok_DifferenceKinds <| ents_cons eok_DifferenceKindsS <| ents_cons eok_vIntsN <| ents_nil)
  refine con_eq (N := 122) hB (draw_ok hB mixed) Try.func4 rfl rfl _ _ 400 (by simp) (codeAV_bl c) .lit ?_
  intro H hH
  conv in finish _ _ _ _ _ _ _ _ => cbv
  subst hH
  simp only [Fin.sat1, stdH, Option.some.injEq, AV.lit.injEq, Value.bool.injEq, AllP, and_true, true_and, Arm.eta, Tl_I]
  generalize F_DrawArmsDifferences c = y at *
  obtain ⟨a, b⟩ := y
  dsimp only at *
  refine ⟨fun _ => trivial, fun _ => ?_⟩
  have hs : (okA b && okA a) = (okA a && okA b) := Bool.and_comm _ _
  rw [hs, eqAE]
  cases hk : (okA a && okA b) with
  | false => simp [Shp_zero]
  | true =>
    simp only [Bool.and_eq_true] at hk
    obtain ⟨k1, k2, k3⟩ := kds_len hk.1 hk.2
    rw [dI_dS hk.1 hk.2, dI_dS hk.2 hk.1, dS_sym b a]
    have e : decide (a = b) = decide (dS a b = 0) := by
      rw [Bool.eq_iff_iff, decide_eq_true_eq, decide_eq_true_eq]; exact k3.symm
    rw [e]
    have hl : (kdsI a b).length ≤ 6 := by
      unfold kdsI
      have h0 : ([] : List Int).length = 0 := rfl
      have h1 := nt_len (!eqF a.f b.f) 1 []
      have h2 := nt_len (!decide (a.o = b.o)) 2 (nt (!eqF a.f b.f) 1 [])
      have h3 := nt_len (decide (a.o = b.o) && !decide (a.l = b.l)) 3 (nt (!decide (a.o = b.o)) 2 (nt (!eqF a.f b.f) 1 []))
      have h4 := nt_len (decide (a.o = b.o) && !decide (a.t = b.t)) 4 (nt (decide (a.o = b.o) && !decide (a.l = b.l)) 3 (nt (!decide (a.o = b.o)) 2 (nt (!eqF a.f b.f) 1 [])))
      have h5 := nt_len (!eqG a.n b.n) 5 (nt (decide (a.o = b.o) && !decide (a.t = b.t)) 4 (nt (decide (a.o = b.o) && !decide (a.l = b.l)) 3 (nt (!decide (a.o = b.o)) 2 (nt (!eqF a.f b.f) 1 []))))
      have h6 := nt_len (!eqG a.r b.r) 6 (nt (!eqG a.n b.n) 5 (nt (decide (a.o = b.o) && !decide (a.t = b.t)) 4 (nt (decide (a.o = b.o) && !decide (a.l = b.l)) 3 (nt (!decide (a.o = b.o)) 2 (nt (!eqF a.f b.f) 1 [])))))
      omega
    have hsh := Shp_I (kdsI a b).length (kdsI a b)
    have hn : (((kdsI a b).length : Int) == 0) = decide (dS a b = 0) := by
      rw [Bool.eq_iff_iff, beq_iff_eq, decide_eq_true_eq, ← k2]; omega
    simp [hsh, hn, k1, beqd]
    omega

end Go.Proofs.Ytocekpklffdjgaa.AM
