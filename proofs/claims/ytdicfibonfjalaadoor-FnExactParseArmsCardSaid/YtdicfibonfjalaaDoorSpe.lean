import Derived.Test.YtdicfibonfjalaaDoorAmT
import Derived.Test.YtdicfibonfjalaaDoorSpd
import Derived.Test.YtdicfibonfjalaaDoorExa
set_option linter.unusedVariables false
set_option linter.unusedSimpArgs false
set_option maxRecDepth 100000
set_option maxHeartbeats 4000000
set_option cbv.maxSteps 3000000
namespace Go.Proofs.YtdicfibonfjalaaDoor.AM
/- Arms parsed by both; conditions: none. -/
theorem r6_some {s : ByteArray} {a : Arm} (h : pA s = some a) : r6 s = a := by
  by_cases q : early s
  · obtain ⟨q1, q2, q3, q4⟩ := q
    cases hf : pF (cutB s comB).1 with
    | none => rw [hf] at q2; cases q2
    | some f =>
      cases hg : pG (cutB s comB).2.1 with
      | none => rw [hg] at q4; cases q4
      | some g =>
        rw [r6_early q1 hf q3 hg]
        rw [pA_early hf q3 hg] at h
        split at h
        · injection h
        · cases h
  · rw [r6_late q, h]; rfl
theorem c_parseAS (s : ByteArray) (h0 : s.size ≤ 1100000) : ConN Tryd.prog 33 [.lit (.string s)] [] 0 (.tup [aT rowA stdH fun _ => (pA s).getD zA, .lit (.bool (stdH Bool fun _ => (pA s).isSome))]) [] [] := by
  have hB : Base Tryd.prog (tabΓ [e_l6Parse]) tab := base_of tabOk (ents_cons eok_l6Parse <| ents_nil)
  refine con_m (N := 15) hB (draw_ok hB mixed) Tryd.func33 rfl rfl (fun H => [.lit (.string s)]) (fun _ => []) 0 (fun H => .tup [aT rowA H fun _ => (pA s).getD zA, .lit (.bool (H Bool fun _ => (pA s).isSome))]) (fun H => []) (fun _ => []) 200 (by simp) (fun x hx => ?_) (by simp [lk]) (by omega) (by simp) ?_
  · simp only [List.mem_cons, List.not_mem_nil, or_false] at hx
    rcases hx with rfl
    · exact .lit
  intro X hX hX0 H hH
  conv in Fin.chk _ _ => cbv
  try simp only [Plain_rowsA, Plain_rowsB, Plain_rowsC, Plain_rowsF, Plain_rowsG, Plain_rowsI, Plain_rowsS, Plain_rowsU, Fin.satC_ret, Fin.satC_br, Fin.satC_need, Fin.satC_again, AllP, and_true, true_and, upd, List.length_nil, List.length_cons, Nat.zero_add, if_true, ncast, Int.ofNat_eq_natCast]
  subst hH
  simp only [stdH, Arm.eta2, Fld.eta, Grp.eta]
  cases h : pA s with
  | none =>
    refine ⟨h0, fun _ => ?_, fun hh => by simp at hh⟩
    (repeat' (first | rfl | refine And.intro ?_ ?_))
  | some a =>
    refine ⟨h0, fun hh => by simp at hh, fun _ => ?_⟩
    rw [r6_some h]
    (repeat' (first | rfl | refine And.intro ?_ ?_))
noncomputable def e_parseAS : Entry := pureE 33 fun H a => match a with
  | [.lit (.string s)] => some (.tup [aT rowA H fun _ => (pA s).getD zA, .lit (.bool (H Bool fun _ => (pA s).isSome))], [H Prop fun _ => s.size ≤ 1100000])
  | _ => none
theorem eok_parseAS : EntryOk Tryd.prog e_parseAS := pureM_ok (by unfold isBody; kernel_rfl) (by
  intro a r ob e hob
  split at e
  · rename_i s
    simp only [Option.some.injEq, Prod.mk.injEq] at e
    obtain ⟨rfl, rfl⟩ := e
    exact ConN.args (.cons .rfl .nil) (c_parseAS s hob.1)
  · simp at e)
theorem c_lawParseArms (s : ByteArray)  : ConN Tryd.prog 5 [.lit (.string s)] [] 0 (.lit (.bool (stdH Bool fun _ => true))) [] [] := by
  have hB : Base Tryd.prog (tabΓ [e_parseA, e_parseAS, e_eqArms]) tab := base_of tabOk (ents_cons eok_parseA <| ents_cons eok_parseAS <| ents_cons eok_eqArms <| ents_nil)
  refine con_m (N := 29) hB (draw_ok hB mixed) Tryd.func5 rfl rfl (fun H => [.lit (.string s)]) (fun _ => []) 0 (fun H => .lit (.bool (H Bool fun _ => true))) (fun H => []) (fun _ => []) 200 (by simp) (fun x hx => ?_) (by simp [lk]) (by omega) (by simp) ?_
  · simp only [List.mem_cons, List.not_mem_nil, or_false] at hx
    rcases hx with rfl
    · exact .lit
  intro X hX hX0 H hH
  conv in Fin.chk _ _ => cbv
  try simp only [Plain_rowsA, Plain_rowsB, Plain_rowsC, Plain_rowsF, Plain_rowsG, Plain_rowsI, Plain_rowsS, Plain_rowsU, Fin.satC_ret, Fin.satC_br, Fin.satC_need, Fin.satC_again, AllP, and_true, true_and, upd, List.length_nil, List.length_cons, Nat.zero_add, if_true, ncast, Int.ofNat_eq_natCast]
  subst hH
  simp only [stdH, Arm.eta2, Fld.eta, Grp.eta, decide_eq_false_iff_not]
  refine ⟨fun _ => trivial, fun h => ⟨by omega, by omega, fun h2 => ?_, fun _ => trivial⟩⟩
  simp at h2
noncomputable def e_lawParseArms : Entry := pureE 5 fun H a => match a with
  | [.lit (.string s)] => some (.lit (.bool (H Bool fun _ => true)), [])
  | _ => none
theorem eok_lawParseArms : EntryOk Tryd.prog e_lawParseArms := pureM_ok (by unfold isBody; kernel_rfl) (by
  intro a r ob e hob
  split at e
  · rename_i s
    simp only [Option.some.injEq, Prod.mk.injEq] at e
    obtain ⟨rfl, rfl⟩ := e
    exact ConN.args (.cons .rfl .nil) (c_lawParseArms s )
  · simp at e)
theorem law_ParseArms (s : ByteArray) : ConN Tryd.prog 5 [.lit (.string s)] [] 0 (.lit (.bool true)) [] [] := c_lawParseArms s

end Go.Proofs.YtdicfibonfjalaaDoor.AM
