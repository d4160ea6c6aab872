/- Lemmas and contracts (Exa); conditions: none. -/
import Derived.Test.YtigkdbhcjjjjkaaK04
import Derived.Test.YtigkdbhcjjjjkaaK08
set_option linter.unusedVariables false
set_option linter.unusedSimpArgs false
set_option linter.unusedVariables false
set_option linter.unusedSimpArgs false
set_option maxRecDepth 100000
set_option maxHeartbeats 4000000
set_option cbv.maxSteps 3000000
namespace Go.Proofs.Ytigkdbhcjjjjkaa.AM
/- Copies, comparisons and marks of lists of arms; conditions: none. -/
theorem c_szArmsS (a : List Arm) (left : Int) (h0 : a.length ≤ 9223372036854775807) (h1 : 0 ≤ left ∧ left ≤ 1048576) : ConN Try.prog 15 [.vec 15 (stdH Nat fun _ => (a).length) (rowsA stdH fun _ => a), .lit (.int .i64 left)] [] 0 (.lit (.int .i64 (stdH Int fun _ => if left - a.length < 0 then -1 else left - a.length))) [] [] := by
  have hB : Base Try.prog (tabΓ []) tab := base_of tabOk (ents_nil)
  refine con_m (N := 12) hB (draw_ok hB mixed) Try.func15 rfl rfl (fun H => [.vec 15 (H Nat fun _ => (a).length) (rowsA H fun _ => a), .lit (.int .i64 left)]) (fun _ => []) 0 (fun H => .lit (.int .i64 (H Int fun _ => if left - a.length < 0 then -1 else left - a.length))) (fun H => []) (fun _ => []) 60 (by simp) (fun x hx => ?_) (by simp [lk]) (by omega) (by simp) ?_
  · simp only [List.mem_cons, List.not_mem_nil, or_false] at hx
    rcases hx with rfl | rfl
    · exact vl_bl okRA a _
    · exact .lit
  intro X hX hX0 H hH
  conv in Fin.chk _ _ => cbv
  try simp only [Plain_rowsA, Plain_rowsB, Plain_rowsF, Plain_rowsG, Plain_rowsI, Plain_rowsS, Plain_rowsU, Fin.satC_ret, Fin.satC_br, Fin.satC_need, Fin.satC_again, AllP, and_true, true_and, upd, List.length_nil, List.length_cons, Nat.zero_add, if_true, ncast, Int.ofNat_eq_natCast]
  subst hH
  simp only [stdH, ncast, Int.ofNat_eq_natCast, decide_eq_true_eq, decide_eq_false_iff_not]
  have e : IntKind.i64.wrap (left - (a.length : Int)) = left - (a.length : Int) := wi (by omega) (by omega)
  rw [e]
  exact ⟨fun h => by rw [if_pos h], fun h => by rw [if_neg h]⟩
noncomputable def e_szArmsS : Entry := pureE 15 fun H a => match a with
  | [.vec 15 an af, .lit (.int .i64 left)] => some (.lit (.int .i64 (H Int fun _ => if left - (Tl rowA an af).length < 0 then -1 else left - (Tl rowA an af).length)), [H Prop fun _ => Shp rowA an af, H Prop fun _ => (Tl rowA an af).length ≤ 9223372036854775807, H Prop fun _ => 0 ≤ left ∧ left ≤ 1048576])
  | _ => none
theorem eok_szArmsS : EntryOk Try.prog e_szArmsS := pureM_ok (by unfold isBody; kernel_rfl) (by
  intro a r ob e hob
  split at e
  · rename_i an af left
    simp only [Option.some.injEq, Prod.mk.injEq] at e
    obtain ⟨rfl, rfl⟩ := e
    exact ConN.args (.cons (.toT okRA rfl hob.1) (.cons .rfl .nil)) (c_szArmsS (Tl rowA an af) left hob.2.1 hob.2.2.1)
  · simp at e)
theorem c_toField (f : Fld)  : ConN Try.prog 74 [aT rowF stdH fun _ => f] [] 0 (aT rowF stdH fun _ => f) [] [] := by
  have hB : Base Try.prog (tabΓ []) tab := base_of tabOk (ents_nil)
  refine con_m (N := 17) hB (draw_ok hB mixed) Try.func74 rfl rfl (fun H => [aT rowF H fun _ => f]) (fun _ => []) 0 (fun H => aT rowF H fun _ => f) (fun H => []) (fun _ => []) 90 (by simp) (fun x hx => ?_) (by simp [lk]) (by omega) (by simp) ?_
  · simp only [List.mem_cons, List.not_mem_nil, or_false] at hx
    rcases hx with rfl
    · exact aT_bl okRF _ _
  intro X hX hX0 H hH
  conv in Fin.chk _ _ => cbv
  try simp only [Plain_rowsA, Plain_rowsB, Plain_rowsF, Plain_rowsG, Plain_rowsI, Plain_rowsS, Plain_rowsU, Fin.satC_ret, Fin.satC_br, Fin.satC_need, Fin.satC_again, AllP, and_true, true_and, upd, List.length_nil, List.length_cons, Nat.zero_add, if_true, ncast, Int.ofNat_eq_natCast]
  subst hH
  simp only [stdH]
  (repeat' (first | with_reducible exact True.intro | rfl | exact Nat.le_refl _ | exact RowsEq.self okI | exact RowsEq.self okRA | exact RowsEq.self okS | refine And.intro ?_ ?_ | trivial))
noncomputable def e_toField : Entry := pureE 74 fun H a => match a with
  | [.agg [.lit (.int .i64 f0), .lit (.int .i64 f1), .lit (.int .i64 f2), .lit (.int .i64 f3)]] => some (aT rowF H fun _ => (⟨f0, f1, f2, f3⟩ : Fld), [])
  | _ => none
theorem eok_toField : EntryOk Try.prog e_toField := pureM_ok (by unfold isBody; kernel_rfl) (by
  intro a r ob e hob
  split at e
  · rename_i f0 f1 f2 f3
    simp only [Option.some.injEq, Prod.mk.injEq] at e
    obtain ⟨rfl, rfl⟩ := e
    exact ConN.args (.cons .rfl .nil) (c_toField (⟨f0, f1, f2, f3⟩ : Fld) )
  · simp at e)
theorem c_toGroup (g : Grp)  : ConN Try.prog 75 [aT rowG stdH fun _ => g] [] 0 (aT rowG stdH fun _ => g) [] [] := by
  have hB : Base Try.prog (tabΓ []) tab := base_of tabOk (ents_nil)
  refine con_m (N := 17) hB (draw_ok hB mixed) Try.func75 rfl rfl (fun H => [aT rowG H fun _ => g]) (fun _ => []) 0 (fun H => aT rowG H fun _ => g) (fun H => []) (fun _ => []) 90 (by simp) (fun x hx => ?_) (by simp [lk]) (by omega) (by simp) ?_
  · simp only [List.mem_cons, List.not_mem_nil, or_false] at hx
    rcases hx with rfl
    · exact aT_bl okRG _ _
  intro X hX hX0 H hH
  conv in Fin.chk _ _ => cbv
  try simp only [Plain_rowsA, Plain_rowsB, Plain_rowsF, Plain_rowsG, Plain_rowsI, Plain_rowsS, Plain_rowsU, Fin.satC_ret, Fin.satC_br, Fin.satC_need, Fin.satC_again, AllP, and_true, true_and, upd, List.length_nil, List.length_cons, Nat.zero_add, if_true, ncast, Int.ofNat_eq_natCast]
  subst hH
  simp only [stdH]
  (repeat' (first | with_reducible exact True.intro | rfl | exact Nat.le_refl _ | exact RowsEq.self okI | exact RowsEq.self okRA | exact RowsEq.self okS | refine And.intro ?_ ?_ | trivial))
noncomputable def e_toGroup : Entry := pureE 75 fun H a => match a with
  | [.agg [.lit (.int .i64 g0), .lit (.int .i64 g1), .lit (.int .i64 g2), .lit (.int .i64 g3)]] => some (aT rowG H fun _ => (⟨g0, g1, g2, g3⟩ : Grp), [])
  | _ => none
theorem eok_toGroup : EntryOk Try.prog e_toGroup := pureM_ok (by unfold isBody; kernel_rfl) (by
  intro a r ob e hob
  split at e
  · rename_i g0 g1 g2 g3
    simp only [Option.some.injEq, Prod.mk.injEq] at e
    obtain ⟨rfl, rfl⟩ := e
    exact ConN.args (.cons .rfl .nil) (c_toGroup (⟨g0, g1, g2, g3⟩ : Grp) )
  · simp at e)
theorem c_toArms (a : Arm)  : ConN Try.prog 44 [aT rowA stdH fun _ => a] [] 0 (aT rowA stdH fun _ => a) [] [] := by
  have hB : Base Try.prog (tabΓ [e_toField, e_toGroup]) tab := base_of tabOk (ents_cons eok_toField <| ents_cons eok_toGroup <| ents_nil)
  refine con_m (N := 26) hB (draw_ok hB mixed) Try.func44 rfl rfl (fun H => [aT rowA H fun _ => a]) (fun _ => []) 0 (fun H => aT rowA H fun _ => a) (fun H => []) (fun _ => []) 120 (by simp) (fun x hx => ?_) (by simp [lk]) (by omega) (by simp) ?_
  · simp only [List.mem_cons, List.not_mem_nil, or_false] at hx
    rcases hx with rfl
    · exact aT_bl okRA _ _
  intro X hX hX0 H hH
  conv in Fin.chk _ _ => cbv
  try simp only [Plain_rowsA, Plain_rowsB, Plain_rowsF, Plain_rowsG, Plain_rowsI, Plain_rowsS, Plain_rowsU, Fin.satC_ret, Fin.satC_br, Fin.satC_need, Fin.satC_again, AllP, and_true, true_and, upd, List.length_nil, List.length_cons, Nat.zero_add, if_true, ncast, Int.ofNat_eq_natCast]
  subst hH
  simp only [stdH]
  (repeat' (first | with_reducible exact True.intro | rfl | exact Nat.le_refl _ | exact RowsEq.self okI | exact RowsEq.self okRA | exact RowsEq.self okS | refine And.intro ?_ ?_ | trivial))
noncomputable def e_toArms : Entry := pureE 44 fun H a => match a with
  | [.agg [.lit (.int .i64 a0), .lit (.int .i64 a1), .lit (.int .i64 a2), .lit (.int .i64 a3), .lit (.int .i64 a4), .lit (.int .i64 a5), .lit (.int .i64 a6), .lit (.int .i64 a7), .lit (.int .i64 a8), .lit (.int .i64 a9), .lit (.int .i64 a10), .lit (.int .i64 a11), .lit (.int .i64 a12), .lit (.int .i64 a13), .lit (.int .i64 a14)]] => some (aT rowA H fun _ => (⟨⟨a0, a1, a2, a3⟩, a4, a5, a6, ⟨a7, a8, a9, a10⟩, ⟨a11, a12, a13, a14⟩⟩ : Arm), [])
  | _ => none
theorem eok_toArms : EntryOk Try.prog e_toArms := pureM_ok (by unfold isBody; kernel_rfl) (by
  intro a r ob e hob
  split at e
  · rename_i a0 a1 a2 a3 a4 a5 a6 a7 a8 a9 a10 a11 a12 a13 a14
    simp only [Option.some.injEq, Prod.mk.injEq] at e
    obtain ⟨rfl, rfl⟩ := e
    exact ConN.args (.cons .rfl .nil) (c_toArms (⟨⟨a0, a1, a2, a3⟩, a4, a5, a6, ⟨a7, a8, a9, a10⟩, ⟨a11, a12, a13, a14⟩⟩ : Arm) )
  · simp at e)
theorem c_eqField (f : Fld) (g : Fld)  : ConN Try.prog 77 [aT rowF stdH fun _ => f, aT rowF stdH fun _ => g] [] 0 (.lit (.bool (stdH Bool fun _ => decide (f = g)))) [] [] := by
  have hB : Base Try.prog (tabΓ []) tab := base_of tabOk (ents_nil)
  refine con_m (N := 25) hB (draw_ok hB mixed) Try.func77 rfl rfl (fun H => [aT rowF H fun _ => f, aT rowF H fun _ => g]) (fun _ => []) 0 (fun H => .lit (.bool (H Bool fun _ => decide (f = g)))) (fun H => []) (fun _ => []) 120 (by simp) (fun x hx => ?_) (by simp [lk]) (by omega) (by simp) ?_
  · simp only [List.mem_cons, List.not_mem_nil, or_false] at hx
    rcases hx with rfl | rfl
    · exact aT_bl okRF _ _
    · exact aT_bl okRF _ _
  intro X hX hX0 H hH
  conv in Fin.chk _ _ => cbv
  try simp only [Plain_rowsA, Plain_rowsB, Plain_rowsF, Plain_rowsG, Plain_rowsI, Plain_rowsS, Plain_rowsU, Fin.satC_ret, Fin.satC_br, Fin.satC_need, Fin.satC_again, AllP, and_true, true_and, upd, List.length_nil, List.length_cons, Nat.zero_add, if_true, ncast, Int.ofNat_eq_natCast]
  subst hH
  simp only [stdH]
  obtain ⟨f0, f1, f2, f3⟩ := f
  obtain ⟨g0, g1, g2, g3⟩ := g
  by_cases h0 : f0 = g0 <;> by_cases h1 : f1 = g1 <;> by_cases h2 : f2 = g2 <;> by_cases h3 : f3 = g3 <;> simp [h0, h1, h2, h3]
noncomputable def e_eqField : Entry := pureE 77 fun H a => match a with
  | [.agg [.lit (.int .i64 f0), .lit (.int .i64 f1), .lit (.int .i64 f2), .lit (.int .i64 f3)], .agg [.lit (.int .i64 g0), .lit (.int .i64 g1), .lit (.int .i64 g2), .lit (.int .i64 g3)]] => some (.lit (.bool (H Bool fun _ => decide ((⟨f0, f1, f2, f3⟩ : Fld) = (⟨g0, g1, g2, g3⟩ : Fld)))), [])
  | _ => none
theorem eok_eqField : EntryOk Try.prog e_eqField := pureM_ok (by unfold isBody; kernel_rfl) (by
  intro a r ob e hob
  split at e
  · rename_i f0 f1 f2 f3 g0 g1 g2 g3
    simp only [Option.some.injEq, Prod.mk.injEq] at e
    obtain ⟨rfl, rfl⟩ := e
    exact ConN.args (.cons .rfl (.cons .rfl .nil)) (c_eqField (⟨f0, f1, f2, f3⟩ : Fld) (⟨g0, g1, g2, g3⟩ : Fld) )
  · simp at e)
theorem c_eqGroup (f : Grp) (g : Grp)  : ConN Try.prog 78 [aT rowG stdH fun _ => f, aT rowG stdH fun _ => g] [] 0 (.lit (.bool (stdH Bool fun _ => decide (f = g)))) [] [] := by
  have hB : Base Try.prog (tabΓ []) tab := base_of tabOk (ents_nil)
  refine con_m (N := 25) hB (draw_ok hB mixed) Try.func78 rfl rfl (fun H => [aT rowG H fun _ => f, aT rowG H fun _ => g]) (fun _ => []) 0 (fun H => .lit (.bool (H Bool fun _ => decide (f = g)))) (fun H => []) (fun _ => []) 120 (by simp) (fun x hx => ?_) (by simp [lk]) (by omega) (by simp) ?_
  · simp only [List.mem_cons, List.not_mem_nil, or_false] at hx
    rcases hx with rfl | rfl
    · exact aT_bl okRG _ _
    · exact aT_bl okRG _ _
  intro X hX hX0 H hH
  conv in Fin.chk _ _ => cbv
  try simp only [Plain_rowsA, Plain_rowsB, Plain_rowsF, Plain_rowsG, Plain_rowsI, Plain_rowsS, Plain_rowsU, Fin.satC_ret, Fin.satC_br, Fin.satC_need, Fin.satC_again, AllP, and_true, true_and, upd, List.length_nil, List.length_cons, Nat.zero_add, if_true, ncast, Int.ofNat_eq_natCast]
  subst hH
  simp only [stdH]
  obtain ⟨f0, f1, f2, f3⟩ := f
  obtain ⟨g0, g1, g2, g3⟩ := g
  by_cases h0 : f0 = g0 <;> by_cases h1 : f1 = g1 <;> by_cases h2 : f2 = g2 <;> by_cases h3 : f3 = g3 <;> simp [h0, h1, h2, h3]
noncomputable def e_eqGroup : Entry := pureE 78 fun H a => match a with
  | [.agg [.lit (.int .i64 f0), .lit (.int .i64 f1), .lit (.int .i64 f2), .lit (.int .i64 f3)], .agg [.lit (.int .i64 g0), .lit (.int .i64 g1), .lit (.int .i64 g2), .lit (.int .i64 g3)]] => some (.lit (.bool (H Bool fun _ => decide ((⟨f0, f1, f2, f3⟩ : Grp) = (⟨g0, g1, g2, g3⟩ : Grp)))), [])
  | _ => none
theorem eok_eqGroup : EntryOk Try.prog e_eqGroup := pureM_ok (by unfold isBody; kernel_rfl) (by
  intro a r ob e hob
  split at e
  · rename_i f0 f1 f2 f3 g0 g1 g2 g3
    simp only [Option.some.injEq, Prod.mk.injEq] at e
    obtain ⟨rfl, rfl⟩ := e
    exact ConN.args (.cons .rfl (.cons .rfl .nil)) (c_eqGroup (⟨f0, f1, f2, f3⟩ : Grp) (⟨g0, g1, g2, g3⟩ : Grp) )
  · simp at e)
theorem c_eqArms (f : Arm) (g : Arm)  : ConN Try.prog 48 [aT rowA stdH fun _ => f, aT rowA stdH fun _ => g] [] 0 (.lit (.bool (stdH Bool fun _ => decide (f = g)))) [] [] := by
  have hB : Base Try.prog (tabΓ [e_eqField, e_eqGroup]) tab := base_of tabOk (ents_cons eok_eqField <| ents_cons eok_eqGroup <| ents_nil)
  refine con_m (N := 38) hB (draw_ok hB mixed) Try.func48 rfl rfl (fun H => [aT rowA H fun _ => f, aT rowA H fun _ => g]) (fun _ => []) 0 (fun H => .lit (.bool (H Bool fun _ => decide (f = g)))) (fun H => []) (fun _ => []) 160 (by simp) (fun x hx => ?_) (by simp [lk]) (by omega) (by simp) ?_
  · simp only [List.mem_cons, List.not_mem_nil, or_false] at hx
    rcases hx with rfl | rfl
    · exact aT_bl okRA _ _
    · exact aT_bl okRA _ _
  intro X hX hX0 H hH
  conv in Fin.chk _ _ => cbv
  try simp only [Plain_rowsA, Plain_rowsB, Plain_rowsF, Plain_rowsG, Plain_rowsI, Plain_rowsS, Plain_rowsU, Fin.satC_ret, Fin.satC_br, Fin.satC_need, Fin.satC_again, AllP, and_true, true_and, upd, List.length_nil, List.length_cons, Nat.zero_add, if_true, ncast, Int.ofNat_eq_natCast]
  subst hH
  simp only [stdH, Arm.eta2, Fld.eta, Grp.eta]
  obtain ⟨f0, f1, f2, f3, f4, f5⟩ := f
  obtain ⟨g0, g1, g2, g3, g4, g5⟩ := g
  by_cases h0 : f0 = g0 <;> by_cases h1 : f1 = g1 <;> by_cases h2 : f2 = g2 <;> by_cases h3 : f3 = g3 <;> by_cases h4 : f4 = g4 <;> by_cases h5 : f5 = g5 <;> simp [h0, h1, h2, h3, h4, h5]
noncomputable def e_eqArms : Entry := pureE 48 fun H a => match a with
  | [.agg [.lit (.int .i64 f0), .lit (.int .i64 f1), .lit (.int .i64 f2), .lit (.int .i64 f3), .lit (.int .i64 f4), .lit (.int .i64 f5), .lit (.int .i64 f6), .lit (.int .i64 f7), .lit (.int .i64 f8), .lit (.int .i64 f9), .lit (.int .i64 f10), .lit (.int .i64 f11), .lit (.int .i64 f12), .lit (.int .i64 f13), .lit (.int .i64 f14)], .agg [.lit (.int .i64 g0), .lit (.int .i64 g1), .lit (.int .i64 g2), .lit (.int .i64 g3), .lit (.int .i64 g4), .lit (.int .i64 g5), .lit (.int .i64 g6), .lit (.int .i64 g7), .lit (.int .i64 g8), .lit (.int .i64 g9), .lit (.int .i64 g10), .lit (.int .i64 g11), .lit (.int .i64 g12), .lit (.int .i64 g13), .lit (.int .i64 g14)]] => some (.lit (.bool (H Bool fun _ => decide ((⟨⟨f0, f1, f2, f3⟩, f4, f5, f6, ⟨f7, f8, f9, f10⟩, ⟨f11, f12, f13, f14⟩⟩ : Arm) = (⟨⟨g0, g1, g2, g3⟩, g4, g5, g6, ⟨g7, g8, g9, g10⟩, ⟨g11, g12, g13, g14⟩⟩ : Arm)))), [])
  | _ => none
theorem eok_eqArms : EntryOk Try.prog e_eqArms := pureM_ok (by unfold isBody; kernel_rfl) (by
  intro a r ob e hob
  split at e
  · rename_i f0 f1 f2 f3 f4 f5 f6 f7 f8 f9 f10 f11 f12 f13 f14 g0 g1 g2 g3 g4 g5 g6 g7 g8 g9 g10 g11 g12 g13 g14
    simp only [Option.some.injEq, Prod.mk.injEq] at e
    obtain ⟨rfl, rfl⟩ := e
    exact ConN.args (.cons .rfl (.cons .rfl .nil)) (c_eqArms (⟨⟨f0, f1, f2, f3⟩, f4, f5, f6, ⟨f7, f8, f9, f10⟩, ⟨f11, f12, f13, f14⟩⟩ : Arm) (⟨⟨g0, g1, g2, g3⟩, g4, g5, g6, ⟨g7, g8, g9, g10⟩, ⟨g11, g12, g13, g14⟩⟩ : Arm) )
  · simp at e)
theorem list_ext_getD {α : Type} {a b : List α} (d : α) (h : a.length = b.length) (hj : ∀ j, j < a.length → a.getD j d = b.getD j d) : a = b := by
  refine List.ext_getElem h fun j h2 h3 => ?_
  have := hj j h2
  simpa [List.getD_eq_getElem?_getD, h2, h3] using this
theorem c_eqArmsS (a : List Arm) (b : List Arm) (h0 : a.length ≤ 100000000) : ConN Try.prog 20 [.vec 15 (stdH Nat fun _ => (a).length) (rowsA stdH fun _ => a), .vec 15 (stdH Nat fun _ => (b).length) (rowsA stdH fun _ => b)] [] 0 (.lit (.bool (stdH Bool fun _ => decide (a = b)))) [] [] := by
  have hB : Base Try.prog (tabΓ [e_eqArms]) tab := base_of tabOk (ents_cons eok_eqArms <| ents_nil)
  refine con_m (N := 27) hB (draw_ok hB mixed) Try.func20 rfl rfl (fun H => [.vec 15 (H Nat fun _ => (a).length) (rowsA H fun _ => a), .vec 15 (H Nat fun _ => (b).length) (rowsA H fun _ => b)]) (fun _ => []) 0 (fun H => .lit (.bool (H Bool fun _ => decide (a = b)))) (fun H => []) (fun _ => []) 100 (by simp) (fun x hx => ?_) (by simp [lk]) (by omega) (by simp) ?_
  · simp only [List.mem_cons, List.not_mem_nil, or_false] at hx
    rcases hx with rfl | rfl
    · exact vl_bl okRA a _
    · exact vl_bl okRA b _
  intro X hX hX0 H hH
  conv in Fin.chk _ _ => cbv
  try simp only [Plain_rowsA, Plain_rowsB, Plain_rowsF, Plain_rowsG, Plain_rowsI, Plain_rowsS, Plain_rowsU, Fin.satC_ret, Fin.satC_br, Fin.satC_need, Fin.satC_again, AllP, and_true, true_and, upd, List.length_nil, List.length_cons, Nat.zero_add, if_true, ncast, Int.ofNat_eq_natCast]
  refine ⟨fun h => ?_, fun h => ?_⟩
  · simp only [hH, stdH, Nat.le_refl, decide_eq_true_eq, decide_eq_false_iff_not, Bool.not_eq_true', Bool.not_eq_false', peta, ncast, Int.ofNat_eq_natCast, beq_iff_eq, bne_iff_ne, beq_eq_false_iff_ne, bne_eq_false_iff_eq, ne_eq, Classical.not_not, Int.toNat_natCast, vrow_I, Arm.eta2, Fld.eta, Grp.eta] at h ⊢
    rintro rfl; exact h rfl
  simp only [hH, stdH, Nat.le_refl, decide_eq_true_eq, decide_eq_false_iff_not, Bool.not_eq_true', Bool.not_eq_false', peta, ncast, Int.ofNat_eq_natCast, beq_iff_eq, bne_iff_ne, beq_eq_false_iff_ne, bne_eq_false_iff_eq, ne_eq, Classical.not_not, Int.toNat_natCast, vrow_I, Arm.eta2, Fld.eta, Grp.eta] at h
  refine loop_a hB (draw_ok hB mixed) hX hX0 hH false (ι := { i : Nat // i ≤ a.length ∧ ∀ j, j < i → a.getD j default = b.getD j default }) 100 (fun i => [.i (H Int fun _ => (i.1 : Nat))]) (fun i => a.length - i.1) (⟨0, by omega, by omega⟩) ?_ ?_
  · (conv in matchSt _ _ _ _ => cbv); simp only [AllG, AllP, and_true, hH, stdH, Nat.le_refl, ncast, Int.ofNat_eq_natCast, vrow_I, Arm.eta2, Fld.eta, Grp.eta]
    (repeat' (first | with_reducible exact True.intro | rfl | exact Nat.le_refl _ | exact RowsEq.self okRA | exact RowsEq.ofT okRA rfl (Shp_zero _) rfl | exact RowsEq.snoc okRA rfl | exact RowsEq.self okI | exact RowsEq.self okRA | exact List.length_append | refine And.intro ?_ ?_ | trivial))
  · intro I hI i
    conv in Fin.chk _ _ => cbv
    try simp only [Plain_rowsA, Plain_rowsB, Plain_rowsF, Plain_rowsG, Plain_rowsI, Plain_rowsS, Plain_rowsU, Fin.satC_ret, Fin.satC_br, Fin.satC_need, Fin.satC_again, AllP, and_true, true_and, upd, List.length_nil, List.length_cons, Nat.zero_add, if_true, ncast, Int.ofNat_eq_natCast]
    obtain ⟨i, hi, hj⟩ := i
    refine ⟨fun h1 => ⟨?_, ?_, fun h2 => ?_, fun h2 => ?_⟩, fun h1 => ?_⟩
    · simp only [hH, stdH, Nat.le_refl, decide_eq_true_eq, decide_eq_false_iff_not, Bool.not_eq_true', Bool.not_eq_false', peta, ncast, Int.ofNat_eq_natCast, beq_iff_eq, bne_iff_ne, beq_eq_false_iff_ne, bne_eq_false_iff_eq, ne_eq, Classical.not_not, Int.toNat_natCast, vrow_I, Arm.eta2, Fld.eta, Grp.eta] at h1 ⊢
      omega
    · simp only [hH, stdH, Nat.le_refl, decide_eq_true_eq, decide_eq_false_iff_not, Bool.not_eq_true', Bool.not_eq_false', peta, ncast, Int.ofNat_eq_natCast, beq_iff_eq, bne_iff_ne, beq_eq_false_iff_ne, bne_eq_false_iff_eq, ne_eq, Classical.not_not, Int.toNat_natCast, vrow_I, Arm.eta2, Fld.eta, Grp.eta] at h1 ⊢
      omega
    · simp only [hH, stdH, Nat.le_refl, decide_eq_true_eq, decide_eq_false_iff_not, Bool.not_eq_true', Bool.not_eq_false', peta, ncast, Int.ofNat_eq_natCast, beq_iff_eq, bne_iff_ne, beq_eq_false_iff_ne, bne_eq_false_iff_eq, ne_eq, Classical.not_not, Int.toNat_natCast, vrow_I, Arm.eta2, Fld.eta, Grp.eta] at h2 ⊢
      rintro rfl; exact h2 rfl
    · simp only [hH, stdH, Nat.le_refl, decide_eq_true_eq, decide_eq_false_iff_not, Bool.not_eq_true', Bool.not_eq_false', peta, ncast, Int.ofNat_eq_natCast, beq_iff_eq, bne_iff_ne, beq_eq_false_iff_ne, bne_eq_false_iff_eq, ne_eq, Classical.not_not, Int.toNat_natCast, vrow_I, Arm.eta2, Fld.eta, Grp.eta] at h1 h2
      refine ⟨⟨i + 1, by omega, fun j hj' => ?_⟩, by simp only; omega, ?_⟩
      · rcases Nat.lt_succ_iff_lt_or_eq.1 hj' with h | rfl
        · exact hj j h
        · exact h2
      · rw [hI]
        (conv in matchSt _ _ _ _ => cbv); simp only [AllG, AllP, and_true, hH, stdH, Nat.le_refl, ncast, Int.ofNat_eq_natCast, vrow_I, Arm.eta2, Fld.eta, Grp.eta]
        rw [w1 (by omega)]
        (repeat' (first | with_reducible exact True.intro | rfl | exact Nat.le_refl _ | exact RowsEq.self okRA | exact RowsEq.ofT okRA rfl (Shp_zero _) rfl | exact RowsEq.snoc okRA rfl | exact RowsEq.self okI | exact RowsEq.self okRA | exact List.length_append | refine And.intro ?_ ?_ | trivial))
    · simp only [hH, stdH, Nat.le_refl, decide_eq_true_eq, decide_eq_false_iff_not, Bool.not_eq_true', Bool.not_eq_false', peta, ncast, Int.ofNat_eq_natCast, beq_iff_eq, bne_iff_ne, beq_eq_false_iff_ne, bne_eq_false_iff_eq, ne_eq, Classical.not_not, Int.toNat_natCast, vrow_I, Arm.eta2, Fld.eta, Grp.eta] at h1 ⊢
      obtain rfl : i = a.length := by omega
      exact list_ext_getD default (by omega) hj
noncomputable def e_eqArmsS : Entry := pureE 20 fun H a => match a with
  | [.vec 15 an af, .vec 15 bn bf] => some (.lit (.bool (H Bool fun _ => decide ((Tl rowA an af) = (Tl rowA bn bf)))), [H Prop fun _ => Shp rowA an af, H Prop fun _ => Shp rowA bn bf, H Prop fun _ => (Tl rowA an af).length ≤ 100000000])
  | _ => none
theorem eok_eqArmsS : EntryOk Try.prog e_eqArmsS := pureM_ok (by unfold isBody; kernel_rfl) (by
  intro a r ob e hob
  split at e
  · rename_i an af bn bf
    simp only [Option.some.injEq, Prod.mk.injEq] at e
    obtain ⟨rfl, rfl⟩ := e
    exact ConN.args (.cons (.toT okRA rfl hob.1) (.cons (.toT okRA rfl hob.2.1) .nil)) (c_eqArmsS (Tl rowA an af) (Tl rowA bn bf) hob.2.2.1)
  · simp at e)
theorem RowsEq.zeros (n : Nat) {f : Nat → List AV} (hf : ∀ j, f j = rowA.cells stdH fun _ => default) : RowsEq 15 (List.replicate n (default : Arm)).length (rowsA stdH fun _ => List.replicate n default) n f :=
  .ofT okRA rfl ⟨fun j _ => by rw [hf j]; rfl⟩ (by
    refine List.ext_getElem (by simp [Tl]) fun i h1 h2 => ?_
    simp only [Tl, List.getElem_map, List.getElem_range, List.getElem_replicate, hf]; rfl)
theorem set_take {α : Type} {a : List α} {d : α} {i : Nat} (h : i < a.length) : (a.take i ++ List.replicate (a.length - i) d).set i (a.getD i d) = a.take (i + 1) ++ List.replicate (a.length - (i + 1)) d := by
  have e : a.length - i = (a.length - (i + 1)) + 1 := by omega
  rw [e, List.replicate_succ, List.set_append_right _ _ (by simp; omega), List.take_succ_eq_append_getElem h, List.append_assoc]
  simp [List.getD_eq_getElem?_getD, h, Nat.min_eq_left (Nat.le_of_lt h)]
theorem RowsEq.put {D : RowD Arm} (ok : RowOk D) {L : List Arm} {j : Nat} {x : Arm} {M : List Arm} (e : L.set j x = M) : RowsEq D.k M.length (rowsT D stdH fun _ => M) L.length (put1 j (D.cells stdH fun _ => x) (rowsT D stdH fun _ => L)) :=
  .ofT ok rfl (Shp_put1 (Shp_rowsT ok _ _) (by rw [ok.of_cells])) (by rw [Tl_put1, Tl_rowsT ok, ok.of_cells, e])
theorem c_toArmsS (a : List Arm) (h0 : a.length ≤ 1048576) : ConN Try.prog 17 [.vec 15 (stdH Nat fun _ => (a).length) (rowsA stdH fun _ => a)] [] 0 (.slc 0 0 15 (stdH Nat fun _ => (a).length)) [.rows 15 (stdH Nat fun _ => (a).length) (rowsA stdH fun _ => a) 43] [] := by
  have hB : Base Try.prog (tabΓ [e_toArms]) tabO := base_of tabOkO (ents_cons eok_toArms <| ents_nil)
  refine con_m (N := 23) hB (draw_ok hB mixed) Try.func17 rfl rfl (fun H => [.vec 15 (H Nat fun _ => (a).length) (rowsA H fun _ => a)]) (fun _ => []) 0 (fun H => .slc 0 0 15 (H Nat fun _ => (a).length)) (fun H => [.rows 15 (H Nat fun _ => (a).length) (rowsA H fun _ => a) 43]) (fun _ => []) 120 (by simp) (fun x hx => ?_) (by simp [lk]) (by omega) (by simp) ?_
  · simp only [List.mem_cons, List.not_mem_nil, or_false] at hx
    rcases hx with rfl
    · exact vl_bl okRA a _
  intro X hX hX0 H hH
  conv in Fin.chk _ _ => cbv
  try simp only [Plain_rowsA, Plain_rowsB, Plain_rowsF, Plain_rowsG, Plain_rowsI, Plain_rowsS, Plain_rowsU, Fin.satC_ret, Fin.satC_br, Fin.satC_need, Fin.satC_again, AllP, and_true, true_and, upd, List.length_nil, List.length_cons, Nat.zero_add, if_true, ncast, Int.ofNat_eq_natCast]
  refine ⟨?_, ?_⟩
  · try simp only [hH, stdH, Nat.le_refl, decide_eq_true_eq, decide_eq_false_iff_not, Bool.not_eq_true', Bool.not_eq_false', peta, ncast, Int.ofNat_eq_natCast, beq_iff_eq, bne_iff_ne, beq_eq_false_iff_ne, bne_eq_false_iff_eq, ne_eq, Classical.not_not, Int.toNat_natCast, vrow_I, Arm.eta2, Fld.eta, Grp.eta]
    omega
  refine loop_a hB (draw_ok hB mixed) hX hX0 hH false (ι := { i : Nat // i ≤ a.length }) 120 (fun i => [.r (H Nat fun _ => (a.take i.1 ++ List.replicate (a.length - i.1) default).length) (rowsA H fun _ => a.take i.1 ++ List.replicate (a.length - i.1) default), .i (H Int fun _ => (i.1 : Nat))]) (fun i => a.length - i.1) (⟨0, by omega⟩) ?_ ?_
  · (conv in matchSt _ _ _ _ => cbv); simp only [AllG, AllP, and_true, hH, stdH, Nat.le_refl, ncast, Int.ofNat_eq_natCast, vrow_I, Arm.eta2, Fld.eta, Grp.eta]
    simp only [List.take_zero, List.nil_append, Nat.sub_zero, Int.toNat_natCast]
    (repeat' (first | with_reducible exact True.intro | rfl | exact .self okRA | exact .zeros _ (fun j => rfl) | refine And.intro ?_ ?_ | trivial))
  · intro I hI i
    conv in Fin.chk _ _ => cbv
    try simp only [Plain_rowsA, Plain_rowsB, Plain_rowsF, Plain_rowsG, Plain_rowsI, Plain_rowsS, Plain_rowsU, Fin.satC_ret, Fin.satC_br, Fin.satC_need, Fin.satC_again, AllP, and_true, true_and, upd, List.length_nil, List.length_cons, Nat.zero_add, if_true, ncast, Int.ofNat_eq_natCast]
    obtain ⟨i, hi⟩ := i
    refine ⟨fun h1 => ⟨?_, ?_, ?_, ⟨⟨i + 1, ?_⟩, by simp only; simp only [hH, stdH, Nat.le_refl, decide_eq_true_eq, decide_eq_false_iff_not, Bool.not_eq_true', Bool.not_eq_false', peta, ncast, Int.ofNat_eq_natCast, beq_iff_eq, bne_iff_ne, beq_eq_false_iff_ne, bne_eq_false_iff_eq, ne_eq, Classical.not_not, Int.toNat_natCast, vrow_I, Arm.eta2, Fld.eta, Grp.eta] at h1; omega, ?_⟩⟩, fun h1 => ?_⟩
    · simp only [hH, stdH, Nat.le_refl, decide_eq_true_eq, decide_eq_false_iff_not, Bool.not_eq_true', Bool.not_eq_false', peta, ncast, Int.ofNat_eq_natCast, beq_iff_eq, bne_iff_ne, beq_eq_false_iff_ne, bne_eq_false_iff_eq, ne_eq, Classical.not_not, Int.toNat_natCast, vrow_I, Arm.eta2, Fld.eta, Grp.eta] at h1 ⊢
      omega
    · simp only [hH, stdH, Nat.le_refl, decide_eq_true_eq, decide_eq_false_iff_not, Bool.not_eq_true', Bool.not_eq_false', peta, ncast, Int.ofNat_eq_natCast, beq_iff_eq, bne_iff_ne, beq_eq_false_iff_ne, bne_eq_false_iff_eq, ne_eq, Classical.not_not, Int.toNat_natCast, vrow_I, Arm.eta2, Fld.eta, Grp.eta] at h1 ⊢
      omega
    · simp only [hH, stdH, Nat.le_refl, decide_eq_true_eq, decide_eq_false_iff_not, Bool.not_eq_true', Bool.not_eq_false', peta, ncast, Int.ofNat_eq_natCast, beq_iff_eq, bne_iff_ne, beq_eq_false_iff_ne, bne_eq_false_iff_eq, ne_eq, Classical.not_not, Int.toNat_natCast, vrow_I, Arm.eta2, Fld.eta, Grp.eta] at h1 ⊢
      simp only [List.length_append, List.length_take, List.length_replicate]
      exact ⟨by omega, rfl⟩
    · simp only [hH, stdH, Nat.le_refl, decide_eq_true_eq, decide_eq_false_iff_not, Bool.not_eq_true', Bool.not_eq_false', peta, ncast, Int.ofNat_eq_natCast, beq_iff_eq, bne_iff_ne, beq_eq_false_iff_ne, bne_eq_false_iff_eq, ne_eq, Classical.not_not, Int.toNat_natCast, vrow_I, Arm.eta2, Fld.eta, Grp.eta] at h1
      omega
    · simp only [hH, stdH, Nat.le_refl, decide_eq_true_eq, decide_eq_false_iff_not, Bool.not_eq_true', Bool.not_eq_false', peta, ncast, Int.ofNat_eq_natCast, beq_iff_eq, bne_iff_ne, beq_eq_false_iff_ne, bne_eq_false_iff_eq, ne_eq, Classical.not_not, Int.toNat_natCast, vrow_I, Arm.eta2, Fld.eta, Grp.eta] at h1
      rw [hI]
      (conv in matchSt _ _ _ _ => cbv); simp only [AllG, AllP, and_true, hH, stdH, Nat.le_refl, ncast, Int.ofNat_eq_natCast, vrow_I, Arm.eta2, Fld.eta, Grp.eta]
      have e2 : (List.take i a ++ List.replicate (a.length - i) (default : Arm)).length = a.length := by simp; omega
      rw [w1 (by omega)]
      simp only [Int.toNat_natCast]
      exact ⟨RowsEq.put okRA (set_take (d := default) (show i < a.length by omega)), by repeat' (first | with_reducible exact True.intro | rfl | exact .self okRA | refine And.intro ?_ ?_ | trivial)⟩
    · simp only [hH, stdH, Nat.le_refl, decide_eq_true_eq, decide_eq_false_iff_not, Bool.not_eq_true', Bool.not_eq_false', peta, ncast, Int.ofNat_eq_natCast, beq_iff_eq, bne_iff_ne, beq_eq_false_iff_ne, bne_eq_false_iff_eq, ne_eq, Classical.not_not, Int.toNat_natCast, vrow_I, Arm.eta2, Fld.eta, Grp.eta] at h1 ⊢
      obtain rfl : i = a.length := by omega
      simp only [List.take_length, Nat.sub_self, List.replicate_zero, List.append_nil, Int.toNat_natCast]
      exact ⟨.self okRA, trivial⟩
noncomputable def e_toArmsS : Entry := pureN 17 fun H a => match a with
  | [.vec 15 an af] => some (fun nx => .slc nx 0 15 (H Nat fun _ => ((Tl rowA an af)).length), [.rows 15 (H Nat fun _ => ((Tl rowA an af)).length) (rowsA H fun _ => (Tl rowA an af)) 43], [H Prop fun _ => Shp rowA an af, H Prop fun _ => (Tl rowA an af).length ≤ 1048576])
  | _ => none
theorem eok_toArmsS : EntryOk Try.prog e_toArmsS := pureN_ok (by unfold isBody; kernel_rfl) (by
  intro a r nb ob e hob
  split at e
  · rename_i an af
    simp only [Option.some.injEq, Prod.mk.injEq] at e
    obtain ⟨rfl, rfl, rfl⟩ := e
    refine ⟨ConN.args (.cons (.toT okRA rfl hob.1) .nil) (c_toArmsS (Tl rowA an af) hob.2.1), fun x hx => ?_, fun nx => ?_, fun b hb => ?_⟩
    · simp only [List.mem_cons, List.not_mem_nil, or_false] at hx
      rcases hx with rfl
      · exact (hob.1).bl okRA _
    · (first | exact .slc ⟨by omega, by simp⟩ (by omega) | (refine .tup rfl (fun c x y hx hy => ?_); rcases c with _ | _ | _ | c <;> simp at hx hy <;> (subst hx; subst hy; first | exact .slc ⟨by omega, by simp⟩ (by omega) | exact .pl .lit | exact .pl (blq_ok 4 rfl) | (refine .agg rfl (fun c x y hx hy => ?_); rcases c with _ | _ | _ | c <;> simp at hx hy <;> (subst hx; subst hy; first | exact .slc ⟨by omega, by simp⟩ (by omega) | exact .pl .lit | exact .pl (blq_ok 4 rfl))))) | (refine .agg rfl (fun c x y hx hy => ?_); rcases c with _ | _ | _ | c <;> simp at hx hy <;> (subst hx; subst hy; first | exact .slc ⟨by omega, by simp⟩ (by omega) | exact .pl .lit | exact .pl (blq_ok 4 rfl))))
    · simp only [List.mem_cons, List.not_mem_nil, or_false] at hb; subst hb; exact bT_bl okRA _ (fun _ => (Tl rowA an af)) _
  · simp at e)

end Go.Proofs.Ytigkdbhcjjjjkaa.AM

