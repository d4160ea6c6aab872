/- Lemmas and contracts (Exa); conditions: none. -/
import Derived.Test.YtgjjedpoclhkfaaGreatDoorK03
import Derived.Test.YtgjjedpoclhkfaaGreatDoorK08
set_option linter.unusedVariables false
set_option linter.unusedSimpArgs false
set_option maxRecDepth 100000
set_option maxHeartbeats 4000000
set_option cbv.maxSteps 3000000
namespace Go.Proofs.YtgjjedpoclhkfaaGreatDoor.AM
/- Copies, comparisons and marks of lists of arms; conditions: none. -/
theorem c_toField (f : Fld)  : ConN Tryz.prog 167 [aT rowF stdH fun _ => f] [] 0 (aT rowF stdH fun _ => f) [] [] := by
  have hB : Base Tryz.prog (tabΓ []) tab := base_of tabOk (ents_nil)
  refine con_m (N := 17) hB (draw_ok hB mixed) Tryz.func167 rfl rfl (fun H => [aT rowF H fun _ => f]) (fun _ => []) 0 (fun H => aT rowF H fun _ => f) (fun H => []) (fun _ => []) 90 (by simp) (fun x hx => ?_) (by simp [lk]) (by omega) (by simp) ?_
  · simp only [List.mem_cons, List.not_mem_nil, or_false] at hx
    rcases hx with rfl
    · exact aT_bl okRF _ _
  intro X hX hX0 H hH
  conv in Fin.chk _ _ => cbv
  try simp only [Plain_rowsA, Plain_rowsB, Plain_rowsF, Plain_rowsG, Plain_rowsI, Plain_rowsS, Plain_rowsU, Fin.satC_ret, Fin.satC_br, Fin.satC_need, Fin.satC_again, AllP, and_true, true_and, upd, List.length_nil, List.length_cons, Nat.zero_add, if_true, ncast, Int.ofNat_eq_natCast]
  subst hH
  simp only [stdH]
  (repeat' (first | with_reducible exact True.intro | rfl | exact RowsEq.self okI | exact RowsEq.self okRA | exact RowsEq.self okS | refine And.intro ?_ ?_ | trivial))
noncomputable def e_toField : Entry := pureE 167 fun H a => match a with
  | [.agg [.lit (.int .i64 f0), .lit (.int .i64 f1), .lit (.int .i64 f2), .lit (.int .i64 f3)]] => some (aT rowF H fun _ => (⟨f0, f1, f2, f3⟩ : Fld), [])
  | _ => none
theorem eok_toField : EntryOk Tryz.prog e_toField := pureM_ok (by unfold isBody; kernel_rfl) (by
  intro a r ob e hob
  split at e
  · rename_i f0 f1 f2 f3
    simp only [Option.some.injEq, Prod.mk.injEq] at e
    obtain ⟨rfl, rfl⟩ := e
    exact ConN.args (.cons .rfl .nil) (c_toField (⟨f0, f1, f2, f3⟩ : Fld) )
  · simp at e)
theorem c_toGroup (g : Grp)  : ConN Tryz.prog 168 [aT rowG stdH fun _ => g] [] 0 (aT rowG stdH fun _ => g) [] [] := by
  have hB : Base Tryz.prog (tabΓ []) tab := base_of tabOk (ents_nil)
  refine con_m (N := 17) hB (draw_ok hB mixed) Tryz.func168 rfl rfl (fun H => [aT rowG H fun _ => g]) (fun _ => []) 0 (fun H => aT rowG H fun _ => g) (fun H => []) (fun _ => []) 90 (by simp) (fun x hx => ?_) (by simp [lk]) (by omega) (by simp) ?_
  · simp only [List.mem_cons, List.not_mem_nil, or_false] at hx
    rcases hx with rfl
    · exact aT_bl okRG _ _
  intro X hX hX0 H hH
  conv in Fin.chk _ _ => cbv
  try simp only [Plain_rowsA, Plain_rowsB, Plain_rowsF, Plain_rowsG, Plain_rowsI, Plain_rowsS, Plain_rowsU, Fin.satC_ret, Fin.satC_br, Fin.satC_need, Fin.satC_again, AllP, and_true, true_and, upd, List.length_nil, List.length_cons, Nat.zero_add, if_true, ncast, Int.ofNat_eq_natCast]
  subst hH
  simp only [stdH]
  (repeat' (first | with_reducible exact True.intro | rfl | exact RowsEq.self okI | exact RowsEq.self okRA | exact RowsEq.self okS | refine And.intro ?_ ?_ | trivial))
noncomputable def e_toGroup : Entry := pureE 168 fun H a => match a with
  | [.agg [.lit (.int .i64 g0), .lit (.int .i64 g1), .lit (.int .i64 g2), .lit (.int .i64 g3)]] => some (aT rowG H fun _ => (⟨g0, g1, g2, g3⟩ : Grp), [])
  | _ => none
theorem eok_toGroup : EntryOk Tryz.prog e_toGroup := pureM_ok (by unfold isBody; kernel_rfl) (by
  intro a r ob e hob
  split at e
  · rename_i g0 g1 g2 g3
    simp only [Option.some.injEq, Prod.mk.injEq] at e
    obtain ⟨rfl, rfl⟩ := e
    exact ConN.args (.cons .rfl .nil) (c_toGroup (⟨g0, g1, g2, g3⟩ : Grp) )
  · simp at e)
theorem c_toArms (a : Arm)  : ConN Tryz.prog 108 [aT rowA stdH fun _ => a] [] 0 (aT rowA stdH fun _ => a) [] [] := by
  have hB : Base Tryz.prog (tabΓ [e_toField, e_toGroup]) tab := base_of tabOk (ents_cons eok_toField <| ents_cons eok_toGroup <| ents_nil)
  refine con_m (N := 26) hB (draw_ok hB mixed) Tryz.func108 rfl rfl (fun H => [aT rowA H fun _ => a]) (fun _ => []) 0 (fun H => aT rowA H fun _ => a) (fun H => []) (fun _ => []) 120 (by simp) (fun x hx => ?_) (by simp [lk]) (by omega) (by simp) ?_
  · simp only [List.mem_cons, List.not_mem_nil, or_false] at hx
    rcases hx with rfl
    · exact aT_bl okRA _ _
  intro X hX hX0 H hH
  conv in Fin.chk _ _ => cbv
  try simp only [Plain_rowsA, Plain_rowsB, Plain_rowsF, Plain_rowsG, Plain_rowsI, Plain_rowsS, Plain_rowsU, Fin.satC_ret, Fin.satC_br, Fin.satC_need, Fin.satC_again, AllP, and_true, true_and, upd, List.length_nil, List.length_cons, Nat.zero_add, if_true, ncast, Int.ofNat_eq_natCast]
  subst hH
  simp only [stdH]
  (repeat' (first | with_reducible exact True.intro | rfl | exact RowsEq.self okI | exact RowsEq.self okRA | exact RowsEq.self okS | refine And.intro ?_ ?_ | trivial))
noncomputable def e_toArms : Entry := pureE 108 fun H a => match a with
  | [.agg [.lit (.int .i64 a0), .lit (.int .i64 a1), .lit (.int .i64 a2), .lit (.int .i64 a3), .lit (.int .i64 a4), .lit (.int .i64 a5), .lit (.int .i64 a6), .lit (.int .i64 a7), .lit (.int .i64 a8), .lit (.int .i64 a9), .lit (.int .i64 a10), .lit (.int .i64 a11), .lit (.int .i64 a12), .lit (.int .i64 a13), .lit (.int .i64 a14)]] => some (aT rowA H fun _ => (⟨⟨a0, a1, a2, a3⟩, a4, a5, a6, ⟨a7, a8, a9, a10⟩, ⟨a11, a12, a13, a14⟩⟩ : Arm), [])
  | _ => none
theorem eok_toArms : EntryOk Tryz.prog e_toArms := pureM_ok (by unfold isBody; kernel_rfl) (by
  intro a r ob e hob
  split at e
  · rename_i a0 a1 a2 a3 a4 a5 a6 a7 a8 a9 a10 a11 a12 a13 a14
    simp only [Option.some.injEq, Prod.mk.injEq] at e
    obtain ⟨rfl, rfl⟩ := e
    exact ConN.args (.cons .rfl .nil) (c_toArms (⟨⟨a0, a1, a2, a3⟩, a4, a5, a6, ⟨a7, a8, a9, a10⟩, ⟨a11, a12, a13, a14⟩⟩ : Arm) )
  · simp at e)
theorem c_eqField (f : Fld) (g : Fld)  : ConN Tryz.prog 161 [aT rowF stdH fun _ => f, aT rowF stdH fun _ => g] [] 0 (.lit (.bool (stdH Bool fun _ => decide (f = g)))) [] [] := by
  have hB : Base Tryz.prog (tabΓ []) tab := base_of tabOk (ents_nil)
  refine con_m (N := 25) hB (draw_ok hB mixed) Tryz.func161 rfl rfl (fun H => [aT rowF H fun _ => f, aT rowF H fun _ => g]) (fun _ => []) 0 (fun H => .lit (.bool (H Bool fun _ => decide (f = g)))) (fun H => []) (fun _ => []) 120 (by simp) (fun x hx => ?_) (by simp [lk]) (by omega) (by simp) ?_
  · simp only [List.mem_cons, List.not_mem_nil, or_false] at hx
    rcases hx with rfl | rfl
    · exact aT_bl okRF _ _
    · exact aT_bl okRF _ _
  intro X hX hX0 H hH
  conv in Fin.chk _ _ => cbv
  try simp only [Plain_rowsA, Plain_rowsB, Plain_rowsF, Plain_rowsG, Plain_rowsI, Plain_rowsS, Plain_rowsU, Fin.satC_ret, Fin.satC_br, Fin.satC_need, Fin.satC_again, AllP, and_true, true_and, upd, List.length_nil, List.length_cons, Nat.zero_add, if_true, ncast, Int.ofNat_eq_natCast]
  subst hH
  simp only [stdH]
  obtain ⟨f0, f1, f2, f3⟩ := f
  obtain ⟨g0, g1, g2, g3⟩ := g
  by_cases h0 : f0 = g0 <;> by_cases h1 : f1 = g1 <;> by_cases h2 : f2 = g2 <;> by_cases h3 : f3 = g3 <;> simp [h0, h1, h2, h3]
noncomputable def e_eqField : Entry := pureE 161 fun H a => match a with
  | [.agg [.lit (.int .i64 f0), .lit (.int .i64 f1), .lit (.int .i64 f2), .lit (.int .i64 f3)], .agg [.lit (.int .i64 g0), .lit (.int .i64 g1), .lit (.int .i64 g2), .lit (.int .i64 g3)]] => some (.lit (.bool (H Bool fun _ => decide ((⟨f0, f1, f2, f3⟩ : Fld) = (⟨g0, g1, g2, g3⟩ : Fld)))), [])
  | _ => none
theorem eok_eqField : EntryOk Tryz.prog e_eqField := pureM_ok (by unfold isBody; kernel_rfl) (by
  intro a r ob e hob
  split at e
  · rename_i f0 f1 f2 f3 g0 g1 g2 g3
    simp only [Option.some.injEq, Prod.mk.injEq] at e
    obtain ⟨rfl, rfl⟩ := e
    exact ConN.args (.cons .rfl (.cons .rfl .nil)) (c_eqField (⟨f0, f1, f2, f3⟩ : Fld) (⟨g0, g1, g2, g3⟩ : Fld) )
  · simp at e)
theorem c_eqGroup (f : Grp) (g : Grp)  : ConN Tryz.prog 162 [aT rowG stdH fun _ => f, aT rowG stdH fun _ => g] [] 0 (.lit (.bool (stdH Bool fun _ => decide (f = g)))) [] [] := by
  have hB : Base Tryz.prog (tabΓ []) tab := base_of tabOk (ents_nil)
  refine con_m (N := 25) hB (draw_ok hB mixed) Tryz.func162 rfl rfl (fun H => [aT rowG H fun _ => f, aT rowG H fun _ => g]) (fun _ => []) 0 (fun H => .lit (.bool (H Bool fun _ => decide (f = g)))) (fun H => []) (fun _ => []) 120 (by simp) (fun x hx => ?_) (by simp [lk]) (by omega) (by simp) ?_
  · simp only [List.mem_cons, List.not_mem_nil, or_false] at hx
    rcases hx with rfl | rfl
    · exact aT_bl okRG _ _
    · exact aT_bl okRG _ _
  intro X hX hX0 H hH
  conv in Fin.chk _ _ => cbv
  try simp only [Plain_rowsA, Plain_rowsB, Plain_rowsF, Plain_rowsG, Plain_rowsI, Plain_rowsS, Plain_rowsU, Fin.satC_ret, Fin.satC_br, Fin.satC_need, Fin.satC_again, AllP, and_true, true_and, upd, List.length_nil, List.length_cons, Nat.zero_add, if_true, ncast, Int.ofNat_eq_natCast]
  subst hH
  simp only [stdH]
  obtain ⟨f0, f1, f2, f3⟩ := f
  obtain ⟨g0, g1, g2, g3⟩ := g
  by_cases h0 : f0 = g0 <;> by_cases h1 : f1 = g1 <;> by_cases h2 : f2 = g2 <;> by_cases h3 : f3 = g3 <;> simp [h0, h1, h2, h3]
noncomputable def e_eqGroup : Entry := pureE 162 fun H a => match a with
  | [.agg [.lit (.int .i64 f0), .lit (.int .i64 f1), .lit (.int .i64 f2), .lit (.int .i64 f3)], .agg [.lit (.int .i64 g0), .lit (.int .i64 g1), .lit (.int .i64 g2), .lit (.int .i64 g3)]] => some (.lit (.bool (H Bool fun _ => decide ((⟨f0, f1, f2, f3⟩ : Grp) = (⟨g0, g1, g2, g3⟩ : Grp)))), [])
  | _ => none
theorem eok_eqGroup : EntryOk Tryz.prog e_eqGroup := pureM_ok (by unfold isBody; kernel_rfl) (by
  intro a r ob e hob
  split at e
  · rename_i f0 f1 f2 f3 g0 g1 g2 g3
    simp only [Option.some.injEq, Prod.mk.injEq] at e
    obtain ⟨rfl, rfl⟩ := e
    exact ConN.args (.cons .rfl (.cons .rfl .nil)) (c_eqGroup (⟨f0, f1, f2, f3⟩ : Grp) (⟨g0, g1, g2, g3⟩ : Grp) )
  · simp at e)
theorem c_eqArms (f : Arm) (g : Arm)  : ConN Tryz.prog 99 [aT rowA stdH fun _ => f, aT rowA stdH fun _ => g] [] 0 (.lit (.bool (stdH Bool fun _ => decide (f = g)))) [] [] := by
  have hB : Base Tryz.prog (tabΓ [e_eqField, e_eqGroup]) tab := base_of tabOk (ents_cons eok_eqField <| ents_cons eok_eqGroup <| ents_nil)
  refine con_m (N := 38) hB (draw_ok hB mixed) Tryz.func99 rfl rfl (fun H => [aT rowA H fun _ => f, aT rowA H fun _ => g]) (fun _ => []) 0 (fun H => .lit (.bool (H Bool fun _ => decide (f = g)))) (fun H => []) (fun _ => []) 160 (by simp) (fun x hx => ?_) (by simp [lk]) (by omega) (by simp) ?_
  · simp only [List.mem_cons, List.not_mem_nil, or_false] at hx
    rcases hx with rfl | rfl
    · exact aT_bl okRA _ _
    · exact aT_bl okRA _ _
  intro X hX hX0 H hH
  conv in Fin.chk _ _ => cbv
  try simp only [Plain_rowsA, Plain_rowsB, Plain_rowsF, Plain_rowsG, Plain_rowsI, Plain_rowsS, Plain_rowsU, Fin.satC_ret, Fin.satC_br, Fin.satC_need, Fin.satC_again, AllP, and_true, true_and, upd, List.length_nil, List.length_cons, Nat.zero_add, if_true, ncast, Int.ofNat_eq_natCast]
  subst hH
  simp only [stdH, Arm.eta2, Fld.eta, Grp.eta]
  obtain ⟨f0, f1, f2, f3, f4, f5⟩ := f
  obtain ⟨g0, g1, g2, g3, g4, g5⟩ := g
  by_cases h0 : f0 = g0 <;> by_cases h1 : f1 = g1 <;> by_cases h2 : f2 = g2 <;> by_cases h3 : f3 = g3 <;> by_cases h4 : f4 = g4 <;> by_cases h5 : f5 = g5 <;> simp [h0, h1, h2, h3, h4, h5]
noncomputable def e_eqArms : Entry := pureE 99 fun H a => match a with
  | [.agg [.lit (.int .i64 f0), .lit (.int .i64 f1), .lit (.int .i64 f2), .lit (.int .i64 f3), .lit (.int .i64 f4), .lit (.int .i64 f5), .lit (.int .i64 f6), .lit (.int .i64 f7), .lit (.int .i64 f8), .lit (.int .i64 f9), .lit (.int .i64 f10), .lit (.int .i64 f11), .lit (.int .i64 f12), .lit (.int .i64 f13), .lit (.int .i64 f14)], .agg [.lit (.int .i64 g0), .lit (.int .i64 g1), .lit (.int .i64 g2), .lit (.int .i64 g3), .lit (.int .i64 g4), .lit (.int .i64 g5), .lit (.int .i64 g6), .lit (.int .i64 g7), .lit (.int .i64 g8), .lit (.int .i64 g9), .lit (.int .i64 g10), .lit (.int .i64 g11), .lit (.int .i64 g12), .lit (.int .i64 g13), .lit (.int .i64 g14)]] => some (.lit (.bool (H Bool fun _ => decide ((⟨⟨f0, f1, f2, f3⟩, f4, f5, f6, ⟨f7, f8, f9, f10⟩, ⟨f11, f12, f13, f14⟩⟩ : Arm) = (⟨⟨g0, g1, g2, g3⟩, g4, g5, g6, ⟨g7, g8, g9, g10⟩, ⟨g11, g12, g13, g14⟩⟩ : Arm)))), [])
  | _ => none
theorem eok_eqArms : EntryOk Tryz.prog e_eqArms := pureM_ok (by unfold isBody; kernel_rfl) (by
  intro a r ob e hob
  split at e
  · rename_i f0 f1 f2 f3 f4 f5 f6 f7 f8 f9 f10 f11 f12 f13 f14 g0 g1 g2 g3 g4 g5 g6 g7 g8 g9 g10 g11 g12 g13 g14
    simp only [Option.some.injEq, Prod.mk.injEq] at e
    obtain ⟨rfl, rfl⟩ := e
    exact ConN.args (.cons .rfl (.cons .rfl .nil)) (c_eqArms (⟨⟨f0, f1, f2, f3⟩, f4, f5, f6, ⟨f7, f8, f9, f10⟩, ⟨f11, f12, f13, f14⟩⟩ : Arm) (⟨⟨g0, g1, g2, g3⟩, g4, g5, g6, ⟨g7, g8, g9, g10⟩, ⟨g11, g12, g13, g14⟩⟩ : Arm) )
  · simp at e)
theorem list_ext_getD {α : Type} {a b : List α} (d : α) (h : a.length = b.length) (hj : ∀ j, j < a.length → a.getD j d = b.getD j d) : a = b := by
  refine List.ext_getElem h fun j h2 h3 => ?_
  have := hj j h2
  simpa [List.getD_eq_getElem?_getD, h2, h3] using this
theorem set_take {α : Type} {a : List α} {d : α} {i : Nat} (h : i < a.length) : (a.take i ++ List.replicate (a.length - i) d).set i (a.getD i d) = a.take (i + 1) ++ List.replicate (a.length - (i + 1)) d := by
  have e : a.length - i = (a.length - (i + 1)) + 1 := by omega
  rw [e, List.replicate_succ, List.set_append_right _ _ (by simp; omega), List.take_succ_eq_append_getElem h, List.append_assoc]
  simp [List.getD_eq_getElem?_getD, h, Nat.min_eq_left (Nat.le_of_lt h)]
theorem RowsEq.put {D : RowD Arm} (ok : RowOk D) {L : List Arm} {j : Nat} {x : Arm} {M : List Arm} (e : L.set j x = M) : RowsEq D.k M.length (rowsT D stdH fun _ => M) L.length (put1 j (D.cells stdH fun _ => x) (rowsT D stdH fun _ => L)) :=
  .ofT ok rfl (Shp_put1 (Shp_rowsT ok _ _) (by rw [ok.of_cells])) (by rw [Tl_put1, Tl_rowsT ok, ok.of_cells, e])

end Go.Proofs.YtgjjedpoclhkfaaGreatDoor.AM

