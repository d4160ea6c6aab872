/- Lemmas and contracts (Rbs); conditions: none. -/
import Derived.Test.YtpilblmncpeelaaK04
import Derived.Test.YtpilblmncpeelaaK16
import Derived.Test.YtpilblmncpeelaaK17
set_option linter.unusedVariables false
set_option linter.unusedSimpArgs false
set_option linter.unusedVariables false
set_option linter.unusedSimpArgs false
set_option maxRecDepth 100000
set_option maxHeartbeats 4000000
set_option cbv.maxSteps 3000000
namespace Go.Proofs.Ytpilblmncpeelaa.AM
/- Regions that are drawn: cells; conditions: none. -/
def dnW (x y : Int) : Int := IntKind.i64.wrap (IntKind.i64.wrap (24 * IntKind.i64.wrap (IntKind.i64.wrap (2 * x) + 1)) - IntKind.i64.wrap (20 * IntKind.i64.wrap (IntKind.i64.wrap (2 * y) + 1)))
def abW (x : Int) : Int := max x (IntKind.i64.wrap (0 - x))
theorem c_l9Down (x : Int) (y : Int)  : ConN Try.prog 101 [.lit (.int .i64 x), .lit (.int .i64 y)] [] 0 (.lit (.int .i64 (stdH Int fun _ => dnW x y))) [] [] := by
  have hB : Base Try.prog (tabΓ []) tab := base_of tabOk (ents_nil)
  refine con_m (N := 14) hB (draw_ok hB mixed) Try.func101 rfl rfl (fun H => [.lit (.int .i64 x), .lit (.int .i64 y)]) (fun _ => []) 0 (fun H => .lit (.int .i64 (H Int fun _ => dnW x y))) (fun H => []) (fun _ => []) 100 (by simp) (fun x hx => ?_) (by simp [lk]) (by omega) (by simp) ?_
  · simp only [List.mem_cons, List.not_mem_nil, or_false] at hx
    rcases hx with rfl | rfl
    · exact .lit
    · exact .lit
  intro X hX hX0 H hH
  conv in Fin.chk _ _ => cbv
  try simp only [Plain_rowsA, Plain_rowsB, Plain_rowsF, Plain_rowsG, Plain_rowsI, Plain_rowsQ, Plain_rowsS, Plain_rowsU, Fin.satC_ret, Fin.satC_br, Fin.satC_need, Fin.satC_again, AllP, and_true, true_and, upd, List.length_nil, List.length_cons, Nat.zero_add, if_true, ncast, Int.ofNat_eq_natCast]
  subst hH
  simp only [stdH]
  rfl
noncomputable def e_l9Down : Entry := pureE 101 fun H a => match a with
  | [.lit (.int .i64 x), .lit (.int .i64 y)] => some (.lit (.int .i64 (H Int fun _ => dnW x y)), [])
  | _ => none
theorem eok_l9Down : EntryOk Try.prog e_l9Down := pureM_ok (by unfold isBody; kernel_rfl) (by
  intro a r ob e hob
  split at e
  · rename_i x y
    simp only [Option.some.injEq, Prod.mk.injEq] at e
    obtain ⟨rfl, rfl⟩ := e
    exact ConN.args (.cons .rfl (.cons .rfl .nil)) (c_l9Down x y )
  · simp at e)
theorem c_l9Abs (x : Int)  : ConN Try.prog 94 [.lit (.int .i64 x)] [] 0 (.lit (.int .i64 (stdH Int fun _ => abW x))) [] [] := by
  have hB : Base Try.prog (tabΓ [e_l1Most]) tab := base_of tabOk (ents_cons eok_l1Most <| ents_nil)
  refine con_m (N := 7) hB (draw_ok hB mixed) Try.func94 rfl rfl (fun H => [.lit (.int .i64 x)]) (fun _ => []) 0 (fun H => .lit (.int .i64 (H Int fun _ => abW x))) (fun H => []) (fun _ => []) 100 (by simp) (fun x hx => ?_) (by simp [lk]) (by omega) (by simp) ?_
  · simp only [List.mem_cons, List.not_mem_nil, or_false] at hx
    rcases hx with rfl
    · exact .lit
  intro X hX hX0 H hH
  conv in Fin.chk _ _ => cbv
  try simp only [Plain_rowsA, Plain_rowsB, Plain_rowsF, Plain_rowsG, Plain_rowsI, Plain_rowsQ, Plain_rowsS, Plain_rowsU, Fin.satC_ret, Fin.satC_br, Fin.satC_need, Fin.satC_again, AllP, and_true, true_and, upd, List.length_nil, List.length_cons, Nat.zero_add, if_true, ncast, Int.ofNat_eq_natCast]
  subst hH
  simp only [stdH]
  rfl
noncomputable def e_l9Abs : Entry := pureE 94 fun H a => match a with
  | [.lit (.int .i64 x)] => some (.lit (.int .i64 (H Int fun _ => abW x)), [])
  | _ => none
theorem eok_l9Abs : EntryOk Try.prog e_l9Abs := pureM_ok (by unfold isBody; kernel_rfl) (by
  intro a r ob e hob
  split at e
  · rename_i x
    simp only [Option.some.injEq, Prod.mk.injEq] at e
    obtain ⟨rfl, rfl⟩ := e
    exact ConN.args (.cons .rfl .nil) (c_l9Abs x )
  · simp at e)
/-- The part of a cell, by the reference. -/
def ptB (d x y : Int) : Bool := bif d == 1 then decide (x < 10) else bif d == 2 then decide (y < 12) else bif d == 3 then decide (0 < dnW x y) else bif d == 4 then decide (x < 10) == decide (y < 12) else bif d == 5 then decide (0 < dnW x y) == decide (0 < dnW (IntKind.i64.wrap (19 - x)) y) else bif d == 6 then (IntKind.i64.wrap ((IntKind.i64.wrap (6 * x)).tdiv 20)).tmod 2 == 0 else bif d == 7 then (IntKind.i64.wrap (y.tdiv 4)).tmod 2 == 0 else true
def ptI (d x y : Int) : Int := bif ptB d x y then 0 else 1
def ordB (o x y : Int) : Bool := bif o == 1 then inB x 7 12 else bif o == 2 then inB y 8 15 else bif o == 3 then decide (abW (dnW x y) ≤ 160) else bif o == 4 then inB (IntKind.i64.wrap (IntKind.i64.wrap (IntKind.i64.wrap (2 * y) + 1) - abW (IntKind.i64.wrap (IntKind.i64.wrap (2 * x) - 19)))) 11 22 else bif o == 5 then (bif inB x 8 11 then true else inB y 10 13) else bif o == 6 then (bif decide (abW (dnW x y) ≤ 120) then true else decide (abW (dnW (IntKind.i64.wrap (19 - x)) y) ≤ 120)) else bif o == 7 then decide (y < 8) else false
theorem c_l9Part (d : Int) (x : Int) (y : Int)  : ConN Try.prog 99 [.lit (.int .i64 d), .lit (.int .i64 x), .lit (.int .i64 y)] [] 0 (.lit (.int .i64 (stdH Int fun _ => ptI d x y))) [] [] := by
  have hB : Base Try.prog (tabΓ [e_l9Down]) tab := base_of tabOk (ents_cons eok_l9Down <| ents_nil)
  refine con_m (N := 56) hB (draw_ok hB mixed) Try.func99 rfl rfl (fun H => [.lit (.int .i64 d), .lit (.int .i64 x), .lit (.int .i64 y)]) (fun _ => []) 0 (fun H => .lit (.int .i64 (H Int fun _ => ptI d x y))) (fun H => []) (fun _ => []) 300 (by simp) (fun x hx => ?_) (by simp [lk]) (by omega) (by simp) ?_
  · simp only [List.mem_cons, List.not_mem_nil, or_false] at hx
    rcases hx with rfl | rfl | rfl
    · exact .lit
    · exact .lit
    · exact .lit
  intro X hX hX0 H hH
  conv in Fin.chk _ _ => cbv
  try simp only [Plain_rowsA, Plain_rowsB, Plain_rowsF, Plain_rowsG, Plain_rowsI, Plain_rowsQ, Plain_rowsS, Plain_rowsU, Fin.satC_ret, Fin.satC_br, Fin.satC_need, Fin.satC_again, AllP, and_true, true_and, upd, List.length_nil, List.length_cons, Nat.zero_add, if_true, ncast, Int.ofNat_eq_natCast]
  subst hH
  simp only [stdH]
  unfold ptI ptB
  (repeat' (with_reducible first | refine And.intro ?_ ?_ | intro hh))
  all_goals first | exact trivial | decide | (simp only [*, cond_true, cond_false]; done) | skip
noncomputable def e_l9Part : Entry := pureE 99 fun H a => match a with
  | [.lit (.int .i64 d), .lit (.int .i64 x), .lit (.int .i64 y)] => some (.lit (.int .i64 (H Int fun _ => ptI d x y)), [])
  | _ => none
theorem eok_l9Part : EntryOk Try.prog e_l9Part := pureM_ok (by unfold isBody; kernel_rfl) (by
  intro a r ob e hob
  split at e
  · rename_i d x y
    simp only [Option.some.injEq, Prod.mk.injEq] at e
    obtain ⟨rfl, rfl⟩ := e
    exact ConN.args (.cons .rfl (.cons .rfl (.cons .rfl .nil))) (c_l9Part d x y )
  · simp at e)
theorem c_l9Ord (o : Int) (x : Int) (y : Int)  : ConN Try.prog 93 [.lit (.int .i64 o), .lit (.int .i64 x), .lit (.int .i64 y)] [] 0 (.lit (.bool (stdH Bool fun _ => ordB o x y))) [] [] := by
  have hB : Base Try.prog (tabΓ [e_l1In, e_l9Down, e_l9Abs]) tab := base_of tabOk (ents_cons eok_l1In <| ents_cons eok_l9Down <| ents_cons eok_l9Abs <| ents_nil)
  refine con_m (N := 61) hB (draw_ok hB mixed) Try.func93 rfl rfl (fun H => [.lit (.int .i64 o), .lit (.int .i64 x), .lit (.int .i64 y)]) (fun _ => []) 0 (fun H => .lit (.bool (H Bool fun _ => ordB o x y))) (fun H => []) (fun _ => []) 300 (by simp) (fun x hx => ?_) (by simp [lk]) (by omega) (by simp) ?_
  · simp only [List.mem_cons, List.not_mem_nil, or_false] at hx
    rcases hx with rfl | rfl | rfl
    · exact .lit
    · exact .lit
    · exact .lit
  intro X hX hX0 H hH
  conv in Fin.chk _ _ => cbv
  try simp only [Plain_rowsA, Plain_rowsB, Plain_rowsF, Plain_rowsG, Plain_rowsI, Plain_rowsQ, Plain_rowsS, Plain_rowsU, Fin.satC_ret, Fin.satC_br, Fin.satC_need, Fin.satC_again, AllP, and_true, true_and, upd, List.length_nil, List.length_cons, Nat.zero_add, if_true, ncast, Int.ofNat_eq_natCast]
  subst hH
  simp only [stdH]
  unfold ordB
  (repeat' (with_reducible first | refine And.intro ?_ ?_ | intro hh))
  all_goals first | exact trivial | decide | (simp only [*, cond_true, cond_false]; done) | skip
noncomputable def e_l9Ord : Entry := pureE 93 fun H a => match a with
  | [.lit (.int .i64 o), .lit (.int .i64 x), .lit (.int .i64 y)] => some (.lit (.bool (H Bool fun _ => ordB o x y)), [])
  | _ => none
theorem eok_l9Ord : EntryOk Try.prog e_l9Ord := pureM_ok (by unfold isBody; kernel_rfl) (by
  intro a r ob e hob
  split at e
  · rename_i o x y
    simp only [Option.some.injEq, Prod.mk.injEq] at e
    obtain ⟨rfl, rfl⟩ := e
    exact ConN.args (.cons .rfl (.cons .rfl (.cons .rfl .nil))) (c_l9Ord o x y )
  · simp at e)
def offL (l : Int) : List Int := bif l == 1 then [0, 1, 1, 0] else bif l == 2 then [0, 1, 1, 0, 0, -1, -1, 0] else bif l == 3 then [0, 0, 2, 2] else bif l == 4 then [0, 1, 2, 1] else [0]
theorem offL_len (l : Int) : 1 ≤ (offL l).length ∧ (offL l).length ≤ 8 := by
  unfold offL
  cases l == 1 <;> cases l == 2 <;> cases l == 3 <;> cases l == 4 <;> decide
theorem c_l10Offs (line : Int)  : ConN Try.prog 100 [.lit (.int .i64 line)] [] 0 (.vec 1 (stdH Nat fun _ => (offL line).length) (rowsI stdH fun _ => offL line)) [] [] := by
  have hB : Base Try.prog (tabΓ []) tab := base_of tabOk (ents_nil)
  refine con_m (N := 17) hB (draw_ok hB mixed) Try.func100 rfl rfl (fun H => [.lit (.int .i64 line)]) (fun _ => []) 0 (fun H => .vec 1 (H Nat fun _ => (offL line).length) (rowsI H fun _ => offL line)) (fun H => []) (fun _ => []) 100 (by simp) (fun x hx => ?_) (by simp [lk]) (by omega) (by simp) ?_
  · simp only [List.mem_cons, List.not_mem_nil, or_false] at hx
    rcases hx with rfl
    · exact .lit
  intro X hX hX0 H hH
  conv in Fin.chk _ _ => cbv
  try simp only [Plain_rowsA, Plain_rowsB, Plain_rowsF, Plain_rowsG, Plain_rowsI, Plain_rowsQ, Plain_rowsS, Plain_rowsU, Fin.satC_ret, Fin.satC_br, Fin.satC_need, Fin.satC_again, AllP, and_true, true_and, upd, List.length_nil, List.length_cons, Nat.zero_add, if_true, ncast, Int.ofNat_eq_natCast]
  subst hH
  simp only [stdH]
  unfold offL
  (repeat' (with_reducible first | refine And.intro ?_ ?_ | intro hh))
  all_goals simp only [*, cond_true, cond_false]
  all_goals first | exact trivial | exact rfl | exact RowsEq.lit okI rfl rfl | skip
noncomputable def e_l10Offs : Entry := pureE 100 fun H a => match a with
  | [.lit (.int .i64 line)] => some (.vec 1 (H Nat fun _ => (offL line).length) (rowsI H fun _ => offL line), [])
  | _ => none
theorem eok_l10Offs : EntryOk Try.prog e_l10Offs := pureM_ok (by unfold isBody; kernel_rfl) (by
  intro a r ob e hob
  split at e
  · rename_i line
    simp only [Option.some.injEq, Prod.mk.injEq] at e
    obtain ⟨rfl, rfl⟩ := e
    exact ConN.args (.cons .rfl .nil) (c_l10Offs line )
  · simp at e)
def offI (l t : Int) : Int := (offL l).getD (t.tmod (offL l).length).toNat 0
theorem c_l10Off (line : Int) (t : Int) (h0 : 0 ≤ t ∧ t ≤ 1000) : ConN Try.prog 92 [.lit (.int .i64 line), .lit (.int .i64 t)] [] 0 (.lit (.int .i64 (stdH Int fun _ => offI line t))) [] [] := by
  have hB : Base Try.prog (tabΓ [e_l10Offs]) tab := base_of tabOk (ents_cons eok_l10Offs <| ents_nil)
  refine con_m (N := 15) hB (draw_ok hB mixed) Try.func92 rfl rfl (fun H => [.lit (.int .i64 line), .lit (.int .i64 t)]) (fun _ => []) 0 (fun H => .lit (.int .i64 (H Int fun _ => offI line t))) (fun H => []) (fun _ => []) 100 (by simp) (fun x hx => ?_) (by simp [lk]) (by omega) (by simp) ?_
  · simp only [List.mem_cons, List.not_mem_nil, or_false] at hx
    rcases hx with rfl | rfl
    · exact .lit
    · exact .lit
  intro X hX hX0 H hH
  conv in Fin.chk _ _ => cbv
  try simp only [Plain_rowsA, Plain_rowsB, Plain_rowsF, Plain_rowsG, Plain_rowsI, Plain_rowsQ, Plain_rowsS, Plain_rowsU, Fin.satC_ret, Fin.satC_br, Fin.satC_need, Fin.satC_again, AllP, and_true, true_and, upd, List.length_nil, List.length_cons, Nat.zero_add, if_true, ncast, Int.ofNat_eq_natCast]
  have hl := offL_len line
  have h1 := Int.tmod_lt_of_pos t (b := ((offL line).length : Int)) (by omega)
  have h2 := Int.tmod_nonneg ((offL line).length : Int) h0.1
  subst hH
  simp only [stdH, Tl_I]
  (repeat' (with_reducible first | refine And.intro ?_ ?_ | intro hh))
  all_goals first | exact trivial | omega | exact rfl | skip
noncomputable def e_l10Off : Entry := pureE 92 fun H a => match a with
  | [.lit (.int .i64 line), .lit (.int .i64 t)] => some (.lit (.int .i64 (H Int fun _ => offI line t)), [H Prop fun _ => 0 ≤ t ∧ t ≤ 1000])
  | _ => none
theorem eok_l10Off : EntryOk Try.prog e_l10Off := pureM_ok (by unfold isBody; kernel_rfl) (by
  intro a r ob e hob
  split at e
  · rename_i line t
    simp only [Option.some.injEq, Prod.mk.injEq] at e
    obtain ⟨rfl, rfl⟩ := e
    exact ConN.args (.cons .rfl (.cons .rfl .nil)) (c_l10Off line t hob.1)
  · simp at e)
def dnL (l x y : Int) : Int := IntKind.i64.wrap (dnW x y - IntKind.i64.wrap (40 * offI l (IntKind.i64.wrap (x + y))))
theorem c_l10Down (line : Int) (x : Int) (y : Int) (h0 : (0 ≤ x ∧ x ≤ 100)) (h1 : 0 ≤ y ∧ y ≤ 100) : ConN Try.prog 95 [.lit (.int .i64 line), .lit (.int .i64 x), .lit (.int .i64 y)] [] 0 (.lit (.int .i64 (stdH Int fun _ => dnL line x y))) [] [] := by
  have hB : Base Try.prog (tabΓ [e_l9Down, e_l10Off]) tab := base_of tabOk (ents_cons eok_l9Down <| ents_cons eok_l10Off <| ents_nil)
  refine con_m (N := 17) hB (draw_ok hB mixed) Try.func95 rfl rfl (fun H => [.lit (.int .i64 line), .lit (.int .i64 x), .lit (.int .i64 y)]) (fun _ => []) 0 (fun H => .lit (.int .i64 (H Int fun _ => dnL line x y))) (fun H => []) (fun _ => []) 100 (by simp) (fun x hx => ?_) (by simp [lk]) (by omega) (by simp) ?_
  · simp only [List.mem_cons, List.not_mem_nil, or_false] at hx
    rcases hx with rfl | rfl | rfl
    · exact .lit
    · exact .lit
    · exact .lit
  intro X hX hX0 H hH
  conv in Fin.chk _ _ => cbv
  try simp only [Plain_rowsA, Plain_rowsB, Plain_rowsF, Plain_rowsG, Plain_rowsI, Plain_rowsQ, Plain_rowsS, Plain_rowsU, Fin.satC_ret, Fin.satC_br, Fin.satC_need, Fin.satC_again, AllP, and_true, true_and, upd, List.length_nil, List.length_cons, Nat.zero_add, if_true, ncast, Int.ofNat_eq_natCast]
  subst hH
  simp only [stdH]
  (repeat' (with_reducible first | refine And.intro ?_ ?_ | intro hh))
  all_goals first | exact rfl | (rw [wi (by omega) (by omega)]; omega)
noncomputable def e_l10Down : Entry := pureE 95 fun H a => match a with
  | [.lit (.int .i64 line), .lit (.int .i64 x), .lit (.int .i64 y)] => some (.lit (.int .i64 (H Int fun _ => dnL line x y)), [H Prop fun _ => (0 ≤ x ∧ x ≤ 100), H Prop fun _ => 0 ≤ y ∧ y ≤ 100])
  | _ => none
theorem eok_l10Down : EntryOk Try.prog e_l10Down := pureM_ok (by unfold isBody; kernel_rfl) (by
  intro a r ob e hob
  split at e
  · rename_i line x y
    simp only [Option.some.injEq, Prod.mk.injEq] at e
    obtain ⟨rfl, rfl⟩ := e
    exact ConN.args (.cons .rfl (.cons .rfl (.cons .rfl .nil))) (c_l10Down line x y hob.1 hob.2.1)
  · simp at e)
def olB (o l x y : Int) : Bool := bif o == 1 then ordB o (IntKind.i64.wrap (x - offI l y)) y else bif o == 2 then ordB o x (IntKind.i64.wrap (y - offI l x)) else bif o == 7 then ordB o x (IntKind.i64.wrap (y - offI l x)) else bif o == 5 then ordB o (IntKind.i64.wrap (x - offI l y)) (IntKind.i64.wrap (y - offI l x)) else bif o == 3 then decide (abW (dnL l x y) ≤ 160) else bif o == 6 then (bif decide (abW (dnL l x y) ≤ 120) then true else decide (abW (dnL l (IntKind.i64.wrap (19 - x)) y) ≤ 120)) else bif o == 4 then inB (IntKind.i64.wrap (IntKind.i64.wrap (IntKind.i64.wrap (IntKind.i64.wrap (2 * y) + 1) - abW (IntKind.i64.wrap (IntKind.i64.wrap (2 * x) - 19))) - IntKind.i64.wrap (2 * offI l x))) 11 22 else false
theorem c_l10Ord (o : Int) (l : Int) (x : Int) (y : Int) (h0 : (0 ≤ x ∧ x ≤ 19)) (h1 : 0 ≤ y ∧ y ≤ 23) : ConN Try.prog 70 [.lit (.int .i64 o), .lit (.int .i64 l), .lit (.int .i64 x), .lit (.int .i64 y)] [] 0 (.lit (.bool (stdH Bool fun _ => olB o l x y))) [] [] := by
  have hB : Base Try.prog (tabΓ [e_l1In, e_l9Ord, e_l9Abs, e_l10Down, e_l10Off]) tab := base_of tabOk (ents_cons eok_l1In <| ents_cons eok_l9Ord <| ents_cons eok_l9Abs <| ents_cons eok_l10Down <| ents_cons eok_l10Off <| ents_nil)
  refine con_m (N := 84) hB (draw_ok hB mixed) Try.func70 rfl rfl (fun H => [.lit (.int .i64 o), .lit (.int .i64 l), .lit (.int .i64 x), .lit (.int .i64 y)]) (fun _ => []) 0 (fun H => .lit (.bool (H Bool fun _ => olB o l x y))) (fun H => []) (fun _ => []) 300 (by simp) (fun x hx => ?_) (by simp [lk]) (by omega) (by simp) ?_
  · simp only [List.mem_cons, List.not_mem_nil, or_false] at hx
    rcases hx with rfl | rfl | rfl | rfl
    · exact .lit
    · exact .lit
    · exact .lit
    · exact .lit
  intro X hX hX0 H hH
  conv in Fin.chk _ _ => cbv
  try simp only [Plain_rowsA, Plain_rowsB, Plain_rowsF, Plain_rowsG, Plain_rowsI, Plain_rowsQ, Plain_rowsS, Plain_rowsU, Fin.satC_ret, Fin.satC_br, Fin.satC_need, Fin.satC_again, AllP, and_true, true_and, upd, List.length_nil, List.length_cons, Nat.zero_add, if_true, ncast, Int.ofNat_eq_natCast]
  have w19 : IntKind.i64.wrap (19 - x) = 19 - x := wi (by omega) (by omega)
  subst hH
  simp only [stdH]
  unfold olB
  (repeat' (with_reducible first | refine And.intro ?_ ?_ | intro hh))
  all_goals first | exact trivial | decide | omega | (simp_all; done) | (simp_all; omega)
noncomputable def e_l10Ord : Entry := pureE 70 fun H a => match a with
  | [.lit (.int .i64 o), .lit (.int .i64 l), .lit (.int .i64 x), .lit (.int .i64 y)] => some (.lit (.bool (H Bool fun _ => olB o l x y)), [H Prop fun _ => (0 ≤ x ∧ x ≤ 19), H Prop fun _ => 0 ≤ y ∧ y ≤ 23])
  | _ => none
theorem eok_l10Ord : EntryOk Try.prog e_l10Ord := pureM_ok (by unfold isBody; kernel_rfl) (by
  intro a r ob e hob
  split at e
  · rename_i o l x y
    simp only [Option.some.injEq, Prod.mk.injEq] at e
    obtain ⟨rfl, rfl⟩ := e
    exact ConN.args (.cons .rfl (.cons .rfl (.cons .rfl (.cons .rfl .nil)))) (c_l10Ord o l x y hob.1 hob.2.1)
  · simp at e)

end Go.Proofs.Ytpilblmncpeelaa.AM

