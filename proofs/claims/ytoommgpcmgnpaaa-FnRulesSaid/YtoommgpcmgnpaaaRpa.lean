import Derived.Test.YtoommgpcmgnpaaaAmT
import Derived.Test.YtoommgpcmgnpaaaRpr
import Derived.Test.YtoommgpcmgnpaaaAly
import Derived.Test.YtoommgpcmgnpaaaShd
set_option linter.unusedVariables false
set_option linter.unusedSimpArgs false
set_option maxRecDepth 100000
set_option maxHeartbeats 4000000
set_option cbv.maxSteps 3000000
namespace Go.Proofs.Ytoommgpcmgnpaaa.AM
/- Arms repaired: the program's and the reference's; conditions: none. -/
theorem Tl_tcs9 : Tl rowI 9 (rowsOf 1 [.lit (.int .i64 1), .lit (.int .i64 2), .lit (.int .i64 3), .lit (.int .i64 4), .lit (.int .i64 5), .lit (.int .i64 6), .lit (.int .i64 7), .lit (.int .i64 8), .lit (.int .i64 9)]) = tcs 9 := rfl
theorem emp_len {α : Type} (l : List α) : (((l.length : Nat) : Int) == 0) = l.isEmpty := by
  cases l with
  | nil => rfl
  | cons _ _ => rw [List.isEmpty_cons, beq_eq_false_iff_ne, List.length_cons]; omega
theorem c_KeepsRules (a : Arm)  : ConN Try.prog 10 [aT rowA stdH fun _ => a] [] 0 (.tup [.lit (.bool (stdH Bool fun _ => okA a && (fnds a).isEmpty)), .lit (.bool (stdH Bool fun _ => okA a))]) [] [] := by
  have hB : Base Try.prog (tabΓ [e_IsValidArms, e_findings]) tab := base_of tabOk (ents_cons eok_IsValidArms <| ents_cons eok_findings <| ents_nil)
  refine con_m (N := 11) hB (draw_ok hB mixed) Try.func10 rfl rfl (fun H => [aT rowA H fun _ => a]) (fun _ => []) 0 (fun H => .tup [.lit (.bool (H Bool fun _ => okA a && (fnds a).isEmpty)), .lit (.bool (H Bool fun _ => okA a))]) (fun H => []) (fun _ => []) 100 (by simp) (fun x hx => ?_) (by simp [lk]) (by omega) (by simp) ?_
  · simp only [List.mem_cons, List.not_mem_nil, or_false] at hx
    rcases hx with rfl
    · exact aT_bl okRA _ _
  intro X hX hX0 H hH
  conv in Fin.chk _ _ => cbv
  try simp only [Plain_rowsA, Plain_rowsB, Plain_rowsD, Plain_rowsF, Plain_rowsG, Plain_rowsI, Plain_rowsS, Plain_rowsU, Fin.satC_ret, Fin.satC_br, Fin.satC_need, Fin.satC_again, AllP, and_true, true_and, upd, List.length_nil, List.length_cons, Nat.zero_add, if_true, ncast, Int.ofNat_eq_natCast]
  subst hH
  simp only [stdH, Arm.eta2, Fld.eta, Grp.eta]
  cases okA a <;> simp [emp_len]
noncomputable def e_KeepsRules : Entry := pureE 10 fun H a => match a with
  | [.agg [.lit (.int .i64 a0), .lit (.int .i64 a1), .lit (.int .i64 a2), .lit (.int .i64 a3), .lit (.int .i64 a4), .lit (.int .i64 a5), .lit (.int .i64 a6), .lit (.int .i64 a7), .lit (.int .i64 a8), .lit (.int .i64 a9), .lit (.int .i64 a10), .lit (.int .i64 a11), .lit (.int .i64 a12), .lit (.int .i64 a13), .lit (.int .i64 a14)]] => some (.tup [.lit (.bool (H Bool fun _ => okA (⟨⟨a0, a1, a2, a3⟩, a4, a5, a6, ⟨a7, a8, a9, a10⟩, ⟨a11, a12, a13, a14⟩⟩ : Arm) && (fnds (⟨⟨a0, a1, a2, a3⟩, a4, a5, a6, ⟨a7, a8, a9, a10⟩, ⟨a11, a12, a13, a14⟩⟩ : Arm)).isEmpty)), .lit (.bool (H Bool fun _ => okA (⟨⟨a0, a1, a2, a3⟩, a4, a5, a6, ⟨a7, a8, a9, a10⟩, ⟨a11, a12, a13, a14⟩⟩ : Arm)))], [])
  | _ => none
theorem eok_KeepsRules : EntryOk Try.prog e_KeepsRules := pureM_ok (by unfold isBody; kernel_rfl) (by
  intro a r ob e hob
  split at e
  · rename_i a0 a1 a2 a3 a4 a5 a6 a7 a8 a9 a10 a11 a12 a13 a14
    simp only [Option.some.injEq, Prod.mk.injEq] at e
    obtain ⟨rfl, rfl⟩ := e
    exact ConN.args (.cons .rfl .nil) (c_KeepsRules (⟨⟨a0, a1, a2, a3⟩, a4, a5, a6, ⟨a7, a8, a9, a10⟩, ⟨a11, a12, a13, a14⟩⟩ : Arm) )
  · simp at e)
theorem c_RuleFindingsS (a : Arm)  : ConN Try.prog 8 [aT rowA stdH fun _ => a] [] 0 (.tup [.vec 3 (stdH Nat fun _ => (if okA a then fnds a else []).length) (rowsD stdH fun _ => if okA a then fnds a else []), .lit (.bool (stdH Bool fun _ => okA a))]) [] [] := by
  have hB : Base Try.prog (tabΓ [e_l5Good, e_l8Findings]) tabO := base_of tabOkO (ents_cons eok_l5Good <| ents_cons eok_l8Findings <| ents_nil)
  refine con_m (N := 10) hB (draw_ok hB mixed) Try.func8 rfl rfl (fun H => [aT rowA H fun _ => a]) (fun _ => []) 0 (fun H => .tup [.vec 3 (H Nat fun _ => (if okA a then fnds a else []).length) (rowsD H fun _ => if okA a then fnds a else []), .lit (.bool (H Bool fun _ => okA a))]) (fun H => []) (fun _ => []) 100 (by simp) (fun x hx => ?_) (by simp [lk]) (by omega) (by simp) ?_
  · simp only [List.mem_cons, List.not_mem_nil, or_false] at hx
    rcases hx with rfl
    · exact aT_bl okRA _ _
  intro X hX hX0 H hH
  conv in Fin.chk _ _ => cbv
  try simp only [Plain_rowsA, Plain_rowsB, Plain_rowsD, Plain_rowsF, Plain_rowsG, Plain_rowsI, Plain_rowsS, Plain_rowsU, Fin.satC_ret, Fin.satC_br, Fin.satC_need, Fin.satC_again, AllP, and_true, true_and, upd, List.length_nil, List.length_cons, Nat.zero_add, if_true, ncast, Int.ofNat_eq_natCast]
  subst hH
  simp only [stdH, Arm.eta2, Fld.eta, Grp.eta]
  cases okA a <;> simp <;> first | exact RowsEq.self okRD | exact RowsEq.ofT okRD rfl (Shp_zero _) rfl | skip
noncomputable def e_RuleFindingsS : Entry := pureE 8 fun H a => match a with
  | [.agg [.lit (.int .i64 a0), .lit (.int .i64 a1), .lit (.int .i64 a2), .lit (.int .i64 a3), .lit (.int .i64 a4), .lit (.int .i64 a5), .lit (.int .i64 a6), .lit (.int .i64 a7), .lit (.int .i64 a8), .lit (.int .i64 a9), .lit (.int .i64 a10), .lit (.int .i64 a11), .lit (.int .i64 a12), .lit (.int .i64 a13), .lit (.int .i64 a14)]] => some (.tup [.vec 3 (H Nat fun _ => (if okA (⟨⟨a0, a1, a2, a3⟩, a4, a5, a6, ⟨a7, a8, a9, a10⟩, ⟨a11, a12, a13, a14⟩⟩ : Arm) then fnds (⟨⟨a0, a1, a2, a3⟩, a4, a5, a6, ⟨a7, a8, a9, a10⟩, ⟨a11, a12, a13, a14⟩⟩ : Arm) else []).length) (rowsD H fun _ => if okA (⟨⟨a0, a1, a2, a3⟩, a4, a5, a6, ⟨a7, a8, a9, a10⟩, ⟨a11, a12, a13, a14⟩⟩ : Arm) then fnds (⟨⟨a0, a1, a2, a3⟩, a4, a5, a6, ⟨a7, a8, a9, a10⟩, ⟨a11, a12, a13, a14⟩⟩ : Arm) else []), .lit (.bool (H Bool fun _ => okA (⟨⟨a0, a1, a2, a3⟩, a4, a5, a6, ⟨a7, a8, a9, a10⟩, ⟨a11, a12, a13, a14⟩⟩ : Arm)))], [])
  | _ => none
theorem eok_RuleFindingsS : EntryOk Try.prog e_RuleFindingsS := pureM_ok (by unfold isBody; kernel_rfl) (by
  intro a r ob e hob
  split at e
  · rename_i a0 a1 a2 a3 a4 a5 a6 a7 a8 a9 a10 a11 a12 a13 a14
    simp only [Option.some.injEq, Prod.mk.injEq] at e
    obtain ⟨rfl, rfl⟩ := e
    exact ConN.args (.cons .rfl .nil) (c_RuleFindingsS (⟨⟨a0, a1, a2, a3⟩, a4, a5, a6, ⟨a7, a8, a9, a10⟩, ⟨a11, a12, a13, a14⟩⟩ : Arm) )
  · simp at e)
theorem c_choices (x : Int)  : ConN Try.prog 37 [.lit (.int .i64 x)] [] 0 (.vec 1 (stdH Nat fun _ => (chI x).length) (rowsI stdH fun _ => chI x)) [] [] := by
  have hB : Base Try.prog (tabΓ []) tab := base_of tabOk (ents_nil)
  refine con_m (N := 7) hB (draw_ok hB mixed) Try.func37 rfl rfl (fun H => [.lit (.int .i64 x)]) (fun _ => []) 0 (fun H => .vec 1 (H Nat fun _ => (chI x).length) (rowsI H fun _ => chI x)) (fun H => []) (fun _ => []) 200 (by simp) (fun x hx => ?_) (by simp [lk]) (by omega) (by simp) ?_
  · simp only [List.mem_cons, List.not_mem_nil, or_false] at hx
    rcases hx with rfl
    · exact .lit
  intro X hX hX0 H hH
  conv in Fin.chk _ _ => cbv
  try simp only [Plain_rowsA, Plain_rowsB, Plain_rowsD, Plain_rowsF, Plain_rowsG, Plain_rowsI, Plain_rowsS, Plain_rowsU, Fin.satC_ret, Fin.satC_br, Fin.satC_need, Fin.satC_again, AllP, and_true, true_and, upd, List.length_nil, List.length_cons, Nat.zero_add, if_true, ncast, Int.ofNat_eq_natCast]
  subst hH
  simp only [stdH, beq_iff_eq, beq_eq_false_iff_ne, ne_eq]
  refine ⟨fun h => ?_, fun h => ?_⟩
  · unfold chI; rw [if_pos h]; exact RowsEq.ofT okI rfl (Shp_one rfl) rfl
  · unfold chI; rw [if_neg h]
    refine RowsEq.ofT okI rfl ⟨fun j hj => ?_⟩ rfl
    rcases (by omega : j = 0 ∨ j = 1 ∨ j = 2 ∨ j = 3 ∨ j = 4 ∨ j = 5 ∨ j = 6 ∨ j = 7 ∨ j = 8) with rfl | rfl | rfl | rfl | rfl | rfl | rfl | rfl | rfl <;> rfl
noncomputable def e_choices : Entry := pureE 37 fun H a => match a with
  | [.lit (.int .i64 x)] => some (.vec 1 (H Nat fun _ => (chI x).length) (rowsI H fun _ => chI x), [])
  | _ => none
theorem eok_choices : EntryOk Try.prog e_choices := pureM_ok (by unfold isBody; kernel_rfl) (by
  intro a r ob e hob
  split at e
  · rename_i x
    simp only [Option.some.injEq, Prod.mk.injEq] at e
    obtain ⟨rfl, rfl⟩ := e
    exact ConN.args (.cons .rfl .nil) (c_choices x )
  · simp at e)
theorem tcs_s (n : Nat) : tcs (n + 1) = tcs n ++ [((n + 1 : Nat) : Int)] := by simp [tcs, List.range_succ]
theorem tcs_len (n : Nat) : (tcs n).length = n := by simp [tcs]
theorem c_l8Choices (there : Bool)  : ConN Try.prog 39 [.lit (.bool there)] [] 0 (.vec 1 (stdH Nat fun _ => (if there then tcs 9 else [0]).length) (rowsI stdH fun _ => if there then tcs 9 else [0])) [] [] := by
  have hB : Base Try.prog (tabΓ []) tabO := base_of tabOkO (ents_nil)
  refine con_m (N := 18) hB (draw_ok hB mixed) Try.func39 rfl rfl (fun H => [.lit (.bool there)]) (fun _ => []) 0 (fun H => .vec 1 (H Nat fun _ => (if there then tcs 9 else [0]).length) (rowsI H fun _ => if there then tcs 9 else [0])) (fun H => []) (fun _ => []) 200 (by simp) (fun x hx => ?_) (by simp [lk]) (by omega) (by simp) ?_
  · simp only [List.mem_cons, List.not_mem_nil, or_false] at hx
    rcases hx with rfl
    · exact .lit
  intro X hX hX0 H hH
  conv in Fin.chk _ _ => cbv
  try simp only [Plain_rowsA, Plain_rowsB, Plain_rowsD, Plain_rowsF, Plain_rowsG, Plain_rowsI, Plain_rowsS, Plain_rowsU, Fin.satC_ret, Fin.satC_br, Fin.satC_need, Fin.satC_again, AllP, and_true, true_and, upd, List.length_nil, List.length_cons, Nat.zero_add, if_true, ncast, Int.ofNat_eq_natCast]
  refine ⟨fun h => ?_, fun h => ?_⟩
  · simp only [hH, stdH, decide_eq_true_eq, decide_eq_false_iff_not, Bool.not_eq_true', Bool.not_eq_false', peta, ncast, Int.ofNat_eq_natCast, beq_iff_eq, bne_iff_ne, beq_eq_false_iff_ne, bne_eq_false_iff_eq, ne_eq, Classical.not_not, Int.toNat_natCast, vrow_I, Arm.eta2, Fld.eta, Grp.eta] at h
    simp only [h, Bool.false_eq_true, if_false]
    try simp only [hH, stdH, decide_eq_true_eq, decide_eq_false_iff_not, Bool.not_eq_true', Bool.not_eq_false', peta, ncast, Int.ofNat_eq_natCast, beq_iff_eq, bne_iff_ne, beq_eq_false_iff_ne, bne_eq_false_iff_eq, ne_eq, Classical.not_not, Int.toNat_natCast, vrow_I, Arm.eta2, Fld.eta, Grp.eta]
    exact RowsEq.self okI
  · simp only [hH, stdH, decide_eq_true_eq, decide_eq_false_iff_not, Bool.not_eq_true', Bool.not_eq_false', peta, ncast, Int.ofNat_eq_natCast, beq_iff_eq, bne_iff_ne, beq_eq_false_iff_ne, bne_eq_false_iff_eq, ne_eq, Classical.not_not, Int.toNat_natCast, vrow_I, Arm.eta2, Fld.eta, Grp.eta] at h
    simp only [h, if_true]
    refine loop_a hB (draw_ok hB mixed) hX hX0 hH false (ι := { i : Nat // i ≤ 9 }) 200 (fun i => [.r (H Nat fun _ => (tcs i.1).length) (rowsI H fun _ => tcs i.1), .i (H Int fun _ => (i.1 + 1 : Nat))]) (fun i => 9 - i.1) (⟨0, by omega⟩) ?_ ?_
    · (conv in matchSt _ _ _ _ => cbv); simp only [AllG, AllP, and_true, hH, stdH, ncast, Int.ofNat_eq_natCast, vrow_I, Arm.eta2, Fld.eta, Grp.eta]
      exact ⟨RowsEq.ofT okI rfl (Shp_zero _) rfl, rfl, rfl⟩
    · intro I hI i
      conv in Fin.chk _ _ => cbv
      try simp only [Plain_rowsA, Plain_rowsB, Plain_rowsD, Plain_rowsF, Plain_rowsG, Plain_rowsI, Plain_rowsS, Plain_rowsU, Fin.satC_ret, Fin.satC_br, Fin.satC_need, Fin.satC_again, AllP, and_true, true_and, upd, List.length_nil, List.length_cons, Nat.zero_add, if_true, ncast, Int.ofNat_eq_natCast]
      obtain ⟨i, hi⟩ := i
      have hl := tcs_len i
      refine ⟨fun h1 => ⟨⟨?_, ?_⟩, ?_⟩, fun h1 => ?_⟩
      · try simp only [hH, stdH, decide_eq_true_eq, decide_eq_false_iff_not, Bool.not_eq_true', Bool.not_eq_false', peta, ncast, Int.ofNat_eq_natCast, beq_iff_eq, bne_iff_ne, beq_eq_false_iff_ne, bne_eq_false_iff_eq, ne_eq, Classical.not_not, Int.toNat_natCast, vrow_I, Arm.eta2, Fld.eta, Grp.eta]
      · try simp only [hH, stdH, decide_eq_true_eq, decide_eq_false_iff_not, Bool.not_eq_true', Bool.not_eq_false', peta, ncast, Int.ofNat_eq_natCast, beq_iff_eq, bne_iff_ne, beq_eq_false_iff_ne, bne_eq_false_iff_eq, ne_eq, Classical.not_not, Int.toNat_natCast, vrow_I, Arm.eta2, Fld.eta, Grp.eta]
        rw [hl]
        exact ⟨by omega, by omega⟩
      · simp only [hH, stdH, decide_eq_true_eq, decide_eq_false_iff_not, Bool.not_eq_true', Bool.not_eq_false', peta, ncast, Int.ofNat_eq_natCast, beq_iff_eq, bne_iff_ne, beq_eq_false_iff_ne, bne_eq_false_iff_eq, ne_eq, Classical.not_not, Int.toNat_natCast, vrow_I, Arm.eta2, Fld.eta, Grp.eta] at h1
        refine ⟨⟨i + 1, by omega⟩, by simp only; omega, ?_⟩
        rw [hI]
        (conv in matchSt _ _ _ _ => cbv); simp only [AllG, AllP, and_true, hH, stdH, ncast, Int.ofNat_eq_natCast, vrow_I, Arm.eta2, Fld.eta, Grp.eta]
        rw [w1 (by omega), tcs_s]
        (repeat' (first | trivial | exact RowsEq.more okI (Shp_I _ _) (Tl_I _) | exact List.length_append | rfl | refine And.intro ?_ ?_))
      · simp only [hH, stdH, decide_eq_true_eq, decide_eq_false_iff_not, Bool.not_eq_true', Bool.not_eq_false', peta, ncast, Int.ofNat_eq_natCast, beq_iff_eq, bne_iff_ne, beq_eq_false_iff_ne, bne_eq_false_iff_eq, ne_eq, Classical.not_not, Int.toNat_natCast, vrow_I, Arm.eta2, Fld.eta, Grp.eta] at h1
        obtain rfl : i = 9 := by omega
        try simp only [hH, stdH, decide_eq_true_eq, decide_eq_false_iff_not, Bool.not_eq_true', Bool.not_eq_false', peta, ncast, Int.ofNat_eq_natCast, beq_iff_eq, bne_iff_ne, beq_eq_false_iff_ne, bne_eq_false_iff_eq, ne_eq, Classical.not_not, Int.toNat_natCast, vrow_I, Arm.eta2, Fld.eta, Grp.eta]
        exact RowsEq.self okI
noncomputable def e_l8Choices : Entry := pureE 39 fun H a => match a with
  | [.lit (.bool there)] => some (.vec 1 (H Nat fun _ => (if there then tcs 9 else [0]).length) (rowsI H fun _ => if there then tcs 9 else [0]), [])
  | _ => none
theorem eok_l8Choices : EntryOk Try.prog e_l8Choices := pureM_ok (by unfold isBody; kernel_rfl) (by
  intro a r ob e hob
  split at e
  · rename_i there
    simp only [Option.some.injEq, Prod.mk.injEq] at e
    obtain ⟨rfl, rfl⟩ := e
    exact ConN.args (.cons .rfl .nil) (c_l8Choices there )
  · simp at e)
theorem TlI_H3 {H : Hold} (hH : H = stdH) (L : List Int) : Tl rowI (H Nat fun _ => L.length) (rowsI H fun _ => L) = L := by subst hH; exact Tl_I L
theorem foldl_sn {α : Type} {f : α → Int → α} {l : List Int} {i : Nat} {x : α} (h : i < l.length) : (l.take (i + 1)).foldl f x = f ((l.take i).foldl f x) (l.getD i 0) := by
  rw [List.take_succ_eq_append_getElem h, List.foldl_append, List.getD_eq_getElem?_getD, List.getElem?_eq_getElem h]
  rfl
theorem rpX_s {a : Arm} {i : Nat} (h : i < (chI a.t).length) : rpX a (i + 1) = rpY a ((chI a.t).getD i 0) (rpX a i) (chI a.n.t).length := by
  unfold rpX rpY
  rw [foldl_sn h, List.take_length]
theorem rpY_s {a : Arm} {x : Int} {st : RpS} {k : Nat} (h : k < (chI a.n.t).length) : rpY a x st (k + 1) = rpZ a x ((chI a.n.t).getD k 0) (rpY a x st k) (chI a.r.t).length := by
  unfold rpY rpZ
  rw [foldl_sn h, List.take_length]
theorem rpZ_s {a : Arm} {x y : Int} {st : RpS} {m : Nat} (h : m < (chI a.r.t).length) : rpZ a x y st (m + 1) = rpStep a x y (rpZ a x y st m) ((chI a.r.t).getD m 0) := by
  unfold rpZ
  rw [foldl_sn h]
theorem rpY_0 (a : Arm) (x : Int) (st : RpS) : rpY a x st 0 = st := by simp [rpY]
theorem rpZ_0 (a : Arm) (x y : Int) (st : RpS) : rpZ a x y st 0 = st := by simp [rpZ]
theorem rpX_0 (a : Arm) : rpX a 0 = none := by simp [rpX]
theorem bif_and2 (a b : Bool) : (bif a then b else false) = (a && b) := by cases a <;> rfl
theorem chg_w (a : Arm) (x y z : Int) : IntKind.i64.wrap (IntKind.i64.wrap ((if (x != a.t) = true then 1 else 0) + (if (y != a.n.t) = true then 1 else 0)) + (if (z != a.r.t) = true then 1 else 0)) = chg a x y z := by
  unfold chg
  by_cases h1 : x = a.t <;> by_cases h2 : y = a.n.t <;> by_cases h3 : z = a.r.t <;> simp [h1, h2, h3] <;> rfl
theorem rp_c (a : Arm) (st : RpS) (x y z : Int) : (bif decide (IntKind.i64.wrap (IntKind.i64.wrap ((if (x != a.t) = true then 1 else 0) + (if (y != a.n.t) = true then 1 else 0)) + (if (z != a.r.t) = true then 1 else 0)) < rn 4 st) then (((fnds (rTA a x y z)).length : Nat) : Int) == 0 else false) = rpT a st x y z := by
  rw [chg_w, emp_len]
  unfold rpT
  cases st <;> (simp only [rn, bif_and2]; rfl)
theorem rp_def (a : Arm) : rp a = rpX a (chI a.t).length := rfl
theorem rp_none {a : Arm} (ho : okA a = true) (h : (rn 4 (rp a) == 4) = true) : rpO a = false ∧ rpN a = 0 ∧ rpA a = zA := by
  unfold rpO rpN rpA
  rw [ho]
  cases e : rp a with
  | none => exact ⟨rfl, rfl, rfl⟩
  | some p =>
    obtain ⟨x, y, z, _, _, _, rfl, _⟩ := (rp_ok a).1 p e
    rw [e, beq_iff_eq] at h
    have := chg_in a x y z
    simp only [rn] at h
    omega
theorem rp_some {a : Arm} (ho : okA a = true) (h : (rn 4 (rp a) == 4) = false) : rpO a = true ∧ rpN a = rn 4 (rp a) ∧ rpA a = rb (rp a) := by
  unfold rpO rpN rpA
  rw [ho]
  cases e : rp a with
  | none => rw [e] at h; cases h
  | some p => exact ⟨rfl, rfl, rfl⟩

end Go.Proofs.Ytoommgpcmgnpaaa.AM
