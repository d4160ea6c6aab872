import Derived.Test.YthilcnfnbgbkdaaAmT
import Derived.Test.YthilcnfnbgbkdaaFre
set_option linter.unusedVariables false
set_option linter.unusedSimpArgs false
set_option maxRecDepth 100000
set_option maxHeartbeats 4000000
set_option cbv.maxSteps 3000000
namespace Go.Proofs.Ythilcnfnbgbkdaa.AM
/- Free tinctures: the reference's; conditions: none. -/
theorem aK_eq2 (a : Arm) (k : Nat) (x : Int) : (⟨(aK a k).f, (aK a k).o, (aK a k).l, (aK a k).t, (aK a k).n, ⟨(aK a k).r.c, (aK a k).r.k, (aK a k).r.a, x⟩⟩ : Arm) = withT a x := by cases k <;> rfl
theorem any_succ {l : List Arm} {p : Arm → Bool} {i : Nat} (h : i < l.length) : (!(l.take (i + 1)).any p) = bif !(l.take i).any p then !p (l.getD i default) else false := by
  rw [List.take_succ_eq_append_getElem h, List.any_append, List.getD_eq_getElem?_getD, List.getElem?_eq_getElem h, Option.getD_some]
  cases (l.take i).any p <;> simp
theorem c_l15Conflict (a : Arm) (v : Arm)  : ConN Try.prog 36 [aT rowA stdH fun _ => a, aT rowA stdH fun _ => v] [] 0 (.lit (.bool (stdH Bool fun _ => decide (dS a v < 2)))) [] [] := by
  have hB : Base Try.prog (tabΓ [e_l15Count]) tab := base_of tabOk (ents_cons eok_l15Count <| ents_nil)
  refine con_m (N := 9) hB (draw_ok hB mixed) Try.func36 rfl rfl (fun H => [aT rowA H fun _ => a, aT rowA H fun _ => v]) (fun _ => []) 0 (fun H => .lit (.bool (H Bool fun _ => decide (dS a v < 2)))) (fun H => []) (fun _ => []) 100 (by simp) (fun x hx => ?_) (by simp [lk]) (by omega) (by simp) ?_
  · simp only [List.mem_cons, List.not_mem_nil, or_false] at hx
    rcases hx with rfl | rfl
    · exact aT_bl okRA _ _
    · exact aT_bl okRA _ _
  intro X hX hX0 H hH
  conv in Fin.chk _ _ => cbv
  try simp only [Fin.satC_ret, Fin.satC_br, Fin.satC_need, Fin.satC_again, AllP, and_true, true_and, upd, List.length_nil, List.length_cons, Nat.zero_add, if_true, ncast, Int.ofNat_eq_natCast]
  try simp only [hH, stdH, decide_eq_true_eq, decide_eq_false_iff_not, Bool.not_eq_true', Bool.not_eq_false', peta, ncast, Int.ofNat_eq_natCast, beq_iff_eq, bne_iff_ne, beq_eq_false_iff_ne, bne_eq_false_iff_eq, ne_eq, Classical.not_not, Int.toNat_natCast, vrow_I, Arm.eta2, Fld.eta, Grp.eta]
noncomputable def e_l15Conflict : Entry := pureE 36 fun H a => match a with
  | [.agg [.lit (.int .i64 a0), .lit (.int .i64 a1), .lit (.int .i64 a2), .lit (.int .i64 a3), .lit (.int .i64 a4), .lit (.int .i64 a5), .lit (.int .i64 a6), .lit (.int .i64 a7), .lit (.int .i64 a8), .lit (.int .i64 a9), .lit (.int .i64 a10), .lit (.int .i64 a11), .lit (.int .i64 a12), .lit (.int .i64 a13), .lit (.int .i64 a14)], .agg [.lit (.int .i64 v0), .lit (.int .i64 v1), .lit (.int .i64 v2), .lit (.int .i64 v3), .lit (.int .i64 v4), .lit (.int .i64 v5), .lit (.int .i64 v6), .lit (.int .i64 v7), .lit (.int .i64 v8), .lit (.int .i64 v9), .lit (.int .i64 v10), .lit (.int .i64 v11), .lit (.int .i64 v12), .lit (.int .i64 v13), .lit (.int .i64 v14)]] => some (.lit (.bool (H Bool fun _ => decide (dS (⟨⟨a0, a1, a2, a3⟩, a4, a5, a6, ⟨a7, a8, a9, a10⟩, ⟨a11, a12, a13, a14⟩⟩ : Arm) (⟨⟨v0, v1, v2, v3⟩, v4, v5, v6, ⟨v7, v8, v9, v10⟩, ⟨v11, v12, v13, v14⟩⟩ : Arm) < 2))), [])
  | _ => none
theorem eok_l15Conflict : EntryOk Try.prog e_l15Conflict := pureM_ok (by unfold isBody; kernel_rfl) (by
  intro a r ob e hob
  split at e
  · rename_i a0 a1 a2 a3 a4 a5 a6 a7 a8 a9 a10 a11 a12 a13 a14 v0 v1 v2 v3 v4 v5 v6 v7 v8 v9 v10 v11 v12 v13 v14
    simp only [Option.some.injEq, Prod.mk.injEq] at e
    obtain ⟨rfl, rfl⟩ := e
    exact ConN.args (.cons .rfl (.cons .rfl .nil)) (c_l15Conflict (⟨⟨a0, a1, a2, a3⟩, a4, a5, a6, ⟨a7, a8, a9, a10⟩, ⟨a11, a12, a13, a14⟩⟩ : Arm) (⟨⟨v0, v1, v2, v3⟩, v4, v5, v6, ⟨v7, v8, v9, v10⟩, ⟨v11, v12, v13, v14⟩⟩ : Arm) )
  · simp at e)
theorem c_freeS (l : List Arm) (a : Arm) (h0 : l.length ≤ 100) : ConN Try.prog 14 [.vec 15 (stdH Nat fun _ => (l).length) (rowsA stdH fun _ => l), aT rowA stdH fun _ => a] [] 0 (.tup [.vec 1 (stdH Nat fun _ => (if okFr l a then frT l a 9 else []).length) (rowsI stdH fun _ => if okFr l a then frT l a 9 else []), .lit (.bool (stdH Bool fun _ => okFr l a))]) [] [] := by
  have hB : Base Try.prog (tabΓ [e_l15List, e_l5Good, e_l4None, e_l15Conflict]) tabO := base_of tabOkO (ents_cons eok_l15List <| ents_cons eok_l5Good <| ents_cons eok_l4None <| ents_cons eok_l15Conflict <| ents_nil)
  refine con_m (N := 54) hB (draw_ok hB mixed) Try.func14 rfl rfl (fun H => [.vec 15 (H Nat fun _ => (l).length) (rowsA H fun _ => l), aT rowA H fun _ => a]) (fun _ => []) 0 (fun H => .tup [.vec 1 (H Nat fun _ => (if okFr l a then frT l a 9 else []).length) (rowsI H fun _ => if okFr l a then frT l a 9 else []), .lit (.bool (H Bool fun _ => okFr l a))]) (fun H => []) (fun _ => []) 300 (by simp) (fun x hx => ?_) (by simp [lk]) (by omega) (by simp) ?_
  · simp only [List.mem_cons, List.not_mem_nil, or_false] at hx
    rcases hx with rfl | rfl
    · exact vl_bl okRA l _
    · exact aT_bl okRA _ _
  intro X hX hX0 H hH
  conv in Fin.chk _ _ => cbv
  try simp only [Fin.satC_ret, Fin.satC_br, Fin.satC_need, Fin.satC_again, AllP, and_true, true_and, upd, List.length_nil, List.length_cons, Nat.zero_add, if_true, ncast, Int.ofNat_eq_natCast]
  refine ⟨⟨?_, ?_⟩, fun h => ?_, fun h => ?_⟩
  · try simp only [hH, stdH, decide_eq_true_eq, decide_eq_false_iff_not, Bool.not_eq_true', Bool.not_eq_false', peta, ncast, Int.ofNat_eq_natCast, beq_iff_eq, bne_iff_ne, beq_eq_false_iff_ne, bne_eq_false_iff_eq, ne_eq, Classical.not_not, Int.toNat_natCast, vrow_I, Arm.eta2, Fld.eta, Grp.eta]
    exact Shp_A _ _
  · try simp only [hH, stdH, decide_eq_true_eq, decide_eq_false_iff_not, Bool.not_eq_true', Bool.not_eq_false', peta, ncast, Int.ofNat_eq_natCast, beq_iff_eq, bne_iff_ne, beq_eq_false_iff_ne, bne_eq_false_iff_eq, ne_eq, Classical.not_not, Int.toNat_natCast, vrow_I, Arm.eta2, Fld.eta, Grp.eta]
    simp only [Tl_A]; omega
  · simp only [hH, stdH, Int.toNat_natCast] at h
    simp only [Tl_A, Arm.eta2, Fld.eta, Grp.eta] at h
    rw [fr_cond, Bool.not_eq_true'] at h
    rw [h]
    try simp only [hH, stdH, decide_eq_true_eq, decide_eq_false_iff_not, Bool.not_eq_true', Bool.not_eq_false', peta, ncast, Int.ofNat_eq_natCast, beq_iff_eq, bne_iff_ne, beq_eq_false_iff_ne, bne_eq_false_iff_eq, ne_eq, Classical.not_not, Int.toNat_natCast, vrow_I, Arm.eta2, Fld.eta, Grp.eta]
    exact ⟨trivial, RowsEq.ofT okI rfl (Shp_zero _) rfl⟩
  · simp only [hH, stdH, Int.toNat_natCast] at h
    simp only [Tl_A, Arm.eta2, Fld.eta, Grp.eta] at h
    rw [fr_cond, Bool.not_eq_false'] at h
    rw [h]
    simp only [if_true]
    refine loop_a hB (draw_ok hB mixed) hX hX0 hH false (ι := { k : Nat // k ≤ 9 }) 300 (fun k => [.r (H Nat fun _ => (frT l a k.1).length) (rowsI H fun _ => frT l a k.1), .i (H Int fun _ => ((k.1 + 1 : Nat) : Int)), .i (H Int fun _ => (aK a k.1).f.d), .i (H Int fun _ => (aK a k.1).f.l), .i (H Int fun _ => (aK a k.1).f.p), .i (H Int fun _ => (aK a k.1).f.q), .i (H Int fun _ => (aK a k.1).o), .i (H Int fun _ => (aK a k.1).l), .i (H Int fun _ => (aK a k.1).t), .i (H Int fun _ => (aK a k.1).n.c), .i (H Int fun _ => (aK a k.1).n.k), .i (H Int fun _ => (aK a k.1).n.a), .i (H Int fun _ => (aK a k.1).n.t), .i (H Int fun _ => (aK a k.1).r.c), .i (H Int fun _ => (aK a k.1).r.k), .i (H Int fun _ => (aK a k.1).r.a), .i (H Int fun _ => (aK a k.1).r.t)]) (fun k => 9 - k.1) (⟨0, by omega⟩) ?_ ?_
    · (conv in matchSt _ _ _ _ => cbv); simp only [AllG, AllP, and_true, hH, stdH, ncast, Int.ofNat_eq_natCast, vrow_I, Arm.eta2, Fld.eta, Grp.eta]
      (repeat' (first | trivial | exact RowsEq.ofT okI rfl (Shp_zero _) rfl | exact RowsEq.self okRA | rfl | refine And.intro ?_ ?_))
    · intro I hI k
      conv in Fin.chk _ _ => cbv
      try simp only [Fin.satC_ret, Fin.satC_br, Fin.satC_need, Fin.satC_again, AllP, and_true, true_and, upd, List.length_nil, List.length_cons, Nat.zero_add, if_true, ncast, Int.ofNat_eq_natCast]
      obtain ⟨k, hk⟩ := k
      obtain ⟨p1, p2, p3, p4, p5, p6, p7, p8⟩ := aK_p a k
      have hfl := frT_len l a k
      refine ⟨fun h1 => ?_, fun h1 => ?_⟩
      · simp only [hH, stdH, decide_eq_true_eq, decide_eq_false_iff_not, Bool.not_eq_true', Bool.not_eq_false', peta, ncast, Int.ofNat_eq_natCast, beq_iff_eq, bne_iff_ne, beq_eq_false_iff_ne, bne_eq_false_iff_eq, ne_eq, Classical.not_not, Int.toNat_natCast, vrow_I, Arm.eta2, Fld.eta, Grp.eta] at h1
        have hk9 : k < 9 := by omega
        refine loop_a hB (draw_ok hB mixed) hX hX0 hH true (ι := { i : Nat // i ≤ l.length }) 300 (fun i => [.b (H Bool fun _ => !(l.take i.1).any fun y => decide (dI (withT a ((k + 1 : Nat) : Int)) y < 2)), .i (H Int fun _ => (i.1 : Nat))]) (fun i => l.length - i.1) (⟨0, by omega⟩) ?_ ?_
        · (conv in matchSt _ _ _ _ => cbv); simp only [AllG, AllP, and_true, hH, stdH, ncast, Int.ofNat_eq_natCast, vrow_I, Arm.eta2, Fld.eta, Grp.eta]
          (repeat' (first | trivial | exact RowsEq.self okI | exact RowsEq.self okRA | rfl | refine And.intro ?_ ?_))
        · intro I2 hI2 i
          conv in Fin.chk _ _ => cbv
          try simp only [Fin.satC_ret, Fin.satC_br, Fin.satC_need, Fin.satC_again, AllP, and_true, true_and, upd, List.length_nil, List.length_cons, Nat.zero_add, if_true, ncast, Int.ofNat_eq_natCast]
          obtain ⟨i, hi⟩ := i
          refine ⟨fun h2 => ⟨?_, ?_⟩, fun h2 => ⟨fun h3 => ⟨?_, ?_⟩, fun h3 => ?_⟩⟩
          · simp only [hH, stdH, decide_eq_true_eq, decide_eq_false_iff_not, Bool.not_eq_true', Bool.not_eq_false', peta, ncast, Int.ofNat_eq_natCast, beq_iff_eq, bne_iff_ne, beq_eq_false_iff_ne, bne_eq_false_iff_eq, ne_eq, Classical.not_not, Int.toNat_natCast, vrow_I, Arm.eta2, Fld.eta, Grp.eta] at h2 ⊢
            exact fun _ => ⟨by omega, by omega⟩
          · simp only [hH, stdH, decide_eq_true_eq, decide_eq_false_iff_not, Bool.not_eq_true', Bool.not_eq_false', peta, ncast, Int.ofNat_eq_natCast, beq_iff_eq, bne_iff_ne, beq_eq_false_iff_ne, bne_eq_false_iff_eq, ne_eq, Classical.not_not, Int.toNat_natCast, vrow_I, Arm.eta2, Fld.eta, Grp.eta] at h2
            have hi2 : i < l.length := by omega
            have e5 := any_succ (p := fun y => decide (dI (withT a ((k + 1 : Nat) : Int)) y < 2)) hi2
            refine ⟨⟨i + 1, by omega⟩, by simp only; omega, ?_⟩
            rw [hI2]
            (conv in matchSt _ _ _ _ => cbv); simp only [AllG, AllP, and_true, hH, stdH, ncast, Int.ofNat_eq_natCast, vrow_I, Arm.eta2, Fld.eta, Grp.eta]
            rw [w1 (by omega), e5]
            simp only [aK_eq2, Int.toNat_natCast]
            rw [freeS_eq h (by omega) (by omega) (getD_mem hi2)]
            (repeat' (first | trivial | exact RowsEq.self okI | exact RowsEq.self okRA | rfl | refine And.intro ?_ ?_))
          · try simp only [hH, stdH, decide_eq_true_eq, decide_eq_false_iff_not, Bool.not_eq_true', Bool.not_eq_false', peta, ncast, Int.ofNat_eq_natCast, beq_iff_eq, bne_iff_ne, beq_eq_false_iff_ne, bne_eq_false_iff_eq, ne_eq, Classical.not_not, Int.toNat_natCast, vrow_I, Arm.eta2, Fld.eta, Grp.eta]
            exact ⟨trivial, by omega, by omega⟩
          · simp only [hH, stdH, decide_eq_true_eq, decide_eq_false_iff_not, Bool.not_eq_true', Bool.not_eq_false', peta, ncast, Int.ofNat_eq_natCast, beq_iff_eq, bne_iff_ne, beq_eq_false_iff_ne, bne_eq_false_iff_eq, ne_eq, Classical.not_not, Int.toNat_natCast, vrow_I, Arm.eta2, Fld.eta, Grp.eta] at h2
            obtain rfl : i = l.length := by omega
            simp only [hH, stdH, Int.toNat_natCast] at h3
            rw [List.take_length] at h3
            rw [if_neg (by decide)]
            have ef := frT_succ (l := l) (a := a) hk9
            rw [if_pos (show freeX l a ((k + 1 : Nat) : Int) = true from h3)] at ef
            refine ⟨⟨k + 1, by omega⟩, by simp only; omega, ?_⟩
            rw [hI]
            (conv in matchSt _ _ _ _ => cbv); simp only [AllG, AllP, and_true, hH, stdH, ncast, Int.ofNat_eq_natCast, vrow_I, Arm.eta2, Fld.eta, Grp.eta]
            obtain ⟨q1, q2, q3, q4, q5, q6, q7, q8⟩ := aK_p a (k + 1)
            rw [w1 (by omega), ef, q1, q2, q3, q4, q5, q6, q7, q8, p1, p2, p3, p4, p5, p6, p7, p8]
            (repeat' (first | trivial | exact RowsEq.more okI (Shp_I _ _) (Tl_I _) | exact List.length_append | exact RowsEq.self okRA | rfl | refine And.intro ?_ ?_))
          · simp only [hH, stdH, decide_eq_true_eq, decide_eq_false_iff_not, Bool.not_eq_true', Bool.not_eq_false', peta, ncast, Int.ofNat_eq_natCast, beq_iff_eq, bne_iff_ne, beq_eq_false_iff_ne, bne_eq_false_iff_eq, ne_eq, Classical.not_not, Int.toNat_natCast, vrow_I, Arm.eta2, Fld.eta, Grp.eta] at h2
            obtain rfl : i = l.length := by omega
            simp only [hH, stdH, Int.toNat_natCast] at h3
            rw [List.take_length] at h3
            rw [if_neg (by decide)]
            have ef := frT_succ (l := l) (a := a) hk9
            rw [if_neg (show ¬ freeX l a ((k + 1 : Nat) : Int) = true from fun e => by rw [show (!l.any fun y => decide (dI (withT a ((k + 1 : Nat) : Int)) y < 2)) = true from e] at h3; cases h3)] at ef
            refine ⟨⟨k + 1, by omega⟩, by simp only; omega, ?_⟩
            rw [hI]
            (conv in matchSt _ _ _ _ => cbv); simp only [AllG, AllP, and_true, hH, stdH, ncast, Int.ofNat_eq_natCast, vrow_I, Arm.eta2, Fld.eta, Grp.eta]
            obtain ⟨q1, q2, q3, q4, q5, q6, q7, q8⟩ := aK_p a (k + 1)
            rw [w1 (by omega), ef, q1, q2, q3, q4, q5, q6, q7, q8, p1, p2, p3, p4, p5, p6, p7, p8]
            (repeat' (first | trivial | exact RowsEq.self okI | exact RowsEq.self okRA | rfl | refine And.intro ?_ ?_))
      · simp only [hH, stdH, decide_eq_true_eq, decide_eq_false_iff_not, Bool.not_eq_true', Bool.not_eq_false', peta, ncast, Int.ofNat_eq_natCast, beq_iff_eq, bne_iff_ne, beq_eq_false_iff_ne, bne_eq_false_iff_eq, ne_eq, Classical.not_not, Int.toNat_natCast, vrow_I, Arm.eta2, Fld.eta, Grp.eta] at h1
        obtain rfl : k = 9 := by omega
        try simp only [hH, stdH, decide_eq_true_eq, decide_eq_false_iff_not, Bool.not_eq_true', Bool.not_eq_false', peta, ncast, Int.ofNat_eq_natCast, beq_iff_eq, bne_iff_ne, beq_eq_false_iff_ne, bne_eq_false_iff_eq, ne_eq, Classical.not_not, Int.toNat_natCast, vrow_I, Arm.eta2, Fld.eta, Grp.eta]
        exact ⟨trivial, RowsEq.self okI⟩
noncomputable def e_freeS : Entry := pureE 14 fun H a => match a with
  | [.vec 15 ln lf, .agg [.lit (.int .i64 a0), .lit (.int .i64 a1), .lit (.int .i64 a2), .lit (.int .i64 a3), .lit (.int .i64 a4), .lit (.int .i64 a5), .lit (.int .i64 a6), .lit (.int .i64 a7), .lit (.int .i64 a8), .lit (.int .i64 a9), .lit (.int .i64 a10), .lit (.int .i64 a11), .lit (.int .i64 a12), .lit (.int .i64 a13), .lit (.int .i64 a14)]] => some (.tup [.vec 1 (H Nat fun _ => (if okFr (Tl rowA ln lf) (⟨⟨a0, a1, a2, a3⟩, a4, a5, a6, ⟨a7, a8, a9, a10⟩, ⟨a11, a12, a13, a14⟩⟩ : Arm) then frT (Tl rowA ln lf) (⟨⟨a0, a1, a2, a3⟩, a4, a5, a6, ⟨a7, a8, a9, a10⟩, ⟨a11, a12, a13, a14⟩⟩ : Arm) 9 else []).length) (rowsI H fun _ => if okFr (Tl rowA ln lf) (⟨⟨a0, a1, a2, a3⟩, a4, a5, a6, ⟨a7, a8, a9, a10⟩, ⟨a11, a12, a13, a14⟩⟩ : Arm) then frT (Tl rowA ln lf) (⟨⟨a0, a1, a2, a3⟩, a4, a5, a6, ⟨a7, a8, a9, a10⟩, ⟨a11, a12, a13, a14⟩⟩ : Arm) 9 else []), .lit (.bool (H Bool fun _ => okFr (Tl rowA ln lf) (⟨⟨a0, a1, a2, a3⟩, a4, a5, a6, ⟨a7, a8, a9, a10⟩, ⟨a11, a12, a13, a14⟩⟩ : Arm)))], [H Prop fun _ => Shp rowA ln lf, H Prop fun _ => (Tl rowA ln lf).length ≤ 100])
  | _ => none
theorem eok_freeS : EntryOk Try.prog e_freeS := pureM_ok (by unfold isBody; kernel_rfl) (by
  intro a r ob e hob
  split at e
  · rename_i ln lf a0 a1 a2 a3 a4 a5 a6 a7 a8 a9 a10 a11 a12 a13 a14
    simp only [Option.some.injEq, Prod.mk.injEq] at e
    obtain ⟨rfl, rfl⟩ := e
    exact ConN.args (.cons (.toT okRA rfl hob.1) (.cons .rfl .nil)) (c_freeS (Tl rowA ln lf) (⟨⟨a0, a1, a2, a3⟩, a4, a5, a6, ⟨a7, a8, a9, a10⟩, ⟨a11, a12, a13, a14⟩⟩ : Arm) hob.2.1)
  · simp at e)

end Go.Proofs.Ythilcnfnbgbkdaa.AM
