import Derived.Test.YthilcnfnbgbkdaaAmT
import Derived.Test.YthilcnfnbgbkdaaNea
set_option linter.unusedVariables false
set_option linter.unusedSimpArgs false
set_option maxRecDepth 100000
set_option maxHeartbeats 4000000
set_option cbv.maxSteps 3000000
namespace Go.Proofs.Ythilcnfnbgbkdaa.AM
/- Free tinctures, tables compared; conditions: none. -/
def withT (a : Arm) (x : Int) : Arm := ⟨a.f, a.o, a.l, a.t, a.n, ⟨a.r.c, a.r.k, a.r.a, x⟩⟩
def freeX (l : List Arm) (a : Arm) (x : Int) : Bool := !l.any fun y => decide (dI (withT a x) y < 2)
def okFr (l : List Arm) (a : Arm) : Bool := okLs l && (okA a && !noG a.r)
def nine : List Int := [1, 2, 3, 4, 5, 6, 7, 8, 9]
def frT (l : List Arm) (a : Arm) (k : Nat) : List Int := (nine.take k).filter (freeX l a)
def aK (a : Arm) : Nat → Arm
  | 0 => a
  | k + 1 => withT a ((k + 1 : Nat) : Int)
theorem aK_eq (a : Arm) (k : Nat) (x : Int) : (⟨⟨(aK a k).f.d, (aK a k).f.l, (aK a k).f.p, (aK a k).f.q⟩, (aK a k).o, (aK a k).l, (aK a k).t, ⟨(aK a k).n.c, (aK a k).n.k, (aK a k).n.a, (aK a k).n.t⟩, ⟨(aK a k).r.c, (aK a k).r.k, (aK a k).r.a, x⟩⟩ : Arm) = withT a x := by cases k <;> rfl
theorem aK_p (a : Arm) (k : Nat) : (aK a k).f = a.f ∧ (aK a k).o = a.o ∧ (aK a k).l = a.l ∧ (aK a k).t = a.t ∧ (aK a k).n = a.n ∧ (aK a k).r.c = a.r.c ∧ (aK a k).r.k = a.r.k ∧ (aK a k).r.a = a.r.a := by cases k <;> exact ⟨rfl, rfl, rfl, rfl, rfl, rfl, rfl, rfl⟩
theorem aK_t (a : Arm) (k : Nat) : (aK a (k + 1)).r.t = ((k + 1 : Nat) : Int) := rfl
theorem nine_take {k : Nat} (h : k < 9) : nine.take (k + 1) = nine.take k ++ [((k + 1 : Nat) : Int)] := by
  rcases (by omega : k = 0 ∨ k = 1 ∨ k = 2 ∨ k = 3 ∨ k = 4 ∨ k = 5 ∨ k = 6 ∨ k = 7 ∨ k = 8) with rfl | rfl | rfl | rfl | rfl | rfl | rfl | rfl | rfl <;> rfl
theorem frT_succ {l : List Arm} {a : Arm} {k : Nat} (h : k < 9) : frT l a (k + 1) = if freeX l a ((k + 1 : Nat) : Int) = true then frT l a k ++ [((k + 1 : Nat) : Int)] else frT l a k := by
  unfold frT
  rw [nine_take h, List.filter_append]
  cases hf : freeX l a ((k + 1 : Nat) : Int) with
  | true => rw [List.filter_cons_of_pos hf, if_pos rfl]; rfl
  | false => rw [List.filter_cons_of_neg (by rw [hf]; decide), if_neg (by decide)]; simp
theorem frT_len (l : List Arm) (a : Arm) (k : Nat) : (frT l a k).length ≤ 9 := by
  unfold frT
  refine Nat.le_trans (List.length_filter_le _ _) ?_
  rw [List.length_take]
  exact Nat.min_le_right _ _
theorem fr_cond (l : List Arm) (a : Arm) : (bif bif !okLs l then true else !okA a then true else noG a.r) = !okFr l a := by
  unfold okFr
  cases okLs l <;> cases okA a <;> cases noG a.r <;> rfl
theorem okFr_in {l : List Arm} {a : Arm} (h : okFr l a = true) : okLs l = true ∧ okA a = true ∧ noG a.r = false := by
  unfold okFr at h
  simp only [Bool.and_eq_true, Bool.not_eq_true'] at h
  exact ⟨h.1, h.2.1, h.2.2⟩
theorem okA_with {a : Arm} (h : okA a = true) (hn : noG a.r = false) {x : Int} (h1 : 1 ≤ x) (h9 : x ≤ 9) : okA (withT a x) = true := by
  unfold okA at h ⊢
  simp only [Bool.and_eq_true] at h ⊢
  refine ⟨⟨h.1.1, ?_⟩, h.2⟩
  have hg := h.1.2
  rw [hn, Bool.false_or] at hg
  have : okG (withT a x).r = true := by
    unfold okG at hg ⊢
    simp only [Bool.and_eq_true] at hg ⊢
    refine ⟨hg.1, ?_⟩
    show inB x 1 9 = true
    unfold inB
    rw [decide_eq_true_eq]; exact ⟨h1, h9⟩
  rw [this, Bool.or_true]
theorem freeS_eq {l : List Arm} {a : Arm} (h : okFr l a = true) {x : Int} (h1 : 1 ≤ x) (h9 : x ≤ 9) {b : Arm} (hb : b ∈ l) : dS b (withT a x) = dI (withT a x) b := by
  obtain ⟨hl, ha, hn⟩ := okFr_in h
  rw [dI_dS (okA_with ha hn h1 h9) ((okLs_in hl).2 b hb), dS_sym]
theorem c_frC (v : Arm) (a : Arm)  : ConN Try.prog 33 [aT rowA stdH fun _ => v, .rptr (rowA.cells stdH fun _ => a)] [] 0 (.lit (.bool (stdH Bool fun _ => decide (dI a v < 2)))) [] [] := by
  have hB : Base Try.prog (tabΓ [e_conflict]) tab := base_of tabOk (ents_cons eok_conflict <| ents_nil)
  refine con_m (N := 7) hB (draw_ok hB mixed) Try.func33 rfl rfl (fun H => [aT rowA H fun _ => v, .rptr (rowA.cells H fun _ => a)]) (fun _ => []) 0 (fun H => .lit (.bool (H Bool fun _ => decide (dI a v < 2)))) (fun H => []) (fun _ => []) 100 (by simp) (fun x hx => ?_) (by simp [lk]) (by omega) (by simp) ?_
  · simp only [List.mem_cons, List.not_mem_nil, or_false] at hx
    rcases hx with rfl | rfl
    · exact aT_bl okRA _ _
    · exact (.rptr fun c hc => (okRA.bl (fun _ => a) c hc).mono (Nat.zero_le _))
  intro X hX hX0 H hH
  conv in Fin.chk _ _ => cbv
  try simp only [Plain_rowsA, Plain_rowsB, Plain_rowsF, Plain_rowsG, Plain_rowsI, Plain_rowsS, Plain_rowsU, Fin.satC_ret, Fin.satC_br, Fin.satC_need, Fin.satC_again, AllP, and_true, true_and, upd, List.length_nil, List.length_cons, Nat.zero_add, if_true, ncast, Int.ofNat_eq_natCast]
  try simp only [hH, stdH, decide_eq_true_eq, decide_eq_false_iff_not, Bool.not_eq_true', Bool.not_eq_false', peta, ncast, Int.ofNat_eq_natCast, beq_iff_eq, bne_iff_ne, beq_eq_false_iff_ne, bne_eq_false_iff_eq, ne_eq, Classical.not_not, Int.toNat_natCast, vrow_I, Arm.eta2, Fld.eta, Grp.eta]
noncomputable def e_frC : Entry := pureE 33 fun H a => match a with
  | [.agg [.lit (.int .i64 v0), .lit (.int .i64 v1), .lit (.int .i64 v2), .lit (.int .i64 v3), .lit (.int .i64 v4), .lit (.int .i64 v5), .lit (.int .i64 v6), .lit (.int .i64 v7), .lit (.int .i64 v8), .lit (.int .i64 v9), .lit (.int .i64 v10), .lit (.int .i64 v11), .lit (.int .i64 v12), .lit (.int .i64 v13), .lit (.int .i64 v14)], .rptr [.lit (.int .i64 a0), .lit (.int .i64 a1), .lit (.int .i64 a2), .lit (.int .i64 a3), .lit (.int .i64 a4), .lit (.int .i64 a5), .lit (.int .i64 a6), .lit (.int .i64 a7), .lit (.int .i64 a8), .lit (.int .i64 a9), .lit (.int .i64 a10), .lit (.int .i64 a11), .lit (.int .i64 a12), .lit (.int .i64 a13), .lit (.int .i64 a14)]] => some (.lit (.bool (H Bool fun _ => decide (dI (⟨⟨a0, a1, a2, a3⟩, a4, a5, a6, ⟨a7, a8, a9, a10⟩, ⟨a11, a12, a13, a14⟩⟩ : Arm) (⟨⟨v0, v1, v2, v3⟩, v4, v5, v6, ⟨v7, v8, v9, v10⟩, ⟨v11, v12, v13, v14⟩⟩ : Arm) < 2))), [])
  | _ => none
theorem eok_frC : EntryOk Try.prog e_frC := pureM_ok (by unfold isBody; kernel_rfl) (by
  intro a r ob e hob
  split at e
  · rename_i v0 v1 v2 v3 v4 v5 v6 v7 v8 v9 v10 v11 v12 v13 v14 a0 a1 a2 a3 a4 a5 a6 a7 a8 a9 a10 a11 a12 a13 a14
    simp only [Option.some.injEq, Prod.mk.injEq] at e
    obtain ⟨rfl, rfl⟩ := e
    exact ConN.args (.cons .rfl (.cons (.rptr (AEqL.rfl _)) .nil)) (c_frC (⟨⟨v0, v1, v2, v3⟩, v4, v5, v6, ⟨v7, v8, v9, v10⟩, ⟨v11, v12, v13, v14⟩⟩ : Arm) (⟨⟨a0, a1, a2, a3⟩, a4, a5, a6, ⟨a7, a8, a9, a10⟩, ⟨a11, a12, a13, a14⟩⟩ : Arm) )
  · simp at e)
theorem c_idxFr (s : List Arm) (f0 : Arm) (h0 : s.length ≤ 2000000) : ConN Try.prog 69 [.vec 15 (stdH Nat fun _ => (s).length) (rowsA stdH fun _ => s), .fn (.func 33) [] [.rptr (rowA.cells stdH fun _ => f0)]] [] 0 (.lit (.int .i64 (stdH Int fun _ => idxF (fun y => decide (dI f0 y < 2)) s))) [] [] := by
  have hB : Base Try.prog (tabΓ [e_frC]) tab := base_of tabOk (ents_cons eok_frC <| ents_nil)
  refine con_m (N := 19) hB (draw_ok hB mixed) Try.func69 rfl rfl (fun H => [.vec 15 (H Nat fun _ => (s).length) (rowsA H fun _ => s), .fn (.func 33) [] [.rptr (rowA.cells H fun _ => f0)]]) (fun _ => []) 0 (fun H => .lit (.int .i64 (H Int fun _ => idxF (fun y => decide (dI f0 y < 2)) s))) (fun H => []) (fun _ => []) 100 (by simp) (fun x hx => ?_) (by simp [lk]) (by omega) (by simp) ?_
  · simp only [List.mem_cons, List.not_mem_nil, or_false] at hx
    rcases hx with rfl | rfl
    · exact vl_bl okRA s _
    · exact (by
        refine .fn (fun c hc => by cases hc) ?_
        intro c hc
        simp only [List.mem_cons, List.not_mem_nil, or_false] at hc
        rcases hc with rfl
        · exact (.rptr fun c hc => (okRA.bl (fun _ => f0) c hc).mono (Nat.zero_le _)))
  intro X hX hX0 H hH
  conv in Fin.chk _ _ => cbv
  try simp only [Plain_rowsA, Plain_rowsB, Plain_rowsF, Plain_rowsG, Plain_rowsI, Plain_rowsS, Plain_rowsU, Fin.satC_ret, Fin.satC_br, Fin.satC_need, Fin.satC_again, AllP, and_true, true_and, upd, List.length_nil, List.length_cons, Nat.zero_add, if_true, ncast, Int.ofNat_eq_natCast]
  refine loop_a hB (draw_ok hB mixed) hX hX0 hH false (ι := { i : Nat // i ≤ (s).length ∧ ∀ j, j < i → (fun y => decide (dI f0 y < 2)) ((s).getD j default) = false }) 100 (fun i => [.i (H Int fun _ => 0), .i (H Int fun _ => (i.1 : Nat))]) (fun i => (s).length - i.1) (⟨0, by omega, by omega⟩) ?_ ?_
  · (conv in matchSt _ _ _ _ => cbv); simp only [AllG, AllP, and_true, hH, stdH, ncast, Int.ofNat_eq_natCast, vrow_I, Arm.eta2, Fld.eta, Grp.eta]
    (repeat' (first | rfl | trivial | exact RowsEq.self okRA | exact RowsEq.ofT okRA rfl (Shp_zero _) rfl | exact RowsEq.snoc okRA rfl | exact RowsEq.self okI | exact RowsEq.self okRA | exact List.length_append | refine And.intro ?_ ?_))
  · intro I hI i
    conv in Fin.chk _ _ => cbv
    try simp only [Plain_rowsA, Plain_rowsB, Plain_rowsF, Plain_rowsG, Plain_rowsI, Plain_rowsS, Plain_rowsU, Fin.satC_ret, Fin.satC_br, Fin.satC_need, Fin.satC_again, AllP, and_true, true_and, upd, List.length_nil, List.length_cons, Nat.zero_add, if_true, ncast, Int.ofNat_eq_natCast]
    obtain ⟨i, hi, hj⟩ := i
    refine ⟨fun h1 => ⟨?_, fun h2 => ?_, fun h2 => ?_⟩, fun h1 => ?_⟩
    · simp only [hH, stdH, decide_eq_true_eq, decide_eq_false_iff_not, Bool.not_eq_true', Bool.not_eq_false', peta, ncast, Int.ofNat_eq_natCast, beq_iff_eq, bne_iff_ne, beq_eq_false_iff_ne, bne_eq_false_iff_eq, ne_eq, Classical.not_not, Int.toNat_natCast, vrow_I, Arm.eta2, Fld.eta, Grp.eta] at h1 ⊢
      omega
    · simp only [hH, stdH, decide_eq_true_eq, decide_eq_false_iff_not, Bool.not_eq_true', Bool.not_eq_false', peta, ncast, Int.ofNat_eq_natCast, beq_iff_eq, bne_iff_ne, beq_eq_false_iff_ne, bne_eq_false_iff_eq, ne_eq, Classical.not_not, Int.toNat_natCast, vrow_I, Arm.eta2, Fld.eta, Grp.eta] at h1
      simp only [hH, stdH, Int.toNat_natCast] at h2
      have h3 : (fun y => decide (dI f0 y < 2)) ((s).getD i default) = true := by exact h2
      try simp only [hH, stdH, decide_eq_true_eq, decide_eq_false_iff_not, Bool.not_eq_true', Bool.not_eq_false', peta, ncast, Int.ofNat_eq_natCast, beq_iff_eq, bne_iff_ne, beq_eq_false_iff_ne, bne_eq_false_iff_eq, ne_eq, Classical.not_not, Int.toNat_natCast, vrow_I, Arm.eta2, Fld.eta, Grp.eta]
      exact idxF_at default (by omega) h3 hj
    · simp only [hH, stdH, decide_eq_true_eq, decide_eq_false_iff_not, Bool.not_eq_true', Bool.not_eq_false', peta, ncast, Int.ofNat_eq_natCast, beq_iff_eq, bne_iff_ne, beq_eq_false_iff_ne, bne_eq_false_iff_eq, ne_eq, Classical.not_not, Int.toNat_natCast, vrow_I, Arm.eta2, Fld.eta, Grp.eta] at h1
      simp only [hH, stdH, Int.toNat_natCast] at h2
      have h3 : (fun y => decide (dI f0 y < 2)) ((s).getD i default) = false := by exact h2
      refine ⟨⟨i + 1, by omega, fun j hj' => ?_⟩, by simp only; omega, ?_⟩
      · rcases Nat.lt_succ_iff_lt_or_eq.1 hj' with h | rfl
        · exact hj j h
        · exact h3
      · rw [hI]
        (conv in matchSt _ _ _ _ => cbv); simp only [AllG, AllP, and_true, hH, stdH, ncast, Int.ofNat_eq_natCast, vrow_I, Arm.eta2, Fld.eta, Grp.eta]
        rw [w1 (by omega)]
        (repeat' (first | rfl | trivial | exact RowsEq.self okRA | exact RowsEq.ofT okRA rfl (Shp_zero _) rfl | exact RowsEq.snoc okRA rfl | exact RowsEq.self okI | exact RowsEq.self okRA | exact List.length_append | refine And.intro ?_ ?_))
    · simp only [hH, stdH, decide_eq_true_eq, decide_eq_false_iff_not, Bool.not_eq_true', Bool.not_eq_false', peta, ncast, Int.ofNat_eq_natCast, beq_iff_eq, bne_iff_ne, beq_eq_false_iff_ne, bne_eq_false_iff_eq, ne_eq, Classical.not_not, Int.toNat_natCast, vrow_I, Arm.eta2, Fld.eta, Grp.eta] at h1 ⊢
      exact idxF_no default fun j hj' => hj j (by omega)
noncomputable def e_idxFr : Entry := pureE 69 fun H a => match a with
  | [.vec 15 sn sf, .fn (.func 33) [] [.rptr [.lit (.int .i64 f00), .lit (.int .i64 f01), .lit (.int .i64 f02), .lit (.int .i64 f03), .lit (.int .i64 f04), .lit (.int .i64 f05), .lit (.int .i64 f06), .lit (.int .i64 f07), .lit (.int .i64 f08), .lit (.int .i64 f09), .lit (.int .i64 f010), .lit (.int .i64 f011), .lit (.int .i64 f012), .lit (.int .i64 f013), .lit (.int .i64 f014)]]] => some (.lit (.int .i64 (H Int fun _ => idxF (fun y => decide (dI (⟨⟨f00, f01, f02, f03⟩, f04, f05, f06, ⟨f07, f08, f09, f010⟩, ⟨f011, f012, f013, f014⟩⟩ : Arm) y < 2)) (Tl rowA sn sf))), [H Prop fun _ => Shp rowA sn sf, H Prop fun _ => (Tl rowA sn sf).length ≤ 2000000])
  | _ => none
theorem eok_idxFr : EntryOk Try.prog e_idxFr := pureM_ok (by unfold isBody; kernel_rfl) (by
  intro a r ob e hob
  split at e
  · rename_i sn sf f00 f01 f02 f03 f04 f05 f06 f07 f08 f09 f010 f011 f012 f013 f014
    simp only [Option.some.injEq, Prod.mk.injEq] at e
    obtain ⟨rfl, rfl⟩ := e
    exact ConN.args (.cons (.toT okRA rfl hob.1) (.cons (.fn .nil (.cons (.rptr (AEqL.rfl _)) .nil)) .nil)) (c_idxFr (Tl rowA sn sf) (⟨⟨f00, f01, f02, f03⟩, f04, f05, f06, ⟨f07, f08, f09, f010⟩, ⟨f011, f012, f013, f014⟩⟩ : Arm) hob.2.1)
  · simp at e)
theorem c_anyFr (s : List Arm) (f0 : Arm) (h0 : s.length ≤ 2000000) : ConN Try.prog 32 [.vec 15 (stdH Nat fun _ => (s).length) (rowsA stdH fun _ => s), .fn (.func 33) [] [.rptr (rowA.cells stdH fun _ => f0)]] [] 0 (.lit (.bool (stdH Bool fun _ => s.any (fun y => decide (dI f0 y < 2))))) [] [] := by
  have hB : Base Try.prog (tabΓ [e_idxFr]) tab := base_of tabOk (ents_cons eok_idxFr <| ents_nil)
  refine con_m (N := 9) hB (draw_ok hB mixed) Try.func32 rfl rfl (fun H => [.vec 15 (H Nat fun _ => (s).length) (rowsA H fun _ => s), .fn (.func 33) [] [.rptr (rowA.cells H fun _ => f0)]]) (fun _ => []) 0 (fun H => .lit (.bool (H Bool fun _ => s.any (fun y => decide (dI f0 y < 2))))) (fun H => []) (fun _ => []) 100 (by simp) (fun x hx => ?_) (by simp [lk]) (by omega) (by simp) ?_
  · simp only [List.mem_cons, List.not_mem_nil, or_false] at hx
    rcases hx with rfl | rfl
    · exact vl_bl okRA s _
    · exact (by
        refine .fn (fun c hc => by cases hc) ?_
        intro c hc
        simp only [List.mem_cons, List.not_mem_nil, or_false] at hc
        rcases hc with rfl
        · exact (.rptr fun c hc => (okRA.bl (fun _ => f0) c hc).mono (Nat.zero_le _)))
  intro X hX hX0 H hH
  conv in Fin.chk _ _ => cbv
  try simp only [Plain_rowsA, Plain_rowsB, Plain_rowsF, Plain_rowsG, Plain_rowsI, Plain_rowsS, Plain_rowsU, Fin.satC_ret, Fin.satC_br, Fin.satC_need, Fin.satC_again, AllP, and_true, true_and, upd, List.length_nil, List.length_cons, Nat.zero_add, if_true, ncast, Int.ofNat_eq_natCast]
  refine ⟨⟨?_, ?_⟩, ?_⟩
  · try simp only [hH, stdH, decide_eq_true_eq, decide_eq_false_iff_not, Bool.not_eq_true', Bool.not_eq_false', peta, ncast, Int.ofNat_eq_natCast, beq_iff_eq, bne_iff_ne, beq_eq_false_iff_ne, bne_eq_false_iff_eq, ne_eq, Classical.not_not, Int.toNat_natCast, vrow_I, Arm.eta2, Fld.eta, Grp.eta]
    exact Shp_A _ _
  · try simp only [hH, stdH, decide_eq_true_eq, decide_eq_false_iff_not, Bool.not_eq_true', Bool.not_eq_false', peta, ncast, Int.ofNat_eq_natCast, beq_iff_eq, bne_iff_ne, beq_eq_false_iff_ne, bne_eq_false_iff_eq, ne_eq, Classical.not_not, Int.toNat_natCast, vrow_I, Arm.eta2, Fld.eta, Grp.eta]
    simp only [Tl_A]; exact h0
  · try simp only [hH, stdH, decide_eq_true_eq, decide_eq_false_iff_not, Bool.not_eq_true', Bool.not_eq_false', peta, ncast, Int.ofNat_eq_natCast, beq_iff_eq, bne_iff_ne, beq_eq_false_iff_ne, bne_eq_false_iff_eq, ne_eq, Classical.not_not, Int.toNat_natCast, vrow_I, Arm.eta2, Fld.eta, Grp.eta]
    simp only [Tl_A]; exact (idxF_ge _ _).symm
noncomputable def e_anyFr : Entry := pureE 32 fun H a => match a with
  | [.vec 15 sn sf, .fn (.func 33) [] [.rptr [.lit (.int .i64 f00), .lit (.int .i64 f01), .lit (.int .i64 f02), .lit (.int .i64 f03), .lit (.int .i64 f04), .lit (.int .i64 f05), .lit (.int .i64 f06), .lit (.int .i64 f07), .lit (.int .i64 f08), .lit (.int .i64 f09), .lit (.int .i64 f010), .lit (.int .i64 f011), .lit (.int .i64 f012), .lit (.int .i64 f013), .lit (.int .i64 f014)]]] => some (.lit (.bool (H Bool fun _ => (Tl rowA sn sf).any (fun y => decide (dI (⟨⟨f00, f01, f02, f03⟩, f04, f05, f06, ⟨f07, f08, f09, f010⟩, ⟨f011, f012, f013, f014⟩⟩ : Arm) y < 2)))), [H Prop fun _ => Shp rowA sn sf, H Prop fun _ => (Tl rowA sn sf).length ≤ 2000000])
  | _ => none
theorem eok_anyFr : EntryOk Try.prog e_anyFr := pureM_ok (by unfold isBody; kernel_rfl) (by
  intro a r ob e hob
  split at e
  · rename_i sn sf f00 f01 f02 f03 f04 f05 f06 f07 f08 f09 f010 f011 f012 f013 f014
    simp only [Option.some.injEq, Prod.mk.injEq] at e
    obtain ⟨rfl, rfl⟩ := e
    exact ConN.args (.cons (.toT okRA rfl hob.1) (.cons (.fn .nil (.cons (.rptr (AEqL.rfl _)) .nil)) .nil)) (c_anyFr (Tl rowA sn sf) (⟨⟨f00, f01, f02, f03⟩, f04, f05, f06, ⟨f07, f08, f09, f010⟩, ⟨f011, f012, f013, f014⟩⟩ : Arm) hob.2.1)
  · simp at e)
theorem c_freeH (l : List Arm) (a : Arm) (h0 : l.length ≤ 100) : ConN Try.prog 13 [.vec 15 (stdH Nat fun _ => (l).length) (rowsA stdH fun _ => l), aT rowA stdH fun _ => a] [] 0 (.tup [.vec 1 (stdH Nat fun _ => (if okFr l a then frT l a 9 else []).length) (rowsI stdH fun _ => if okFr l a then frT l a 9 else []), .lit (.bool (stdH Bool fun _ => okFr l a))]) [] [] := by
  have hB : Base Try.prog (tabΓ [e_areArms, e_IsValidArms, e_anyFr]) tabO := base_of tabOkO (ents_cons eok_areArms <| ents_cons eok_IsValidArms <| ents_cons eok_anyFr <| ents_nil)
  refine con_m (N := 39) hB (draw_ok hB mixed) Try.func13 rfl rfl (fun H => [.vec 15 (H Nat fun _ => (l).length) (rowsA H fun _ => l), aT rowA H fun _ => a]) (fun _ => []) 0 (fun H => .tup [.vec 1 (H Nat fun _ => (if okFr l a then frT l a 9 else []).length) (rowsI H fun _ => if okFr l a then frT l a 9 else []), .lit (.bool (H Bool fun _ => okFr l a))]) (fun H => []) (fun _ => []) 300 (by simp) (fun x hx => ?_) (by simp [lk]) (by omega) (by simp) ?_
  · simp only [List.mem_cons, List.not_mem_nil, or_false] at hx
    rcases hx with rfl | rfl
    · exact vl_bl okRA l _
    · exact aT_bl okRA _ _
  intro X hX hX0 H hH
  conv in Fin.chk _ _ => cbv
  try simp only [Plain_rowsA, Plain_rowsB, Plain_rowsF, Plain_rowsG, Plain_rowsI, Plain_rowsS, Plain_rowsU, Fin.satC_ret, Fin.satC_br, Fin.satC_need, Fin.satC_again, AllP, and_true, true_and, upd, List.length_nil, List.length_cons, Nat.zero_add, if_true, ncast, Int.ofNat_eq_natCast]
  refine ⟨⟨?_, ?_⟩, fun h => ?_, fun h => ?_⟩
  · try simp only [hH, stdH, decide_eq_true_eq, decide_eq_false_iff_not, Bool.not_eq_true', Bool.not_eq_false', peta, ncast, Int.ofNat_eq_natCast, beq_iff_eq, bne_iff_ne, beq_eq_false_iff_ne, bne_eq_false_iff_eq, ne_eq, Classical.not_not, Int.toNat_natCast, vrow_I, Arm.eta2, Fld.eta, Grp.eta]
    exact Shp_A _ _
  · try simp only [hH, stdH, decide_eq_true_eq, decide_eq_false_iff_not, Bool.not_eq_true', Bool.not_eq_false', peta, ncast, Int.ofNat_eq_natCast, beq_iff_eq, bne_iff_ne, beq_eq_false_iff_ne, bne_eq_false_iff_eq, ne_eq, Classical.not_not, Int.toNat_natCast, vrow_I, Arm.eta2, Fld.eta, Grp.eta]
    simp only [Tl_A]; omega
  · simp only [hH, stdH, Int.toNat_natCast] at h
    simp only [Tl_A, Arm.eta2, Fld.eta, Grp.eta, allG] at h
    change (bif bif !okLs l then true else !okA a then true else noG a.r) = true at h
    rw [fr_cond, Bool.not_eq_true'] at h
    rw [h]
    try simp only [hH, stdH, decide_eq_true_eq, decide_eq_false_iff_not, Bool.not_eq_true', Bool.not_eq_false', peta, ncast, Int.ofNat_eq_natCast, beq_iff_eq, bne_iff_ne, beq_eq_false_iff_ne, bne_eq_false_iff_eq, ne_eq, Classical.not_not, Int.toNat_natCast, vrow_I, Arm.eta2, Fld.eta, Grp.eta]
    exact ⟨trivial, rfl⟩
  · simp only [hH, stdH, Int.toNat_natCast] at h
    simp only [Tl_A, Arm.eta2, Fld.eta, Grp.eta, allG] at h
    change (bif bif !okLs l then true else !okA a then true else noG a.r) = false at h
    rw [fr_cond, Bool.not_eq_false'] at h
    rw [h]
    simp only [if_true]
    refine loop_a hB (draw_ok hB mixed) hX hX0 hH false (ι := { k : Nat // k ≤ 9 }) 300 (fun k => [.r (H Nat fun _ => (frT l a k.1).length) (rowsI H fun _ => frT l a k.1), .i (H Int fun _ => ((k.1 + 1 : Nat) : Int)), .i (H Int fun _ => (aK a k.1).f.d), .i (H Int fun _ => (aK a k.1).f.l), .i (H Int fun _ => (aK a k.1).f.p), .i (H Int fun _ => (aK a k.1).f.q), .i (H Int fun _ => (aK a k.1).o), .i (H Int fun _ => (aK a k.1).l), .i (H Int fun _ => (aK a k.1).t), .i (H Int fun _ => (aK a k.1).n.c), .i (H Int fun _ => (aK a k.1).n.k), .i (H Int fun _ => (aK a k.1).n.a), .i (H Int fun _ => (aK a k.1).n.t), .i (H Int fun _ => (aK a k.1).r.c), .i (H Int fun _ => (aK a k.1).r.k), .i (H Int fun _ => (aK a k.1).r.a), .i (H Int fun _ => (aK a k.1).r.t)]) (fun k => 9 - k.1) (⟨0, by omega⟩) ?_ ?_
    · (conv in matchSt _ _ _ _ => cbv); simp only [AllG, AllP, and_true, hH, stdH, ncast, Int.ofNat_eq_natCast, vrow_I, Arm.eta2, Fld.eta, Grp.eta]
      (repeat' (first | trivial | exact RowsEq.ofT okI rfl (Shp_zero _) rfl | exact RowsEq.self okRA | rfl | refine And.intro ?_ ?_))
    · intro I hI k
      conv in Fin.chk _ _ => cbv
      try simp only [Plain_rowsA, Plain_rowsB, Plain_rowsF, Plain_rowsG, Plain_rowsI, Plain_rowsS, Plain_rowsU, Fin.satC_ret, Fin.satC_br, Fin.satC_need, Fin.satC_again, AllP, and_true, true_and, upd, List.length_nil, List.length_cons, Nat.zero_add, if_true, ncast, Int.ofNat_eq_natCast]
      obtain ⟨k, hk⟩ := k
      obtain ⟨p1, p2, p3, p4, p5, p6, p7, p8⟩ := aK_p a k
      have hfl := frT_len l a k
      refine ⟨fun h1 => ⟨⟨?_, ?_⟩, fun h2 => ⟨?_, ?_⟩, fun h2 => ?_⟩, fun h1 => ?_⟩
      · try simp only [hH, stdH, decide_eq_true_eq, decide_eq_false_iff_not, Bool.not_eq_true', Bool.not_eq_false', peta, ncast, Int.ofNat_eq_natCast, beq_iff_eq, bne_iff_ne, beq_eq_false_iff_ne, bne_eq_false_iff_eq, ne_eq, Classical.not_not, Int.toNat_natCast, vrow_I, Arm.eta2, Fld.eta, Grp.eta]
        exact Shp_A _ _
      · try simp only [hH, stdH, decide_eq_true_eq, decide_eq_false_iff_not, Bool.not_eq_true', Bool.not_eq_false', peta, ncast, Int.ofNat_eq_natCast, beq_iff_eq, bne_iff_ne, beq_eq_false_iff_ne, bne_eq_false_iff_eq, ne_eq, Classical.not_not, Int.toNat_natCast, vrow_I, Arm.eta2, Fld.eta, Grp.eta]
        simp only [Tl_A]; omega
      · try simp only [hH, stdH, decide_eq_true_eq, decide_eq_false_iff_not, Bool.not_eq_true', Bool.not_eq_false', peta, ncast, Int.ofNat_eq_natCast, beq_iff_eq, bne_iff_ne, beq_eq_false_iff_ne, bne_eq_false_iff_eq, ne_eq, Classical.not_not, Int.toNat_natCast, vrow_I, Arm.eta2, Fld.eta, Grp.eta]
        exact ⟨trivial, by omega, by omega⟩
      · simp only [hH, stdH, decide_eq_true_eq, decide_eq_false_iff_not, Bool.not_eq_true', Bool.not_eq_false', peta, ncast, Int.ofNat_eq_natCast, beq_iff_eq, bne_iff_ne, beq_eq_false_iff_ne, bne_eq_false_iff_eq, ne_eq, Classical.not_not, Int.toNat_natCast, vrow_I, Arm.eta2, Fld.eta, Grp.eta] at h1
        have hk9 : k < 9 := by omega
        simp only [hH, stdH, Int.toNat_natCast] at h2
        simp only [Tl_A, aK_eq] at h2
        have ef := frT_succ (l := l) (a := a) hk9
        rw [if_pos (show freeX l a ((k + 1 : Nat) : Int) = true from h2)] at ef
        refine ⟨⟨k + 1, by omega⟩, by simp only; omega, ?_⟩
        rw [hI]
        (conv in matchSt _ _ _ _ => cbv); simp only [AllG, AllP, and_true, hH, stdH, ncast, Int.ofNat_eq_natCast, vrow_I, Arm.eta2, Fld.eta, Grp.eta]
        obtain ⟨q1, q2, q3, q4, q5, q6, q7, q8⟩ := aK_p a (k + 1)
        rw [w1 (by omega), ef, q1, q2, q3, q4, q5, q6, q7, q8, p1, p2, p3, p4, p5, p6, p7, p8]
        (repeat' (first | trivial | exact RowsEq.more okI (Shp_I _ _) (Tl_I _) | exact List.length_append | exact RowsEq.self okRA | rfl | refine And.intro ?_ ?_))
      · simp only [hH, stdH, decide_eq_true_eq, decide_eq_false_iff_not, Bool.not_eq_true', Bool.not_eq_false', peta, ncast, Int.ofNat_eq_natCast, beq_iff_eq, bne_iff_ne, beq_eq_false_iff_ne, bne_eq_false_iff_eq, ne_eq, Classical.not_not, Int.toNat_natCast, vrow_I, Arm.eta2, Fld.eta, Grp.eta] at h1
        have hk9 : k < 9 := by omega
        simp only [hH, stdH, Int.toNat_natCast] at h2
        simp only [Tl_A, aK_eq] at h2
        have ef := frT_succ (l := l) (a := a) hk9
        rw [if_neg (show ¬ freeX l a ((k + 1 : Nat) : Int) = true from fun e => by rw [show (!l.any fun y => decide (dI (withT a ((k + 1 : Nat) : Int)) y < 2)) = true from e] at h2; cases h2)] at ef
        refine ⟨⟨k + 1, by omega⟩, by simp only; omega, ?_⟩
        rw [hI]
        (conv in matchSt _ _ _ _ => cbv); simp only [AllG, AllP, and_true, hH, stdH, ncast, Int.ofNat_eq_natCast, vrow_I, Arm.eta2, Fld.eta, Grp.eta]
        obtain ⟨q1, q2, q3, q4, q5, q6, q7, q8⟩ := aK_p a (k + 1)
        rw [w1 (by omega), ef, q1, q2, q3, q4, q5, q6, q7, q8, p1, p2, p3, p4, p5, p6, p7, p8]
        (repeat' (first | trivial | exact RowsEq.self okI | exact RowsEq.self okRA | rfl | refine And.intro ?_ ?_))
      · simp only [hH, stdH, decide_eq_true_eq, decide_eq_false_iff_not, Bool.not_eq_true', Bool.not_eq_false', peta, ncast, Int.ofNat_eq_natCast, beq_iff_eq, bne_iff_ne, beq_eq_false_iff_ne, bne_eq_false_iff_eq, ne_eq, Classical.not_not, Int.toNat_natCast, vrow_I, Arm.eta2, Fld.eta, Grp.eta] at h1
        obtain rfl : k = 9 := by omega
        try simp only [hH, stdH, decide_eq_true_eq, decide_eq_false_iff_not, Bool.not_eq_true', Bool.not_eq_false', peta, ncast, Int.ofNat_eq_natCast, beq_iff_eq, bne_iff_ne, beq_eq_false_iff_ne, bne_eq_false_iff_eq, ne_eq, Classical.not_not, Int.toNat_natCast, vrow_I, Arm.eta2, Fld.eta, Grp.eta]
        exact ⟨trivial, RowsEq.self okI⟩
noncomputable def e_freeH : Entry := pureE 13 fun H a => match a with
  | [.vec 15 ln lf, .agg [.lit (.int .i64 a0), .lit (.int .i64 a1), .lit (.int .i64 a2), .lit (.int .i64 a3), .lit (.int .i64 a4), .lit (.int .i64 a5), .lit (.int .i64 a6), .lit (.int .i64 a7), .lit (.int .i64 a8), .lit (.int .i64 a9), .lit (.int .i64 a10), .lit (.int .i64 a11), .lit (.int .i64 a12), .lit (.int .i64 a13), .lit (.int .i64 a14)]] => some (.tup [.vec 1 (H Nat fun _ => (if okFr (Tl rowA ln lf) (⟨⟨a0, a1, a2, a3⟩, a4, a5, a6, ⟨a7, a8, a9, a10⟩, ⟨a11, a12, a13, a14⟩⟩ : Arm) then frT (Tl rowA ln lf) (⟨⟨a0, a1, a2, a3⟩, a4, a5, a6, ⟨a7, a8, a9, a10⟩, ⟨a11, a12, a13, a14⟩⟩ : Arm) 9 else []).length) (rowsI H fun _ => if okFr (Tl rowA ln lf) (⟨⟨a0, a1, a2, a3⟩, a4, a5, a6, ⟨a7, a8, a9, a10⟩, ⟨a11, a12, a13, a14⟩⟩ : Arm) then frT (Tl rowA ln lf) (⟨⟨a0, a1, a2, a3⟩, a4, a5, a6, ⟨a7, a8, a9, a10⟩, ⟨a11, a12, a13, a14⟩⟩ : Arm) 9 else []), .lit (.bool (H Bool fun _ => okFr (Tl rowA ln lf) (⟨⟨a0, a1, a2, a3⟩, a4, a5, a6, ⟨a7, a8, a9, a10⟩, ⟨a11, a12, a13, a14⟩⟩ : Arm)))], [H Prop fun _ => Shp rowA ln lf, H Prop fun _ => (Tl rowA ln lf).length ≤ 100])
  | _ => none
theorem eok_freeH : EntryOk Try.prog e_freeH := pureM_ok (by unfold isBody; kernel_rfl) (by
  intro a r ob e hob
  split at e
  · rename_i ln lf a0 a1 a2 a3 a4 a5 a6 a7 a8 a9 a10 a11 a12 a13 a14
    simp only [Option.some.injEq, Prod.mk.injEq] at e
    obtain ⟨rfl, rfl⟩ := e
    exact ConN.args (.cons (.toT okRA rfl hob.1) (.cons .rfl .nil)) (c_freeH (Tl rowA ln lf) (⟨⟨a0, a1, a2, a3⟩, a4, a5, a6, ⟨a7, a8, a9, a10⟩, ⟨a11, a12, a13, a14⟩⟩ : Arm) hob.2.1)
  · simp at e)

end Go.Proofs.Ythilcnfnbgbkdaa.AM
