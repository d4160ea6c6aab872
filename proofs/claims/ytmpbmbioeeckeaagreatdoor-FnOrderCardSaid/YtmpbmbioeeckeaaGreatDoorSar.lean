import Derived.Test.YtmpbmbioeeckeaaGreatDoorAmT
import Derived.Test.YtmpbmbioeeckeaaGreatDoorSrt
import Derived.Test.YtmpbmbioeeckeaaGreatDoorShf
import Derived.Test.YtmpbmbioeeckeaaGreatDoorQtr
import Derived.Test.YtmpbmbioeeckeaaGreatDoorWra
set_option linter.unusedVariables false
set_option linter.unusedSimpArgs false
set_option maxRecDepth 100000
set_option maxHeartbeats 4000000
set_option cbv.maxSteps 3000000
namespace Go.Proofs.YtmpbmbioeeckeaaGreatDoor.AM
/- Arms sorted by their texts, by the library's stable sort; conditions: none. -/
theorem c_cmpS (a b : ByteArray) : Con Tryz.prog 19 [.lit (.string a), .lit (.string b)] [] (.lit (.int .i64 (Lib.compareBytes a.data.toList b.data.toList))) [] :=
  con_shelf (l := [.string a, .string b]) (fun _ => .lit rfl) fun w _ => (Tryz.strings_Compare a b w).mono fun e w' ⟨h1, h2⟩ => ⟨h1, 0, h2⟩
noncomputable def e_cmpS : Entry := pureE 19 fun H a => match a with
  | [.lit (.string a), .lit (.string b)] => some (.lit (.int .i64 (H Int fun _ => (Lib.compareBytes a.data.toList b.data.toList))), [])
  | _ => none
theorem eok_cmpS : EntryOk Tryz.prog e_cmpS := pureE_ok (by unfold isBody; kernel_rfl) (by
  intro a r ob e hob
  split at e
  · simp only [Option.some.injEq, Prod.mk.injEq] at e
    obtain ⟨rfl, rfl⟩ := e
    exact c_cmpS _ _
  · simp at e)
def ltS (a b : ByteArray) : Bool := Op.bytesLess a.toList b.toList
theorem cmpB_lt : ∀ a b : List UInt8, decide (Lib.compareBytes a b < 0) = Op.bytesLess a b
  | [], [] => rfl
  | [], _ :: _ => rfl
  | _ :: _, [] => rfl
  | a :: a2, b :: b2 => by
    unfold Lib.compareBytes Op.bytesLess
    by_cases h1 : a < b
    · simp [h1]
    · by_cases h2 : b < a
      · simp [h1, h2]
        intro h
        subst h
        exact absurd h2 h1
      · have h3 : a = b := by
          have h4 : ¬ a.toNat < b.toNat := h1
          have h5 : ¬ b.toNat < a.toNat := h2
          exact UInt8.toNat_inj.1 (by omega)
        subst h3
        simp [h1, cmpB_lt a2 b2]
theorem c_cmpT (x : Int) (y : Int) (t : List ByteArray) (h0 : 0 ≤ x ∧ x < (t.length : Nat) ∧ 0 ≤ y ∧ y < (t.length : Nat)) : ConN Tryz.prog 18 [.lit (.int .i64 x), .lit (.int .i64 y), .rptr [.vec 1 (stdH Nat fun _ => (t).length) (rowsS stdH fun _ => t)]] [] 0 (.lit (.int .i64 (stdH Int fun _ => Lib.compareBytes (t.getD x.toNat ByteArray.empty).data.toList (t.getD y.toNat ByteArray.empty).data.toList))) [] [] := by
  have hB : Base Tryz.prog (tabΓ [e_cmpS]) tab := base_of tabOk (ents_cons eok_cmpS <| ents_nil)
  refine con_m (N := 15) hB (draw_ok hB mixed) Tryz.func18 rfl rfl (fun H => [.lit (.int .i64 x), .lit (.int .i64 y), .rptr [.vec 1 (H Nat fun _ => (t).length) (rowsS H fun _ => t)]]) (fun _ => []) 0 (fun H => .lit (.int .i64 (H Int fun _ => Lib.compareBytes (t.getD x.toNat ByteArray.empty).data.toList (t.getD y.toNat ByteArray.empty).data.toList))) (fun H => []) (fun _ => []) 100 (by simp) (fun x hx => ?_) (by simp [lk]) (by omega) (by simp) ?_
  · simp only [List.mem_cons, List.not_mem_nil, or_false] at hx
    rcases hx with rfl | rfl | rfl
    · exact .lit
    · exact .lit
    · exact (by
        refine .rptr ?_
        intro c hc
        simp only [List.mem_cons, List.not_mem_nil, or_false] at hc
        rcases hc with rfl
        · exact vl_bl okS t _)
  intro X hX hX0 H hH
  conv in Fin.chk _ _ => cbv
  try simp only [Plain_rowsA, Plain_rowsB, Plain_rowsC, Plain_rowsF, Plain_rowsG, Plain_rowsI, Plain_rowsS, Plain_rowsU, Fin.satC_ret, Fin.satC_br, Fin.satC_need, Fin.satC_again, AllP, and_true, true_and, upd, List.length_nil, List.length_cons, Nat.zero_add, if_true, ncast, Int.ofNat_eq_natCast]
  obtain ⟨h0, h1, h2, h3⟩ := h0
  subst hH
  exact ⟨⟨h0, h1⟩, ⟨h2, h3⟩, rfl⟩
noncomputable def e_cmpT : Entry := pureE 18 fun H a => match a with
  | [.lit (.int .i64 x), .lit (.int .i64 y), .rptr [.vec 1 tn tf]] => some (.lit (.int .i64 (H Int fun _ => Lib.compareBytes ((Tl rowS tn tf).getD x.toNat ByteArray.empty).data.toList ((Tl rowS tn tf).getD y.toNat ByteArray.empty).data.toList)), [H Prop fun _ => Shp rowS tn tf, H Prop fun _ => 0 ≤ x ∧ x < ((Tl rowS tn tf).length : Nat) ∧ 0 ≤ y ∧ y < ((Tl rowS tn tf).length : Nat)])
  | _ => none
theorem eok_cmpT : EntryOk Tryz.prog e_cmpT := pureM_ok (by unfold isBody; kernel_rfl) (by
  intro a r ob e hob
  split at e
  · rename_i x y tn tf
    simp only [Option.some.injEq, Prod.mk.injEq] at e
    obtain ⟨rfl, rfl⟩ := e
    exact ConN.args (.cons .rfl (.cons .rfl (.cons (.rptr (.cons (.toT okS rfl hob.1) .nil)) .nil))) (c_cmpT x y (Tl rowS tn tf) hob.2.1)
  · simp at e)
def ltX (t : List ByteArray) (x y : Int) : Bool := ltS (t.getD x.toNat ByteArray.empty) (t.getD y.toNat ByteArray.empty)
theorem ltX_cmp {t : List ByteArray} {x y : Int} : decide (Lib.compareBytes (t.getD x.toNat ByteArray.empty).data.toList (t.getD y.toNat ByteArray.empty).data.toList < 0) = ltX t x y := by
  rw [cmpB_lt]
  unfold ltX ltS
  rw [ByteArray.toList_eq, ByteArray.toList_eq]
def inR (n : Nat) (x : Int) : Prop := 0 ≤ x ∧ x < (n : Nat)
theorem obT {j : Nat} {m : List Int} {t : List ByteArray} {w : Int} (hv : ∀ q, q < m.length → inR t.length (m.getD q 0)) (hj : j < m.length) (q0 : 0 < j → w = ((j - 1 : Nat) : Int)) : (decide (0 < (j : Int)) = true → Shp rowS t.length (rowsS stdH fun _ => t)) ∧ (decide (0 < (j : Int)) = true → 0 ≤ m.getD (j : Int).toNat 0 ∧ m.getD (j : Int).toNat 0 < ((Tl rowS t.length (rowsS stdH fun _ => t)).length : Nat) ∧ 0 ≤ m.getD w.toNat 0 ∧ m.getD w.toNat 0 < ((Tl rowS t.length (rowsS stdH fun _ => t)).length : Nat)) := by
  refine ⟨fun _ => Shp_S _ _, fun h => ?_⟩
  have h1 : 0 < j := by simpa using h
  rw [q0 h1, Tl_S, Int.toNat_natCast, Int.toNat_natCast]
  obtain ⟨a, b⟩ := hv j hj
  obtain ⟨c, d⟩ := hv (j - 1) (by omega)
  exact ⟨a, b, c, d⟩
theorem c_isortT (l : List Int) (a : Int) (b : Int) (cmp0 : List ByteArray) (h0 : l.length ≤ 2000000) (h1 : b = l.length) (h2 : a = 0 ∨ a = l.length) (h3 : ∀ x ∈ l, inR cmp0.length x) : ConN Tryz.prog 72 [.slc 0 0 1 (stdH Nat fun _ => l.length), .lit (.int .i64 a), .lit (.int .i64 b), .fn (.func 18) [] [.rptr [.vec 1 (stdH Nat fun _ => (cmp0).length) (rowsS stdH fun _ => cmp0)]]] [(0, .rows 1 (stdH Nat fun _ => l.length) (rowsI stdH fun _ => l) 3)] 1 (.tup []) [] [(0, .rows 1 (stdH Nat fun _ => l.length) (rowsI stdH fun _ => if a = 0 then isr (ltX cmp0) 0 l (l.length - 1) else l) 3)] := by
  have hB : Base Tryz.prog (tabΓ [e_cmpT]) tab := base_of tabOk (ents_cons eok_cmpT <| ents_nil)
  refine con_m (N := 53) hB (draw_ok hB mixed) Tryz.func72 rfl rfl (fun H => [.slc 0 0 1 (H Nat fun _ => l.length), .lit (.int .i64 a), .lit (.int .i64 b), .fn (.func 18) [] [.rptr [.vec 1 (H Nat fun _ => (cmp0).length) (rowsS H fun _ => cmp0)]]]) (fun H => [(0, .rows 1 (H Nat fun _ => l.length) (rowsI H fun _ => l) 3)]) 1 (fun H => .tup []) (fun H => []) (fun H => [(0, .rows 1 (H Nat fun _ => l.length) (rowsI H fun _ => if a = 0 then isr (ltX cmp0) 0 l (l.length - 1) else l) 3)]) 300 (by simp) (fun x hx => ?_) (fun i b hi => ?_) (fun i hi => ?_) (fun i b hi => ?_) ?_
  · simp only [List.mem_cons, List.not_mem_nil, or_false] at hx
    rcases hx with rfl | rfl | rfl | rfl
    · exact .slc (by omega)
    · exact .lit
    · exact .lit
    · exact (by
        refine .fn (fun c hc => by cases hc) ?_
        intro c hc
        simp only [List.mem_cons, List.not_mem_nil, or_false] at hc
        rcases hc with rfl
        · exact (by
        refine .rptr ?_
        intro c hc
        simp only [List.mem_cons, List.not_mem_nil, or_false] at hc
        rcases hc with rfl
        · exact vl_bl okS cmp0 _))
  · have := lk_in hi
    simp only [List.mem_cons, List.not_mem_nil, or_false, Prod.mk.injEq] at this
    obtain ⟨rfl, rfl⟩ := this
    exact ⟨by omega, bT_bl okI _ (fun _ => l) _, _, List.mem_cons_self⟩
  · obtain rfl : i = 0 := by omega
    exact ⟨_, rfl⟩
  · simp only [List.mem_cons, List.not_mem_nil, or_false, Prod.mk.injEq] at hi
    obtain ⟨rfl, rfl⟩ := hi
    exact ⟨_, rfl⟩
  intro X hX hX0 H hH
  conv in Fin.chk _ _ => cbv
  try simp only [Plain_rowsA, Plain_rowsB, Plain_rowsC, Plain_rowsF, Plain_rowsG, Plain_rowsI, Plain_rowsS, Plain_rowsU, Fin.satC_ret, Fin.satC_br, Fin.satC_need, Fin.satC_again, AllP, and_true, true_and, upd, List.length_nil, List.length_cons, Nat.zero_add, if_true, ncast, Int.ofNat_eq_natCast]
  rcases h2 with rfl | h2
  · rw [if_pos rfl]
    refine loop_a hB (draw_ok hB mixed) hX hX0 hH false (ι := { i : Nat // i ≤ l.length - 1 }) 300 (fun i => [.r (H Nat fun _ => (isr (ltX cmp0) 0 l i.1).length) (rowsI H fun _ => isr (ltX cmp0) 0 l i.1), .i (H Int fun _ => ((i.1 : Nat) : Int) + 1)]) (fun i => l.length - i.1) (⟨0, by omega⟩) ?_ ?_
    · (conv in matchSt _ _ _ _ => cbv); simp only [AllG, AllP, and_true, hH, stdH, ncast, Int.ofNat_eq_natCast, vrow_I, Arm.eta2, Fld.eta, Grp.eta]
      (repeat' (first | rfl | trivial | exact RowsEq.self okI | exact RowsEq.ofT okI rfl (Shp_zero _) rfl | exact RowsEq.snoc okI rfl | exact RowsEq.more okI (Shp_I _ _) (Tl_I _) | exact RowsEq.self okS | exact RowsEq.ofT okS rfl (Shp_zero _) rfl | exact RowsEq.snoc okS rfl | exact RowsEq.more okS (Shp_S _ _) (Tl_S _) | exact RowsEq.self okI | exact RowsEq.ofT okI rfl (Shp_zero _) rfl | exact RowsEq.snoc okI rfl | exact RowsEq.more okI (Shp_I _ _) (Tl_I _) | exact RowsEq.self okI | exact RowsEq.self okRA | exact List.length_append | refine And.intro ?_ ?_))
    · intro I hI i
      conv in Fin.chk _ _ => cbv
      try simp only [Plain_rowsA, Plain_rowsB, Plain_rowsC, Plain_rowsF, Plain_rowsG, Plain_rowsI, Plain_rowsS, Plain_rowsU, Fin.satC_ret, Fin.satC_br, Fin.satC_need, Fin.satC_again, AllP, and_true, true_and, upd, List.length_nil, List.length_cons, Nat.zero_add, if_true, ncast, Int.ofNat_eq_natCast]
      obtain ⟨i, hi⟩ := i
      have hl := isr_len (ltX cmp0) 0 l i
      refine ⟨fun k1 => ?_, fun k1 => ?_⟩
      · simp only [hH, stdH, decide_eq_true_eq, decide_eq_false_iff_not, Bool.not_eq_true', Bool.not_eq_false', peta, ncast, Int.ofNat_eq_natCast, beq_iff_eq, bne_iff_ne, beq_eq_false_iff_ne, bne_eq_false_iff_eq, ne_eq, Classical.not_not, Int.toNat_natCast, vrow_I, Arm.eta2, Fld.eta, Grp.eta] at k1
        refine loop_a hB (draw_ok hB mixed) hX hX0 hH true (ι := { p : Nat × List _ // p.1 ≤ i + 1 ∧ p.2.length = l.length ∧ bub (ltX cmp0) 0 p.1 p.2 = isr (ltX cmp0) 0 l (i + 1) ∧ ∀ x ∈ p.2, inR cmp0.length x }) 300 (fun p => [.r (H Nat fun _ => (p.1.2).length) (rowsI H fun _ => p.1.2), .i (H Int fun _ => (p.1.1 : Nat))]) (fun p => p.1.1) (⟨(i + 1, isr (ltX cmp0) 0 l i), Nat.le_refl _, hl, rfl, fun x hx => h3 x (isr_mem (by omega) hx)⟩) ?_ ?_
        · (conv in matchSt _ _ _ _ => cbv); simp only [AllG, AllP, and_true, hH, stdH, ncast, Int.ofNat_eq_natCast, vrow_I, Arm.eta2, Fld.eta, Grp.eta]
          (repeat' (first | rfl | trivial | exact RowsEq.self okI | exact RowsEq.ofT okI rfl (Shp_zero _) rfl | exact RowsEq.snoc okI rfl | exact RowsEq.more okI (Shp_I _ _) (Tl_I _) | exact RowsEq.self okS | exact RowsEq.ofT okS rfl (Shp_zero _) rfl | exact RowsEq.snoc okS rfl | exact RowsEq.more okS (Shp_S _ _) (Tl_S _) | exact RowsEq.self okI | exact RowsEq.ofT okI rfl (Shp_zero _) rfl | exact RowsEq.snoc okI rfl | exact RowsEq.more okI (Shp_I _ _) (Tl_I _) | exact RowsEq.self okI | exact RowsEq.self okRA | exact List.length_append | refine And.intro ?_ ?_))
        · intro J hJ p
          conv in Fin.chk _ _ => cbv
          try simp only [Plain_rowsA, Plain_rowsB, Plain_rowsC, Plain_rowsF, Plain_rowsG, Plain_rowsI, Plain_rowsS, Plain_rowsU, Fin.satC_ret, Fin.satC_br, Fin.satC_need, Fin.satC_again, AllP, and_true, true_and, upd, List.length_nil, List.length_cons, Nat.zero_add, if_true, ncast, Int.ofNat_eq_natCast]
          obtain ⟨⟨j, m⟩, hj, hm, hbu, hmem⟩ := p
          dsimp only at hj hm hbu hmem
          have q0 : 0 < j → IntKind.i64.wrap ((j : Int) - 1) = ((j - 1 : Nat) : Int) := fun h => wsub h (by omega)
          have hv : ∀ q, q < m.length → inR cmp0.length (m.getD q 0) := fun q hq => hmem _ (getDm hq)
          refine ⟨?_, ?_, ?_, ?_, ?_, fun h2 => ?_, fun h2 => ?_⟩
          · try simp only [hH, stdH, decide_eq_true_eq, decide_eq_false_iff_not, Bool.not_eq_true', Bool.not_eq_false', peta, ncast, Int.ofNat_eq_natCast, beq_iff_eq, bne_iff_ne, beq_eq_false_iff_ne, bne_eq_false_iff_eq, ne_eq, Classical.not_not, Int.toNat_natCast, vrow_I, Arm.eta2, Fld.eta, Grp.eta]
            omega
          · try simp only [hH, stdH, decide_eq_true_eq, decide_eq_false_iff_not, Bool.not_eq_true', Bool.not_eq_false', peta, ncast, Int.ofNat_eq_natCast, beq_iff_eq, bne_iff_ne, beq_eq_false_iff_ne, bne_eq_false_iff_eq, ne_eq, Classical.not_not, Int.toNat_natCast, vrow_I, Arm.eta2, Fld.eta, Grp.eta]
            intro _
            exact ⟨by omega, rfl⟩
          · try simp only [hH, stdH, decide_eq_true_eq, decide_eq_false_iff_not, Bool.not_eq_true', Bool.not_eq_false', peta, ncast, Int.ofNat_eq_natCast, beq_iff_eq, bne_iff_ne, beq_eq_false_iff_ne, bne_eq_false_iff_eq, ne_eq, Classical.not_not, Int.toNat_natCast, vrow_I, Arm.eta2, Fld.eta, Grp.eta]
            intro h
            rw [q0 (by omega)]
            omega
          · try simp only [hH, stdH, decide_eq_true_eq, decide_eq_false_iff_not, Bool.not_eq_true', Bool.not_eq_false', peta, ncast, Int.ofNat_eq_natCast, beq_iff_eq, bne_iff_ne, beq_eq_false_iff_ne, bne_eq_false_iff_eq, ne_eq, Classical.not_not, Int.toNat_natCast, vrow_I, Arm.eta2, Fld.eta, Grp.eta]
            intro h
            rw [q0 (by omega)]
            exact ⟨by omega, rfl⟩
          · (subst hH; exact obT (j := j) (m := m) hv (by omega) q0)
          · have h3 : 0 < j ∧ (ltX cmp0) (m.getD j 0) (m.getD (j - 1) 0) = true := by
              simp only [hH, stdH, decide_eq_true_eq, decide_eq_false_iff_not, Bool.not_eq_true', Bool.not_eq_false', peta, ncast, Int.ofNat_eq_natCast, beq_iff_eq, bne_iff_ne, beq_eq_false_iff_ne, bne_eq_false_iff_eq, ne_eq, Classical.not_not, Int.toNat_natCast, vrow_I, Arm.eta2, Fld.eta, Grp.eta] at h2
              cases hj0 : decide (0 < (j : Int)) <;> simp only [hj0, cond_true, cond_false] at h2
              · cases h2
              · rw [decide_eq_true_eq] at hj0
                rw [q0 (by omega)] at h2
                refine ⟨by omega, ?_⟩
                (simp only [Tl_S, Int.toNat_natCast] at h2; exact ltX_cmp.symm.trans h2)
            obtain ⟨k, rfl⟩ : ∃ k, j = k + 1 := ⟨j - 1, by omega⟩
            have e1 := q0 h3.1
            rw [Nat.add_sub_cancel] at e1 h3
            have hb2 := bub_yes (lt := (ltX cmp0)) (d := 0) (j := k) (l := m) h3.2
            refine ⟨?_, ?_, ?_, ?_, ?_, ?_, ?_, ?_, ⟨(k, swp 0 m (k + 1)), by dsimp only; omega, (swp_len _ _ _).trans hm, hb2.symm.trans hbu, fun x hx => hmem x (swp_mem (by omega) hx)⟩, Nat.lt_succ_self _, ?_⟩
            · try simp only [hH, stdH, decide_eq_true_eq, decide_eq_false_iff_not, Bool.not_eq_true', Bool.not_eq_false', peta, ncast, Int.ofNat_eq_natCast, beq_iff_eq, bne_iff_ne, beq_eq_false_iff_ne, bne_eq_false_iff_eq, ne_eq, Classical.not_not, Int.toNat_natCast, vrow_I, Arm.eta2, Fld.eta, Grp.eta]
              rw [e1]
              omega
            · try simp only [hH, stdH, decide_eq_true_eq, decide_eq_false_iff_not, Bool.not_eq_true', Bool.not_eq_false', peta, ncast, Int.ofNat_eq_natCast, beq_iff_eq, bne_iff_ne, beq_eq_false_iff_ne, bne_eq_false_iff_eq, ne_eq, Classical.not_not, Int.toNat_natCast, vrow_I, Arm.eta2, Fld.eta, Grp.eta]
              rw [e1]
              exact ⟨by omega, rfl⟩
            · try simp only [hH, stdH, decide_eq_true_eq, decide_eq_false_iff_not, Bool.not_eq_true', Bool.not_eq_false', peta, ncast, Int.ofNat_eq_natCast, beq_iff_eq, bne_iff_ne, beq_eq_false_iff_ne, bne_eq_false_iff_eq, ne_eq, Classical.not_not, Int.toNat_natCast, vrow_I, Arm.eta2, Fld.eta, Grp.eta]
              omega
            · try simp only [hH, stdH, decide_eq_true_eq, decide_eq_false_iff_not, Bool.not_eq_true', Bool.not_eq_false', peta, ncast, Int.ofNat_eq_natCast, beq_iff_eq, bne_iff_ne, beq_eq_false_iff_ne, bne_eq_false_iff_eq, ne_eq, Classical.not_not, Int.toNat_natCast, vrow_I, Arm.eta2, Fld.eta, Grp.eta]
              exact ⟨by omega, rfl⟩
            · try simp only [hH, stdH, decide_eq_true_eq, decide_eq_false_iff_not, Bool.not_eq_true', Bool.not_eq_false', peta, ncast, Int.ofNat_eq_natCast, beq_iff_eq, bne_iff_ne, beq_eq_false_iff_ne, bne_eq_false_iff_eq, ne_eq, Classical.not_not, Int.toNat_natCast, vrow_I, Arm.eta2, Fld.eta, Grp.eta]
              omega
            · try simp only [hH, stdH, decide_eq_true_eq, decide_eq_false_iff_not, Bool.not_eq_true', Bool.not_eq_false', peta, ncast, Int.ofNat_eq_natCast, beq_iff_eq, bne_iff_ne, beq_eq_false_iff_ne, bne_eq_false_iff_eq, ne_eq, Classical.not_not, Int.toNat_natCast, vrow_I, Arm.eta2, Fld.eta, Grp.eta]
              exact ⟨by omega, rfl⟩
            · try simp only [hH, stdH, decide_eq_true_eq, decide_eq_false_iff_not, Bool.not_eq_true', Bool.not_eq_false', peta, ncast, Int.ofNat_eq_natCast, beq_iff_eq, bne_iff_ne, beq_eq_false_iff_ne, bne_eq_false_iff_eq, ne_eq, Classical.not_not, Int.toNat_natCast, vrow_I, Arm.eta2, Fld.eta, Grp.eta]
              rw [e1]
              omega
            · try simp only [hH, stdH, decide_eq_true_eq, decide_eq_false_iff_not, Bool.not_eq_true', Bool.not_eq_false', peta, ncast, Int.ofNat_eq_natCast, beq_iff_eq, bne_iff_ne, beq_eq_false_iff_ne, bne_eq_false_iff_eq, ne_eq, Classical.not_not, Int.toNat_natCast, vrow_I, Arm.eta2, Fld.eta, Grp.eta]
              rw [e1]
              refine ⟨by omega, ?_⟩
              unfold put1
              cases Nat.beq (Int.toNat k) (k + 1) <;> rfl
            · rw [hJ]
              (conv in matchSt _ _ _ _ => cbv); simp only [AllG, AllP, and_true, hH, stdH, ncast, Int.ofNat_eq_natCast, vrow_I, Arm.eta2, Fld.eta, Grp.eta]
              rw [e1]
              simp only [Int.toNat_natCast]
              (repeat' (first | trivial | exact RowsEq.ofT okI rfl (Shp_put1 (Shp_put1 (Shp_I _ _) rfl) rfl) (by rw [Tl_put1, Tl_put1, Tl_I]; rfl) | exact RowsEq.self okI | exact RowsEq.self okS | exact RowsEq.self okI | refine And.intro ?_ ?_))
          · have h3 : 0 < j → (ltX cmp0) (m.getD j 0) (m.getD (j - 1) 0) = false := fun hj0 => by
              simp only [hH, stdH, decide_eq_true_eq, decide_eq_false_iff_not, Bool.not_eq_true', Bool.not_eq_false', peta, ncast, Int.ofNat_eq_natCast, beq_iff_eq, bne_iff_ne, beq_eq_false_iff_ne, bne_eq_false_iff_eq, ne_eq, Classical.not_not, Int.toNat_natCast, vrow_I, Arm.eta2, Fld.eta, Grp.eta] at h2
              rw [decide_eq_true (show 0 < (j : Int) by omega), cond_true, q0 hj0] at h2
              (simp only [Tl_S, Int.toNat_natCast] at h2; exact ltX_cmp.symm.trans h2)
            have e2 : isr (ltX cmp0) 0 l (i + 1) = m := by
              rw [← hbu]
              cases j with
              | zero => rfl
              | succ k => exact bub_no (by have := h3 (by omega); rw [Nat.add_sub_cancel] at this; exact this)
            rw [if_neg (by decide)]
            refine ⟨⟨i + 1, by omega⟩, by simp only; omega, ?_⟩
            rw [hI]
            (conv in matchSt _ _ _ _ => cbv); simp only [AllG, AllP, and_true, hH, stdH, ncast, Int.ofNat_eq_natCast, vrow_I, Arm.eta2, Fld.eta, Grp.eta]
            rw [e2]
            (repeat' (first | trivial | exact RowsEq.self okI | exact RowsEq.self okS | exact RowsEq.self okI | (rw [wi] <;> omega) | refine And.intro ?_ ?_))
      · simp only [hH, stdH, decide_eq_true_eq, decide_eq_false_iff_not, Bool.not_eq_true', Bool.not_eq_false', peta, ncast, Int.ofNat_eq_natCast, beq_iff_eq, bne_iff_ne, beq_eq_false_iff_ne, bne_eq_false_iff_eq, ne_eq, Classical.not_not, Int.toNat_natCast, vrow_I, Arm.eta2, Fld.eta, Grp.eta] at k1 ⊢
        obtain rfl : i = l.length - 1 := by omega
        rw [hl]
        have := RowsEq.self okI (L := isr (ltX cmp0) 0 l (l.length - 1))
        rw [hl] at this
        exact this
  · refine loop_a hB (draw_ok hB mixed) hX hX0 hH false (ι := Unit) 300 (fun _ => [.r (H Nat fun _ => (l).length) (rowsI H fun _ => l), .i (H Int fun _ => a + 1)]) (fun _ => 0) (()) ?_ ?_
    · (conv in matchSt _ _ _ _ => cbv); simp only [AllG, AllP, and_true, hH, stdH, ncast, Int.ofNat_eq_natCast, vrow_I, Arm.eta2, Fld.eta, Grp.eta]
      (repeat' (first | rfl | trivial | exact RowsEq.self okI | exact RowsEq.ofT okI rfl (Shp_zero _) rfl | exact RowsEq.snoc okI rfl | exact RowsEq.more okI (Shp_I _ _) (Tl_I _) | exact RowsEq.self okS | exact RowsEq.ofT okS rfl (Shp_zero _) rfl | exact RowsEq.snoc okS rfl | exact RowsEq.more okS (Shp_S _ _) (Tl_S _) | exact RowsEq.self okI | exact RowsEq.self okRA | exact List.length_append | refine And.intro ?_ ?_))
      all_goals (rw [h2, wi] <;> omega)
    · intro I hI i
      conv in Fin.chk _ _ => cbv
      try simp only [Plain_rowsA, Plain_rowsB, Plain_rowsC, Plain_rowsF, Plain_rowsG, Plain_rowsI, Plain_rowsS, Plain_rowsU, Fin.satC_ret, Fin.satC_br, Fin.satC_need, Fin.satC_again, AllP, and_true, true_and, upd, List.length_nil, List.length_cons, Nat.zero_add, if_true, ncast, Int.ofNat_eq_natCast]
      refine ⟨fun k1 => ?_, fun k1 => ?_⟩
      · exfalso
        simp only [hH, stdH, decide_eq_true_eq, decide_eq_false_iff_not, Bool.not_eq_true', Bool.not_eq_false', peta, ncast, Int.ofNat_eq_natCast, beq_iff_eq, bne_iff_ne, beq_eq_false_iff_ne, bne_eq_false_iff_eq, ne_eq, Classical.not_not, Int.toNat_natCast, vrow_I, Arm.eta2, Fld.eta, Grp.eta] at k1
        omega
      · try simp only [hH, stdH, decide_eq_true_eq, decide_eq_false_iff_not, Bool.not_eq_true', Bool.not_eq_false', peta, ncast, Int.ofNat_eq_natCast, beq_iff_eq, bne_iff_ne, beq_eq_false_iff_ne, bne_eq_false_iff_eq, ne_eq, Classical.not_not, Int.toNat_natCast, vrow_I, Arm.eta2, Fld.eta, Grp.eta]
        by_cases ha : a = 0
        · have h0 : l.length = 0 := by omega
          have : l = [] := List.eq_nil_of_length_eq_zero h0
          subst this
          rw [if_pos ha]
          exact .self okI
        · rw [if_neg ha]
          exact .self okI
noncomputable def e_isortT : Entry := modE 72 1 3 fun H n g a => match a with
  | [.lit (.int .i64 a), .lit (.int .i64 b), .fn (.func 18) [] [.rptr [.vec 1 cmp0n cmp0f]]] => some (.tup [], rowsI H fun _ => if a = 0 then isr (ltX (Tl rowS cmp0n cmp0f)) 0 (Tl rowI n g) ((Tl rowI n g).length - 1) else (Tl rowI n g), [H Prop fun _ => Shp rowI n g, H Prop fun _ => Shp rowS cmp0n cmp0f, H Prop fun _ => (Tl rowI n g).length ≤ 2000000, H Prop fun _ => b = (Tl rowI n g).length, H Prop fun _ => a = 0 ∨ a = (Tl rowI n g).length, H Prop fun _ => ∀ x ∈ (Tl rowI n g), inR (Tl rowS cmp0n cmp0f).length x])
  | _ => none
theorem eok_isortT : EntryOk Tryz.prog e_isortT := modE_ok (by unfold isBody; kernel_rfl) (by
  intro n g a r g' ob e hob
  split at e
  · rename_i a b cmp0n cmp0f
    simp only [Option.some.injEq, Prod.mk.injEq] at e
    obtain ⟨rfl, rfl, rfl⟩ := e
    have hs := hob.1
    have hl : (Tl rowI n g).length = n := Tl_len n g
    refine ⟨rowsI stdH fun _ => Tl rowI n g, fun j hj => ⟨?_, ?_⟩, ?_, fun x hx => ?_, ?_, fun j hj => ?_⟩
    · rw [hs.row j hj]; exact ((okI).row (fun _ => Tl rowI n g) j).trans (by rw [Tl_getD hj])
    · exact rows_blx okI _ j
    · have := c_isortT (Tl rowI n g) a b (Tl rowS cmp0n cmp0f) hob.2.2.1 hob.2.2.2.1 hob.2.2.2.2.1 hob.2.2.2.2.2.1
      simp only [stdH, hl] at this ⊢
      exact ConN.args (.cons .rfl (.cons .rfl (.cons .rfl (.cons (.fn .nil (.cons (.rptr (.cons (.toT okS rfl hob.2.1) .nil)) .nil)) .nil)))) this
    · simp only [List.mem_cons, List.not_mem_nil, or_false] at hx
      rcases hx with rfl | rfl | rfl
      · exact .lit
      · exact .lit
      · exact (by
        refine .fn (fun c hc => by cases hc) ?_
        intro c hc
        simp only [List.mem_cons, List.not_mem_nil, or_false] at hc
        rcases hc with rfl
        · exact (by
        refine .rptr ?_
        intro c hc
        simp only [List.mem_cons, List.not_mem_nil, or_false] at hc
        rcases hc with rfl
        · exact (hob.2.1).bl okS _))
    · first | exact .lit | exact .tup fun x h => (by cases h)
    · exact rows_blx okI _ j
  · simp at e)
theorem c_stabT (l : List Int) (z : Int) (cmp0 : List ByteArray) (h0 : l.length ≤ 20) (h1 : z = l.length) (h2 : ∀ x ∈ l, inR cmp0.length x) : ConN Tryz.prog 45 [.slc 0 0 1 (stdH Nat fun _ => l.length), .lit (.int .i64 z), .fn (.func 18) [] [.rptr [.vec 1 (stdH Nat fun _ => (cmp0).length) (rowsS stdH fun _ => cmp0)]]] [(0, .rows 1 (stdH Nat fun _ => l.length) (rowsI stdH fun _ => l) 3)] 1 (.tup []) [] [(0, .rows 1 (stdH Nat fun _ => l.length) (rowsI stdH fun _ => isr (ltX cmp0) 0 l (l.length - 1)) 3)] := by
  have hB : Base Tryz.prog (tabΓ [e_isortT]) tab := base_of tabOk (ents_cons eok_isortT <| ents_nil)
  refine con_m (N := 63) hB (draw_ok hB mixed) Tryz.func45 rfl rfl (fun H => [.slc 0 0 1 (H Nat fun _ => l.length), .lit (.int .i64 z), .fn (.func 18) [] [.rptr [.vec 1 (H Nat fun _ => (cmp0).length) (rowsS H fun _ => cmp0)]]]) (fun H => [(0, .rows 1 (H Nat fun _ => l.length) (rowsI H fun _ => l) 3)]) 1 (fun H => .tup []) (fun H => []) (fun H => [(0, .rows 1 (H Nat fun _ => l.length) (rowsI H fun _ => isr (ltX cmp0) 0 l (l.length - 1)) 3)]) 300 (by simp) (fun x hx => ?_) (fun i b hi => ?_) (fun i hi => ?_) (fun i b hi => ?_) ?_
  · simp only [List.mem_cons, List.not_mem_nil, or_false] at hx
    rcases hx with rfl | rfl | rfl
    · exact .slc (by omega)
    · exact .lit
    · exact (by
        refine .fn (fun c hc => by cases hc) ?_
        intro c hc
        simp only [List.mem_cons, List.not_mem_nil, or_false] at hc
        rcases hc with rfl
        · exact (by
        refine .rptr ?_
        intro c hc
        simp only [List.mem_cons, List.not_mem_nil, or_false] at hc
        rcases hc with rfl
        · exact vl_bl okS cmp0 _))
  · have := lk_in hi
    simp only [List.mem_cons, List.not_mem_nil, or_false, Prod.mk.injEq] at this
    obtain ⟨rfl, rfl⟩ := this
    exact ⟨by omega, bT_bl okI _ (fun _ => l) _, _, List.mem_cons_self⟩
  · obtain rfl : i = 0 := by omega
    exact ⟨_, rfl⟩
  · simp only [List.mem_cons, List.not_mem_nil, or_false, Prod.mk.injEq] at hi
    obtain ⟨rfl, rfl⟩ := hi
    exact ⟨_, rfl⟩
  intro X hX hX0 H hH
  conv in Fin.chk _ _ => cbv
  try simp only [Plain_rowsA, Plain_rowsB, Plain_rowsC, Plain_rowsF, Plain_rowsG, Plain_rowsI, Plain_rowsS, Plain_rowsU, Fin.satC_ret, Fin.satC_br, Fin.satC_need, Fin.satC_again, AllP, and_true, true_and, upd, List.length_nil, List.length_cons, Nat.zero_add, if_true, ncast, Int.ofNat_eq_natCast]
  have hT : Tl rowI l.length (rowsI stdH fun _ => isr (ltX cmp0) 0 l (l.length - 1)) = isr (ltX cmp0) 0 l (l.length - 1) := by
    have := Tl_I (isr (ltX cmp0) 0 l (l.length - 1))
    rw [isr_len] at this
    exact this
  refine loop_a hB (draw_ok hB mixed) hX hX0 hH false (ι := { p : Bool // p = true → l.length = 20 }) 300 (fun p => [.r (H Nat fun _ => (if p.1 = true then isr (ltX cmp0) 0 l (l.length - 1) else l).length) (rowsI H fun _ => if p.1 = true then isr (ltX cmp0) 0 l (l.length - 1) else l), .i (H Int fun _ => if p.1 = true then 20 else 0), .i (H Int fun _ => if p.1 = true then 40 else 20)]) (fun p => if p.1 = true then 0 else 1) (⟨false, by simp⟩) ?_ ?_
  · (conv in matchSt _ _ _ _ => cbv); simp only [AllG, AllP, and_true, hH, stdH, ncast, Int.ofNat_eq_natCast, vrow_I, Arm.eta2, Fld.eta, Grp.eta]
    (repeat' (first | rfl | trivial | exact RowsEq.self okI | exact RowsEq.ofT okI rfl (Shp_zero _) rfl | exact RowsEq.snoc okI rfl | exact RowsEq.more okI (Shp_I _ _) (Tl_I _) | exact RowsEq.self okS | exact RowsEq.ofT okS rfl (Shp_zero _) rfl | exact RowsEq.snoc okS rfl | exact RowsEq.more okS (Shp_S _ _) (Tl_S _) | exact RowsEq.self okI | exact RowsEq.self okRA | exact List.length_append | refine And.intro ?_ ?_))
  · intro I hI p
    conv in Fin.chk _ _ => cbv
    try simp only [Plain_rowsA, Plain_rowsB, Plain_rowsC, Plain_rowsF, Plain_rowsG, Plain_rowsI, Plain_rowsS, Plain_rowsU, Fin.satC_ret, Fin.satC_br, Fin.satC_need, Fin.satC_again, AllP, and_true, true_and, upd, List.length_nil, List.length_cons, Nat.zero_add, if_true, ncast, Int.ofNat_eq_natCast]
    obtain ⟨p, hp⟩ := p
    cases p with
    | false =>
      refine ⟨fun k1 => ⟨?_, ⟨true, ?_⟩, by simp, ?_⟩, fun k1 => ⟨?_, ?_⟩⟩
      · simp only [hH, stdH, Bool.false_eq_true, if_false, Tl_I, Tl_S, decide_eq_true_eq] at k1 ⊢
        refine ⟨trivial, Shp_I _ _, Shp_S _ _, by omega, by omega, .inl trivial, h2⟩
      · intro _
        simp only [hH, stdH, Bool.false_eq_true, if_false, decide_eq_true_eq] at k1
        omega
      · rw [hI]
        (conv in matchSt _ _ _ _ => cbv); simp only [AllG, AllP, and_true, hH, stdH, ncast, Int.ofNat_eq_natCast, vrow_I, Arm.eta2, Fld.eta, Grp.eta]
        have := RowsEq.self okI (L := isr (ltX cmp0) 0 l (l.length - 1))
        simp only [Bool.false_eq_true, if_false, if_true, Tl_I, Tl_S, isr_len] at this ⊢
        (repeat' (first | trivial | exact this | exact RowsEq.self okS | rfl | refine And.intro ?_ ?_))
      · simp only [hH, stdH, Bool.false_eq_true, if_false, Tl_I, Tl_S, decide_eq_false_iff_not] at k1 ⊢
        refine ⟨trivial, Shp_I _ _, Shp_S _ _, by omega, h1, .inl trivial, h2⟩
      · refine loop_a hB (draw_ok hB mixed) hX hX0 hH false (ι := Unit) 300 (fun _ => [.r (H Nat fun _ => (isr (ltX cmp0) 0 l (l.length - 1)).length) (rowsI H fun _ => isr (ltX cmp0) 0 l (l.length - 1)), .i (H Int fun _ => 20), .i (H Int fun _ => if false = true then 20 else 0), .i (H Int fun _ => if false = true then 40 else 20)]) (fun _ => 0) (()) ?_ ?_
        · (conv in matchSt _ _ _ _ => cbv); simp only [AllG, AllP, and_true, hH, stdH, ncast, Int.ofNat_eq_natCast, vrow_I, Arm.eta2, Fld.eta, Grp.eta]
          have := RowsEq.self okI (L := isr (ltX cmp0) 0 l (l.length - 1))
          simp only [Bool.false_eq_true, if_false, if_true, Tl_I, Tl_S, isr_len] at this ⊢
          (repeat' (first | trivial | exact this | exact RowsEq.self okS | rfl | refine And.intro ?_ ?_))
        · intro J hJ u
          conv in Fin.chk _ _ => cbv
          try simp only [Plain_rowsA, Plain_rowsB, Plain_rowsC, Plain_rowsF, Plain_rowsG, Plain_rowsI, Plain_rowsS, Plain_rowsU, Fin.satC_ret, Fin.satC_br, Fin.satC_need, Fin.satC_again, AllP, and_true, true_and, upd, List.length_nil, List.length_cons, Nat.zero_add, if_true, ncast, Int.ofNat_eq_natCast]
          refine ⟨fun k2 => ?_, fun k2 => ?_⟩
          · exfalso
            simp only [hH, stdH, decide_eq_true_eq, decide_eq_false_iff_not, Bool.not_eq_true', Bool.not_eq_false', peta, ncast, Int.ofNat_eq_natCast, beq_iff_eq, bne_iff_ne, beq_eq_false_iff_ne, bne_eq_false_iff_eq, ne_eq, Classical.not_not, Int.toNat_natCast, vrow_I, Arm.eta2, Fld.eta, Grp.eta] at k2
            omega
          · have := RowsEq.self okI (L := isr (ltX cmp0) 0 l (l.length - 1))
            simp only [hH, stdH, isr_len] at this ⊢
            exact this
    | true =>
      have h20 := hp rfl
      refine ⟨fun k1 => ?_, fun k1 => ⟨?_, ?_⟩⟩
      · exfalso
        simp only [hH, stdH, if_true, decide_eq_true_eq] at k1
        omega
      · simp only [hH, stdH, if_true, Tl_S] at k1 ⊢
        rw [hT, isr_len]
        exact ⟨rfl, Shp_I _ _, Shp_S _ _, by omega, h1, .inr (by omega), fun x hx => h2 x (isr_mem (by omega) hx)⟩
      · refine loop_a hB (draw_ok hB mixed) hX hX0 hH false (ι := Unit) 300 (fun _ => [.r (H Nat fun _ => (isr (ltX cmp0) 0 l (l.length - 1)).length) (rowsI H fun _ => isr (ltX cmp0) 0 l (l.length - 1)), .i (H Int fun _ => 20), .i (H Int fun _ => if true = true then 20 else 0), .i (H Int fun _ => if true = true then 40 else 20)]) (fun _ => 0) (()) ?_ ?_
        · (conv in matchSt _ _ _ _ => cbv); simp only [AllG, AllP, and_true, hH, stdH, ncast, Int.ofNat_eq_natCast, vrow_I, Arm.eta2, Fld.eta, Grp.eta]
          have := RowsEq.self okI (L := isr (ltX cmp0) 0 l (l.length - 1))
          simp only [Bool.false_eq_true, if_false, if_true, Tl_I, Tl_S, isr_len] at this ⊢
          (rw [if_neg (by decide), hT]; (repeat' (first | trivial | exact this | exact RowsEq.self okS | rfl | refine And.intro ?_ ?_)))
        · intro J hJ u
          conv in Fin.chk _ _ => cbv
          try simp only [Plain_rowsA, Plain_rowsB, Plain_rowsC, Plain_rowsF, Plain_rowsG, Plain_rowsI, Plain_rowsS, Plain_rowsU, Fin.satC_ret, Fin.satC_br, Fin.satC_need, Fin.satC_again, AllP, and_true, true_and, upd, List.length_nil, List.length_cons, Nat.zero_add, if_true, ncast, Int.ofNat_eq_natCast]
          refine ⟨fun k2 => ?_, fun k2 => ?_⟩
          · exfalso
            simp only [hH, stdH, decide_eq_true_eq, decide_eq_false_iff_not, Bool.not_eq_true', Bool.not_eq_false', peta, ncast, Int.ofNat_eq_natCast, beq_iff_eq, bne_iff_ne, beq_eq_false_iff_ne, bne_eq_false_iff_eq, ne_eq, Classical.not_not, Int.toNat_natCast, vrow_I, Arm.eta2, Fld.eta, Grp.eta] at k2
            omega
          · have := RowsEq.self okI (L := isr (ltX cmp0) 0 l (l.length - 1))
            simp only [hH, stdH, isr_len] at this ⊢
            exact this
noncomputable def e_stabT : Entry := modE 45 1 3 fun H n g a => match a with
  | [.lit (.int .i64 z), .fn (.func 18) [] [.rptr [.vec 1 cmp0n cmp0f]]] => some (.tup [], rowsI H fun _ => isr (ltX (Tl rowS cmp0n cmp0f)) 0 (Tl rowI n g) ((Tl rowI n g).length - 1), [H Prop fun _ => Shp rowI n g, H Prop fun _ => Shp rowS cmp0n cmp0f, H Prop fun _ => (Tl rowI n g).length ≤ 20, H Prop fun _ => z = (Tl rowI n g).length, H Prop fun _ => ∀ x ∈ (Tl rowI n g), inR (Tl rowS cmp0n cmp0f).length x])
  | _ => none
theorem eok_stabT : EntryOk Tryz.prog e_stabT := modE_ok (by unfold isBody; kernel_rfl) (by
  intro n g a r g' ob e hob
  split at e
  · rename_i z cmp0n cmp0f
    simp only [Option.some.injEq, Prod.mk.injEq] at e
    obtain ⟨rfl, rfl, rfl⟩ := e
    have hs := hob.1
    have hl : (Tl rowI n g).length = n := Tl_len n g
    refine ⟨rowsI stdH fun _ => Tl rowI n g, fun j hj => ⟨?_, ?_⟩, ?_, fun x hx => ?_, ?_, fun j hj => ?_⟩
    · rw [hs.row j hj]; exact ((okI).row (fun _ => Tl rowI n g) j).trans (by rw [Tl_getD hj])
    · exact rows_blx okI _ j
    · have := c_stabT (Tl rowI n g) z (Tl rowS cmp0n cmp0f) hob.2.2.1 hob.2.2.2.1 hob.2.2.2.2.1
      simp only [stdH, hl] at this ⊢
      exact ConN.args (.cons .rfl (.cons .rfl (.cons (.fn .nil (.cons (.rptr (.cons (.toT okS rfl hob.2.1) .nil)) .nil)) .nil))) this
    · simp only [List.mem_cons, List.not_mem_nil, or_false] at hx
      rcases hx with rfl | rfl
      · exact .lit
      · exact (by
        refine .fn (fun c hc => by cases hc) ?_
        intro c hc
        simp only [List.mem_cons, List.not_mem_nil, or_false] at hc
        rcases hc with rfl
        · exact (by
        refine .rptr ?_
        intro c hc
        simp only [List.mem_cons, List.not_mem_nil, or_false] at hc
        rcases hc with rfl
        · exact (hob.2.1).bl okS _))
    · first | exact .lit | exact .tup fun x h => (by cases h)
    · exact rows_blx okI _ j
  · simp at e)
theorem c_sortT (l : List Int) (cmp0 : List ByteArray) (h0 : l.length ≤ 20) (h1 : ∀ x ∈ l, inR cmp0.length x) : ConN Tryz.prog 17 [.slc 0 0 1 (stdH Nat fun _ => l.length), .fn (.func 18) [] [.rptr [.vec 1 (stdH Nat fun _ => (cmp0).length) (rowsS stdH fun _ => cmp0)]]] [(0, .rows 1 (stdH Nat fun _ => l.length) (rowsI stdH fun _ => l) 3)] 1 (.tup []) [] [(0, .rows 1 (stdH Nat fun _ => l.length) (rowsI stdH fun _ => isr (ltX cmp0) 0 l (l.length - 1)) 3)] := by
  have hB : Base Tryz.prog (tabΓ [e_stabT]) tab := base_of tabOk (ents_cons eok_stabT <| ents_nil)
  refine con_m (N := 9) hB (draw_ok hB mixed) Tryz.func17 rfl rfl (fun H => [.slc 0 0 1 (H Nat fun _ => l.length), .fn (.func 18) [] [.rptr [.vec 1 (H Nat fun _ => (cmp0).length) (rowsS H fun _ => cmp0)]]]) (fun H => [(0, .rows 1 (H Nat fun _ => l.length) (rowsI H fun _ => l) 3)]) 1 (fun H => .tup []) (fun H => []) (fun H => [(0, .rows 1 (H Nat fun _ => l.length) (rowsI H fun _ => isr (ltX cmp0) 0 l (l.length - 1)) 3)]) 300 (by simp) (fun x hx => ?_) (fun i b hi => ?_) (fun i hi => ?_) (fun i b hi => ?_) ?_
  · simp only [List.mem_cons, List.not_mem_nil, or_false] at hx
    rcases hx with rfl | rfl
    · exact .slc (by omega)
    · exact (by
        refine .fn (fun c hc => by cases hc) ?_
        intro c hc
        simp only [List.mem_cons, List.not_mem_nil, or_false] at hc
        rcases hc with rfl
        · exact (by
        refine .rptr ?_
        intro c hc
        simp only [List.mem_cons, List.not_mem_nil, or_false] at hc
        rcases hc with rfl
        · exact vl_bl okS cmp0 _))
  · have := lk_in hi
    simp only [List.mem_cons, List.not_mem_nil, or_false, Prod.mk.injEq] at this
    obtain ⟨rfl, rfl⟩ := this
    exact ⟨by omega, bT_bl okI _ (fun _ => l) _, _, List.mem_cons_self⟩
  · obtain rfl : i = 0 := by omega
    exact ⟨_, rfl⟩
  · simp only [List.mem_cons, List.not_mem_nil, or_false, Prod.mk.injEq] at hi
    obtain ⟨rfl, rfl⟩ := hi
    exact ⟨_, rfl⟩
  intro X hX hX0 H hH
  conv in Fin.chk _ _ => cbv
  try simp only [Plain_rowsA, Plain_rowsB, Plain_rowsC, Plain_rowsF, Plain_rowsG, Plain_rowsI, Plain_rowsS, Plain_rowsU, Fin.satC_ret, Fin.satC_br, Fin.satC_need, Fin.satC_again, AllP, and_true, true_and, upd, List.length_nil, List.length_cons, Nat.zero_add, if_true, ncast, Int.ofNat_eq_natCast]
  subst hH
  simp only [stdH, Tl_I, Tl_S]
  have := RowsEq.self okI (L := isr (ltX cmp0) 0 l (l.length - 1))
  rw [isr_len] at this
  exact ⟨⟨trivial, Shp_I _ _, Shp_S _ _, h0, trivial, h1⟩, this⟩
noncomputable def e_sortT : Entry := modE 17 1 3 fun H n g a => match a with
  | [.fn (.func 18) [] [.rptr [.vec 1 cmp0n cmp0f]]] => some (.tup [], rowsI H fun _ => isr (ltX (Tl rowS cmp0n cmp0f)) 0 (Tl rowI n g) ((Tl rowI n g).length - 1), [H Prop fun _ => Shp rowI n g, H Prop fun _ => Shp rowS cmp0n cmp0f, H Prop fun _ => (Tl rowI n g).length ≤ 20, H Prop fun _ => ∀ x ∈ (Tl rowI n g), inR (Tl rowS cmp0n cmp0f).length x])
  | _ => none
theorem eok_sortT : EntryOk Tryz.prog e_sortT := modE_ok (by unfold isBody; kernel_rfl) (by
  intro n g a r g' ob e hob
  split at e
  · rename_i cmp0n cmp0f
    simp only [Option.some.injEq, Prod.mk.injEq] at e
    obtain ⟨rfl, rfl, rfl⟩ := e
    have hs := hob.1
    have hl : (Tl rowI n g).length = n := Tl_len n g
    refine ⟨rowsI stdH fun _ => Tl rowI n g, fun j hj => ⟨?_, ?_⟩, ?_, fun x hx => ?_, ?_, fun j hj => ?_⟩
    · rw [hs.row j hj]; exact ((okI).row (fun _ => Tl rowI n g) j).trans (by rw [Tl_getD hj])
    · exact rows_blx okI _ j
    · have := c_sortT (Tl rowI n g) (Tl rowS cmp0n cmp0f) hob.2.2.1 hob.2.2.2.1
      simp only [stdH, hl] at this ⊢
      exact ConN.args (.cons .rfl (.cons (.fn .nil (.cons (.rptr (.cons (.toT okS rfl hob.2.1) .nil)) .nil)) .nil)) this
    · simp only [List.mem_cons, List.not_mem_nil, or_false] at hx
      rcases hx with rfl
      · exact (by
        refine .fn (fun c hc => by cases hc) ?_
        intro c hc
        simp only [List.mem_cons, List.not_mem_nil, or_false] at hc
        rcases hc with rfl
        · exact (by
        refine .rptr ?_
        intro c hc
        simp only [List.mem_cons, List.not_mem_nil, or_false] at hc
        rcases hc with rfl
        · exact (hob.2.1).bl okS _))
    · first | exact .lit | exact .tup fun x h => (by cases h)
    · exact rows_blx okI _ j
  · simp at e)

end Go.Proofs.YtmpbmbioeeckeaaGreatDoor.AM
