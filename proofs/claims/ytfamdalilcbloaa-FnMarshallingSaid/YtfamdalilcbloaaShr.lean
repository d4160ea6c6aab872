import Derived.Test.YtfamdalilcbloaaAmT
import Derived.Test.YtfamdalilcbloaaShv
set_option linter.unusedVariables false
set_option linter.unusedSimpArgs false
set_option maxRecDepth 100000
set_option maxHeartbeats 4000000
set_option cbv.maxSteps 3000000
namespace Go.Proofs.Ytfamdalilcbloaa.AM
/- Parts of shields replaced; conditions: none. -/
def rpO (o a x : Arm) : Arm := if x = o then a else x
def rpl (o a : Arm) (l : List Arm) : List Arm := l.map (rpO o a)
def cnr (o : Arm) (l : List Arm) : Nat := l.countP fun x => decide (x = o)
def okR3 (s : Shd) (o a : Arm) : Bool := okH s && (okA o && okA a)
def wR (o a : Arm) (l : List Arm) (i : Nat) : List Arm := rpl o a (l.take i) ++ l.drop i
theorem wR_len (o a : Arm) (l : List Arm) (i : Nat) : (wR o a l i).length = l.length := by
  unfold wR rpl
  rw [List.length_append, List.length_map, List.length_take, List.length_drop]
  omega
theorem wR_at {o a : Arm} {l : List Arm} {i : Nat} (h : i < l.length) : (wR o a l i).getD i default = l.getD i default := by
  have hl : (rpl o a (l.take i)).length = i := by unfold rpl; rw [List.length_map, List.length_take]; omega
  unfold wR
  rw [List.getD_eq_getElem?_getD, List.getElem?_append_right (by omega), hl, Nat.sub_self, List.getElem?_drop, Nat.add_zero, List.getD_eq_getElem?_getD]
theorem wR_succ {o a : Arm} {l : List Arm} {i : Nat} (h : i < l.length) : (wR o a l i).set i (rpO o a (l.getD i default)) = wR o a l (i + 1) := by
  have hl : (rpl o a (l.take i)).length = i := by unfold rpl; rw [List.length_map, List.length_take]; omega
  unfold wR
  rw [List.set_append_right _ _ (by omega), hl, Nat.sub_self, List.drop_eq_getElem_cons h, List.set_cons_zero, List.take_succ_eq_append_getElem h]
  unfold rpl
  rw [List.map_append, List.append_assoc, List.getD_eq_getElem?_getD, List.getElem?_eq_getElem h]
  rfl
theorem wR_same {o a : Arm} {l : List Arm} {i : Nat} (h : i < l.length) (hn : ¬ l.getD i default = o) : wR o a l (i + 1) = wR o a l i := by
  rw [← wR_succ h]
  have e : rpO o a (l.getD i default) = l.getD i default := if_neg hn
  rw [e]
  refine List.ext_getElem (by simp) fun j h1 h2 => ?_
  rw [List.getElem_set]
  split
  · rename_i hj
    subst hj
    rw [← wR_at (o := o) (a := a) h, List.getD_eq_getElem?_getD, List.getElem?_eq_getElem h2, Option.getD_some]
  · rfl
theorem cnr_succ {o : Arm} {l : List Arm} {i : Nat} (h : i < l.length) : cnr o (l.take (i + 1)) = cnr o (l.take i) + (if l.getD i default = o then 1 else 0) := by
  unfold cnr
  rw [List.take_succ_eq_append_getElem h, List.countP_append, List.getD_eq_getElem?_getD, List.getElem?_eq_getElem h, Option.getD_some]
  simp [List.countP_cons]
theorem cnr_le (o : Arm) (l : List Arm) (i : Nat) : cnr o (l.take i) ≤ l.length := by
  unfold cnr
  exact Nat.le_trans List.countP_le_length (by rw [List.length_take]; omega)
theorem c_replH (s : Shd) (o : Arm) (a : Arm) (h0 : s.parts.length ≤ 1000000) : ConN Try.prog 45 [aT rowH stdH fun _ => s, aT rowA stdH fun _ => o, aT rowA stdH fun _ => a] [] 0 (.tup [aT rowH stdH fun _ => if okR3 s o a then ⟨s.mode, rpl o a s.parts⟩ else shZ, .lit (.int .i64 (stdH Int fun _ => if okR3 s o a then (cnr o s.parts : Nat) else 0)), .lit (.bool (stdH Bool fun _ => okR3 s o a))]) [] [] := by
  have hB : Base Try.prog (tabΓ [e_validH, e_IsValidArms]) tabO := base_of tabOkO (ents_cons eok_validH <| ents_cons eok_IsValidArms <| ents_nil)
  refine con_m (N := 55) hB (draw_ok hB mixed) Try.func45 rfl rfl (fun H => [aT rowH H fun _ => s, aT rowA H fun _ => o, aT rowA H fun _ => a]) (fun _ => []) 0 (fun H => .tup [aT rowH H fun _ => if okR3 s o a then ⟨s.mode, rpl o a s.parts⟩ else shZ, .lit (.int .i64 (H Int fun _ => if okR3 s o a then (cnr o s.parts : Nat) else 0)), .lit (.bool (H Bool fun _ => okR3 s o a))]) (fun H => []) (fun _ => []) 300 (by simp) (fun x hx => ?_) (by simp [lk]) (by omega) (by simp) ?_
  · simp only [List.mem_cons, List.not_mem_nil, or_false] at hx
    rcases hx with rfl | rfl | rfl
    · exact aT_bl okRH _ _
    · exact aT_bl okRA _ _
    · exact aT_bl okRA _ _
  intro X hX hX0 H hH
  conv in Fin.chk _ _ => cbv
  try simp only [Plain_rowsA, Plain_rowsB, Plain_rowsF, Plain_rowsG, Plain_rowsI, Plain_rowsS, Plain_rowsU, Fin.satC_ret, Fin.satC_br, Fin.satC_need, Fin.satC_again, AllP, and_true, true_and, upd, List.length_nil, List.length_cons, Nat.zero_add, if_true, ncast, Int.ofNat_eq_natCast]
  have es : ({ mode := s.mode, parts := Tl rowA s.parts.length (rowsA stdH fun _ => s.parts) } : Shd) = s := by rw [Tl_A]
  refine ⟨?_, fun h => ?_, fun h => ⟨?_, ?_⟩⟩
  · try simp only [hH, stdH, decide_eq_true_eq, decide_eq_false_iff_not, Bool.not_eq_true', Bool.not_eq_false', peta, ncast, Int.ofNat_eq_natCast, beq_iff_eq, bne_iff_ne, beq_eq_false_iff_ne, bne_eq_false_iff_eq, ne_eq, Classical.not_not, Int.toNat_natCast, vrow_I, Arm.eta2, Fld.eta, Grp.eta]
    exact ⟨Shp_A _ _, by simp only [Tl_A]; omega⟩
  · have hn : okR3 s o a = false := by
      simp only [hH, stdH, Int.toNat_natCast] at h
      simp only [es, Arm.eta2, Fld.eta, Grp.eta] at h
      unfold okR3
      cases h1 : okH s <;> cases h2 : okA o <;> cases h3 : okA a <;> simp_all
    simp only [hH, stdH, hn]
    exact ⟨trivial, rfl, rfl, rfl⟩
  · try simp only [hH, stdH, decide_eq_true_eq, decide_eq_false_iff_not, Bool.not_eq_true', Bool.not_eq_false', peta, ncast, Int.ofNat_eq_natCast, beq_iff_eq, bne_iff_ne, beq_eq_false_iff_ne, bne_eq_false_iff_eq, ne_eq, Classical.not_not, Int.toNat_natCast, vrow_I, Arm.eta2, Fld.eta, Grp.eta]
    (repeat' (first | trivial | omega | refine And.intro ?_ ?_))
  · refine loop_a hB (draw_ok hB mixed) hX hX0 hH false (ι := { i : Nat // i ≤ s.parts.length }) 300 (fun i => [.i (H Int fun _ => (cnr o (s.parts.take i.1) : Nat)), .r (H Nat fun _ => (wR o a s.parts i.1).length) (rowsA H fun _ => wR o a s.parts i.1), .i (H Int fun _ => (i.1 : Nat)), .i (H Int fun _ => s.mode)]) (fun i => s.parts.length - i.1) (⟨0, by omega⟩) ?_ ?_
    · (conv in matchSt _ _ _ _ => cbv); simp only [AllG, AllP, and_true, hH, stdH, ncast, Int.ofNat_eq_natCast, vrow_I, Arm.eta2, Fld.eta, Grp.eta]
      have e0 : wR o a s.parts 0 = s.parts := by simp [wR, rpl]
      rw [e0]
      (repeat' (first | trivial | exact app0 _ | rfl | refine And.intro ?_ ?_))
    · intro I hI i
      conv in Fin.chk _ _ => cbv
      try simp only [Plain_rowsA, Plain_rowsB, Plain_rowsF, Plain_rowsG, Plain_rowsI, Plain_rowsS, Plain_rowsU, Fin.satC_ret, Fin.satC_br, Fin.satC_need, Fin.satC_again, AllP, and_true, true_and, upd, List.length_nil, List.length_cons, Nat.zero_add, if_true, ncast, Int.ofNat_eq_natCast]
      obtain ⟨i, hi⟩ := i
      have wl := wR_len o a s.parts i
      have ck := cnr_le o s.parts i
      refine ⟨fun h1 => ⟨?_, ?_, fun h2 => ⟨?_, ?_, ?_⟩, fun h2 => ?_⟩, fun h1 => ?_⟩
      · simp only [hH, stdH, decide_eq_true_eq, decide_eq_false_iff_not, Bool.not_eq_true', Bool.not_eq_false', peta, ncast, Int.ofNat_eq_natCast, beq_iff_eq, bne_iff_ne, beq_eq_false_iff_ne, bne_eq_false_iff_eq, ne_eq, Classical.not_not, Int.toNat_natCast, vrow_I, Arm.eta2, Fld.eta, Grp.eta] at h1 ⊢
        omega
      · simp only [hH, stdH, decide_eq_true_eq, decide_eq_false_iff_not, Bool.not_eq_true', Bool.not_eq_false', peta, ncast, Int.ofNat_eq_natCast, beq_iff_eq, bne_iff_ne, beq_eq_false_iff_ne, bne_eq_false_iff_eq, ne_eq, Classical.not_not, Int.toNat_natCast, vrow_I, Arm.eta2, Fld.eta, Grp.eta] at h1 ⊢
        rw [wl]
        exact ⟨by omega, rfl⟩
      · simp only [hH, stdH, decide_eq_true_eq, decide_eq_false_iff_not, Bool.not_eq_true', Bool.not_eq_false', peta, ncast, Int.ofNat_eq_natCast, beq_iff_eq, bne_iff_ne, beq_eq_false_iff_ne, bne_eq_false_iff_eq, ne_eq, Classical.not_not, Int.toNat_natCast, vrow_I, Arm.eta2, Fld.eta, Grp.eta] at h1 ⊢
        omega
      · simp only [hH, stdH, decide_eq_true_eq, decide_eq_false_iff_not, Bool.not_eq_true', Bool.not_eq_false', peta, ncast, Int.ofNat_eq_natCast, beq_iff_eq, bne_iff_ne, beq_eq_false_iff_ne, bne_eq_false_iff_eq, ne_eq, Classical.not_not, Int.toNat_natCast, vrow_I, Arm.eta2, Fld.eta, Grp.eta] at h1 ⊢
        rw [wl]
        exact ⟨by omega, rfl⟩
      · simp only [hH, stdH, decide_eq_true_eq, decide_eq_false_iff_not, Bool.not_eq_true', Bool.not_eq_false', peta, ncast, Int.ofNat_eq_natCast, beq_iff_eq, bne_iff_ne, beq_eq_false_iff_ne, bne_eq_false_iff_eq, ne_eq, Classical.not_not, Int.toNat_natCast, vrow_I, Arm.eta2, Fld.eta, Grp.eta] at h1
        have h3 : s.parts.getD i default = o := by
          simp only [hH, stdH, Int.toNat_natCast] at h2
          rw [eqAE, decide_eq_true_eq, wR_at (by omega)] at h2
          exact h2
        refine ⟨⟨i + 1, by omega⟩, by simp only; omega, ?_⟩
        rw [hI]
        (conv in matchSt _ _ _ _ => cbv); simp only [AllG, AllP, and_true, hH, stdH, ncast, Int.ofNat_eq_natCast, vrow_I, Arm.eta2, Fld.eta, Grp.eta]
        have e1 := wR_succ (o := o) (a := a) (l := s.parts) (i := i) (by omega)
        have e2 := cnr_succ (o := o) (l := s.parts) (i := i) (by omega)
        rw [if_pos h3] at e2
        have e3 : rpO o a (s.parts.getD i default) = a := if_pos h3
        rw [e3] at e1
        simp only [Int.toNat_natCast]
        rw [w1 (by omega), w1 (by omega), e2]
        have e4 : (wR o a s.parts (i + 1)).length = (wR o a s.parts i).length := by rw [wR_len, wR_len]
        (repeat' (first | trivial | exact RowsEq.put okRA e1 | exact e4 | rfl | refine And.intro ?_ ?_))
      · simp only [hH, stdH, decide_eq_true_eq, decide_eq_false_iff_not, Bool.not_eq_true', Bool.not_eq_false', peta, ncast, Int.ofNat_eq_natCast, beq_iff_eq, bne_iff_ne, beq_eq_false_iff_ne, bne_eq_false_iff_eq, ne_eq, Classical.not_not, Int.toNat_natCast, vrow_I, Arm.eta2, Fld.eta, Grp.eta] at h1
        have h3 : ¬ s.parts.getD i default = o := by
          simp only [hH, stdH, Int.toNat_natCast] at h2
          rw [eqAE, wR_at (by omega)] at h2
          simpa using h2
        refine ⟨⟨i + 1, by omega⟩, by simp only; omega, ?_⟩
        rw [hI]
        (conv in matchSt _ _ _ _ => cbv); simp only [AllG, AllP, and_true, hH, stdH, ncast, Int.ofNat_eq_natCast, vrow_I, Arm.eta2, Fld.eta, Grp.eta]
        have e2 := cnr_succ (o := o) (l := s.parts) (i := i) (by omega)
        rw [if_neg h3, Nat.add_zero] at e2
        rw [w1 (by omega), e2, wR_same (by omega) h3]
        (repeat' (first | trivial | exact RowsEq.self okRA | rfl | refine And.intro ?_ ?_))
      · have hy : okR3 s o a = true := by
          simp only [hH, stdH, Int.toNat_natCast] at h
          simp only [es, Arm.eta2, Fld.eta, Grp.eta] at h
          unfold okR3
          cases h1 : okH s <;> cases h2 : okA o <;> cases h3 : okA a <;> simp_all
        simp only [hH, stdH, decide_eq_true_eq, decide_eq_false_iff_not, Bool.not_eq_true', Bool.not_eq_false', peta, ncast, Int.ofNat_eq_natCast, beq_iff_eq, bne_iff_ne, beq_eq_false_iff_ne, bne_eq_false_iff_eq, ne_eq, Classical.not_not, Int.toNat_natCast, vrow_I, Arm.eta2, Fld.eta, Grp.eta] at h1
        obtain rfl : i = s.parts.length := by omega
        have e0 : wR o a s.parts s.parts.length = rpl o a s.parts := by simp [wR]
        simp only [hH, stdH, hy, if_true, e0, List.take_length]
        exact ⟨trivial, trivial, RowsEq.self okRA, trivial⟩
noncomputable def e_replH : Entry := pureE 45 fun H a => match a with
  | [.agg [.lit (.int .i64 s0), .vec 15 s1n s1f], .agg [.lit (.int .i64 o0), .lit (.int .i64 o1), .lit (.int .i64 o2), .lit (.int .i64 o3), .lit (.int .i64 o4), .lit (.int .i64 o5), .lit (.int .i64 o6), .lit (.int .i64 o7), .lit (.int .i64 o8), .lit (.int .i64 o9), .lit (.int .i64 o10), .lit (.int .i64 o11), .lit (.int .i64 o12), .lit (.int .i64 o13), .lit (.int .i64 o14)], .agg [.lit (.int .i64 a0), .lit (.int .i64 a1), .lit (.int .i64 a2), .lit (.int .i64 a3), .lit (.int .i64 a4), .lit (.int .i64 a5), .lit (.int .i64 a6), .lit (.int .i64 a7), .lit (.int .i64 a8), .lit (.int .i64 a9), .lit (.int .i64 a10), .lit (.int .i64 a11), .lit (.int .i64 a12), .lit (.int .i64 a13), .lit (.int .i64 a14)]] => some (.tup [aT rowH H fun _ => if okR3 (⟨s0, (Tl rowA s1n s1f)⟩ : Shd) (⟨⟨o0, o1, o2, o3⟩, o4, o5, o6, ⟨o7, o8, o9, o10⟩, ⟨o11, o12, o13, o14⟩⟩ : Arm) (⟨⟨a0, a1, a2, a3⟩, a4, a5, a6, ⟨a7, a8, a9, a10⟩, ⟨a11, a12, a13, a14⟩⟩ : Arm) then ⟨(⟨s0, (Tl rowA s1n s1f)⟩ : Shd).mode, rpl (⟨⟨o0, o1, o2, o3⟩, o4, o5, o6, ⟨o7, o8, o9, o10⟩, ⟨o11, o12, o13, o14⟩⟩ : Arm) (⟨⟨a0, a1, a2, a3⟩, a4, a5, a6, ⟨a7, a8, a9, a10⟩, ⟨a11, a12, a13, a14⟩⟩ : Arm) (⟨s0, (Tl rowA s1n s1f)⟩ : Shd).parts⟩ else shZ, .lit (.int .i64 (H Int fun _ => if okR3 (⟨s0, (Tl rowA s1n s1f)⟩ : Shd) (⟨⟨o0, o1, o2, o3⟩, o4, o5, o6, ⟨o7, o8, o9, o10⟩, ⟨o11, o12, o13, o14⟩⟩ : Arm) (⟨⟨a0, a1, a2, a3⟩, a4, a5, a6, ⟨a7, a8, a9, a10⟩, ⟨a11, a12, a13, a14⟩⟩ : Arm) then (cnr (⟨⟨o0, o1, o2, o3⟩, o4, o5, o6, ⟨o7, o8, o9, o10⟩, ⟨o11, o12, o13, o14⟩⟩ : Arm) (⟨s0, (Tl rowA s1n s1f)⟩ : Shd).parts : Nat) else 0)), .lit (.bool (H Bool fun _ => okR3 (⟨s0, (Tl rowA s1n s1f)⟩ : Shd) (⟨⟨o0, o1, o2, o3⟩, o4, o5, o6, ⟨o7, o8, o9, o10⟩, ⟨o11, o12, o13, o14⟩⟩ : Arm) (⟨⟨a0, a1, a2, a3⟩, a4, a5, a6, ⟨a7, a8, a9, a10⟩, ⟨a11, a12, a13, a14⟩⟩ : Arm)))], [H Prop fun _ => Shp rowA s1n s1f, H Prop fun _ => (⟨s0, (Tl rowA s1n s1f)⟩ : Shd).parts.length ≤ 1000000])
  | _ => none
theorem eok_replH : EntryOk Try.prog e_replH := pureM_ok (by unfold isBody; kernel_rfl) (by
  intro a r ob e hob
  split at e
  · rename_i s0 s1n s1f o0 o1 o2 o3 o4 o5 o6 o7 o8 o9 o10 o11 o12 o13 o14 a0 a1 a2 a3 a4 a5 a6 a7 a8 a9 a10 a11 a12 a13 a14
    simp only [Option.some.injEq, Prod.mk.injEq] at e
    obtain ⟨rfl, rfl⟩ := e
    exact ConN.args (.cons (.agg (.cons .rfl (.cons (.toT okRA rfl hob.1) .nil))) (.cons .rfl (.cons .rfl .nil))) (c_replH (⟨s0, (Tl rowA s1n s1f)⟩ : Shd) (⟨⟨o0, o1, o2, o3⟩, o4, o5, o6, ⟨o7, o8, o9, o10⟩, ⟨o11, o12, o13, o14⟩⟩ : Arm) (⟨⟨a0, a1, a2, a3⟩, a4, a5, a6, ⟨a7, a8, a9, a10⟩, ⟨a11, a12, a13, a14⟩⟩ : Arm) hob.2.1)
  · simp at e)

end Go.Proofs.Ytfamdalilcbloaa.AM
