import Derived.Test.YtmdkmomhjfomkaaDoorAmT
import Derived.Test.YtmdkmomhjfomkaaDoorLst
set_option linter.unusedVariables false
set_option linter.unusedSimpArgs false
set_option maxRecDepth 100000
set_option maxHeartbeats 4000000
set_option cbv.maxSteps 3000000
namespace Go.Proofs.YtmdkmomhjfomkaaDoor.AM
/- Numbers as texts; marks of texts; conditions: none. -/
theorem beqT (s t : ByteArray) : (s.toList == t.toList) = decide (s = t) := by
  rw [Bool.eq_iff_iff, beq_iff_eq, decide_eq_true_eq, ByteArray.toList_eq, ByteArray.toList_eq]
  exact ⟨fun h => ByteArray.ext (Array.ext' h), fun h => by rw [h]⟩
theorem size_byteT (a : Int) : (byteT a).size = 1 := by unfold byteT; rfl
theorem bszN (l : List UInt8) : (ByteArray.mk (Array.mk l)).size = l.length := rfl
def digs : Nat → Nat → ByteArray → ByteArray
  | 0, _, o => o
  | f + 1, k, o => if k = 0 then o else digs f (k / 10) (byteT (48 + (k % 10 : Nat)) ++ o)
theorem digs_fuel : ∀ (f g k : Nat) (o : ByteArray), k ≤ f → k ≤ g → digs f k o = digs g k o := by
  intro f
  induction f with
  | zero => intro g k o h _; obtain rfl : k = 0 := by omega
            cases g <;> simp [digs]
  | succ f ih =>
    intro g k o h1 h2
    by_cases hk : k = 0
    · subst hk; cases g <;> simp [digs]
    · cases g with
      | zero => omega
      | succ g =>
        unfold digs
        rw [if_neg hk, if_neg hk]
        exact ih g (k / 10) _ (by omega) (by omega)
theorem digs_step {k : Nat} {o : ByteArray} (h : k ≠ 0) : digs k k o = digs (k / 10) (k / 10) (byteT (48 + (k % 10 : Nat)) ++ o) := by
  cases k with
  | zero => exact absurd rfl h
  | succ k =>
    conv => lhs; unfold digs
    rw [if_neg h]
    exact digs_fuel _ _ _ _ (by omega) (Nat.le_refl _)
/-- The mark of a number. -/
def markT (k : Int) : ByteArray := if k ≤ 0 then (⟨⟨[109, 48]⟩⟩ : ByteArray) else (⟨⟨[109]⟩⟩ : ByteArray) ++ digs k.toNat k.toNat ByteArray.empty
theorem markT_sz (k : Int) : (markT k).size ≤ k.toNat + 2 := by
  have : ∀ (f k : Nat) (o : ByteArray), (digs f k o).size ≤ o.size + k := by
    intro f
    induction f with
    | zero => intro k o; simp [digs]
    | succ f ih =>
      intro k o
      unfold digs
      split
      · omega
      · refine Nat.le_trans (ih _ _) ?_
        rw [ByteArray.size_append, size_byteT]; omega
  have h := this k.toNat k.toNat ByteArray.empty
  have e : ByteArray.empty.size = 0 := rfl
  unfold markT
  split
  · show 2 ≤ _; omega
  · rw [ByteArray.size_append]
    have : ((⟨⟨[109]⟩⟩ : ByteArray)).size = 1 := rfl
    omega
theorem c_markText (k : Int) (h0 : k ≤ 1000000000) : ConN Tryd.prog 30 [.lit (.int .i64 k)] [] 0 (.lit (.string (stdH ByteArray fun _ => markT k))) [] [] := by
  have hB : Base Tryd.prog (tabΓ []) tab := base_of tabOk (ents_nil)
  refine con_m (N := 20) hB (draw_ok hB mixed) Tryd.func30 rfl rfl (fun H => [.lit (.int .i64 k)]) (fun _ => []) 0 (fun H => .lit (.string (H ByteArray fun _ => markT k))) (fun H => []) (fun _ => []) 200 (by simp) (fun x hx => ?_) (by simp [lk]) (by omega) (by simp) ?_
  · simp only [List.mem_cons, List.not_mem_nil, or_false] at hx
    rcases hx with rfl
    · exact .lit
  intro X hX hX0 H hH
  conv in Fin.chk _ _ => cbv
  try simp only [Plain_rowsA, Plain_rowsB, Plain_rowsF, Plain_rowsG, Plain_rowsI, Plain_rowsS, Plain_rowsU, Fin.satC_ret, Fin.satC_br, Fin.satC_need, Fin.satC_again, AllP, and_true, true_and, upd, List.length_nil, List.length_cons, Nat.zero_add, if_true, ncast, Int.ofNat_eq_natCast]
  refine ⟨fun h => ?_, fun h => ?_⟩
  · simp only [hH, stdH, decide_eq_true_eq, decide_eq_false_iff_not, Bool.not_eq_true', Bool.not_eq_false', peta, ncast, Int.ofNat_eq_natCast, beq_iff_eq, bne_iff_ne, beq_eq_false_iff_ne, bne_eq_false_iff_eq, ne_eq, Classical.not_not, Int.toNat_natCast, vrow_I, Arm.eta2, Fld.eta, Grp.eta] at h ⊢
    unfold markT; rw [if_pos h]
  simp only [hH, stdH, decide_eq_true_eq, decide_eq_false_iff_not, Bool.not_eq_true', Bool.not_eq_false', peta, ncast, Int.ofNat_eq_natCast, beq_iff_eq, bne_iff_ne, beq_eq_false_iff_ne, bne_eq_false_iff_eq, ne_eq, Classical.not_not, Int.toNat_natCast, vrow_I, Arm.eta2, Fld.eta, Grp.eta] at h
  refine loop_a hB (draw_ok hB mixed) hX hX0 hH false (ι := { x : Nat × ByteArray // x.2.size + x.1 ≤ k.toNat ∧ digs k.toNat k.toNat ByteArray.empty = digs x.1 x.1 x.2 }) 200 (fun x => [.i (H Int fun _ => (x.1.1 : Nat)), .s (H ByteArray fun _ => x.1.2)]) (fun x => x.1.1) (⟨(k.toNat, ByteArray.empty), Nat.le_of_eq (Nat.zero_add _), rfl⟩) ?_ ?_
  · (conv in matchSt _ _ _ _ => cbv); simp only [AllG, AllP, and_true, hH, stdH, ncast, Int.ofNat_eq_natCast, vrow_I, Arm.eta2, Fld.eta, Grp.eta]
    (repeat' (first | rfl | trivial | omega | refine And.intro ?_ ?_))
  · intro I hI i
    conv in Fin.chk _ _ => cbv
    try simp only [Plain_rowsA, Plain_rowsB, Plain_rowsF, Plain_rowsG, Plain_rowsI, Plain_rowsS, Plain_rowsU, Fin.satC_ret, Fin.satC_br, Fin.satC_need, Fin.satC_again, AllP, and_true, true_and, upd, List.length_nil, List.length_cons, Nat.zero_add, if_true, ncast, Int.ofNat_eq_natCast]
    obtain ⟨⟨x, o⟩, hz, hd⟩ := i
    dsimp only at hz hd
    refine ⟨fun h1 => ⟨?_, ?_, ?_, ?_⟩, fun h1 => ⟨?_, ?_⟩⟩
    · try simp only [hH, stdH, decide_eq_true_eq, decide_eq_false_iff_not, Bool.not_eq_true', Bool.not_eq_false', peta, ncast, Int.ofNat_eq_natCast, beq_iff_eq, bne_iff_ne, beq_eq_false_iff_ne, bne_eq_false_iff_eq, ne_eq, Classical.not_not, Int.toNat_natCast, vrow_I, Arm.eta2, Fld.eta, Grp.eta]
      first | trivial | omega
    · try simp only [hH, stdH, decide_eq_true_eq, decide_eq_false_iff_not, Bool.not_eq_true', Bool.not_eq_false', peta, ncast, Int.ofNat_eq_natCast, beq_iff_eq, bne_iff_ne, beq_eq_false_iff_ne, bne_eq_false_iff_eq, ne_eq, Classical.not_not, Int.toNat_natCast, vrow_I, Arm.eta2, Fld.eta, Grp.eta]
      rw [size_byteT]; omega
    · try simp only [hH, stdH, decide_eq_true_eq, decide_eq_false_iff_not, Bool.not_eq_true', Bool.not_eq_false', peta, ncast, Int.ofNat_eq_natCast, beq_iff_eq, bne_iff_ne, beq_eq_false_iff_ne, bne_eq_false_iff_eq, ne_eq, Classical.not_not, Int.toNat_natCast, vrow_I, Arm.eta2, Fld.eta, Grp.eta]
      first | trivial | omega
    · simp only [hH, stdH, decide_eq_true_eq, decide_eq_false_iff_not, Bool.not_eq_true', Bool.not_eq_false', peta, ncast, Int.ofNat_eq_natCast, beq_iff_eq, bne_iff_ne, beq_eq_false_iff_ne, bne_eq_false_iff_eq, ne_eq, Classical.not_not, Int.toNat_natCast, vrow_I, Arm.eta2, Fld.eta, Grp.eta] at h1
      have h1 : 0 < x := by omega
      refine ⟨⟨(x / 10, byteT (48 + (x % 10 : Nat)) ++ o), ?_, ?_⟩, ?_, ?_⟩
      · simp only [ByteArray.size_append, size_byteT]
        omega
      · simp only
        rw [hd, digs_step (by omega)]
      · simp only
        omega
      · rw [hI]
        (conv in matchSt _ _ _ _ => cbv); simp only [AllG, AllP, and_true, hH, stdH, ncast, Int.ofNat_eq_natCast, vrow_I, Arm.eta2, Fld.eta, Grp.eta]
        have e1 : (x : Int).tmod 10 = ((x % 10 : Nat) : Int) := by rw [Int.tmod_eq_emod_of_nonneg (by omega)]; omega
        have e2 : (x : Int).tdiv 10 = ((x / 10 : Nat) : Int) := by rw [Int.tdiv_eq_ediv_of_nonneg (by omega)]; omega
        have e3 : IntKind.i64.wrap ((48 : Int) + ((x % 10 : Nat) : Int)) = 48 + ((x % 10 : Nat) : Int) := wi (by omega) (by omega)
        have e4 : IntKind.u8.wrap ((48 : Int) + ((x % 10 : Nat) : Int)) = 48 + ((x % 10 : Nat) : Int) := by
          have : IntKind.u8.wrap ((48 : Int) + ((x % 10 : Nat) : Int)) = ((48 : Int) + ((x % 10 : Nat) : Int)) % 256 := rfl
          rw [this]; omega
        have e5 : IntKind.i64.wrap (((x / 10 : Nat) : Int)) = ((x / 10 : Nat) : Int) := wi (by omega) (by omega)
        rw [e1, e2, e3, e4, e5]
        (repeat' (first | rfl | trivial | refine And.intro ?_ ?_))
    · try simp only [hH, stdH, decide_eq_true_eq, decide_eq_false_iff_not, Bool.not_eq_true', Bool.not_eq_false', peta, ncast, Int.ofNat_eq_natCast, beq_iff_eq, bne_iff_ne, beq_eq_false_iff_ne, bne_eq_false_iff_eq, ne_eq, Classical.not_not, Int.toNat_natCast, vrow_I, Arm.eta2, Fld.eta, Grp.eta]
      simp only [bszN, List.length_cons, List.length_nil]; omega
    · simp only [hH, stdH, decide_eq_true_eq, decide_eq_false_iff_not, Bool.not_eq_true', Bool.not_eq_false', peta, ncast, Int.ofNat_eq_natCast, beq_iff_eq, bne_iff_ne, beq_eq_false_iff_ne, bne_eq_false_iff_eq, ne_eq, Classical.not_not, Int.toNat_natCast, vrow_I, Arm.eta2, Fld.eta, Grp.eta] at h1 ⊢
      obtain rfl : x = 0 := by omega
      unfold markT
      rw [if_neg (by omega), hd]
      rfl
noncomputable def e_markText : Entry := pureE 30 fun H a => match a with
  | [.lit (.int .i64 k)] => some (.lit (.string (H ByteArray fun _ => markT k)), [H Prop fun _ => k ≤ 1000000000])
  | _ => none
theorem eok_markText : EntryOk Tryd.prog e_markText := pureM_ok (by unfold isBody; kernel_rfl) (by
  intro a r ob e hob
  split at e
  · rename_i k
    simp only [Option.some.injEq, Prod.mk.injEq] at e
    obtain ⟨rfl, rfl⟩ := e
    exact ConN.args (.cons .rfl .nil) (c_markText k hob.1)
  · simp at e)
/-- Marks. -/
def mkS (n : Nat) (k : Int) : List ByteArray := (List.range n).map fun i => markT (k + (i : Nat))
theorem mkS_len (n : Nat) (k : Int) : (mkS n k).length = n := by simp [mkS]
theorem mkS_getD {n i : Nat} {k : Int} (h : i < n) : (mkS n k).getD i ByteArray.empty = markT (k + (i : Nat)) := by simp [mkS, List.getD_eq_getElem?_getD, h]
theorem mkS_succ (n : Nat) (k : Int) : mkS (n + 1) k = mkS n k ++ [markT (k + (n : Nat))] := by simp [mkS, List.range_succ]
theorem mkS_set {l : List ByteArray} {i : Nat} {k : Int} (h : i < l.length) : (mkS i k ++ l.drop i).set i (markT (k + (i : Nat))) = mkS (i + 1) k ++ l.drop (i + 1) := by
  rw [List.set_append_right _ _ (by rw [mkS_len]; omega), mkS_len, Nat.sub_self, List.drop_eq_getElem_cons h, List.set_cons_zero, mkS_succ, List.append_assoc]
  rfl
theorem RowsEq.setS {L M : List ByteArray} {i : Nat} {x y : ByteArray} (e : y = x) (h : L.set i x = M) : RowsEq 1 M.length (rowsS stdH fun _ => M) L.length (put1 i [.lit (.string y)] (rowsS stdH fun _ => L)) := by
  subst e
  subst h
  exact RowsEq.ofT okS rfl (Shp_put1 (Shp_rowsT (D := rowS) okS L.length fun _ => L) rfl) (by rw [Tl_put1]; exact congrArg (fun l => List.set l i y) (Tl_rowsT okS L).symm)
theorem c_markStringS (l : List ByteArray) (k : Int) (h0 : l.length ≤ 1048576) (h1 : 0 ≤ k ∧ k ≤ 100000000) : ConN Tryd.prog 13 [.slc 0 0 1 (stdH Nat fun _ => l.length), .lit (.int .i64 k)] [(0, .rows 1 (stdH Nat fun _ => l.length) (rowsS stdH fun _ => l) 9)] 1 (.lit (.int .i64 (stdH Int fun _ => k + (l.length : Nat)))) [] [(0, .rows 1 (stdH Nat fun _ => l.length) (rowsS stdH fun _ => mkS l.length k) 9)] := by
  have hB : Base Tryd.prog (tabΓ [e_markText]) tab := base_of tabOk (ents_cons eok_markText <| ents_nil)
  refine con_m (N := 20) hB (draw_ok hB mixed) Tryd.func13 rfl rfl (fun H => [.slc 0 0 1 (H Nat fun _ => l.length), .lit (.int .i64 k)]) (fun H => [(0, .rows 1 (H Nat fun _ => l.length) (rowsS H fun _ => l) 9)]) 1 (fun H => .lit (.int .i64 (H Int fun _ => k + (l.length : Nat)))) (fun H => []) (fun H => [(0, .rows 1 (H Nat fun _ => l.length) (rowsS H fun _ => mkS l.length k) 9)]) 300 (by simp) (fun x hx => ?_) (fun i b hi => ?_) (fun i hi => ?_) (fun i b hi => ?_) ?_
  · simp only [List.mem_cons, List.not_mem_nil, or_false] at hx
    rcases hx with rfl | rfl
    · exact .slc (by omega)
    · exact .lit
  · have := lk_in hi
    simp only [List.mem_cons, List.not_mem_nil, or_false, Prod.mk.injEq] at this
    obtain ⟨rfl, rfl⟩ := this
    exact ⟨by omega, bT_bl okS _ (fun _ => l) _, _, List.mem_cons_self⟩
  · obtain rfl : i = 0 := by omega
    exact ⟨_, rfl⟩
  · simp only [List.mem_cons, List.not_mem_nil, or_false, Prod.mk.injEq] at hi
    obtain ⟨rfl, rfl⟩ := hi
    exact ⟨_, rfl⟩
  intro X hX hX0 H hH
  conv in Fin.chk _ _ => cbv
  try simp only [Plain_rowsA, Plain_rowsB, Plain_rowsF, Plain_rowsG, Plain_rowsI, Plain_rowsS, Plain_rowsU, Fin.satC_ret, Fin.satC_br, Fin.satC_need, Fin.satC_again, AllP, and_true, true_and, upd, List.length_nil, List.length_cons, Nat.zero_add, if_true, ncast, Int.ofNat_eq_natCast]
  refine loop_a hB (draw_ok hB mixed) hX hX0 hH false (ι := { i : Nat // i ≤ l.length }) 300 (fun i => [.r (H Nat fun _ => (mkS i.1 k ++ l.drop i.1).length) (rowsS H fun _ => mkS i.1 k ++ l.drop i.1), .i (H Int fun _ => k + ((i.1 : Nat) : Int)), .i (H Int fun _ => (i.1 : Nat))]) (fun i => l.length - i.1) (⟨0, by omega⟩) ?_ ?_
  · (conv in matchSt _ _ _ _ => cbv); simp only [AllG, AllP, and_true, hH, stdH, ncast, Int.ofNat_eq_natCast, vrow_I, Arm.eta2, Fld.eta, Grp.eta]
    exact ⟨.self okS, rfl, trivial, by omega⟩
  · intro I hI i
    conv in Fin.chk _ _ => cbv
    try simp only [Plain_rowsA, Plain_rowsB, Plain_rowsF, Plain_rowsG, Plain_rowsI, Plain_rowsS, Plain_rowsU, Fin.satC_ret, Fin.satC_br, Fin.satC_need, Fin.satC_again, AllP, and_true, true_and, upd, List.length_nil, List.length_cons, Nat.zero_add, if_true, ncast, Int.ofNat_eq_natCast]
    obtain ⟨i, hi⟩ := i
    refine ⟨fun h1 => ?_, fun h1 => ?_⟩
    · simp only [hH, stdH, decide_eq_true_eq, decide_eq_false_iff_not, Bool.not_eq_true', Bool.not_eq_false', peta, ncast, Int.ofNat_eq_natCast, beq_iff_eq, bne_iff_ne, beq_eq_false_iff_ne, bne_eq_false_iff_eq, ne_eq, Classical.not_not, Int.toNat_natCast, vrow_I, Arm.eta2, Fld.eta, Grp.eta] at h1
      refine ⟨?_, ?_, ?_, ⟨⟨i + 1, by omega⟩, by simp only; omega, ?_⟩⟩
      · try simp only [hH, stdH, decide_eq_true_eq, decide_eq_false_iff_not, Bool.not_eq_true', Bool.not_eq_false', peta, ncast, Int.ofNat_eq_natCast, beq_iff_eq, bne_iff_ne, beq_eq_false_iff_ne, bne_eq_false_iff_eq, ne_eq, Classical.not_not, Int.toNat_natCast, vrow_I, Arm.eta2, Fld.eta, Grp.eta]
        omega
      · try simp only [hH, stdH, decide_eq_true_eq, decide_eq_false_iff_not, Bool.not_eq_true', Bool.not_eq_false', peta, ncast, Int.ofNat_eq_natCast, beq_iff_eq, bne_iff_ne, beq_eq_false_iff_ne, bne_eq_false_iff_eq, ne_eq, Classical.not_not, Int.toNat_natCast, vrow_I, Arm.eta2, Fld.eta, Grp.eta]
        omega
      · simp only [hH, stdH, Int.toNat_natCast, List.length_append, mkS_len, List.length_drop]
        exact ⟨by omega, rfl⟩
      · rw [hI]
        (conv in matchSt _ _ _ _ => cbv); simp only [AllG, AllP, and_true, hH, stdH, ncast, Int.ofNat_eq_natCast, vrow_I, Arm.eta2, Fld.eta, Grp.eta]
        rw [w1 (by omega), Int.toNat_natCast, wi (x := k + (i : Int) + 1) (by omega) (by omega)]
        have hq := RowsEq.setS (x := markT (k + (i : Nat))) (y := markT (k + (i : Nat))) rfl (mkS_set (l := l) (i := i) (k := k) (by omega))
        (repeat' (first | exact hq | rfl | trivial | omega | refine And.intro ?_ ?_))
    · simp only [hH, stdH, decide_eq_true_eq, decide_eq_false_iff_not, Bool.not_eq_true', Bool.not_eq_false', peta, ncast, Int.ofNat_eq_natCast, beq_iff_eq, bne_iff_ne, beq_eq_false_iff_ne, bne_eq_false_iff_eq, ne_eq, Classical.not_not, Int.toNat_natCast, vrow_I, Arm.eta2, Fld.eta, Grp.eta] at h1 ⊢
      obtain rfl : i = l.length := by omega
      simp only [List.drop_length, List.append_nil]
      refine ⟨?_, trivial⟩
      have := RowsEq.self okS (k := 1) (L := mkS l.length k)
      rw [mkS_len] at this ⊢
      exact this
noncomputable def e_markStringS : Entry := modE 13 1 9 fun H n g a => match a with
  | [.lit (.int .i64 k)] => some (.lit (.int .i64 (H Int fun _ => k + ((Tl rowS n g).length : Nat))), rowsS H fun _ => mkS (Tl rowS n g).length k, [H Prop fun _ => Shp rowS n g, H Prop fun _ => (Tl rowS n g).length ≤ 1048576, H Prop fun _ => 0 ≤ k ∧ k ≤ 100000000])
  | _ => none
theorem eok_markStringS : EntryOk Tryd.prog e_markStringS := modE_ok (by unfold isBody; kernel_rfl) (by
  intro n g a r g' ob e hob
  split at e
  · rename_i k
    simp only [Option.some.injEq, Prod.mk.injEq] at e
    obtain ⟨rfl, rfl, rfl⟩ := e
    have hs := hob.1
    have hl : (Tl rowS n g).length = n := Tl_len n g
    refine ⟨rowsS stdH fun _ => Tl rowS n g, fun j hj => ⟨?_, ?_⟩, ?_, fun x hx => ?_, ?_, fun j hj => ?_⟩
    · rw [hs.row j hj]; exact ((okS).row (fun _ => Tl rowS n g) j).trans (by rw [Tl_getD hj])
    · exact rows_blx okS _ j
    · have := c_markStringS (Tl rowS n g) k hob.2.1 hob.2.2.1
      simp only [stdH, hl] at this ⊢
      exact ConN.args (.cons .rfl (.cons .rfl .nil)) this
    · simp only [List.mem_cons, List.not_mem_nil, or_false] at hx
      rcases hx with rfl
      · exact .lit
    · exact .lit
    · exact rows_blx okS _ j
  · simp at e)
theorem c_heldStringS (a : List ByteArray) (k : Int) (h0 : a.length ≤ 1048576) (h1 : 0 ≤ k ∧ k ≤ 100000000) (h2 : a = mkS a.length k) : ConN Tryd.prog 14 [.vec 1 (stdH Nat fun _ => (a).length) (rowsS stdH fun _ => a), .lit (.int .i64 k)] [] 0 (.lit (.int .i64 (stdH Int fun _ => k + (a.length : Nat)))) [] [] := by
  have hB : Base Tryd.prog (tabΓ [e_markText]) tab := base_of tabOk (ents_cons eok_markText <| ents_nil)
  refine con_m (N := 22) hB (draw_ok hB mixed) Tryd.func14 rfl rfl (fun H => [.vec 1 (H Nat fun _ => (a).length) (rowsS H fun _ => a), .lit (.int .i64 k)]) (fun _ => []) 0 (fun H => .lit (.int .i64 (H Int fun _ => k + (a.length : Nat)))) (fun H => []) (fun _ => []) 300 (by simp) (fun x hx => ?_) (by simp [lk]) (by omega) (by simp) ?_
  · simp only [List.mem_cons, List.not_mem_nil, or_false] at hx
    rcases hx with rfl | rfl
    · exact vl_bl okS a _
    · exact .lit
  intro X hX hX0 H hH
  conv in Fin.chk _ _ => cbv
  try simp only [Plain_rowsA, Plain_rowsB, Plain_rowsF, Plain_rowsG, Plain_rowsI, Plain_rowsS, Plain_rowsU, Fin.satC_ret, Fin.satC_br, Fin.satC_need, Fin.satC_again, AllP, and_true, true_and, upd, List.length_nil, List.length_cons, Nat.zero_add, if_true, ncast, Int.ofNat_eq_natCast]
  refine loop_a hB (draw_ok hB mixed) hX hX0 hH false (ι := { i : Nat // i ≤ a.length }) 300 (fun i => [.i (H Int fun _ => k + ((i.1 : Nat) : Int)), .i (H Int fun _ => 0), .i (H Int fun _ => (i.1 : Nat))]) (fun i => a.length - i.1) (⟨0, by omega⟩) ?_ ?_
  · (conv in matchSt _ _ _ _ => cbv); simp only [AllG, AllP, and_true, hH, stdH, ncast, Int.ofNat_eq_natCast, vrow_I, Arm.eta2, Fld.eta, Grp.eta]
    (repeat' (first | exact RowsEq.self okS | rfl | trivial | omega | refine And.intro ?_ ?_))
  · intro I hI i
    conv in Fin.chk _ _ => cbv
    try simp only [Plain_rowsA, Plain_rowsB, Plain_rowsF, Plain_rowsG, Plain_rowsI, Plain_rowsS, Plain_rowsU, Fin.satC_ret, Fin.satC_br, Fin.satC_need, Fin.satC_again, AllP, and_true, true_and, upd, List.length_nil, List.length_cons, Nat.zero_add, if_true, ncast, Int.ofNat_eq_natCast]
    obtain ⟨i, hi⟩ := i
    refine ⟨fun h1 => ?_, fun h1 => ?_⟩
    · simp only [hH, stdH, decide_eq_true_eq, decide_eq_false_iff_not, Bool.not_eq_true', Bool.not_eq_false', peta, ncast, Int.ofNat_eq_natCast, beq_iff_eq, bne_iff_ne, beq_eq_false_iff_ne, bne_eq_false_iff_eq, ne_eq, Classical.not_not, Int.toNat_natCast, vrow_I, Arm.eta2, Fld.eta, Grp.eta] at h1
      have hg : a.getD i ByteArray.empty = markT (k + (i : Nat)) := (congrArg (fun l => List.getD l i ByteArray.empty) h2).trans (mkS_getD (by omega))
      refine ⟨?_, ?_, fun h3 => ?_, fun h3 => ?_⟩
      · try simp only [hH, stdH, decide_eq_true_eq, decide_eq_false_iff_not, Bool.not_eq_true', Bool.not_eq_false', peta, ncast, Int.ofNat_eq_natCast, beq_iff_eq, bne_iff_ne, beq_eq_false_iff_ne, bne_eq_false_iff_eq, ne_eq, Classical.not_not, Int.toNat_natCast, vrow_I, Arm.eta2, Fld.eta, Grp.eta]
        first | omega | exact ⟨by omega, by omega⟩
      · try simp only [hH, stdH, decide_eq_true_eq, decide_eq_false_iff_not, Bool.not_eq_true', Bool.not_eq_false', peta, ncast, Int.ofNat_eq_natCast, beq_iff_eq, bne_iff_ne, beq_eq_false_iff_ne, bne_eq_false_iff_eq, ne_eq, Classical.not_not, Int.toNat_natCast, vrow_I, Arm.eta2, Fld.eta, Grp.eta]
        first | omega | exact ⟨by omega, by omega⟩
      · exfalso
        simp only [hH, stdH, Int.toNat_natCast, hg, beqT, decide_true, Bool.not_true, Bool.false_eq_true] at h3
      · refine ⟨⟨i + 1, by omega⟩, by simp only; omega, ?_⟩
        rw [hI]
        (conv in matchSt _ _ _ _ => cbv); simp only [AllG, AllP, and_true, hH, stdH, ncast, Int.ofNat_eq_natCast, vrow_I, Arm.eta2, Fld.eta, Grp.eta]
        rw [w1 (by omega), wi (x := k + (i : Int) + 1) (by omega) (by omega)]
        (repeat' (first | exact RowsEq.self okS | rfl | trivial | omega | refine And.intro ?_ ?_))
    · simp only [hH, stdH, decide_eq_true_eq, decide_eq_false_iff_not, Bool.not_eq_true', Bool.not_eq_false', peta, ncast, Int.ofNat_eq_natCast, beq_iff_eq, bne_iff_ne, beq_eq_false_iff_ne, bne_eq_false_iff_eq, ne_eq, Classical.not_not, Int.toNat_natCast, vrow_I, Arm.eta2, Fld.eta, Grp.eta] at h1 ⊢
      omega
noncomputable def e_heldStringS : Entry := pureE 14 fun H a => match a with
  | [.vec 1 an af, .lit (.int .i64 k)] => some (.lit (.int .i64 (H Int fun _ => k + ((Tl rowS an af).length : Nat))), [H Prop fun _ => Shp rowS an af, H Prop fun _ => (Tl rowS an af).length ≤ 1048576, H Prop fun _ => 0 ≤ k ∧ k ≤ 100000000, H Prop fun _ => (Tl rowS an af) = mkS (Tl rowS an af).length k])
  | _ => none
theorem eok_heldStringS : EntryOk Tryd.prog e_heldStringS := pureM_ok (by unfold isBody; kernel_rfl) (by
  intro a r ob e hob
  split at e
  · rename_i an af k
    simp only [Option.some.injEq, Prod.mk.injEq] at e
    obtain ⟨rfl, rfl⟩ := e
    exact ConN.args (.cons (.toT okS rfl hob.1) (.cons .rfl .nil)) (c_heldStringS (Tl rowS an af) k hob.2.1 hob.2.2.1 hob.2.2.2.1)
  · simp at e)
theorem list_extS {a b : List ByteArray} (h : a.length = b.length) (hj : ∀ j, j < a.length → a.getD j ByteArray.empty = b.getD j ByteArray.empty) : a = b := by
  refine List.ext_getElem h fun j h2 h3 => ?_
  have := hj j h2
  simpa [List.getD_eq_getElem?_getD, h2, h3] using this
theorem c_eqStringS (a : List ByteArray) (b : List ByteArray) (h0 : a.length ≤ 100000000) : ConN Tryd.prog 10 [.vec 1 (stdH Nat fun _ => (a).length) (rowsS stdH fun _ => a), .vec 1 (stdH Nat fun _ => (b).length) (rowsS stdH fun _ => b)] [] 0 (.lit (.bool (stdH Bool fun _ => decide (a = b)))) [] [] := by
  have hB : Base Tryd.prog (tabΓ []) tab := base_of tabOk (ents_nil)
  refine con_m (N := 26) hB (draw_ok hB mixed) Tryd.func10 rfl rfl (fun H => [.vec 1 (H Nat fun _ => (a).length) (rowsS H fun _ => a), .vec 1 (H Nat fun _ => (b).length) (rowsS H fun _ => b)]) (fun _ => []) 0 (fun H => .lit (.bool (H Bool fun _ => decide (a = b)))) (fun H => []) (fun _ => []) 100 (by simp) (fun x hx => ?_) (by simp [lk]) (by omega) (by simp) ?_
  · simp only [List.mem_cons, List.not_mem_nil, or_false] at hx
    rcases hx with rfl | rfl
    · exact vl_bl okS a _
    · exact vl_bl okS b _
  intro X hX hX0 H hH
  conv in Fin.chk _ _ => cbv
  try simp only [Plain_rowsA, Plain_rowsB, Plain_rowsF, Plain_rowsG, Plain_rowsI, Plain_rowsS, Plain_rowsU, Fin.satC_ret, Fin.satC_br, Fin.satC_need, Fin.satC_again, AllP, and_true, true_and, upd, List.length_nil, List.length_cons, Nat.zero_add, if_true, ncast, Int.ofNat_eq_natCast]
  refine ⟨fun h => ?_, fun h => ?_⟩
  · simp only [hH, stdH, decide_eq_true_eq, decide_eq_false_iff_not, Bool.not_eq_true', Bool.not_eq_false', peta, ncast, Int.ofNat_eq_natCast, beq_iff_eq, bne_iff_ne, beq_eq_false_iff_ne, bne_eq_false_iff_eq, ne_eq, Classical.not_not, Int.toNat_natCast, vrow_I, Arm.eta2, Fld.eta, Grp.eta] at h ⊢
    rintro rfl; exact h rfl
  simp only [hH, stdH, decide_eq_true_eq, decide_eq_false_iff_not, Bool.not_eq_true', Bool.not_eq_false', peta, ncast, Int.ofNat_eq_natCast, beq_iff_eq, bne_iff_ne, beq_eq_false_iff_ne, bne_eq_false_iff_eq, ne_eq, Classical.not_not, Int.toNat_natCast, vrow_I, Arm.eta2, Fld.eta, Grp.eta] at h
  refine loop_a hB (draw_ok hB mixed) hX hX0 hH false (ι := { i : Nat // i ≤ a.length ∧ ∀ j, j < i → a.getD j ByteArray.empty = b.getD j ByteArray.empty }) 100 (fun i => [.i (H Int fun _ => (i.1 : Nat))]) (fun i => a.length - i.1) (⟨0, by omega, by omega⟩) ?_ ?_
  · (conv in matchSt _ _ _ _ => cbv); simp only [AllG, AllP, and_true, hH, stdH, ncast, Int.ofNat_eq_natCast, vrow_I, Arm.eta2, Fld.eta, Grp.eta]
    (repeat' (first | rfl | trivial | exact RowsEq.self okS | exact RowsEq.ofT okS rfl (Shp_zero _) rfl | exact RowsEq.snoc okS rfl | exact RowsEq.self okI | exact RowsEq.self okRA | exact List.length_append | refine And.intro ?_ ?_))
  · intro I hI i
    conv in Fin.chk _ _ => cbv
    try simp only [Plain_rowsA, Plain_rowsB, Plain_rowsF, Plain_rowsG, Plain_rowsI, Plain_rowsS, Plain_rowsU, Fin.satC_ret, Fin.satC_br, Fin.satC_need, Fin.satC_again, AllP, and_true, true_and, upd, List.length_nil, List.length_cons, Nat.zero_add, if_true, ncast, Int.ofNat_eq_natCast]
    obtain ⟨i, hi, hj⟩ := i
    refine ⟨fun h1 => ⟨?_, ?_, fun h2 => ?_, fun h2 => ?_⟩, fun h1 => ?_⟩
    · simp only [hH, stdH, decide_eq_true_eq, decide_eq_false_iff_not, Bool.not_eq_true', Bool.not_eq_false', peta, ncast, Int.ofNat_eq_natCast, beq_iff_eq, bne_iff_ne, beq_eq_false_iff_ne, bne_eq_false_iff_eq, ne_eq, Classical.not_not, Int.toNat_natCast, vrow_I, Arm.eta2, Fld.eta, Grp.eta] at h1 ⊢
      omega
    · simp only [hH, stdH, decide_eq_true_eq, decide_eq_false_iff_not, Bool.not_eq_true', Bool.not_eq_false', peta, ncast, Int.ofNat_eq_natCast, beq_iff_eq, bne_iff_ne, beq_eq_false_iff_ne, bne_eq_false_iff_eq, ne_eq, Classical.not_not, Int.toNat_natCast, vrow_I, Arm.eta2, Fld.eta, Grp.eta] at h1 ⊢
      omega
    · simp only [hH, stdH, Int.toNat_natCast, beqT, Bool.not_eq_true', decide_eq_false_iff_not] at h2 ⊢
      rintro rfl; exact h2 rfl
    · simp only [hH, stdH, decide_eq_true_eq, decide_eq_false_iff_not, Bool.not_eq_true', Bool.not_eq_false', peta, ncast, Int.ofNat_eq_natCast, beq_iff_eq, bne_iff_ne, beq_eq_false_iff_ne, bne_eq_false_iff_eq, ne_eq, Classical.not_not, Int.toNat_natCast, vrow_I, Arm.eta2, Fld.eta, Grp.eta] at h1
      simp only [hH, stdH, Int.toNat_natCast, beqT, Bool.not_eq_false', decide_eq_true_eq] at h2
      refine ⟨⟨i + 1, by omega, fun j hj' => ?_⟩, by simp only; omega, ?_⟩
      · rcases Nat.lt_succ_iff_lt_or_eq.1 hj' with h | rfl
        · exact hj j h
        · exact h2
      · rw [hI]
        (conv in matchSt _ _ _ _ => cbv); simp only [AllG, AllP, and_true, hH, stdH, ncast, Int.ofNat_eq_natCast, vrow_I, Arm.eta2, Fld.eta, Grp.eta]
        rw [w1 (by omega)]
        (repeat' (first | rfl | trivial | exact RowsEq.self okS | exact RowsEq.ofT okS rfl (Shp_zero _) rfl | exact RowsEq.snoc okS rfl | exact RowsEq.self okI | exact RowsEq.self okRA | exact List.length_append | refine And.intro ?_ ?_))
    · simp only [hH, stdH, decide_eq_true_eq, decide_eq_false_iff_not, Bool.not_eq_true', Bool.not_eq_false', peta, ncast, Int.ofNat_eq_natCast, beq_iff_eq, bne_iff_ne, beq_eq_false_iff_ne, bne_eq_false_iff_eq, ne_eq, Classical.not_not, Int.toNat_natCast, vrow_I, Arm.eta2, Fld.eta, Grp.eta] at h1 ⊢
      obtain rfl : i = a.length := by omega
      exact list_extS (by omega) hj
noncomputable def e_eqStringS : Entry := pureE 10 fun H a => match a with
  | [.vec 1 an af, .vec 1 bn bf] => some (.lit (.bool (H Bool fun _ => decide ((Tl rowS an af) = (Tl rowS bn bf)))), [H Prop fun _ => Shp rowS an af, H Prop fun _ => Shp rowS bn bf, H Prop fun _ => (Tl rowS an af).length ≤ 100000000])
  | _ => none
theorem eok_eqStringS : EntryOk Tryd.prog e_eqStringS := pureM_ok (by unfold isBody; kernel_rfl) (by
  intro a r ob e hob
  split at e
  · rename_i an af bn bf
    simp only [Option.some.injEq, Prod.mk.injEq] at e
    obtain ⟨rfl, rfl⟩ := e
    exact ConN.args (.cons (.toT okS rfl hob.1) (.cons (.toT okS rfl hob.2.1) .nil)) (c_eqStringS (Tl rowS an af) (Tl rowS bn bf) hob.2.2.1)
  · simp at e)
theorem sts_len (n : Nat) (k : Int) : Tl rowS n (rowsS stdH fun _ => mkS n k) = mkS n k := by
  have := Tl_rowsT okS (mkS n k)
  rw [mkS_len] at this
  exact this
theorem c_markStringN  (k : Int)  : ConN Tryd.prog 13 [.lit (.slice none 0 0), .lit (.int .i64 k)] [] 0 (.lit (.int .i64 (stdH Int fun _ => k))) [] [] := by
  have hB : Base Tryd.prog (tabΓ []) tabU := base_of tabOkU (ents_nil)
  refine con_m (N := 20) hB (draw_ok hB mixed) Tryd.func13 rfl rfl (fun H => [.lit (.slice none 0 0), .lit (.int .i64 k)]) (fun _ => []) 0 (fun H => .lit (.int .i64 (H Int fun _ => k))) (fun H => []) (fun _ => []) 300 (by simp) (fun x hx => ?_) (by simp [lk]) (by omega) (by simp) ?_
  · simp only [List.mem_cons, List.not_mem_nil, or_false] at hx
    rcases hx with rfl | rfl
    · exact .lit
    · exact .lit
  intro X hX hX0 H hH
  conv in Fin.chk _ _ => cbv
  try simp only [Plain_rowsA, Plain_rowsB, Plain_rowsF, Plain_rowsG, Plain_rowsI, Plain_rowsS, Plain_rowsU, Fin.satC_ret, Fin.satC_br, Fin.satC_need, Fin.satC_again, AllP, and_true, true_and, upd, List.length_nil, List.length_cons, Nat.zero_add, if_true, ncast, Int.ofNat_eq_natCast]
  subst hH
  exact ⟨fun h => by simp [stdH] at h, fun _ => rfl⟩
noncomputable def e_markStringN : Entry := pureE 13 fun H a => match a with
  | [.lit (.slice none 0 0), .lit (.int .i64 k)] => some (.lit (.int .i64 (H Int fun _ => k)), [])
  | _ => none
theorem eok_markStringN : EntryOk Tryd.prog e_markStringN := pureM_ok (by unfold isBody; kernel_rfl) (by
  intro a r ob e hob
  split at e
  · rename_i k
    simp only [Option.some.injEq, Prod.mk.injEq] at e
    obtain ⟨rfl, rfl⟩ := e
    exact ConN.args (.cons .rfl (.cons .rfl .nil)) (c_markStringN k )
  · simp at e)

end Go.Proofs.YtmdkmomhjfomkaaDoor.AM
