import Derived.Test.YtbgmlocolacnpaaDoorAmT
import Derived.Test.YtbgmlocolacnpaaDoorSpl
set_option linter.unusedVariables false
set_option linter.unusedSimpArgs false
set_option maxRecDepth 100000
set_option maxHeartbeats 4000000
set_option cbv.maxSteps 3000000
namespace Go.Proofs.YtbgmlocolacnpaaDoor.AM
/- Mottoes; conditions: none. -/
def isAZ (b : UInt8) : Bool := azB.data.toList.contains b
theorem isAZ_iff (b : UInt8) : isAZ b = true ↔ 65 ≤ b.toNat ∧ b.toNat ≤ 90 := by
  unfold isAZ
  rw [List.contains_iff_mem]
  constructor
  · intro h
    simp only [azB, List.mem_cons, List.not_mem_nil, or_false] at h
    rcases h with rfl | rfl | rfl | rfl | rfl | rfl | rfl | rfl | rfl | rfl | rfl | rfl | rfl | rfl | rfl | rfl | rfl | rfl | rfl | rfl | rfl | rfl | rfl | rfl | rfl | rfl <;> decide
  · intro h
    have e : b = UInt8.ofNat b.toNat := by simp
    rw [e]
    generalize b.toNat = n at h
    rcases (by omega : n = 65 ∨ n = 66 ∨ n = 67 ∨ n = 68 ∨ n = 69 ∨ n = 70 ∨ n = 71 ∨ n = 72 ∨ n = 73 ∨ n = 74 ∨ n = 75 ∨ n = 76 ∨ n = 77 ∨ n = 78 ∨ n = 79 ∨ n = 80 ∨ n = 81 ∨ n = 82 ∨ n = 83 ∨ n = 84 ∨ n = 85 ∨ n = 86 ∨ n = 87 ∨ n = 88 ∨ n = 89 ∨ n = 90) with rfl | rfl | rfl | rfl | rfl | rfl | rfl | rfl | rfl | rfl | rfl | rfl | rfl | rfl | rfl | rfl | rfl | rfl | rfl | rfl | rfl | rfl | rfl | rfl | rfl | rfl <;> decide
def okW (w : List UInt8) : Bool := !w.isEmpty && w.all isAZ
def okWB (w : ByteArray) : Bool := okW w.data.toList
def isM (s : ByteArray) : Bool := inB s.size 1 60 && (wordsB s).all okWB
theorem dw_nil {α : Type} {p : α → Bool} : ∀ {l : List α}, l.dropWhile p = [] ↔ ∀ x ∈ l, p x = true
  | [] => by simp
  | b :: l => by
    rw [List.dropWhile_cons]
    cases hb : p b with
    | true => simp [hb, dw_nil (l := l)]
    | false => simp [hb]
theorem trimS_nil (l cs : List UInt8) : Lib.trimS l cs = [] ↔ ∀ b ∈ l, cs.contains b = true := by
  unfold Lib.trimS Lib.trimLeftS Lib.trimRightS
  constructor
  · intro h b hb
    rw [dw_nil] at h
    rcases hc : cs.contains b with _ | _
    · exfalso
      have hne : l.reverse.dropWhile (fun x => cs.contains x) ≠ [] := by
        intro e
        rw [dw_nil] at e
        have := e b (by simpa using hb)
        rw [hc] at this; cases this
      have h1 := List.head_dropWhile_not (fun x => cs.contains x) hne
      have h2 := h _ (by rw [List.mem_reverse]; exact List.head_mem hne)
      rw [h1] at h2; cases h2
    · rfl
  · intro h
    have e : l.reverse.dropWhile (fun x => cs.contains x) = [] := by
      rw [dw_nil]
      intro x hx
      exact h x (by simpa using hx)
    rw [e]; rfl
theorem bad_word (w : ByteArray) : (bif w.toList == (⟨⟨[]⟩⟩ : ByteArray).toList then true else !((trimZ w).toList == (⟨⟨[]⟩⟩ : ByteArray).toList)) = !okWB w := by
  have e0 : (⟨⟨[]⟩⟩ : ByteArray).toList = [] := ByteArray.toList_eq _
  have e1 : (trimZ w).toList = Lib.trimS w.data.toList azB.data.toList := by rw [ByteArray.toList_eq]; rfl
  rw [e0, e1, ByteArray.toList_eq]
  unfold okWB okW
  cases hl : w.data.toList with
  | nil => rfl
  | cons b l =>
    have h1 : ((b :: l) == ([] : List UInt8)) = false := rfl
    rw [h1]
    simp only [cond_false, List.isEmpty_cons, Bool.not_false, Bool.true_and]
    congr 1
    rw [Bool.eq_iff_iff, beq_iff_eq, trimS_nil, List.all_eq_true]
    exact Iff.rfl
theorem words_sz {s w : ByteArray} (h : w ∈ wordsB s) : w.size ≤ s.size := by
  have key : ∀ (l x : List UInt8), x ∈ spl l → x.length ≤ l.length := by
    intro l
    induction l with
    | nil => intro x hx; simp [spl] at hx; subst hx; simp
    | cons b l ih =>
      intro x hx
      rw [spl_cons] at hx
      split at hx
      · rcases List.mem_cons.1 hx with rfl | hx
        · simp
        · have := ih x hx; simp; omega
      · split at hx
        · simp at hx; subst hx; simp
        · rename_i v vs e
          rcases List.mem_cons.1 hx with rfl | hx
          · have := ih v (by rw [e]; simp); simp; omega
          · have := ih x (by rw [e]; simp [hx]); simp; omega
  unfold wordsB at h
  obtain ⟨l, hl, rfl⟩ := List.mem_map.1 h
  exact key _ _ hl
theorem not_allB {p : ByteArray → Bool} {l : List ByteArray} {i : Nat} (hi : i < l.length) (h : p (l.getD i ByteArray.empty) = false) : l.all p = false := by
  rw [← Bool.not_eq_true, List.all_eq_true]
  intro q
  rw [q _ (getD_mem hi)] at h; cases h
theorem allB {p : ByteArray → Bool} {l : List ByteArray} (h : ∀ j, j < l.length → p (l.getD j ByteArray.empty) = true) : l.all p = true := by
  rw [List.all_eq_true]
  intro x hx
  obtain ⟨i, hi, e⟩ := List.getElem_of_mem hx
  have := h i hi
  rw [List.getD_eq_getElem?_getD, List.getElem?_eq_getElem hi] at this
  rw [← e]; exact this
theorem c_isMotto (s : ByteArray)  : ConN Tryd.prog 8 [.lit (.string s)] [] 0 (.lit (.bool (stdH Bool fun _ => isM s))) [] [] := by
  have hB : Base Tryd.prog (tabΓ [e_inside, e_split, e_trim]) tab := base_of tabOk (ents_cons eok_inside <| ents_cons eok_split <| ents_cons eok_trim <| ents_nil)
  refine con_m (N := 24) hB (draw_ok hB mixed) Tryd.func8 rfl rfl (fun H => [.lit (.string s)]) (fun _ => []) 0 (fun H => .lit (.bool (H Bool fun _ => isM s))) (fun H => []) (fun _ => []) 200 (by simp) (fun x hx => ?_) (by simp [lk]) (by omega) (by simp) ?_
  · simp only [List.mem_cons, List.not_mem_nil, or_false] at hx
    rcases hx with rfl
    · exact .lit
  intro X hX hX0 H hH
  conv in Fin.chk _ _ => cbv
  try simp only [Plain_rowsA, Plain_rowsB, Plain_rowsF, Plain_rowsG, Plain_rowsI, Plain_rowsS, Plain_rowsU, Fin.satC_ret, Fin.satC_br, Fin.satC_need, Fin.satC_again, AllP, and_true, true_and, upd, List.length_nil, List.length_cons, Nat.zero_add, if_true, ncast, Int.ofNat_eq_natCast]
  refine ⟨fun h => ?_, fun h => ⟨?_, ?_⟩⟩
  · simp only [hH, stdH, decide_eq_true_eq, decide_eq_false_iff_not, Bool.not_eq_true', Bool.not_eq_false', peta, ncast, Int.ofNat_eq_natCast, beq_iff_eq, bne_iff_ne, beq_eq_false_iff_ne, bne_eq_false_iff_eq, ne_eq, Classical.not_not, Int.toNat_natCast, vrow_I, Arm.eta2, Fld.eta, Grp.eta] at h ⊢
    unfold isM; rw [h]; rfl
  · simp only [hH, stdH, decide_eq_true_eq, decide_eq_false_iff_not, Bool.not_eq_true', Bool.not_eq_false', peta, ncast, Int.ofNat_eq_natCast, beq_iff_eq, bne_iff_ne, beq_eq_false_iff_ne, bne_eq_false_iff_eq, ne_eq, Classical.not_not, Int.toNat_natCast, vrow_I, Arm.eta2, Fld.eta, Grp.eta] at h
    try simp only [hH, stdH, decide_eq_true_eq, decide_eq_false_iff_not, Bool.not_eq_true', Bool.not_eq_false', peta, ncast, Int.ofNat_eq_natCast, beq_iff_eq, bne_iff_ne, beq_eq_false_iff_ne, bne_eq_false_iff_eq, ne_eq, Classical.not_not, Int.toNat_natCast, vrow_I, Arm.eta2, Fld.eta, Grp.eta]
    have hs : s.size ≤ 60 := by unfold inB at h; simp at h; omega
    exact ⟨by omega, rfl⟩
  simp only [hH, stdH, decide_eq_true_eq, decide_eq_false_iff_not, Bool.not_eq_true', Bool.not_eq_false', peta, ncast, Int.ofNat_eq_natCast, beq_iff_eq, bne_iff_ne, beq_eq_false_iff_ne, bne_eq_false_iff_eq, ne_eq, Classical.not_not, Int.toNat_natCast, vrow_I, Arm.eta2, Fld.eta, Grp.eta] at h
  have hs : s.size ≤ 60 := by unfold inB at h; simp at h; omega
  have hl := words_len s
  refine loop_a hB (draw_ok hB mixed) hX hX0 hH false (ι := { i : Nat // i ≤ (wordsB s).length ∧ ∀ j, j < i → okWB ((wordsB s).getD j ByteArray.empty) = true }) 200 (fun i => [.i (H Int fun _ => (i.1 : Nat))]) (fun i => (wordsB s).length - i.1) (⟨0, by omega, by omega⟩) ?_ ?_
  · (conv in matchSt _ _ _ _ => cbv); simp only [AllG, AllP, and_true, hH, stdH, ncast, Int.ofNat_eq_natCast, vrow_I, Arm.eta2, Fld.eta, Grp.eta]
    (repeat' (first | rfl | trivial | exact RowsEq.self okS | exact RowsEq.ofT okS rfl (Shp_zero _) rfl | exact RowsEq.snoc okS rfl | exact RowsEq.self okI | exact RowsEq.self okRA | exact List.length_append | refine And.intro ?_ ?_))
  · intro I hI i
    conv in Fin.chk _ _ => cbv
    try simp only [Plain_rowsA, Plain_rowsB, Plain_rowsF, Plain_rowsG, Plain_rowsI, Plain_rowsS, Plain_rowsU, Fin.satC_ret, Fin.satC_br, Fin.satC_need, Fin.satC_again, AllP, and_true, true_and, upd, List.length_nil, List.length_cons, Nat.zero_add, if_true, ncast, Int.ofNat_eq_natCast]
    obtain ⟨i, hi, hj⟩ := i
    refine ⟨fun h1 => ?_, fun h1 => ?_⟩
    · simp only [hH, stdH, decide_eq_true_eq, decide_eq_false_iff_not, Bool.not_eq_true', Bool.not_eq_false', peta, ncast, Int.ofNat_eq_natCast, beq_iff_eq, bne_iff_ne, beq_eq_false_iff_ne, bne_eq_false_iff_eq, ne_eq, Classical.not_not, Int.toNat_natCast, vrow_I, Arm.eta2, Fld.eta, Grp.eta] at h1
      refine ⟨?_, ⟨?_, ?_⟩, fun h2 => ?_, fun h2 => ?_⟩
      · try simp only [hH, stdH, decide_eq_true_eq, decide_eq_false_iff_not, Bool.not_eq_true', Bool.not_eq_false', peta, ncast, Int.ofNat_eq_natCast, beq_iff_eq, bne_iff_ne, beq_eq_false_iff_ne, bne_eq_false_iff_eq, ne_eq, Classical.not_not, Int.toNat_natCast, vrow_I, Arm.eta2, Fld.eta, Grp.eta]
        omega
      · try simp only [hH, stdH, decide_eq_true_eq, decide_eq_false_iff_not, Bool.not_eq_true', Bool.not_eq_false', peta, ncast, Int.ofNat_eq_natCast, beq_iff_eq, bne_iff_ne, beq_eq_false_iff_ne, bne_eq_false_iff_eq, ne_eq, Classical.not_not, Int.toNat_natCast, vrow_I, Arm.eta2, Fld.eta, Grp.eta]
        intro _
        exact Nat.le_trans (words_sz (s := s) (getD_mem (l := wordsB s) (by omega))) (by omega)
      · try simp only [hH, stdH, decide_eq_true_eq, decide_eq_false_iff_not, Bool.not_eq_true', Bool.not_eq_false', peta, ncast, Int.ofNat_eq_natCast, beq_iff_eq, bne_iff_ne, beq_eq_false_iff_ne, bne_eq_false_iff_eq, ne_eq, Classical.not_not, Int.toNat_natCast, vrow_I, Arm.eta2, Fld.eta, Grp.eta]
        exact fun _ => rfl
      · simp only [hH, stdH, Int.toNat_natCast] at h2
        rw [bad_word] at h2
        try simp only [hH, stdH, decide_eq_true_eq, decide_eq_false_iff_not, Bool.not_eq_true', Bool.not_eq_false', peta, ncast, Int.ofNat_eq_natCast, beq_iff_eq, bne_iff_ne, beq_eq_false_iff_ne, bne_eq_false_iff_eq, ne_eq, Classical.not_not, Int.toNat_natCast, vrow_I, Arm.eta2, Fld.eta, Grp.eta]
        unfold isM
        rw [not_allB (p := okWB) (l := wordsB s) (i := i) (by omega) (by simpa using h2)]; simp
      · simp only [hH, stdH, Int.toNat_natCast] at h2
        rw [bad_word] at h2
        have h3 : okWB ((wordsB s).getD i ByteArray.empty) = true := by simpa using h2
        refine ⟨⟨i + 1, by omega, fun j hj' => ?_⟩, by simp only; omega, ?_⟩
        · rcases Nat.lt_succ_iff_lt_or_eq.1 hj' with h | rfl
          · exact hj j h
          · exact h3
        · rw [hI]
          (conv in matchSt _ _ _ _ => cbv); simp only [AllG, AllP, and_true, hH, stdH, ncast, Int.ofNat_eq_natCast, vrow_I, Arm.eta2, Fld.eta, Grp.eta]
          rw [w1 (by omega)]
          (repeat' (first | rfl | trivial | exact RowsEq.self okS | exact RowsEq.ofT okS rfl (Shp_zero _) rfl | exact RowsEq.snoc okS rfl | exact RowsEq.self okI | exact RowsEq.self okRA | exact List.length_append | refine And.intro ?_ ?_))
    · simp only [hH, stdH, decide_eq_true_eq, decide_eq_false_iff_not, Bool.not_eq_true', Bool.not_eq_false', peta, ncast, Int.ofNat_eq_natCast, beq_iff_eq, bne_iff_ne, beq_eq_false_iff_ne, bne_eq_false_iff_eq, ne_eq, Classical.not_not, Int.toNat_natCast, vrow_I, Arm.eta2, Fld.eta, Grp.eta] at h1 ⊢
      obtain rfl : i = (wordsB s).length := by omega
      unfold isM
      rw [h, allB hj]; rfl
noncomputable def e_isMotto : Entry := pureE 8 fun H a => match a with
  | [.lit (.string s)] => some (.lit (.bool (H Bool fun _ => isM s)), [])
  | _ => none
theorem eok_isMotto : EntryOk Tryd.prog e_isMotto := pureM_ok (by unfold isBody; kernel_rfl) (by
  intro a r ob e hob
  split at e
  · rename_i s
    simp only [Option.some.injEq, Prod.mk.injEq] at e
    obtain ⟨rfl, rfl⟩ := e
    exact ConN.args (.cons .rfl .nil) (c_isMotto s )
  · simp at e)
def scan : Bool → List UInt8 → Bool
  | p, [] => !p
  | p, b :: l => if b = 32 then !p && scan true l else isAZ b && scan false l
def gsc (p : Bool) : List (List UInt8) → Bool
  | [] => true
  | w :: ws => (!(p && w.isEmpty) && w.all isAZ) && ws.all okW
theorem gsc_scan : ∀ (l : List UInt8) (p : Bool), gsc p (spl l) = scan p l
  | [], p => by cases p <;> rfl
  | b :: l, p => by
    have ih := gsc_scan l
    rw [spl_cons]
    unfold scan
    by_cases hb : b = 32
    · rw [if_pos hb, if_pos hb, ← ih true]
      cases hs : spl l with
      | nil => exact absurd hs (spl_ne l)
      | cons w ws => cases p <;> simp [gsc, okW]
    · rw [if_neg hb, if_neg hb, ← ih false]
      cases hs : spl l with
      | nil => exact absurd hs (spl_ne l)
      | cons w ws => cases p <;> simp [gsc, Bool.and_assoc]
theorem words_scan (s : ByteArray) : (wordsB s).all okWB = scan true s.data.toList := by
  rw [← gsc_scan]
  unfold wordsB
  rw [List.all_map]
  have e : (okWB ∘ ofL) = okW := rfl
  rw [e]
  cases hs : spl s.data.toList with
  | nil => rfl
  | cons w ws => simp [gsc, okW]
theorem scan_last : ∀ (l : List UInt8) (p : Bool), l.getLast? = some 32 → scan p l = false
  | [], p, h => by simp at h
  | [b], p, h => by
    simp at h; subst h
    unfold scan; rw [if_pos rfl]
    cases p <;> rfl
  | b :: c :: l, p, h => by
    have ih := fun q => scan_last (c :: l) q (by simpa using h)
    unfold scan
    rw [ih, ih]; simp
theorem bif_or (a b : Bool) : (bif a then true else b) = (a || b) := by cases a <;> rfl
/-- Whether what stands ahead of a place is a space, or nothing. -/
def pv (l : List UInt8) (i : Nat) : Bool := if i = 0 then true else decide (l[i - 1]? = some 32)
theorem scan_32 {l : List UInt8} {i : Nat} {p : Bool} (h : l[i]? = some 32) : scan p (l.drop i) = (!p && scan true (l.drop (i + 1))) := by
  rw [List.drop_eq_getElem_cons (List.getElem?_eq_some_iff.1 h).1, (List.getElem?_eq_some_iff.1 h).2]
  conv => lhs; unfold scan
  rw [if_pos rfl]
theorem scan_no {l : List UInt8} {i : Nat} {p : Bool} {b : UInt8} (h : l[i]? = some b) (hb : b ≠ 32) : scan p (l.drop i) = (isAZ b && scan false (l.drop (i + 1))) := by
  rw [List.drop_eq_getElem_cons (List.getElem?_eq_some_iff.1 h).1, (List.getElem?_eq_some_iff.1 h).2]
  conv => lhs; unfold scan
  rw [if_neg hb]
theorem isM_scan {s : ByteArray} (h : inB s.size 1 60 = true) : isM s = scan true s.data.toList := by unfold isM; rw [h, words_scan]; rfl
theorem mot_y {s : ByteArray} (h : (bif (bif !inB (s.size : Nat) 1 60 then true else sByte s 0 == 32) then true else sByte s (s.size - 1) == 32) = true) : isM s = false := by
  cases hb : inB (s.size : Nat) 1 60 with
  | false => unfold isM; rw [hb]; rfl
  | true =>
    have hz : 1 ≤ s.size := by unfold inB at hb; simp at hb; omega
    rw [isM_scan hb]
    rw [hb] at h
    cases h0 : sByte s 0 == 32 with
    | true =>
      have e := (sByte_32 (s := s) (i := 0) (by omega)).1 (by simpa using h0)
      have := scan_32 (p := true) e
      rw [List.drop_zero] at this
      rw [this]; rfl
    | false =>
      rw [h0] at h
      have e := (sByte_32 (s := s) (i := s.size - 1) (by omega)).1 (by simpa using h)
      refine scan_last _ _ ?_
      rw [List.getLast?_eq_getElem?]
      exact e
theorem mot_n {s : ByteArray} (h : (bif (bif !inB (s.size : Nat) 1 60 then true else sByte s 0 == 32) then true else sByte s (s.size - 1) == 32) = false) : inB (s.size : Nat) 1 60 = true ∧ (1 ≤ s.size ∧ s.size ≤ 60) ∧ sByte s 0 ≠ 32 ∧ sByte s (s.size - 1) ≠ 32 := by
  cases hb : inB (s.size : Nat) 1 60 with
  | false => rw [hb] at h; cases h
  | true =>
    rw [hb] at h
    cases h0 : sByte s 0 == 32 with
    | true => rw [h0] at h; cases h
    | false =>
      rw [h0] at h
      refine ⟨rfl, by unfold inB at hb; simp at hb; omega, by simpa using h0, by simpa using h⟩
theorem c_motGood (s : ByteArray)  : ConN Tryd.prog 16 [.lit (.string s)] [] 0 (.lit (.bool (stdH Bool fun _ => isM s))) [] [] := by
  have hB : Base Tryd.prog (tabΓ [e_l1In]) tab := base_of tabOk (ents_cons eok_l1In <| ents_nil)
  refine con_m (N := 46) hB (draw_ok hB mixed) Tryd.func16 rfl rfl (fun H => [.lit (.string s)]) (fun _ => []) 0 (fun H => .lit (.bool (H Bool fun _ => isM s))) (fun H => []) (fun _ => []) 200 (by simp) (fun x hx => ?_) (by simp [lk]) (by omega) (by simp) ?_
  · simp only [List.mem_cons, List.not_mem_nil, or_false] at hx
    rcases hx with rfl
    · exact .lit
  intro X hX hX0 H hH
  conv in Fin.chk _ _ => cbv
  try simp only [Plain_rowsA, Plain_rowsB, Plain_rowsF, Plain_rowsG, Plain_rowsI, Plain_rowsS, Plain_rowsU, Fin.satC_ret, Fin.satC_br, Fin.satC_need, Fin.satC_again, AllP, and_true, true_and, upd, List.length_nil, List.length_cons, Nat.zero_add, if_true, ncast, Int.ofNat_eq_natCast]
  have sz : ∀ q, (!inB (s.size : Nat) 1 60) = q → q = false → 1 ≤ s.size ∧ s.size ≤ 60 := fun q h1 h2 => by
    subst h1; unfold inB at h2; simp at h2; omega
  have w0 : 1 ≤ s.size → s.size ≤ 60 → IntKind.i64.wrap ((s.size : Int) - 1) = ((s.size - 1 : Nat) : Int) := fun h1 h2 => by rw [wi (by omega) (by omega)]; omega
  refine ⟨?_, ?_, fun h => ?_, fun h => ?_⟩
  · try simp only [hH, stdH, decide_eq_true_eq, decide_eq_false_iff_not, Bool.not_eq_true', Bool.not_eq_false', peta, ncast, Int.ofNat_eq_natCast, beq_iff_eq, bne_iff_ne, beq_eq_false_iff_ne, bne_eq_false_iff_eq, ne_eq, Classical.not_not, Int.toNat_natCast, vrow_I, Arm.eta2, Fld.eta, Grp.eta]
    intro h
    have := sz _ rfl (by simpa using h)
    omega
  · try simp only [hH, stdH, decide_eq_true_eq, decide_eq_false_iff_not, Bool.not_eq_true', Bool.not_eq_false', peta, ncast, Int.ofNat_eq_natCast, beq_iff_eq, bne_iff_ne, beq_eq_false_iff_ne, bne_eq_false_iff_eq, ne_eq, Classical.not_not, Int.toNat_natCast, vrow_I, Arm.eta2, Fld.eta, Grp.eta]
    intro h
    cases hb : inB (s.size : Nat) 1 60 with
    | false => rw [hb] at h; cases h
    | true =>
      have := sz _ rfl (by rw [hb]; rfl)
      rw [w0 this.1 this.2]; omega
  · simp only [hH, stdH] at h ⊢
    cases hb : inB (s.size : Nat) 1 60 with
    | false => unfold isM; rw [hb]; rfl
    | true =>
      have := sz _ rfl (by rw [hb]; rfl)
      rw [w0 this.1 this.2, Int.toNat_natCast] at h
      exact mot_y h
  have h : inB (s.size : Nat) 1 60 = true ∧ (1 ≤ s.size ∧ s.size ≤ 60) ∧ sByte s 0 ≠ 32 ∧ sByte s (s.size - 1) ≠ 32 := by
    simp only [hH, stdH] at h
    by_cases hb : inB (s.size : Nat) 1 60 = true
    · have := sz _ rfl (by rw [hb]; rfl)
      rw [w0 this.1 this.2, Int.toNat_natCast] at h
      exact mot_n h
    · rw [Bool.not_eq_true] at hb
      rw [hb] at h; cases h
  obtain ⟨hb, hz, hf, hg⟩ := h
  refine loop_a hB (draw_ok hB mixed) hX hX0 hH false (ι := { i : Nat // i ≤ s.size ∧ scan true s.data.toList = scan (pv s.data.toList i) (s.data.toList.drop i) }) 200 (fun i => [.i (H Int fun _ => (i.1 : Nat))]) (fun i => s.size - i.1) (⟨0, by omega, rfl⟩) ?_ ?_
  · (conv in matchSt _ _ _ _ => cbv); simp only [AllG, AllP, and_true, hH, stdH, ncast, Int.ofNat_eq_natCast, vrow_I, Arm.eta2, Fld.eta, Grp.eta]
    (repeat' (first | exact trivial | rfl | omega | refine And.intro ?_ ?_))
  · intro I hI i
    conv in Fin.chk _ _ => cbv
    try simp only [Plain_rowsA, Plain_rowsB, Plain_rowsF, Plain_rowsG, Plain_rowsI, Plain_rowsS, Plain_rowsU, Fin.satC_ret, Fin.satC_br, Fin.satC_need, Fin.satC_again, AllP, and_true, true_and, upd, List.length_nil, List.length_cons, Nat.zero_add, if_true, ncast, Int.ofNat_eq_natCast]
    obtain ⟨i, hi, hj⟩ := i
    refine ⟨fun h1 => ?_, fun h1 => ?_⟩
    · simp only [hH, stdH, decide_eq_true_eq, decide_eq_false_iff_not, Bool.not_eq_true', Bool.not_eq_false', peta, ncast, Int.ofNat_eq_natCast, beq_iff_eq, bne_iff_ne, beq_eq_false_iff_ne, bne_eq_false_iff_eq, ne_eq, Classical.not_not, Int.toNat_natCast, vrow_I, Arm.eta2, Fld.eta, Grp.eta] at h1
      refine ⟨?_, fun h2 => ?_, fun h2 => ?_⟩
      · try simp only [hH, stdH, decide_eq_true_eq, decide_eq_false_iff_not, Bool.not_eq_true', Bool.not_eq_false', peta, ncast, Int.ofNat_eq_natCast, beq_iff_eq, bne_iff_ne, beq_eq_false_iff_ne, bne_eq_false_iff_eq, ne_eq, Classical.not_not, Int.toNat_natCast, vrow_I, Arm.eta2, Fld.eta, Grp.eta]
        omega
      · simp only [hH, stdH, decide_eq_true_eq, decide_eq_false_iff_not, Bool.not_eq_true', Bool.not_eq_false', peta, ncast, Int.ofNat_eq_natCast, beq_iff_eq, bne_iff_ne, beq_eq_false_iff_ne, bne_eq_false_iff_eq, ne_eq, Classical.not_not, Int.toNat_natCast, vrow_I, Arm.eta2, Fld.eta, Grp.eta] at h2
        have e := (sByte_32 (s := s) (i := i) (by omega)).1 h2
        have hi0 : i ≠ 0 := by rintro rfl; exact hf h2
        have w1' : IntKind.i64.wrap ((i : Int) - 1) = ((i - 1 : Nat) : Int) := by rw [wi (by omega) (by omega)]; omega
        refine ⟨?_, fun h3 => ?_, fun h3 => ?_⟩
        · try simp only [hH, stdH, decide_eq_true_eq, decide_eq_false_iff_not, Bool.not_eq_true', Bool.not_eq_false', peta, ncast, Int.ofNat_eq_natCast, beq_iff_eq, bne_iff_ne, beq_eq_false_iff_ne, bne_eq_false_iff_eq, ne_eq, Classical.not_not, Int.toNat_natCast, vrow_I, Arm.eta2, Fld.eta, Grp.eta]
          rw [w1']; omega
        · simp only [hH, stdH, w1', Int.toNat_natCast] at h3 ⊢
          have e3 := (sByte_32 (s := s) (i := i - 1) (by omega)).1 (by simpa using h3)
          have hp : pv s.data.toList i = true := by unfold pv; rw [if_neg hi0]; exact decide_eq_true e3
          rw [isM_scan hb, hj, scan_32 e, hp]; rfl
        · simp only [hH, stdH, w1', Int.toNat_natCast] at h3
          have e3 : ¬ s.data.toList[i - 1]? = some 32 := fun q => by
            rw [(sByte_32 (s := s) (i := i - 1) (by omega)).2 q] at h3; simp at h3
          have hp : pv s.data.toList i = false := by unfold pv; rw [if_neg hi0]; exact decide_eq_false e3
          refine ⟨⟨i + 1, by omega, ?_⟩, by simp only; omega, ?_⟩
          · rw [hj, scan_32 e, hp]; unfold pv; rw [if_neg (by omega), Nat.add_sub_cancel, decide_eq_true e]; rfl
          · rw [hI]
            (conv in matchSt _ _ _ _ => cbv); simp only [AllG, AllP, and_true, hH, stdH, ncast, Int.ofNat_eq_natCast, vrow_I, Arm.eta2, Fld.eta, Grp.eta]
            rw [w1 (by omega)]
            (repeat' (first | exact trivial | rfl | omega | refine And.intro ?_ ?_))
      · simp only [hH, stdH, decide_eq_true_eq, decide_eq_false_iff_not, Bool.not_eq_true', Bool.not_eq_false', peta, ncast, Int.ofNat_eq_natCast, beq_iff_eq, bne_iff_ne, beq_eq_false_iff_ne, bne_eq_false_iff_eq, ne_eq, Classical.not_not, Int.toNat_natCast, vrow_I, Arm.eta2, Fld.eta, Grp.eta] at h2
        obtain ⟨b, e, eb⟩ := sByte_at (s := s) (i := i) (by omega)
        have hne : b ≠ 32 := by rintro rfl; exact h2 (by rw [eb]; rfl)
        refine ⟨?_, ?_, fun h3 => ?_, fun h3 => ?_⟩
        · try simp only [hH, stdH, decide_eq_true_eq, decide_eq_false_iff_not, Bool.not_eq_true', Bool.not_eq_false', peta, ncast, Int.ofNat_eq_natCast, beq_iff_eq, bne_iff_ne, beq_eq_false_iff_ne, bne_eq_false_iff_eq, ne_eq, Classical.not_not, Int.toNat_natCast, vrow_I, Arm.eta2, Fld.eta, Grp.eta]
          omega
        · try simp only [hH, stdH, decide_eq_true_eq, decide_eq_false_iff_not, Bool.not_eq_true', Bool.not_eq_false', peta, ncast, Int.ofNat_eq_natCast, beq_iff_eq, bne_iff_ne, beq_eq_false_iff_ne, bne_eq_false_iff_eq, ne_eq, Classical.not_not, Int.toNat_natCast, vrow_I, Arm.eta2, Fld.eta, Grp.eta]
          intro _; omega
        · simp only [hH, stdH, Int.toNat_natCast, eb, bif_or, Bool.or_eq_true, decide_eq_true_eq] at h3 ⊢
          have hz : isAZ b = false := by rw [← Bool.not_eq_true, isAZ_iff]; omega
          rw [isM_scan hb, hj, scan_no e hne, hz]; rfl
        · simp only [hH, stdH, Int.toNat_natCast, eb, bif_or, Bool.or_eq_false_iff, decide_eq_false_iff_not] at h3
          have hz : isAZ b = true := (isAZ_iff b).2 (by omega)
          refine ⟨⟨i + 1, by omega, ?_⟩, by simp only; omega, ?_⟩
          · rw [hj, scan_no e hne, hz]; unfold pv; rw [if_neg (by omega), Nat.add_sub_cancel, decide_eq_false (by rw [e]; simpa using hne)]; rfl
          · rw [hI]
            (conv in matchSt _ _ _ _ => cbv); simp only [AllG, AllP, and_true, hH, stdH, ncast, Int.ofNat_eq_natCast, vrow_I, Arm.eta2, Fld.eta, Grp.eta]
            rw [w1 (by omega)]
            (repeat' (first | exact trivial | rfl | omega | refine And.intro ?_ ?_))
    · simp only [hH, stdH, decide_eq_true_eq, decide_eq_false_iff_not, Bool.not_eq_true', Bool.not_eq_false', peta, ncast, Int.ofNat_eq_natCast, beq_iff_eq, bne_iff_ne, beq_eq_false_iff_ne, bne_eq_false_iff_eq, ne_eq, Classical.not_not, Int.toNat_natCast, vrow_I, Arm.eta2, Fld.eta, Grp.eta] at h1 ⊢
      obtain rfl : i = s.size := by omega
      have hd : s.data.toList.drop s.size = [] := List.drop_eq_nil_iff.2 (Nat.le_refl _)
      have hq : ¬ s.data.toList[s.size - 1]? = some 32 := fun q => hg ((sByte_32 (s := s) (i := s.size - 1) (by omega)).2 q)
      rw [isM_scan hb, hj, hd]
      unfold scan pv
      rw [if_neg (by omega), decide_eq_false hq]; rfl
noncomputable def e_motGood : Entry := pureE 16 fun H a => match a with
  | [.lit (.string s)] => some (.lit (.bool (H Bool fun _ => isM s)), [])
  | _ => none
theorem eok_motGood : EntryOk Tryd.prog e_motGood := pureM_ok (by unfold isBody; kernel_rfl) (by
  intro a r ob e hob
  split at e
  · rename_i s
    simp only [Option.some.injEq, Prod.mk.injEq] at e
    obtain ⟨rfl, rfl⟩ := e
    exact ConN.args (.cons .rfl .nil) (c_motGood s )
  · simp at e)

end Go.Proofs.YtbgmlocolacnpaaDoor.AM
