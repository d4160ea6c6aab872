import Derived.Test.YtgjjedpoclhkfaaDoorAmT
import Derived.Test.YtgjjedpoclhkfaaDoorSpl
set_option linter.unusedVariables false
set_option linter.unusedSimpArgs false
set_option maxRecDepth 100000
set_option maxHeartbeats 4000000
set_option cbv.maxSteps 3000000
namespace Go.Proofs.YtgjjedpoclhkfaaDoor.AM
/- Mottoes; conditions: none. -/
def isAZ (b : UInt8) : Bool := azB.data.toList.contains b
theorem isAZ_iff (b : UInt8) : isAZ b = true ↔ 65 ≤ b.toNat ∧ b.toNat ≤ 90 := by
  unfold isAZ
  rw [List.contains_iff_mem]
  constructor
  · intro h
    simp only [azB, List.mem_cons, List.not_mem_nil, or_false] at h
    rcases h with rfl | rfl | rfl | rfl | rfl | rfl | rfl | rfl | rfl | rfl | rfl | rfl | rfl | rfl | rfl | rfl | rfl | rfl | rfl | rfl | rfl | rfl | rfl | rfl | rfl | rfl <;> decide
  · intro h
    have e : b = UInt8.ofNat b.toNat := by simp
    rw [e]
    generalize b.toNat = n at h
    rcases (by omega : n = 65 ∨ n = 66 ∨ n = 67 ∨ n = 68 ∨ n = 69 ∨ n = 70 ∨ n = 71 ∨ n = 72 ∨ n = 73 ∨ n = 74 ∨ n = 75 ∨ n = 76 ∨ n = 77 ∨ n = 78 ∨ n = 79 ∨ n = 80 ∨ n = 81 ∨ n = 82 ∨ n = 83 ∨ n = 84 ∨ n = 85 ∨ n = 86 ∨ n = 87 ∨ n = 88 ∨ n = 89 ∨ n = 90) with rfl | rfl | rfl | rfl | rfl | rfl | rfl | rfl | rfl | rfl | rfl | rfl | rfl | rfl | rfl | rfl | rfl | rfl | rfl | rfl | rfl | rfl | rfl | rfl | rfl | rfl <;> decide
def okW (w : List UInt8) : Bool := !w.isEmpty && w.all isAZ
def okWB (w : ByteArray) : Bool := okW w.data.toList
def isM (s : ByteArray) : Bool := inB s.size 1 60 && (wordsB s).all okWB
theorem dw_nil {α : Type} {p : α → Bool} : ∀ {l : List α}, l.dropWhile p = [] ↔ ∀ x ∈ l, p x = true
  | [] => by simp
  | b :: l => by
    rw [List.dropWhile_cons]
    cases hb : p b with
    | true => simp [hb, dw_nil (l := l)]
    | false => simp [hb]
theorem trimS_nil (l cs : List UInt8) : Lib.trimS l cs = [] ↔ ∀ b ∈ l, cs.contains b = true := by
  unfold Lib.trimS Lib.trimLeftS Lib.trimRightS
  constructor
  · intro h b hb
    rw [dw_nil] at h
    rcases hc : cs.contains b with _ | _
    · exfalso
      have hne : l.reverse.dropWhile (fun x => cs.contains x) ≠ [] := by
        intro e
        rw [dw_nil] at e
        have := e b (by simpa using hb)
        rw [hc] at this; cases this
      have h1 := List.head_dropWhile_not (fun x => cs.contains x) hne
      have h2 := h _ (by rw [List.mem_reverse]; exact List.head_mem hne)
      rw [h1] at h2; cases h2
    · rfl
  · intro h
    have e : l.reverse.dropWhile (fun x => cs.contains x) = [] := by
      rw [dw_nil]
      intro x hx
      exact h x (by simpa using hx)
    rw [e]; rfl
theorem bad_word (w : ByteArray) : (bif w.toList == (⟨⟨[]⟩⟩ : ByteArray).toList then true else !((trimZ w).toList == (⟨⟨[]⟩⟩ : ByteArray).toList)) = !okWB w := by
  have e0 : (⟨⟨[]⟩⟩ : ByteArray).toList = [] := ByteArray.toList_eq _
  have e1 : (trimZ w).toList = Lib.trimS w.data.toList azB.data.toList := by rw [ByteArray.toList_eq]; rfl
  rw [e0, e1, ByteArray.toList_eq]
  unfold okWB okW
  cases hl : w.data.toList with
  | nil => rfl
  | cons b l =>
    have h1 : ((b :: l) == ([] : List UInt8)) = false := rfl
    rw [h1]
    simp only [cond_false, List.isEmpty_cons, Bool.not_false, Bool.true_and]
    congr 1
    rw [Bool.eq_iff_iff, beq_iff_eq, trimS_nil, List.all_eq_true]
    exact Iff.rfl
theorem words_sz {s w : ByteArray} (h : w ∈ wordsB s) : w.size ≤ s.size := by
  have key : ∀ (l x : List UInt8), x ∈ spl l → x.length ≤ l.length := by
    intro l
    induction l with
    | nil => intro x hx; simp [spl] at hx; subst hx; simp
    | cons b l ih =>
      intro x hx
      rw [spl_cons] at hx
      split at hx
      · rcases List.mem_cons.1 hx with rfl | hx
        · simp
        · have := ih x hx; simp; omega
      · split at hx
        · simp at hx; subst hx; simp
        · rename_i v vs e
          rcases List.mem_cons.1 hx with rfl | hx
          · have := ih v (by rw [e]; simp); simp; omega
          · have := ih x (by rw [e]; simp [hx]); simp; omega
  unfold wordsB at h
  obtain ⟨l, hl, rfl⟩ := List.mem_map.1 h
  exact key _ _ hl
theorem not_allB {p : ByteArray → Bool} {l : List ByteArray} {i : Nat} (hi : i < l.length) (h : p (l.getD i ByteArray.empty) = false) : l.all p = false := by
  rw [← Bool.not_eq_true, List.all_eq_true]
  intro q
  rw [q _ (getD_mem hi)] at h; cases h
theorem allB {p : ByteArray → Bool} {l : List ByteArray} (h : ∀ j, j < l.length → p (l.getD j ByteArray.empty) = true) : l.all p = true := by
  rw [List.all_eq_true]
  intro x hx
  obtain ⟨i, hi, e⟩ := List.getElem_of_mem hx
  have := h i hi
  rw [List.getD_eq_getElem?_getD, List.getElem?_eq_getElem hi] at this
  rw [← e]; exact this
def scan : Bool → List UInt8 → Bool
  | p, [] => !p
  | p, b :: l => if b = 32 then !p && scan true l else isAZ b && scan false l
def gsc (p : Bool) : List (List UInt8) → Bool
  | [] => true
  | w :: ws => (!(p && w.isEmpty) && w.all isAZ) && ws.all okW
theorem gsc_scan : ∀ (l : List UInt8) (p : Bool), gsc p (spl l) = scan p l
  | [], p => by cases p <;> rfl
  | b :: l, p => by
    have ih := gsc_scan l
    rw [spl_cons]
    unfold scan
    by_cases hb : b = 32
    · rw [if_pos hb, if_pos hb, ← ih true]
      cases hs : spl l with
      | nil => exact absurd hs (spl_ne l)
      | cons w ws => cases p <;> simp [gsc, okW]
    · rw [if_neg hb, if_neg hb, ← ih false]
      cases hs : spl l with
      | nil => exact absurd hs (spl_ne l)
      | cons w ws => cases p <;> simp [gsc, Bool.and_assoc]
theorem words_scan (s : ByteArray) : (wordsB s).all okWB = scan true s.data.toList := by
  rw [← gsc_scan]
  unfold wordsB
  rw [List.all_map]
  have e : (okWB ∘ ofL) = okW := rfl
  rw [e]
  cases hs : spl s.data.toList with
  | nil => rfl
  | cons w ws => simp [gsc, okW]
theorem scan_last : ∀ (l : List UInt8) (p : Bool), l.getLast? = some 32 → scan p l = false
  | [], p, h => by simp at h
  | [b], p, h => by
    simp at h; subst h
    unfold scan; rw [if_pos rfl]
    cases p <;> rfl
  | b :: c :: l, p, h => by
    have ih := fun q => scan_last (c :: l) q (by simpa using h)
    unfold scan
    rw [ih, ih]; simp
theorem bif_or (a b : Bool) : (bif a then true else b) = (a || b) := by cases a <;> rfl
/-- Whether what stands ahead of a place is a space, or nothing. -/
def pv (l : List UInt8) (i : Nat) : Bool := if i = 0 then true else decide (l[i - 1]? = some 32)
theorem scan_32 {l : List UInt8} {i : Nat} {p : Bool} (h : l[i]? = some 32) : scan p (l.drop i) = (!p && scan true (l.drop (i + 1))) := by
  rw [List.drop_eq_getElem_cons (List.getElem?_eq_some_iff.1 h).1, (List.getElem?_eq_some_iff.1 h).2]
  conv => lhs; unfold scan
  rw [if_pos rfl]
theorem scan_no {l : List UInt8} {i : Nat} {p : Bool} {b : UInt8} (h : l[i]? = some b) (hb : b ≠ 32) : scan p (l.drop i) = (isAZ b && scan false (l.drop (i + 1))) := by
  rw [List.drop_eq_getElem_cons (List.getElem?_eq_some_iff.1 h).1, (List.getElem?_eq_some_iff.1 h).2]
  conv => lhs; unfold scan
  rw [if_neg hb]
theorem isM_scan {s : ByteArray} (h : inB s.size 1 60 = true) : isM s = scan true s.data.toList := by unfold isM; rw [h, words_scan]; rfl
theorem mot_y {s : ByteArray} (h : (bif (bif !inB (s.size : Nat) 1 60 then true else sByte s 0 == 32) then true else sByte s (s.size - 1) == 32) = true) : isM s = false := by
  cases hb : inB (s.size : Nat) 1 60 with
  | false => unfold isM; rw [hb]; rfl
  | true =>
    have hz : 1 ≤ s.size := by unfold inB at hb; simp at hb; omega
    rw [isM_scan hb]
    rw [hb] at h
    cases h0 : sByte s 0 == 32 with
    | true =>
      have e := (sByte_32 (s := s) (i := 0) (by omega)).1 (by simpa using h0)
      have := scan_32 (p := true) e
      rw [List.drop_zero] at this
      rw [this]; rfl
    | false =>
      rw [h0] at h
      have e := (sByte_32 (s := s) (i := s.size - 1) (by omega)).1 (by simpa using h)
      refine scan_last _ _ ?_
      rw [List.getLast?_eq_getElem?]
      exact e
theorem mot_n {s : ByteArray} (h : (bif (bif !inB (s.size : Nat) 1 60 then true else sByte s 0 == 32) then true else sByte s (s.size - 1) == 32) = false) : inB (s.size : Nat) 1 60 = true ∧ (1 ≤ s.size ∧ s.size ≤ 60) ∧ sByte s 0 ≠ 32 ∧ sByte s (s.size - 1) ≠ 32 := by
  cases hb : inB (s.size : Nat) 1 60 with
  | false => rw [hb] at h; cases h
  | true =>
    rw [hb] at h
    cases h0 : sByte s 0 == 32 with
    | true => rw [h0] at h; cases h
    | false =>
      rw [h0] at h
      refine ⟨rfl, by unfold inB at hb; simp at hb; omega, by simpa using h0, by simpa using h⟩

end Go.Proofs.YtgjjedpoclhkfaaDoor.AM
