/- Lemmas and contracts (Fnd Fdp); conditions: none. -/
import Derived.Test.YtbnohmfapmeaaaaGreatDoorK03
import Derived.Test.YtbnohmfapmeaaaaGreatDoorK12
import Derived.Test.YtbnohmfapmeaaaaGreatDoorK13
import Derived.Test.YtbnohmfapmeaaaaGreatDoorK30
set_option linter.unusedVariables false
set_option linter.unusedSimpArgs false
set_option maxRecDepth 100000
set_option maxHeartbeats 4000000
set_option cbv.maxSteps 3000000
namespace Go.Proofs.YtbnohmfapmeaaaaGreatDoor.AM
/- What a text stands for: the one thing with that text; conditions: none. -/
open Classical in
noncomputable def findO {α : Type} (ok : α → Bool) (T : α → ByteArray) (s : ByteArray) : Option α := if h : ∃ x, ok x = true ∧ T x = s then some h.choose else none
theorem findO_ok {α : Type} {ok : α → Bool} {T : α → ByteArray} {s : ByteArray} {x : α} (h : findO ok T s = some x) : ok x = true ∧ T x = s := by
  unfold findO at h
  split at h
  · rename_i q
    injection h with h; subst h; exact q.choose_spec
  · cases h
theorem findO_iff {α : Type} {ok : α → Bool} {T : α → ByteArray} (inj : ∀ x y, ok x = true → ok y = true → T x = T y → x = y) {s : ByteArray} {x : α} : findO ok T s = some x ↔ ok x = true ∧ T x = s := by
  refine ⟨findO_ok, fun h => ?_⟩
  have q : ∃ y, ok y = true ∧ T y = s := ⟨x, h⟩
  unfold findO
  rw [dif_pos q]
  exact congrArg some (inj _ _ q.choose_spec.1 h.1 (q.choose_spec.2.trans h.2.symm))
end Go.Proofs.YtbnohmfapmeaaaaGreatDoor.AM

set_option linter.unusedVariables false
set_option linter.unusedSimpArgs false
set_option maxRecDepth 100000
set_option maxHeartbeats 4000000
set_option cbv.maxSteps 3000000
namespace Go.Proofs.YtbnohmfapmeaaaaGreatDoor.AM
/- Fields parsed; conditions: none. -/
def preI (l : List ByteArray) (s : ByteArray) : Int := idxF (fun w => isPre s (w ++ spB)) l
def aparts (l : List ByteArray) : Bool := (List.range l.length).all fun i => (List.range l.length).all fun j => decide (i = j) || apart (l.getD i ByteArray.empty ++ spB) (l.getD j ByteArray.empty ++ spB)
theorem preI_at {l : List ByteArray} (ha : aparts l = true) {x : Int} (h1 : 1 ≤ x) (h2 : x ≤ (l.length : Nat)) (t : ByteArray) : preI l (wordOf l x ++ (spB ++ t)) = x - 1 := by
  have ha' : ∀ i j, i < l.length → j < l.length → i ≠ j → apart (l.getD i ByteArray.empty ++ spB) (l.getD j ByteArray.empty ++ spB) = true := fun i j hi hj e => by
    unfold aparts at ha
    rw [List.all_eq_true] at ha
    have := ha i (List.mem_range.2 hi)
    rw [List.all_eq_true] at this
    have := this j (List.mem_range.2 hj)
    rw [decide_eq_false e] at this
    simpa using this
  unfold preI
  rw [idxF_at ByteArray.empty (i := (x - 1).toNat) (by omega)]
  · omega
  · show isPre _ (wordOf l x ++ spB) = true
    rw [← ByteArray.append_assoc]
    exact isPre_app _ _
  · intro j hj
    rw [← Bool.not_eq_true]
    intro h
    obtain ⟨q, h⟩ := isPre_iff.1 h
    rw [← ByteArray.append_assoc] at h
    exact apart_ne (ha' (x - 1).toNat j (by omega) (by omega) (by omega)) h
theorem preI_no {l : List ByteArray} {s : ByteArray} (h : ∀ i, i < l.length → isPre s (l.getD i ByteArray.empty ++ spB) = false) : preI l s = -1 := idxF_no ByteArray.empty h
def apartL (l : List ByteArray) (p : ByteArray) : Bool := l.all fun w => apart p (w ++ spB)
theorem preI_none {l : List ByteArray} {p t : ByteArray} (h : apartL l p = true) : preI l (p ++ t) = -1 := preI_no fun i hi => by
  rw [← Bool.not_eq_true]
  intro q
  obtain ⟨r, q⟩ := isPre_iff.1 q
  have : l.getD i ByteArray.empty ∈ l := getD_mem hi
  exact apart_ne (List.all_eq_true.1 h _ this) q
theorem preI_short {l : List ByteArray} {s : ByteArray} (h : lacks s 32 = true) : preI l s = -1 := preI_no fun i _ => by
  rw [← Bool.not_eq_true]
  intro q
  obtain ⟨r, rfl⟩ := isPre_iff.1 q
  unfold lacks at h
  rw [ByteArray.toList_data_append, ByteArray.toList_data_append] at h
  have := List.all_eq_true.1 h 32 (by
    refine List.mem_append_left _ (List.mem_append_right _ ?_)
    exact List.mem_cons_self)
  simp at this
def cutLn (s : ByteArray) : ByteArray × Int := if preI linL s < 0 then (s, 0) else (afterP s (wordOf linL (preI linL s + 1) ++ spB), preI linL s + 1)
def andB : ByteArray := (⟨⟨[32, 97, 110, 100, 32]⟩⟩ : ByteArray)
def candF0 (d : Int) (r : ByteArray × Int) : Fld := ⟨d, r.2, pT (cutB r.1 andB).1, pT (cutB r.1 andB).2.1⟩
def candF (s : ByteArray) : Fld := if preI divL s < 0 then candF0 0 (s, 0) else candF0 (preI divL s + 1) (cutLn (afterP s (wordOf divL (preI divL s + 1) ++ spB)))
theorem and_l : andB.data.toList = 32 :: [97, 110, 100, 32] := rfl
theorem pT_e : pT ByteArray.empty = 0 := by decide
theorem okF_b {f : Fld} (h : okF f = true) : (0 ≤ f.d ∧ f.d ≤ 7) ∧ (0 ≤ f.l ∧ f.l ≤ 4) ∧ (1 ≤ f.p ∧ f.p ≤ 9) ∧ (f.d = 0 → f.l = 0 ∧ f.q = 0) ∧ (f.d ≠ 0 → 1 ≤ f.q ∧ f.q ≤ 9) := by
  have hT := okF_T h
  refine ⟨hT.1, hT.2.1, hT.2.2.1, fun hd => ?_, hT.2.2.2⟩
  unfold okF at h
  rw [if_pos hd] at h
  simp only [Bool.and_eq_true, decide_eq_true_eq] at h
  exact h.2
theorem tin_apart_lin (x : Int) (hx : 1 ≤ x ∧ x ≤ 9) : apartL linL (wordOf tinL x ++ spB) = true := by
  have : ∀ i, i < 9 → apartL linL (wordOf tinL ((i + 1 : Nat)) ++ spB) = true := by decide
  have := this (x.toNat - 1) (by omega)
  rwa [show (((x.toNat - 1 + 1 : Nat)) : Int) = x by omega] at this
theorem cutLn_at {l x : Int} (hl : 0 ≤ l ∧ l ≤ 4) (hx : 1 ≤ x ∧ x ≤ 9) (t : ByteArray) : cutLn (if l = 0 then wordOf tinL x ++ (spB ++ t) else wordOf linL l ++ (spB ++ (wordOf tinL x ++ (spB ++ t)))) = (wordOf tinL x ++ (spB ++ t), l) := by
  unfold cutLn
  by_cases h : l = 0
  · rw [if_pos h, ← ByteArray.append_assoc, preI_none (tin_apart_lin x hx), if_pos (by decide), h]
  · rw [if_neg h, preI_at (l := linL) (by decide) (by omega) (show l ≤ ((4 : Nat) : Int) by omega), if_neg (by omega), show l - 1 + 1 = l by omega]
    rw [← ByteArray.append_assoc (a := wordOf linL l), afterP_app]
theorem candF_at {f : Fld} (h : okF f = true) : candF (fldT f) = f := by
  obtain ⟨hd, hl, hp, h0, h1⟩ := okF_b h
  obtain ⟨d, l, p, q⟩ := f
  simp only at hd hl hp h0 h1
  by_cases hz : d = 0
  · obtain ⟨rfl, rfl⟩ := h0 hz
    subst hz
    have e : fldT ⟨0, 0, p, 0⟩ = wordOf tinL p := fldT_y rfl
    rw [e]
    unfold candF
    rw [preI_short (nsp_tin p), if_pos (by decide)]
    unfold candF0
    rw [cutB_lacks' and_l (nsp_tin p)]
    simp only [pT_w hp, pT_e]
  · have hq := h1 hz
    have e : fldT ⟨d, l, p, q⟩ = wordOf divL d ++ (spB ++ (if l = 0 then wordOf tinL p ++ (spB ++ ((⟨⟨[97, 110, 100, 32]⟩⟩ : ByteArray) ++ wordOf tinL q)) else wordOf linL l ++ (spB ++ (wordOf tinL p ++ (spB ++ ((⟨⟨[97, 110, 100, 32]⟩⟩ : ByteArray) ++ wordOf tinL q)))))) := by
      rw [fldT_n hz]
      have ea : (⟨⟨[32, 97, 110, 100, 32]⟩⟩ : ByteArray) ++ wordOf tinL q = spB ++ ((⟨⟨[97, 110, 100, 32]⟩⟩ : ByteArray) ++ wordOf tinL q) := by rw [← ByteArray.append_assoc]; rfl
      have es : (⟨⟨[32]⟩⟩ : ByteArray) = spB := rfl
      show wlT (wordOf divL d) l ++ ((⟨⟨[32]⟩⟩ : ByteArray) ++ (wordOf tinL p ++ ((⟨⟨[32, 97, 110, 100, 32]⟩⟩ : ByteArray) ++ wordOf tinL q))) = _
      rw [ea, es]
      by_cases hl0 : l = 0
      · rw [wlT_y hl0, if_pos hl0]
      · rw [wlT_n hl0, if_neg hl0, es]
        simp only [ByteArray.append_assoc]
    rw [e]
    unfold candF
    rw [preI_at (l := divL) (by decide) (by omega) (show d ≤ ((7 : Nat) : Int) by omega), if_neg (by omega), show d - 1 + 1 = d by omega]
    rw [← ByteArray.append_assoc (a := wordOf divL d), afterP_app, cutLn_at hl hp]
    unfold candF0
    have ea : wordOf tinL p ++ (spB ++ ((⟨⟨[97, 110, 100, 32]⟩⟩ : ByteArray) ++ wordOf tinL q)) = wordOf tinL p ++ (andB ++ wordOf tinL q) := by
      rw [← ByteArray.append_assoc (a := spB)]; rfl
    rw [ea, cutB_lacks and_l (nsp_tin p)]
    simp only [pT_w hp, pT_w hq]
theorem fldT_inj : ∀ f g : Fld, okF f = true → okF g = true → fldT f = fldT g → f = g := fun f g hf hg e => by
  rw [← candF_at hf, e, candF_at hg]
noncomputable def pF (s : ByteArray) : Option Fld := findO okF fldT s
theorem pF_iff {s : ByteArray} {f : Fld} : pF s = some f ↔ okF f = true ∧ fldT f = s := findO_iff fldT_inj
def zF : Fld := ⟨0, 0, 0, 0⟩
theorem pF_cand (s : ByteArray) : pF s = if okF (candF s) = true ∧ fldT (candF s) = s then some (candF s) else none := by
  by_cases h : okF (candF s) = true ∧ fldT (candF s) = s
  · rw [if_pos h]; exact pF_iff.2 h
  · rw [if_neg h]
    cases e : pF s with
    | none => rfl
    | some f =>
      have hf := pF_iff.1 e
      have hc : candF s = f := by rw [← hf.2]; exact candF_at hf.1
      exact absurd (by rw [hc]; exact hf) h

end Go.Proofs.YtbnohmfapmeaaaaGreatDoor.AM

