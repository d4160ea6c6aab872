import Derived.Test.YtgjjedpoclhkfaaDoorAmT
import Derived.Test.YtgjjedpoclhkfaaDoorMot
set_option linter.unusedVariables false
set_option linter.unusedSimpArgs false
set_option maxRecDepth 100000
set_option maxHeartbeats 4000000
set_option cbv.maxSteps 3000000
namespace Go.Proofs.YtgjjedpoclhkfaaDoor.AM
/- Texts parted by the reference; initial letters; conditions: none. -/
theorem ofL_ext {s : ByteArray} {i j : Nat} : ofL ((s.data.toList.drop i).take (j - i)) = s.extract i j := by
  apply ByteArray.ext; apply Array.ext'; simp [ofL]
theorem ofL_end (s : ByteArray) (i : Nat) : ofL (s.data.toList.drop i) = s.extract i s.size := by
  have : s.data.toList.length = s.size := rfl
  rw [← ofL_ext, List.take_of_length_le (by simp)]
theorem spl_from {s : ByteArray} {f i : Nat} (hf : f ≤ i) (hi : i < s.size) (h : sByte s i = 32) (hj : ∀ j, f ≤ j → j < i → sByte s j ≠ 32) : (spl (s.data.toList.drop f)).map ofL = s.extract f i :: (spl (s.data.toList.drop (i + 1))).map ofL := by
  have h1 : (s.data.toList.drop f)[i - f]? = some 32 := by
    rw [List.getElem?_drop, show f + (i - f) = i by omega]; exact (sByte_32 hi).1 h
  have h2 : ∀ j, j < i - f → (s.data.toList.drop f)[j]? ≠ some 32 := fun j hq e => by
    rw [List.getElem?_drop] at e
    exact hj (f + j) (by omega) (by omega) ((sByte_32 (by omega)).2 e)
  rw [spl_at h1 h2, List.map_cons, ofL_ext, List.drop_drop, show f + (i - f + 1) = i + 1 by omega]
theorem spl_last {s : ByteArray} {f : Nat} (hj : ∀ j, f ≤ j → j < s.size → sByte s j ≠ 32) : (spl (s.data.toList.drop f)).map ofL = [s.extract f s.size] := by
  have hl : s.data.toList.length = s.size := rfl
  have h2 : ∀ b ∈ s.data.toList.drop f, b ≠ 32 := fun b hb e => by
    subst e
    obtain ⟨j, hj1, e⟩ := List.getElem_of_mem hb
    have h3 : (s.data.toList.drop f)[j]? = some 32 := by rw [List.getElem?_eq_getElem hj1, e]
    rw [List.getElem?_drop] at h3
    rw [List.length_drop] at hj1
    exact hj (f + j) (by omega) (by omega) ((sByte_32 (by omega)).2 h3)
  rw [spl_no h2, List.map_cons, List.map_nil, ofL_end]
theorem bszM (l : List UInt8) : (ByteArray.mk (Array.mk l)).size = l.length := rfl
def letS (ws : List ByteArray) : ByteArray := ws.foldl (fun o w => o ++ (w.extract 0 1 ++ (⟨⟨[46]⟩⟩ : ByteArray))) ByteArray.empty
theorem letS_sz (ws : List ByteArray) : (letS ws).size ≤ 2 * ws.length := by
  have : ∀ (ws : List ByteArray) (o : ByteArray), (ws.foldl (fun o w => o ++ (w.extract 0 1 ++ (⟨⟨[46]⟩⟩ : ByteArray))) o).size ≤ o.size + 2 * ws.length := by
    intro ws
    induction ws with
    | nil => intro o; simp
    | cons w ws ih =>
      intro o
      rw [List.foldl_cons]
      refine Nat.le_trans (ih _) ?_
      have h1 : ((⟨⟨[46]⟩⟩ : ByteArray)).size = 1 := rfl
      simp only [ByteArray.size_append, ByteArray.size_extract, h1, List.length_cons]
      omega
  have := this ws ByteArray.empty
  simpa [letS] using this
theorem letS_snoc {ws : List ByteArray} {i : Nat} (h : i < ws.length) : letS (ws.take (i + 1)) = letS (ws.take i) ++ ((ws.getD i ByteArray.empty).extract 0 1 ++ (⟨⟨[46]⟩⟩ : ByteArray)) := by
  unfold letS
  rw [List.take_succ_eq_append_getElem h, List.foldl_append, List.getD_eq_getElem?_getD, List.getElem?_eq_getElem h]
  rfl
theorem word_ne {s : ByteArray} (h : isM s = true) {i : Nat} (hi : i < (wordsB s).length) : 1 ≤ ((wordsB s).getD i ByteArray.empty).size := by
  unfold isM at h
  simp only [Bool.and_eq_true, List.all_eq_true] at h
  have := h.2 _ (getD_mem (d := ByteArray.empty) hi)
  unfold okWB okW at this
  simp only [Bool.and_eq_true, Bool.not_eq_true'] at this
  have h1 := this.1
  generalize (wordsB s).getD i ByteArray.empty = w at h1
  have h2 : w.data.toList.length = w.size := rfl
  cases hd : w.data.toList with
  | nil => rw [hd] at h1; cases h1
  | cons b l => rw [hd] at h2; simp at h2; omega
theorem isM_sz {s : ByteArray} (h : isM s = true) : 1 ≤ s.size ∧ s.size ≤ 60 := by
  unfold isM inB at h; simp at h; omega

end Go.Proofs.YtgjjedpoclhkfaaDoor.AM
