import Derived.Test.YtmpbmbioeeckeaaGreatDoorAmT
import Derived.Test.YtmpbmbioeeckeaaGreatDoorSab
set_option linter.unusedVariables false
set_option linter.unusedSimpArgs false
set_option maxRecDepth 100000
set_option maxHeartbeats 4000000
set_option cbv.maxSteps 3000000
namespace Go.Proofs.YtmpbmbioeeckeaaGreatDoor.AM
/- Sorted indices: the texts ascend; conditions: none. -/
theorem less_irr : ∀ a : List UInt8, Op.bytesLess a a = false
  | [] => rfl
  | a :: a2 => by
    unfold Op.bytesLess
    have h : ¬ a < a := UInt8.lt_irrefl a
    simp [h, less_irr a2]
theorem less_asy : ∀ a b : List UInt8, Op.bytesLess a b = true → Op.bytesLess b a = false := fun a b h => by
  have := less_tot a b
  rw [h, Bool.true_or, Bool.not_true] at this
  exact this.symm
theorem less_ntr : ∀ a b c : List UInt8, Op.bytesLess a b = true → Op.bytesLess c b = false → Op.bytesLess a c = true
  | [], [], _, h, _ => by simp [Op.bytesLess] at h
  | [], _ :: _, [], _, h => by simp [Op.bytesLess] at h
  | [], _ :: _, _ :: _, _, _ => rfl
  | _ :: _, [], _, h, _ => by simp [Op.bytesLess] at h
  | _ :: _, _ :: _, [], _, h => by simp [Op.bytesLess] at h
  | a :: a2, b :: b2, c :: c2, h, k => by
    have ih := less_ntr a2 b2 c2
    have tri : ∀ x y : UInt8, x < y ∨ x = y ∨ y < x := fun x y => by
      rcases Nat.lt_trichotomy x.toNat y.toNat with h | h | h
      · exact .inl h
      · exact .inr (.inl (UInt8.toNat_inj.1 h))
      · exact .inr (.inr h)
    unfold Op.bytesLess at h k ⊢
    rcases tri c b with e | e | e
    · simp [e] at k
    · subst e
      have hi : ¬ c < c := UInt8.lt_irrefl c
      simp [hi] at k
      rcases tri a c with f | f | f
      · simp [f]
      · subst f
        simp [hi] at h ⊢
        exact ih h k
      · have : ¬ a < c := fun g => absurd (UInt8.lt_trans f g) hi
        have n : ¬ a = c := fun g => by subst g; exact hi f
        simp [this, n] at h
    · rcases tri a b with f | f | f
      · have := UInt8.lt_trans f e
        simp [this]
      · subst f
        simp [e]
      · have hb : ¬ b < b := UInt8.lt_irrefl b
        have : ¬ a < b := fun g => absurd (UInt8.lt_trans f g) hb
        have n : ¬ a = b := fun g => by subst g; exact hb f
        simp [this, n] at h
def leX (ts : List ByteArray) (x y : Int) : Prop := ltX ts y x = false
theorem insA_srt {ts : List ByteArray} {out : List Int} {x : Int} (hs : out.Pairwise (leX ts)) : ∀ k, k ≤ out.length → (∀ q, k ≤ q → q < out.length → ltX ts x (out.getD q 0) = true) → (insA ts out x k).Pairwise (leX ts)
  | 0, _, h => by
    refine List.pairwise_cons.2 ⟨fun b hb => ?_, hs⟩
    obtain ⟨j, hj, rfl⟩ := List.getElem_of_mem hb
    have := h j (Nat.zero_le _) hj
    rw [List.getD_eq_getElem?_getD, List.getElem?_eq_getElem hj, Option.getD_some] at this
    exact less_asy _ _ this
  | k + 1, hk, h => by
    unfold insA
    cases hl : ltX ts x (out.getD k 0) with
    | true =>
      refine insA_srt hs k (by omega) fun q h1 h2 => ?_
      by_cases e : q = k
      · subst e; exact hl
      · exact h q (by omega) h2
    | false =>
      simp only [cond_false]
      have hg : ∀ j (hj : j < out.length), out.getD j 0 = out[j] := fun j hj => by rw [List.getD_eq_getElem?_getD, List.getElem?_eq_getElem hj, Option.getD_some]
      have hp : ∀ i j (hi : i < out.length) (hj : j < out.length), i < j → leX ts out[i] out[j] := fun i j hi hj hij => (List.pairwise_iff_getElem.1 hs) i j hi hj hij
      have hd : ∀ b ∈ out.drop (k + 1), leX ts x b := fun b hb => by
        obtain ⟨j, hj, rfl⟩ := List.getElem_of_mem hb
        rw [List.getElem_drop]
        rw [List.length_drop] at hj
        have := h (k + 1 + j) (by omega) (by omega)
        rw [hg _ (by omega)] at this
        exact less_asy _ _ this
      refine List.pairwise_append.2 ⟨hs.sublist (List.take_sublist _ _), List.pairwise_cons.2 ⟨hd, hs.sublist (List.drop_sublist _ _)⟩, fun a ha b hb => ?_⟩
      obtain ⟨i, hi, rfl⟩ := List.getElem_of_mem ha
      rw [List.getElem_take]
      rw [List.length_take] at hi
      rcases List.mem_cons.1 hb with rfl | hb
      · rw [hg k (by omega)] at hl
        by_cases e : i = k
        · subst e; exact hl
        · have h1 := hp i k (by omega) (by omega) (by omega)
          show ltX ts b out[i] = false
          cases hx : ltX ts b out[i] with
          | false => rfl
          | true => rw [show ltX ts b out[k] = true from less_ntr _ _ _ hx h1] at hl; cases hl
      · obtain ⟨j, hj, rfl⟩ := List.getElem_of_mem hb
        rw [List.getElem_drop]
        rw [List.length_drop] at hj
        exact hp i (k + 1 + j) (by omega) (by omega) (by omega)
theorem insAll_srt (ts : List ByteArray) : ∀ i, (insAll ts i).Pairwise (leX ts)
  | 0 => List.Pairwise.nil
  | i + 1 => insA_srt (insAll_srt ts i) _ (Nat.le_refl _) fun q h1 h2 => by omega
theorem srtA_srt (l : List Arm) {i : Nat} (h0 : 0 < i) (h1 : i < l.length) : ltX (l.map armT) ((srtA l).getD i 0) ((srtA l).getD (i - 1) 0) = false := by
  have hs := insAll_srt (l.map armT) l.length
  rw [srtA_ins] at hs
  have hl := srtA_len l
  have := (List.pairwise_iff_getElem.1 hs) (i - 1) i (by omega) (by omega) (by omega)
  rw [List.getD_eq_getElem?_getD, List.getElem?_eq_getElem (by omega), Option.getD_some, List.getD_eq_getElem?_getD, List.getElem?_eq_getElem (by omega), Option.getD_some]
  exact this
theorem srtA_in (l : List Arm) {i : Nat} (h1 : i < l.length) : inR l.length ((srtA l).getD i 0) := by
  have hl := srtA_len l
  have : (srtA l).getD i 0 ∈ srtA l := getDm (by omega)
  rw [← srtA_ins] at this
  rw [← srtA_ins]
  exact insAll_mem this

end Go.Proofs.YtmpbmbioeeckeaaGreatDoor.AM
