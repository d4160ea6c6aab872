/- Lemmas and contracts (Sqp); conditions: none. -/
import Derived.Test.YtcjjffmbhionmaaGreatDoorK03
import Derived.Test.YtcjjffmbhionmaaGreatDoorK23
import Derived.Test.YtcjjffmbhionmaaGreatDoorK33
import Derived.Test.YtcjjffmbhionmaaGreatDoorK34
set_option linter.unusedVariables false
set_option linter.unusedSimpArgs false
set_option maxRecDepth 100000
set_option maxHeartbeats 4000000
set_option cbv.maxSteps 3000000
namespace Go.Proofs.YtcjjffmbhionmaaGreatDoor.AM
/- Searches in plain words; conditions: none. -/
theorem rkL_desc {α : Type} (key : α → Nat) (l : List α) : ∀ n, (rkL key l n).Pairwise fun a b => key b ≤ key a
  | 0 => by
    refine List.pairwise_of_forall_mem_list fun a ha b hb => ?_
    have h1 := (rkL_le ha).1
    have h2 := (rkL_le hb).1
    omega
  | n + 1 => by
    rw [rkL, List.pairwise_append]
    refine ⟨List.pairwise_of_forall_mem_list fun a ha b hb => ?_, rkL_desc key l n, fun a ha b hb => ?_⟩
    · simp only [List.mem_filter, decide_eq_true_eq] at ha hb
      omega
    · simp only [List.mem_filter, decide_eq_true_eq] at ha
      have := (rkL_le hb).1
      omega
theorem num_uni {l : List Grt} (h : okRg l = true) {g o : Grt} (hg : g ∈ l) (ho : o ∈ l) (e : g.num = o.num) : g = o := by
  obtain ⟨_, h2⟩ := okRg_in h
  obtain ⟨i, hi, rfl⟩ := List.getElem_of_mem hg
  obtain ⟨j, hj, rfl⟩ := List.getElem_of_mem ho
  have gi : ∀ {q : Nat} (hq : q < l.length), l.getD q default = l[q] := fun hq => by rw [List.getD_eq_getElem?_getD, List.getElem?_eq_getElem hq, Option.getD_some]
  rcases Nat.lt_trichotomy i j with q | q | q
  · obtain ⟨d, hd⟩ : ∃ d, j = i + d + 1 := ⟨j - i - 1, by omega⟩
    have := num_up h2 d i (by omega)
    rw [← hd, gi hi, gi hj] at this
    omega
  · subst q; rfl
  · obtain ⟨d, hd⟩ : ∃ d, i = j + d + 1 := ⟨i - j - 1, by omega⟩
    have := num_up h2 d j (by omega)
    rw [← hd, gi hi, gi hj] at this
    omega
theorem cutP_pos {l : List Int} {i : Nat} (h : i < cutP l) : 0 < l.getD i 0 := by
  induction l generalizing i with
  | nil => simp [cutP] at h
  | cons x l ih =>
    unfold cutP at h
    by_cases hx : 0 < x
    · rw [List.takeWhile_cons_of_pos (by simpa using hx), List.length_cons] at h
      cases i with
      | zero => simpa using hx
      | succ i =>
        have := ih (i := i) (by unfold cutP; omega)
        simpa using this
    · rw [List.takeWhile_cons_of_neg (by simpa using hx)] at h
      simp at h
theorem saN_len (f : List ByteArray) (l : List Grt) : (saN f l).length = cutP (rkC f l) ∧ (saK f l).length = cutP (rkC f l) ∧ cutP (rkC f l) ≤ l.length := by
  have h := cutP_le (rkC f l)
  have h1 := rkN_len f l
  have h2 := rkC_len f l
  unfold saN saK
  simp only [List.length_take]
  omega
theorem sa_at {f : List ByteArray} {l : List Grt} (hR : okRg l = true) {i : Nat} (hi : i < (saN f l).length) : ((saK f l).getD i 0 == ((f.length : Nat) : Int)) = (nmb (luE f) l l.length).contains ((saN f l).getD i 0) ∧ 0 < (saK f l).getD i 0 ∧ (0 < i → (saK f l).getD i 0 ≤ (saK f l).getD (i - 1) 0) := by
  obtain ⟨e1, e2, e3⟩ := saN_len f l
  rw [e1] at hi
  have hl : i < (rkS f l).length := by rw [rkS_len]; omega
  have gk : ∀ q, q < cutP (rkC f l) → (saK f l).getD q 0 = (rkC f l).getD q 0 := fun q hq => by
    unfold saK
    rw [List.getD_eq_getElem?_getD, List.getD_eq_getElem?_getD, List.getElem?_take_of_lt hq]
  have gn : (saN f l).getD i 0 = (rkN f l).getD i 0 := by
    unfold saN
    rw [List.getD_eq_getElem?_getD, List.getD_eq_getElem?_getD, List.getElem?_take_of_lt hi]
  have ck : ∀ q, (hq : q < (rkS f l).length) → (rkC f l).getD q 0 = ((kyG f (rkS f l)[q] : Nat) : Int) := fun q hq => by
    unfold rkC
    rw [List.getD_eq_getElem?_getD, List.getElem?_map, List.getElem?_eq_getElem hq]
    rfl
  have cn : (rkN f l).getD i 0 = ((rkS f l)[i]).num := by
    unfold rkN
    rw [List.getD_eq_getElem?_getD, List.getElem?_map, List.getElem?_eq_getElem hl]
    rfl
  have hm : (rkS f l)[i] ∈ l := rkS_mem (List.getElem_mem hl)
  refine ⟨?_, ?_, fun h0 => ?_⟩
  · rw [gk i hi, ck i hl, gn, cn, Bool.eq_iff_iff, beq_iff_eq, List.contains_iff_mem, nmb_all, List.mem_map]
    constructor
    · intro h
      exact ⟨_, List.mem_filter.2 ⟨hm, beq_iff_eq.2 h⟩, rfl⟩
    · rintro ⟨o, ho, e⟩
      obtain ⟨h1, h2⟩ := List.mem_filter.1 ho
      rw [← num_uni hR h1 hm e]
      exact beq_iff_eq.1 h2
  · rw [gk i hi]
    exact cutP_pos hi
  · rw [gk i hi, gk (i - 1) (by omega), ck i hl, ck (i - 1) (by omega)]
    have := List.pairwise_iff_getElem.1 (rkL_desc (kyG f) l f.length) (i - 1) i (show i - 1 < (rkS f l).length by omega) hl (by omega)
    have h3 : kyG f (rkS f l)[i] ≤ kyG f (rkS f l)[i - 1] := this
    omega
theorem rrB_is (l : List Grt) (f : List ByteArray) : ∀ i, i < f.length → ∃ j, j < f.length ∧ rrB l f ((l.length : Nat) + 1) (i + 1) = (f.getD j ByteArray.empty, cnF l (f.getD j ByteArray.empty))
  | 0, h => by
    have := cnF_le l (f.getD 0 ByteArray.empty)
    exact ⟨0, h, if_pos (show cnF l (f.getD 0 ByteArray.empty) < (l.length : Nat) + 1 by omega)⟩
  | i + 1, h => by
    obtain ⟨j, hj, e⟩ := rrB_is l f i (by omega)
    rw [rrB]
    split
    · exact ⟨i + 1, h, rfl⟩
    · exact ⟨j, hj, e⟩
theorem rr_law {l : List Grt} {f : List ByteArray} (h : okRr l f = true) : rrB l f 13 f.length = rrB l f ((l.length : Nat) + 1) f.length ∧ okRg l = true ∧ isF (rrB l f 13 f.length).1 = true ∧ (((nmb (luE [(rrB l f 13 f.length).1]) l l.length).length : Nat) : Int) = (rrB l f 13 f.length).2 := by
  unfold okRr at h
  rw [Bool.and_eq_true, Bool.and_eq_true, decide_eq_true_eq] at h
  obtain ⟨⟨h1, h2⟩, h3⟩ := h
  have hl := (okRg_in h1).1
  obtain ⟨m, hm⟩ : ∃ m, f.length = m + 1 := ⟨f.length - 1, by omega⟩
  have e := rrB_eq l f (m := 13) (by omega) m
  rw [← hm] at e
  obtain ⟨j, hj, e2⟩ := rrB_is l f m (by omega)
  rw [← hm] at e2
  refine ⟨e, h1, ?_, ?_⟩
  · rw [e, e2]
    unfold okFl at h2
    rw [Bool.and_eq_true] at h2
    have := List.all_eq_true.1 h2.2 j (List.mem_range.2 hj)
    unfold okFi at this
    rw [Bool.and_eq_true] at this
    exact this.1
  · rw [e, e2]
    rfl
theorem TlSg_H {H : Hold} (hH : H = stdH) (L : List ByteArray) : Tl rowS (H Nat fun _ => L.length) (rowsS H fun _ => L) = L := by subst hH; exact Tl_rowsT okS L
theorem TlIg_H {H : Hold} (hH : H = stdH) (L : List Int) : Tl rowI (H Nat fun _ => L.length) (rowsI H fun _ => L) = L := by subst hH; exact Tl_rowsT okI L
def okLu (l : List Grt) (f : List ByteArray) : Bool := okRg l && okFl f
def srN (l : List Grt) (f : List ByteArray) : List Int := if okLu l f = true then saN f l else []
def srK (l : List Grt) (f : List ByteArray) : List Int := if okLu l f = true then saK f l else []
def luL (l : List Grt) (f : List ByteArray) : List Int := if okLu l f = true then nmb (luE f) l l.length else []
theorem sr_len (l : List Grt) (f : List ByteArray) : (srN l f).length ≤ l.length ∧ (srK l f).length = (srN l f).length ∧ (luL l f).length ≤ l.length := by
  obtain ⟨e1, e2, e3⟩ := saN_len f l
  have := nmb_le (luE f) l l.length
  unfold srN srK luL
  split
  · omega
  · simp
theorem sr_at {f : List ByteArray} {l : List Grt} {i : Nat} (hi : i < (srN l f).length) : ((srK l f).getD i 0 == ((f.length : Nat) : Int)) = (luL l f).contains ((srN l f).getD i 0) ∧ 0 < (srK l f).getD i 0 ∧ (0 < i → (srK l f).getD i 0 ≤ (srK l f).getD (i - 1) 0) := by
  unfold srN at hi
  split at hi
  · rename_i h
    have hR : okRg l = true := by unfold okLu at h; rw [Bool.and_eq_true] at h; exact h.1
    have h1 : srN l f = saN f l := if_pos h
    have h2 : srK l f = saK f l := if_pos h
    have h3 : luL l f = nmb (luE f) l l.length := if_pos h
    rw [h1, h2, h3]
    exact sa_at hR hi
  · simp at hi

end Go.Proofs.YtcjjffmbhionmaaGreatDoor.AM

