/- Lemmas and contracts (Fto); conditions: none. -/
import Derived.Test.YtcjjffmbhionmaaGreatDoorK03
import Derived.Test.YtcjjffmbhionmaaGreatDoorK14
set_option linter.unusedVariables false
set_option linter.unusedSimpArgs false
set_option maxRecDepth 100000
set_option maxHeartbeats 4000000
set_option cbv.maxSteps 3000000
namespace Go.Proofs.YtcjjffmbhionmaaGreatDoor.AM
/- Ascending lists of texts; conditions: none. -/
theorem asc_ext : ∀ {l m : List (List UInt8)}, l.Pairwise (· < ·) → m.Pairwise (· < ·) → (∀ x, x ∈ l ↔ x ∈ m) → l = m
  | [], [], _, _, _ => rfl
  | [], b :: m, _, _, h => by
    have := (h b).2 List.mem_cons_self
    cases this
  | a :: l, [], _, _, h => by
    have := (h a).1 List.mem_cons_self
    cases this
  | a :: l, b :: m, hl, hm, h => by
    rw [List.pairwise_cons] at hl hm
    have e : a = b := by
      rcases List.mem_cons.1 ((h a).1 List.mem_cons_self) with e | h1
      · exact e
      · rcases List.mem_cons.1 ((h b).2 List.mem_cons_self) with e | h2
        · exact e.symm
        · exact absurd (List.lt_trans (hm.1 a h1) (hl.1 b h2)) (List.lt_irrefl _)
    subst e
    congr 1
    refine asc_ext hl.2 hm.2 fun x => ⟨fun hx => ?_, fun hx => ?_⟩
    · rcases List.mem_cons.1 ((h x).1 (List.mem_cons_of_mem _ hx)) with e | h1
      · subst e
        exact absurd (hl.1 x hx) (List.lt_irrefl _)
      · exact h1
    · rcases List.mem_cons.1 ((h x).2 (List.mem_cons_of_mem _ hx)) with e | h1
      · subst e
        exact absurd (hm.1 x hx) (List.lt_irrefl _)
      · exact h1
theorem lt_of_le {a b : List UInt8} (h : a ≤ b) (hn : b ≠ a) : a < b := by
  by_cases q : a < b
  · exact q
  · exact absurd (List.le_antisymm h (List.not_lt.1 q)) (fun e => hn e.symm)
theorem get_up {zs : List (List UInt8)} (h : zs.Pairwise (· ≤ ·)) {i j : Nat} (hij : i < j) (hj : j < zs.length) : zs.toArray[i]! ≤ zs.toArray[j]! := by
  have hi : i < zs.length := by omega
  rw [getElem!_pos zs.toArray i (by simpa using hi), getElem!_pos zs.toArray j (by simpa using hj)]
  simp only [List.getElem_toArray]
  exact List.pairwise_iff_getElem.1 h i j hi hj hij
theorem cmp_up {zs : List (List UInt8)} (h : zs.Pairwise (· ≤ ·)) : ∀ m, m ≤ zs.length → (Lib.compactUpTo zs.toArray m).Pairwise (· < ·) ∧ (∀ x, x ∈ Lib.compactUpTo zs.toArray m ↔ ∃ j, j < m ∧ zs.toArray[j]! = x)
  | 0, _ => ⟨by simp [Lib.compactUpTo], fun x => by simp [Lib.compactUpTo]⟩
  | m + 1, hm => by
    obtain ⟨h1, h2⟩ := cmp_up h m (by omega)
    rw [Lib.compactUpTo_succ]
    cases hk : Lib.keeps zs.toArray m with
    | true =>
      rw [if_pos rfl]
      refine ⟨List.pairwise_append.2 ⟨h1, by simp, fun x hx y hy => ?_⟩, fun x => ?_⟩
      · rw [List.mem_singleton] at hy
        subst hy
        obtain ⟨j, hj, rfl⟩ := (h2 x).1 hx
        have hk2 : m = 0 ∨ zs.toArray[m]! ≠ zs.toArray[m - 1]! := of_decide_eq_true hk
        have hne : zs.toArray[m]! ≠ zs.toArray[m - 1]! := by
          rcases hk2 with e | e
          · omega
          · exact e
        have h3 : zs.toArray[m - 1]! < zs.toArray[m]! := lt_of_le (get_up h (i := m - 1) (j := m) (by omega) (by omega)) hne
        by_cases q : j = m - 1
        · subst q; exact h3
        · have h4 := get_up h (i := j) (j := m - 1) (by omega) (by omega)
          by_cases e : zs.toArray[m - 1]! = zs.toArray[j]!
          · rw [← e]; exact h3
          · exact List.lt_trans (lt_of_le h4 e) h3
      · rw [List.mem_append, h2, List.mem_singleton]
        constructor
        · rintro (⟨j, hj, rfl⟩ | rfl)
          · exact ⟨j, by omega, rfl⟩
          · exact ⟨m, by omega, rfl⟩
        · rintro ⟨j, hj, rfl⟩
          by_cases q : j = m
          · subst q; exact .inr rfl
          · exact .inl ⟨j, by omega, rfl⟩
    | false =>
      rw [if_neg (by simp), List.append_nil]
      refine ⟨h1, fun x => ?_⟩
      rw [h2]
      have hk2 : ¬ (m = 0 ∨ zs.toArray[m]! ≠ zs.toArray[m - 1]!) := of_decide_eq_false hk
      have e0 : m ≠ 0 := fun e => hk2 (.inl e)
      have e1 : zs.toArray[m]! = zs.toArray[m - 1]! := Classical.not_not.1 fun e => hk2 (.inr e)
      constructor
      · rintro ⟨j, hj, rfl⟩
        exact ⟨j, by omega, rfl⟩
      · rintro ⟨j, hj, rfl⟩
        by_cases q : j = m
        · subst q
          exact ⟨j - 1, by omega, e1.symm⟩
        · exact ⟨j, by omega, rfl⟩
theorem cmp_asc {zs : List (List UInt8)} (h : zs.Pairwise (· ≤ ·)) : (Lib.compact zs).Pairwise (· < ·) ∧ ∀ x, x ∈ Lib.compact zs ↔ x ∈ zs := by
  obtain ⟨h1, h2⟩ := cmp_up h zs.length (Nat.le_refl _)
  refine ⟨h1, fun x => (h2 x).trans ⟨?_, fun hx => ?_⟩⟩
  · rintro ⟨j, hj, rfl⟩
    rw [getElem!_pos zs.toArray j (by simpa using hj)]
    simp only [List.getElem_toArray]
    exact List.getElem_mem hj
  · obtain ⟨j, hj, rfl⟩ := List.getElem_of_mem hx
    refine ⟨j, hj, ?_⟩
    rw [getElem!_pos zs.toArray j (by simpa using hj)]
    simp only [List.getElem_toArray]
theorem srt_up (l : List (List UInt8)) : (l.mergeSort fun x y => decide (x ≤ y)).Pairwise (· ≤ ·) ∧ ∀ x, x ∈ (l.mergeSort fun x y => decide (x ≤ y)) ↔ x ∈ l := by
  refine ⟨?_, fun x => (List.mergeSort_perm l _).mem_iff⟩
  have := List.pairwise_mergeSort (le := fun x y : List UInt8 => decide (x ≤ y)) (fun a b c h1 h2 => decide_eq_true (List.le_trans (of_decide_eq_true h1) (of_decide_eq_true h2))) (fun a b => by
    rcases List.le_total a b with h | h
    · simp [h]
    · simp [h]) l
  exact this.imp fun h => of_decide_eq_true h
theorem toL_ofL (l : List (List UInt8)) : toL (l.map ofL) = l := by
  unfold toL
  rw [List.map_map]
  exact List.map_id'' (fun x => rfl) l
theorem toL_inj : ∀ {l m : List ByteArray}, toL l = toL m → l = m
  | [], [], _ => rfl
  | [], _ :: _, h => by cases h
  | _ :: _, [], h => by cases h
  | a :: l, b :: m, h => by
    have h : a.data.toList :: toL l = b.data.toList :: toL m := h
    injection h with h1 h2
    rw [toL_inj h2, show a = b from ByteArray.ext (Array.ext' h1)]
def Asc (l : List ByteArray) : Prop := (toL l).Pairwise (· < ·)
theorem mem_toL {l : List ByteArray} {x : ByteArray} : x.data.toList ∈ toL l ↔ x ∈ l := by
  unfold toL
  rw [List.mem_map]
  constructor
  · rintro ⟨y, hy, e⟩
    rwa [← show y = x from ByteArray.ext (Array.ext' e)]
  · exact fun h => ⟨x, h, rfl⟩
theorem Asc.ext {l m : List ByteArray} (hl : Asc l) (hm : Asc m) (h : ∀ x, x ∈ l ↔ x ∈ m) : l = m :=
  toL_inj (asc_ext hl hm fun x => by
    have := h ⟨x.toArray⟩
    rwa [← mem_toL, ← mem_toL] at this)
theorem cs_asc (L : List ByteArray) : Asc (cmpL (srt L)) ∧ ∀ x, x ∈ cmpL (srt L) ↔ x ∈ L := by
  have e : toL (srt L) = (toL L).mergeSort fun x y => decide (x ≤ y) := by unfold srt; rw [toL_ofL]
  obtain ⟨h1, h2⟩ := srt_up (toL L)
  rw [← e] at h1 h2
  obtain ⟨h3, h4⟩ := cmp_asc h1
  have e2 : toL (cmpL (srt L)) = Lib.compact (toL (srt L)) := by unfold cmpL; rw [toL_ofL]
  refine ⟨by unfold Asc; rw [e2]; exact h3, fun x => ?_⟩
  rw [← mem_toL, e2, h4, h2, mem_toL]
theorem ftP_asc (a : Arm) : Asc (ftP a) := (cs_asc (ftU a)).1
theorem ftP_mem (a : Arm) (x : ByteArray) : x ∈ ftP a ↔ x ∈ ftU a := (cs_asc (ftU a)).2 x
def ltA (x y : ByteArray) : Bool := Op.bytesLess x.toList y.toList
theorem ltA_iff {x y : ByteArray} : ltA x y = true ↔ x.data.toList < y.data.toList := by
  unfold ltA
  rw [bytesLess_eq, ByteArray.toList_eq, ByteArray.toList_eq, decide_eq_true_eq]
def putF : List ByteArray → ByteArray → List ByteArray
  | [], s => [s]
  | x :: l, s => if ltA x s = true then x :: putF l s else if x = s then x :: l else s :: x :: l
theorem putF_mem : ∀ (l : List ByteArray) (s x : ByteArray), x ∈ putF l s ↔ x = s ∨ x ∈ l
  | [], s, x => by simp [putF]
  | y :: l, s, x => by
    unfold putF
    split
    · rw [List.mem_cons, putF_mem l s x, List.mem_cons]
      constructor
      · rintro (h | h | h)
        · exact .inr (.inl h)
        · exact .inl h
        · exact .inr (.inr h)
      · rintro (h | h | h)
        · exact .inr (.inl h)
        · exact .inl h
        · exact .inr (.inr h)
    · split
      · rename_i e
        subst e
        simp
      · rw [List.mem_cons]
theorem Asc.cons {x : ByteArray} {l : List ByteArray} : Asc (x :: l) ↔ (∀ y ∈ l, x.data.toList < y.data.toList) ∧ Asc l := by
  unfold Asc
  rw [show toL (x :: l) = x.data.toList :: toL l from rfl, List.pairwise_cons]
  refine and_congr_left fun _ => ⟨fun h y hy => h _ (mem_toL.2 hy), fun h y hy => ?_⟩
  unfold toL at hy
  obtain ⟨z, hz, rfl⟩ := List.mem_map.1 hy
  exact h z hz
theorem putF_asc : ∀ {l : List ByteArray} (s : ByteArray), Asc l → Asc (putF l s)
  | [], s, _ => by
    unfold putF
    exact Asc.cons.2 ⟨fun y hy => (by cases hy), h0⟩
  | y :: l, s, h => by
    obtain ⟨h1, h2⟩ := Asc.cons.1 h
    unfold putF
    split
    · rename_i q
      refine Asc.cons.2 ⟨fun z hz => ?_, putF_asc s h2⟩
      rcases (putF_mem l s z).1 hz with rfl | hz
      · exact ltA_iff.1 q
      · exact h1 z hz
    · split
      · exact h
      · rename_i q e
        have h3 : s.data.toList < y.data.toList := lt_of_le (List.not_lt.1 fun hh => q (ltA_iff.2 hh)) fun ee => e (ByteArray.ext (Array.ext' ee))
        refine Asc.cons.2 ⟨fun z hz => ?_, h⟩
        rcases List.mem_cons.1 hz with rfl | hz
        · exact h3
        · exact List.lt_trans h3 (h1 z hz)
where h0 : Asc [] := List.Pairwise.nil

end Go.Proofs.YtcjjffmbhionmaaGreatDoor.AM

