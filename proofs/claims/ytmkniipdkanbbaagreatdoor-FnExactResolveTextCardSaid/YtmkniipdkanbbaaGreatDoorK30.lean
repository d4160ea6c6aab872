/- Lemmas and contracts (Skm); conditions: none. -/
import Derived.Test.YtmkniipdkanbbaaGreatDoorK04
import Derived.Test.YtmkniipdkanbbaaGreatDoorK17
set_option linter.unusedVariables false
set_option linter.unusedSimpArgs false
set_option maxRecDepth 100000
set_option maxHeartbeats 4000000
set_option cbv.maxSteps 3000000
namespace Go.Proofs.YtmkniipdkanbbaaGreatDoor.AM
/- Sketches: the tinctures that their slots stand for, plain; conditions: none. -/
def tinQ (f : Fld) : List Int := if f.d = 0 then [f.p] else [f.p, f.q]
def fstL (l : List Int) : List Int := l.foldl (fun out x => if out.contains x then out else out ++ [x]) []
theorem fstL_take {l : List Int} {i : Nat} (h : i < l.length) : fstL (l.take (i + 1)) = if (fstL (l.take i)).contains (l.getD i 0) then fstL (l.take i) else fstL (l.take i) ++ [l.getD i 0] := by
  unfold fstL
  rw [List.take_succ_eq_append_getElem h, List.foldl_append, List.getD_eq_getElem?_getD, List.getElem?_eq_getElem h]
  rfl
theorem fstL_len : ∀ (l : List Int) (o : List Int), (l.foldl (fun out x => if out.contains x then out else out ++ [x]) o).length ≤ o.length + l.length
  | [], o => Nat.le_refl _
  | x :: l, o => by
    rw [List.foldl_cons, List.length_cons]
    have := fstL_len l (if o.contains x then o else o ++ [x])
    split at this <;> rename_i h
    · rw [if_pos h]; omega
    · rw [if_neg h]; rw [List.length_append] at this; simp only [List.length_cons, List.length_nil] at this; omega
theorem fstL_le (l : List Int) : (fstL l).length ≤ l.length := by
  have := fstL_len l []
  rw [List.length_nil, Nat.zero_add] at this
  exact this
theorem fstL_mem : ∀ (l o : List Int) (x : Int), x ∈ l.foldl (fun out x => if out.contains x then out else out ++ [x]) o → x ∈ o ∨ x ∈ l
  | [], o, x, h => .inl h
  | y :: l, o, x, h => by
    rw [List.foldl_cons] at h
    rcases fstL_mem l _ x h with h | h
    · split at h
      · exact .inl h
      · rw [List.mem_append, List.mem_singleton] at h
        rcases h with h | h
        · exact .inl h
        · exact .inr (by rw [h]; exact List.mem_cons_self)
    · exact .inr (List.mem_cons_of_mem _ h)
def tVm (f : Fld) (m : List Int) (y : Slo) : Int := if y.m = 5 then 0 else if y.m = 1 then y.n else if y.m = 2 then f.p else if y.m = 3 then (fstL m).getD (y.n - 1).toNat 0 else m.getD (m.length - 1) 0
def gVm (f : Fld) (m : List Int) (y : Slo) : Bool := if y.m = 2 then decide (f.d = 0) else if y.m = 3 then decide (y.n ≤ ((fstL m).length : Nat)) else true
def mI (f : Fld) (S : List Slo) : Nat → List Int
  | 0 => tinQ f
  | i + 1 => if (S.getD i default).m = 5 then mI f S i else mI f S i ++ [tVm f (mI f S i) (S.getD i default)]
def tI (f : Fld) (S : List Slo) (i : Nat) : Int := tVm f (mI f S i) (S.getD i default)
def gI (f : Fld) (S : List Slo) (i : Nat) : Bool := gVm f (mI f S i) (S.getD i default)
def lI (f : Fld) (S : List Slo) (i : Nat) : Int := (mI f S i).getD ((mI f S i).length - 1) 0
def okR (f : Fld) (S : List Slo) : Bool := (List.range S.length).all (gI f S)
def preZ (g : Nat → Int) (n i : Nat) : List Int := (List.range i).map g ++ List.replicate (n - i) 0
theorem preZ_len {g : Nat → Int} {n i : Nat} (h : i ≤ n) : (preZ g n i).length = n := by
  unfold preZ
  rw [List.length_append, List.length_map, List.length_range, List.length_replicate]; omega
theorem preZ_get {g : Nat → Int} {n i j : Nat} : (preZ g n i).getD j 0 = if j < i then g j else 0 := by
  unfold preZ
  rw [List.getD_eq_getElem?_getD]
  by_cases h : j < i
  · rw [if_pos h, List.getElem?_append_left (by rw [List.length_map, List.length_range]; exact h), List.getElem?_map, List.getElem?_range h]; rfl
  · rw [if_neg h, List.getElem?_append_right (by rw [List.length_map, List.length_range]; omega)]
    rw [List.getElem?_replicate]
    split <;> rfl
theorem ext0 {l l' : List Int} (h : l.length = l'.length) (he : ∀ j, j < l.length → l.getD j 0 = l'.getD j 0) : l = l' := by
  refine List.ext_getElem h fun j h1 h2 => ?_
  have := he j h1
  rwa [List.getD_eq_getElem?_getD, List.getD_eq_getElem?_getD, List.getElem?_eq_getElem h1, List.getElem?_eq_getElem h2] at this
theorem getD_set0 (l : List Int) (i j : Nat) (x : Int) : (l.set i x).getD j 0 = if i = j ∧ j < l.length then x else l.getD j 0 := by
  rw [List.getD_eq_getElem?_getD, List.getElem?_set, List.getD_eq_getElem?_getD]
  by_cases h : i = j
  · subst h
    by_cases h2 : i < l.length
    · rw [if_pos rfl, if_pos h2, if_pos ⟨rfl, h2⟩]; rfl
    · rw [if_pos rfl, if_neg h2, if_neg (fun q => h2 q.2), List.getElem?_eq_none (by omega)]
  · rw [if_neg h, if_neg (fun q => h q.1)]
theorem preZ_set {g : Nat → Int} {n i : Nat} (h : i < n) : (preZ g n i).set i (g i) = preZ g n (i + 1) := by
  refine ext0 (by rw [List.length_set, preZ_len (by omega), preZ_len (by omega)]) fun j hj => ?_
  rw [List.length_set, preZ_len (by omega)] at hj
  rw [getD_set0, preZ_get, preZ_get, preZ_len (by omega)]
  by_cases h1 : i = j
  · subst h1
    rw [if_pos ⟨rfl, hj⟩, if_pos (by omega)]
  · rw [if_neg (fun q => h1 q.1)]
    by_cases h2 : j < i
    · rw [if_pos h2, if_pos (by omega)]
    · rw [if_neg h2, if_neg (by omega)]
theorem preZ_skip {g : Nat → Int} {n i : Nat} (h : i < n) (h0 : g i = 0) : preZ g n i = preZ g n (i + 1) := by
  refine ext0 (by rw [preZ_len (by omega), preZ_len (by omega)]) fun j hj => ?_
  rw [preZ_get, preZ_get]
  by_cases h1 : j = i
  · subst h1
    rw [if_neg (by omega), if_pos (by omega), h0]
  · by_cases h2 : j < i
    · rw [if_pos h2, if_pos (by omega)]
    · rw [if_neg h2, if_neg (by omega)]
def nxD (p : Nat → Bool) (n : Nat) (l : List Int) : Nat → List Int
  | 0 => l
  | s + 1 => if p (n - 2 - s) then (nxD p n l s).set (n - 2 - s) ((nxD p n l s).getD (n - 2 - s + 1) 0) else nxD p n l s
theorem nxD_len {p : Nat → Bool} {n : Nat} {l : List Int} : ∀ {s : Nat}, (nxD p n l s).length = l.length
  | 0 => rfl
  | s + 1 => by
    show (if _ then _ else _ : List Int).length = _
    split
    · rw [List.length_set]; exact nxD_len
    · exact nxD_len
theorem nxD_old {p : Nat → Bool} {n : Nat} {l : List Int} : ∀ {s j : Nat}, s + 1 ≤ n → j + s + 1 < n → (nxD p n l s).getD j 0 = l.getD j 0
  | 0, _, _, _ => rfl
  | s + 1, j, h, hj => by
    show (if _ then _ else _ : List Int).getD j 0 = _
    split
    · rw [getD_set0, if_neg (by omega)]; exact nxD_old (by omega) (by omega)
    · exact nxD_old (by omega) (by omega)
def isN (S : List Slo) (i : Nat) : Bool := decide ((S.getD i default).m = 5)
def rdO (f : Fld) (S : List Slo) : List Int := nxD (isN S) S.length (preZ (tI f S) S.length S.length) (S.length - 1)
def rdLa (f : Fld) (S : List Slo) : List Int := preZ (lI f S) S.length S.length
def tnc (x : Int) : Prop := 1 ≤ x ∧ x ≤ 9
theorem tinQ_tnc {f : Fld} (h : okF f = true) : ∀ x ∈ tinQ f, tnc x := by
  unfold okF inB at h
  simp only [Bool.and_eq_true, decide_eq_true_eq] at h
  obtain ⟨⟨⟨_, _⟩, h1⟩, h2⟩ := h
  intro x hx
  unfold tinQ at hx
  by_cases h0 : f.d = 0
  · rw [if_pos h0, List.mem_singleton] at hx; subst hx; exact h1
  · rw [if_neg h0] at h2 hx
    simp only [Bool.and_eq_true, decide_eq_true_eq] at h2
    simp only [zqu] at hx
    rcases hx with rfl | rfl
    · exact h1
    · exact h2.1
theorem mI_pos (f : Fld) (S : List Slo) : ∀ i, 1 ≤ (mI f S i).length
  | 0 => by show 1 ≤ (tinQ f).length; unfold tinQ; split <;> simp
  | i + 1 => by
    show 1 ≤ (if _ then _ else _ : List Int).length
    split
    · exact mI_pos f S i
    · rw [List.length_append]; exact Nat.le_trans (mI_pos f S i) (Nat.le_add_right _ _)
theorem mI_len (f : Fld) (S : List Slo) : ∀ i, (mI f S i).length ≤ i + 2
  | 0 => by show (tinQ f).length ≤ 2; unfold tinQ; split <;> simp
  | i + 1 => by
    have := mI_len f S i
    show (if _ then _ else _ : List Int).length ≤ _
    split
    · omega
    · rw [List.length_append]; simp only [List.length_cons, List.length_nil]; omega
theorem okY_1 {y : Slo} (h : okY y = true) (h1 : y.m = 1) : tnc y.n := by
  unfold okY at h
  rw [if_pos h1] at h
  unfold inB at h
  rw [decide_eq_true_eq] at h
  exact h
theorem okY_3 {y : Slo} (h : okY y = true) (h3 : y.m = 3) : 1 ≤ y.n ∧ y.n ≤ 3 := by
  unfold okY at h
  rw [if_neg (by omega), if_pos h3] at h
  exact of_decide_eq_true h
theorem okY_m {y : Slo} (h : okY y = true) : y.m = 1 ∨ y.m = 2 ∨ y.m = 3 ∨ y.m = 4 ∨ y.m = 5 := by
  unfold okY inB at h
  by_cases h1 : y.m = 1
  · exact .inl h1
  · rw [if_neg h1] at h
    by_cases h3 : y.m = 3
    · exact .inr (.inr (.inl h3))
    · rw [if_neg h3, Bool.and_eq_true, decide_eq_true_eq] at h
      omega
theorem tVm_tnc {f : Fld} {m : List Int} {y : Slo} (hf : okF f = true) (hm : ∀ x ∈ m, tnc x) (hl : 1 ≤ m.length) (hy : okY y = true) (hg : gVm f m y = true) (h5 : ¬ y.m = 5) : tnc (tVm f m y) := by
  unfold tVm
  rw [if_neg h5]
  rcases okY_m hy with h | h | h | h | h
  · rw [if_pos h]; exact okY_1 hy h
  · rw [if_neg (by omega), if_pos h]
    exact tinQ_tnc hf _ (by unfold tinQ; split <;> simp)
  · rw [if_neg (by omega), if_neg (by omega), if_pos h]
    unfold gVm at hg
    rw [if_neg (by omega), if_pos h, decide_eq_true_eq] at hg
    have := okY_3 hy h
    have hq : (fstL m).getD (y.n - 1).toNat 0 ∈ fstL m := getD_mem (d := 0) (by omega)
    rcases fstL_mem m [] _ hq with h | h
    · simp at h
    · exact hm _ h
  · rw [if_neg (by omega), if_neg (by omega), if_neg (by omega)]
    exact hm _ (getD_mem (d := 0) (by omega))
  · exact absurd h h5
theorem mI_tnc {f : Fld} {S : List Slo} (hf : okF f = true) (hy : ∀ i, i < S.length → okY (S.getD i default) = true) : ∀ i, i ≤ S.length → (∀ j, j < i → gI f S j = true) → ∀ x ∈ mI f S i, tnc x
  | 0, _, _ => tinQ_tnc hf
  | i + 1, hi, hg => by
    have ih := mI_tnc hf hy i (by omega) fun j hj => hg j (by omega)
    intro x hx
    have hx : x ∈ (if (S.getD i default).m = 5 then mI f S i else mI f S i ++ [tVm f (mI f S i) (S.getD i default)] : List Int) := hx
    by_cases h5 : (S.getD i default).m = 5
    · rw [if_pos h5] at hx; exact ih x hx
    · rw [if_neg h5, List.mem_append, List.mem_singleton] at hx
      rcases hx with hx | rfl
      · exact ih x hx
      · exact tVm_tnc hf ih (mI_pos f S i) (hy i (by omega)) (hg i (by omega)) h5
theorem tI_tnc {f : Fld} {S : List Slo} (hf : okF f = true) (hy : ∀ i, i < S.length → okY (S.getD i default) = true) {i : Nat} (hi : i < S.length) (hg : ∀ j, j ≤ i → gI f S j = true) (h5 : ¬ (S.getD i default).m = 5) : tnc (tI f S i) :=
  tVm_tnc hf (mI_tnc hf hy i (by omega) fun j hj => hg j (by omega)) (mI_pos f S i) (hy i hi) (hg i (Nat.le_refl _)) h5
theorem tI_5 {f : Fld} {S : List Slo} {i : Nat} (h5 : (S.getD i default).m = 5) : tI f S i = 0 := if_pos h5
theorem tI_0 {f : Fld} {S : List Slo} (hf : okF f = true) (hy : ∀ i, i < S.length → okY (S.getD i default) = true) {i : Nat} (hi : i < S.length) (hg : ∀ j, j ≤ i → gI f S j = true) : (tI f S i = 0) ↔ (S.getD i default).m = 5 := by
  by_cases h5 : (S.getD i default).m = 5
  · exact ⟨fun _ => h5, fun _ => tI_5 h5⟩
  · have := (tI_tnc hf hy hi hg h5).1
    exact ⟨fun h => by omega, fun h => absurd h h5⟩
theorem nxD_tnc {f : Fld} {S : List Slo} (hf : okF f = true) (hy : ∀ i, i < S.length → okY (S.getD i default) = true) (hg : ∀ j, j < S.length → gI f S j = true) (hn : ¬ (S.getD (S.length - 1) default).m = 5) : ∀ s, s + 1 ≤ S.length → ∀ j, j < S.length → S.length ≤ j + s + 1 → tnc ((nxD (isN S) S.length (preZ (tI f S) S.length S.length) s).getD j 0)
  | 0, hs, j, hj, h => by
    show tnc ((preZ (tI f S) S.length S.length).getD j 0)
    rw [preZ_get, if_pos hj]
    obtain rfl : j = S.length - 1 := by omega
    exact tI_tnc hf hy hj (fun q hq => hg q (by omega)) hn
  | s + 1, hs, j, hj, h => by
    have ih := nxD_tnc hf hy hg hn s (by omega)
    show tnc ((if isN S (S.length - 2 - s) then _ else _ : List Int).getD j 0)
    by_cases hq : isN S (S.length - 2 - s) = true
    · rw [if_pos hq, getD_set0]
      split
      · exact ih _ (by omega) (by omega)
      · rename_i hne
        rw [nxD_len, preZ_len (Nat.le_refl _)] at hne
        exact ih j hj (by omega)
    · rw [if_neg hq]
      by_cases hj2 : S.length ≤ j + s + 1
      · exact ih j hj hj2
      · obtain rfl : j = S.length - 2 - s := by omega
        rw [nxD_old (by omega) (by omega), preZ_get, if_pos hj]
        exact tI_tnc hf hy hj (fun q hq' => hg q (by omega)) (fun h5 => hq (decide_eq_true h5))
theorem okR_all {f : Fld} {S : List Slo} : okR f S = true ↔ ∀ j, j < S.length → gI f S j = true := by
  unfold okR
  rw [List.all_eq_true]
  exact ⟨fun h j hj => h j (List.mem_range.2 hj), fun h j hj => h j (List.mem_range.1 hj)⟩
theorem okR_no {f : Fld} {S : List Slo} {i : Nat} (hi : i < S.length) (h : gI f S i = false) : okR f S = false := by
  rw [← Bool.not_eq_true]
  intro q
  have := okR_all.1 q i hi
  rw [h] at this; cases this
theorem rdO_len (f : Fld) (S : List Slo) : (rdO f S).length = S.length := by unfold rdO; rw [nxD_len, preZ_len (Nat.le_refl _)]
theorem rdO_tnc {k : Skt} (h : OkK k) (hr : okR k.arms.f k.slots = true) : ∀ j, j < k.slots.length → tnc ((rdO k.arms.f k.slots).getD j 0) := fun j hj => by
  have hy : ∀ i, i < k.slots.length → okY (k.slots.getD i default) = true := fun i hi => h.y i (by rw [← h.len]; exact hi)
  exact nxD_tnc (okA_b h.a).1 hy (okR_all.1 hr) h.nx (k.slots.length - 1) (by omega) j hj (by omega)

end Go.Proofs.YtmkniipdkanbbaaGreatDoor.AM

