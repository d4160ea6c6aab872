/- Lemmas and contracts (Mdp); conditions: none. -/
import Derived.Test.YtigkdbhcjjjjkaaK04
import Derived.Test.YtigkdbhcjjjjkaaK18
set_option linter.unusedVariables false
set_option linter.unusedSimpArgs false
set_option linter.unusedVariables false
set_option linter.unusedSimpArgs false
set_option maxRecDepth 100000
set_option maxHeartbeats 4000000
set_option cbv.maxSteps 3000000
namespace Go.Proofs.Ytigkdbhcjjjjkaa.AM
/- The most distinct ones: plain; conditions: none. -/
/-- Lists of numbers, the smaller first number ahead. -/
def lexN : List Nat → List Nat → Bool
  | [], [] => false
  | [], _ :: _ => true
  | _ :: _, [] => false
  | x :: s, y :: t => if x < y then true else if y < x then false else lexN s t
theorem lexN_irr : ∀ s, lexN s s = false
  | [] => rfl
  | x :: s => by unfold lexN; rw [if_neg (Nat.lt_irrefl x), if_neg (Nat.lt_irrefl x)]; exact lexN_irr s
theorem lexN_trans : ∀ {s t u}, lexN s t = true → lexN t u = true → lexN s u = true
  | [], [], u, h, _ => by cases h
  | [], y :: t, [], _, h => by cases h
  | [], y :: t, z :: u, _, _ => rfl
  | x :: s, [], u, h, _ => by cases h
  | x :: s, y :: t, [], _, h => by cases h
  | x :: s, y :: t, z :: u, h1, h2 => by
    unfold lexN at h1 h2 ⊢
    split at h1
    · split at h2
      · rw [if_pos (by omega)]
      · split at h2
        · cases h2
        · rw [if_pos (by omega)]
    · split at h1
      · cases h1
      · split at h2
        · rw [if_pos (by omega)]
        · split at h2
          · cases h2
          · rw [if_neg (by omega), if_neg (by omega)]
            exact lexN_trans h1 h2
theorem lexN_tot : ∀ {s t}, lexN s t = false → lexN t s = false → s = t
  | [], [], _, _ => rfl
  | [], y :: t, h, _ => by cases h
  | x :: s, [], _, h => by cases h
  | x :: s, y :: t, h1, h2 => by
    unfold lexN at h1 h2
    split at h1
    · cases h1
    · rename_i n1
      split at h1
      · rename_i n2
        rw [if_pos n2] at h2
        cases h2
      · rename_i n2
        rw [if_neg n2, if_neg n1] at h2
        rw [lexN_tot h1 h2, show x = y by omega]
theorem lexN_pre : ∀ (p s t : List Nat), lexN (p ++ s) (p ++ t) = lexN s t
  | [], s, t => rfl
  | x :: p, s, t => by
    show (if x < x then true else if x < x then false else lexN (p ++ s) (p ++ t)) = _
    rw [if_neg (Nat.lt_irrefl x), if_neg (Nat.lt_irrefl x)]
    exact lexN_pre p s t
/-- Longer, or as long and ahead. -/
def betN (s t : List Nat) : Prop := t.length < s.length ∨ s.length = t.length ∧ lexN s t = true
theorem betN_trans {s t u : List Nat} (h1 : betN s t) (h2 : betN t u) : betN s u := by
  unfold betN at *
  rcases h1 with h1 | ⟨h1, h3⟩ <;> rcases h2 with h2 | ⟨h2, h4⟩
  · exact .inl (by omega)
  · exact .inl (by omega)
  · exact .inl (by omega)
  · exact .inr ⟨by omega, lexN_trans h3 h4⟩
theorem betN_irr (s : List Nat) : ¬ betN s s := fun h => by
  rcases h with h | ⟨_, h⟩
  · omega
  · rw [lexN_irr] at h; cases h
theorem betN_tot {s t : List Nat} (h1 : ¬ betN s t) (h2 : ¬ betN t s) : s = t := by
  unfold betN at *
  have e : s.length = t.length := by omega
  refine lexN_tot ?_ ?_
  · exact Bool.eq_false_iff.2 fun h => h1 (.inr ⟨e, h⟩)
  · exact Bool.eq_false_iff.2 fun h => h2 (.inr ⟨e.symm, h⟩)
/-- Ascending numbers below n of which no two clash. -/
structure Okq (q : Nat → Nat → Bool) (n : Nat) (s : List Nat) : Prop where
  asc : s.Pairwise (· < ·)
  lt : ∀ x ∈ s, x < n
  no : s.Pairwise fun a b => q a b = false
theorem Okq.nil (q : Nat → Nat → Bool) (n : Nat) : Okq q n [] := ⟨.nil, by simp, .nil⟩
/-- The best of all of them. -/
structure Best (q : Nat → Nat → Bool) (n : Nat) (m : List Nat) : Prop where
  ok : Okq q n m
  no : ∀ s, Okq q n s → ¬ betN s m
theorem Best.uni {q : Nat → Nat → Bool} {n : Nat} {s t : List Nat} (h1 : Best q n s) (h2 : Best q n t) : s = t := betN_tot (h2.no s h1.ok) (h1.no t h2.ok)
/-! All sets, one by one -/
def ownS (n v : Nat) : List Nat := (List.range n).filter fun i => v.testBit i
theorem ownS_s (n v : Nat) : ownS (n + 1) v = if v.testBit n = true then ownS n v ++ [n] else ownS n v := by
  unfold ownS
  rw [List.range_succ, List.filter_append]
  split
  · rename_i h
    rw [List.filter_cons_of_pos h]; rfl
  · rename_i h
    rw [List.filter_cons_of_neg h]; simp
theorem ownS_lt {n v x : Nat} (h : x ∈ ownS n v) : x < n := List.mem_range.1 (List.mem_filter.1 h).1
theorem ownS_asc (n v : Nat) : (ownS n v).Pairwise (· < ·) := List.Pairwise.filter _ List.pairwise_lt_range
theorem ownS_congr {n v w : Nat} (h : ∀ i, i < n → v.testBit i = w.testBit i) : ownS n v = ownS n w := by
  unfold ownS
  exact List.filter_congr fun i hi => h i (List.mem_range.1 hi)
theorem ownS_ex : ∀ {n : Nat} {s : List Nat}, s.Pairwise (· < ·) → (∀ x ∈ s, x < n) → ∃ v, v < 2 ^ n ∧ ownS n v = s
  | 0, s, _, h => by
    cases s with
    | nil => exact ⟨0, by decide, rfl⟩
    | cons x s => exact absurd (h x List.mem_cons_self) (Nat.not_lt_zero x)
  | n + 1, s, ha, h => by
    have h2 : 2 ^ (n + 1) = 2 ^ n + 2 ^ n := by rw [Nat.pow_succ]; omega
    rcases List.eq_nil_or_concat s with rfl | ⟨p, y, rfl⟩
    · refine ⟨0, Nat.two_pow_pos _, ?_⟩
      unfold ownS
      simp
    · rw [List.concat_eq_append] at ha h ⊢
      rw [List.pairwise_append] at ha
      have hp : ∀ x ∈ p, x < y := fun x hx => ha.2.2 x hx y (by simp)
      have hy := h y (by simp)
      by_cases e : y = n
      · subst e
        obtain ⟨v, h3, h4⟩ := ownS_ex (n := y) ha.1 hp
        refine ⟨2 ^ y + v, by omega, ?_⟩
        rw [ownS_s, if_pos (by rw [Nat.testBit_two_pow_add_eq, Nat.testBit_lt_two_pow h3]; rfl)]
        rw [← h4]
        congr 1
        exact ownS_congr fun i hi => Nat.testBit_two_pow_add_gt hi v
      · obtain ⟨v, h3, h4⟩ := ownS_ex (n := n) (s := p ++ [y]) (List.pairwise_append.2 ha) (fun x hx => by
          rcases List.mem_append.1 hx with hx | hx
          · have := hp x hx; omega
          · rw [List.mem_singleton] at hx; omega)
        refine ⟨v, by omega, ?_⟩
        rw [ownS_s, if_neg (by rw [Nat.testBit_lt_two_pow h3]; simp)]
        exact h4
/-- Whether no two of the first of a set clash, told from the front. -/
def disS (q : Nat → Nat → Bool) (v : Nat) : Nat → Bool
  | 0 => true
  | i + 1 => if v.testBit i = true then disS q v i && !(ownS i v).any (fun k => q k i) else disS q v i
theorem disS_iff (q : Nat → Nat → Bool) (v : Nat) : ∀ i, disS q v i = true ↔ (ownS i v).Pairwise fun a b => q a b = false
  | 0 => by simp [disS, ownS]
  | i + 1 => by
    rw [ownS_s]
    unfold disS
    split
    · rw [Bool.and_eq_true, disS_iff q v i, List.pairwise_append, Bool.not_eq_true', List.any_eq_false]
      constructor
      · rintro ⟨h1, h2⟩
        exact ⟨h1, by simp, fun a ha b hb => by rw [List.mem_singleton] at hb; subst hb; simpa using h2 a ha⟩
      · rintro ⟨h1, _, h2⟩
        exact ⟨h1, fun a ha => by simpa using h2 a ha i (by simp)⟩
    · exact disS_iff q v i
def betB (s t : List Nat) : Bool := decide (t.length < s.length) || (decide (s.length = t.length) && lexN s t)
theorem betB_iff {s t : List Nat} : betB s t = true ↔ betN s t := by
  unfold betB betN
  simp
/-- The best of the first sets. -/
def bstS (q : Nat → Nat → Bool) (n : Nat) : Nat → List Nat
  | 0 => []
  | v + 1 => if (disS q v n && betB (ownS n v) (bstS q n v)) = true then ownS n v else bstS q n v
theorem bstS_ok (q : Nat → Nat → Bool) (n : Nat) : ∀ v, Okq q n (bstS q n v) ∧ ∀ w, w < v → disS q w n = true → ¬ betN (ownS n w) (bstS q n v)
  | 0 => ⟨.nil q n, fun w hw => absurd hw (Nat.not_lt_zero w)⟩
  | v + 1 => by
    obtain ⟨h1, h2⟩ := bstS_ok q n v
    unfold bstS
    split
    · rename_i h
      rw [Bool.and_eq_true, betB_iff] at h
      refine ⟨⟨ownS_asc n v, fun x hx => ownS_lt hx, (disS_iff q v n).1 h.1⟩, fun w hw hd hb => ?_⟩
      rcases Nat.lt_succ_iff_lt_or_eq.1 hw with hw | rfl
      · exact h2 w hw hd (betN_trans hb h.2)
      · exact betN_irr _ hb
    · rename_i h
      refine ⟨h1, fun w hw hd hb => ?_⟩
      rcases Nat.lt_succ_iff_lt_or_eq.1 hw with hw | rfl
      · exact h2 w hw hd hb
      · exact h (by rw [Bool.and_eq_true, betB_iff]; exact ⟨hd, hb⟩)
theorem bstS_best (q : Nat → Nat → Bool) (n : Nat) : Best q n (bstS q n (2 ^ n)) := by
  obtain ⟨h1, h2⟩ := bstS_ok q n (2 ^ n)
  refine ⟨h1, fun s hs => ?_⟩
  obtain ⟨v, hv, e⟩ := ownS_ex hs.asc hs.lt
  have := h2 v hv ((disS_iff q v n).2 (by rw [e]; exact hs.no))
  rwa [e] at this
/-! The search -/
def dstL (q : Nat → Nat → Bool) (n : Nat) (rec : List Nat → Nat → List Nat) (s : List Nat) (i : Nat) : Nat → List Nat
  | 0 => s
  | d + 1 => if (s.any (fun k => q k (i + d))) = true then dstL q n rec s i d else if (dstL q n rec s i d).length < (rec (s ++ [i + d]) (i + d + 1)).length then rec (s ++ [i + d]) (i + d + 1) else dstL q n rec s i d
def dstN (q : Nat → Nat → Bool) (n : Nat) : Nat → List Nat → Nat → List Nat
  | 0, s, _ => s
  | m + 1, s, i => dstL q n (dstN q n m) s i (n - i)
/-- A list that goes on from s with numbers from i on. -/
structure Exq (q : Nat → Nat → Bool) (n : Nat) (s : List Nat) (i : Nat) (t : List Nat) : Prop where
  ok : Okq q n t
  pre : ∃ u, t = s ++ u ∧ ∀ x ∈ u, i ≤ x
structure Bex (q : Nat → Nat → Bool) (n : Nat) (s : List Nat) (i : Nat) (m : List Nat) : Prop where
  ex : Exq q n s i m
  no : ∀ t, Exq q n s i t → ¬ betN t m
theorem dstN_ok {q : Nat → Nat → Bool} {n : Nat} : ∀ (m : Nat) (s : List Nat) (i : Nat), n - i ≤ m → Okq q n s → (∀ x ∈ s, x < i) → Bex q n s i (dstN q n m s i)
  | 0, s, i, hm, hs, _ => by
    refine ⟨⟨hs, [], by simp [dstN], by simp⟩, fun t ht => ?_⟩
    obtain ⟨u, rfl, hu⟩ := ht.pre
    cases u with
    | nil => simp only [List.append_nil]; exact betN_irr s
    | cons x u =>
      have h1 := hu x List.mem_cons_self
      have h2 := ht.ok.lt x (by simp)
      omega
  | m + 1, s, i, hm, hs, hi => by
    have key : ∀ d, d ≤ n - i → (Exq q n s i (dstL q n (dstN q n m) s i d) ∧ (dstL q n (dstN q n m) s i d = s ∨ ∃ y u, dstL q n (dstN q n m) s i d = s ++ y :: u ∧ y < i + d)) ∧ ∀ t, Exq q n s i t → (t = s ∨ ∃ y u, t = s ++ y :: u ∧ y < i + d) → ¬ betN t (dstL q n (dstN q n m) s i d) := by
      intro d
      induction d with
      | zero =>
        intro _
        refine ⟨⟨⟨hs, [], by simp [dstL], by simp⟩, .inl rfl⟩, fun t ht h => ?_⟩
        rcases h with rfl | ⟨y, u, rfl, hy⟩
        · exact betN_irr _
        · obtain ⟨u', e, hu⟩ := ht.pre
          have := hu y (by rw [← List.append_cancel_left e]; simp)
          omega
      | succ d ih =>
        intro hd
        obtain ⟨⟨h1, h2⟩, h3⟩ := ih (by omega)
        unfold dstL
        split
        · rename_i hc
          refine ⟨⟨h1, h2.imp id fun ⟨y, u, e, hy⟩ => ⟨y, u, e, by omega⟩⟩, fun t ht h => h3 t ht ?_⟩
          rcases h with h | ⟨y, u, e, hy⟩
          · exact .inl h
          · by_cases hyd : y = i + d
            · exfalso
              subst hyd
              obtain ⟨k, hk, hq⟩ := List.any_eq_true.1 hc
              have := ht.ok.no
              rw [e, List.pairwise_append] at this
              have := this.2.2 k hk (i + d) List.mem_cons_self
              rw [this] at hq
              cases hq
            · exact .inr ⟨y, u, e, by omega⟩
        · rename_i hc
          have hfree : ∀ k ∈ s, q k (i + d) = false := fun k hk => by
            cases e : q k (i + d) with
            | false => rfl
            | true => exact absurd (List.any_eq_true.2 ⟨k, hk, e⟩) hc
          have hs' : Okq q n (s ++ [i + d]) := by
            refine ⟨List.pairwise_append.2 ⟨hs.asc, by simp, fun a ha b hb => ?_⟩, fun x hx => ?_, List.pairwise_append.2 ⟨hs.no, by simp, fun a ha b hb => ?_⟩⟩
            · rw [List.mem_singleton] at hb; subst hb
              have := hi a ha; omega
            · rcases List.mem_append.1 hx with hx | hx
              · exact hs.lt x hx
              · rw [List.mem_singleton] at hx; omega
            · rw [List.mem_singleton] at hb; subst hb
              exact hfree a ha
          have ihm := dstN_ok m (s ++ [i + d]) (i + d + 1) (by omega) hs' (fun x hx => by
            rcases List.mem_append.1 hx with hx | hx
            · have := hi x hx; omega
            · rw [List.mem_singleton] at hx; omega)
          obtain ⟨w, hw, hwi⟩ := ihm.ex.pre
          have toE : ∀ t, Exq q n s i t → ∀ u, t = s ++ (i + d) :: u → Exq q n (s ++ [i + d]) (i + d + 1) t := fun t ht u e => by
            refine ⟨ht.ok, u, by rw [e, List.append_assoc]; rfl, fun x hx => ?_⟩
            have := ht.ok.asc
            rw [e, List.pairwise_append] at this
            have := (List.pairwise_cons.1 this.2.1).1 x hx
            omega
          have hout : dstN q n m (s ++ [i + d]) (i + d + 1) = s ++ (i + d) :: w := by rw [hw, List.append_assoc]; rfl
          split
          · rename_i hlen
            refine ⟨⟨⟨ihm.ex.ok, (i + d) :: w, hout, fun x hx => ?_⟩, .inr ⟨i + d, w, hout, by omega⟩⟩, fun t ht h hb => ?_⟩
            · rcases List.mem_cons.1 hx with rfl | hx
              · omega
              · have := hwi x hx; omega
            · rcases h with h | ⟨y, u, e, hy⟩
              · have := h3 t ht (.inl h)
                unfold betN at this hb
                omega
              · by_cases hyd : y = i + d
                · subst hyd
                  exact ihm.no t (toE t ht u e) hb
                · have := h3 t ht (.inr ⟨y, u, e, by omega⟩)
                  unfold betN at this hb
                  omega
          · rename_i hlen
            refine ⟨⟨h1, h2.imp id fun ⟨y, u, e, hy⟩ => ⟨y, u, e, by omega⟩⟩, fun t ht h hb => ?_⟩
            rcases h with h | ⟨y, u, e, hy⟩
            · exact h3 t ht (.inl h) hb
            · by_cases hyd : y = i + d
              · subst hyd
                have h5 := ihm.no t (toE t ht u e)
                have h6 : t.length ≤ (dstN q n m (s ++ [i + d]) (i + d + 1)).length := by unfold betN at h5; omega
                rcases hb with hb | ⟨hb, hl⟩
                · omega
                · rcases h2 with h2 | ⟨y', u', e', hy'⟩
                  · rw [h2, e, List.length_append, List.length_cons] at hb
                    omega
                  · rw [e, e', lexN_pre] at hl
                    unfold lexN at hl
                    rw [if_neg (by omega), if_pos hy'] at hl
                    cases hl
              · exact h3 t ht (.inr ⟨y, u, e, by omega⟩) hb
    obtain ⟨⟨h1, h2⟩, h3⟩ := key (n - i) (Nat.le_refl _)
    refine ⟨h1, fun t ht => h3 t ht ?_⟩
    obtain ⟨u, rfl, hu⟩ := ht.pre
    cases u with
    | nil => exact .inl (List.append_nil s)
    | cons x u =>
      have h4 := hu x List.mem_cons_self
      have h5 := ht.ok.lt x (by simp)
      exact .inr ⟨x, u, rfl, by omega⟩
theorem dst_bst (q : Nat → Nat → Bool) (n : Nat) : dstN q n n [] 0 = bstS q n (2 ^ n) := by
  have h := dstN_ok (q := q) (n := n) n [] 0 (by omega) (.nil q n) (by simp)
  refine Best.uni (q := q) (n := n) ⟨h.ex.ok, fun s hs => h.no s ⟨hs, s, rfl, fun x _ => Nat.zero_le x⟩⟩ (bstS_best q n)

end Go.Proofs.Ytigkdbhcjjjjkaa.AM

