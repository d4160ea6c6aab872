/- Lemmas and contracts (AmB); conditions: none. -/
import Derived.Test.YtpilblmncpeelaaK02
import Derived.Deep.LoopGhost
set_option linter.unusedVariables false
set_option linter.unusedSimpArgs false
set_option linter.unusedVariables false
set_option linter.unusedSimpArgs false
namespace Go.Proofs.Ytpilblmncpeelaa.AM
/-- Where a call began: the world, the blocks that it may change, the number of its slots. -/
structure Ctx where
  w : World
  own : Nat → Prop
  ow0 : Nat → Prop
  glo : Glo w ow0
  ownO : ∀ k, own k → ow0 k
  β0 : Nat → Nat
  n0 : Nat
  N : Nat
  ownK : ∀ k, own k → ∃ i, i < n0 ∧ β0 i = k
theorem Ctx.ow0lt (X : Ctx) : ∀ k, X.ow0 k → k < X.w.heap.size := X.glo.lt
/-- Of a world in which only what the call may change has turned. -/
theorem Ctx.glo' (X : Ctx) {w : World} (hf : WExt X.w w X.own) {ow : Nat → Prop} (h : ∀ k, ow k → X.ow0 k ∨ ((X.own k ∨ X.w.heap.size ≤ k) ∧ ∃ c T, w.heap[k]? = some (.cells c T (0, 0)))) : Glo w ow :=
  X.glo.ext hf X.ownO fun k hk => by
    rcases h k hk with h | ⟨h | h, q⟩
    · exact .inl h
    · exact .inl (X.ownO k h)
    · exact .inr ⟨h, q⟩
def cxOf (X : Ctx) (β : Nat → Nat) (h : Heap) (n : Nat) (w : World) : Cx := ⟨β, (· < n), fun k => (∃ i b, lk i h = some b ∧ β i = k) ∨ X.ow0 k, w⟩
structure SatR (X : Ctx) (β : Nat → Nat) (s : RS) (a : Act) (w : World) : Prop where
  env : ∀ t x, lk t s.env = some x → ∃ v, a.tmps[t]? = some v ∧ Rel (cxOf X β s.heap s.next w) x v
  te : ∀ t g wt x, (t, (g, wt), x) ∈ s.te → a.tmps[g]? = some (.bool wt) → ∃ v, a.tmps[t]? = some v ∧ Rel (cxOf X β s.heap s.next w) x v
  te2 : ∀ t g wt x, (t, (g, wt), x) ∈ s.te → a.tmps[g]? ≠ some (.bool wt) → a.tmps[t]? = some undef
  heap : ∀ i b, lk i s.heap = some b → BRel (cxOf X β s.heap s.next w) i b ∧ i < s.next
  inj : ∀ i j bi bj, lk i s.heap = some bi → lk j s.heap = some bj → bi.dead = false → bj.dead = false → β i = β j → i = j
  own : ∀ i b, lk i s.heap = some b → X.own (β i) ∨ X.w.heap.size ≤ β i
  frame : WExt X.w w X.own
  size : a.tmps.size = X.N
  defers : a.defers = []
  beta : ∀ i, i < X.n0 → β i = X.β0 i
  n0 : X.n0 ≤ s.next

/-! ### Lists by key -/
theorem beq_iff {a b : Nat} : Nat.beq a b = true ↔ a = b := by simp
theorem beq_false {a b : Nat} : Nat.beq a b = false ↔ a ≠ b := by rw [← Bool.not_eq_true]; simp
theorem lk_cons {α : Type} (d k : Nat) (v : α) (r : List (Nat × α)) : lk d ((k, v) :: r) = if k = d then some v else lk d r := by
  simp only [lk]
  by_cases h : k = d
  · rw [if_pos h, beq_iff.2 h]; rfl
  · rw [if_neg h, beq_false.2 h]; rfl
theorem lk_pt {α : Type} (d t : Nat) (v : α) : ∀ l : List (Nat × α), lk t (pt d v l) = if d = t then some v else lk t l
  | [] => by simp [pt, lk_cons, lk]
  | (k, u) :: r => by
    simp only [pt]
    by_cases h : k = d
    · subst h
      rw [beq_iff.2 rfl]
      simp only [cond_true, lk_cons]
      split <;> rfl
    · rw [beq_false.2 h]
      simp only [cond_false, lk_cons, lk_pt d t v r]
      by_cases h1 : k = t
      · subst h1; rw [if_pos rfl, if_neg (fun e => h e.symm), if_pos rfl]
      · rw [if_neg h1, if_neg h1]
theorem lk_dl {α : Type} (d t : Nat) : ∀ (l : List (Nat × α)) (x : α), lk t (dl d l) = some x → t ≠ d ∧ lk t l = some x
  | [], x, h => by simp [dl, lk] at h
  | (k, u) :: r, x, h => by
    simp only [dl] at h
    by_cases hk : k = d
    · rw [beq_iff.2 hk] at h
      obtain ⟨h1, h2⟩ := lk_dl d t r x h
      exact ⟨h1, by rw [lk_cons, if_neg (by rw [hk]; exact fun e => h1 e.symm)]; exact h2⟩
    · rw [beq_false.2 hk] at h
      simp only [cond_false, lk_cons] at h
      by_cases ht : k = t
      · rw [if_pos ht] at h
        exact ⟨fun e => hk (ht.trans e), by rw [lk_cons, if_pos ht]; exact h⟩
      · rw [if_neg ht] at h
        obtain ⟨h1, h2⟩ := lk_dl d t r x h
        exact ⟨h1, by rw [lk_cons, if_neg ht]; exact h2⟩
theorem mem_delT {d t g : Nat} {wt : Bool} {x : AV} : ∀ {l : TEnv}, (t, (g, wt), x) ∈ delT d l → t ≠ d ∧ g ≠ d ∧ (t, (g, wt), x) ∈ l
  | [], h => by simp [delT] at h
  | (k, (g', w'), u) :: r, h => by
    simp only [delT] at h
    by_cases hk : k = d ∨ g' = d
    · have : (Nat.beq k d || Nat.beq g' d) = true := by simpa using hk
      rw [this] at h
      simp only [cond_true] at h
      obtain ⟨h1, h2, h3⟩ := mem_delT h
      exact ⟨h1, h2, by simp [h3]⟩
    · have : (Nat.beq k d || Nat.beq g' d) = false := by
        rw [Bool.or_eq_false_iff]; exact ⟨beq_false.2 fun e => hk (.inl e), beq_false.2 fun e => hk (.inr e)⟩
      rw [this] at h
      simp only [cond_false, List.mem_cons, Prod.mk.injEq] at h
      rcases h with ⟨rfl, ⟨rfl, rfl⟩, rfl⟩ | h
      · exact ⟨fun e => hk (.inl e), fun e => hk (.inr e), by simp⟩
      · obtain ⟨h1, h2, h3⟩ := mem_delT h
        exact ⟨h1, h2, by simp [h3]⟩
theorem lk_mem {α : Type} {t : Nat} {x : α} : ∀ {l : List (Nat × α)}, lk t l = some x → (t, x) ∈ l
  | [], h => by simp [lk] at h
  | (k, u) :: r, h => by
    rw [lk_cons] at h
    by_cases hk : k = t
    · rw [if_pos hk] at h; simp only [Option.some.injEq] at h; subst hk; subst h; simp
    · rw [if_neg hk] at h; simp [lk_mem h]
theorem lk_append {α : Type} (t : Nat) : ∀ (a b : List (Nat × α)), lk t (a ++ b) = (lk t a).or (lk t b)
  | [], b => by simp [lk]
  | (k, v) :: a, b => by
    simp only [List.cons_append, lk_cons, lk_append t a b]
    split <;> simp
theorem lk_named {i : Nat} {b : Blk} : ∀ (n : Nat) (nb : List Blk), lk i (named n nb) = some b → (i, b) ∈ named n nb ∧ n ≤ i ∧ i < n + nb.length
  | n, [], h => by simp [named, lk] at h
  | n, c :: nb, h => by
    simp only [named, lk_cons] at h
    by_cases hn : n = i
    · rw [if_pos hn] at h
      simp only [Option.some.injEq] at h
      subst hn; subst h
      exact ⟨by simp [named], Nat.le_refl _, by simp⟩
    · rw [if_neg hn] at h
      obtain ⟨h1, h2, h3⟩ := lk_named (n + 1) nb h
      exact ⟨by simp [named, h1], by omega, by simp; omega⟩
theorem lk_pts {i : Nat} {b : Blk} : ∀ (u h : Heap), lk i (pts u h) = some b → (i, b) ∈ u ∨ (lk i h = some b ∧ ∀ c, (i, c) ∉ u)
  | [], h, e => .inr ⟨e, by simp⟩
  | (j, c) :: u, h, e => by
    simp only [pts] at e
    rcases lk_pts u (pt j c h) e with e | ⟨e, hn⟩
    · exact .inl (by simp [e])
    · rw [lk_pt] at e
      by_cases hj : j = i
      · rw [if_pos hj] at e
        simp only [Option.some.injEq] at e
        exact .inl (by simp [hj, e])
      · rw [if_neg hj] at e
        exact .inr ⟨e, fun d hd => by simp at hd; rcases hd with ⟨rfl, _⟩ | hd; exact hj rfl; exact hn d hd⟩
theorem lk_pts_dom {i : Nat} : ∀ (u h : Heap), (∀ j c, (j, c) ∈ u → ∃ b, lk j h = some b) → ∀ b, lk i (pts u h) = some b → ∃ b', lk i h = some b'
  | u, h, hu, b, e => by
    rcases lk_pts u h e with h1 | ⟨h1, _⟩
    · exact hu i b h1
    · exact ⟨b, h1⟩
/-! ### Operands -/
theorem sameG_iff {p q : Nat × Bool} : sameG p q = true ↔ p = q := by
  obtain ⟨i, a⟩ := p
  obtain ⟨j, b⟩ := q
  cases a <;> cases b <;> simp [sameG]
theorem ev_ok {X : Ctx} {β : Nat → Nat} {s : RS} {a : Act} {w : World} (hs : SatR X β s a w) {G : List (Nat × Bool)} (hG : ∀ p ∈ G, a.tmps[p.1]? = some (.bool p.2)) {x : Operand} {av : AV} (h : ev s.env s.te G x = some av) :
    Rel (cxOf X β s.heap s.next w) av (a.eval x) := by
  cases x with
  | const v =>
    simp only [ev] at h
    cases hv : v.oneCell' with
    | false => simp [hv] at h
    | true => simp [hv] at h; subst h; exact .lit hv
  | global g => simp only [ev, Option.some.injEq] at h; subst h; exact .lit rfl
  | func f => simp only [ev, Option.some.injEq] at h; subst h; exact .lit rfl
  | tmp t =>
    simp only [ev] at h
    have fin : ∀ x, (∃ v, a.tmps[t]? = some v ∧ Rel (cxOf X β s.heap s.next w) x v) → Rel (cxOf X β s.heap s.next w) x (a.eval (.tmp t)) := by
      rintro x ⟨v, h1, h2⟩
      have : a.eval (.tmp t) = v := by simp [Act.eval, Array.getD_eq_getD_getElem?, h1]
      rw [this]; exact h2
    cases hte : lk t s.te with
    | none =>
      simp only [hte] at h
      exact fin av (hs.env t av h)
    | some q =>
      obtain ⟨⟨g, wt⟩, y⟩ := q
      simp only [hte] at h
      cases hc : G.any (sameG (g, wt)) with
      | false => rw [hc] at h; simp at h
      | true =>
        rw [hc] at h
        simp only [cond_true, Option.some.injEq] at h
        subst h
        obtain ⟨p, hp, hpe⟩ := List.any_eq_true.1 hc
        have := sameG_iff.1 hpe
        subst this
        exact fin y (hs.te t g wt y (lk_mem hte) (hG _ hp))
end Go.Proofs.Ytpilblmncpeelaa.AM

namespace Go.Proofs.Ytpilblmncpeelaa.AM
theorem Rel.shrink {C D : Cx} {x : AV} {v : Value} (h : Rel C x v) (hβ : D.β = C.β) (hok : ∀ i, C.ok i → D.ok i) (how : ∀ k, D.ow k → C.ow k) (hw : D.w = C.w) : Rel D x v :=
  h.mono (wr := fun _ => False) ⟨by rw [hw]; exact .refl _ _, by simp, fun i _ => by rw [hβ], hok, fun k hk => .inl (how k hk)⟩
theorem BRel.shrink {C D : Cx} {i : Nat} {b : Blk} (h : BRel C i b) (hβ : D.β = C.β) (hok : ∀ i, C.ok i → D.ok i) (how : ∀ k, D.ow k → C.ow k) (hw : D.w = C.w) : BRel D i b := by
  obtain ⟨c, h1, h2⟩ := h
  refine ⟨c, by rw [hβ, hw]; exact h1, fun p x hx => ?_⟩
  obtain ⟨v, h3, h4, h5⟩ := h2 p x hx
  exact ⟨v, h3, h4, h5.shrink hβ hok how hw⟩
theorem dead_at {b : Blk} (h : b.dead = true) (p : Nat) : b.at p = none := by
  match b, h with
  | .cells [] _, _ => rfl
theorem BRel.gone {C C' : Cx} {wr : Nat → Prop} (e : Ext C C' wr) {i : Nat} {b : Blk} (hi : C.ok i) (h : BRel C i b) (hd : b.dead = true) : BRel C' i b := by
  obtain ⟨c, h1, _⟩ := h
  obtain ⟨c', h2, _⟩ := e.wx.shape _ _ _ h1
  exact ⟨c', by rw [e.β i hi]; exact h2, fun p x hx => by rw [dead_at hd] at hx; cases hx⟩
/-- What an operation leaves is a state: the slots as they were, the blocks as told. -/
theorem SatR.after {X : Ctx} {β : Nat → Nat} {s : RS} {a : Act} {w : World} (hs : SatR X β s a w) {v : Option AV} {nb : List Blk} {u : Heap} {cv : Value} {w' : World}
    (hL : Leaves (cxOf X β s.heap s.next w) s.next v nb u cv w') (hu : ∀ i b, (i, b) ∈ u → ∃ b', lk i s.heap = some b' ∧ b'.dead = false) :
    ∃ β', SatR X β' ⟨s.env, s.te, named s.next nb ++ pts u s.heap, s.next + nb.length⟩ a w' ∧ ∀ x, v = some x → Rel (cxOf X β' (named s.next nb ++ pts u s.heap) (s.next + nb.length) w') x cv := by
  obtain ⟨C', h⟩ := hL
  obtain ⟨w1, w2, w3, w4, w5, w6, w7, w8, w9⟩ := h
  subst w1
  have lt : ∀ i b, lk i s.heap = some b → i < s.next ∧ β i < w.heap.size := fun i b hb => by
    obtain ⟨⟨c, hc, _⟩, h2⟩ := hs.heap i b hb
    exact ⟨h2, (Array.getElem?_eq_some_iff.1 hc).1⟩
  have βo : ∀ i, i < s.next → C'.β i = β i := fun i hi => w2.β i hi
  have key : ∀ i b, lk i (named s.next nb ++ pts u s.heap) = some b → (s.next ≤ i ∧ i < s.next + nb.length ∧ (i, b) ∈ named s.next nb) ∨ (i < s.next ∧ (∃ b', lk i s.heap = some b') ∧ ((i, b) ∈ u ∨ (lk i s.heap = some b ∧ ∀ c, (i, c) ∉ u))) := by
    intro i b hb
    rw [lk_append] at hb
    cases hn : lk i (named s.next nb) with
    | some b' =>
      rw [hn] at hb
      simp only [Option.some_or, Option.some.injEq] at hb
      subst hb
      obtain ⟨h1, h2, h3⟩ := lk_named _ _ hn
      exact .inl ⟨h2, h3, h1⟩
    | none =>
      rw [hn] at hb
      simp only [Option.none_or] at hb
      obtain ⟨b', hb'⟩ := lk_pts_dom u s.heap (fun i b h => (hu i b h).imp fun _ h => h.1) b hb
      exact .inr ⟨(lt i b' hb').1, ⟨b', hb'⟩, lk_pts u s.heap hb⟩
  have live : ∀ i b, ((i, b) ∈ u ∨ (lk i s.heap = some b ∧ ∀ c, (i, c) ∉ u)) → b.dead = false → ∃ b', lk i s.heap = some b' ∧ b'.dead = false := fun i b h hd => by
    rcases h with h | ⟨h, _⟩
    · exact hu i b h
    · exact ⟨b, h, hd⟩
  have alias : ∀ i j bj, (∃ q, (cxOf X β s.heap s.next w).ok q ∧ C'.β i = β q ∧ (∃ b, (q, b) ∈ u) ∧ ∀ b, (q, b) ∈ u → b.dead = true) → ((j, bj) ∈ u ∨ (lk j s.heap = some bj ∧ ∀ c, (j, c) ∉ u)) → bj.dead = false → C'.β i = β j → False := by
    rintro i j bj ⟨q, _, h1, ⟨b0, hb0⟩, h2⟩ h3 hd he
    obtain ⟨d1, e1, e2⟩ := live j bj h3 hd
    obtain ⟨d2, e3, e4⟩ := hu q b0 hb0
    have := hs.inj q j d2 d1 e3 e1 e4 e2 (h1.symm.trans he)
    subst this
    rcases h3 with h3 | ⟨_, h3⟩
    · rw [h2 _ h3] at hd; cases hd
    · exact h3 _ hb0
  have how : ∀ k, (cxOf X C'.β (named s.next nb ++ pts u s.heap) (s.next + nb.length) C'.w).ow k → C'.ow k := by
    rintro k (⟨i, b, hb, rfl⟩ | h0)
    · rw [w4]
      rcases key i b hb with ⟨h1, h2, _⟩ | ⟨h1, ⟨b', hb'⟩, _⟩
      · exact .inr ⟨i, h1, h2, rfl⟩
      · exact .inl (.inl ⟨i, b', hb', (βo i h1).symm⟩)
    · rw [w4]; exact .inl (.inr h0)
  have hok : ∀ i, C'.ok i → (cxOf X C'.β (named s.next nb ++ pts u s.heap) (s.next + nb.length) C'.w).ok i := by
    intro i hi
    rcases (w3 i).1 hi with h1 | ⟨_, h1⟩
    · exact Nat.lt_of_lt_of_le h1 (Nat.le_add_right _ _)
    · exact h1
  have tr : ∀ (x : AV) (q : Value), Rel C' x q → Rel (cxOf X C'.β (named s.next nb ++ pts u s.heap) (s.next + nb.length) C'.w) x q := fun x q h => h.shrink rfl hok how rfl
  have trB : ∀ i b, BRel C' i b → BRel (cxOf X C'.β (named s.next nb ++ pts u s.heap) (s.next + nb.length) C'.w) i b := fun i b h => h.shrink rfl hok how rfl
  refine ⟨C'.β, ⟨fun t x hx => ?_, fun t g wt x hx hgt => ?_, hs.te2, fun i b hb => ?_, fun i j bi bj hi hj hdi hdj he => ?_, fun i b hb => ?_, ?_, hs.size, hs.defers, fun i hi => by rw [βo i (Nat.lt_of_lt_of_le hi hs.n0)]; exact hs.beta i hi, Nat.le_trans hs.n0 (Nat.le_add_right _ _)⟩, fun x hx => tr x cv (w7 x hx)⟩
  · obtain ⟨v, h1, h2⟩ := hs.env t x hx
    exact ⟨v, h1, tr x v (h2.mono w2)⟩
  · obtain ⟨v, h1, h2⟩ := hs.te t g wt x hx hgt
    exact ⟨v, h1, tr x v (h2.mono w2)⟩
  · rcases key i b hb with ⟨h1, h2, h3⟩ | ⟨h1, ⟨b', hb'⟩, h3⟩
    · exact ⟨trB i b (w8 i b h3), h2⟩
    · refine ⟨trB i b ?_, Nat.lt_of_lt_of_le h1 (Nat.le_add_right _ _)⟩
      rcases h3 with h3 | ⟨h3, h4⟩
      · exact w9 i b h3
      · cases hd : b.dead with
        | true => exact BRel.gone w2 (C := cxOf X β s.heap s.next w) h1 (hs.heap i b h3).1 hd
        | false =>
          refine BRel.mono w2 (C := cxOf X β s.heap s.next w) h1 ?_ (hs.heap i b h3).1
          rintro ⟨j, c, hjc, hj⟩
          obtain ⟨b2, hb2, hd2⟩ := hu j c hjc
          have := hs.inj j i b2 b hb2 h3 hd2 hd hj
          subst this
          exact h4 c hjc
  · rcases key i bi hi with ⟨a1, a2, a3⟩ | ⟨a1, ⟨a2, a3⟩, a4⟩ <;> rcases key j bj hj with ⟨c1, c2, c3⟩ | ⟨c1, ⟨c2, c3⟩, c4⟩
    · exact w6 i j a1 a2 c1 c2 he
    · rcases w5 i a1 a2 with h1 | h1
      · have h2 := (lt j c2 c3).2
        rw [βo j c1] at he
        have h1' : w.heap.size ≤ C'.β i := h1
        omega
      · rw [βo j c1] at he
        exact (alias i j bj h1 c4 hdj he).elim
    · rcases w5 j c1 c2 with h1 | h1
      · have h2 := (lt i a2 a3).2
        rw [βo i a1] at he
        have h1' : w.heap.size ≤ C'.β j := h1
        omega
      · rw [βo i a1] at he
        exact (alias j i bi h1 a4 hdi he.symm).elim
    · rw [βo i a1, βo j c1] at he
      obtain ⟨d1, e1, e2⟩ := live i bi a4 hdi
      obtain ⟨d2, e3, e4⟩ := live j bj c4 hdj
      exact hs.inj i j d1 d2 e1 e3 e2 e4 he
  · rcases key i b hb with ⟨a1, a2, a3⟩ | ⟨a1, ⟨a2, a3⟩, _⟩
    · rcases w5 i a1 a2 with h1 | ⟨j, _, h1, ⟨c, hc⟩, _⟩
      · exact .inr (Nat.le_trans hs.frame.size h1)
      · obtain ⟨b2, hb2, _⟩ := hu j c hc
        show X.own (C'.β i) ∨ X.w.heap.size ≤ C'.β i
        rw [h1]; exact hs.own j b2 hb2
    · have h1 := hs.own i a2 a3
      show X.own (C'.β i) ∨ X.w.heap.size ≤ C'.β i
      rw [βo i a1]; exact h1
  · refine hs.frame.trans w2.wx (fun _ h => h) ?_
    rintro k hk ⟨j, c, hjc, rfl⟩
    obtain ⟨b2, hb2, _⟩ := hu j c hjc
    rcases hs.own j b2 hb2 with h1 | h1
    · exact h1
    · have : X.w.heap.size ≤ (cxOf X β s.heap s.next w).β j := h1
      omega
theorem SatR.now {X : Ctx} {β : Nat → Nat} {s : RS} {a : Act} {w : World} (hs : SatR X β s a w) (rd : List Nat) (nb : List Blk) : Now (cxOf X β s.heap s.next w) s.heap s.next rd nb :=
  ⟨fun i _ b hb => ⟨(hs.heap i b hb).1, (hs.heap i b hb).2, .inl ⟨i, b, hb, rfl⟩⟩, fun i _ j _ => hs.inj i j, fun i h1 _ h => by have : i < s.next := h; omega, X.glo' hs.frame fun k hk => by
    rcases hk with ⟨i, b, hb, rfl⟩ | h0
    · obtain ⟨⟨c, hc, _⟩, _⟩ := hs.heap i b hb
      exact .inr ⟨hs.own i b hb, _, _, hc⟩
    · exact .inl h0⟩
/-- A slot is set. -/
theorem SatR.setD {X : Ctx} {β : Nat → Nat} {s s' : RS} {a : Act} {w : World} (hs : SatR X β s a w) {d : Option Nat} {x : AV} {cv : Value} (hx : Rel (cxOf X β s.heap s.next w) x cv) (h : setD X.N d x s = some s') : SatR X β s' (a.put d cv) w := by
  cases d with
  | none => simp only [AM.setD, Option.some.injEq] at h; subst h; exact hs
  | some d =>
    simp only [AM.setD] at h
    cases hd : Nat.blt d X.N with
    | false => simp [hd] at h
    | true =>
      have hd' : d < X.N := by simpa using hd
      simp only [hd, cond_true, Option.some.injEq] at h
      subst h
      refine ⟨fun t y hy => ?_, fun t g wt y hy hg => ?_, fun t g wt y hy hg => ?_, hs.heap, hs.inj, hs.own, hs.frame, by simp [Act.put, hs.size], by simp [Act.put, hs.defers], hs.beta, hs.n0⟩
      · rw [lk_pt] at hy
        by_cases ht : d = t
        · rw [if_pos ht] at hy
          simp only [Option.some.injEq] at hy
          subst hy; subst ht
          exact ⟨cv, by simp [Act.put, hs.size, hd'], hx⟩
        · rw [if_neg ht] at hy
          obtain ⟨v, h1, h2⟩ := hs.env t y hy
          exact ⟨v, by simp [Act.put, ht, h1], h2⟩
      · obtain ⟨h1, h2, h3⟩ := mem_delT hy
        simp only [Act.put, Array.getElem?_setIfInBounds] at hg ⊢
        rw [if_neg (fun e => h2 e.symm)] at hg
        rw [if_neg (fun e => h1 e.symm)]
        exact hs.te t g wt y h3 hg
      · obtain ⟨h1, h2, h3⟩ := mem_delT hy
        simp only [Act.put, Array.getElem?_setIfInBounds] at hg ⊢
        rw [if_neg (fun e => h2 e.symm)] at hg
        rw [if_neg (fun e => h1 e.symm)]
        exact hs.te2 t g wt y h3 hg
theorem SatR.skipD {X : Ctx} {β : Nat → Nat} {s s' : RS} {a : Act} {w : World} (hs : SatR X β s a w) {d : Option Nat} (cv : Value) (h : skipD X.N d s = some s') : SatR X β s' (a.put d cv) w := by
  cases d with
  | none => simp only [AM.skipD, Option.some.injEq] at h; subst h; exact hs
  | some d =>
    simp only [AM.skipD] at h
    cases hd : Nat.blt d X.N with
    | false => simp [hd] at h
    | true =>
      simp only [hd, cond_true, Option.some.injEq] at h
      subst h
      refine ⟨fun t y hy => ?_, fun t g wt y hy hg => ?_, fun t g wt y hy hg => ?_, hs.heap, hs.inj, hs.own, hs.frame, by simp [Act.put, hs.size], by simp [Act.put, hs.defers], hs.beta, hs.n0⟩
      · obtain ⟨ht, hy⟩ := lk_dl _ _ _ _ hy
        obtain ⟨v, h1, h2⟩ := hs.env t y hy
        exact ⟨v, by simp only [Act.put, Array.getElem?_setIfInBounds]; rw [if_neg (fun e => ht e.symm)]; exact h1, h2⟩
      · obtain ⟨h1, h2, h3⟩ := mem_delT hy
        simp only [Act.put, Array.getElem?_setIfInBounds] at hg ⊢
        rw [if_neg (fun e => h2 e.symm)] at hg
        rw [if_neg (fun e => h1 e.symm)]
        exact hs.te t g wt y h3 hg
      · obtain ⟨h1, h2, h3⟩ := mem_delT hy
        simp only [Act.put, Array.getElem?_setIfInBounds] at hg ⊢
        rw [if_neg (fun e => h2 e.symm)] at hg
        rw [if_neg (fun e => h1 e.symm)]
        exact hs.te2 t g wt y h3 hg
theorem SatR.setO {X : Ctx} {β : Nat → Nat} {s s' : RS} {a : Act} {w : World} (hs : SatR X β s a w) {d : Option Nat} {v : Option AV} {cv : Value} (hx : ∀ x, v = some x → Rel (cxOf X β s.heap s.next w) x cv) (h : setO X.N d v s = some s') : SatR X β s' (a.put d cv) w := by
  cases v with
  | none => exact hs.skipD cv h
  | some x => exact hs.setD (hx x rfl) h
/-- A slot is set under a guard: what it then holds is known where the guard holds. -/
theorem SatR.setGO {X : Ctx} {β : Nat → Nat} {s s' : RS} {a : Act} {w : World} (hs : SatR X β s a w) {d : Option Nat} {v : Option AV} {cv : Value} {g : Nat} {wt : Bool} (hx : a.tmps[g]? = some (.bool wt) → ∀ x, v = some x → Rel (cxOf X β s.heap s.next w) x cv) (hu : a.tmps[g]? ≠ some (.bool wt) → cv = undef) (h : setGO X.N (g, wt) d v s = some s') : SatR X β s' (a.put d cv) w := by
  cases v with
  | none => exact hs.skipD cv h
  | some x =>
    cases d with
    | none => simp only [AM.setGO, AM.setG, Option.some.injEq] at h; subst h; exact hs
    | some d =>
      simp only [AM.setGO, AM.setG] at h
      cases hd : (Nat.blt d X.N && !Nat.beq d g) with
      | false => rw [hd] at h; simp at h
      | true =>
        rw [hd] at h
        simp only [cond_true, Option.some.injEq] at h
        simp only [Bool.and_eq_true, Bool.not_eq_true'] at hd
        have hd' : d < X.N := by simpa using hd.1
        have hgd : d ≠ g := beq_false.1 hd.2
        subst h
        refine ⟨fun t y hy => ?_, fun t g' wt' y hy hg => ?_, fun t g' wt' y hy hg => ?_, hs.heap, hs.inj, hs.own, hs.frame, by simp [Act.put, hs.size], by simp [Act.put, hs.defers], hs.beta, hs.n0⟩
        · obtain ⟨ht, hy⟩ := lk_dl _ _ _ _ hy
          obtain ⟨v, h1, h2⟩ := hs.env t y hy
          exact ⟨v, by simp only [Act.put, Array.getElem?_setIfInBounds]; rw [if_neg (fun e => ht e.symm)]; exact h1, h2⟩
        · simp only [Act.put, Array.getElem?_setIfInBounds] at hg ⊢
          simp only [List.mem_cons, Prod.mk.injEq] at hy
          rcases hy with ⟨rfl, ⟨rfl, rfl⟩, rfl⟩ | hy
          · rw [if_neg hgd] at hg
            exact ⟨cv, by simp [hs.size, hd'], hx hg y rfl⟩
          · obtain ⟨h1, h2, h3⟩ := mem_delT hy
            rw [if_neg (fun e => h2 e.symm)] at hg
            rw [if_neg (fun e => h1 e.symm)]
            exact hs.te t g' wt' y h3 hg
        · simp only [Act.put, Array.getElem?_setIfInBounds] at hg ⊢
          simp only [List.mem_cons, Prod.mk.injEq] at hy
          rcases hy with ⟨rfl, ⟨rfl, rfl⟩, rfl⟩ | hy
          · rw [if_neg hgd] at hg
            simp [hs.size, hd', hu hg]
          · obtain ⟨h1, h2, h3⟩ := mem_delT hy
            rw [if_neg (fun e => h2 e.symm)] at hg
            rw [if_neg (fun e => h1 e.symm)]
            exact hs.te2 t g' wt' y h3 hg
/-- A slot's value becomes known. -/
theorem SatR.learn {X : Ctx} {β : Nat → Nat} {s : RS} {a : Act} {w : World} (hs : SatR X β s a w) {t : Nat} {c : Bool} (h : a.tmps[t]? = some (.bool c)) : SatR X β ⟨pt t (.lit (.bool c)) s.env, s.te, s.heap, s.next⟩ a w := by
  refine ⟨fun t' y hy => ?_, hs.te, hs.te2, hs.heap, hs.inj, hs.own, hs.frame, hs.size, hs.defers, hs.beta, hs.n0⟩
  rw [lk_pt] at hy
  by_cases ht : t = t'
  · rw [if_pos ht] at hy
    simp only [Option.some.injEq] at hy
    subst hy; subst ht
    exact ⟨_, h, .lit rfl⟩
  · rw [if_neg ht] at hy
    exact hs.env t' y hy
end Go.Proofs.Ytpilblmncpeelaa.AM

namespace Go.Proofs.Ytpilblmncpeelaa.AM
def RT.sat (Q : RS → List (List Nat × List Nat) → Prop) : RT → Prop
  | .ok s fp => Q s fp
  | .split b x y => (b = true → x.sat Q) ∧ (b = false → y.sat Q)
  | .need p x => AllP p ∧ x.sat Q
  | .bad => False
theorem needs_sat {Q : RS → List (List Nat × List Nat) → Prop} {p : List Prop} {x : RT} (h : (needs p x).sat Q) : AllP p ∧ x.sat Q := by
  cases p with
  | nil => exact ⟨trivial, h⟩
  | cons p r => exact h
theorem underB_all {b want : Bool} : ∀ {ob : List Prop}, AllP (underB stdH b want ob) → b = want → AllP ob
  | [], _, _ => trivial
  | _ :: _, h, e => ⟨h.1 e, underB_all h.2 e⟩
theorem underC_all : ∀ {l : List (Bool × Bool)} {ob : List Prop}, AllP (underC stdH l ob) → (∀ p ∈ l, p.1 = p.2) → AllP ob
  | [], _, h, _ => h
  | (_, _) :: _, _, h, e => underC_all (underB_all h (e _ List.mem_cons_self)) fun p hp => e p (List.mem_cons_of_mem _ hp)
theorem relBool {C : Cx} {b : Bool} {v : Value} (h : Rel C (.lit (.bool b)) v) : v = .bool b := by cases h; rfl
theorem chain_ok {C : Cx} {τ : Tab} {a : Act} {e : Env} {te : TEnv} {L : List Nat} (h1 : ∀ t ∈ L, ∀ x, lk t e = some x → ∃ v, a.tmps[t]? = some v ∧ Rel C x v)
    (h2 : ∀ t ∈ L, ∀ g wt x, (t, (g, wt), x) ∈ te → (a.tmps[g]? = some (.bool wt) → ∃ v, a.tmps[t]? = some v ∧ Rel C x v) ∧ (a.tmps[g]? ≠ some (.bool wt) → a.tmps[t]? = some undef)) :
    ∀ (d t : Nat), t ∈ L → (∃ c, a.tmps[t]? = some (.bool c)) → ∀ p ∈ chain τ e te L d t, p.1 = p.2
  | 0, _, _, _, p, hp => by simp [chain] at hp
  | d + 1, t, ht, ⟨c, hc⟩, p, hp => by
    unfold chain at hp
    split at hp
    · cases hl : lk t te with
      | none => rw [hl] at hp; simp at hp
      | some q =>
        obtain ⟨⟨g, w⟩, x⟩ := q
        rw [hl] at hp
        simp only at hp
        have hg : a.tmps[g]? = some (.bool w) := by
          refine Classical.byContradiction fun hn => ?_
          have := (h2 t ht g w x (lk_mem hl)).2 hn
          rw [hc] at this
          simp [undef] at this
        cases hL : L.any (Nat.beq g) with
        | false => rw [hL] at hp; simp at hp
        | true =>
          rw [hL, cond_true] at hp
          have hgL : g ∈ L := by
            obtain ⟨y, hy, he⟩ := List.any_eq_true.1 hL
            have := Nat.eq_of_beq_eq_true he
            rwa [this]
          split at hp
          · rename_i b hv
            have hb : b = w := by
              unfold gval at hv
              cases hte : lk g te with
              | none =>
                rw [hte] at hv
                obtain ⟨v, e1, e2⟩ := h1 g hgL _ hv
                rw [hg] at e1
                injection e1 with e1
                have := relBool e2
                rw [← e1] at this; injection this with this; exact this.symm
              | some q =>
                obtain ⟨⟨g2, w2⟩, y⟩ := q
                rw [hte] at hv
                simp only [Option.some.injEq] at hv
                subst hv
                by_cases hg2 : a.tmps[g2]? = some (.bool w2)
                · obtain ⟨v, e1, e2⟩ := (h2 g hgL g2 w2 _ (lk_mem hte)).1 hg2
                  rw [hg] at e1
                  injection e1 with e1
                  have := relBool e2
                  rw [← e1] at this; injection this with this; exact this.symm
                · have := (h2 g hgL g2 w2 _ (lk_mem hte)).2 hg2
                  rw [hg] at this
                  simp [undef] at this
            rcases List.mem_cons.1 hp with rfl | hp
            · exact hb
            · exact chain_ok h1 h2 d g hgL ⟨_, hg⟩ p hp
          · simp at hp
    · simp at hp
/-- What the machine rests on: the tables. -/
structure Base (P : Program) (Γ : Cons) (τ : Tab) : Prop where
  tab : TabOk P τ
  cons : ConsOk P Γ
  bodies : ∀ f args h n, Γ stdH f args h n ≠ none → (P.funcs[f]?.map fun fn => (fn.name == "runtime.NumGoroutine", fn.body.isNone)) = some (false, false)
section
variable {P : Program} {Γ : Cons} {τ : Tab} {X : Ctx}
/-- One operation, under the guards G. -/
theorem effG_ok (hB : Base P Γ τ) {β : Nat → Nat} {s : RS} {a : Act} {w : World} (hs : SatR X β s a w) {G : List (Nat × Bool)} (hG : ∀ p ∈ G, a.tmps[p.1]? = some (.bool p.2)) {o : Oper} {v : Option AV} {nb : List Blk} {rd : List Nat} {u : Heap} {ob : List Prop}
    (he : effG stdH Γ τ s G o.op = .mk v nb rd u ob) (hob : AllP ob) :
    Yld P o a.eval w (fun cv w' => ∃ β', SatR X β' ⟨s.env, s.te, named s.next nb ++ pts u s.heap, s.next + nb.length⟩ a w' ∧ ∀ x, v = some x → Rel (cxOf X β' (named s.next nb ++ pts u s.heap) (s.next + nb.length) w') x cv) := by
  have go : (∀ c x y, o.op ≠ .pick c x y) → eff stdH Γ τ (ev s.env s.te G) s.heap s.next o.op = .mk v nb rd u ob → Yld P o a.eval w (fun cv w' => ∃ β', SatR X β' ⟨s.env, s.te, named s.next nb ++ pts u s.heap, s.next + nb.length⟩ a w' ∧ ∀ x, v = some x → Rel (cxOf X β' (named s.next nb ++ pts u s.heap) (s.next + nb.length) w') x cv) := by
    intro hpk he
    obtain ⟨h1, h2⟩ := eff_ok (P := P) (o := o) (a := a) (C := cxOf X β s.heap s.next w) (n := s.next) hB.tab hB.cons hB.bodies he hpk hob (fun x av h => ev_ok hs hG h) (hs.now rd nb)
    exact h1.mono fun cv w' hL => hs.after hL (fun i b hi => (h2 i b hi).2)
  by_cases hpk : ∃ c x y, o.op = .pick c x y
  · obtain ⟨c, x, y, hop⟩ := hpk
    cases c <;> simp only [effG, hop] at he <;> try (exact absurd he (by simp))
    rename_i c
    generalize hc : ev s.env s.te G (.tmp c) = ec at he
    generalize hx : ev s.env s.te ((c, true) :: G) x = ex at he
    generalize hy : ev s.env s.te ((c, false) :: G) y = ey at he
    match ec, ex, ey, he with
    | some (.lit (.bool tc)), some (.lit (.bool tx)), some (.lit (.bool ty)), he =>
      simp only [ePick, pure1, stdH, Eff.mk.injEq] at he
      obtain ⟨rfl, rfl, rfl, rfl, rfl⟩ := he
      have hcv := (ev_ok hs hG hc).bool_inv
      have hslot : a.tmps[c]? = some (.bool tc) := by
        simp only [Act.eval, Array.getD_eq_getD_getElem?] at hcv
        cases hq : a.tmps[c]? with
        | none => rw [hq] at hcv; simp [undef] at hcv
        | some q => rw [hq] at hcv; simp at hcv; rw [hcv]
      have hGt : ∀ b, tc = b → ∀ z av, ev s.env s.te ((c, b) :: G) z = some av → Rel (cxOf X β s.heap s.next w) av (a.eval z) := by
        intro b hb z av hz
        refine ev_ok hs (fun p hp => ?_) hz
        simp only [List.mem_cons] at hp
        rcases hp with rfl | hp
        · rw [← hb]; exact hslot
        · exact hG p hp
      have := ok_pick (P := P) (o := o) (ρ := a.eval) (C := cxOf X β s.heap s.next w) (n := s.next) hop hcv (fun e => (hGt true e x _ hx).bool_inv) (fun e => (hGt false e y _ hy).bool_inv)
      exact this.mono fun cv w' hL => hs.after hL (by simp)
    | some (.lit (.bool tc)), none, some (.lit (.bool ty)), he =>
      simp only [ePick, stdH, Eff.mk.injEq] at he
      obtain ⟨rfl, rfl, rfl, rfl, rfl⟩ := he
      have htc : tc = false := hob.1
      subst htc
      have hcv := (ev_ok hs hG hc).bool_inv
      have hslot : a.tmps[c]? = some (.bool false) := by
        simp only [Act.eval, Array.getD_eq_getD_getElem?] at hcv
        cases hq : a.tmps[c]? with
        | none => rw [hq] at hcv; simp [undef] at hcv
        | some q => rw [hq] at hcv; simp at hcv; rw [hcv]
      have hGt : ∀ b, false = b → ∀ z av, ev s.env s.te ((c, b) :: G) z = some av → Rel (cxOf X β s.heap s.next w) av (a.eval z) := by
        intro b hb z av hz
        refine ev_ok hs (fun p hp => ?_) hz
        simp only [List.mem_cons] at hp
        rcases hp with rfl | hp
        · rw [← hb]; exact hslot
        · exact hG p hp
      have := ok_pick (P := P) (o := o) (ρ := a.eval) (C := cxOf X β s.heap s.next w) (a := ty) (b := ty) (n := s.next) hop hcv (fun e => by cases e) (fun e => (hGt false e y _ hy).bool_inv)
      exact this.mono fun cv w' hL => hs.after hL (by simp)
    | some (.lit (.bool tc)), some (.lit (.bool tx)), none, he =>
      simp only [ePick, stdH, Eff.mk.injEq] at he
      obtain ⟨rfl, rfl, rfl, rfl, rfl⟩ := he
      have htc : tc = true := hob.1
      subst htc
      have hcv := (ev_ok hs hG hc).bool_inv
      have hslot : a.tmps[c]? = some (.bool true) := by
        simp only [Act.eval, Array.getD_eq_getD_getElem?] at hcv
        cases hq : a.tmps[c]? with
        | none => rw [hq] at hcv; simp [undef] at hcv
        | some q => rw [hq] at hcv; simp at hcv; rw [hcv]
      have hGt : ∀ b, true = b → ∀ z av, ev s.env s.te ((c, b) :: G) z = some av → Rel (cxOf X β s.heap s.next w) av (a.eval z) := by
        intro b hb z av hz
        refine ev_ok hs (fun p hp => ?_) hz
        simp only [List.mem_cons] at hp
        rcases hp with rfl | hp
        · rw [← hb]; exact hslot
        · exact hG p hp
      have := ok_pick (P := P) (o := o) (ρ := a.eval) (C := cxOf X β s.heap s.next w) (a := tx) (b := tx) (n := s.next) hop hcv (fun e => (hGt true e x _ hx).bool_inv) (fun e => by cases e)
      exact this.mono fun cv w' hL => hs.after hL (by simp)
  · have hpk' : ∀ c x y, o.op ≠ .pick c x y := fun c x y e => hpk ⟨c, x, y, e⟩
    refine go hpk' ?_
    unfold effG at he
    split at he
    · rename_i c x y heq; exact absurd heq (hpk' _ x y)
    · rename_i c x y _ heq; exact absurd heq (hpk' _ x y)
    · exact he
theorem wanted_of {ops : Array Oper} {o : Oper} {a : Act} {j gs : Nat} {want : Bool} (ho : o.guard = some (j, want)) (hg : (ops[j]?).bind (·.dst) = some gs) : Region.wanted o (yielded ops a.tmps) = true ↔ a.tmps[gs]? = some (.bool want) := by
  unfold Region.wanted
  simp only [ho, yielded, hg, Option.bind_some]
  cases hq : a.tmps[gs]? with
  | none => simp
  | some q => cases q <;> simp
theorem gslot_of {ops : Array Oper} {o : Oper} {j gs : Nat} {want : Bool} (hg : o.guard = some (j, want)) (hgs : (ops[j]?).bind (·.dst) = some gs) : gslot ops.toList o = [gs] := by
  unfold gslot
  simp only [hg, Array.getElem?_toList]
  cases hj : ops[j]? with
  | none => rw [hj] at hgs; simp at hgs
  | some q => rw [hj] at hgs; simp at hgs; simp [hgs]
theorem gs_looks {ops : Array Oper} {o : Oper} {j gs : Nat} {want : Bool} (hg : o.guard = some (j, want)) (hgs : (ops[j]?).bind (·.dst) = some gs) : gs ∈ looks ops.toList o := by
  unfold looks
  rw [gslot_of hg hgs]
  simp
/-- The operations of a region, in the order of the text. -/
theorem rgn_ok (hB : Base P Γ τ) {ops : Array Oper} {Q : Exit → Act → World → Prop} {R : RS → List (List Nat × List Nat) → Prop} (hR : ∀ β s fp a w, R s fp → SatR X β s a w → Q .normal a w) :
    ∀ (l : List Oper) (k : Nat) (s : RS) (fp : List (List Nat × List Nat)) (β : Nat → Nat) (a : Act) (w : World), (∀ j, l[j]? = ops[k + j]?) → SatR X β s a w → (rgn stdH Γ τ X.N ops.toList l s fp).sat R → wpOps P ops Q (List.range' k l.length) a w
  | [], k, s, fp, β, a, w, _, hs, h => hR β s fp a w h hs
  | o :: l, k, s, fp, β, a, w, hl, hs, h => by
    have hk : ops[k]? = some o := by have := hl 0; simpa using this.symm
    have hl' : ∀ j, l[j]? = ops[k + 1 + j]? := fun j => by have := hl (j + 1); rw [show k + 1 + j = k + (j + 1) by omega]; simpa using this
    simp only [List.length_cons, List.range'_succ, wpOps, hk]
    unfold rgn at h
    cases hgd : o.guard with
    | none =>
      simp only [hgd] at h
      have hw : Region.wanted o (yielded ops a.tmps) = true := by simp [Region.wanted, hgd]
      rw [if_pos hw]
      left
      cases he : effG stdH Γ τ s [] o.op with
      | bad => rw [he] at h; exact h.elim
      | mk v nb rd u ob =>
        rw [he] at h
        simp only at h
        cases hs' : setO X.N o.dst v ⟨s.env, s.te, named s.next nb ++ pts u s.heap, s.next + nb.length⟩ with
        | none => rw [hs'] at h; exact h.elim
        | some s' =>
          rw [hs'] at h
          obtain ⟨hob, hrest⟩ := needs_sat h
          refine Yld.wp ((effG_ok hB hs (by simp) he hob).mono fun cv w' ⟨β', h1, h2⟩ => ?_)
          exact rgn_ok hB hR l (k + 1) s' _ β' _ w' hl' (h1.setO h2 hs') hrest
    | some q =>
      obtain ⟨j, want⟩ := q
      simp only [hgd] at h
      have hops : ops.toList[j]? = ops[j]? := by simp
      rw [hops] at h
      cases hd : (ops[j]?).bind (·.dst) with
      | none => rw [hd] at h; exact h.elim
      | some gs =>
        rw [hd] at h
        simp only at h
        have hwant := wanted_of (a := a) hgd hd
        generalize hgv : gval s.env s.te gs = gv at h
        by_cases hgb : ∃ b, gv = some (.lit (.bool b))
        case neg =>
          exfalso
          revert h
          split
          · exact absurd ⟨_, rfl⟩ hgb
          · exact id
        case pos =>
        obtain ⟨b, rfl⟩ := hgb
        unfold gval at hgv
        dsimp only at h
        have hval : a.tmps[gs]? = some (.bool want) → b = want := by
          intro hc
          cases hte : lk gs s.te with
          | none =>
            rw [hte] at hgv
            obtain ⟨v, h1, h2⟩ := hs.env gs _ hgv
            rw [hc] at h1
            injection h1 with h1
            have := h2.bool_inv
            rw [← h1] at this; injection this with this; exact this.symm
          | some q =>
            obtain ⟨⟨g2, w2⟩, x⟩ := q
            rw [hte] at hgv
            simp only [Option.some.injEq] at hgv
            subst hgv
            by_cases hg2 : a.tmps[g2]? = some (.bool w2)
            · obtain ⟨v, h1, h2⟩ := hs.te gs g2 w2 _ (lk_mem hte) hg2
              rw [hc] at h1
              injection h1 with h1
              have := h2.bool_inv
              rw [← h1] at this; injection this with this; exact this.symm
            · have := hs.te2 gs g2 w2 _ (lk_mem hte) hg2
              rw [hc] at this
              simp [undef] at this
        cases he : effG stdH Γ τ s [(gs, want)] o.op with
        | bad =>
          rw [he] at h
          dsimp only at h
          cases hte : lk gs s.te with
          | some q => rw [hte] at h; exact h.elim
          | none =>
            rw [hte] at h hgv
            dsimp only at h hgv
            cases hs' : skipD X.N o.dst ⟨pt gs (.lit (.bool (!want))) s.env, s.te, s.heap, s.next⟩ with
            | none => rw [hs'] at h; exact h.elim
            | some s' =>
              rw [hs'] at h
              obtain ⟨hob, hrest⟩ := needs_sat h
              have hne : b ≠ want := hob.1
              have hw : ¬ Region.wanted o (yielded ops a.tmps) = true := fun hw => hne (hval (hwant.1 hw))
              rw [if_neg hw]
              have hb : a.tmps[gs]? = some (.bool b) := by
                obtain ⟨v, h1, h2⟩ := hs.env gs _ hgv
                rw [h1, h2.bool_inv]
              have hb' : a.tmps[gs]? = some (.bool (!want)) := by rw [hb]; cases b <;> cases want <;> simp_all
              exact rgn_ok hB hR l (k + 1) s' _ β _ w hl' ((hs.learn hb').skipD _ hs') hrest
        | mk v nb rd u ob =>
          rw [he] at h
          have hG : a.tmps[gs]? = some (.bool want) → ∀ p ∈ [(gs, want)], a.tmps[p.1]? = some (.bool p.2) := fun h p hp => by simp at hp; subst hp; exact h
          dsimp only at h
          cases hq : (isNil nb && isNil u) with
          | true =>
            rw [hq] at h
            dsimp only at h
            simp only [Bool.and_eq_true] at hq
            obtain rfl : nb = [] := by cases nb <;> simp_all [isNil]
            obtain rfl : u = [] := by cases u <;> simp_all [isNil]
            cases hs' : setGO X.N (gs, want) o.dst v s with
            | none => rw [hs'] at h; exact h.elim
            | some s' =>
              rw [hs'] at h
              obtain ⟨hob, hrest⟩ := needs_sat h
              by_cases hw : Region.wanted o (yielded ops a.tmps) = true
              · rw [if_pos hw]
                left
                have hc := hwant.1 hw
                have hob := underC_all hob (chain_ok (C := cxOf X β s.heap s.next w) (fun t _ => hs.env t) (fun t _ g wt x hx => ⟨hs.te t g wt x hx, hs.te2 t g wt x hx⟩) 4 gs (gs_looks hgd hd) ⟨_, hc⟩)
                refine Yld.wp ((effG_ok hB hs (hG hc) he (underB_all hob (hval hc))).mono fun cv w' ⟨β', h1, h2⟩ => ?_)
                have h1' : SatR X β' s a w' := h1
                exact rgn_ok hB hR l (k + 1) s' _ β' _ w' hl' (h1'.setGO (fun _ => h2) (fun hn => absurd hc hn) hs') hrest
              · rw [if_neg hw]
                have hc : ¬ a.tmps[gs]? = some (.bool want) := fun h => hw (hwant.2 h)
                exact rgn_ok hB hR l (k + 1) s' _ β _ w hl' (hs.setGO (fun h => absurd h hc) (fun _ => rfl) hs') hrest
          | false =>
            rw [hq] at h
            dsimp only at h
            cases hte : lk gs s.te with
            | some q => rw [hte] at h; exact h.elim
            | none =>
              rw [hte] at h hgv
              dsimp only at h hgv
              have hb : a.tmps[gs]? = some (.bool b) := by
                obtain ⟨v, h1, h2⟩ := hs.env gs _ hgv
                rw [h1, h2.bool_inv]
              cases hs1 : setO X.N o.dst v ⟨pt gs (.lit (.bool want)) s.env, s.te, named s.next nb ++ pts u s.heap, s.next + nb.length⟩ with
              | none => rw [hs1] at h; exact h.elim
              | some s1 =>
                rw [hs1] at h
                dsimp only at h
                cases hs2 : skipD X.N o.dst ⟨pt gs (.lit (.bool (!want))) s.env, s.te, s.heap, s.next⟩ with
                | none => rw [hs2] at h; exact h.elim
                | some s2 =>
                  rw [hs2] at h
                  have h2 : (b = want → (needs ob (rgn stdH Γ τ X.N ops.toList l s1 ((rd, ids s.next nb ++ keysOf u) :: fp))).sat R) ∧ (b ≠ want → (rgn stdH Γ τ X.N ops.toList l s2 (([], []) :: fp)).sat R) := by
                    cases want with
                    | true => exact ⟨h.1, fun q => h.2 (by simpa using q)⟩
                    | false => exact ⟨h.2, fun q => h.1 (by simpa using q)⟩
                  by_cases hw : Region.wanted o (yielded ops a.tmps) = true
                  · rw [if_pos hw]
                    left
                    have hc := hwant.1 hw
                    have hbw := hval hc
                    obtain ⟨hob, hrest⟩ := needs_sat (h2.1 hbw)
                    refine Yld.wp ((effG_ok hB hs (hG hc) he hob).mono fun cv w' ⟨β', q1, q2⟩ => ?_)
                    exact rgn_ok hB hR l (k + 1) s1 _ β' _ w' hl' ((q1.learn hc).setO q2 hs1) hrest
                  · rw [if_neg hw]
                    have hbw : b ≠ want := fun e => hw (hwant.2 (by rw [hb, e]))
                    have hb' : a.tmps[gs]? = some (.bool (!want)) := by rw [hb]; cases b <;> cases want <;> simp_all
                    exact rgn_ok hB hR l (k + 1) s2 _ β _ w hl' ((hs.learn hb').skipD _ hs2) (h2.2 hbw)
end
end Go.Proofs.Ytpilblmncpeelaa.AM

namespace Go.Proofs.Ytpilblmncpeelaa.AM
def Sat (X : Ctx) (s : St) (a : Act) (w : World) : Prop := ∃ β, SatR X β ⟨s.env, [], s.heap, s.next⟩ a w
/-- What is asked where a loop begins its next round. -/
def LoopWp (P : Program) (c : Code) (Q : Exit → Act → World → Prop) (a : Act) (w : World) : Prop :=
  ∀ b k cs, ∃ e a' w', Q e a' w' ∧ Arrives P (lone (b.at a (.code c :: .inLoop c :: k)) cs w) b k cs e a' w'
theorem LoopWp.wp {P : Program} {c : Code} {Q : Exit → Act → World → Prop} {a : Act} {w : World} (h : LoopWp P c Q a w) : (Code.loop c).wp P Q a w := by
  intro b k cs
  obtain ⟨e, a', w', hq, harr⟩ := h b k cs
  exact ⟨e, a', w', hq, .of_steps (.one step_loop) harr⟩
theorem LoopWp.of {P : Program} {c : Code} {Q : Exit → Act → World → Prop} {a : Act} {w : World} (h : c.wp P (fun e a w => match e with | .normal => LoopWp P c Q a w | e => Q e a w) a w) : LoopWp P c Q a w := by
  intro b k cs
  obtain ⟨e, a₁, w₁, hq, harr⟩ := h b (.inLoop c :: k) cs
  cases e with
  | normal =>
    obtain ⟨e₂, a₂, w₂, hq₂, harr₂⟩ := hq b k cs
    exact ⟨e₂, a₂, w₂, hq₂, .of_steps (Steps.trans harr (.one step_inLoop)) harr₂⟩
  | exit id => exact ⟨_, a₁, w₁, hq, .pass (x := .inLoop c) rfl (fun _ _ => .inl (by simp)) harr⟩
  | goto l => exact ⟨_, a₁, w₁, hq, .pass (x := .inLoop c) rfl (fun _ _ => .inl (by simp)) harr⟩
  | ret => exact ⟨_, a₁, w₁, hq, .pass (x := .inLoop c) rfl (fun _ _ => .inl (by simp)) harr⟩
  | panic ch => exact ⟨_, a₁, w₁, hq, .pass (x := .inLoop c) rfl (fun _ _ => .inl (by simp)) harr⟩
  | outgrown => exact ⟨_, a₁, w₁, hq, .pass (x := .inLoop c) rfl (fun _ _ => .inl (by simp)) harr⟩
/-- What is asked behind a stack of code. -/
def contOf (P : Program) (Q : Exit → Act → World → Prop) : List KI → Exit → Act → World → Prop
  | [] => Q
  | .code c :: k => fun e a w => match e with
    | .normal => c.wp P (contOf P Q k) a w
    | e => contOf P Q k e a w
  | .lp c :: k => fun e a w => match e with
    | .normal => LoopWp P c (contOf P Q k) a w
    | e => contOf P Q k e a w
  | .blk id :: k => fun e a w => match e with
    | .normal => contOf P Q k .normal a w
    | .exit j => if j = id then contOf P Q k .normal a w else contOf P Q k (.exit j) a w
    | e => contOf P Q k e a w
/-- What an outcome must be, so that 'p' holds at the end. -/
def Out.sat (P : Program) (X : Ctx) (p : Exit → Act → World → Prop) : Out → Prop
  | .done e s => ∀ a w, Sat X s a w → p e a w
  | .br b x y => (b = true → x.sat P X p) ∧ (b = false → y.sat P X p)
  | .need q x => AllP q ∧ x.sat P X p
  | .loop c k s => ∀ a w, Sat X s a w → contOf P p (.code (.loop c) :: k) .normal a w
  | .bad => False
section
variable {P : Program} {Γ : Cons} {τ : Tab} {X : Ctx} {Q : Exit → Act → World → Prop}
theorem toBlk_some {R : Exit → Act → World → Prop} {id : Nat} : ∀ {k k' : List KI}, toBlk id k = some k' → ∀ a w, contOf P R k' .normal a w → contOf P R k (.exit id) a w
  | [], _, h, _, _, _ => by simp [toBlk] at h
  | .code c :: k, k', h, a, w, hk => toBlk_some (k := k) h a w hk
  | .lp c :: k, k', h, a, w, hk => toBlk_some (k := k) h a w hk
  | .blk j :: k, k', h, a, w, hk => by
    simp only [toBlk] at h
    by_cases hj : j = id
    · rw [beq_iff.2 hj] at h
      simp only [cond_true, Option.some.injEq] at h
      subst h; subst hj
      show (if j = j then _ else _)
      rw [if_pos rfl]; exact hk
    · rw [beq_false.2 hj] at h
      show (if id = j then _ else _)
      rw [if_neg (fun e => hj e.symm)]
      exact toBlk_some (k := k) h a w hk
theorem toBlk_none {R : Exit → Act → World → Prop} {id : Nat} : ∀ {k : List KI}, toBlk id k = none → ∀ a w, R (.exit id) a w → contOf P R k (.exit id) a w
  | [], _, _, _, h => h
  | .code c :: k, h, a, w, hk => toBlk_none (k := k) h a w hk
  | .lp c :: k, h, a, w, hk => toBlk_none (k := k) h a w hk
  | .blk j :: k, h, a, w, hk => by
    simp only [toBlk] at h
    by_cases hj : j = id
    · rw [beq_iff.2 hj] at h; simp at h
    · rw [beq_false.2 hj] at h
      show (if id = j then _ else _)
      rw [if_neg (fun e => hj e.symm)]
      exact toBlk_none (k := k) h a w hk
theorem cont_ret {R : Exit → Act → World → Prop} : ∀ (k : List KI) (a : Act) (w : World), R .ret a w → contOf P R k .ret a w
  | [], _, _, h => h
  | .code _ :: k, a, w, h => cont_ret k a w h
  | .lp _ :: k, a, w, h => cont_ret k a w h
  | .blk _ :: k, a, w, h => cont_ret k a w h
theorem ofRT_sat {f : RS → List (List Nat × List Nat) → Out} : ∀ {r : RT}, (ofRT f r).sat P X Q → r.sat (fun s fp => (f s fp).sat P X Q)
  | .ok _ _, h => h
  | .split _ _ _, h => ⟨fun e => ofRT_sat (h.1 e), fun e => ofRT_sat (h.2 e)⟩
  | .need _ _, h => ⟨h.1, ofRT_sat h.2⟩
  | .bad, h => h
theorem RT.sat_mono {R R' : RS → List (List Nat × List Nat) → Prop} (h : ∀ s fp, R s fp → R' s fp) : ∀ {r : RT}, r.sat R → r.sat R'
  | .ok s fp, q => h s fp q
  | .split _ _ _, q => ⟨fun e => RT.sat_mono h (q.1 e), fun e => RT.sat_mono h (q.2 e)⟩
  | .need _ _, q => ⟨q.1, RT.sat_mono h q.2⟩
  | .bad, q => q
/-- Regions that draw their order (proved in a text of its own). -/
def DrawOk (P : Program) (Γ : Cons) (τ : Tab) : Prop := ∀ (X : Ctx) (id : Nat) (ops : Array Oper) (Q : Exit → Act → World → Prop) (R : RS → List (List Nat × List Nat) → Prop) (β : Nat → Nat) (s : RS) (a : Act) (w : World),
  (∀ β s fp a w, R s fp → SatR X β s a w → Q .normal a w) → SatR X β s a w → s.te = [] → (rgn stdH Γ τ X.N ops.toList ops.toList s []).sat (fun s fp => chk ops.toList fp = true ∧ R s fp) → (Code.region id ops true).wp P Q a w
theorem arun_ok (hB : Base P Γ τ) (hD : DrawOk P Γ τ) : ∀ (n : Nat) (k : List KI) (s : St) (a : Act) (w : World), (arun stdH Γ τ X.N n k s).sat P X Q → Sat X s a w → contOf P Q k .normal a w
  | 0, k, s, a, w, h, _ => h.elim
  | n + 1, [], s, a, w, h, hs => h a w hs
  | n + 1, .blk id :: k, s, a, w, h, hs => arun_ok hB hD n k s a w h hs
  | n + 1, .lp b :: k, s, a, w, h, hs => by
    show LoopWp P b (contOf P Q k) a w
    have := arun_ok hB hD n (.code b :: .lp b :: k) s a w h hs
    refine .of (wp_mono this fun e a w he => ?_)
    cases e <;> exact he
  | n + 1, .code c :: k, s, a, w, h, hs => by
    show c.wp P (contOf P Q k) a w
    unfold arun at h
    cases c with
    | skip => exact wp_skip (arun_ok hB hD n k s a w h hs)
    | seq x y =>
      have := arun_ok hB hD n (.code x :: .code y :: k) s a w h hs
      refine wp_seq (wp_mono this fun e a w he => ?_)
      cases e <;> exact he
    | cond c x y =>
      simp only at h
      cases hc : ev s.env [] [] c with
      | none => rw [hc] at h; exact h.elim
      | some v =>
        rw [hc] at h
        obtain ⟨β, hs'⟩ := id hs
        have hrel := ev_ok hs' (G := []) (by simp) (x := c) hc
        cases v <;> try (exact h.elim)
        case lit v =>
          cases v <;> try (exact h.elim)
          rename_i t
          refine wp_cond hrel.bool_inv ?_
          cases t with
          | true => exact arun_ok hB hD n (.code x :: k) s a w (h.1 rfl) hs
          | false => exact arun_ok hB hD n (.code y :: k) s a w (h.2 rfl) hs
        case kb t =>
          refine wp_cond (show a.eval c = .bool t by generalize a.eval c = q at hrel; cases hrel; rfl) ?_
          cases t with
          | true => exact arun_ok hB hD n (.code x :: k) s a w h hs
          | false => exact arun_ok hB hD n (.code y :: k) s a w h hs
    | block id b =>
      have := arun_ok hB hD n (.code b :: .blk id :: k) s a w h hs
      refine wp_block (wp_mono this fun e a w he => ?_)
      cases e <;> exact he
    | region rid ops draw =>
      have h1 := ofRT_sat h
      obtain ⟨β, hs'⟩ := hs
      cases draw with
      | false =>
        refine wp_region ?_
        have := rgn_ok hB (Q := contOf P Q k) (R := fun s fp => (arun stdH Γ τ X.N n k ⟨s.env, s.heap, s.next⟩).sat P X Q) (ops := ops) (fun β s fp a w h hs => ?_) ops.toList 0 ⟨s.env, [], s.heap, s.next⟩ [] β a w (fun j => by simp) hs' ?_
        · rw [List.range_eq_range']; simpa using this
        · exact arun_ok hB hD n k _ a w h ⟨β, ⟨hs.env, by simp, by simp, hs.heap, hs.inj, hs.own, hs.frame, hs.size, hs.defers, hs.beta, hs.n0⟩⟩
        · exact h1
      | true =>
        refine hD X rid ops _ (fun s fp => (arun stdH Γ τ X.N n k ⟨s.env, s.heap, s.next⟩).sat P X Q) β ⟨s.env, [], s.heap, s.next⟩ a w (fun β s fp a w h hs => ?_) hs' rfl ?_
        · exact arun_ok hB hD n k _ a w h ⟨β, ⟨hs.env, by simp, by simp, hs.heap, hs.inj, hs.own, hs.frame, hs.size, hs.defers, hs.beta, hs.n0⟩⟩
        · refine RT.sat_mono (fun s fp hq => ?_) h1
          simp only [drawOk] at hq
          cases hc : chk ops.toList fp with
          | true => rw [hc] at hq; exact ⟨rfl, hq⟩
          | false => rw [hc] at hq; exact hq.elim
    | exit id =>
      refine wp_exit ?_
      simp only at h
      cases hk : toBlk id k with
      | some k' => rw [hk] at h; exact toBlk_some hk a w (arun_ok hB hD n k' s a w h hs)
      | none => rw [hk] at h; exact toBlk_none hk a w (h a w hs)
    | ret => exact wp_ret (cont_ret k a w (h a w hs))
    | loop b =>
      simp only at h
      cases hu : τ.u with
      | false => rw [hu] at h; exact h a w hs
      | true =>
        rw [hu] at h
        have := arun_ok hB hD n (.code b :: .lp b :: k) s a w h hs
        refine LoopWp.wp (.of (wp_mono this fun e a w he => ?_))
        cases e <;> exact he
    | _ => exact h.elim
end
end Go.Proofs.Ytpilblmncpeelaa.AM

namespace Go.Proofs.Ytpilblmncpeelaa.AM
/-- The names in a value are below a bound. -/
inductive Bl (n : Nat) : AV → Prop
  | lit {v : Value} : Bl n (.lit v)
  | ptr {i o : Nat} (h : i < n) : Bl n (.ptr i o)
  | elm {i k j o : Nat} (h : i < n) : Bl n (.elm i k j o)
  | slc {i o k m : Nat} (h : i < n) : Bl n (.slc i o k m)
  | vec {k m : Nat} {f : Nat → List AV} (h : ∀ j, j < m → ∀ x ∈ f j, Bl n x) : Bl n (.vec k m f)
  | ful {k m : Nat} {f : Nat → List AV} (h : ∀ j, j < m → ∀ x ∈ f j, Bl n x) : Bl n (.ful k m f)
  | num {m : Nat} : Bl n (.num m)
  | kb {b : Bool} : Bl n (.kb b)
  | er {b : Bool} : Bl n (.er b)
  | rptr {l : List AV} (h : ∀ x ∈ l, Bl n x) : Bl n (.rptr l)
  | agg {l : List AV} (h : ∀ x ∈ l, Bl n x) : Bl n (.agg l)
  | tup {l : List AV} (h : ∀ x ∈ l, Bl n x) : Bl n (.tup l)
  | fn {f : Fn} {l m : List AV} (h : ∀ x ∈ l, Bl n x) (h' : ∀ x ∈ m, Bl n x) : Bl n (.fn f l m)
theorem Bl.mono {n m : Nat} (hnm : n ≤ m) {x : AV} (h : Bl n x) : Bl m x := by
  induction h with
  | lit => exact .lit
  | ptr h => exact .ptr (Nat.lt_of_lt_of_le h hnm)
  | elm h => exact .elm (Nat.lt_of_lt_of_le h hnm)
  | slc h => exact .slc (Nat.lt_of_lt_of_le h hnm)
  | vec h ih => exact .vec ih
  | ful h ih => exact .ful ih
  | num => exact .num
  | kb => exact .kb
  | er => exact .er
  | rptr h ih => exact .rptr ih
  | agg h ih => exact .agg ih
  | tup h ih => exact .tup ih
  | fn h h' ih ih' => exact .fn ih ih'
theorem Rel.limit {C D : Cx} {m : Nat} {x : AV} {v : Value} (h : Rel C x v) (hb : Bl m x) (hβ : ∀ i, i < m → D.β i = C.β i) (hok : ∀ i, i < m → D.ok i) (how : ∀ k, D.ow k → C.ow k) (hw : D.w = C.w) : Rel D x v := by
  induction h with
  | lit h => exact .lit h
  | ptr h => cases hb with | ptr hi => rw [← hβ _ hi]; exact .ptr (hok _ hi)
  | elm h => cases hb with | elm hi => rw [← hβ _ hi]; exact .elm (hok _ hi)
  | slc h hn hm hc => cases hb with | slc hi => rw [← hβ _ hi] at hc ⊢; exact .slc (hok _ hi) hn hm (by rw [hw]; exact hc)
  | vec g hn hm hk hc h1 hr ih =>
    cases hb with
    | vec hv =>
      refine .vec g hn hm hk (fun h0 => ?_) h1 (fun j c x hj hx => ih j c x hj hx (hv j hj x (List.mem_of_getElem? hx)))
      obtain ⟨b, o, e, hb, hlt, hcell⟩ := hc h0
      exact ⟨b, o, e, fun h => hb (how b h), by rw [hw]; exact hlt, by rw [hw]; exact hcell⟩
  | ful h ih => cases hb with | ful hv => exact .ful (ih (.vec hv))
  | num => exact .num
  | kb => exact .kb
  | er h0 h1 h2 => exact .er h0 h1 h2
  | rptr g hb' hlt hc h1 hr ih =>
    cases hb with
    | rptr hv => exact .rptr g (fun h => hb' (how _ h)) (by rw [hw]; exact hlt) (by rw [hw]; exact hc) h1 (fun c x hx => ih c x hx (hv x (List.mem_of_getElem? hx)))
  | agg hl h1 hr ih => cases hb with | agg hv => exact .agg hl h1 (fun c x v hx hv' => ih c x v hx hv' (hv x (List.mem_of_getElem? hx)))
  | tup hl hr ih => cases hb with | tup hv => exact .tup hl (fun c x v hx hv' => ih c x v hx hv' (hv x (List.mem_of_getElem? hx)))
  | fn hl hm hr hq ih1 ih2 => cases hb with | fn ha hb => exact .fn hl hm (fun c x v hx hv' => ih1 c x v hx hv' (ha x (List.mem_of_getElem? hx))) (fun c x v hx hv' => ih2 c x v hx hv' (hb x (List.mem_of_getElem? hx)))
theorem blq_ok : ∀ (n : Nat) {x : AV} {m : Nat}, blq n x = true → Bl m x
  | 0, _, _, h => by simp [blq] at h
  | n + 1, x, m, h => by
    cases x <;> try (simp [blq] at h; done)
    case lit v => exact .lit
    case num v => exact .num
    case kb v => exact .kb
    case er v => exact .er
    case agg l => exact .agg fun x hx => blq_ok n (by simp only [blq] at h; exact List.all_eq_true.1 h x hx)
    case tup l => exact .tup fun x hx => blq_ok n (by simp only [blq] at h; exact List.all_eq_true.1 h x hx)
/-- The same of a block: of whatever lies in it. -/
def BlB (n : Nat) (b : Blk) : Prop := ∀ p x, b.at p = some x → Bl n x
theorem BRel.limit {C D : Cx} {m i : Nat} {b : Blk} (h : BRel C i b) (hb : BlB m b) (hi : D.β i = C.β i) (hβ : ∀ i, i < m → D.β i = C.β i) (hok : ∀ i, i < m → D.ok i) (how : ∀ k, D.ow k → C.ow k) (hw : D.w = C.w) : BRel D i b := by
  obtain ⟨c, h1, h2⟩ := h
  refine ⟨c, by rw [hw, hi]; exact h1, fun p x hx => ?_⟩
  obtain ⟨v, h3, h4, h5⟩ := h2 p x hx
  exact ⟨v, h3, h4, h5.limit (hb p x hx) hβ hok how hw⟩

/-! ### Results -/
def effV : Eff → Option AV
  | .mk (some v) [] _ [] [] => some v
  | _ => none
def resV (τ : Tab) (s : St) : ResultVar → Option AV
  | .tmp t => lk t s.env
  | .cell a T => (match lk a s.env with
    | some (.ptr i off) => effV (eLoad2 i off (lk T τ.l) (lk i s.heap))
    | _ => none)
def one : List AV → AV
  | [x] => x
  | l => .tup l
def fin (τ : Tab) (rs : List ResultVar) (s : St) : Option AV := match all? (rs.map (resV τ s)) with
  | some l => some (one l)
  | none => none
/-- How a run ends: with results and blocks; in a further round of the loop at the given depth; at a loop, behind which the stacks 'ctx' wait. -/
inductive Fin where
  | ret (v : Option AV) (h : Heap)
  | again (l : Nat) (s : St)
  | br (b : Bool) (x y : Fin)
  | need (p : List Prop) (x : Fin)
  | loop (c : Code) (ctx : List (List KI)) (s : St)
  | bad
def mapOut (f : Exit → St → Fin) (ctx : List (List KI)) : Out → Fin
  | .done e s => f e s
  | .br b x y => .br b (mapOut f ctx x) (mapOut f ctx y)
  | .need p x => .need p (mapOut f ctx x)
  | .loop c k s => .loop c (k :: ctx) s
  | .bad => .bad
def finish (H : Hold) (Γ : Cons) (τ : Tab) (N n : Nat) (rs : List ResultVar) : List (List KI) → Out → Fin
  | [] => mapOut (fun e s => match e with
    | .ret => .ret (fin τ rs s) s.heap
    | .normal => .ret (fin τ rs s) s.heap
    | _ => .bad) []
  | k :: ctx => mapOut (fun e s => match e with
    | .ret => .ret (fin τ rs s) s.heap
    | .normal => .again (ctx.length + 1) s
    | .exit id => (match toBlk id k with
      | some k' => finish H Γ τ N n rs ctx (arun H Γ τ N n k' s)
      | none => finish H Γ τ N n rs ctx (.done (.exit id) s))
    | _ => .bad) (k :: ctx)
/-- What a function must come to. -/
def Ends (X : Ctx) (τ : Tab) (rs : List ResultVar) (R : AV → Heap → Prop) (e : Exit) (a : Act) (w : World) : Prop := (e = .ret ∨ e = .normal) ∧ ∃ s, (∃ x, fin τ rs s = some x ∧ R x s.heap) ∧ Sat X s a w
/-- What is asked behind the stacks that wait. -/
def postS (P : Program) (X : Ctx) (τ : Tab) (rs : List ResultVar) (R : AV → Heap → Prop) (As : Nat → St → Prop) : List (List KI) → Exit → Act → World → Prop
  | [] => Ends X τ rs R
  | k :: ctx => fun e a w => match e with
    | .normal => ∃ s, As (ctx.length + 1) s ∧ Sat X s a w
    | e => contOf P (postS P X τ rs R As ctx) k e a w
def Fin.sat (P : Program) (X : Ctx) (τ : Tab) (rs : List ResultVar) (R : AV → Heap → Prop) (As : Nat → St → Prop) : Fin → Prop
  | .ret v h => ∃ x, v = some x ∧ R x h
  | .again l s => As l s
  | .br b x y => (b = true → x.sat P X τ rs R As) ∧ (b = false → y.sat P X τ rs R As)
  | .need p x => AllP p ∧ x.sat P X τ rs R As
  | .loop c ctx s => match ctx with
    | k :: ctx => ∀ a w, Sat X s a w → contOf P (postS P X τ rs R As ctx) (.code (.loop c) :: k) .normal a w
    | [] => False
  | .bad => False
theorem mapOut_sat {P : Program} {X : Ctx} {τ : Tab} {rs : List ResultVar} {R : AV → Heap → Prop} {As : Nat → St → Prop} {f : Exit → St → Fin} {ctx : List (List KI)} (hf : ∀ e s, (f e s).sat P X τ rs R As → ∀ a w, Sat X s a w → postS P X τ rs R As ctx e a w) :
    ∀ {o : Out}, (mapOut f ctx o).sat P X τ rs R As → o.sat P X (postS P X τ rs R As ctx)
  | .done e s, h => hf e s h
  | .br _ _ _, h => ⟨fun e => mapOut_sat hf (h.1 e), fun e => mapOut_sat hf (h.2 e)⟩
  | .need _ _, h => ⟨h.1, mapOut_sat hf h.2⟩
  | .loop _ _ _, h => h
  | .bad, h => h
theorem postS_ret {P : Program} {X : Ctx} {τ : Tab} {rs : List ResultVar} {R : AV → Heap → Prop} {As : Nat → St → Prop} {s : St} {a : Act} {w : World} (h : ∃ x, fin τ rs s = some x ∧ R x s.heap) (hs : Sat X s a w) : ∀ ctx, postS P X τ rs R As ctx .ret a w
  | [] => ⟨.inl rfl, s, h, hs⟩
  | k :: ctx => cont_ret k a w (postS_ret h hs ctx)
theorem finish_sat {P : Program} {Γ : Cons} {τ : Tab} {X : Ctx} {rs : List ResultVar} {R : AV → Heap → Prop} {As : Nat → St → Prop} {n : Nat} (hB : Base P Γ τ) (hD : DrawOk P Γ τ) :
    ∀ (ctx : List (List KI)) {o : Out}, (finish stdH Γ τ X.N n rs ctx o).sat P X τ rs R As → o.sat P X (postS P X τ rs R As ctx)
  | [], o, h => by
    refine mapOut_sat (fun e s hs a w hsat => ?_) h
    cases e <;> first | exact hs.elim | exact ⟨by simp, s, hs, hsat⟩
  | k :: ctx, o, h => by
    refine mapOut_sat (fun e s hs a w hsat => ?_) h
    cases e <;> try (exact hs.elim)
    case normal => exact ⟨s, hs, hsat⟩
    case ret => exact cont_ret k a w (postS_ret hs hsat ctx)
    case exit id =>
      dsimp only at hs
      show contOf P (postS P X τ rs R As ctx) k (.exit id) a w
      cases hk : toBlk id k with
      | some k' =>
        rw [hk] at hs
        exact toBlk_some hk a w (arun_ok hB hD n k' s a w (finish_sat hB hD ctx hs) hsat)
      | none =>
        rw [hk] at hs
        exact toBlk_none hk a w (finish_sat hB hD ctx hs a w hsat)
/-- A value x under t's names, y under s's; π leads from t's names, below m, to s's. -/
inductive Rn (π : Nat → Nat) (m : Nat) : AV → AV → Prop
  | same {q : Nat} {x : AV} (hπ : ∀ i, i < q → π i = i) (hq : q ≤ m) (h : Bl q x) : Rn π m x x
  | ptr {i o : Nat} (h : i < m) : Rn π m (.ptr i o) (.ptr (π i) o)
  | slc {i o k n : Nat} (h : i < m) : Rn π m (.slc i o k n) (.slc (π i) o k n)
  | num {n : Nat} {z : Int} (h : z = n) : Rn π m (.num n) (.lit (.int .i64 z))
  | fn {f : Fn} {a a' l l' : List AV} (ha : a.length = a'.length) (h0 : ∀ (c : Nat) (x y : AV), a[c]? = some x → a'[c]? = some y → Rn π m x y) (hl : l.length = l'.length) (h : ∀ (c : Nat) (x y : AV), l[c]? = some x → l'[c]? = some y → Rn π m x y) : Rn π m (.fn f a l) (.fn f a' l')
  | agg {l l' : List AV} (hl : l.length = l'.length) (h : ∀ (c : Nat) (x y : AV), l[c]? = some x → l'[c]? = some y → Rn π m x y) : Rn π m (.agg l) (.agg l')
  | vec {q k n : Nat} {f f' : Nat → List AV} (hπ : ∀ i, i < q → π i = i) (hq : q ≤ m) (h : Bl q (.vec k n f)) (he : ∀ j, j < n → f j = f' j) : Rn π m (.vec k n f) (.vec k n f')
  | ful {q k n : Nat} {f f' : Nat → List AV} (hπ : ∀ i, i < q → π i = i) (hq : q ≤ m) (h : Bl q (.vec k n f)) (he : ∀ j, j < n → f j = f' j) : Rn π m (.vec k n f) (.ful k n f')
  | rptr {l l' : List AV} (hl : l.length = l'.length) (h : ∀ (c : Nat) (x y : AV), l[c]? = some x → l'[c]? = some y → Rn π m x y) : Rn π m (.rptr l) (.rptr l')
theorem Rel.rows {C : Cx} {k n : Nat} {f f' : Nat → List AV} {v : Value} (h : Rel C (.vec k n f') v) (e : ∀ j, j < n → f j = f' j) : Rel C (.vec k n f) v := by
  cases h with
  | vec g hn hm hk hc h1 hr => exact .vec g hn hm (fun j hj => by rw [e j hj]; exact hk j hj) hc h1 (fun j c x hj hx => hr j c x hj (by rw [← e j hj]; exact hx))
theorem Rn.rel {C D : Cx} {π : Nat → Nat} {m : Nat} {x y : AV} (h : Rn π m x y) (hβ : ∀ i, i < m → D.β i = C.β (π i)) (hok : ∀ i, i < m → D.ok i) (how : ∀ k, D.ow k → C.ow k) (hw : D.w = C.w) : ∀ {v : Value}, Rel C y v → Rel D x v := by
  induction h with
  | same hπ hq h => intro v hy; exact hy.limit h (fun i hi => by rw [hβ i (Nat.lt_of_lt_of_le hi hq), hπ i hi]) (fun i hi => hok i (Nat.lt_of_lt_of_le hi hq)) how hw
  | ptr h => intro v hy; cases hy with | ptr h' => rw [← hβ _ h]; exact .ptr (hok _ h)
  | slc h => intro v hy; cases hy with | slc h' hn hm hc => rw [← hβ _ h] at hc ⊢; exact .slc (hok _ h) hn hm (by rw [hw]; exact hc)
  | num h => intro v hy; cases hy; subst h; exact .num
  | vec hπ hq h he => intro v hy; exact (hy.rows he).limit h (fun i hi => by rw [hβ i (Nat.lt_of_lt_of_le hi hq), hπ i hi]) (fun i hi => hok i (Nat.lt_of_lt_of_le hi hq)) how hw
  | ful hπ hq h he => intro v hy; cases hy with | ful hy => exact (hy.rows he).limit h (fun i hi => by rw [hβ i (Nat.lt_of_lt_of_le hi hq), hπ i hi]) (fun i hi => hok i (Nat.lt_of_lt_of_le hi hq)) how hw
  | rptr hl h ih =>
    intro v hy
    cases hy with
    | rptr g hb hlt hc h1 hr => exact .rptr g (fun h => hb (how _ h)) (by rw [hw]; exact hlt) (fun c hc' => by rw [hw]; exact hc c (by omega)) (fun c hc' => h1 c (by omega)) (fun c x hx => by
        have hc' := (List.getElem?_eq_some_iff.1 hx).1
        exact ih c x _ hx (List.getElem?_eq_getElem (by omega)) (hr c _ (List.getElem?_eq_getElem (by omega))))
  | fn ha h0 hl h ih0 ih =>
    intro v hy
    cases hy with
    | @fn _ _ _ vs us h1 h2 h3 h4 => exact .fn (h1.trans ha.symm) (h2.trans hl.symm) (fun c x v hx hv => by
        have hc := (List.getElem?_eq_some_iff.1 hx).1
        exact ih0 c x _ hx (List.getElem?_eq_getElem (ha ▸ hc)) (h3 c _ v (List.getElem?_eq_getElem (ha ▸ hc)) hv)) (fun c x v hx hv => by
        have hc := (List.getElem?_eq_some_iff.1 hx).1
        exact ih c x _ hx (List.getElem?_eq_getElem (hl ▸ hc)) (h4 c _ v (List.getElem?_eq_getElem (hl ▸ hc)) hv))
  | agg hl h ih =>
    intro v hy
    cases hy with
    | @agg _ vs h1 h2 h3 => exact .agg (h1.trans hl.symm) h2 (fun c x v hx hv => by
        have hc := (List.getElem?_eq_some_iff.1 hx).1
        exact ih c x _ hx (List.getElem?_eq_getElem (hl ▸ hc)) (h3 c _ v (List.getElem?_eq_getElem (hl ▸ hc)) hv))
def RnB (π : Nat → Nat) (m : Nat) (b b' : Blk) : Prop := (b.elem = b'.elem ∧ (b.dead = false → b'.dead = false)) ∧ ∀ p x, b.at p = some x → ∃ y, b'.at p = some y ∧ Rn π m x y
/-- The same, and more: an own slice may be seen as one that is only read from then on (where Z allows it). -/
inductive Rz (Z : Prop) (n0 : Nat) (hp : Heap) (π : Nat → Nat) (m : Nat) : AV → AV → Prop
  | rn {x y : AV} (h : Rn π m x y) : Rz Z n0 hp π m x y
  | knum {n : Nat} {z : Int} (h : z = n) : Rz Z n0 hp π m (.lit (.int .i64 z)) (.num n)
  | kkb {b : Bool} : Rz Z n0 hp π m (.lit (.bool b)) (.kb b)
  | nil {A : Option Addr} {k : Nat} {f : Nat → List AV} : Rz Z n0 hp π m (.vec k 0 f) (.lit (.slice A 0 0))
  | slc0 {i o k k' : Nat} {f : Nat → List AV} : Rz Z n0 hp π m (.vec k' 0 f) (.slc i o k 0)
  | slc {i o k n : Nat} {b : Blk} {f : Nat → List AV} (g : Nat → Nat → AV) (hz : Z) (hb : lk i hp = some b) (hd : b.dead = false) (hi : n0 ≤ i) (hne : ∀ j, j < m → π j ≠ i) (hl : ∀ j, j < n → (f j).length = k) (hg : ∀ j c, j < n → c < k → b.at (o + j * k + c) = some (g j c)) (hf : ∀ (j c : Nat) (y : AV), j < n → (f j)[c]? = some y → Rz Z n0 hp π m y (g j c)) : Rz Z n0 hp π m (.vec k n f) (.slc i o k n)
  | vec {k n : Nat} {f f' : Nat → List AV} (hl : ∀ j, j < n → (f j).length = (f' j).length) (h : ∀ (j c : Nat) (x y : AV), j < n → (f j)[c]? = some x → (f' j)[c]? = some y → Rz Z n0 hp π m x y) : Rz Z n0 hp π m (.vec k n f) (.vec k n f')
  | ful {k n : Nat} {f f' : Nat → List AV} (hl : ∀ j, j < n → (f j).length = (f' j).length) (h : ∀ (j c : Nat) (x y : AV), j < n → (f j)[c]? = some x → (f' j)[c]? = some y → Rz Z n0 hp π m x y) : Rz Z n0 hp π m (.vec k n f) (.ful k n f')
  | fulf {k n : Nat} {f f' : Nat → List AV} (hl : ∀ j, j < n → (f j).length = (f' j).length) (h : ∀ (j c : Nat) (x y : AV), j < n → (f j)[c]? = some x → (f' j)[c]? = some y → Rz Z n0 hp π m x y) : Rz Z n0 hp π m (.ful k n f) (.ful k n f')
  | ful0 {k k' : Nat} {f f' : Nat → List AV} : Rz Z n0 hp π m (.vec k' 0 f) (.ful k 0 f')
  | tup {l l' : List AV} (hl : l.length = l'.length) (h : ∀ (c : Nat) (x y : AV), l[c]? = some x → l'[c]? = some y → Rz Z n0 hp π m x y) : Rz Z n0 hp π m (.tup l) (.tup l')
  | agg {l l' : List AV} (hl : l.length = l'.length) (h : ∀ (c : Nat) (x y : AV), l[c]? = some x → l'[c]? = some y → Rz Z n0 hp π m x y) : Rz Z n0 hp π m (.agg l) (.agg l')
theorem Rel.vecR {C D : Cx} {k n : Nat} {f f' : Nat → List AV} {v : Value} (h : Rel C (.vec k n f') v) (how : ∀ k, D.ow k → C.ow k) (hw : D.w = C.w) (hl : ∀ j, j < n → (f j).length = (f' j).length) (hr : ∀ (j c : Nat) (x y : AV), j < n → (f j)[c]? = some x → (f' j)[c]? = some y → ∀ v, Rel C y v → Rel D x v) : Rel D (.vec k n f) v := by
  cases h with
  | vec g hn hm hk hc h1 hr' =>
    refine .vec g hn hm (fun j hj => by rw [hl j hj]; exact hk j hj) (fun h0 => ?_) h1 (fun j c x hj hx => ?_)
    · obtain ⟨b, o, e, hb, hlt, hcell⟩ := hc h0
      exact ⟨b, o, e, fun h => hb (how _ h), by rw [hw]; exact hlt, by rw [hw]; exact hcell⟩
    · have hc' : c < (f' j).length := by rw [← hl j hj]; exact (List.getElem?_eq_some_iff.1 hx).1
      exact hr j c x _ hj hx (List.getElem?_eq_getElem hc') _ (hr' j c _ hj (List.getElem?_eq_getElem hc'))
theorem Rz.rel {C D : Cx} {Z : Prop} {n0 : Nat} {hp : Heap} {π : Nat → Nat} {m : Nat} {x y : AV} (h : Rz Z n0 hp π m x y) (hβ : ∀ i, i < m → D.β i = C.β (π i)) (hok : ∀ i, i < m → D.ok i) (how : ∀ k, D.ow k → C.ow k) (hw : D.w = C.w)
    (hh : Z → ∀ i b, lk i hp = some b → b.dead = false → n0 ≤ i → (∀ j, j < m → π j ≠ i) → BRel C i b ∧ ¬ D.ow (C.β i)) : ∀ {v : Value}, Rel C y v → Rel D x v := by
  induction h with
  | rn h => intro v hy; exact h.rel hβ hok how hw hy
  | knum h => intro v hy; cases hy; subst h; exact .lit rfl
  | kkb => intro v hy; cases hy; exact .lit rfl
  | nil => intro v hx; cases hx; exact .vec (fun _ _ => undef) (Nat.le_refl _) (Nat.zero_le _) (by omega) (by omega) (by omega) (by omega)
  | slc0 => intro v hx; cases hx with | slc h1 h2 h3 h4 => exact .vec (fun _ _ => undef) h2 h3 (by omega) (by omega) (by omega) (by omega)
  | ful0 => intro v hx; cases hx with | ful hx => cases hx with | vec g hn hm hk hc h1 hr' => exact .vec (fun _ _ => undef) hn hm (by omega) (by omega) (by omega) (by omega)
  | @slc i o k n b f g hz hb hd hi hne hl hg hf ih =>
    intro v hx
    cases hx with
    | @slc _ _ _ _ cap h1 h2 h3 h4 =>
    obtain ⟨c, T, h5, h6⟩ := h4
    obtain ⟨⟨c', h7, h8⟩, h9⟩ := hh hz i b hb hd hi hne
    have e : c' = c := by rw [h5] at h7; injection h7 with h7; injection h7 with h7; exact h7.symm
    subst e
    have hlt : C.β i < D.w.heap.size := by rw [hw]; exact (Array.getElem?_eq_some_iff.1 h5).1
    refine .vec (fun j q => c'.getD (o + j * k + q) undef) h2 h3 hl (fun h0 => ⟨_, o, by rw [if_neg (by omega)], h9, hlt, fun j q hj hq => ?_⟩) (fun j q hj hq => ?_) (fun j q y hj hy => ?_)
    · obtain ⟨u, hu, _⟩ := h8 _ _ (hg j q hj hq)
      rw [hw, cell_of_row C.w (C.β i) _ c' T (0, 0) h5, Array.getD_eq_getD_getElem?, hu]; rfl
    · obtain ⟨u, hu, hu1, _⟩ := h8 _ _ (hg j q hj hq)
      rw [Array.getD_eq_getD_getElem?, hu]; exact hu1
    · have hq : q < k := by rw [← hl j hj]; exact (List.getElem?_eq_some_iff.1 hy).1
      obtain ⟨u, hu, _, hu2⟩ := h8 _ _ (hg j q hj hq)
      have : c'.getD (o + j * k + q) undef = u := by rw [Array.getD_eq_getD_getElem?, hu]; rfl
      rw [this]
      exact ih j q y hj hy hu2
  | vec hl h ih => intro v hx; exact hx.vecR how hw hl fun j c x y hj hx hy v => ih j c x y hj hx hy
  | ful hl h ih => intro v hx; cases hx with | ful hx => exact hx.vecR how hw hl fun j c x y hj hx hy v => ih j c x y hj hx hy
  | fulf hl h ih => intro v hx; cases hx with | ful hx => exact .ful (hx.vecR how hw hl fun j c x y hj hx hy v => ih j c x y hj hx hy)
  | @tup l l' hl h ih =>
    intro v hx
    cases hx with
    | tup h1 h2 =>
    refine .tup (h1.trans hl.symm) fun c y u hy hu => ?_
    have hc : c < l'.length := by rw [← hl]; exact (List.getElem?_eq_some_iff.1 hy).1
    exact ih c y l'[c] hy (List.getElem?_eq_getElem hc) (h2 c _ u (List.getElem?_eq_getElem hc) hu)
  | @agg l l' hl h ih =>
    intro v hx
    cases hx with
    | agg h1 h3 h2 =>
    refine .agg (h1.trans hl.symm) h3 fun c y u hy hu => ?_
    have hc : c < l'.length := by rw [← hl]; exact (List.getElem?_eq_some_iff.1 hy).1
    exact ih c y l'[c] hy (List.getElem?_eq_getElem hc) (h2 c _ u (List.getElem?_eq_getElem hc) hu)
def RzB (Z : Prop) (n0 : Nat) (hp : Heap) (π : Nat → Nat) (m : Nat) (b b' : Blk) : Prop := (b.elem = b'.elem ∧ (b.dead = false → b'.dead = false)) ∧ ∀ p x, b.at p = some x → ∃ y, b'.at p = some y ∧ Rz Z n0 hp π m x y
theorem RnB.z {Z : Prop} {n0 : Nat} {hp : Heap} {π : Nat → Nat} {m : Nat} {b b' : Blk} (h : RnB π m b b') : RzB Z n0 hp π m b b' := ⟨h.1, fun p x hx => (h.2 p x hx).imp fun _ h => ⟨h.1, .rn h.2⟩⟩
theorem RzB.brel {C D : Cx} {Z : Prop} {n0 : Nat} {hp : Heap} {π : Nat → Nat} {m i i' : Nat} {b b' : Blk} (h : RzB Z n0 hp π m b b') (hi : D.β i = C.β i') (hβ : ∀ i, i < m → D.β i = C.β (π i)) (hok : ∀ i, i < m → D.ok i) (how : ∀ k, D.ow k → C.ow k) (hw : D.w = C.w)
    (hh : Z → ∀ i b, lk i hp = some b → b.dead = false → n0 ≤ i → (∀ j, j < m → π j ≠ i) → BRel C i b ∧ ¬ D.ow (C.β i)) (hb : BRel C i' b') : BRel D i b := by
  obtain ⟨⟨h3, _⟩, h4⟩ := h
  obtain ⟨c, h5, h6⟩ := hb
  refine ⟨c, by rw [hw, hi, h3]; exact h5, fun p x hx => ?_⟩
  obtain ⟨y, h7, h8⟩ := h4 p x hx
  obtain ⟨v, h9, h10, h11⟩ := h6 p y h7
  exact ⟨v, h9, h10, h8.rel hβ hok how hw hh h11⟩
/-- When own slices may be let go: no name of t is dead, and the blocks that the call was lent are all there. -/
def ZOk (n0 : Nat) (t : St) : Prop := (∀ i b, lk i t.heap = some b → b.dead = false) ∧ ∀ i, i < n0 → ∃ b, lk i t.heap = some b
/-- 's' knows all that 't' knows, under other names; t names nothing beyond its own names. -/
structure StLeP (π : Nat → Nat) (n0 : Nat) (t s : St) : Prop where
  env : ∀ k x, lk k t.env = some x → ∃ y, lk k s.env = some y ∧ Rz (ZOk n0 t) n0 s.heap π t.next x y
  heap : ∀ i b, lk i t.heap = some b → i < t.next ∧ ∃ b', lk (π i) s.heap = some b' ∧ RzB (ZOk n0 t) n0 s.heap π t.next b b'
  fix : ∀ i, i < n0 → π i = i
  inj : ∀ i j, i < t.next → j < t.next → π i = π j → i = j
  n0 : n0 ≤ t.next
def StLe (n0 : Nat) (t s : St) : Prop := ∃ π, StLeP π n0 t s
theorem Sat.le {X : Ctx} {t s : St} {a : Act} {w : World} (h : StLe X.n0 t s) (hs : Sat X s a w) : Sat X t a w := by
  obtain ⟨β, hs⟩ := hs
  obtain ⟨π, h⟩ := h
  have how : ∀ k, (cxOf X (fun i => β (π i)) t.heap t.next w).ow k → (cxOf X β s.heap s.next w).ow k := by
    rintro k (⟨i, b, hb, rfl⟩ | h0)
    · obtain ⟨_, b', hb', _⟩ := h.heap i b hb
      exact .inl ⟨π i, b', hb', rfl⟩
    · exact .inr h0
  have hh : ZOk X.n0 t → ∀ i b, lk i s.heap = some b → b.dead = false → X.n0 ≤ i → (∀ j, j < t.next → π j ≠ i) → BRel (cxOf X β s.heap s.next w) i b ∧ ¬ (cxOf X (fun i => β (π i)) t.heap t.next w).ow ((cxOf X β s.heap s.next w).β i) := by
    rintro ⟨z1, z2⟩ i b hb hd hi hne
    refine ⟨(hs.heap i b hb).1, ?_⟩
    rintro (⟨j, bt, hj, e⟩ | h0)
    · obtain ⟨hlt, b', hb', ⟨_, hdd⟩, _⟩ := h.heap j bt hj
      exact hne j hlt (hs.inj (π j) i b' b hb' hb (hdd (z1 j bt hj)) hd e)
    · rcases hs.own i b hb with ho | hge
      · obtain ⟨i0, hi0, e⟩ := X.ownK _ ho
        obtain ⟨bt, hbt⟩ := z2 i0 hi0
        obtain ⟨hlt, b', hb', ⟨_, hdd⟩, _⟩ := h.heap i0 bt hbt
        rw [h.fix i0 hi0] at hb'
        have := hs.inj i0 i b' b hb' hb (hdd (z1 i0 bt hbt)) hd ((hs.beta i0 hi0).trans e)
        omega
      · exact Nat.lt_irrefl _ (Nat.lt_of_lt_of_le (X.ow0lt _ h0) hge)
  have rel : ∀ x y v, Rz (ZOk X.n0 t) X.n0 s.heap π t.next x y → Rel (cxOf X β s.heap s.next w) y v → Rel (cxOf X (fun i => β (π i)) t.heap t.next w) x v := fun x y v hr hy => hr.rel (fun _ _ => rfl) (fun i hi => hi) how rfl hh hy
  refine ⟨fun i => β (π i), ⟨fun k x hx => ?_, by simp, by simp, fun i b hb => ?_, fun i j bi bj hi hj hdi hdj he => ?_, fun i b hb => ?_, hs.frame, hs.size, hs.defers, fun i hi => by rw [h.fix i hi]; exact hs.beta i hi, h.n0⟩⟩
  · obtain ⟨y, h1, h2⟩ := h.env k x hx
    obtain ⟨v, h3, h4⟩ := hs.env k y h1
    exact ⟨v, h3, rel x y v h2 h4⟩
  · obtain ⟨h1, b', h2, h3⟩ := h.heap i b hb
    exact ⟨h3.brel (C := cxOf X β s.heap s.next w) (i' := π i) rfl (fun _ _ => rfl) (fun i hi => hi) how rfl hh (hs.heap (π i) b' h2).1, h1⟩
  · obtain ⟨a1, b1, a2, ⟨_, a3⟩, _⟩ := h.heap i bi hi
    obtain ⟨c1, b2, c2, ⟨_, c3⟩, _⟩ := h.heap j bj hj
    exact h.inj i j a1 c1 (hs.inj (π i) (π j) b1 b2 a2 c2 (a3 hdi) (c3 hdj) he)
  · obtain ⟨_, b', h2, _⟩ := h.heap i b hb
    exact hs.own (π i) b' h2
def upd (As : Nat → St → Prop) (l : Nat) (A : St → Prop) : Nat → St → Prop := fun m => if m = l then A else As m
theorem postS_upd {P : Program} {X : Ctx} {τ : Tab} {rs : List ResultVar} {R : AV → Heap → Prop} {As : Nat → St → Prop} {A : St → Prop} {l : Nat} : ∀ (ctx : List (List KI)), ctx.length < l → postS P X τ rs R (upd As l A) ctx = postS P X τ rs R As ctx
  | [], _ => rfl
  | k :: ctx, h => by
    simp only [List.length_cons] at h
    unfold postS
    rw [postS_upd ctx (by omega)]
    funext e a w
    cases e <;> simp only
    · have : ¬ ctx.length + 1 = l := by omega
      simp [upd, this]
section
variable {P : Program} {Γ : Cons} {τ : Tab} {X : Ctx}
theorem run_loadVar_cells {T : Nat} {i : TI} (hT : TGood P T i) (w : World) (b off : Nat) (vs : List Value) (hl : vs.length = i.size) (hc : w.rangeAt b off vs) {C : Cx} {x : AV} {l : List AV} (hlr : LRel C l vs) (h1 : ∀ v ∈ vs, v.oneCell' = true) (hx : mk i.agg l = some x) :
    ∃ cv, (loadVar T ⟨b, off, none⟩).run P w = .ok cv w ∧ Rel C x cv := by
  obtain ⟨cv, h1, h2⟩ := run_load_cells hT w b off vs hl hc hlr h1 hx
  exact ⟨cv, by simpa [Instr.loadAt, Instr.sureAddr] using h1, h2⟩
def resRun (a : Act) : ResultVar → Sem Value
  | .tmp t => pure (a.tmps.getD t undef)
  | .cell b t => do loadVar t (← asAddr (a.tmps.getD b undef))
theorem resV_ok (hB : TabOk P τ) {β : Nat → Nat} {s : St} {a : Act} {w : World} (hs : SatR X β ⟨s.env, [], s.heap, s.next⟩ a w) {r : ResultVar} {x : AV} (h : resV τ s r = some x) :
    ∃ cv, (resRun a r).run P w = .ok cv w ∧ Rel (cxOf X β s.heap s.next w) x cv := by
  cases r with
  | tmp t =>
    obtain ⟨v, h1, h2⟩ := hs.env t x h
    exact ⟨v, by simp [resRun, Array.getD_eq_getD_getElem?, h1], h2⟩
  | cell b T =>
    simp only [resV] at h
    cases hp : lk b s.env with
    | none => simp [hp] at h
    | some p =>
      cases p <;> try (simp [hp] at h; done)
      case ptr i off =>
        cases hT : lk T τ.l with
        | none => simp [hp, hT, eLoad2, effV] at h
        | some t =>
          cases hb : lk i s.heap with
          | none => simp [hp, hT, hb, eLoad2, effV] at h
          | some bl =>
            cases bl with
            | rows k m f E => simp [hp, hT, hb, eLoad2, effV] at h
            | cells l E =>
              simp only [hp, hT, hb, eLoad2] at h
              cases hm : Nat.ble (off + t.size) l.length with
              | false => simp [hm, effV] at h
              | true =>
                simp only [hm, cond_true] at h
                cases hv : mk t.agg ((l.drop off).take t.size) with
                | none => simp [hv, eLoadV, effV] at h
                | some y =>
                  simp only [hv, eLoadV, effV, Option.some.injEq] at h
                  subst h
                  obtain ⟨v, h1, h2⟩ := hs.env b _ hp
                  obtain ⟨vs, g1, g2, g3, g4⟩ := brel_range (hs.heap i _ hb).1 (Nat.le_of_ble_eq_true hm)
                  obtain ⟨cv, g5, g6⟩ := run_loadVar_cells (hB T t hT) w (β i) off vs g1 g2 g3 g4 hv
                  refine ⟨cv, ?_, g6⟩
                  have hvp := h2.ptr_inv.1
                  simp [resRun, Array.getD_eq_getD_getElem?, h1, hvp, asAddr]
                  exact g5
theorem resL_ok (hB : TabOk P τ) {β : Nat → Nat} {s : St} {a : Act} {w : World} (hs : SatR X β ⟨s.env, [], s.heap, s.next⟩ a w) : ∀ {rs : List ResultVar} {l : List AV}, all? (rs.map (resV τ s)) = some l →
    ∃ vs, (rs.mapM (resRun a)).run P w = .ok vs w ∧ LRel (cxOf X β s.heap s.next w) l vs
  | [], l, h => by simp [all?] at h; subst h; exact ⟨[], rfl, .nil _⟩
  | r :: rs, l, h => by
    simp only [List.map_cons] at h
    cases hr : resV τ s r with
    | none => simp [hr, all?] at h
    | some x =>
      simp only [hr, all?] at h
      cases hl : all? (rs.map (resV τ s)) with
      | none => simp [hl] at h
      | some l' =>
        simp only [hl, Option.some.injEq] at h
        subst h
        obtain ⟨cv, h1, h2⟩ := resV_ok hB hs hr
        obtain ⟨vs, h3, h4⟩ := resL_ok hB hs hl
        refine ⟨cv :: vs, ?_, .cons h2 h4⟩
        rw [List.mapM_cons, Sem.run_bind, h1, Result.andThen_ok, Sem.run_bind, h3, Result.andThen_ok]
        rfl
theorem results_ok (hB : TabOk P τ) {β : Nat → Nat} {s : St} {a : Act} {w : World} (hs : SatR X β ⟨s.env, [], s.heap, s.next⟩ a w) {fn : Func} {x : AV} (h : fin τ fn.results.toList s = some x) :
    ∃ cv, (results fn a.tmps).run P w = .ok cv w ∧ Rel (cxOf X β s.heap s.next w) x cv := by
  unfold fin at h
  cases hl : all? (fn.results.toList.map (resV τ s)) with
  | none => simp [hl] at h
  | some l =>
    simp only [hl, Option.some.injEq] at h
    subst h
    obtain ⟨vs, h1, h2⟩ := resL_ok hB hs hl
    have hf : (fun r : ResultVar => (match r with | .tmp t => (pure (a.tmps.getD t undef) : Sem Value) | .cell b t => do loadVar t (← asAddr (a.tmps.getD b undef)))) = resRun a := by funext r; cases r <;> rfl
    have hm : (fn.results.mapM (resRun a)).run P w = .ok vs.toArray w := by
      rw [Array.mapM_eq_mapM_toList]
      simp [h1]
    have hr : (results fn a.tmps).run P w = .ok (if h : vs.toArray.size = 1 then vs.toArray[0] else .tuple vs.toArray) w := by
      have : results fn a.tmps = (do let vs ← fn.results.mapM (resRun a); pure (if h : vs.size = 1 then vs[0] else .tuple vs)) := by
        unfold results
        congr 1
      rw [this, Sem.run_bind, hm, Result.andThen_ok]; rfl
    refine ⟨_, hr, ?_⟩
    match l, vs, h2 with
    | [], [], h2 => exact .tup h2.1 h2.2
    | [x], [v], h2 => simpa [one] using h2.2 0 x v rfl rfl
    | x :: y :: l, vs, h2 =>
      have := h2.1
      simp only [List.length_cons] at this
      rw [dif_neg (by simp; omega)]
      exact .tup h2.1 h2.2
    | [], _ :: _, h2 => have := h2.1; simp at this
    | [x], [], h2 => have := h2.1; simp at this
    | [x], _ :: _ :: _, h2 => have := h2.1; simp at this
def envOf : Nat → List AV → Env
  | _, [] => []
  | n, x :: r => (n, x) :: envOf (n + 1) r
theorem lk_envOf : ∀ (l : List AV) (n t : Nat) (x : AV), lk t (envOf n l) = some x → n ≤ t ∧ l[t - n]? = some x
  | [], n, t, x, h => by simp [envOf, lk] at h
  | y :: l, n, t, x, h => by
    simp only [envOf, lk_cons] at h
    by_cases hn : n = t
    · rw [if_pos hn] at h; subst hn; simp at h; subst h; simp
    · rw [if_neg hn] at h
      obtain ⟨h1, h2⟩ := lk_envOf l (n + 1) t x h
      exact ⟨by omega, by rw [show t - n = (t - (n + 1)) + 1 by omega]; simpa using h2⟩
/-- What a function hands out: its own slices are only read from then on. -/
inductive Frz (n0 : Nat) (hp : Heap) : AV → AV → Prop
  | refl {x : AV} : Frz n0 hp x x
  | nil {A : Option Addr} {k : Nat} {f : Nat → List AV} : Frz n0 hp (.lit (.slice A 0 0)) (.vec k 0 f)
  | slc0 {i o k k' : Nat} {f : Nat → List AV} : Frz n0 hp (.slc i o k 0) (.vec k' 0 f)
  | slc {i o k n : Nat} {b : Blk} {f : Nat → List AV} (g : Nat → Nat → AV) (hb : lk i hp = some b) (hd : b.dead = false) (hi : n0 ≤ i) (hl : ∀ j, j < n → (f j).length = k) (hg : ∀ j c, j < n → c < k → b.at (o + j * k + c) = some (g j c)) (hf : ∀ (j c : Nat) (y : AV), j < n → (f j)[c]? = some y → Frz n0 hp (g j c) y) : Frz n0 hp (.slc i o k n) (.vec k n f)
  | vec {k n : Nat} {f f' : Nat → List AV} (h : ∀ j, j < n → f j = f' j) : Frz n0 hp (.vec k n f) (.vec k n f')
  | ful {k n : Nat} {f f' : Nat → List AV} (h : ∀ j, j < n → f j = f' j) : Frz n0 hp (.ful k n f) (.vec k n f')
  | ful0 {k k' : Nat} {f f' : Nat → List AV} : Frz n0 hp (.ful k 0 f) (.vec k' 0 f')
  | fulf {k n : Nat} {f f' : Nat → List AV} (h : ∀ j, j < n → f j = f' j) : Frz n0 hp (.ful k n f) (.ful k n f')
  | tup {l l' : List AV} (hl : l.length = l'.length) (h : ∀ (c : Nat) (x y : AV), l[c]? = some x → l'[c]? = some y → Frz n0 hp x y) : Frz n0 hp (.tup l) (.tup l')
  | agg {l l' : List AV} (hl : l.length = l'.length) (h : ∀ (c : Nat) (x y : AV), l[c]? = some x → l'[c]? = some y → Frz n0 hp x y) : Frz n0 hp (.agg l) (.agg l')
theorem Frz.rel {C D : Cx} {n0 : Nat} {hp : Heap} {x r : AV} (h : Frz n0 hp x r) (hr : Bl 0 r) (how : ∀ k, D.ow k → C.ow k) (hw : D.w = C.w) (hh : ∀ i b, lk i hp = some b → b.dead = false → n0 ≤ i → BRel C i b ∧ ¬ D.ow (C.β i)) :
    ∀ {v : Value}, Rel C x v → Rel D r v := by
  induction h with
  | refl => intro v hx; exact hx.limit hr (fun i hi => by omega) (fun i hi => by omega) how hw
  | nil => intro v hx; cases hx; exact .vec (fun _ _ => undef) (Nat.le_refl _) (Nat.zero_le _) (by omega) (by omega) (by omega) (by omega)
  | slc0 => intro v hx; cases hx with | slc h1 h2 h3 h4 => exact .vec (fun _ _ => undef) h2 h3 (by omega) (by omega) (by omega) (by omega)
  | @slc i o k n b f g hb hd hi hl hg hf ih =>
    intro v hx
    cases hr with
    | vec hv =>
    cases hx with
    | @slc _ _ _ _ cap h1 h2 h3 h4 =>
    obtain ⟨c, T, h5, h6⟩ := h4
    obtain ⟨⟨c', h7, h8⟩, h9⟩ := hh i b hb hd hi
    have e : c' = c := by rw [h5] at h7; injection h7 with h7; injection h7 with h7; exact h7.symm
    subst e
    have hlt : C.β i < D.w.heap.size := by rw [hw]; exact (Array.getElem?_eq_some_iff.1 h5).1
    refine .vec (fun j q => c'.getD (o + j * k + q) undef) h2 h3 hl (fun h0 => ⟨_, o, by rw [if_neg (by omega)], h9, hlt, fun j q hj hq => ?_⟩) (fun j q hj hq => ?_) (fun j q y hj hy => ?_)
    · obtain ⟨u, hu, _⟩ := h8 _ _ (hg j q hj hq)
      rw [hw, cell_of_row C.w (C.β i) _ c' T (0, 0) h5, Array.getD_eq_getD_getElem?, hu]; rfl
    · obtain ⟨u, hu, hu1, _⟩ := h8 _ _ (hg j q hj hq)
      rw [Array.getD_eq_getD_getElem?, hu]; exact hu1
    · have hq : q < k := by rw [← hl j hj]; exact (List.getElem?_eq_some_iff.1 hy).1
      obtain ⟨u, hu, _, hu2⟩ := h8 _ _ (hg j q hj hq)
      have : c'.getD (o + j * k + q) undef = u := by rw [Array.getD_eq_getD_getElem?, hu]; rfl
      rw [this]
      exact ih j q y hj hy (hv j hj y (List.mem_of_getElem? hy)) hu2
  | @vec k n f f' h =>
    intro v hx
    have hx' := hx
    refine Rel.limit ?_ hr (fun i hi => by omega) (fun i hi => by omega) how hw
    cases hx with
    | vec g hn hm hk hc h1 hr' => exact .vec g hn hm (fun j hj => by rw [← h j hj]; exact hk j hj) hc h1 (fun j c x hj hx => hr' j c x hj (by rw [h j hj]; exact hx))
  | @ful k n f f' h =>
    intro v hx
    refine Rel.limit ?_ hr (fun i hi => by omega) (fun i hi => by omega) how hw
    cases hx with
    | ful hx =>
    cases hx with
    | vec g hn hm hk hc h1 hr' => exact .vec g hn hm (fun j hj => by rw [← h j hj]; exact hk j hj) hc h1 (fun j c x hj hx => hr' j c x hj (by rw [h j hj]; exact hx))
  | ful0 => intro v hx; cases hx with | ful hx => cases hx with | vec g hn hm hk hc h1 hr' => exact .vec (fun _ _ => undef) hn hm (by omega) (by omega) (by omega) (by omega)
  | @fulf k n f f' h =>
    intro v hx
    refine Rel.limit ?_ hr (fun i hi => by omega) (fun i hi => by omega) how hw
    cases hx with
    | ful hx =>
    cases hx with
    | vec g hn hm hk hc h1 hr' => exact .ful (.vec g hn hm (fun j hj => by rw [← h j hj]; exact hk j hj) hc h1 (fun j c x hj hx => hr' j c x hj (by rw [h j hj]; exact hx)))
  | @tup l l' hl h ih =>
    intro v hx
    cases hr with
    | tup hv =>
    cases hx with
    | tup h1 h2 =>
    refine .tup (h1.trans hl) fun c y u hy hu => ?_
    have hc : c < l.length := by rw [hl]; exact (List.getElem?_eq_some_iff.1 hy).1
    exact ih c l[c] y (List.getElem?_eq_getElem hc) hy (hv y (List.mem_of_getElem? hy)) (h2 c _ u (List.getElem?_eq_getElem hc) hu)
  | @agg l l' hl h ih =>
    intro v hx
    cases hr with
    | agg hv =>
    cases hx with
    | agg h1 h3 h2 =>
    refine .agg (h1.trans hl) h3 fun c y u hy hu => ?_
    have hc : c < l.length := by rw [hl]; exact (List.getElem?_eq_some_iff.1 hy).1
    exact ih c l[c] y (List.getElem?_eq_getElem hc) hy (hv y (List.mem_of_getElem? hy)) (h2 c _ u (List.getElem?_eq_getElem hc) hu)
def bodyOf (fn : Func) : Code := fn.body.getD .skip
/-- A function's contract, from the machine's run of its body. -/
theorem con_okN (hB : Base P Γ τ) (hD : DrawOk P Γ τ) {f : FuncId} {fn : Func} {N : Nat} (hf : P.funcs[f]? = some fn) (hb0 : fn.body.isSome = true) (hN : fn.ntmps = N) (args : List AV) (h : Heap) (n0 : Nat) (r : AV) (u : Heap) (fuel : Nat)
    (hlen : args.length ≤ N) (hargs : ∀ x ∈ args, Bl n0 x) (hblk : ∀ i b, lk i h = some b → i < n0 ∧ BlB n0 b ∧ ∃ b', (i, b') ∈ u) (hr : Bl 0 r) (hu : ∀ i b, (i, b) ∈ u → (BlB 0 b ∧ b.dead = false) ∧ ∃ b', lk i h = some b')
    (hrun : ∀ (X : Ctx), X.N = N → X.n0 = n0 → ∀ (H : Hold), H = stdH → (finish H Γ τ N fuel fn.results.toList [] (arun H Γ τ N fuel [.code (bodyOf fn)] ⟨envOf 0 args, h, n0⟩)).sat P X τ fn.results.toList (fun x hp => Frz n0 hp x r ∧ ∀ i b, (i, b) ∈ u → lk i hp = some b) (fun _ _ => False)) : Con P f args h r u := by
  intro C vs hl hh hinj hlt
  have hb : fn.body = some (bodyOf fn) := by unfold bodyOf; cases h0 : fn.body with | none => rw [h0] at hb0; cases hb0 | some c => rfl
  let X : Ctx := { w := C.w, own := fun k => ∃ i b, lk i h = some b ∧ C.β i = k, ow0 := C.ow, glo := hlt, ownO := fun k ⟨i, b, hi, hk⟩ => hk ▸ (hh i b hi).2.2, β0 := C.β, n0 := n0, N := N, ownK := fun k ⟨i, b, hi, hk⟩ => ⟨i, (hblk i b hi).1, hk⟩ }
  have hvl : vs.length = args.length := hl.1
  refine calls_of_wp hf hb ?_
  have hcx : ∀ k, (cxOf X C.β h n0 C.w).ow k → C.ow k := by
    rintro k (⟨i, b, hi, rfl⟩ | h0)
    · exact (hh i b hi).2.2
    · exact h0
  have hs : Sat X ⟨envOf 0 args, h, n0⟩ { tmps := vs.toArray ++ Array.replicate (fn.ntmps - vs.toArray.size) undef, defers := [] } C.w := by
    refine ⟨C.β, ⟨fun t x hx => ?_, by simp, by simp, fun i b hi => ?_, hinj, fun i b hi => .inl ⟨i, b, hi, rfl⟩, .refl _ _, ?_, rfl, fun _ _ => rfl, Nat.le_refl _⟩⟩
    · obtain ⟨_, hx⟩ := lk_envOf args 0 t x hx
      simp only [Nat.sub_zero] at hx
      obtain ⟨v, hv, hrel⟩ := hl.get hx
      have htl : t < vs.length := (List.getElem?_eq_some_iff.1 hv).1
      refine ⟨v, ?_, hrel.limit (hargs x (List.mem_of_getElem? hx)) (fun _ _ => rfl) (fun i hi => hi) hcx rfl⟩
      rw [Array.getElem?_append_left (by simpa using htl)]; simpa using hv
    · obtain ⟨h1, h2, _⟩ := hblk i b hi
      exact ⟨(hh i b hi).1.limit h2 rfl (fun _ _ => rfl) (fun i hi => hi) hcx rfl, h1⟩
    · show (vs.toArray ++ Array.replicate (fn.ntmps - vs.toArray.size) undef).size = N
      simp; omega
  have hX : X.N = N := rfl
  have hgo := arun_ok hB hD fuel [.code (bodyOf fn)] ⟨envOf 0 args, h, n0⟩ _ C.w (finish_sat hB hD [] (hrun X hX rfl stdH rfl)) hs
  refine wp_mono hgo fun e a w' he => ?_
  have main : ∀ (s : St), (∃ x, fin τ fn.results.toList s = some x ∧ Frz n0 s.heap x r ∧ ∀ i b, (i, b) ∈ u → lk i s.heap = some b) → Sat X s a w' → a.defers = [] ∧ ∃ v, (results fn a.tmps).run P w' = .ok v w' ∧ ∃ cv, Ending.returned v = .returned cv ∧ Leaves C 0 (some r) [] u cv w' := by
    rintro s ⟨x, hx, hfz, hu'⟩ ⟨β, hsr⟩
    obtain ⟨cv, hrun, hrel⟩ := results_ok hB.tab hsr hx
    refine ⟨hsr.defers, cv, hrun, cv, rfl, ⟨C.β, C.ok, C.ow, w'⟩, rfl, ⟨?_, ?_, fun _ _ => rfl, fun _ h => h, fun _ h => .inl h⟩, fun i => by simp, fun k => ?_, fun i _ hi => by simp at hi, fun i j _ hi => by simp at hi, fun y hy => ?_, by simp [named], fun i b hi => ?_⟩
    · refine hsr.frame.trans (.refl _ _) (fun k hk => ?_) (fun k _ h => h)
      obtain ⟨i, b, hi, rfl⟩ := hk
      obtain ⟨_, _, b', hb'⟩ := hblk i b hi
      exact ⟨i, b', hb', rfl⟩
    · rintro k ⟨i, b, hi, rfl⟩
      obtain ⟨_, b', hb'⟩ := hu i b hi
      exact (hh i b' hb').2.2
    · constructor
      · exact .inl
      · rintro (h | ⟨i, _, hi, _⟩)
        · exact h
        · simp at hi
    · injection hy with hy
      subst hy
      refine hfz.rel hr (C := cxOf X β s.heap s.next w') (D := ⟨C.β, C.ok, C.ow, w'⟩) (fun k hk => Or.inr hk) rfl (fun i b hib hbd hi => ⟨(hsr.heap i b hib).1, fun how => ?_⟩) hrel
      rcases hsr.own i b hib with ⟨i', b', hi', hβ⟩ | hge
      · obtain ⟨h1, _, b2, hb2⟩ := hblk i' b' hi'
        have h3 := hu' i' b2 hb2
        have h4 := hsr.inj i' i b2 b h3 hib (hu i' b2 hb2).1.2 hbd ((hsr.beta i' h1).trans hβ)
        omega
      · exact Nat.lt_irrefl _ (Nat.lt_of_lt_of_le (hlt.lt _ how) hge)
    · obtain ⟨h1, b', hb'⟩ := hu i b hi
      have h2 := (hsr.heap i b (hu' i b hi)).1
      have hi0 := (hblk i b' hb').1
      exact h2.limit h1.1 (hsr.beta i hi0).symm (fun i hi => by omega) (fun i hi => by omega) (fun k hk => .inr hk) rfl
  obtain ⟨he, s, h1, h2⟩ := he
  rcases he with rfl | rfl
  · exact main s h1 h2
  · exact main s h1 h2
theorem con_ok (hB : Base P Γ τ) (hD : DrawOk P Γ τ) {f : FuncId} {fn : Func} {N : Nat} (hf : P.funcs[f]? = some fn) (hb0 : fn.body.isSome = true) (hN : fn.ntmps = N) (args : List AV) (h : Heap) (n0 : Nat) (r : AV) (u : Heap) (fuel : Nat)
    (hlen : args.length ≤ N) (hargs : ∀ x ∈ args, Bl n0 x) (hblk : ∀ i b, lk i h = some b → i < n0 ∧ BlB n0 b ∧ ∃ b', (i, b') ∈ u) (hr : Bl 0 r) (hu : ∀ i b, (i, b) ∈ u → (BlB 0 b ∧ b.dead = false) ∧ ∃ b', lk i h = some b')
    (hrun : ∀ (X : Ctx), X.N = N → ∀ (H : Hold), H = stdH → (finish H Γ τ N fuel fn.results.toList [] (arun H Γ τ N fuel [.code (bodyOf fn)] ⟨envOf 0 args, h, n0⟩)).sat P X τ fn.results.toList (fun x hp => Frz n0 hp x r ∧ ∀ i b, (i, b) ∈ u → lk i hp = some b) (fun _ _ => False)) : Con P f args h r u :=
  con_okN hB hD hf hb0 hN args h n0 r u fuel hlen hargs hblk hr hu fun X hX _ => hrun X hX
/-- How a run must end so that it leaves r, the new blocks nb (named from n0 on) and the blocks u. -/
structure Exp (π : Nat → Nat) (n0 : Nat) (r : AV) (nw : List Blk) (u : Heap) (x : AV) (hp : Heap) : Prop where
  fix : ∀ i, i < n0 → π i = i
  inj : ∀ i j, n0 ≤ i → i < n0 + nw.length → n0 ≤ j → j < n0 + nw.length → π i = π j → i = j
  old : ∀ i, n0 ≤ i → i < n0 + nw.length → π i < n0 → ∀ b, (π i, b) ∈ u → b.dead = true
  val : Rz (∀ i b, (i, b) ∈ u → b.dead = false) n0 hp π (n0 + nw.length) r x
  nb : ∀ i b, (i, b) ∈ named n0 nw → ∃ b', lk (π i) hp = some b' ∧ b'.dead = false ∧ RzB (∀ i b, (i, b) ∈ u → b.dead = false) n0 hp π (n0 + nw.length) b b'
  u : ∀ i b, (i, b) ∈ u → ∃ b', lk i hp = some b' ∧ RzB (∀ i b, (i, b) ∈ u → b.dead = false) n0 hp π (n0 + nw.length) b b'
theorem named_ex : ∀ (nb : List Blk) (n i : Nat), n ≤ i → i < n + nb.length → ∃ b, (i, b) ∈ named n nb
  | [], n, i, h1, h2 => by simp at h2; omega
  | b :: r, n, i, h1, h2 => by
    by_cases h : i = n
    · exact ⟨b, by simp [named, h]⟩
    · simp only [List.length_cons] at h2
      obtain ⟨b', hb'⟩ := named_ex r (n + 1) i (by omega) (by omega)
      exact ⟨b', by simp [named, hb']⟩
theorem named_rng : ∀ (nb : List Blk) (n i : Nat) (b : Blk), (i, b) ∈ named n nb → n ≤ i ∧ i < n + nb.length
  | [], n, i, b, h => by simp [named] at h
  | c :: r, n, i, b, h => by
    simp only [named, List.mem_cons, Prod.mk.injEq] at h
    rcases h with ⟨rfl, _⟩ | h
    · simp
    · have := named_rng r (n + 1) i b h
      simp only [List.length_cons]; omega
/-- A contract that leaves new blocks, from the machine's run. -/
theorem con_okX (hB : Base P Γ τ) (hD : DrawOk P Γ τ) {f : FuncId} {fn : Func} {N : Nat} (hf : P.funcs[f]? = some fn) (hb0 : fn.body.isSome = true) (hN : fn.ntmps = N) (args : List AV) (h : Heap) (n0 : Nat) (r : AV) (nb : List Blk) (u : Heap) (fuel : Nat)
    (hlen : args.length ≤ N) (hargs : ∀ x ∈ args, Bl n0 x) (hblk : ∀ i b, lk i h = some b → i < n0 ∧ BlB n0 b ∧ ∃ b', (i, b') ∈ u) (hkey : ∀ i, i < n0 → ∃ b, lk i h = some b) (hu : ∀ i b, (i, b) ∈ u → ∃ b', lk i h = some b')
    (hrun : ∀ (X : Ctx), X.N = N → X.n0 = n0 → ∀ (H : Hold), H = stdH → (finish H Γ τ N fuel fn.results.toList [] (arun H Γ τ N fuel [.code (bodyOf fn)] ⟨envOf 0 args, h, n0⟩)).sat P X τ fn.results.toList (fun x hp => ∃ π, Exp π n0 r nb u x hp) (fun _ _ => False)) : ConN P f args h n0 r nb u := by
  intro C vs hl hh hinj hlt hfresh
  have hb : fn.body = some (bodyOf fn) := by unfold bodyOf; cases h0 : fn.body with | none => rw [h0] at hb0; cases hb0 | some c => rfl
  let X : Ctx := { w := C.w, own := fun k => ∃ i b, lk i h = some b ∧ C.β i = k, ow0 := C.ow, glo := hlt, ownO := fun k ⟨i, b, hi, hk⟩ => hk ▸ (hh i b hi).2.2, β0 := C.β, n0 := n0, N := N, ownK := fun k ⟨i, b, hi, hk⟩ => ⟨i, (hblk i b hi).1, hk⟩ }
  have hvl : vs.length = args.length := hl.1
  refine calls_of_wp hf hb ?_
  have hcx : ∀ k, (cxOf X C.β h n0 C.w).ow k → C.ow k := by
    rintro k (⟨i, b, hi, rfl⟩ | h0)
    · exact (hh i b hi).2.2
    · exact h0
  have hs : Sat X ⟨envOf 0 args, h, n0⟩ { tmps := vs.toArray ++ Array.replicate (fn.ntmps - vs.toArray.size) undef, defers := [] } C.w := by
    refine ⟨C.β, ⟨fun t x hx => ?_, by simp, by simp, fun i b hi => ?_, hinj, fun i b hi => .inl ⟨i, b, hi, rfl⟩, .refl _ _, ?_, rfl, fun _ _ => rfl, Nat.le_refl _⟩⟩
    · obtain ⟨_, hx⟩ := lk_envOf args 0 t x hx
      simp only [Nat.sub_zero] at hx
      obtain ⟨v, hv, hrel⟩ := hl.get hx
      have htl : t < vs.length := (List.getElem?_eq_some_iff.1 hv).1
      refine ⟨v, ?_, hrel.limit (hargs x (List.mem_of_getElem? hx)) (fun _ _ => rfl) (fun i hi => hi) hcx rfl⟩
      rw [Array.getElem?_append_left (by simpa using htl)]; simpa using hv
    · obtain ⟨h1, h2, _⟩ := hblk i b hi
      exact ⟨(hh i b hi).1.limit h2 rfl (fun _ _ => rfl) (fun i hi => hi) hcx rfl, h1⟩
    · show (vs.toArray ++ Array.replicate (fn.ntmps - vs.toArray.size) undef).size = N
      simp; omega
  have hX : X.N = N := rfl
  have hgo := arun_ok hB hD fuel [.code (bodyOf fn)] ⟨envOf 0 args, h, n0⟩ _ C.w (finish_sat hB hD [] (hrun X hX rfl stdH rfl)) hs
  refine wp_mono hgo fun e a w' he => ?_
  have main : ∀ (s : St), (∃ x, fin τ fn.results.toList s = some x ∧ ∃ π, Exp π n0 r nb u x s.heap) → Sat X s a w' → a.defers = [] ∧ ∃ v, (results fn a.tmps).run P w' = .ok v w' ∧ ∃ cv, Ending.returned v = .returned cv ∧ Leaves C n0 (some r) nb u cv w' := by
    rintro s ⟨x, hx, π, hE⟩ ⟨β, hsr⟩
    obtain ⟨cv, hrun, hrel⟩ := results_ok hB.tab hsr hx
    let D : Cx := ⟨fun i => if n0 ≤ i ∧ i < n0 + nb.length then β (π i) else C.β i, fun i => C.ok i ∨ (n0 ≤ i ∧ i < n0 + nb.length), fun k => C.ow k ∨ ∃ i, n0 ≤ i ∧ i < n0 + nb.length ∧ β (π i) = k, w'⟩
    have hDn : ∀ i, n0 ≤ i → i < n0 + nb.length → D.β i = β (π i) := fun i h1 h2 => if_pos ⟨h1, h2⟩
    have hDo : ∀ i, C.ok i → D.β i = C.β i := fun i hi => if_neg fun ⟨h1, h2⟩ => hfresh i h1 h2 hi
    have hokK : ∀ i, i < n0 → C.ok i := fun i hi => by obtain ⟨b, hb⟩ := hkey i hi; exact (hh i b hb).2.1
    have hβ : ∀ i, i < n0 + nb.length → D.β i = (cxOf X β s.heap s.next w').β (π i) := fun i hi => by
      by_cases h0 : i < n0
      · rw [hDo i (hokK i h0), hE.fix i h0]; exact (hsr.beta i h0).symm
      · exact hDn i (by omega) hi
    have hok : ∀ i, i < n0 + nb.length → D.ok i := fun i hi => by
      by_cases h0 : i < n0
      · exact .inl (hokK i h0)
      · exact .inr ⟨by omega, hi⟩
    have how : ∀ k, D.ow k → (cxOf X β s.heap s.next w').ow k := by
      rintro k (h0 | ⟨i, h1, h2, rfl⟩)
      · exact .inr h0
      · obtain ⟨b, hb⟩ := named_ex nb n0 i h1 h2
        obtain ⟨b', hb', _⟩ := hE.nb i b hb
        exact .inl ⟨π i, b', hb', rfl⟩
    have alias : ∀ i b, lk i s.heap = some b → b.dead = false → n0 ≤ i → ∀ i0 b0, lk i0 h = some b0 → C.β i0 = β i → ∀ b2, (i0, b2) ∈ u → b2.dead = true := by
      intro i b hb hd hi i0 b0 h0 e b2 hb2
      obtain ⟨b', hb', ⟨_, hdd⟩, _⟩ := hE.u i0 b2 hb2
      cases hq : b2.dead with
      | true => rfl
      | false =>
        have hi0 := (hblk i0 b0 h0).1
        have := hsr.inj i0 i b' b hb' hb (hdd hq) hd ((hsr.beta i0 hi0).trans e)
        omega
    have hh' : (∀ i b, (i, b) ∈ u → b.dead = false) → ∀ i b, lk i s.heap = some b → b.dead = false → n0 ≤ i → (∀ j, j < n0 + nb.length → π j ≠ i) → BRel (cxOf X β s.heap s.next w') i b ∧ ¬ D.ow ((cxOf X β s.heap s.next w').β i) := by
      intro z i b hb hd hi hne
      refine ⟨(hsr.heap i b hb).1, ?_⟩
      rintro (h0 | ⟨j, h1, h2, e⟩)
      · rcases hsr.own i b hb with ⟨i0, b0, hi0, e⟩ | hge
        · obtain ⟨_, _, b2, hb2⟩ := hblk i0 b0 hi0
          have := alias i b hb hd hi i0 b0 hi0 e b2 hb2
          rw [z i0 b2 hb2] at this; cases this
        · exact Nat.lt_irrefl _ (Nat.lt_of_lt_of_le (hlt.lt _ h0) hge)
      · obtain ⟨bj, hbj⟩ := named_ex nb n0 j h1 h2
        obtain ⟨b', hb', hd', _⟩ := hE.nb j bj hbj
        exact hne j h2 (hsr.inj (π j) i b' b hb' hb hd' hd e)
    refine ⟨hsr.defers, cv, hrun, cv, rfl, D, rfl, ⟨?_, ?_, hDo, fun _ h => .inl h, ?_⟩, fun i => Iff.rfl, fun k => ?_, fun i h1 h2 => ?_, fun i j h1 h2 h3 h4 e => ?_, fun y hy => ?_, fun i b hi => ?_, fun i b hi => ?_⟩
    · refine hsr.frame.trans (.refl _ _) (fun k hk => ?_) (fun k _ h => h)
      obtain ⟨i, b, hi, rfl⟩ := hk
      obtain ⟨_, _, b', hb'⟩ := hblk i b hi
      exact ⟨i, b', hb', rfl⟩
    · rintro k ⟨i, b, hi, rfl⟩
      obtain ⟨b', hb'⟩ := hu i b hi
      exact (hh i b' hb').2.2
    · rintro k (h0 | ⟨i, h1, h2, rfl⟩)
      · exact .inl h0
      · obtain ⟨b, hb⟩ := named_ex nb n0 i h1 h2
        obtain ⟨b', hb', _⟩ := hE.nb i b hb
        rcases hsr.own (π i) b' hb' with ⟨i0, b0, hi0, e⟩ | hge
        · exact .inl (e ▸ (hh i0 b0 hi0).2.2)
        · exact .inr hge
    · show C.ow k ∨ _ ↔ C.ow k ∨ _
      refine or_congr Iff.rfl ⟨?_, ?_⟩
      · rintro ⟨i, h1, h2, e⟩; exact ⟨i, h1, h2, by rw [hDn i h1 h2]; exact e⟩
      · rintro ⟨i, h1, h2, e⟩; exact ⟨i, h1, h2, by rw [← hDn i h1 h2]; exact e⟩
    · obtain ⟨b, hb⟩ := named_ex nb n0 i h1 h2
      obtain ⟨b', hb', hd', _⟩ := hE.nb i b hb
      rw [hDn i h1 h2]
      rcases Nat.lt_or_ge (π i) n0 with h9 | h9
      · obtain ⟨b0, hb0⟩ := hkey (π i) h9
        obtain ⟨_, _, b2, hb2⟩ := hblk (π i) b0 hb0
        exact .inr ⟨π i, hokK _ h9, hsr.beta _ h9, ⟨b2, hb2⟩, hE.old i h1 h2 h9⟩
      rcases hsr.own (π i) b' hb' with ⟨i0, b0, hi0, e⟩ | hge
      · obtain ⟨hi0', _, b2, hb2⟩ := hblk i0 b0 hi0
        exact .inr ⟨i0, hokK i0 hi0', e.symm, ⟨b2, hb2⟩, fun b3 hb3 => alias (π i) b' hb' hd' h9 i0 b0 hi0 e b3 hb3⟩
      · exact .inl hge
    · rw [hDn i h1 h2, hDn j h3 h4] at e
      obtain ⟨b, hb⟩ := named_ex nb n0 i h1 h2
      obtain ⟨b', hb', hd', _⟩ := hE.nb i b hb
      obtain ⟨c, hc⟩ := named_ex nb n0 j h3 h4
      obtain ⟨c', hc', hdc, _⟩ := hE.nb j c hc
      exact hE.inj i j h1 h2 h3 h4 (hsr.inj _ _ _ _ hb' hc' hd' hdc e)
    · injection hy with hy
      subst hy
      exact hE.val.rel hβ hok how rfl hh' hrel
    · obtain ⟨h1, h2⟩ := named_rng nb n0 i b hi
      obtain ⟨b', hb', _, hz⟩ := hE.nb i b hi
      exact hz.brel (hβ i h2) hβ hok how rfl hh' (hsr.heap _ b' hb').1
    · obtain ⟨b', hb', hz⟩ := hE.u i b hi
      obtain ⟨b0, hb0⟩ := hu i b hi
      have hi0 := (hblk i b0 hb0).1
      refine hz.brel (i' := i) ?_ hβ hok how rfl hh' (hsr.heap _ b' hb').1
      rw [hβ i (by omega), hE.fix i hi0]
  obtain ⟨he, s, h1, h2⟩ := he
  rcases he with rfl | rfl
  · exact main s h1 h2
  · exact main s h1 h2
end
end Go.Proofs.Ytpilblmncpeelaa.AM

namespace Go.Proofs.Ytpilblmncpeelaa.AM
theorem eff0_congr {H : Hold} {Γ : Cons} {τ : Tab} {g g' : Operand → Option AV} {h : Heap} {n : Nat} {op : Op} (hg : ∀ x ∈ op.operands, g x = g' x) : eff0 H Γ τ g h n op = eff0 H Γ τ g' h n op := by
  have hm : ∀ l : List Operand, (∀ x ∈ l, g x = g' x) → l.map g = l.map g' := fun l hl => List.map_congr_left hl
  cases op <;> simp only [eff0] <;> simp only [Op.operands] at hg <;> try rfl
  all_goals try (simp at hg)
  all_goals try (simp [hg]; done)
  case build T ps =>
    have : (ps.toList.map fun p => (p.1, g p.2)) = ps.toList.map fun p => (p.1, g' p.2) := List.map_congr_left fun p hp => by rw [hg _ _ (by simpa using hp)]
    rw [this]
  case buildSlice T len ps =>
    have : (ps.toList.map fun p => (p.1, g p.2)) = ps.toList.map fun p => (p.1, g' p.2) := List.map_congr_left fun p hp => by rw [hg _ _ (by simpa using hp)]
    rw [this]
  case makeFunc f a c =>
    rw [hm a.toList (fun x hx => hg x (.inl (by simpa using hx))), hm c.toList (fun x hx => hg x (.inr (by simpa using hx)))]
  case call c =>
    cases hc : c.callee with
    | value f =>
      simp only [Call.operands, hc] at hg
      simp at hg
      dsimp only
      rw [hm c.args.toList (fun x hx => hg.2 x (by simpa using hx)), hg.1]
    | invoke r m => rfl
    | builtin b =>
      simp only [Call.operands, hc] at hg
      simp at hg
      have mm : ∀ up, (match c.args.toList with | [x, y] => eMM H up (g x) (g y) | _ => Eff.bad) = (match c.args.toList with | [x, y] => eMM H up (g' x) (g' y) | _ => Eff.bad) := by
        intro up
        match ha : c.args.toList with
        | [] => rfl
        | [_] => rfl
        | _ :: _ :: _ :: _ => rfl
        | [x, y] =>
          have h1 : x ∈ c.args := by have : x ∈ c.args.toList := by rw [ha]; simp
                                     simpa using this
          have h2 : y ∈ c.args := by have : y ∈ c.args.toList := by rw [ha]; simp
                                     simpa using this
          simp only [hg x h1, hg y h2]
      cases b <;> try rfl
      case max => exact mm true
      case min => exact mm false
      dsimp only
      match ha : c.args.toList, c.argTypes.toList with
      | [x], [T] =>
        have : x ∈ c.args := by have : x ∈ c.args.toList := by rw [ha]; simp
                                simpa using this
        simp only [hg x this]
      | [], _ => rfl
      | _ :: _ :: _, _ => rfl
      | [_], [] => rfl
      | [_], _ :: _ :: _ => rfl
theorem effN_congr {H : Hold} {Γ : Cons} {τ : Tab} {g g' : Operand → Option AV} {h : Heap} {n : Nat} {op : Op} (hg : ∀ x ∈ op.operands, g x = g' x) : effN H Γ τ g h n op = effN H Γ τ g' h n op := by
  have gen : eff0 H Γ τ (fun x => nrm (g x)) h n op = eff0 H Γ τ (fun x => nrm (g' x)) h n op := eff0_congr fun x hx => by rw [hg x hx]
  cases op <;> try exact gen
  case move x => simp only [effN]; rw [hg x (by simp [Op.operands])]
  case assign x => simp only [effN]; rw [hg x (by simp [Op.operands])]
  case extract x i => simp only [effN]; rw [hg x (by simp [Op.operands])]
  case indexAddr T x i => simp only [effN]; rw [hg x (by simp [Op.operands]), hg i (by simp [Op.operands])]
  case slice T x lo hi mx =>
    cases mx with
    | some m => exact gen
    | none =>
      have b : ∀ y : Option Operand, (∀ z ∈ y, g z = g' z) → bnd g y = bnd g' y := fun y hy => by
        cases y with
        | none => rfl
        | some z => simp only [bnd]; rw [hy z rfl]
      simp only [effN]
      rw [hg x (by simp [Op.operands]), b lo (fun z hz => hg z (by simp [Op.operands]; exact .inr (.inl hz))), b hi (fun z hz => hg z (by simp [Op.operands]; exact .inr (.inr hz)))]
  case call c =>
    simp only [effN]
    cases ha : isApp c.callee with
    | false =>
      simp only [cond_false]
      cases ha2 : isClr c.callee with
      | false => exact gen
      | true =>
        simp only [cond_true]
        match hc : c.args.toList, c.argTypes.toList with
        | [x], [T] =>
          have hx : ∀ z ∈ c.args.toList, g z = g' z := fun z hz => hg z (by simp only [Op.operands, Call.operands]; exact Array.mem_append.2 (.inr (by simpa using hz)))
          dsimp only
          rw [hx x (by rw [hc]; simp)]
        | [], _ => rfl
        | _ :: _ :: _, _ => rfl
        | [_], [] => rfl
        | [_], _ :: _ :: _ => rfl
    | true =>
      simp only [cond_true]
      match hc : c.args.toList, c.argTypes.toList with
      | [x, y], [T, T'] =>
        have hx : ∀ z ∈ c.args.toList, g z = g' z := fun z hz => hg z (by simp only [Op.operands, Call.operands]; exact Array.mem_append.2 (.inr (by simpa using hz)))
        dsimp only
        rw [hx x (by rw [hc]; simp), hx y (by rw [hc]; simp)]
      | [], _ => rfl
      | [_], _ => rfl
      | _ :: _ :: _ :: _, _ => rfl
      | [_, _], [] => rfl
      | [_, _], [_] => rfl
      | [_, _], _ :: _ :: _ :: _ => rfl
theorem eKn_congr {τ : Tab} {g g' : Operand → Option AV} {op : Op} (hg : ∀ x ∈ op.operands, g x = g' x) : eKn τ g op = eKn τ g' op := by
  cases op <;> try rfl
  case binOp op T x y S =>
    simp only [eKn, knownG]
    rw [hg x (by simp [Op.operands]), hg y (by simp [Op.operands])]
  case call c =>
    simp only [eKn]
    cases hc : c.callee with
    | value f => rfl
    | invoke r m => rfl
    | builtin b =>
      cases b <;> try rfl
      dsimp only
      match ha : c.args.toList, c.argTypes.toList with
      | [x], [T] =>
        have : x ∈ c.args.toList := by rw [ha]; simp
        dsimp only
        rw [hg x (by simp only [Op.operands, Call.operands]; exact Array.mem_append.2 (.inr (by simpa using this)))]
      | [], _ => rfl
      | _ :: _ :: _, _ => rfl
      | [_], [] => rfl
      | [_], _ :: _ :: _ => rfl
theorem effK_congr {H : Hold} {Γ : Cons} {τ : Tab} {g g' : Operand → Option AV} {h : Heap} {n : Nat} {op : Op} (hg : ∀ x ∈ op.operands, g x = g' x) : effK H Γ τ g h n op = effK H Γ τ g' h n op := by
  unfold effK
  rw [eKn_congr hg, effN_congr hg]
theorem eNst_congr {H : Hold} {τ : Tab} {g g' : Operand → Option AV} {h : Heap} {n : Nat} {op : Op} (hg : ∀ x ∈ op.operands, g x = g' x) : eNst H τ g h n op = eNst H τ g' h n op := by
  cases op <;> try rfl
  case indexAddr T x i =>
    simp only [eNst]
    rw [hg x (by simp [Op.operands]), hg i (by simp [Op.operands])]
  case call c =>
    simp only [eNst]
    have hx : ∀ z ∈ c.args.toList, g z = g' z := fun z hz => hg z (by simp only [Op.operands, Call.operands]; exact Array.mem_append.2 (.inr (by simpa using hz)))
    cases hc : c.callee with
    | value f => rfl
    | invoke r m => rfl
    | builtin b =>
      cases b <;> try rfl
      · dsimp only
        match ha : c.args.toList, c.argTypes.toList with
        | [x, y], [T, T'] =>
          dsimp only
          rw [hx x (by rw [ha]; simp), hx y (by rw [ha]; simp)]
        | [], _ => rfl
        | [_], _ => rfl
        | _ :: _ :: _ :: _, _ => rfl
        | [_, _], [] => rfl
        | [_, _], [_] => rfl
        | [_, _], _ :: _ :: _ :: _ => rfl
      · dsimp only
        match ha : c.args.toList, c.argTypes.toList with
        | [x], [T] =>
          dsimp only
          rw [hx x (by rw [ha]; simp)]
        | [], _ => rfl
        | _ :: _ :: _, _ => rfl
        | [_], [] => rfl
        | [_], _ :: _ :: _ => rfl
theorem eff_congr {H : Hold} {Γ : Cons} {τ : Tab} {g g' : Operand → Option AV} {h : Heap} {n : Nat} {op : Op} (hg : ∀ x ∈ op.operands, g x = g' x) : eff H Γ τ g h n op = eff H Γ τ g' h n op := by
  unfold eff
  rw [eNst_congr hg, effK_congr hg]
/-- What a state knows of a slot holds. -/
def SlotOk (C : Cx) (a : Act) (s : RS) (t : Nat) : Prop :=
  (∀ x, lk t s.env = some x → ∃ v, a.tmps[t]? = some v ∧ Rel C x v) ∧
  (∀ g wt x, (t, (g, wt), x) ∈ s.te → (a.tmps[g]? = some (.bool wt) → ∃ v, a.tmps[t]? = some v ∧ Rel C x v) ∧ (a.tmps[g]? ≠ some (.bool wt) → a.tmps[t]? = some undef))
theorem ev_slot {C : Cx} {a : Act} {s : RS} {G : List (Nat × Bool)} (hG : ∀ p ∈ G, a.tmps[p.1]? = some (.bool p.2)) {x : Operand} (hs : ∀ t, x = .tmp t → SlotOk C a s t) {av : AV} (h : ev s.env s.te G x = some av) : Rel C av (a.eval x) := by
  cases x with
  | const v =>
    simp only [ev] at h
    cases hv : v.oneCell' with
    | false => simp [hv] at h
    | true => simp [hv] at h; subst h; exact .lit hv
  | global g => simp only [ev, Option.some.injEq] at h; subst h; exact .lit rfl
  | func f => simp only [ev, Option.some.injEq] at h; subst h; exact .lit rfl
  | tmp t =>
    obtain ⟨s1, s2⟩ := hs t rfl
    simp only [ev] at h
    have fin : ∀ x, (∃ v, a.tmps[t]? = some v ∧ Rel C x v) → Rel C x (a.eval (.tmp t)) := by
      rintro x ⟨v, h1, h2⟩
      have : a.eval (.tmp t) = v := by simp [Act.eval, Array.getD_eq_getD_getElem?, h1]
      rw [this]; exact h2
    cases hte : lk t s.te with
    | none =>
      simp only [hte] at h
      exact fin av (s1 av h)
    | some q =>
      obtain ⟨⟨g, wt⟩, y⟩ := q
      simp only [hte] at h
      cases hc : G.any (sameG (g, wt)) with
      | false => rw [hc] at h; simp at h
      | true =>
        rw [hc] at h
        simp only [cond_true, Option.some.injEq] at h
        subst h
        obtain ⟨p, hp, hpe⟩ := List.any_eq_true.1 hc
        have := sameG_iff.1 hpe
        subst this
        exact fin y ((s2 g wt y (lk_mem hte)).1 (hG _ hp))
section
variable {P : Program} {Γ : Cons} {τ : Tab} {X : Ctx}
/-- One operation, in any state that knows its operands and the blocks that it looks at. -/
theorem effG_slot (hB : Base P Γ τ) {C : Cx} {a : Act} {s : RS} {o : Oper} (hs : ∀ t, t ∈ tmpsOf o.op.operands.toList → SlotOk C a s t) {G : List (Nat × Bool)} (hG : ∀ p ∈ G, a.tmps[p.1]? = some (.bool p.2)) {v : Option AV} {nb : List Blk} {rd : List Nat} {u : Heap} {ob : List Prop}
    (he : effG stdH Γ τ s G o.op = .mk v nb rd u ob) (hob : AllP ob) (hnow : Now C s.heap s.next rd nb) :
    Yld P o a.eval C.w (Leaves C s.next v nb u) ∧ (∀ i b, (i, b) ∈ u → i ∈ rd ∧ ∃ b', lk i s.heap = some b' ∧ b'.dead = false) := by
  have mem : ∀ (l : List Operand) (t : Nat), Operand.tmp t ∈ l → t ∈ tmpsOf l := by
    intro l t
    induction l with
    | nil => simp
    | cons x l ih =>
      intro h
      cases x <;> simp [tmpsOf] at h ⊢
      · rcases h with rfl | h
        · exact .inl rfl
        · exact .inr (ih h)
      all_goals exact ih h
  have hrel : ∀ x ∈ o.op.operands, ∀ (G : List (Nat × Bool)), (∀ p ∈ G, a.tmps[p.1]? = some (.bool p.2)) → ∀ av, ev s.env s.te G x = some av → Rel C av (a.eval x) :=
    fun x hx G hG av h => ev_slot hG (fun t ht => hs t (mem _ t (by subst ht; simpa using hx))) h
  by_cases hpk : ∃ c x y, o.op = .pick c x y
  · obtain ⟨c, x, y, hop⟩ := hpk
    cases c <;> simp only [effG, hop] at he <;> try (exact absurd he (by simp))
    rename_i c
    rw [hop] at hrel
    generalize hc : ev s.env s.te G (.tmp c) = ec at he
    generalize hx : ev s.env s.te ((c, true) :: G) x = ex at he
    generalize hy : ev s.env s.te ((c, false) :: G) y = ey at he
    match ec, ex, ey, he with
    | some (.lit (.bool tc)), some (.lit (.bool tx)), some (.lit (.bool ty)), he =>
      simp only [ePick, pure1, stdH, Eff.mk.injEq] at he
      obtain ⟨rfl, rfl, rfl, rfl, rfl⟩ := he
      have hcv := (hrel (.tmp c) (by simp [Op.operands]) G hG _ hc).bool_inv
      have hslot : a.tmps[c]? = some (.bool tc) := by
        simp only [Act.eval, Array.getD_eq_getD_getElem?] at hcv
        cases hq : a.tmps[c]? with
        | none => rw [hq] at hcv; simp [undef] at hcv
        | some q => rw [hq] at hcv; simp at hcv; rw [hcv]
      have hGt : ∀ b, tc = b → ∀ p ∈ (c, b) :: G, a.tmps[p.1]? = some (.bool p.2) := by
        intro b hb p hp
        simp only [List.mem_cons] at hp
        rcases hp with rfl | hp
        · rw [← hb]; exact hslot
        · exact hG p hp
      exact ⟨ok_pick hop hcv (fun e => (hrel x (by simp [Op.operands]) _ (hGt true e) _ hx).bool_inv) (fun e => (hrel y (by simp [Op.operands]) _ (hGt false e) _ hy).bool_inv), by simp⟩
    | some (.lit (.bool tc)), none, some (.lit (.bool ty)), he =>
      simp only [ePick, stdH, Eff.mk.injEq] at he
      obtain ⟨rfl, rfl, rfl, rfl, rfl⟩ := he
      have htc : tc = false := hob.1
      subst htc
      have hcv := (hrel (.tmp c) (by simp [Op.operands]) G hG _ hc).bool_inv
      have hslot : a.tmps[c]? = some (.bool false) := by
        simp only [Act.eval, Array.getD_eq_getD_getElem?] at hcv
        cases hq : a.tmps[c]? with
        | none => rw [hq] at hcv; simp [undef] at hcv
        | some q => rw [hq] at hcv; simp at hcv; rw [hcv]
      have hGt : ∀ b, false = b → ∀ p ∈ (c, b) :: G, a.tmps[p.1]? = some (.bool p.2) := by
        intro b hb p hp
        simp only [List.mem_cons] at hp
        rcases hp with rfl | hp
        · rw [← hb]; exact hslot
        · exact hG p hp
      exact ⟨ok_pick (a := ty) (b := ty) hop hcv (fun e => by cases e) (fun e => (hrel y (by simp [Op.operands]) _ (hGt false e) _ hy).bool_inv), by simp⟩
    | some (.lit (.bool tc)), some (.lit (.bool tx)), none, he =>
      simp only [ePick, stdH, Eff.mk.injEq] at he
      obtain ⟨rfl, rfl, rfl, rfl, rfl⟩ := he
      have htc : tc = true := hob.1
      subst htc
      have hcv := (hrel (.tmp c) (by simp [Op.operands]) G hG _ hc).bool_inv
      have hslot : a.tmps[c]? = some (.bool true) := by
        simp only [Act.eval, Array.getD_eq_getD_getElem?] at hcv
        cases hq : a.tmps[c]? with
        | none => rw [hq] at hcv; simp [undef] at hcv
        | some q => rw [hq] at hcv; simp at hcv; rw [hcv]
      have hGt : ∀ b, true = b → ∀ p ∈ (c, b) :: G, a.tmps[p.1]? = some (.bool p.2) := by
        intro b hb p hp
        simp only [List.mem_cons] at hp
        rcases hp with rfl | hp
        · rw [← hb]; exact hslot
        · exact hG p hp
      exact ⟨ok_pick (a := tx) (b := tx) hop hcv (fun e => (hrel x (by simp [Op.operands]) _ (hGt true e) _ hx).bool_inv) (fun e => by cases e), by simp⟩
  · have hpk' : ∀ c x y, o.op ≠ .pick c x y := fun c x y e => hpk ⟨c, x, y, e⟩
    have he' : eff stdH Γ τ (ev s.env s.te G) s.heap s.next o.op = .mk v nb rd u ob := by
      unfold effG at he
      split at he
      · rename_i c x y heq; exact absurd heq (hpk' _ x y)
      · rename_i c x y _ heq; exact absurd heq (hpk' _ x y)
      · exact he
    classical
    rw [eff_congr (g' := fun x => if x ∈ o.op.operands then ev s.env s.te G x else none) (fun x hx => by simp [hx])] at he'
    refine eff_ok (P := P) (o := o) (a := a) (C := C) (n := s.next) hB.tab hB.cons hB.bodies he' hpk' hob (fun x av h => ?_) hnow
    by_cases hx : x ∈ o.op.operands
    · simp [hx] at h; exact hrel x hx G hG av h
    · simp [hx] at h
/-- One operation's step in the order of the text. -/
inductive Stp (Γ : Cons) (τ : Tab) (N : Nat) (ops : Array Oper) (o : Oper) (s s' : RS) : List Nat × List Nat → Prop
  | plain {v nb rd u ob} (hg : o.guard = none) (he : effG stdH Γ τ s [] o.op = .mk v nb rd u ob) (hob : AllP ob) (hs : setO N o.dst v ⟨s.env, s.te, named s.next nb ++ pts u s.heap, s.next + nb.length⟩ = some s') : Stp Γ τ N ops o s s' (rd, ids s.next nb ++ keysOf u)
  | tag {j want gs b v rd ob} (hg : o.guard = some (j, want)) (hgs : (ops[j]?).bind (·.dst) = some gs) (hv : gval s.env s.te gs = some (.lit (.bool b))) (he : effG stdH Γ τ s [(gs, want)] o.op = .mk v [] rd [] ob) (hob : (∀ p ∈ chain τ s.env s.te (looks ops.toList o) 4 gs, p.1 = p.2) → b = want → AllP ob) (hs : setGO N (gs, want) o.dst v s = some s') : Stp Γ τ N ops o s s' (rd, [])
  | yes {j want gs v nb rd u ob} (hg : o.guard = some (j, want)) (hgs : (ops[j]?).bind (·.dst) = some gs) (hv : lk gs s.env = some (.lit (.bool want))) (hn : lk gs s.te = none) (he : effG stdH Γ τ s [(gs, want)] o.op = .mk v nb rd u ob) (hob : AllP ob)
      (hs : setO N o.dst v ⟨pt gs (.lit (.bool want)) s.env, s.te, named s.next nb ++ pts u s.heap, s.next + nb.length⟩ = some s') : Stp Γ τ N ops o s s' (rd, ids s.next nb ++ keysOf u)
  | no {j want gs} (hg : o.guard = some (j, want)) (hgs : (ops[j]?).bind (·.dst) = some gs) (hv : lk gs s.env = some (.lit (.bool (!want)))) (hn : lk gs s.te = none) (hs : skipD N o.dst ⟨pt gs (.lit (.bool (!want))) s.env, s.te, s.heap, s.next⟩ = some s') : Stp Γ τ N ops o s s' ([], [])
inductive Tr (Γ : Cons) (τ : Tab) (N : Nat) (ops : Array Oper) : List Oper → RS → RS → List (List Nat × List Nat) → Prop
  | nil {s} : Tr Γ τ N ops [] s s []
  | cons {o l s s1 s' f fs} (h : Stp Γ τ N ops o s s1 f) (t : Tr Γ τ N ops l s1 s' fs) : Tr Γ τ N ops (o :: l) s s' (f :: fs)
theorem trace {N : Nat} {ops : Array Oper} {R : RS → List (List Nat × List Nat) → Prop} : ∀ (l : List Oper) (s : RS) (fp : List (List Nat × List Nat)), (rgn stdH Γ τ N ops.toList l s fp).sat R → ∃ s' fs, Tr Γ τ N ops l s s' fs ∧ R s' (fs.reverse ++ fp)
  | [], s, fp, h => ⟨s, [], .nil, h⟩
  | o :: l, s, fp, h => by
    have fin : ∀ {s1 f}, Stp Γ τ N ops o s s1 f → (rgn stdH Γ τ N ops.toList l s1 (f :: fp)).sat R → ∃ s' fs, Tr Γ τ N ops (o :: l) s s' fs ∧ R s' (fs.reverse ++ fp) := by
      intro s1 f hst hr
      obtain ⟨s', fs, h1, h2⟩ := trace l s1 _ hr
      exact ⟨s', f :: fs, .cons hst h1, by simpa using h2⟩
    unfold rgn at h
    cases hgd : o.guard with
    | none =>
      simp only [hgd] at h
      cases he : effG stdH Γ τ s [] o.op with
      | bad => rw [he] at h; exact h.elim
      | mk v nb rd u ob =>
        rw [he] at h
        simp only at h
        cases hs' : setO N o.dst v ⟨s.env, s.te, named s.next nb ++ pts u s.heap, s.next + nb.length⟩ with
        | none => rw [hs'] at h; exact h.elim
        | some s' =>
          rw [hs'] at h
          obtain ⟨hob, hrest⟩ := needs_sat h
          exact fin (.plain hgd he hob hs') hrest
    | some q =>
      obtain ⟨j, want⟩ := q
      simp only [hgd] at h
      have hops : ops.toList[j]? = ops[j]? := by simp
      rw [hops] at h
      cases hd : (ops[j]?).bind (·.dst) with
      | none => rw [hd] at h; exact h.elim
      | some gs =>
        rw [hd] at h
        simp only at h
        generalize hgv : gval s.env s.te gs = gv at h
        by_cases hgb : ∃ b, gv = some (.lit (.bool b))
        case neg =>
          exfalso
          revert h
          split
          · exact absurd ⟨_, rfl⟩ hgb
          · exact id
        case pos =>
        obtain ⟨b, rfl⟩ := hgb
        dsimp only at h
        cases he : effG stdH Γ τ s [(gs, want)] o.op with
        | bad =>
          rw [he] at h
          dsimp only at h
          cases hte : lk gs s.te with
          | some q => rw [hte] at h; exact h.elim
          | none =>
            rw [hte] at h
            dsimp only at h
            unfold gval at hgv
            rw [hte] at hgv
            dsimp only at hgv
            cases hs2 : skipD N o.dst ⟨pt gs (.lit (.bool (!want))) s.env, s.te, s.heap, s.next⟩ with
            | none => rw [hs2] at h; exact h.elim
            | some s2 =>
              rw [hs2] at h
              obtain ⟨hob, hrest⟩ := needs_sat h
              have hbw : b ≠ want := hob.1
              have : b = !want := by cases b <;> cases want <;> simp_all
              exact fin (.no hgd hd (by rw [← this]; exact hgv) hte hs2) hrest
        | mk v nb rd u ob =>
          rw [he] at h
          dsimp only at h
          cases hq : (isNil nb && isNil u) with
          | true =>
            rw [hq] at h
            dsimp only at h
            simp only [Bool.and_eq_true] at hq
            obtain rfl : nb = [] := by cases nb <;> simp_all [isNil]
            obtain rfl : u = [] := by cases u <;> simp_all [isNil]
            cases hs' : setGO N (gs, want) o.dst v s with
            | none => rw [hs'] at h; exact h.elim
            | some s' =>
              rw [hs'] at h
              obtain ⟨hob, hrest⟩ := needs_sat h
              exact fin (.tag hgd hd hgv he (fun hc => underB_all (underC_all hob hc)) hs') hrest
          | false =>
            rw [hq] at h
            dsimp only at h
            cases hte : lk gs s.te with
            | some q => rw [hte] at h; exact h.elim
            | none =>
              rw [hte] at h
              dsimp only at h
              unfold gval at hgv
              rw [hte] at hgv
              dsimp only at hgv
              cases hs1 : setO N o.dst v ⟨pt gs (.lit (.bool want)) s.env, s.te, named s.next nb ++ pts u s.heap, s.next + nb.length⟩ with
              | none => rw [hs1] at h; exact h.elim
              | some s1 =>
                rw [hs1] at h
                dsimp only at h
                cases hs2 : skipD N o.dst ⟨pt gs (.lit (.bool (!want))) s.env, s.te, s.heap, s.next⟩ with
                | none => rw [hs2] at h; exact h.elim
                | some s2 =>
                  rw [hs2] at h
                  have h2 : (b = want → (needs ob (rgn stdH Γ τ N ops.toList l s1 ((rd, ids s.next nb ++ keysOf u) :: fp))).sat R) ∧ (b ≠ want → (rgn stdH Γ τ N ops.toList l s2 (([], []) :: fp)).sat R) := by
                    cases want with
                    | true => exact ⟨h.1, fun q => h.2 (by simpa using q)⟩
                    | false => exact ⟨h.2, fun q => h.1 (by simpa using q)⟩
                  by_cases hbw : b = want
                  · subst hbw
                    obtain ⟨hob, hrest⟩ := needs_sat (h2.1 rfl)
                    exact fin (.yes hgd hd hgv hte he hob hs1) hrest
                  · have : b = !want := by cases b <;> cases want <;> simp_all
                    exact fin (.no hgd hd (by rw [← this]; exact hgv) hte hs2) (h2.2 hbw)
end
end Go.Proofs.Ytpilblmncpeelaa.AM

namespace Go.Proofs.Ytpilblmncpeelaa.AM
open Classical
theorem hits_iff {a b : List Nat} : hits a b = true ↔ ∃ x, x ∈ a ∧ x ∈ b := by
  simp [hits]
theorem mem_union {a b : List Nat} {x : Nat} : x ∈ union a b ↔ x ∈ a ∨ x ∈ b := by
  induction a with
  | nil => simp [union]
  | cons y a ih =>
    simp only [union]
    cases h : b.any (Nat.beq y) with
    | true =>
      simp only [cond_true, ih, List.mem_cons]
      have : y ∈ b := by simpa using h
      constructor
      · rintro (h | h) <;> simp [h]
      · rintro ((rfl | h) | h) <;> simp_all
    | false => simp only [cond_false, List.mem_cons, ih, or_assoc]
theorem mem_anc1 {acc : List (List Nat)} {x : Nat} : ∀ {es : List Edge}, x ∈ anc1 acc es → ∃ e ∈ es, Region.binds .any e = true ∧ (x = e.on ∨ x ∈ acc.getD e.on [])
  | [], h => by simp [anc1] at h
  | e :: r, h => by
    simp only [anc1] at h
    cases hb : Region.binds .any e with
    | true =>
      rw [hb] at h
      simp only [cond_true, mem_union, List.mem_cons] at h
      rcases h with (h | h) | h
      · exact ⟨e, by simp, hb, .inl h⟩
      · exact ⟨e, by simp, hb, .inr h⟩
      · obtain ⟨e', h1, h2⟩ := mem_anc1 h; exact ⟨e', by simp [h1], h2⟩
    | false =>
      rw [hb] at h
      obtain ⟨e', h1, h2⟩ := mem_anc1 h; exact ⟨e', by simp [h1], h2⟩
/-- The list of ancestors, op by op. -/
theorem ancs_spec : ∀ (l : List Oper) (acc : List (List Nat)), (ancs l acc).length = acc.length + l.length ∧ (∀ i, i < acc.length → (ancs l acc)[i]? = acc[i]?) ∧
    ∀ i o, l[i]? = some o → (ancs l acc)[acc.length + i]? = some (anc1 ((ancs l acc).take (acc.length + i)) o.after.toList)
  | [], acc => by simp [ancs]
  | o :: l, acc => by
    obtain ⟨h1, h2, h3⟩ := ancs_spec l (acc ++ [anc1 acc o.after.toList])
    simp only [ancs]
    refine ⟨by rw [h1]; simp; omega, fun i hi => by rw [h2 i (by simp; omega), List.getElem?_append_left hi], fun i p hp => ?_⟩
    cases i with
    | zero =>
      simp at hp; subst hp
      rw [Nat.add_zero, h2 acc.length (by simp)]
      have ht : (ancs l (acc ++ [anc1 acc o.after.toList])).take acc.length = acc := by
        apply List.ext_getElem?
        intro k
        by_cases hk : k < acc.length
        · rw [List.getElem?_take_of_lt hk, h2 k (by simp; omega), List.getElem?_append_left hk]
        · rw [List.getElem?_take_eq_none (by omega), List.getElem?_eq_none (by omega)]
      rw [ht]; simp
    | succ i =>
      have := h3 i p (by simpa using hp)
      simp only [List.length_append, List.length_cons, List.length_nil] at this
      rw [show acc.length + (i + 1) = acc.length + (0 + 1) + i by omega]; exact this
def Closed (ops : List Oper) (D : Nat → Prop) : Prop := ∀ i o, ops[i]? = some o → D i → ∀ e ∈ o.after.toList, Region.binds .any e = true → D e.on
theorem anc_in {ops : List Oper} {D : Nat → Prop} (hc : Closed ops D) : ∀ (i : Nat) (o : Oper), ops[i]? = some o → (∀ e ∈ o.after.toList, Region.binds .any e = true → D e.on) → ∀ (A : List Nat), (ancs ops [])[i]? = some A → ∀ j ∈ A, D j := by
  intro i
  induction i using Nat.strongRecOn with
  | _ i ih =>
    intro o ho hd A hA j hj
    obtain ⟨_, _, h3⟩ := ancs_spec ops []
    have := h3 i o ho
    simp only [List.length_nil, Nat.zero_add] at this
    rw [hA] at this
    injection this with this
    subst this
    obtain ⟨e, he, hb, h⟩ := mem_anc1 hj
    rcases h with rfl | h
    · exact hd e he hb
    · simp only [List.getD_eq_getElem?_getD] at h
      by_cases hlt : e.on < i
      · rw [List.getElem?_take_of_lt hlt] at h
        cases hq : (ancs ops [])[e.on]? with
        | none => rw [hq] at h; simp at h
        | some B =>
          rw [hq] at h
          simp only [Option.getD_some] at h
          have hlen : e.on < ops.length := by
            have h1 := (ancs_spec ops []).1
            have := (List.getElem?_eq_some_iff.1 hq).1
            simp at h1; omega
          exact ih e.on hlt ops[e.on] (List.getElem?_eq_getElem hlen) (hc e.on _ (List.getElem?_eq_getElem hlen) (hd e he hb)) B hq j h
      · rw [List.getElem?_take_eq_none (by omega)] at h; simp at h
theorem edges_lt : ∀ (l : List Oper) (k i : Nat) (o : Oper), edgesOk l k = true → l[i]? = some o → ∀ e ∈ o.after.toList, Region.binds .any e = true → e.on < k + i
  | [], k, i, o, _, h, _, _, _ => by simp at h
  | p :: l, k, i, o, hk, h, e, he, hb => by
    simp only [edgesOk, Bool.and_eq_true] at hk
    cases i with
    | zero =>
      simp at h; subst h
      have : ∀ es, edgeLt k es = true → e ∈ es → e.on < k := by
        intro es
        induction es with
        | nil => simp
        | cons f r ih =>
          intro h1 h2
          simp only [edgeLt, Bool.and_eq_true] at h1
          rcases List.mem_cons.1 h2 with rfl | h2
          · have := h1.1; rw [hb] at this; simpa using this
          · exact ih h1.2 h2
      exact this _ hk.1 he
    | succ i =>
      have := edges_lt l (k + 1) i o hk.2 (by simpa using h) e he hb
      omega

/-! ### The last writer -/
noncomputable def lastV (S : Nat → RS) (wr D : Nat → Prop) : Nat → RS
  | 0 => S 0
  | m + 1 => if D m ∧ wr m then S (m + 1) else lastV S wr D m
theorem lastV_agree {S : Nat → RS} {wr D : Nat → Prop} (E : RS → RS → Prop) (hr : ∀ s, E s s) (ht : ∀ a b c, E a b → E b c → E a c) : ∀ (m i : Nat), i ≤ m → (∀ j, j < m → ¬ wr j → E (S j) (S (j + 1))) → (∀ j, j < m → wr j → (D j ↔ j < i)) → (∀ a b, E a b → E b a) → E (lastV S wr D m) (S i)
  | 0, i, hi, _, _, _ => by obtain rfl : i = 0 := by omega
                            exact hr _
  | m + 1, i, hi, h1, h2, hs => by
    simp only [lastV]
    by_cases hw : D m ∧ wr m
    · rw [if_pos hw]
      have := (h2 m (by omega) hw.2).1 hw.1
      obtain rfl : i = m + 1 := by omega
      exact hr _
    · rw [if_neg hw]
      by_cases him : i = m + 1
      · subst him
        have hnw : ¬ wr m := fun h => hw ⟨(h2 m (by omega) h).2 (by omega), h⟩
        have := lastV_agree (wr := wr) (D := D) E hr ht m m (Nat.le_refl _) (fun j hj => h1 j (by omega)) (fun j hj hj' => by rw [h2 j (by omega) hj']; omega) hs
        exact ht _ _ _ this (h1 m (by omega) hnw)
      · exact lastV_agree E hr ht m i (by omega) (fun j hj => h1 j (by omega)) (fun j hj => h2 j (by omega)) hs
theorem lastV_other {S : Nat → RS} {wr D : Nat → Prop} {i : Nat} (hi : ¬ wr i) : ∀ m, lastV S wr (fun j => D j ∨ j = i) m = lastV S wr D m
  | 0 => rfl
  | m + 1 => by
    simp only [lastV, lastV_other hi m]
    have : ((D m ∨ m = i) ∧ wr m) ↔ (D m ∧ wr m) := ⟨fun ⟨h1, h2⟩ => ⟨h1.elim id (fun e => absurd (e ▸ h2) hi), h2⟩, fun ⟨h1, h2⟩ => ⟨.inl h1, h2⟩⟩
    simp only [this]
theorem lastV_self {S : Nat → RS} {wr D : Nat → Prop} {i : Nat} (hi : wr i) : ∀ m, i < m → (∀ j, j < m → i < j → wr j → ¬ D j) → lastV S wr (fun j => D j ∨ j = i) m = S (i + 1)
  | 0, h, _ => by omega
  | m + 1, h, hn => by
    simp only [lastV]
    by_cases him : m = i
    · subst him; rw [if_pos ⟨.inr rfl, hi⟩]
    · rw [if_neg (fun ⟨h1, h2⟩ => h1.elim (hn m (by omega) (by omega) h2) him)]
      exact lastV_self hi m (by omega) (fun j hj => hn j (by omega))

/-! ### The steps of the trace -/
/-- Two states know the same of a slot. -/
def SameS (t : Nat) (s s' : RS) : Prop := lk t s'.env = lk t s.env ∧ ∀ q, (t, q) ∈ s'.te ↔ (t, q) ∈ s.te
theorem SameS.refl (t : Nat) (s : RS) : SameS t s s := ⟨rfl, fun _ => Iff.rfl⟩
theorem SameS.trans {t : Nat} {a b c : RS} (h : SameS t a b) (k : SameS t b c) : SameS t a c := ⟨k.1.trans h.1, fun q => (k.2 q).trans (h.2 q)⟩
theorem SameS.symm {t : Nat} {a b : RS} (h : SameS t a b) : SameS t b a := ⟨h.1.symm, fun q => (h.2 q).symm⟩
theorem SlotOk.same {C : Cx} {a : Act} {s s' : RS} {t : Nat} (h : SlotOk C a s t) (hs : SameS t s s') : SlotOk C a s' t :=
  ⟨fun x hx => h.1 x (by rw [← hs.1]; exact hx), fun g wt x hx => h.2 g wt x ((hs.2 _).1 hx)⟩
theorem delT_mem {d t : Nat} {g : Nat} {wt : Bool} {x : AV} : ∀ {l : TEnv}, (t, (g, wt), x) ∈ l → t ≠ d → g ≠ d → (t, (g, wt), x) ∈ delT d l
  | [], h, _, _ => by simp at h
  | (k, (g', w'), u) :: r, h, h1, h2 => by
    simp only [delT]
    by_cases hk : k = d ∨ g' = d
    · have : (Nat.beq k d || Nat.beq g' d) = true := by simpa using hk
      rw [this]
      simp only [cond_true]
      simp only [List.mem_cons, Prod.mk.injEq] at h
      rcases h with ⟨rfl, ⟨rfl, rfl⟩, rfl⟩ | h
      · rcases hk with rfl | rfl
        · exact absurd rfl h1
        · exact absurd rfl h2
      · exact delT_mem h h1 h2
    · have : (Nat.beq k d || Nat.beq g' d) = false := by
        rw [Bool.or_eq_false_iff]; exact ⟨beq_false.2 fun e => hk (.inl e), beq_false.2 fun e => hk (.inr e)⟩
      rw [this]
      simp only [cond_false, List.mem_cons, Prod.mk.injEq]
      simp only [List.mem_cons, Prod.mk.injEq] at h
      rcases h with h | h
      · exact .inl h
      · exact .inr (delT_mem h h1 h2)
theorem lk_dl_ne {α : Type} {d t : Nat} (h : t ≠ d) : ∀ (l : List (Nat × α)), lk t (dl d l) = lk t l
  | [] => rfl
  | (k, u) :: r => by
    simp only [dl]
    by_cases hk : k = d
    · rw [beq_iff.2 hk]
      simp only [cond_true, lk_cons]
      rw [if_neg (by rw [hk]; exact fun e => h e.symm), lk_dl_ne h r]
    · rw [beq_false.2 hk]
      simp only [cond_false, lk_cons, lk_dl_ne h r]
/-- What a step does to slots. -/
structure SlotStep (N : Nat) (d : Option Nat) (gs : List Nat) (s s' : RS) : Prop where
  other : ∀ t, d ≠ some t → (∀ g wt x, (t, (g, wt), x) ∈ s.te → d ≠ some g) → SameS t s s'
  te : ∀ t g wt x, (t, (g, wt), x) ∈ s'.te → (t, (g, wt), x) ∈ s.te ∨ (d = some t ∧ g ∈ gs)
  self : ∀ t g wt x, d = some t → (t, (g, wt), x) ∈ s'.te → g ∈ gs
theorem setD_step {N : Nat} {d : Option Nat} {v : AV} {s s' : RS} (h : setD N d v s = some s') (gs : List Nat) : SlotStep N d gs s s' ∧ s'.heap = s.heap ∧ s'.next = s.next := by
  cases d with
  | none => simp only [setD, Option.some.injEq] at h; subst h; exact ⟨⟨fun t _ _ => .refl _ _, fun _ _ _ _ h => .inl h, fun _ _ _ _ h => by cases h⟩, rfl, rfl⟩
  | some d =>
    simp only [setD] at h
    cases hd : Nat.blt d N with
    | false => simp [hd] at h
    | true =>
      simp only [hd, cond_true, Option.some.injEq] at h
      subst h
      refine ⟨⟨fun t ht hg => ⟨by show lk t (pt d v s.env) = _; rw [lk_pt, if_neg (fun e => ht (by rw [e]))], fun ⟨⟨g, wt⟩, x⟩ => ⟨fun h => (mem_delT h).2.2, fun h => delT_mem h (fun e => ht (by rw [e])) (fun e => hg g wt x h (by rw [e]))⟩⟩, fun t g wt x h => .inl (mem_delT h).2.2, fun t g wt x e h => absurd (Option.some.inj e).symm (mem_delT h).1⟩, rfl, rfl⟩
theorem skipD_step {N : Nat} {d : Option Nat} {s s' : RS} (h : skipD N d s = some s') (gs : List Nat) : SlotStep N d gs s s' ∧ s'.heap = s.heap ∧ s'.next = s.next := by
  cases d with
  | none => simp only [skipD, Option.some.injEq] at h; subst h; exact ⟨⟨fun t _ _ => .refl _ _, fun _ _ _ _ h => .inl h, fun _ _ _ _ h => by cases h⟩, rfl, rfl⟩
  | some d =>
    simp only [skipD] at h
    cases hd : Nat.blt d N with
    | false => simp [hd] at h
    | true =>
      simp only [hd, cond_true, Option.some.injEq] at h
      subst h
      refine ⟨⟨fun t ht hg => ⟨by show lk t (dl d s.env) = _; rw [lk_dl_ne (fun e => ht (by rw [e]))], fun ⟨⟨g, wt⟩, x⟩ => ⟨fun h => (mem_delT h).2.2, fun h => delT_mem h (fun e => ht (by rw [e])) (fun e => hg g wt x h (by rw [e]))⟩⟩, fun t g wt x h => .inl (mem_delT h).2.2, fun t g wt x e h => absurd (Option.some.inj e).symm (mem_delT h).1⟩, rfl, rfl⟩
theorem setO_step {N : Nat} {d : Option Nat} {v : Option AV} {s s' : RS} (h : setO N d v s = some s') (gs : List Nat) : SlotStep N d gs s s' ∧ s'.heap = s.heap ∧ s'.next = s.next := by
  cases v with
  | none => exact skipD_step h gs
  | some v => exact setD_step h gs
theorem setGO_step {N g : Nat} {wt : Bool} {d : Option Nat} {v : Option AV} {s s' : RS} (h : setGO N (g, wt) d v s = some s') {gs : List Nat} (hg : g ∈ gs) : SlotStep N d gs s s' ∧ s'.heap = s.heap ∧ s'.next = s.next := by
  cases v with
  | none => exact skipD_step h gs
  | some v =>
    cases d with
    | none => simp only [setGO, setG, Option.some.injEq] at h; subst h; exact ⟨⟨fun t _ _ => .refl _ _, fun _ _ _ _ h => .inl h, fun _ _ _ _ h => by cases h⟩, rfl, rfl⟩
    | some d =>
      simp only [setGO, setG] at h
      cases hd : (Nat.blt d N && !Nat.beq d g) with
      | false => rw [hd] at h; simp at h
      | true =>
        rw [hd] at h
        simp only [cond_true, Option.some.injEq] at h
        subst h
        refine ⟨⟨fun t ht hg' => ⟨by show lk t (dl d s.env) = _; rw [lk_dl_ne (fun e => ht (by rw [e]))], fun ⟨⟨g', wt'⟩, x⟩ => ⟨fun h => ?_, fun h => ?_⟩⟩, fun t g' wt' x h => ?_, fun t g' wt' x e h => ?_⟩, rfl, rfl⟩
        · simp only [List.mem_cons, Prod.mk.injEq] at h
          rcases h with ⟨rfl, _⟩ | h
          · exact absurd rfl ht
          · exact (mem_delT h).2.2
        · simp only [List.mem_cons]
          exact .inr (delT_mem h (fun e => ht (by rw [e])) (fun e => hg' g' wt' x h (by rw [e])))
        · simp only [List.mem_cons, Prod.mk.injEq] at h
          rcases h with ⟨rfl, ⟨rfl, rfl⟩, rfl⟩ | h
          · exact .inr ⟨rfl, hg⟩
          · exact .inl (mem_delT h).2.2
        · simp only [List.mem_cons, Prod.mk.injEq] at h
          rcases h with ⟨rfl, ⟨rfl, rfl⟩, rfl⟩ | h
          · exact hg
          · exact absurd (Option.some.inj e).symm (mem_delT h).1
theorem mem_ids {k : Nat} : ∀ {n : Nat} {nb : List Blk}, n ≤ k → k < n + nb.length → k ∈ ids n nb
  | n, [], h1, h2 => by simp at h2; omega
  | n, b :: nb, h1, h2 => by
    simp only [ids, List.mem_cons]
    by_cases h : k = n
    · exact .inl h
    · exact .inr (mem_ids (by omega) (by simp at h2; omega))
theorem mem_keysOf {k : Nat} {b : Blk} : ∀ {u : Heap}, (k, b) ∈ u → k ∈ keysOf u
  | [], h => by simp at h
  | (i, c) :: u, h => by
    simp only [keysOf, List.mem_cons]
    rcases List.mem_cons.1 h with h | h
    · injection h with h _; exact .inl h
    · exact .inr (mem_keysOf h)
theorem lk_pts_ne {k : Nat} : ∀ (u h : Heap), k ∉ keysOf u → lk k (pts u h) = lk k h
  | [], h, _ => rfl
  | (i, b) :: u, h, hk => by
    simp only [keysOf, List.mem_cons, not_or] at hk
    simp only [pts]
    rw [lk_pts_ne u _ hk.2, lk_pt, if_neg (fun e => hk.1 e.symm)]
theorem heap_ne {k n : Nat} {nb : List Blk} {u h : Heap} (hk : k ∉ ids n nb ++ keysOf u) : lk k (named n nb ++ pts u h) = lk k h := by
  simp only [List.mem_append, not_or] at hk
  rw [lk_append]
  cases hn : lk k (named n nb) with
  | some b =>
    obtain ⟨_, h1, h2⟩ := lk_named _ _ hn
    exact absurd (mem_ids h1 h2) hk.1
  | none => simp only [Option.none_or]; exact lk_pts_ne u h hk.2
/-- What a step of the trace does. -/
structure StpSpec (N : Nat) (ops : Array Oper) (o : Oper) (s s' : RS) (f : List Nat × List Nat) : Prop where
  slots : SlotStep N o.dst (gslot ops.toList o) s s'
  heap : ∀ k, k ∉ f.2 → lk k s'.heap = lk k s.heap
  next : s.next ≤ s'.next
theorem SlotStep.learn {N : Nat} {d : Option Nat} {gs : List Nat} {s s' : RS} {t : Nat} {x : AV} {h : Heap} {n : Nat} (hs : SlotStep N d gs ⟨pt t x s.env, s.te, h, n⟩ s') (hx : lk t s.env = some x) : SlotStep N d gs s s' := by
  refine ⟨fun t' ht hg => ?_, hs.te, hs.self⟩
  have := hs.other t' ht hg
  refine ⟨this.1.trans ?_, this.2⟩
  show lk t' (pt t x s.env) = _
  rw [lk_pt]
  split
  · rename_i e; rw [← e, hx]
  · rfl
theorem Stp.spec {Γ : Cons} {τ : Tab} {N : Nat} {ops : Array Oper} {o : Oper} {s s' : RS} {f : List Nat × List Nat} (h : Stp Γ τ N ops o s s' f) : StpSpec N ops o s s' f := by
  cases h with
  | plain hg he hob hs =>
    obtain ⟨h1, h2, h3⟩ := setO_step hs (gslot ops.toList o)
    exact ⟨⟨h1.other, h1.te, h1.self⟩, fun k hk => by rw [h2]; exact heap_ne hk, by rw [h3]; exact Nat.le_add_right _ _⟩
  | tag hg hgs hv he hob hs =>
    obtain ⟨h1, h2, h3⟩ := setGO_step hs (gs := gslot ops.toList o) (by rw [gslot_of hg hgs]; simp)
    exact ⟨h1, fun k _ => by rw [h2], by rw [h3]; exact Nat.le_refl _⟩
  | yes hg hgs hv hn he hob hs =>
    obtain ⟨h1, h2, h3⟩ := setO_step hs (gslot ops.toList o)
    exact ⟨h1.learn hv, fun k hk => by rw [h2]; exact heap_ne hk, by rw [h3]; exact Nat.le_add_right _ _⟩
  | no hg hgs hv hn hs =>
    obtain ⟨h1, h2, h3⟩ := skipD_step hs (gslot ops.toList o)
    exact ⟨h1.learn hv, fun k _ => by rw [h2], by rw [h3]; exact Nat.le_refl _⟩
end Go.Proofs.Ytpilblmncpeelaa.AM

namespace Go.Proofs.Ytpilblmncpeelaa.AM
open Classical
/-- A region's trace, and what its check says. -/
structure Traced (Γ : Cons) (τ : Tab) (N : Nat) (ops : Array Oper) (S : Nat → RS) (F : Nat → List Nat × List Nat) : Prop where
  stp : ∀ i o, ops[i]? = some o → Stp Γ τ N ops o (S i) (S (i + 1)) (F i)
  te0 : (S 0).te = []
  clash : ∀ (i j : Nat) (oi oj : Oper), i < j → ops[i]? = some oi → ops[j]? = some oj → clash (foot ops.toList oi (F i)) (foot ops.toList oj (F j)) = true → ∀ A, (ancs ops.toList [])[j]? = some A → i ∈ A
  guard : ∀ (i j : Nat) (oi oj : Oper) (d : Nat), i < j → ops[i]? = some oi → ops[j]? = some oj → oj.dst = some d → d ∉ gslot ops.toList oi
def wS (ops : Array Oper) (t j : Nat) : Prop := ∃ o, ops[j]? = some o ∧ o.dst = some t
def wB (F : Nat → List Nat × List Nat) (k j : Nat) : Prop := k ∈ (F j).2
section
variable {P : Program} {Γ : Cons} {τ : Tab} {X : Ctx} {ops : Array Oper} {S : Nat → RS} {F : Nat → List Nat × List Nat} {D : Nat → Prop} {N : Nat}
theorem Traced.next_mono (T : Traced Γ τ N ops S F) : ∀ {i j : Nat}, i ≤ j → j ≤ ops.size → (S i).next ≤ (S j).next := by
  intro i j hij
  induction j with
  | zero => intro _; obtain rfl : i = 0 := by omega
            exact Nat.le_refl _
  | succ j ih =>
    intro hj
    by_cases h : i = j + 1
    · subst h; exact Nat.le_refl _
    · have := (T.stp j ops[j] (Array.getElem?_eq_getElem (by omega))).spec.next
      exact Nat.le_trans (ih (by omega) (by omega)) this
theorem Traced.te (T : Traced Γ τ N ops S F) : ∀ k, k ≤ ops.size → ∀ t g wt x, (t, (g, wt), x) ∈ (S k).te → ∃ i o, i < k ∧ ops[i]? = some o ∧ g ∈ gslot ops.toList o
  | 0, _, t, g, wt, x, h => by rw [T.te0] at h; simp at h
  | k + 1, hk, t, g, wt, x, h => by
    have ho : ops[k]? = some ops[k] := Array.getElem?_eq_getElem (by omega)
    rcases (T.stp k _ ho).spec.slots.te t g wt x h with h | ⟨_, h⟩
    · obtain ⟨i, o, h1, h2⟩ := T.te k (by omega) t g wt x h; exact ⟨i, o, by omega, h2⟩
    · exact ⟨k, _, by omega, ho, h⟩
theorem Traced.same (T : Traced Γ τ N ops S F) {t j : Nat} (hj : j < ops.size) (hw : ¬ wS ops t j) : SameS t (S j) (S (j + 1)) := by
  have ho : ops[j]? = some ops[j] := Array.getElem?_eq_getElem hj
  refine (T.stp j _ ho).spec.slots.other t (fun h => hw ⟨_, ho, h⟩) fun g wt x hx hd => ?_
  obtain ⟨i, o, h1, h2, h3⟩ := T.te j (by omega) t g wt x hx
  exact T.guard i j o _ g h1 h2 ho hd h3
/-- What D has made of a slot, of a block. -/
noncomputable def vS (ops : Array Oper) (S : Nat → RS) (D : Nat → Prop) (t : Nat) : RS := lastV S (wS ops t) D ops.size
noncomputable def vB (ops : Array Oper) (S : Nat → RS) (F : Nat → List Nat × List Nat) (D : Nat → Prop) (k : Nat) : Option Blk := lk k (lastV S (wB F k) D ops.size).heap
theorem vS_cases (t : Nat) : ∀ m, lastV S (wS ops t) D m = S 0 ∨ ∃ j, j < m ∧ D j ∧ wS ops t j ∧ lastV S (wS ops t) D m = S (j + 1)
  | 0 => .inl rfl
  | m + 1 => by
    simp only [lastV]
    split
    · rename_i h; exact .inr ⟨m, by omega, h.1, h.2, rfl⟩
    · rcases vS_cases t m with h | ⟨j, h1, h2⟩
      · exact .inl h
      · exact .inr ⟨j, by omega, h2⟩
/-- Which operations may have come up: with each, those that it waits for. -/
structure Down (ops : Array Oper) (D : Nat → Prop) : Prop where
  anc : ∀ j, j < ops.size → D j → ∀ A, (ancs ops.toList [])[j]? = some A → ∀ k ∈ A, D k
structure Up1 (ops : Array Oper) (D : Nat → Prop) (i : Nat) : Prop where
  lt : i < ops.size
  no : ¬ D i
  anc : ∀ A, (ancs ops.toList [])[i]? = some A → ∀ k ∈ A, D k
theorem ancs_get (j : Nat) (hj : j < ops.size) : ∃ A, (ancs ops.toList [])[j]? = some A := by
  have := (ancs_spec ops.toList []).1
  exact ⟨_, List.getElem?_eq_getElem (by simp at this; omega)⟩
/-- Writers of a place that i touches have come up exactly if they stand before it. -/
theorem writers (T : Traced Γ τ N ops S F) (hD : Down ops D) {i : Nat} {o : Oper} (hi : Up1 ops D i) (ho : ops[i]? = some o) {j : Nat} {oj : Oper} (hj : j < ops.size) (hoj : ops[j]? = some oj)
    (h1 : j < i → clash (foot ops.toList oj (F j)) (foot ops.toList o (F i)) = true) (h2 : i < j → clash (foot ops.toList o (F i)) (foot ops.toList oj (F j)) = true) : D j ↔ j < i := by
  constructor
  · intro hd
    rcases Nat.lt_trichotomy j i with h | h | h
    · exact h
    · subst h; exact absurd hd hi.no
    · obtain ⟨A, hA⟩ := ancs_get (ops := ops) j hj
      exact absurd (hD.anc j hj hd A hA i (T.clash i j o oj h ho hoj (h2 h) A hA)) hi.no
  · intro h
    obtain ⟨A, hA⟩ := ancs_get (ops := ops) i hi.lt
    exact hi.anc A hA j (T.clash j i oj o h hoj ho (h1 h) A hA)
theorem clash_wr {a b : Foot} (h : hits a.wt b.rt = true) : clash a b = true := by simp [clash, h]
theorem clash_rw {a b : Foot} (h : hits a.rt b.wt = true) : clash a b = true := by simp [clash, h]
theorem clash_ww {a b : Foot} (h : hits a.wt b.wt = true) : clash a b = true := by simp [clash, h]
theorem clash_Bwr {a b : Foot} (h : hits a.wb b.rb = true) : clash a b = true := by simp [clash, h]
theorem clash_Brw {a b : Foot} (h : hits a.rb b.wb = true) : clash a b = true := by simp [clash, h]
theorem clash_Bww {a b : Foot} (h : hits a.wb b.wb = true) : clash a b = true := by simp [clash, h]
/-- A slot that i reads is as the text has it. -/
theorem slot_now (T : Traced Γ τ N ops S F) (hD : Down ops D) {i : Nat} {o : Oper} (hi : Up1 ops D i) (ho : ops[i]? = some o) {t : Nat} (ht : t ∈ looks ops.toList o) : SameS t (vS ops S D t) (S i) := by
  refine lastV_agree (SameS t) (.refl t) (fun _ _ _ => .trans) ops.size i (Nat.le_of_lt hi.lt) (fun j hj hw => T.same hj hw) (fun j hj hw => ?_) (fun _ _ => .symm)
  obtain ⟨oj, hoj, hd⟩ := hw
  exact writers T hD hi ho hj hoj (fun _ => clash_wr (hits_iff.2 ⟨t, by simp [foot, hd], ht⟩)) (fun _ => clash_rw (hits_iff.2 ⟨t, ht, by simp [foot, hd]⟩))
theorem block_now (T : Traced Γ τ N ops S F) (hD : Down ops D) {i : Nat} {o : Oper} (hi : Up1 ops D i) (ho : ops[i]? = some o) {k : Nat} (hk : k ∈ (F i).1) : vB ops S F D k = lk k (S i).heap := by
  have := lastV_agree (S := S) (wr := wB F k) (D := D) (fun s s' => lk k s.heap = lk k s'.heap) (fun _ => rfl) (fun _ _ _ => Eq.trans) ops.size i (Nat.le_of_lt hi.lt) (fun j hj hw => ?_) (fun j hj hw => ?_) (fun _ _ => Eq.symm)
  · exact this
  · exact ((T.stp j _ (Array.getElem?_eq_getElem hj)).spec.heap k hw).symm
  · exact writers T hD hi ho hj (Array.getElem?_eq_getElem hj) (fun _ => clash_Bwr (hits_iff.2 ⟨k, hw, hk⟩)) (fun _ => clash_Brw (hits_iff.2 ⟨k, hk, hw⟩))
theorem vS_self (T : Traced Γ τ N ops S F) (hD : Down ops D) {i : Nat} {o : Oper} (hi : Up1 ops D i) (ho : ops[i]? = some o) {t : Nat} (ht : o.dst = some t) : vS ops S (fun j => D j ∨ j = i) t = S (i + 1) := by
  refine lastV_self (i := i) ⟨o, ho, ht⟩ ops.size hi.lt fun j hj hij hw hd => ?_
  obtain ⟨oj, hoj, hdj⟩ := hw
  have := (writers T hD hi ho hj hoj (fun _ => clash_ww (hits_iff.2 ⟨t, by simp [foot, hdj], by simp [foot, ht]⟩)) (fun _ => clash_ww (hits_iff.2 ⟨t, by simp [foot, ht], by simp [foot, hdj]⟩))).1 hd
  omega
theorem vB_self (T : Traced Γ τ N ops S F) (hD : Down ops D) {i : Nat} {o : Oper} (hi : Up1 ops D i) (ho : ops[i]? = some o) {k : Nat} (hk : k ∈ (F i).2) : vB ops S F (fun j => D j ∨ j = i) k = lk k (S (i + 1)).heap := by
  have := lastV_self (S := S) (wr := wB F k) (D := D) (i := i) hk ops.size hi.lt fun j hj hij hw hd => ?_
  · unfold vB; rw [this]
  · have := (writers T hD hi ho hj (Array.getElem?_eq_getElem hj) (fun _ => clash_Bww (hits_iff.2 ⟨k, hw, hk⟩)) (fun _ => clash_Bww (hits_iff.2 ⟨k, hk, hw⟩))).1 hd
    omega
theorem vS_other {i t : Nat} (h : ¬ wS ops t i) : vS ops S (fun j => D j ∨ j = i) t = vS ops S D t := lastV_other h _
theorem vB_other {i k : Nat} (h : k ∉ (F i).2) : vB ops S F (fun j => D j ∨ j = i) k = vB ops S F D k := by unfold vB; rw [lastV_other (wr := wB F k) h]
def okD (ops : Array Oper) (S : Nat → RS) (D : Nat → Prop) (i : Nat) : Prop := i < (S 0).next ∨ ∃ j, j < ops.size ∧ D j ∧ (S j).next ≤ i ∧ i < (S (j + 1)).next
def cxD (X : Ctx) (ops : Array Oper) (S : Nat → RS) (F : Nat → List Nat × List Nat) (D : Nat → Prop) (β : Nat → Nat) (w : World) : Cx := ⟨β, okD ops S D, fun q => (∃ k b, vB ops S F D k = some b ∧ β k = q) ∨ X.ow0 q, w⟩
structure Inv (X : Ctx) (ops : Array Oper) (S : Nat → RS) (F : Nat → List Nat × List Nat) (D : Nat → Prop) (β : Nat → Nat) (a : Act) (w : World) : Prop where
  slot : ∀ t, SlotOk (cxD X ops S F D β w) a (vS ops S D t) t
  heap : ∀ k b, vB ops S F D k = some b → BRel (cxD X ops S F D β w) k b ∧ okD ops S D k
  inj : ∀ k k' b b', vB ops S F D k = some b → vB ops S F D k' = some b' → b.dead = false → b'.dead = false → β k = β k' → k = k'
  own : ∀ k b, vB ops S F D k = some b → X.own (β k) ∨ X.w.heap.size ≤ β k
  frame : WExt X.w w X.own
  size : a.tmps.size = X.N
  defers : a.defers = []
  beta : ∀ i, i < X.n0 → β i = X.β0 i
theorem Inv.now (T : Traced Γ τ N ops S F) {β : Nat → Nat} {a : Act} {w : World} (hI : Inv X ops S F D β a w) (hD : Down ops D) {i : Nat} {o : Oper} (hi : Up1 ops D i) (ho : ops[i]? = some o) (nb : List Blk) (hnb : (S i).next + nb.length ≤ (S (i + 1)).next) :
    Now (cxD X ops S F D β w) (S i).heap (S i).next (F i).1 nb := by
  refine ⟨fun k hk b hb => ?_, fun k hk k' hk' b b' hb hb' => ?_, fun i' hge hlt' hok => ?_, X.glo' hI.frame fun q hq => ?_⟩
  · have hv : vB ops S F D k = some b := by rw [block_now T hD hi ho hk]; exact hb
    exact ⟨(hI.heap k b hv).1, (hI.heap k b hv).2, .inl ⟨k, b, hv, rfl⟩⟩
  · exact hI.inj k k' b b' (by rw [block_now T hD hi ho hk]; exact hb) (by rw [block_now T hD hi ho hk']; exact hb')
  · rcases hok with h | ⟨j, h1, h2, h3, h4⟩
    · have := T.next_mono (Nat.zero_le i) (Nat.le_of_lt hi.lt); omega
    · rcases Nat.lt_trichotomy j i with h | h | h
      · have := T.next_mono (i := j + 1) (j := i) (by omega) (Nat.le_of_lt hi.lt); omega
      · subst h; exact hi.no h2
      · have := T.next_mono (i := i + 1) (j := j) (by omega) (by omega); omega
  · rcases hq with ⟨k, b, hb, rfl⟩ | h0
    · obtain ⟨⟨c, hc, _⟩, _⟩ := hI.heap k b hb
      exact .inr ⟨hI.own k b hb, _, _, hc⟩
    · exact .inl h0
end
end Go.Proofs.Ytpilblmncpeelaa.AM

namespace Go.Proofs.Ytpilblmncpeelaa.AM
open Classical
theorem setD_slot {C : Cx} {N t : Nat} {x : AV} {cv : Value} {s s' : RS} {a : Act} (h : setD N (some t) x s = some s') (hN : a.tmps.size = N) (hx : Rel C x cv) : SlotOk C (a.put (some t) cv) s' t := by
  simp only [setD] at h
  cases hd : Nat.blt t N with
  | false => simp [hd] at h
  | true =>
    have hd' : t < N := by simpa using hd
    simp only [hd, cond_true, Option.some.injEq] at h
    subst h
    refine ⟨fun y hy => ?_, fun g wt y hy => absurd rfl (mem_delT hy).1⟩
    have hy' : lk t (pt t x s.env) = some y := hy
    rw [lk_pt, if_pos rfl] at hy'
    injection hy' with hy'
    subst hy'
    exact ⟨cv, by simp [Act.put, hN, hd'], hx⟩
theorem skipD_slot {C : Cx} {N t : Nat} {cv : Value} {s s' : RS} {a : Act} (h : skipD N (some t) s = some s') : SlotOk C (a.put (some t) cv) s' t := by
  simp only [skipD] at h
  cases hd : Nat.blt t N with
  | false => simp [hd] at h
  | true =>
    simp only [hd, cond_true, Option.some.injEq] at h
    subst h
    exact ⟨fun y hy => absurd rfl (lk_dl t t s.env y hy).1, fun g wt y hy => absurd rfl (mem_delT hy).1⟩
theorem setO_slot {C : Cx} {N t : Nat} {v : Option AV} {cv : Value} {s s' : RS} {a : Act} (h : setO N (some t) v s = some s') (hN : a.tmps.size = N) (hx : ∀ x, v = some x → Rel C x cv) : SlotOk C (a.put (some t) cv) s' t := by
  cases v with
  | none => exact skipD_slot h
  | some x => exact setD_slot h hN (hx x rfl)
theorem setGO_slot {C : Cx} {N t g : Nat} {wt : Bool} {v : Option AV} {cv : Value} {s s' : RS} {a : Act} (h : setGO N (g, wt) (some t) v s = some s') (hN : a.tmps.size = N) (hx : a.tmps[g]? = some (.bool wt) → ∀ x, v = some x → Rel C x cv) (hu : a.tmps[g]? ≠ some (.bool wt) → cv = undef) :
    SlotOk C (a.put (some t) cv) s' t := by
  cases v with
  | none => exact skipD_slot h
  | some x =>
    simp only [setGO, setG] at h
    cases hd : (Nat.blt t N && !Nat.beq t g) with
    | false => rw [hd] at h; simp at h
    | true =>
      rw [hd] at h
      simp only [cond_true, Option.some.injEq] at h
      simp only [Bool.and_eq_true, Bool.not_eq_true'] at hd
      have hd' : t < N := by simpa using hd.1
      have hgd : t ≠ g := beq_false.1 hd.2
      subst h
      refine ⟨fun y hy => absurd rfl (lk_dl t t s.env y hy).1, fun g' wt' y hy => ?_⟩
      simp only [List.mem_cons, Prod.mk.injEq] at hy
      rcases hy with ⟨_, ⟨rfl, rfl⟩, rfl⟩ | hy
      · have hne : (a.put (some t) cv).tmps[g']? = a.tmps[g']? := by simp only [Act.put, Array.getElem?_setIfInBounds]; rw [if_neg hgd]
        rw [hne]
        exact ⟨fun h => ⟨cv, by simp [Act.put, hN, hd'], hx h y rfl⟩, fun h => by rw [hu h]; simp [Act.put, hN, hd']⟩
      · exact absurd rfl (mem_delT hy).1
theorem SlotOk.mono {C D : Cx} {a : Act} {s : RS} {t : Nat} (h : SlotOk C a s t) (hr : ∀ x v, Rel C x v → Rel D x v) : SlotOk D a s t :=
  ⟨fun x hx => (h.1 x hx).imp fun v hv => ⟨hv.1, hr x v hv.2⟩, fun g wt x hx => ⟨fun hg => ((h.2 g wt x hx).1 hg).imp fun v hv => ⟨hv.1, hr x v hv.2⟩, (h.2 g wt x hx).2⟩⟩
theorem SlotOk.put {C : Cx} {a : Act} {s : RS} {t : Nat} (h : SlotOk C a s t) {d : Option Nat} {cv : Value} (ht : d ≠ some t) (hg : ∀ g wt x, (t, (g, wt), x) ∈ s.te → d ≠ some g) : SlotOk C (a.put d cv) s t := by
  cases d with
  | none => exact h
  | some d =>
    have e : ∀ k, d ≠ k → (a.put (some d) cv).tmps[k]? = a.tmps[k]? := fun k hk => by simp only [Act.put, Array.getElem?_setIfInBounds]; rw [if_neg hk]
    refine ⟨fun x hx => by rw [e t (fun h => ht (by rw [h]))]; exact h.1 x hx, fun g wt x hx => ?_⟩
    rw [e t (fun h => ht (by rw [h])), e g (fun h => hg g wt x hx (by rw [h]))]
    exact h.2 g wt x hx
theorem ids_named {k : Nat} : ∀ {n : Nat} {nb : List Blk}, k ∈ ids n nb → lk k (named n nb) ≠ none
  | n, [], h => by simp [ids] at h
  | n, b :: nb, h => by
    simp only [ids, List.mem_cons] at h
    simp only [named, lk_cons]
    by_cases hn : n = k
    · rw [if_pos hn]; simp
    · rw [if_neg hn]
      rcases h with h | h
      · exact absurd h.symm hn
      · exact ids_named h
theorem keys_mem {k : Nat} : ∀ {u : Heap}, k ∈ keysOf u → ∃ b, (k, b) ∈ u
  | [], h => by simp [keysOf] at h
  | (i, c) :: u, h => by
    simp only [keysOf, List.mem_cons] at h
    rcases h with rfl | h
    · exact ⟨c, by simp⟩
    · obtain ⟨b, hb⟩ := keys_mem h; exact ⟨b, by simp [hb]⟩
section
variable {P : Program} {Γ : Cons} {τ : Tab} {X : Ctx} {ops : Array Oper} {S : Nat → RS} {F : Nat → List Nat × List Nat} {D : Nat → Prop}
/-- After operation i. -/
theorem Inv.exec (T : Traced Γ τ X.N ops S F) (hn0 : X.n0 ≤ (S 0).next) {β : Nat → Nat} {a : Act} {w : World} (hI : Inv X ops S F D β a w) (hD : Down ops D) {i : Nat} {o : Oper} (hi : Up1 ops D i) (ho : ops[i]? = some o)
    {v : Option AV} {nb : List Blk} {u : Heap} {cv : Value} {w' : World} (hL : Leaves (cxD X ops S F D β w) (S i).next v nb u cv w') (hheap : (S (i + 1)).heap = named (S i).next nb ++ pts u (S i).heap) (hnext : (S (i + 1)).next = (S i).next + nb.length)
    (hF2 : (F i).2 = ids (S i).next nb ++ keysOf u) (hu : ∀ k b, (k, b) ∈ u → k ∈ (F i).1 ∧ ∃ b', lk k (S i).heap = some b' ∧ b'.dead = false)
    (hdst : ∀ t C', o.dst = some t → (∀ x, v = some x → Rel C' x cv) → SlotOk C' (a.put o.dst cv) (S (i + 1)) t) : ∃ β', Inv X ops S F (fun j => D j ∨ j = i) β' (a.put o.dst cv) w' := by
  obtain ⟨C', hA⟩ := hL
  obtain ⟨w1, w2, w3, w4, w5, w6, w7, w8, w9⟩ := hA
  subst w1
  have lt : ∀ k b, vB ops S F D k = some b → okD ops S D k ∧ β k < w.heap.size := fun k b hb => by
    obtain ⟨⟨c, hc, _⟩, h2⟩ := hI.heap k b hb
    exact ⟨h2, (Array.getElem?_eq_some_iff.1 hc).1⟩
  have βo : ∀ k, okD ops S D k → C'.β k = β k := fun k hk => w2.β k hk
  have key : ∀ k b, vB ops S F (fun j => D j ∨ j = i) k = some b → ((S i).next ≤ k ∧ k < (S i).next + nb.length ∧ (k, b) ∈ named (S i).next nb) ∨ ((∃ b', vB ops S F D k = some b') ∧ ((k, b) ∈ u ∨ (vB ops S F D k = some b ∧ ∀ c, (k, c) ∉ u))) := by
    intro k b hb
    by_cases hk : k ∈ (F i).2
    · rw [vB_self T hD hi ho hk, hheap, lk_append] at hb
      cases hn : lk k (named (S i).next nb) with
      | some b' =>
        rw [hn] at hb
        simp only [Option.some_or, Option.some.injEq] at hb
        subst hb
        obtain ⟨h1, h2, h3⟩ := lk_named _ _ hn
        exact .inl ⟨h2, h3, h1⟩
      | none =>
        rw [hn] at hb
        simp only [Option.none_or] at hb
        rw [hF2, List.mem_append] at hk
        rcases hk with hk | hk
        · exact absurd hn (ids_named hk)
        · obtain ⟨c, hc⟩ := keys_mem hk
          obtain ⟨h1, b', h2, _⟩ := hu k c hc
          refine .inr ⟨⟨b', by rw [block_now T hD hi ho h1]; exact h2⟩, ?_⟩
          rcases lk_pts u _ hb with h | ⟨_, h⟩
          · exact .inl h
          · exact absurd hc (h c)
    · rw [vB_other hk] at hb
      refine .inr ⟨⟨b, hb⟩, .inr ⟨hb, fun c hc => hk ?_⟩⟩
      rw [hF2, List.mem_append]; exact .inr (mem_keysOf hc)
  have live : ∀ k b, ((k, b) ∈ u ∨ (vB ops S F D k = some b ∧ ∀ c, (k, c) ∉ u)) → b.dead = false → ∃ b', vB ops S F D k = some b' ∧ b'.dead = false := fun k b h hd => by
    rcases h with h | ⟨h, _⟩
    · obtain ⟨h1, b', h2, h3⟩ := hu k b h
      exact ⟨b', by rw [block_now T hD hi ho h1]; exact h2, h3⟩
    · exact ⟨b, h, hd⟩
  have alias : ∀ k k' b, (∃ q, (cxD X ops S F D β w).ok q ∧ C'.β k = β q ∧ (∃ b, (q, b) ∈ u) ∧ ∀ b, (q, b) ∈ u → b.dead = true) → ((k', b) ∈ u ∨ (vB ops S F D k' = some b ∧ ∀ c, (k', c) ∉ u)) → b.dead = false → C'.β k = β k' → False := by
    rintro k k' b ⟨q, _, h1, ⟨b0, hb0⟩, h2⟩ h3 hd he
    obtain ⟨d1, e1, e2⟩ := live k' b h3 hd
    obtain ⟨h4, d2, e3, e4⟩ := hu q b0 hb0
    have := hI.inj q k' d2 d1 (by rw [block_now T hD hi ho h4]; exact e3) e1 e4 e2 (h1.symm.trans he)
    subst this
    rcases h3 with h3 | ⟨_, h3⟩
    · rw [h2 _ h3] at hd; cases hd
    · exact h3 _ hb0
  have okup : ∀ k, okD ops S D k → okD ops S (fun j => D j ∨ j = i) k := fun k h => h.imp id fun ⟨j, h1, h2, h3⟩ => ⟨j, h1, .inl h2, h3⟩
  have hok : ∀ k, C'.ok k → (cxD X ops S F (fun j => D j ∨ j = i) C'.β C'.w).ok k := by
    intro k hk
    rcases (w3 k).1 hk with h | ⟨h1, h2⟩
    · exact okup k h
    · exact .inr ⟨i, hi.lt, .inr rfl, h1, by rw [hnext]; exact h2⟩
  have how : ∀ q, (cxD X ops S F (fun j => D j ∨ j = i) C'.β C'.w).ow q → C'.ow q := by
    rintro q (⟨k, b, hb, rfl⟩ | h0)
    · rw [w4]
      rcases key k b hb with ⟨h1, h2, _⟩ | ⟨⟨b', hb'⟩, _⟩
      · exact .inr ⟨k, h1, h2, rfl⟩
      · exact .inl (.inl ⟨k, b', hb', (βo k (lt k b' hb').1).symm⟩)
    · rw [w4]; exact .inl (.inr h0)
  have tr : ∀ (x : AV) (q : Value), Rel C' x q → Rel (cxD X ops S F (fun j => D j ∨ j = i) C'.β C'.w) x q := fun x q h => h.shrink rfl hok how rfl
  have trB : ∀ k b, BRel C' k b → BRel (cxD X ops S F (fun j => D j ∨ j = i) C'.β C'.w) k b := fun k b h => h.shrink rfl hok how rfl
  refine ⟨C'.β, ⟨fun t => ?_, fun k b hb => ?_, fun k k' b b' hb hb' hd hd' he => ?_, fun k b hb => ?_, ?_, ?_, ?_, fun k hk => ?_⟩⟩
  · by_cases ht : o.dst = some t
    · rw [vS_self T hD hi ho ht]
      exact hdst t _ ht (fun x hx => tr x cv (w7 x hx))
    · rw [vS_other (fun ⟨o', ho', h⟩ => ht (by rw [ho] at ho'; injection ho' with ho'; rw [ho']; exact h))]
      refine ((hI.slot t).mono fun x q h => tr x q (h.mono w2)).put ht fun g wt x hx hd => ?_
      rcases vS_cases (ops := ops) (S := S) (D := D) t ops.size with h | ⟨j, h1, h2, ⟨oj, hoj, hdj⟩, h⟩
      · have : vS ops S D t = S 0 := h
        rw [this, T.te0] at hx; simp at hx
      · have hv : vS ops S D t = S (j + 1) := h
        rw [hv] at hx
        have hg := (T.stp j oj hoj).spec.slots.self t g wt x hdj hx
        rcases Nat.lt_trichotomy j i with hji | hji | hji
        · exact T.guard j i oj o g hji hoj ho hd hg
        · subst hji; exact hi.no h2
        · have := (writers T hD hi ho h1 hoj (fun h => by omega) (fun _ => clash_wr (hits_iff.2 ⟨g, by simp [foot, hd], by simp only [foot, looks, List.mem_append]; exact .inr (.inl hg)⟩))).1 h2
          omega
  · rcases key k b hb with ⟨h1, h2, h3⟩ | ⟨⟨b', hb'⟩, h3⟩
    · exact ⟨trB k b (w8 k b h3), hok k ((w3 k).2 (.inr ⟨h1, h2⟩))⟩
    · refine ⟨trB k b ?_, okup k (lt k b' hb').1⟩
      rcases h3 with h3 | ⟨h3, h4⟩
      · exact w9 k b h3
      · cases hd : b.dead with
        | true => exact BRel.gone w2 (C := cxD X ops S F D β w) (lt k b h3).1 (hI.heap k b h3).1 hd
        | false =>
          refine BRel.mono w2 (C := cxD X ops S F D β w) (lt k b h3).1 ?_ (hI.heap k b h3).1
          rintro ⟨j, c, hjc, hj⟩
          obtain ⟨h5, b2, hb2, hd2⟩ := hu j c hjc
          have := hI.inj j k b2 b (by rw [block_now T hD hi ho h5]; exact hb2) h3 hd2 hd hj
          subst this
          exact h4 c hjc
  · rcases key k b hb with ⟨a1, a2, _⟩ | ⟨⟨b1, hb1⟩, a4⟩ <;> rcases key k' b' hb' with ⟨c1, c2, _⟩ | ⟨⟨b2, hb2⟩, c4⟩
    · exact w6 k k' a1 a2 c1 c2 he
    · have h2 := lt k' b2 hb2
      rw [βo k' h2.1] at he
      rcases w5 k a1 a2 with h1 | h1
      · have h1' : w.heap.size ≤ C'.β k := h1
        omega
      · exact (alias k k' b' h1 c4 hd' he).elim
    · have h2 := lt k b1 hb1
      rw [βo k h2.1] at he
      rcases w5 k' c1 c2 with h1 | h1
      · have h1' : w.heap.size ≤ C'.β k' := h1
        omega
      · exact (alias k' k b h1 a4 hd he.symm).elim
    · rw [βo k (lt k b1 hb1).1, βo k' (lt k' b2 hb2).1] at he
      obtain ⟨d1, e1, e2⟩ := live k b a4 hd
      obtain ⟨d2, e3, e4⟩ := live k' b' c4 hd'
      exact hI.inj k k' d1 d2 e1 e3 e2 e4 he
  · rcases key k b hb with ⟨a1, a2, _⟩ | ⟨⟨b1, hb1⟩, _⟩
    · rcases w5 k a1 a2 with h1 | ⟨j, _, h1, ⟨c, hc⟩, _⟩
      · exact .inr (Nat.le_trans hI.frame.size h1)
      · obtain ⟨h5, b2, hb2, _⟩ := hu j c hc
        rw [h1]; exact hI.own j b2 (by rw [block_now T hD hi ho h5]; exact hb2)
    · rw [βo k (lt k b1 hb1).1]; exact hI.own k b1 hb1
  · refine hI.frame.trans w2.wx (fun _ h => h) ?_
    rintro q hq ⟨j, c, hjc, rfl⟩
    obtain ⟨h5, b2, hb2, _⟩ := hu j c hjc
    rcases hI.own j b2 (by rw [block_now T hD hi ho h5]; exact hb2) with h1 | h1
    · exact h1
    · have : X.w.heap.size ≤ (cxD X ops S F D β w).β j := h1
      omega
  · cases o.dst <;> simp [Act.put, hI.size]
  · cases o.dst <;> simp [Act.put, hI.defers]
  · rw [βo k (.inl (Nat.lt_of_lt_of_le hk hn0))]; exact hI.beta k hk
theorem setO_heap {N : Nat} {d : Option Nat} {v : Option AV} {s s' : RS} (h : setO N d v s = some s') : s'.heap = s.heap ∧ s'.next = s.next := (setO_step h []).2
/-- One operation, whenever it comes up. -/
theorem op_any (hB : Base P Γ τ) (T : Traced Γ τ X.N ops S F) (hn0 : X.n0 ≤ (S 0).next) {Q : Exit → Act → World → Prop} {K : Act → World → Prop} {β : Nat → Nat} {a : Act} {w : World} (hI : Inv X ops S F D β a w) (hD : Down ops D) {i : Nat} (hi : Up1 ops D i)
    (hK : ∀ β' a' w', Inv X ops S F (fun j => D j ∨ j = i) β' a' w' → K a' w') : wpOp P ops Q i K a w := by
  obtain ⟨o, ho⟩ : ∃ o, ops[i]? = some o := ⟨_, Array.getElem?_eq_getElem hi.lt⟩
  unfold wpOp
  simp only [ho]
  have hslot : ∀ t, t ∈ looks ops.toList o → SlotOk (cxD X ops S F D β w) a (S i) t := fun t ht => (hI.slot t).same (slot_now T hD hi ho ht)
  have hops : ∀ t, t ∈ tmpsOf o.op.operands.toList → SlotOk (cxD X ops S F D β w) a (S i) t := fun t ht => hslot t (by simp [looks, ht])
  have hst := T.stp i o ho
  generalize hf : F i = f at hst
  cases hst with
  | @plain v nb rd u ob hg he hob hs =>
    obtain ⟨e1, e2⟩ := setO_heap hs
    have hw : Region.wanted o (yielded ops a.tmps) = true := by simp [Region.wanted, hg]
    rw [if_pos hw]
    left
    have hnow := hI.now T hD hi ho nb (by rw [e2]; exact Nat.le_refl _)
    rw [hf] at hnow
    obtain ⟨hy, hu⟩ := effG_slot hB hops (G := []) (by simp) he hob hnow
    refine Yld.wp (hy.mono fun cv w' hL => ?_)
    obtain ⟨β', hI'⟩ := hI.exec T hn0 hD hi ho hL e1 e2 (by rw [hf]) (by rw [hf]; exact hu) (fun t C' ht hx => by rw [ht] at hs ⊢; exact setO_slot hs hI.size hx)
    exact hK β' _ w' hI'
  | @tag j want gs b v rd ob hg hgs hv he hob hs =>
    obtain ⟨e0, e1, e2⟩ := setGO_step hs (gs := gslot ops.toList o) (by rw [gslot_of hg hgs]; simp)
    have hgl : gs ∈ looks ops.toList o := by simp [looks, gslot_of hg hgs]
    obtain ⟨s1, s2⟩ := hslot gs hgl
    have hwant := wanted_of (a := a) hg hgs
    have hval : a.tmps[gs]? = some (.bool want) → b = want := by
      intro hc
      unfold gval at hv
      cases hte : lk gs (S i).te with
      | none =>
        rw [hte] at hv
        obtain ⟨v, h1, h2⟩ := s1 _ hv
        rw [hc] at h1
        injection h1 with h1
        have := h2.bool_inv
        rw [← h1] at this; injection this with this; exact this.symm
      | some q =>
        obtain ⟨⟨g2, w2⟩, x⟩ := q
        rw [hte] at hv
        simp only [Option.some.injEq] at hv
        subst hv
        by_cases hg2 : a.tmps[g2]? = some (.bool w2)
        · obtain ⟨v, h1, h2⟩ := (s2 g2 w2 _ (lk_mem hte)).1 hg2
          rw [hc] at h1
          injection h1 with h1
          have := h2.bool_inv
          rw [← h1] at this; injection this with this; exact this.symm
        · have := (s2 g2 w2 _ (lk_mem hte)).2 hg2
          rw [hc] at this
          simp [undef] at this
    by_cases hw : Region.wanted o (yielded ops a.tmps) = true
    · rw [if_pos hw]
      left
      have hc := hwant.1 hw
      have hnow := hI.now T hD hi ho [] (T.next_mono (Nat.le_succ i) hi.lt)
      rw [hf] at hnow
      obtain ⟨hy, hu⟩ := effG_slot hB hops (G := [(gs, want)]) (fun p hp => by simp at hp; subst hp; exact hc) he (hob (chain_ok (C := cxD X ops S F D β w) (fun t ht => (hslot t ht).1) (fun t ht g wt x hx => (hslot t ht).2 g wt x hx) 4 gs hgl ⟨_, hc⟩) (hval hc)) hnow
      refine Yld.wp (hy.mono fun cv w' hL => ?_)
      obtain ⟨β', hI'⟩ := hI.exec T hn0 hD hi ho hL (by rw [e1]; rfl) (by rw [e2]; rfl) (by rw [hf]; rfl) (by simp) (fun t C' ht hx => by rw [ht] at hs ⊢; exact setGO_slot hs hI.size (fun _ => hx) (fun hn => absurd hc hn))
      exact hK β' _ w' hI'
    · rw [if_neg hw]
      have hc : ¬ a.tmps[gs]? = some (.bool want) := fun h => hw (hwant.2 h)
      have hL : Leaves (cxD X ops S F D β w) (S i).next none [] [] undef w := Leaves.same (C := cxD X ops S F D β w) (by simp)
      obtain ⟨β', hI'⟩ := hI.exec T hn0 hD hi ho hL (by rw [e1]; rfl) (by rw [e2]; rfl) (by rw [hf]; rfl) (by simp) (fun t C' ht hx => by rw [ht] at hs ⊢; exact setGO_slot hs hI.size (fun h => absurd h hc) (fun _ => rfl))
      exact hK β' _ w hI'
  | @yes j want gs v nb rd u ob hg hgs hv hn he hob hs =>
    obtain ⟨e1, e2⟩ := setO_heap hs
    have hgl : gs ∈ looks ops.toList o := by simp [looks, gslot_of hg hgs]
    obtain ⟨s1, s2⟩ := hslot gs hgl
    have hc : a.tmps[gs]? = some (.bool want) := by obtain ⟨q, h1, h2⟩ := s1 _ hv; rw [h1, h2.bool_inv]
    have hw := (wanted_of (a := a) hg hgs).2 hc
    rw [if_pos hw]
    left
    have hnow := hI.now T hD hi ho nb (by rw [e2]; exact Nat.le_refl _)
    rw [hf] at hnow
    obtain ⟨hy, hu⟩ := effG_slot hB hops (G := [(gs, want)]) (fun p hp => by simp at hp; subst hp; exact hc) he hob hnow
    refine Yld.wp (hy.mono fun cv w' hL => ?_)
    obtain ⟨β', hI'⟩ := hI.exec T hn0 hD hi ho hL e1 e2 (by rw [hf]) (by rw [hf]; exact hu) (fun t C' ht hx => by rw [ht] at hs ⊢; exact setO_slot hs hI.size hx)
    exact hK β' _ w' hI'
  | @no j want gs hg hgs hv hn hs =>
    obtain ⟨e0, e1, e2⟩ := skipD_step hs []
    have hgl : gs ∈ looks ops.toList o := by simp [looks, gslot_of hg hgs]
    obtain ⟨s1, s2⟩ := hslot gs hgl
    have hc : a.tmps[gs]? = some (.bool (!want)) := by obtain ⟨q, h1, h2⟩ := s1 _ hv; rw [h1, h2.bool_inv]
    have hw : ¬ Region.wanted o (yielded ops a.tmps) = true := fun h => by
      have := (wanted_of (a := a) hg hgs).1 h
      rw [hc] at this; cases want <;> simp at this
    rw [if_neg hw]
    have hL : Leaves (cxD X ops S F D β w) (S i).next none [] [] undef w := Leaves.same (C := cxD X ops S F D β w) (by simp)
    obtain ⟨β', hI'⟩ := hI.exec T hn0 hD hi ho hL (by rw [e1]; rfl) (by rw [e2]; rfl) (by rw [hf]; rfl) (by simp) (fun t C' ht hx => by rw [ht] at hs ⊢; exact skipD_slot hs)
    exact hK β' _ w hI'
/-- The number of those that have not come up. -/
def left (l : Array Bool) : Nat → Nat
  | 0 => 0
  | n + 1 => left l n + (if l.getD n false = true then 0 else 1)
theorem left_set {l : Array Bool} {i : Nat} (hi : l.getD i false = false) : ∀ n, n ≤ l.size → left (l.setIfInBounds i true) n + (if i < n then 1 else 0) = left l n
  | 0, _ => by simp [left]
  | n + 1, hn => by
    have ih := left_set hi n (by omega)
    simp only [left]
    by_cases h : i = n
    · subst h
      have hlt : i < l.size := by omega
      have h1 : (l.setIfInBounds i true).getD i false = true := by simp [Array.getD_eq_getD_getElem?, hlt]
      rw [if_neg (Nat.lt_irrefl i)] at ih
      rw [h1, hi, if_pos rfl, if_pos (Nat.lt_succ_self i), if_neg (by simp)]
      omega
    · have h1 : (l.setIfInBounds i true).getD n false = l.getD n false := by simp [Array.getD_eq_getD_getElem?, h]
      rw [h1]
      generalize (if l.getD n false = true then 0 else 1) = q
      by_cases h2 : i < n
      · rw [if_pos h2] at ih; rw [if_pos (by omega)]; omega
      · rw [if_neg h2] at ih; rw [if_neg (by omega)]; omega
theorem left_zero {l : Array Bool} : ∀ n, left l n = 0 → ∀ i, i < n → l.getD i false = true
  | 0, _, i, hi => by omega
  | n + 1, h, i, hi => by
    simp only [left] at h
    by_cases hn : i = n
    · subst hn
      by_cases hq : l.getD i false = true
      · exact hq
      · rw [if_neg hq] at h; omega
    · exact left_zero n (by omega) i (by omega)
/-- Whatever comes up, from any point on. -/
theorem any_ok (hB : Base P Γ τ) (T : Traced Γ τ X.N ops S F) (hn0 : X.n0 ≤ (S 0).next) (he : edgesOk ops.toList 0 = true) {Q : Exit → Act → World → Prop} (hQ : ∀ D β a w, (∀ j, j < ops.size → D j) → Down ops D → Inv X ops S F D β a w → Q .normal a w) :
    ∀ (fuel : Nat) (listed : Array Bool) (β : Nat → Nat) (a : Act) (w : World), listed.size = ops.size → left listed ops.size ≤ fuel → Closed ops.toList (fun j => listed.getD j false = true) → Inv X ops S F (fun j => listed.getD j false = true) β a w → wpAny P .any ops Q fuel listed a w := by
  have down : ∀ (listed : Array Bool), Closed ops.toList (fun j => listed.getD j false = true) → Down ops (fun j => listed.getD j false = true) := fun listed hc => ⟨fun j hj hd A hA k hk => by
    have ho : ops.toList[j]? = some ops[j] := by simp [hj]
    exact anc_in hc j _ ho (fun e he hb => hc j _ ho hd e he hb) A hA k hk⟩
  -- nothing ready: all have come up
  have stuck : ∀ (listed : Array Bool), listed.size = ops.size → Region.ready .any ops listed = [] → ∀ j, j < ops.size → listed.getD j false = true := by
    intro listed hsz hr j
    induction j using Nat.strongRecOn with
    | _ j ih =>
      intro hj
      by_cases hd : listed.getD j false = true
      · exact hd
      · exfalso
        have ho : ops.toList[j]? = some ops[j] := by simp [hj]
        have : j ∈ Region.ready .any ops listed := by
          refine mem_ready.2 ⟨?_, ops[j], by simp [hj], fun e he' hb => ?_⟩
          · have : listed.getD j true = listed.getD j false := by simp [Array.getD_eq_getD_getElem?, Array.getElem?_eq_getElem (show j < listed.size by omega)]
            rw [this]; simpa using hd
          · have := edges_lt ops.toList 0 j _ he ho e (by simpa using he') hb
            exact ih e.on (by omega) (by omega)
        rw [hr] at this; simp at this
  intro fuel
  induction fuel with
  | zero =>
    intro listed β a w hsz hl hc hI
    have hall := left_zero ops.size (Nat.le_zero.1 hl)
    refine ⟨?_, hQ _ β a w hall (down listed hc) hI⟩
    cases hr : Region.ready .any ops listed with
    | nil => rfl
    | cons i r =>
      have hi : i ∈ Region.ready .any ops listed := by rw [hr]; simp
      obtain ⟨h1, o, ho, _⟩ := mem_ready.1 hi
      have hlt : i < ops.size := (Array.getElem?_eq_some_iff.1 ho).1
      have h2 := hall i hlt
      have : listed.getD i true = listed.getD i false := by simp [Array.getD_eq_getD_getElem?, Array.getElem?_eq_getElem (show i < listed.size by omega)]
      rw [this, h2] at h1; simp at h1
  | succ fuel ih =>
    intro listed β a w hsz hl hc hI
    refine ⟨fun hr => hQ _ β a w (stuck listed hsz hr) (down listed hc) hI, fun i hi => ?_⟩
    obtain ⟨h1, o, ho, h3⟩ := mem_ready.1 hi
    have hlt : i < ops.size := (Array.getElem?_eq_some_iff.1 ho).1
    have hno : listed.getD i false = false := by
      have : listed.getD i true = listed.getD i false := by simp [Array.getD_eq_getD_getElem?, Array.getElem?_eq_getElem (show i < listed.size by omega)]
      rw [← this]; exact h1
    have hol : ops.toList[i]? = some o := by simpa using ho
    have hup : Up1 ops (fun j => listed.getD j false = true) i := ⟨hlt, by rw [hno]; simp, fun A hA k hk => anc_in hc i o hol (fun e he hb => h3 e (by simpa using he) hb) A hA k hk⟩
    refine op_any hB T hn0 hI (down listed hc) hup fun β' a' w' hI' => ?_
    have hD' : (fun j => (listed.setIfInBounds i true).getD j false = true) = fun j => listed.getD j false = true ∨ j = i := by
      funext j
      apply propext
      by_cases h : i = j
      · subst h
        have hlt' : i < listed.size := by omega
        simp [Array.getD_eq_getD_getElem?, hlt']
      · have h' : ¬ j = i := fun e => h e.symm
        simp [Array.getD_eq_getD_getElem?, h, h']
    refine ih _ β' a' w' (by simpa using hsz) ?_ ?_ (by rw [hD']; exact hI')
    · have := left_set hno ops.size (by omega)
      rw [if_pos hlt] at this; omega
    · rw [hD']
      intro k ok hok hk e he hb
      rcases hk with hk | rfl
      · exact .inl (hc k ok hok hk e he hb)
      · rw [hok] at hol; injection hol with hol; subst hol
        exact .inl (h3 e (by simpa using he) hb)
end
end Go.Proofs.Ytpilblmncpeelaa.AM

namespace Go.Proofs.Ytpilblmncpeelaa.AM
open Classical
section
variable {P : Program} {Γ : Cons} {τ : Tab} {X : Ctx} {ops : Array Oper}
theorem Tr.states {N : Nat} : ∀ {l : List Oper} {s s' : RS} {fs : List (List Nat × List Nat)}, Tr Γ τ N ops l s s' fs → fs.length = l.length ∧ ∃ S : Nat → RS, S 0 = s ∧ S l.length = s' ∧ ∀ i o, l[i]? = some o → Stp Γ τ N ops o (S i) (S (i + 1)) (fs.getD i ([], []))
  | _, _, _, _, .nil => ⟨rfl, fun _ => _, rfl, rfl, by simp⟩
  | _, _, _, _, .cons (s := s) h t => by
    obtain ⟨h0, S, h1, h2, h3⟩ := t.states
    refine ⟨by simp [h0], fun i => match i with | 0 => s | i + 1 => S i, rfl, by simpa using h2, fun i o ho => ?_⟩
    cases i with
    | zero => simp at ho; subst ho; simpa [h1] using h
    | succ i => simpa using h3 i o (by simpa using ho)
theorem feet_get {all : List Oper} : ∀ {l : List Oper} {fs : List (List Nat × List Nat)}, fs.length = l.length → ∀ i o, l[i]? = some o → (feet all l fs)[i]? = some (foot all o (fs.getD i ([], [])))
  | [], _, _, i, o, h => by simp at h
  | p :: l, [], hl, i, o, h => by simp at hl
  | p :: l, f :: fs, hl, i, o, h => by
    cases i with
    | zero => simp at h; subst h; simp [feet]
    | succ i => simpa [feet] using feet_get (by simpa using hl) i o (by simpa using h)
theorem chk1_spec {f : Foot} {an : List Nat} : ∀ {k : Nat} {l : List Foot}, chk1 f an k l = true → ∀ i g, l[i]? = some g → (clash g f = true → k + i ∈ an) ∧ hits f.wt g.gs = false
  | k, [], _, i, g, h => by simp at h
  | k, q :: l, hc, i, g, h => by
    simp only [chk1, Bool.and_eq_true] at hc
    obtain ⟨⟨h1, h2⟩, h3⟩ := hc
    cases i with
    | zero =>
      simp at h; subst h
      refine ⟨fun hcl => ?_, by simpa using h2⟩
      rw [hcl] at h1
      simpa using h1
    | succ i =>
      have := chk1_spec h3 i g (by simpa using h)
      rw [show k + (i + 1) = k + 1 + i by omega]; exact this
theorem chkA_spec {fs : List Foot} : ∀ {k : Nat} {l : List Foot} {an : List (List Nat)}, chkA fs l an k = true → ∀ j f A, l[j]? = some f → an[j]? = some A → chk1 f A 0 (fs.take (k + j)) = true
  | k, [], an, _, j, f, A, h, _ => by simp at h
  | k, q :: l, [], _, j, f, A, _, h => by simp at h
  | k, q :: l, B :: an, hc, j, f, A, h1, h2 => by
    simp only [chkA, Bool.and_eq_true] at hc
    cases j with
    | zero => simp at h1 h2; subst h1; subst h2; exact hc.1
    | succ j =>
      have := chkA_spec hc.2 j f A (by simpa using h1) (by simpa using h2)
      rw [show k + (j + 1) = k + 1 + j by omega]; exact this
theorem traced_of {N : Nat} {s s' : RS} {fs : List (List Nat × List Nat)} (h : Tr Γ τ N ops ops.toList s s' fs) (hte : s.te = []) (hc : chk ops.toList fs.reverse = true) :
    ∃ S F, Traced Γ τ N ops S F ∧ S 0 = s ∧ S ops.size = s' ∧ edgesOk ops.toList 0 = true := by
  obtain ⟨h0, S, h1, h2, h3⟩ := h.states
  unfold chk at hc
  rw [List.reverse_reverse, Bool.and_eq_true] at hc
  have two : ∀ (i j : Nat) (oi oj : Oper), i < j → ops[i]? = some oi → ops[j]? = some oj → ∀ A, (ancs ops.toList [])[j]? = some A →
      (clash (foot ops.toList oi (fs.getD i ([], []))) (foot ops.toList oj (fs.getD j ([], []))) = true → i ∈ A) ∧ hits (foot ops.toList oj (fs.getD j ([], []))).wt (foot ops.toList oi (fs.getD i ([], []))).gs = false := by
    intro i j oi oj hij hi hj A hA
    have fi := feet_get (all := ops.toList) h0 i oi (by simpa using hi)
    have fj := feet_get (all := ops.toList) h0 j oj (by simpa using hj)
    have := chkA_spec hc.2 j _ A fj hA
    rw [Nat.zero_add] at this
    have := chk1_spec this i _ (by rw [List.getElem?_take_of_lt hij]; exact fi)
    simpa using this
  refine ⟨S, fun i => fs.getD i ([], []), ⟨fun i o ho => h3 i o (by simpa using ho), by rw [h1]; exact hte, fun i j oi oj hij hi hj hcl A hA => (two i j oi oj hij hi hj A hA).1 hcl, fun i j oi oj d hij hi hj hd hg => ?_⟩, h1, by simpa using h2, hc.1⟩
  obtain ⟨A, hA⟩ := ancs_get (ops := ops) j (Array.getElem?_eq_some_iff.1 hj).1
  have := (two i j oi oj hij hi hj A hA).2
  have h2 : hits (foot ops.toList oj (fs.getD j ([], []))).wt (foot ops.toList oi (fs.getD i ([], []))).gs = true := hits_iff.2 ⟨d, by simp [foot, hd], hg⟩
  rw [h2] at this; cases this
theorem lastV_none {S : Nat → RS} {wr D : Nat → Prop} (hD : ∀ j, ¬ D j) : ∀ m, lastV S wr D m = S 0
  | 0 => rfl
  | m + 1 => by simp only [lastV]; rw [if_neg (fun h => hD m h.1)]; exact lastV_none hD m
theorem draw_ok (hB : Base P Γ τ) (hm : P.follows .mixedOrders = true) : DrawOk P Γ τ := by
  intro X id ops Q R β s a w hR hs hte hsat
  obtain ⟨s', fs, h1, h2, h3⟩ := trace ops.toList s [] hsat
  rw [List.append_nil] at h2 h3
  obtain ⟨S, F, T, e0, em, hed⟩ := traced_of h1 hte h2
  refine wp_region_any hm (any_ok hB T (by rw [e0]; exact hs.n0) hed (fun D β a w hall hdn hI => ?_) ops.size _ β a _ (by simp) ?_ ?_ ?_)
  · refine hR β s' _ a w h3 ?_
    have hv : ∀ t, SameS t (vS ops S D t) (S ops.size) := fun t => lastV_agree (SameS t) (.refl t) (fun _ _ _ => .trans) ops.size ops.size (Nat.le_refl _) (fun j hj hw => T.same hj hw) (fun j hj _ => ⟨fun _ => hj, fun _ => hall j hj⟩) (fun _ _ => .symm)
    have hb : ∀ k, vB ops S F D k = lk k (S ops.size).heap := fun k =>
      lastV_agree (S := S) (wr := wB F k) (D := D) (fun s s' => lk k s.heap = lk k s'.heap) (fun _ => rfl) (fun _ _ _ => Eq.trans) ops.size ops.size (Nat.le_refl _) (fun j hj hw => ((T.stp j _ (Array.getElem?_eq_getElem hj)).spec.heap k hw).symm) (fun j hj _ => ⟨fun _ => hj, fun _ => hall j hj⟩) (fun _ _ => Eq.symm)
    rw [em] at hv hb
    have hok : ∀ k, okD ops S D k → k < s'.next := by
      rintro k (h | ⟨j, h1, _, _, h4⟩)
      · have := T.next_mono (Nat.zero_le ops.size) (Nat.le_refl _); rw [em] at this; omega
      · have := T.next_mono (i := j + 1) (j := ops.size) (by omega) (Nat.le_refl _); rw [em] at this; omega
    have how : ∀ q, (cxOf X β s'.heap s'.next w).ow q → (cxD X ops S F D β w).ow q := by
      rintro q (⟨k, b, hk, rfl⟩ | h0)
      · exact .inl ⟨k, b, by rw [hb k]; exact hk, rfl⟩
      · exact .inr h0
    have tr : ∀ (x : AV) (q : Value), Rel (cxD X ops S F D β w) x q → Rel (cxOf X β s'.heap s'.next w) x q := fun x q h => h.shrink rfl hok how rfl
    have hsl : ∀ t, SlotOk (cxOf X β s'.heap s'.next w) a s' t := fun t => ((hI.slot t).same (hv t)).mono tr
    refine ⟨fun t x hx => (hsl t).1 x hx, fun t g wt x hx hg => ((hsl t).2 g wt x hx).1 hg, fun t g wt x hx hg => ((hsl t).2 g wt x hx).2 hg, fun k b hk => ?_, fun k k' b b' hk hk' => hI.inj k k' b b' (by rw [hb]; exact hk) (by rw [hb]; exact hk'), fun k b hk => hI.own k b (by rw [hb]; exact hk), hI.frame, hI.size, hI.defers, hI.beta, ?_⟩
    · obtain ⟨q1, q2⟩ := hI.heap k b (by rw [hb]; exact hk)
      exact ⟨q1.shrink rfl hok how rfl, hok k q2⟩
    · have := T.next_mono (Nat.zero_le ops.size) (Nat.le_refl _)
      rw [em, e0] at this
      exact Nat.le_trans hs.n0 this
  · have : ∀ n, left (Array.replicate ops.size false) n ≤ n := by
      intro n
      induction n with
      | zero => simp [left]
      | succ n ih => simp only [left]; split <;> omega
    exact this ops.size
  · intro i o ho hd
    have hlt : i < ops.size := by have := (List.getElem?_eq_some_iff.1 ho).1; simpa using this
    simp [Array.getD_eq_getD_getElem?, hlt] at hd
  · have hD : ∀ j, ¬ (fun j => (Array.replicate ops.size false).getD j false = true) j := by
      intro j hd
      by_cases hlt : j < ops.size <;> simp [Array.getD_eq_getD_getElem?, hlt] at hd
    generalize (fun j => (Array.replicate ops.size false).getD j false = true) = D at hD
    have hvS : ∀ t, vS ops S D t = s := fun t => (lastV_none hD _).trans e0
    have hvB : ∀ k, vB ops S F D k = lk k s.heap := fun k => by unfold vB; rw [lastV_none hD, e0]
    have hext : Ext (cxOf X β s.heap s.next w) (cxD X ops S F D β { w with drawn := w.drawn + 1 }) (fun _ => False) := by
      refine ⟨⟨rfl, rfl, rfl, Nat.le_refl _, fun _ _ _ => rfl, fun k c T h => ⟨c, h, rfl⟩⟩, by simp, fun _ _ => rfl, fun i hi => .inl (by rw [e0]; exact hi), ?_⟩
      rintro q (⟨k, b, hk, rfl⟩ | h0)
      · exact .inl (.inl ⟨k, b, by rw [hvB] at hk; exact hk, rfl⟩)
      · exact .inl (.inr h0)
    refine ⟨fun t => ?_, fun k b hk => ?_, fun k k' b b' hk hk' => hs.inj k k' b b' (by rw [← hvB]; exact hk) (by rw [← hvB]; exact hk'), fun k b hk => hs.own k b (by rw [← hvB]; exact hk), ⟨hs.frame.os, hs.frame.tape, hs.frame.output, hs.frame.size, hs.frame.same, hs.frame.shape⟩, hs.size, hs.defers, hs.beta⟩
    · rw [hvS]
      exact ⟨fun x hx => (hs.env t x hx).imp fun v hv => ⟨hv.1, hv.2.mono hext⟩, fun g wt x hx => by rw [hte] at hx; simp at hx⟩
    · rw [hvB] at hk
      obtain ⟨q1, q2⟩ := hs.heap k b hk
      exact ⟨q1.mono hext q2 (by simp), .inl (by rw [e0]; exact q2)⟩
end
end Go.Proofs.Ytpilblmncpeelaa.AM

namespace Go.Proofs.Ytpilblmncpeelaa.AM
structure Entry where
  f : FuncId
  fn : Hold → List AV → Heap → Nat → Option (AV × List Blk × List Nat × Heap × List Prop)
def tabΓ : List Entry → Cons
  | [], _, _, _, _, _ => none
  | e :: r, H, f, a, h, n => match Nat.beq e.f f with
    | true => (match e.fn H a h n with
      | some x => some x
      | none => tabΓ r H f a h n)
    | false => tabΓ r H f a h n
def isBody (P : Program) (f : FuncId) : Prop := (P.funcs[f]?.map fun fn => (fn.name == "runtime.NumGoroutine", fn.body.isNone)) = some (false, false)
structure EntryOk (P : Program) (e : Entry) : Prop where
  body : isBody P e.f
  con : ∀ a h n r nb rd u ob, e.fn stdH a h n = some (r, nb, rd, u, ob) → AllP ob → (∀ i b, (i, b) ∈ u → i ∈ rd ∧ ∃ b', lk i h = some b' ∧ b'.dead = false) ∧ ∃ h0 : Heap, (∀ i b, lk i h0 = some b → i ∈ rd ∧ lk i h = some b) ∧ ConN P e.f a h0 n r nb u
theorem base_of {P : Program} {τ : Tab} {l : List Entry} (ht : TabOk P τ) (h : ∀ e ∈ l, EntryOk P e) : Base P (tabΓ l) τ := by
  refine ⟨ht, fun f a hp n r nb rd u ob e hob => ?_, fun f a hp n e => ?_⟩
  · induction l with
    | nil => simp [tabΓ] at e
    | cons x l ih =>
      cases hf : Nat.beq x.f f with
      | true =>
        simp only [tabΓ, hf] at e
        have := Nat.eq_of_beq_eq_true hf
        subst this
        cases hx : x.fn stdH a hp n with
        | none => rw [hx] at e; exact ih (fun y hy => h y (by simp [hy])) e
        | some q => rw [hx] at e; simp only [Option.some.injEq] at e; subst e; exact (h x (by simp)).con _ _ _ _ _ _ _ _ hx hob
      | false => simp only [tabΓ, hf] at e; exact ih (fun y hy => h y (by simp [hy])) e
  · induction l with
    | nil => simp [tabΓ] at e
    | cons x l ih =>
      cases hf : Nat.beq x.f f with
      | true => have := Nat.eq_of_beq_eq_true hf; subst this; exact (h x (by simp)).body
      | false => simp only [tabΓ, hf] at e; exact ih (fun y hy => h y (by simp [hy])) e
theorem ents_nil {P : Program} : ∀ e ∈ ([] : List Entry), EntryOk P e := by simp
theorem ents_cons {P : Program} {x : Entry} {l : List Entry} (h : EntryOk P x) (r : ∀ e ∈ l, EntryOk P e) : ∀ e ∈ x :: l, EntryOk P e := by
  intro e he
  rcases List.mem_cons.1 he with rfl | he
  · exact h
  · exact r e he
/-- A function that turns none of the caller's blocks. -/
def pureE (f : FuncId) (F : Hold → List AV → Option (AV × List Prop)) : Entry := ⟨f, fun H a _ _ => match F H a with
  | some (r, ob) => some (r, [], [], [], ob)
  | none => none⟩
theorem pureE_ok {P : Program} {f : FuncId} {F : Hold → List AV → Option (AV × List Prop)} (hb : isBody P f) (h : ∀ a r ob, F stdH a = some (r, ob) → AllP ob → Con P f a [] r []) : EntryOk P (pureE f F) := by
  refine ⟨hb, fun a hp n r nb rd u ob e hob => ?_⟩
  simp only [pureE] at e
  cases hF : F stdH a with
  | none => simp [hF] at e
  | some x =>
    obtain ⟨r', ob'⟩ := x
    simp only [hF, Option.some.injEq, Prod.mk.injEq] at e
    obtain ⟨rfl, rfl, rfl, rfl, rfl⟩ := e
    exact ⟨by simp, [], by simp [lk], (h a _ _ hF hob).toN n⟩

/-! ### Contracts with a property of the result -/
def Fin.sat0 (R : AV → Heap → Prop) : Fin → Prop
  | .ret (some x) h => R x h
  | .br b x y => (b = true → x.sat0 R) ∧ (b = false → y.sat0 R)
  | .need p x => AllP p ∧ x.sat0 R
  | _ => False
theorem Fin.leaf {R : AV → Heap → Prop} : ∀ {t : Fin}, t.sat0 R → ∃ x hp, R x hp ∧ ∀ (R' : AV → Heap → Prop) (P : Program) (X : Ctx) (τ : Tab) (rs : List ResultVar), R' x hp → t.sat P X τ rs R' (fun _ _ => False)
  | .ret (some x) h, e => ⟨x, h, e, fun _ _ _ _ _ k => ⟨x, rfl, k⟩⟩
  | .br true x y, e => by
    obtain ⟨a, b, h1, h2⟩ := Fin.leaf (e.1 rfl)
    exact ⟨a, b, h1, fun R' P X τ rs k => ⟨fun _ => h2 R' P X τ rs k, fun h => by cases h⟩⟩
  | .br false x y, e => by
    obtain ⟨a, b, h1, h2⟩ := Fin.leaf (e.2 rfl)
    exact ⟨a, b, h1, fun R' P X τ rs k => ⟨(fun h => by cases h), fun _ => h2 R' P X τ rs k⟩⟩
  | .need p x, e => by
    obtain ⟨a, b, h1, h2⟩ := Fin.leaf e.2
    exact ⟨a, b, h1, fun R' P X τ rs k => ⟨e.1, h2 R' P X τ rs k⟩⟩
theorem Fin.sat0_mono {R R' : AV → Heap → Prop} (hR : ∀ x h, R x h → R' x h) : ∀ {t : Fin}, t.sat0 R → t.sat0 R'
  | .ret (some x) h, e => hR x h e
  | .br _ _ _, e => ⟨fun h => Fin.sat0_mono hR (e.1 h), fun h => Fin.sat0_mono hR (e.2 h)⟩
  | .need _ _, e => ⟨e.1, Fin.sat0_mono hR e.2⟩
section
variable {P : Program} {Γ : Cons} {τ : Tab}
/-- What is handed out, of which the caller asks Φ. -/
def Out1 (n0 : Nat) (h : Heap) (Φ : AV → Heap → Prop) (x : AV) (hp : Heap) : Prop := ∃ r u, Frz n0 hp x r ∧ Bl 0 r ∧ (∀ i b, (i, b) ∈ u → lk i hp = some b ∧ (BlB 0 b ∧ b.dead = false) ∧ ∃ b', lk i h = some b') ∧ (∀ i b, lk i h = some b → ∃ b', (i, b') ∈ u) ∧ Φ r u
theorem con_ex (hB : Base P Γ τ) (hD : DrawOk P Γ τ) {f : FuncId} {fn : Func} {N : Nat} (hf : P.funcs[f]? = some fn) (hb0 : fn.body.isSome = true) (hN : fn.ntmps = N) (args : List AV) (h : Heap) (n0 : Nat) (Φ : AV → Heap → Prop) (fuel : Nat)
    (hlen : args.length ≤ N) (hargs : ∀ x ∈ args, Bl n0 x) (hblk : ∀ i b, lk i h = some b → i < n0 ∧ BlB n0 b)
    (hrun : ∀ (H : Hold), H = stdH → (finish H Γ τ N fuel fn.results.toList [] (arun H Γ τ N fuel [.code (bodyOf fn)] ⟨envOf 0 args, h, n0⟩)).sat0 (Out1 n0 h Φ)) : ∃ r u, Con P f args h r u ∧ Φ r u := by
  obtain ⟨x, hp, ⟨r, u, h1, h2, h3, h4, h5⟩, h6⟩ := Fin.leaf (hrun stdH rfl)
  refine ⟨r, u, con_ok hB hD hf hb0 hN args h n0 r u fuel hlen hargs (fun i b hi => ⟨(hblk i b hi).1, (hblk i b hi).2, h4 i b hi⟩) h2 (fun i b hi => (h3 i b hi).2) (fun X hX H hH => ?_), h5⟩
  subst hH
  exact h6 _ P X τ _ ⟨h1, fun i b hi => (h3 i b hi).1⟩

/-- A function that gives just r. -/
def Fin.sat1 (r : AV) : Fin → Prop
  | .ret v _ => v = some r
  | .br b x y => (b = true → x.sat1 r) ∧ (b = false → y.sat1 r)
  | .need p x => AllP p ∧ x.sat1 r
  | _ => False
theorem Fin.sat_of_sat1 {X : Ctx} {rs : List ResultVar} {r : AV} {n0 : Nat} : ∀ {t : Fin}, t.sat1 r → t.sat P X τ rs (fun x hp => Frz n0 hp x r ∧ ∀ i b, (i, b) ∈ ([] : Heap) → lk i hp = some b) (fun _ _ => False)
  | .ret v h, e => ⟨r, e, .refl, by simp⟩
  | .br _ x y, e => ⟨fun h => Fin.sat_of_sat1 (e.1 h), fun h => Fin.sat_of_sat1 (e.2 h)⟩
  | .need p x, e => ⟨e.1, Fin.sat_of_sat1 e.2⟩
theorem con_eq (hB : Base P Γ τ) (hD : DrawOk P Γ τ) {f : FuncId} {fn : Func} {N : Nat} (hf : P.funcs[f]? = some fn) (hb0 : fn.body.isSome = true) (hN : fn.ntmps = N) (args : List AV) (r : AV) (fuel : Nat) (hlen : args.length ≤ N) (hargs : ∀ x ∈ args, Bl 0 x) (hr : Bl 0 r)
    (hrun : ∀ (H : Hold), H = stdH → (finish H Γ τ N fuel fn.results.toList [] (arun H Γ τ N fuel [.code (bodyOf fn)] ⟨envOf 0 args, [], 0⟩)).sat1 r) : Con P f args [] r [] :=
  con_ok hB hD hf hb0 hN args [] 0 r [] fuel hlen hargs (by simp [lk]) hr (by simp) (fun X hX H hH => Fin.sat_of_sat1 (hrun H hH))

/-! ### Opening a tree up to its loops -/
section
variable {X : Ctx} {rs : List ResultVar} {R : AV → Heap → Prop} {As : Nat → St → Prop}
end
theorem lk_in {α : Type} : ∀ {l : List (Nat × α)} {k : Nat} {x : α}, lk k l = some x → (k, x) ∈ l
  | [], _, _, h => by simp [lk] at h
  | (j, y) :: l, k, x, h => by
    rw [lk_cons] at h
    by_cases h0 : j = k
    · rw [if_pos h0] at h; injection h with h; subst h; subst h0; simp
    · rw [if_neg h0] at h; exact List.mem_cons_of_mem _ (lk_in h)
/-- A state that knows less: no blocks, its values without names. -/
theorem StLe.ofP (π : Nat → Nat) {n0 m : Nat} {e : Env} {hp : Heap} {s : St} (h : ∀ p ∈ e, ∃ y, lk p.1 s.env = some y ∧ Rn π m p.2 y) (hh : ∀ p ∈ hp, p.1 < m ∧ ∃ b', lk (π p.1) s.heap = some b' ∧ RnB π m p.2 b') (hf : ∀ i, i < n0 → π i = i) (hi : ∀ i j, i < m → j < m → π i = π j → i = j) (hm : n0 ≤ m) : StLe n0 ⟨e, hp, m⟩ s :=
  ⟨π, fun _ _ hx => (h _ (lk_in hx)).imp fun _ h => ⟨h.1, .rn h.2⟩, fun _ _ hx => (hh _ (lk_in hx)).imp id fun h => h.imp fun _ h => ⟨h.1, h.2.z⟩, hf, hi, hm⟩
theorem RnB.same {m : Nat} {b : Blk} (h : BlB m b) : RnB (fun i => i) m b b := ⟨⟨rfl, fun h => h⟩, fun p x hx => ⟨x, hx, .same (fun _ _ => rfl) (Nat.le_refl _) (h p x hx)⟩⟩
/-- The same with the blocks as they stand. -/
theorem StLe.ofH {n0 m : Nat} {e : Env} {hp : Heap} {s : St} (h : ∀ p ∈ e, lk p.1 s.env = some p.2 ∧ Bl m p.2) (hh : ∀ p ∈ hp, lk p.1 s.heap = some p.2 ∧ p.1 < m ∧ BlB m p.2) (hm : n0 ≤ m) : StLe n0 ⟨e, hp, m⟩ s :=
  .ofP (fun i => i) (fun p hp => ⟨p.2, (h p hp).1, .same (fun _ _ => rfl) (Nat.le_refl _) (h p hp).2⟩) (fun p hp => ⟨(hh p hp).2.1, p.2, (hh p hp).1, .same (hh p hp).2.2⟩) (fun _ _ => rfl) (fun _ _ _ _ h => h) hm
theorem StLe.of {n0 : Nat} {e : Env} {s : St} (h : ∀ p ∈ e, lk p.1 s.env = some p.2 ∧ Bl n0 p.2) : StLe n0 ⟨e, [], n0⟩ s := .ofH h (by simp) (Nat.le_refl _)

/-! ### Contracts under other names -/
def mapK (π : Nat → Nat) (h : Heap) : Heap := h.map fun p => (π p.1, p.2)
theorem lk_mapK {π : Nat → Nat} {m : Nat} (hi : ∀ i j, i < m → j < m → π i = π j → i = j) : ∀ {h : Heap}, (∀ p ∈ h, p.1 < m) → ∀ {k : Nat} {b : Blk}, (lk k h = some b → lk (π k) (mapK π h) = some b)
  | [], _, k, b, h => by simp [lk] at h
  | (j, y) :: l, hm, k, b, h => by
    have hj : j < m := hm (j, y) (by simp)
    have hk : k < m := by have := lk_in h; exact hm (k, b) this
    simp only [mapK, List.map_cons, lk_cons] at h ⊢
    by_cases h0 : j = k
    · subst h0; rw [if_pos rfl] at h ⊢; exact h
    · rw [if_neg h0] at h
      rw [if_neg (fun e => h0 (hi j k hj hk e))]
      exact lk_mapK hi (fun p hp => hm p (by simp [hp])) h
theorem Con.ren {P : Program} {f : FuncId} {args args' : List AV} {hp u : Heap} {r : AV} {m : Nat} (π : Nat → Nat) (h : Con P f args hp r u) (hi : ∀ i j, i < m → j < m → π i = π j → i = j) (hl : args.length = args'.length) (ha : ∀ (c : Nat) (x y : AV), args[c]? = some x → args'[c]? = some y → Rn π m x y)
    (hh : ∀ p ∈ hp, p.1 < m ∧ BlB 0 p.2) (hr : Bl 0 r) (hu : ∀ p ∈ u, p.1 < m ∧ BlB 0 p.2 ∧ ∃ b', lk p.1 hp = some b') : Con P f args' (mapK π hp) r (mapK π u) := by
  intro C vs hv hb hinj hlt
  let D : Cx := ⟨fun i => C.β (π i), fun j => j < m, C.ow, C.w⟩
  have hl' : LRel D args vs := by
    refine ⟨hv.1.trans hl.symm, fun c x v hx hvv => ?_⟩
    have hc : c < args'.length := by rw [← hl]; exact (List.getElem?_eq_some_iff.1 hx).1
    exact (ha c x args'[c] hx (List.getElem?_eq_getElem hc)).rel (D := D) (C := C) (fun _ _ => rfl) (fun _ h => h) (fun _ h => h) rfl (hv.2 c _ v (List.getElem?_eq_getElem hc) hvv)
  have hd : ∀ i b, lk i hp = some b → lk (π i) (mapK π hp) = some b := fun i b hb => lk_mapK hi (fun p hp => (hh p hp).1) hb
  refine (h D vs hl' (fun j b1 hj => ?_) (fun j k a1 a2 h1 h2 d1 d2 he => ?_) hlt).mono fun e w' ⟨cv, he, C', h⟩ => ⟨cv, he, ⟨C.β, C.ok, C.ow, w'⟩, rfl, ⟨?_, ?_, fun _ _ => rfl, fun _ h => h, fun _ h => .inl h⟩, fun j => by simp, fun k => ?_, fun j _ hj => by simp at hj, fun j k _ hj => by simp at hj, fun y hy => ?_, by simp [named], fun j b1 hj => ?_⟩
  · obtain ⟨q1, _, q3⟩ := hb _ _ (hd j b1 hj)
    have hj' := hh _ (lk_in hj)
    obtain ⟨c, a1, a2⟩ := q1
    refine ⟨⟨c, a1, fun p x hx => ?_⟩, hj'.1, q3⟩
    obtain ⟨v, v1, v2, v3⟩ := a2 p x hx
    exact ⟨v, v1, v2, v3.limit (D := D) (hj'.2 p x hx) (fun j hj => by omega) (fun j hj => by omega) (fun _ h => h) rfl⟩
  · exact hi j k (hh _ (lk_in h1)).1 (hh _ (lk_in h2)).1 (hinj _ _ _ _ (hd j a1 h1) (hd k a2 h2) d1 d2 he)
  · have hw := h.ext.wx
    rw [h.w] at hw
    refine hw.trans (.refl _ (fun _ => False)) (fun k hk => ?_) (fun k _ h => h.elim)
    obtain ⟨j, b2, hj, hk⟩ := hk
    exact ⟨π j, b2, List.mem_map.2 ⟨(j, b2), hj, rfl⟩, hk⟩
  · rintro k ⟨j, b2, hj, rfl⟩
    obtain ⟨⟨j', b'⟩, h1, h2⟩ := List.mem_map.1 hj
    simp only [Prod.mk.injEq] at h2
    obtain ⟨rfl, rfl⟩ := h2
    obtain ⟨_, _, b3, h3⟩ := hu _ h1
    exact (hb _ _ (hd _ _ h3)).2.2
  · constructor
    · exact .inl
    · rintro (h | ⟨i, _, hi, _⟩)
      · exact h
      · simp at hi
  · injection hy with hy
    subst hy
    exact (h.val _ rfl).limit hr (fun j hj => by omega) (fun j hj => by omega) (fun k hk => (h.ow k).2 (.inl hk)) h.w.symm
  · obtain ⟨⟨j', b'⟩, h1, h2⟩ := List.mem_map.1 hj
    simp only [Prod.mk.injEq] at h2
    obtain ⟨rfl, rfl⟩ := h2
    have h9 := h.u _ _ h1
    obtain ⟨hj', hb', _⟩ := hu _ h1
    have hβ : C'.β j' = C.β (π j') := h.ext.β j' hj'
    obtain ⟨c, q1, q2⟩ := h9
    refine ⟨c, ?_, fun p x hx => ?_⟩
    · show w'.heap[C.β (π j')]? = _
      rw [← hβ, ← h.w]; exact q1
    · obtain ⟨v, v1, v2, v3⟩ := q2 p x hx
      exact ⟨v, v1, v2, v3.limit (hb' p x hx) (fun j hj => by omega) (fun j hj => by omega) (fun k hk => (h.ow k).2 (.inl hk)) h.w.symm⟩

def pi2 (i j k : Nat) : Nat := if k = 0 then i else j
/-- Lists of numbers. -/
def lget (l : List Int) (j : Nat) : Int := l.getD j 0
def vrow (g : Nat → Int) (j : Nat) : List AV := [.lit (.int .i64 (g j))]
theorem rnb_rows {π : Nat → Nat} {m k n n' E : Nat} {f f' : Nat → List AV} (hn : n = n') (hf : ∀ j, j < n → f j = f' j) (hb : ∀ j, j < n → ∀ x ∈ f j, Bl 0 x) : RnB π m (.rows k n f E) (.rows k n' f' E) := by
  subst hn
  refine ⟨⟨rfl, fun _ => rfl⟩, fun p x hx => ?_⟩
  simp only [Blk.at] at hx ⊢
  split at hx
  · rename_i hlt
    exact ⟨x, by rw [if_pos hlt, ← hf _ hlt]; exact hx, .same (q := 0) (by omega) (by omega) (hb _ hlt x (List.mem_of_getElem? hx))⟩
  · cases hx
/-! ### Contracts over one block, by any name -/
theorem Con.rename {f : FuncId} {args : List AV} {b b' : Blk} {r : AV} (h : Con P f (.ptr 0 0 :: args) [(0, b)] r [(0, b')]) (ha : ∀ x ∈ args, Bl 0 x) (hb : BlB 0 b) (hb' : BlB 0 b') (hr : Bl 0 r) (i : Nat) : Con P f (.ptr i 0 :: args) [(i, b)] r [(i, b')] := by
  intro C vs hl hh hinj hlt
  obtain ⟨hB, hok, how⟩ := hh i b (by simp [lk])
  let D : Cx := ⟨fun _ => C.β i, fun j => j = 0, C.ow, C.w⟩
  have hl' : LRel D (.ptr 0 0 :: args) vs := by
    refine ⟨hl.1, fun c x v hx hv => ?_⟩
    cases c with
    | zero =>
      simp only [List.getElem?_cons_zero, Option.some.injEq] at hx
      subst hx
      have := hl.2 0 _ v rfl hv
      cases this
      exact @Rel.ptr D 0 0 rfl
    | succ c =>
      have hx' : args[c]? = some x := by simpa using hx
      exact (hl.2 (c + 1) x v (by simpa using hx') hv).limit (D := D) (ha x (List.mem_of_getElem? hx')) (fun j hj => by omega) (fun j hj => by omega) (fun _ h => h) rfl
  refine (h D vs hl' (fun j b1 hj => ?_) (fun j k a1 a2 h1 h2 _ _ _ => ?_) hlt).mono fun e w' ⟨cv, he, C', h⟩ => ⟨cv, he, ⟨C.β, C.ok, C.ow, w'⟩, rfl, ⟨?_, ?_, fun _ _ => rfl, fun _ h => h, fun _ h => .inl h⟩, fun j => by simp, fun k => ?_, fun j _ hj => by simp at hj, fun j k _ hj => by simp at hj, fun y hy => ?_, by simp [named], fun j b1 hj => ?_⟩
  · rw [lk_cons] at hj
    by_cases h0 : 0 = j
    · rw [if_pos h0] at hj; injection hj with hj; subst hj
      exact ⟨hB.limit (D := D) hb (by subst h0; rfl) (fun j hj => by omega) (fun j hj => by omega) (fun _ h => h) rfl |> (fun q => by subst h0; exact q), h0.symm, how⟩
    · rw [if_neg h0] at hj; simp [lk] at hj
  · rw [lk_cons] at h1 h2
    by_cases h0 : 0 = j
    · by_cases h3 : 0 = k
      · omega
      · rw [if_neg h3] at h2; simp [lk] at h2
    · rw [if_neg h0] at h1; simp [lk] at h1
  · have hw := h.ext.wx
    rw [h.w] at hw
    refine hw.trans (.refl _ (fun _ => False)) (fun k hk => ?_) (fun k _ h => h.elim)
    obtain ⟨j, b2, hj, hk⟩ := hk
    simp at hj
    exact ⟨i, b', by simp, hk⟩
  · rintro k ⟨j, b2, hj, rfl⟩
    simp at hj
    obtain ⟨rfl, rfl⟩ := hj
    exact how
  · constructor
    · exact .inl
    · rintro (h | ⟨i, _, hi, _⟩)
      · exact h
      · simp at hi
  · injection hy with hy
    subst hy
    exact (h.val _ rfl).limit hr (fun j hj => by omega) (fun j hj => by omega) (fun k hk => (h.ow k).2 (.inl hk)) h.w.symm
  · simp at hj
    obtain ⟨rfl, rfl⟩ := hj
    have h9 := h.u 0 b1 (by simp)
    have hβ : C'.β 0 = C.β j := h.ext.β 0 rfl
    obtain ⟨c, q1, q2⟩ := h9
    refine ⟨c, ?_, fun p x hx => ?_⟩
    · show w'.heap[C.β j]? = _
      rw [← hβ, ← h.w]; exact q1
    · obtain ⟨v, v1, v2, v3⟩ := q2 p x hx
      exact ⟨v, v1, v2, v3.limit (hb' p x hx) (fun j hj => by omega) (fun j hj => by omega) (fun k hk => (h.ow k).2 (.inl hk)) h.w.symm⟩
end
end Go.Proofs.Ytpilblmncpeelaa.AM

namespace Go.Proofs.Ytpilblmncpeelaa.AM
/-- A code: its bytes. -/
structure Cd where
  n : Nat
  g : Nat → Int
  ok : ∀ j, 0 ≤ g j ∧ g j ≤ 255
abbrev DS := Int × Int
theorem ncast (n : Nat) : @NatCast.natCast Int instNatCastInt n = (n : Int) := rfl
theorem peta {α β : Type} (p : α × β) : (p.1, p.2) = p := rfl
def Cd.rows (c : Cd) (j : Nat) : List AV := [.lit (.int .u8 (c.g j))]
def curB (T : TypeId) (c : Cd) (st : DS) : Blk := .cells [.vec 1 c.n c.rows, .lit (.int .i64 st.1), .lit (.int .u64 st.2)] T
/-- The cursor may be asked k times more. -/
def Bd (k : Nat) (st : DS) : Prop := 0 ≤ st.1 ∧ st.1 + k ≤ 4611686018427387904
/-- It was asked at most k times. -/
def Adv (k : Nat) (st st' : DS) : Prop := st.1 ≤ st'.1 ∧ st'.1 ≤ st.1 + k
theorem Adv.refl (k : Nat) (st : DS) : Adv k st st := ⟨Int.le_refl _, by omega⟩
theorem Adv.trans {k m n : Nat} {a b c : DS} (h : Adv k a b) (g : Adv m b c) (hn : k + m ≤ n := by omega) : Adv n a c := by unfold Adv at *; omega
theorem Adv.t {k m : Nat} {a b c : DS} (h : Adv k a b) (g : Adv m b c) : Adv (k + m) a c := by unfold Adv at *; omega
theorem Adv.le {k n : Nat} {a b : DS} (h : Adv k a b) (hn : k ≤ n) : Adv n a b := by unfold Adv at *; omega
theorem Adv.bd {k m n : Nat} {a b : DS} (h : Adv k a b) (g : Bd n a) (hn : k + m ≤ n := by omega) : Bd m b := by unfold Adv Bd at *; omega
theorem Bd.mono {m n : Nat} {a : DS} (g : Bd n a) (hn : m ≤ n := by omega) : Bd m a := by unfold Bd at *; omega
theorem Cd.blB (c : Cd) (n : Nat) (T : TypeId) (st : DS) : BlB n (curB T c st) := by
  intro p x hx
  unfold curB Blk.at at hx
  rcases p with _ | _ | _ | p <;> simp at hx <;> subst hx
  · exact .vec fun j _ x hx => by simp [Cd.rows] at hx; subst hx; exact .lit
  · exact .lit
  · exact .lit
/-- What a draw comes to: a value, of which Φ is told, and the cursor's next state. -/
def Drw (P : Program) (T : TypeId) (f : FuncId) (k : Nat) {β : Type} (enc : Hold → (Unit → β) → AV) (Φ : β → Prop) (c : Cd) (args : List AV) (st : DS) (y : β × DS) : Prop :=
  Con P f (.ptr 0 0 :: args) [(0, curB T c st)] (enc stdH fun _ => y.1) [(0, curB T c y.2)] ∧ Adv k st y.2 ∧ Φ y.1
noncomputable def drw (P : Program) (T : TypeId) (f : FuncId) (k : Nat) {β : Type} [Inhabited β] (enc : Hold → (Unit → β) → AV) (Φ : β → Prop) (c : Cd) (args : List AV) (st : DS) : β × DS :=
  Classical.epsilon (Drw P T f k enc Φ c args st)
theorem drw_spec {P : Program} {T : TypeId} {f : FuncId} {k : Nat} {β : Type} [Inhabited β] {enc : Hold → (Unit → β) → AV} {Φ : β → Prop} {c : Cd} {args : List AV} {st : DS} (h : ∃ y, Drw P T f k enc Φ c args st y) : Drw P T f k enc Φ c args st (drw P T f k enc Φ c args st) :=
  Classical.epsilon_spec h
/-- The numbers of a list of rows. -/
def ints (f : Nat → List AV) (j : Nat) : Int := match f j with
  | [.lit (.int _ x)] => x
  | _ => 0
def isI64 : AV → Bool
  | .lit (.int .i64 _) => true
  | _ => false
def intOf : AV → Int
  | .lit (.int _ x) => x
  | _ => 0
theorem rowsOf_one (cs : List AV) (j : Nat) (hj : j < cs.length) : rowsOf 1 cs j = [cs[j]] := by
  unfold rowsOf
  rw [Nat.mul_one, List.drop_eq_getElem_cons hj]; rfl
theorem vrow_ok (cs : List AV) (h : cs.all isI64 = true) {n : Nat} (hn : n ≤ cs.length) : ∀ j, j < n → rowsOf 1 cs j = vrow (ints (rowsOf 1 cs)) j := by
  intro j hj
  have h1 := List.all_eq_true.1 h cs[j] (List.getElem_mem (by omega))
  have h2 := rowsOf_one cs j (by omega)
  unfold vrow ints
  rw [h2]
  revert h1
  generalize cs[j] = x
  intro h1
  unfold isI64 at h1
  split at h1
  · rfl
  · cases h1
theorem ints_mem (cs : List AV) {n : Nat} (hn : n ≤ cs.length) {j : Nat} (hj : j < n) : ints (rowsOf 1 cs) j ∈ cs.map intOf := by
  have h2 := rowsOf_one cs j (by omega)
  have : ints (rowsOf 1 cs) j = intOf cs[j] := by
    unfold ints; rw [h2]
    generalize cs[j] = x
    unfold intOf
    cases x <;> try rfl
    rename_i v
    cases v <;> rfl
  rw [this]
  exact List.mem_map.2 ⟨_, List.getElem_mem _, rfl⟩
theorem Rel.vecs {C : Cx} {k n : Nat} {f f' : Nat → List AV} {v : Value} (h : Rel C (.vec k n f) v) (e : ∀ j, j < n → f j = f' j) : Rel C (.vec k n f') v := by
  cases h with
  | vec g hn hm hk hc h1 hr => exact .vec g hn hm (fun j hj => by rw [← e j hj]; exact hk j hj) hc h1 (fun j c x hj hx => hr j c x hj (by rw [e j hj]; exact hx))
theorem LRel.vec1 {C : Cx} {k n : Nat} {f f' : Nat → List AV} {y : AV} {l : List AV} {vs : List Value} (h : LRel C (y :: .vec k n f :: l) vs) (e : ∀ j, j < n → f j = f' j) : LRel C (y :: .vec k n f' :: l) vs := by
  refine ⟨h.1, fun c x v hx hv => ?_⟩
  match c with
  | 0 => exact h.2 0 x v (by simpa using hx) hv
  | 1 => simp only [List.getElem?_cons_succ, List.getElem?_cons_zero, Option.some.injEq] at hx; subst hx; exact (h.2 1 _ v rfl hv).vecs e
  | c + 2 => exact h.2 (c + 2) x v (by simpa using hx) hv
theorem Con.args {P : Program} {f : FuncId} {args args' : List AV} {h : Heap} {r : AV} {u : Heap} (k : ∀ C vs, LRel C args vs → LRel C args' vs) (hc : Con P f args' h r u) : Con P f args h r u := fun C vs hl => hc C vs (k C vs hl)
/-- The entry of a draw: 'F' takes the state and the further arguments. -/
def curE (T : TypeId) (f : FuncId) (k : Nat) (c : Cd) (F : Hold → DS → List AV → Option (AV × (Unit → DS) × List Prop)) : Entry := ⟨f, fun H a h _ => match a with
  | .ptr i 0 :: a => (match lk i h with
    | some (.cells [.vec 1 n g, .lit (.int .i64 p), .lit (.int .u64 s)] T') => (match F H (p, s) a with
      | some (r, y, ob) => some (r, [], [i], [(i, .cells [.vec 1 n g, .lit (.int .i64 (H Int fun _ => (y ()).1)), .lit (.int .u64 (H Int fun _ => (y ()).2))] T')], (H Prop fun _ => n = c.n ∧ g = c.rows ∧ T' = T ∧ Bd k (p, s)) :: ob)
      | none => none)
    | _ => none)
  | _ => none⟩
theorem curE_ok {P : Program} {T : TypeId} {f : FuncId} {k : Nat} {c : Cd} {F : Hold → DS → List AV → Option (AV × (Unit → DS) × List Prop)} (hb : isBody P f)
    (h : ∀ st a r y ob, F stdH st a = some (r, y, ob) → Bd k st → AllP ob → Con P f (.ptr 0 0 :: a) [(0, curB T c st)] r [(0, curB T c (y ()))] ∧ (∀ x ∈ a, Bl 0 x) ∧ Bl 0 r) : EntryOk P (curE T f k c F) := by
  refine ⟨hb, fun a hp n r nb rd u ob e hob => ?_⟩
  simp only [curE] at e
  split at e
  · rename_i a i a'
    split at e
    · rename_i n g p s T' hlk
      cases hF : F stdH (p, s) a' with
      | none => simp [hF] at e
      | some x =>
        obtain ⟨r', y, ob'⟩ := x
        simp only [hF, stdH, Option.some.injEq, Prod.mk.injEq] at e
        obtain ⟨rfl, rfl, rfl, rfl, rfl⟩ := e
        obtain ⟨⟨rfl, rfl, rfl, hbd⟩, hob⟩ := hob
        obtain ⟨h1, h2, h3⟩ := h _ _ _ _ _ hF hbd hob
        refine ⟨fun j b hj => ?_, [(i, curB T' c (p, s))], fun j b hj => ?_, ?_⟩
        · simp at hj; obtain ⟨rfl, rfl⟩ := hj; exact ⟨by simp, _, hlk, rfl⟩
        · rw [lk_cons] at hj
          by_cases h0 : i = j
          · rw [if_pos h0] at hj; injection hj with hj; subst hj; subst h0; exact ⟨by simp, hlk⟩
          · rw [if_neg h0] at hj; simp [lk] at hj
        · exact (h1.rename h2 (c.blB _ _ _) (c.blB _ _ _) h3 i).toN _
    · simp at e
  · simp at e
/-- A draw's contract, from the machine's run. -/
theorem drw_ok {P : Program} {Γ : Cons} {τ : Tab} (hB : Base P Γ τ) (hD : DrawOk P Γ τ) {f : FuncId} {fn : Func} {N : Nat} (hf : P.funcs[f]? = some fn) (hb0 : fn.body.isSome = true) (hN : fn.ntmps = N) (T : TypeId) (k : Nat) {β : Type} (enc : Hold → (Unit → β) → AV) (Φ : β → Prop) (c : Cd) (args : List AV) (st : DS) (fuel : Nat)
    (hlen : args.length + 1 ≤ N) (hargs : ∀ x ∈ args, Bl 0 x)
    (hrun : ∀ (H : Hold), H = stdH → (finish H Γ τ N fuel fn.results.toList [] (arun H Γ τ N fuel [.code (bodyOf fn)] ⟨envOf 0 (.ptr 0 0 :: args), [(0, .cells [.vec 1 c.n c.rows, .lit (.int .i64 (H Int fun _ => st.1)), .lit (.int .u64 (H Int fun _ => st.2))] T)], 1⟩)).sat0 fun x hp =>
      ∃ y : β × DS, Frz 1 hp x (enc stdH fun _ => y.1) ∧ Bl 0 (enc stdH fun _ => y.1) ∧ lk 0 hp = some (curB T c y.2) ∧ Adv k st y.2 ∧ Φ y.1) : ∃ y, Drw P T f k enc Φ c args st y := by
  obtain ⟨r, u, h1, y, rfl, rfl, h2, h3⟩ := con_ex (P := P) hB hD hf hb0 hN (.ptr 0 0 :: args) [(0, curB T c st)] 1 (fun r u => ∃ y : β × DS, r = enc stdH (fun _ => y.1) ∧ u = [(0, curB T c y.2)] ∧ Adv k st y.2 ∧ Φ y.1) fuel (by simpa using hlen)
    (by
      intro x hx
      simp only [List.mem_cons] at hx
      rcases hx with rfl | hx
      · exact .ptr (by omega)
      · exact (hargs x hx).mono (by omega))
    (fun i b hi => by
      rw [lk_cons] at hi
      by_cases h0 : 0 = i
      · rw [if_pos h0] at hi; injection hi with hi; subst hi; exact ⟨by omega, c.blB _ _ _⟩
      · rw [if_neg h0] at hi; simp [lk] at hi)
    (fun H hH => by
      have := hrun H hH
      subst hH
      refine Fin.sat0_mono ?_ this
      rintro x hp ⟨y, a1, a2, a3, a4, a5⟩
      refine ⟨_, [(0, curB T c y.2)], a1, a2, fun i b hi => ?_, fun i b hi => ?_, y, rfl, rfl, a4, a5⟩
      · simp at hi; obtain ⟨rfl, rfl⟩ := hi; exact ⟨a3, ⟨c.blB _ _ _, rfl⟩, _, rfl⟩
      · rw [lk_cons] at hi
        by_cases h0 : 0 = i
        · subst h0; exact ⟨_, by simp; rfl⟩
        · rw [if_neg h0] at hi; simp [lk] at hi)
  exact ⟨y, h1, h2, h3⟩
/-- A code as an argument. -/
def codeAV (c : Cd) : AV := .vec 1 c.n c.rows
theorem codeAV_bl (c : Cd) : ∀ x ∈ [codeAV c], Bl 0 x := by
  intro x hx
  simp only [List.mem_cons, List.not_mem_nil, or_false] at hx
  subst hx
  exact .vec fun j _ x hx => by simp [Cd.rows] at hx; subst hx; exact .lit
/-- A function that draws from a code. -/
theorem df_ok {P : Program} {Γ : Cons} {τ : Tab} (hB : Base P Γ τ) (hD : DrawOk P Γ τ) {f : FuncId} {fn : Func} {N : Nat} (hf : P.funcs[f]? = some fn) (hb0 : fn.body.isSome = true) (hN : fn.ntmps = N) {β : Type} (enc : Hold → (Unit → β) → AV) (Φ : β → Prop) (c : Cd) (fuel : Nat)
    (hlen : 1 ≤ N)
    (hrun : ∀ (H : Hold), H = stdH → (finish H Γ τ N fuel fn.results.toList [] (arun H Γ τ N fuel [.code (bodyOf fn)] ⟨[(0, .vec 1 c.n c.rows)], [], 0⟩)).sat0 fun x hp =>
      ∃ y : β, Frz 0 hp x (enc stdH fun _ => y) ∧ Bl 0 (enc stdH fun _ => y) ∧ Φ y) : ∃ y : β, Con P f [codeAV c] [] (enc stdH fun _ => y) [] ∧ Bl 0 (enc stdH fun _ => y) ∧ Φ y := by
  obtain ⟨r, u, h1, rfl, y, rfl, h2⟩ := con_ex (P := P) hB hD hf hb0 hN [codeAV c] [] 0 (fun r u => u = [] ∧ ∃ y : β, r = enc stdH (fun _ => y) ∧ Bl 0 (enc stdH fun _ => y) ∧ Φ y) fuel (by simpa using hlen) (codeAV_bl c) (by simp [lk])
    (fun H hH => Fin.sat0_mono (by
      rintro x hp ⟨y, a1, a2, a3⟩
      exact ⟨_, [], a1, a2, by simp, by simp [lk], rfl, y, rfl, a2, a3⟩) (hrun H hH))
  exact ⟨y, h1, h2⟩
noncomputable def dfw (P : Program) (f : FuncId) {β : Type} [Inhabited β] (enc : Hold → (Unit → β) → AV) (Φ : β → Prop) (c : Cd) : β := Classical.epsilon fun y => Con P f [codeAV c] [] (enc stdH fun _ => y) [] ∧ Bl 0 (enc stdH fun _ => y) ∧ Φ y
theorem dfw_spec {P : Program} {f : FuncId} {β : Type} [Inhabited β] {enc : Hold → (Unit → β) → AV} {Φ : β → Prop} {c : Cd} (h : ∃ y : β, Con P f [codeAV c] [] (enc stdH fun _ => y) [] ∧ Bl 0 (enc stdH fun _ => y) ∧ Φ y) :
    Con P f [codeAV c] [] (enc stdH fun _ => dfw P f enc Φ c) [] ∧ Bl 0 (enc stdH fun _ => dfw P f enc Φ c) ∧ Φ (dfw P f enc Φ c) := Classical.epsilon_spec h
def codeE (f : FuncId) (c : Cd) (r : Hold → AV) : Entry := ⟨f, fun H a _ _ => match a with
  | [.vec 1 n g] => some (r H, [], [], [], [H Prop fun _ => n = c.n ∧ g = c.rows])
  | _ => none⟩
theorem codeE_ok {P : Program} {f : FuncId} {c : Cd} {r : Hold → AV} (hb : isBody P f) (h : Con P f [codeAV c] [] (r stdH) []) : EntryOk P (codeE f c r) := by
  refine ⟨hb, fun a hp m q nb rd u ob e hob => ?_⟩
  simp only [codeE] at e
  split at e
  · simp only [Option.some.injEq, Prod.mk.injEq] at e
    obtain ⟨rfl, rfl, rfl, rfl, rfl⟩ := e
    obtain ⟨⟨rfl, rfl⟩, _⟩ := hob
    exact ⟨by simp, [], by simp [lk], h.toN _⟩
  · simp at e
end Go.Proofs.Ytpilblmncpeelaa.AM

namespace Go.Proofs.Ytpilblmncpeelaa.AM
theorem mem_named {b : Blk} : ∀ {nb : List Blk} {n i : Nat}, (i, b) ∈ named n nb ↔ n ≤ i ∧ nb[i - n]? = some b
  | [], n, i => by simp [named]
  | c :: r, n, i => by
    simp only [named, List.mem_cons, Prod.mk.injEq, mem_named (nb := r)]
    constructor
    · rintro (⟨rfl, rfl⟩ | ⟨h1, h2⟩)
      · simp
      · exact ⟨by omega, by rw [show i - n = (i - (n + 1)) + 1 by omega]; simpa using h2⟩
    · rintro ⟨h1, h2⟩
      by_cases h : i = n
      · subst h; left; simpa using h2.symm
      · right
        exact ⟨by omega, by rw [show i - n = (i - (n + 1)) + 1 by omega] at h2; simpa using h2⟩
/-- x under the caller's names for what is new (len of them from n on), y under the contract's (from m on). -/
inductive Re (n m len : Nat) : AV → AV → Prop
  | pl {x : AV} (h : Bl 0 x) : Re n m len x x
  | ptr {i j o : Nat} (h : n ≤ i ∧ i < n + len) (e : j = m + (i - n)) : Re n m len (.ptr i o) (.ptr j o)
  | slc {i j o k l : Nat} (h : n ≤ i ∧ i < n + len) (e : j = m + (i - n)) : Re n m len (.slc i o k l) (.slc j o k l)
  | agg {l l' : List AV} (hl : l.length = l'.length) (h : ∀ (c : Nat) (x y : AV), l[c]? = some x → l'[c]? = some y → Re n m len x y) : Re n m len (.agg l) (.agg l')
  | tup {l l' : List AV} (hl : l.length = l'.length) (h : ∀ (c : Nat) (x y : AV), l[c]? = some x → l'[c]? = some y → Re n m len x y) : Re n m len (.tup l) (.tup l')
theorem Re.rel {C D : Cx} {n m len : Nat} {x y : AV} (h : Re n m len x y) (hβ : ∀ i, n ≤ i → i < n + len → D.β i = C.β (m + (i - n)) ∧ D.ok i) (how : ∀ k, D.ow k → C.ow k) (hw : D.w = C.w) : ∀ {v : Value}, Rel C y v → Rel D x v := by
  induction h with
  | pl h => intro v hy; exact hy.limit h (fun i hi => by omega) (fun i hi => by omega) how hw
  | ptr h e => intro v hy; subst e; cases hy with | ptr h' => rw [← (hβ _ h.1 h.2).1]; exact .ptr (hβ _ h.1 h.2).2
  | slc h e => intro v hy; subst e; cases hy with | slc h' hn hm hc => rw [← (hβ _ h.1 h.2).1] at hc ⊢; exact .slc (hβ _ h.1 h.2).2 hn hm (by rw [hw]; exact hc)
  | @agg l l' hl h ih =>
    intro v hx
    cases hx with
    | agg h1 h3 h2 =>
    refine .agg (h1.trans hl.symm) h3 fun c y u hy hu => ?_
    have hc : c < l'.length := by rw [← hl]; exact (List.getElem?_eq_some_iff.1 hy).1
    exact ih c y l'[c] hy (List.getElem?_eq_getElem hc) (h2 c _ u (List.getElem?_eq_getElem hc) hu)
  | @tup l l' hl h ih =>
    intro v hx
    cases hx with
    | tup h1 h2 =>
    refine .tup (h1.trans hl.symm) fun c y u hy hu => ?_
    have hc : c < l'.length := by rw [← hl]; exact (List.getElem?_eq_some_iff.1 hy).1
    exact ih c y l'[c] hy (List.getElem?_eq_getElem hc) (h2 c _ u (List.getElem?_eq_getElem hc) hu)
def ReB (n m len : Nat) (b b' : Blk) : Prop := b.elem = b'.elem ∧ ∀ p x, b.at p = some x → ∃ y, b'.at p = some y ∧ Re n m len x y
theorem ReB.same {n m len : Nat} {b : Blk} (h : BlB 0 b) : ReB n m len b b := ⟨rfl, fun p x hx => ⟨x, hx, .pl (h p x hx)⟩⟩
theorem ReB.brel {C D : Cx} {n m len i i' : Nat} {b b' : Blk} (h : ReB n m len b b') (hi : D.β i = C.β i') (hβ : ∀ i, n ≤ i → i < n + len → D.β i = C.β (m + (i - n)) ∧ D.ok i) (how : ∀ k, D.ow k → C.ow k) (hw : D.w = C.w) (hb : BRel C i' b') : BRel D i b := by
  obtain ⟨h3, h4⟩ := h
  obtain ⟨c, h5, h6⟩ := hb
  refine ⟨c, by rw [hw, hi, h3]; exact h5, fun p x hx => ?_⟩
  obtain ⟨y, h7, h8⟩ := h4 p x hx
  obtain ⟨v, h9, h10, h11⟩ := h6 p y h7
  exact ⟨v, h9, h10, h8.rel hβ how hw h11⟩
/-- A contract under other names. -/
theorem ConN.ren {P : Program} {f : FuncId} {args args' : List AV} {hp hp' u u' : Heap} {r r' : AV} {nb nb' : List Blk} {m n : Nat} (π : Nat → Nat) (h : ConN P f args hp m r nb u) (hm : ∀ i, i < m → ∃ b, lk i hp = some b) (hl : args.length = args'.length) (ha : ∀ (c : Nat) (x y : AV), args[c]? = some x → args'[c]? = some y → Rn π m x y)
    (hh : ∀ i b, lk i hp = some b → i < m ∧ ∃ b', lk (π i) hp' = some b' ∧ RnB π m b b') (hi : ∀ i j, i < m → j < m → π i = π j → i = j) (hlen : nb'.length = nb.length) (hr : Re n m nb.length r' r)
    (hnb : ∀ (q : Nat) (b' : Blk), nb'[q]? = some b' → ∃ b, nb[q]? = some b ∧ ReB n m nb.length b' b) (hu : ∀ i' b', (i', b') ∈ u' → ∃ i b, i < m ∧ π i = i' ∧ (i, b) ∈ u ∧ ReB n m nb.length b' b)
    (hu2 : ∀ i b, (i, b) ∈ u → i < m ∧ (∃ b', (π i, b') ∈ u') ∧ (b.dead = true → ∀ b', (π i, b') ∈ u' → b'.dead = true)) : ConN P f args' hp' n r' nb' u' := by
  intro C vs hv hb hinj hlt hfresh
  let D : Cx := ⟨fun i => C.β (π i), fun j => j < m, C.ow, C.w⟩
  have hl' : LRel D args vs := by
    refine ⟨hv.1.trans hl.symm, fun c x v hx hvv => ?_⟩
    have hc : c < args'.length := by rw [← hl]; exact (List.getElem?_eq_some_iff.1 hx).1
    exact (ha c x args'[c] hx (List.getElem?_eq_getElem hc)).rel (D := D) (C := C) (fun _ _ => rfl) (fun _ h => h) (fun _ h => h) rfl (hv.2 c _ v (List.getElem?_eq_getElem hc) hvv)
  have hkey : ∀ i, i < m → C.ok (π i) ∧ C.ow (C.β (π i)) := fun i hi => by
    obtain ⟨b, hb1⟩ := hm i hi
    obtain ⟨_, b', hb2, _⟩ := hh i b hb1
    exact (hb _ _ hb2).2
  refine (h D vs hl' (fun j b hj => ?_) (fun j k a1 a2 h1 h2 d1 d2 he => ?_) hlt (fun i h1 _ (h2 : i < m) => by omega)).mono fun e w' ⟨cv, he, C', h⟩ => ⟨cv, he, ?_⟩
  · obtain ⟨h1, b', h2, h3⟩ := hh j b hj
    exact ⟨(h3.z (Z := False) (n0 := 0) (hp := [])).brel (C := C) (i' := π j) rfl (fun _ _ => rfl) (fun _ h => h) (fun _ h => h) rfl (fun h => h.elim) (hb _ _ h2).1, h1, (hkey j h1).2⟩
  · obtain ⟨p1, b1, p2, ⟨_, p3⟩, _⟩ := hh j a1 h1
    obtain ⟨q1, b2, q2, ⟨_, q3⟩, _⟩ := hh k a2 h2
    exact hi j k p1 q1 (hinj _ _ _ _ p2 q2 (p3 d1) (q3 d2) he)
  have hβm : ∀ i, i < m → C'.β i = C.β (π i) := fun i hi => h.ext.β i hi
  have hww : C'.w = w' := h.w
  let F : Cx := ⟨fun i => if n ≤ i ∧ i < n + nb.length then C'.β (m + (i - n)) else C.β i, fun i => C.ok i ∨ (n ≤ i ∧ i < n + nb.length), fun k => C.ow k ∨ ∃ i, n ≤ i ∧ i < n + nb.length ∧ C'.β (m + (i - n)) = k, w'⟩
  have hFn : ∀ i, n ≤ i → i < n + nb.length → F.β i = C'.β (m + (i - n)) := fun i h1 h2 => if_pos ⟨h1, h2⟩
  have hFo : ∀ i, C.ok i → F.β i = C.β i := fun i hi => if_neg fun ⟨h1, h2⟩ => hfresh i h1 (by omega) hi
  have hβ : ∀ i, n ≤ i → i < n + nb.length → F.β i = C'.β (m + (i - n)) ∧ F.ok i := fun i h1 h2 => ⟨hFn i h1 h2, .inr ⟨h1, h2⟩⟩
  have how : ∀ k, F.ow k → C'.ow k := by
    rintro k (h0 | ⟨i, h1, h2, e⟩)
    · exact (h.ow k).2 (.inl h0)
    · exact (h.ow k).2 (.inr ⟨m + (i - n), by omega, by omega, e⟩)
  refine ⟨F, rfl, ⟨?_, ?_, hFo, fun _ h => .inl h, ?_⟩, fun i => by rw [hlen], fun k => ?_, fun i h1 h2 => ?_, fun i j h1 h2 h3 h4 e => ?_, fun y hy => ?_, fun i b hib => ?_, fun i b hib => ?_⟩
  · have hw := h.ext.wx
    rw [h.w] at hw
    refine hw.trans (.refl _ (fun _ => False)) (fun k hk => ?_) (fun k _ h => h.elim)
    obtain ⟨j, b2, hj, hk⟩ := hk
    obtain ⟨_, ⟨b', hb'⟩, _⟩ := hu2 j b2 hj
    exact ⟨π j, b', hb', hk⟩
  · rintro k ⟨i', b', hib, rfl⟩
    obtain ⟨i, b, h1, rfl, _⟩ := hu i' b' hib
    exact (hkey i h1).2
  · rintro k (h0 | ⟨i, h1, h2, rfl⟩)
    · exact .inl h0
    · have := h.ext.ow (C'.β (m + (i - n))) ((h.ow _).2 (.inr ⟨m + (i - n), by omega, by omega, rfl⟩))
      exact this
  · rw [hlen]
    show C.ow k ∨ _ ↔ C.ow k ∨ _
    refine or_congr Iff.rfl ⟨?_, ?_⟩
    · rintro ⟨i, h1, h2, e⟩; exact ⟨i, h1, h2, by rw [hFn i h1 h2]; exact e⟩
    · rintro ⟨i, h1, h2, e⟩; exact ⟨i, h1, h2, by rw [← hFn i h1 h2]; exact e⟩
  · rw [hlen] at h2
    rw [hFn i h1 h2]
    rcases h.new (m + (i - n)) (by omega) (by omega) with hge | ⟨j, hj, e, ⟨b, hjb⟩, hd⟩
    · exact .inl hge
    · obtain ⟨_, hex, hdd⟩ := hu2 j b hjb
      exact .inr ⟨π j, (hkey j hj).1, e, hex, hdd (hd b hjb)⟩
  · rw [hlen] at h2 h4
    rw [hFn i h1 h2, hFn j h3 h4] at e
    have := h.inj (m + (i - n)) (m + (j - n)) (by omega) (by omega) (by omega) (by omega) e
    omega
  · injection hy with hy
    subst hy
    exact hr.rel hβ how hww.symm (h.val _ rfl)
  · obtain ⟨h1, h2⟩ := mem_named.1 hib
    have hlt2 : i - n < nb.length := by rw [← hlen]; exact (List.getElem?_eq_some_iff.1 h2).1
    obtain ⟨b0, h3, h4⟩ := hnb _ _ h2
    exact h4.brel (i' := m + (i - n)) (hFn i h1 (by omega)) hβ how hww.symm (h.nb _ _ (mem_named.2 ⟨by omega, by rw [Nat.add_sub_cancel_left]; exact h3⟩))
  · obtain ⟨j, b0, h1, rfl, h2, h3⟩ := hu i b hib
    exact h3.brel (i' := j) (by rw [hFo _ (hkey j h1).1, hβm j h1]) hβ how hww.symm (h.u _ _ h2)
section
variable {P : Program} {Γ : Cons} {τ : Tab}
/-- The entry of a draw that leaves new blocks: 'F' takes the state, the further arguments and the next name. -/
def curEN (T : TypeId) (f : FuncId) (k : Nat) (c : Cd) (F : Hold → DS → List AV → Nat → Option (AV × List Blk × (Unit → DS) × List Prop)) : Entry := ⟨f, fun H a h nx => match a with
  | .ptr i 0 :: a => (match lk i h with
    | some (.cells [.vec 1 n g, .lit (.int .i64 p), .lit (.int .u64 s)] T') => (match F H (p, s) a nx with
      | some (r, nb, y, ob) => some (r, nb, [i], [(i, .cells [.vec 1 n g, .lit (.int .i64 (H Int fun _ => (y ()).1)), .lit (.int .u64 (H Int fun _ => (y ()).2))] T')], (H Prop fun _ => n = c.n ∧ g = c.rows ∧ T' = T ∧ Bd k (p, s)) :: ob)
      | none => none)
    | _ => none)
  | _ => none⟩
theorem curEN_ok {T : TypeId} {f : FuncId} {k : Nat} {c : Cd} {F : Hold → DS → List AV → Nat → Option (AV × List Blk × (Unit → DS) × List Prop)} (hb : isBody P f)
    (h : ∀ st a nx r nb y ob, F stdH st a nx = some (r, nb, y, ob) → Bd k st → AllP ob → ∃ r1 nb1, ConN P f (.ptr 0 0 :: a) [(0, curB T c st)] 1 r1 nb1 [(0, curB T c (y ()))] ∧ (∀ x ∈ a, Bl 0 x) ∧ nb.length = nb1.length ∧ Re nx 1 nb1.length r r1 ∧ ∀ (q : Nat) (b : Blk), nb[q]? = some b → ∃ b1, nb1[q]? = some b1 ∧ ReB nx 1 nb1.length b b1) : EntryOk P (curEN T f k c F) := by
  refine ⟨hb, fun a hp nx r nb rd u ob e hob => ?_⟩
  simp only [curEN] at e
  split at e
  · rename_i a i a'
    split at e
    · rename_i n g p s T' hlk
      cases hF : F stdH (p, s) a' nx with
      | none => simp [hF] at e
      | some x =>
        obtain ⟨r', nb', y, ob'⟩ := x
        simp only [hF, stdH, Option.some.injEq, Prod.mk.injEq] at e
        obtain ⟨rfl, rfl, rfl, rfl, rfl⟩ := e
        obtain ⟨⟨rfl, rfl, rfl, hbd⟩, hob⟩ := hob
        obtain ⟨r1, nb1, h1, h2, h3, h4, h5⟩ := h _ _ _ _ _ _ _ hF hbd hob
        refine ⟨fun j b hj => ?_, [(i, curB T' c (p, s))], fun j b hj => ?_, ?_⟩
        · simp at hj; obtain ⟨rfl, rfl⟩ := hj; exact ⟨by simp, _, hlk, rfl⟩
        · rw [lk_cons] at hj
          by_cases h0 : i = j
          · rw [if_pos h0] at hj; injection hj with hj; subst hj; subst h0; exact ⟨by simp, hlk⟩
          · rw [if_neg h0] at hj; simp [lk] at hj
        · refine h1.ren (fun _ => i) (fun j hj => ⟨curB T' c (p, s), by obtain rfl : j = 0 := by omega
                                                                        rfl⟩) (by simp) (fun q x z hx hz => ?_) (fun j b hj => ?_) (by omega) h3 h4 h5 (fun j b hj => ?_) (fun j b hj => ?_)
          · cases q with
            | zero => simp only [List.getElem?_cons_zero, Option.some.injEq] at hx hz; subst hx; subst hz; exact Rn.ptr (π := fun _ => i) (i := 0) (by omega)
            | succ q =>
              simp only [List.getElem?_cons_succ] at hx hz
              rw [hx] at hz; injection hz with hz; subst hz
              exact .same (q := 0) (by omega) (by omega) (h2 _ (List.mem_of_getElem? hx))
          · have := lk_in hj
            simp at this
            obtain ⟨rfl, rfl⟩ := this
            exact ⟨by omega, _, by rw [lk_cons, if_pos rfl], ⟨rfl, fun h => h⟩, fun p' x hx => ⟨x, hx, .same (q := 0) (by omega) (by omega) (c.blB 0 _ _ p' x hx)⟩⟩
          · simp at hj
            obtain ⟨rfl, rfl⟩ := hj
            exact ⟨0, _, by omega, rfl, by simp; rfl, .same (c.blB 0 _ _)⟩
          · simp at hj
            obtain ⟨rfl, rfl⟩ := hj
            exact ⟨by omega, ⟨_, by simp; rfl⟩, fun h => by simp [curB, Blk.dead] at h⟩
    · simp at e
  · simp at e
end
end Go.Proofs.Ytpilblmncpeelaa.AM

