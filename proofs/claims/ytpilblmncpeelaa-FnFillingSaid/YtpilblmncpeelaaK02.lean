/- Lemmas and contracts (AmC); conditions: none. -/
import Derived.Test.YtpilblmncpeelaaK01
set_option linter.unusedVariables false
set_option linter.unusedSimpArgs false
set_option linter.unusedVariables false
set_option linter.unusedSimpArgs false
namespace Go.Proofs.Ytpilblmncpeelaa.AM
/-- The contract of a function: called with values that stand for 'args', in a world in which its blocks 'h' stand as told, it returns what 'r' stands for, and leaves its blocks as 'u' tells; nothing else that was there turns. -/
def Con (P : Program) (f : FuncId) (args : List AV) (h : Heap) (r : AV) (u : Heap) : Prop :=
  ∀ (C : Cx) (vs : List Value), LRel C args vs → (∀ i b, lk i h = some b → BRel C i b ∧ C.ok i ∧ C.ow (C.β i)) → (∀ i j a b, lk i h = some a → lk j h = some b → a.dead = false → b.dead = false → C.β i = C.β j → i = j) → Glo C.w C.ow →
    Calls P f vs.toArray C.w fun e w' => ∃ cv, e = .returned cv ∧ Leaves C 0 (some r) [] u cv w'
/-- The same for a function that leaves new blocks behind: they are named from n on. -/
def ConN (P : Program) (f : FuncId) (args : List AV) (h : Heap) (n : Nat) (r : AV) (nb : List Blk) (u : Heap) : Prop :=
  ∀ (C : Cx) (vs : List Value), LRel C args vs → (∀ i b, lk i h = some b → BRel C i b ∧ C.ok i ∧ C.ow (C.β i)) → (∀ i j a b, lk i h = some a → lk j h = some b → a.dead = false → b.dead = false → C.β i = C.β j → i = j) → Glo C.w C.ow →
    (∀ i, n ≤ i → i < n + nb.length → ¬ C.ok i) → Calls P f vs.toArray C.w fun e w' => ∃ cv, e = .returned cv ∧ Leaves C n (some r) nb u cv w'
/-- The contracts' table is true. -/
def ConsOk (P : Program) (Γ : Cons) : Prop := ∀ f args h n r nb rd u ob, Γ stdH f args h n = some (r, nb, rd, u, ob) → AllP ob →
  (∀ i b, (i, b) ∈ u → i ∈ rd ∧ ∃ b', lk i h = some b' ∧ b'.dead = false) ∧ ∃ h0 : Heap, (∀ i b, lk i h0 = some b → i ∈ rd ∧ lk i h = some b) ∧ ConN P f args h0 n r nb u
section
variable {P : Program} {o : Oper} {ρ : Operand → Value} {C : Cx} {n : Nat}
theorem Leaves.n_irrel {C : Cx} {n m : Nat} {v : Option AV} {u : Heap} {cv : Value} {w' : World} (h : Leaves C n v [] u cv w') : Leaves C m v [] u cv w' := by
  obtain ⟨C', h⟩ := h
  refine ⟨C', h.w, h.ext, fun i => ?_, fun k => ?_, fun i a b => by simp at b; omega, fun i j a b => by simp at b; omega, h.val, by simp [named], h.u⟩
  · rw [h.ok]
    constructor
    · rintro (h | ⟨a, b⟩)
      · exact .inl h
      · exact absurd b (by simp only [List.length_nil]; omega)
    · rintro (h | ⟨a, b⟩)
      · exact .inl h
      · exact absurd b (by simp only [List.length_nil]; omega)
  · rw [h.ow]
    constructor
    · rintro (h | ⟨i, a, b, _⟩)
      · exact .inl h
      · exact absurd b (by simp only [List.length_nil]; omega)
    · rintro (h | ⟨i, a, b, _⟩)
      · exact .inl h
      · exact absurd b (by simp only [List.length_nil]; omega)
theorem Con.toN {f : FuncId} {args : List AV} {h : Heap} {r : AV} {u : Heap} (k : Con P f args h r u) (n : Nat) : ConN P f args h n r [] u := fun C vs a b c d _ => (k C vs a b c d).mono fun _ _ ⟨cv, he, hL⟩ => ⟨cv, he, hL.n_irrel⟩
theorem ConN.con {f : FuncId} {args : List AV} {h : Heap} {r : AV} {u : Heap} {n : Nat} (k : ConN P f args h n r [] u) : Con P f args h r u := fun C vs a b c d => (k C vs a b c d (by simp; omega)).mono fun _ _ ⟨cv, he, hL⟩ => ⟨cv, he, hL.n_irrel⟩
theorem callable {f : FuncId} (hf : (P.funcs[f]?.map fun fn => (fn.name == "runtime.NumGoroutine", fn.body.isNone)) = some (false, false)) (args : Array Value) (w : World) : (callFunc f args).run P w = .ok (.enter f args) w := by
  obtain ⟨fn, h1, h2⟩ := Option.map_eq_some_iff.1 hf
  simp only [Prod.mk.injEq] at h2
  obtain ⟨h2, h3⟩ := h2
  unfold callFunc
  simp only [Sem.run_bind, run_program, Result.andThen_ok, h1]
  rw [if_neg (by simp [h2]), if_neg (by simp [h3])]
  rfl
theorem ok_call {c : Call} {x : Operand} {f : FuncId} {l a b : List AV} {vs va vb : List Value} {h0 : Heap} {r : AV} {nb : List Blk} {u : Heap} (ho : o.op = .call c) (hc : c.callee = .value x) (hx : ρ x = .func (.func f) va.toArray vb.toArray)
    (hargs : (c.args.toList.map ρ) = vs) (hl : LRel C l vs) (ha : LRel C a va) (hb : LRel C b vb)
    (hf : (P.funcs[f]?.map fun fn => (fn.name == "runtime.NumGoroutine", fn.body.isNone)) = some (false, false)) (hcon : ConN P f (a ++ l ++ b) h0 n r nb u)
    (hh : ∀ i b, lk i h0 = some b → BRel C i b ∧ C.ok i ∧ C.ow (C.β i)) (hinj : ∀ i j a b, lk i h0 = some a → lk j h0 = some b → a.dead = false → b.dead = false → C.β i = C.β j → i = j) (hlt : Glo C.w C.ow) (hnew : ∀ i, n ≤ i → i < n + nb.length → ¬ C.ok i) : Yld P o ρ C.w (Leaves C n (some r) nb u) := by
  have hcall := hcon C (va ++ vs ++ vb) ((ha.append hl).append hb) hh hinj hlt hnew
  refine .enter (f := f) (args := (va ++ vs ++ vb).toArray) ?_ hcall
  unfold execOp
  have hm : c.args.map ρ = vs.toArray := by rw [← hargs]; apply Array.ext'; simp
  have hcf := callable hf (va ++ vs ++ vb).toArray C.w
  simp only [ho, resolve, hc, hx, hm, Deferred.ofValue]
  simpa [invoke] using hcf

/-- An own slice, lent. -/
theorem Rel.lend {C D : Cx} {i k n : Nat} {f : Nat → List AV} {E : TypeId} {v : Value} (h : Rel C (.slc i 0 k n) v) (hb : BRel C i (.rows k n f E)) (hk : 0 < k) (hl : ∀ j, j < n → (f j).length = k) (hβ : D.β = C.β) (hok : ∀ i, C.ok i → D.ok i) (how : ∀ q, D.ow q → C.ow q) (hno : ¬ D.ow (C.β i)) (hw : D.w = C.w) : Rel D (.vec k n f) v := by
  cases h with
  | @slc _ _ _ _ cap h1 h2 h3 h4 =>
  obtain ⟨c, T, h5, h6⟩ := h4
  obtain ⟨c', h7, h8⟩ := hb
  have e : c' = c := by rw [h5] at h7; injection h7 with h7; injection h7 with h7; exact h7.symm
  subst e
  have hlt : C.β i < D.w.heap.size := by rw [hw]; exact (Array.getElem?_eq_some_iff.1 h5).1
  have hat : ∀ j q x, j < n → (f j)[q]? = some x → (Blk.rows k n f E).at (0 + j * k + q) = some x := by
    intro j q x hj hx
    have hq : q < k := by rw [← hl j hj]; exact (List.getElem?_eq_some_iff.1 hx).1
    have e1 : (0 + j * k + q) / k = j := by rw [Nat.zero_add, Nat.add_comm, Nat.add_mul_div_right _ _ hk, Nat.div_eq_of_lt hq, Nat.zero_add]
    have e2 : (0 + j * k + q) % k = q := by rw [Nat.zero_add, Nat.add_comm, Nat.add_mul_mod_self_right, Nat.mod_eq_of_lt hq]
    simp only [Blk.at, e1, e2, hj, if_true, hx]
  have hget : ∀ j q, j < n → q < k → ∃ x, (f j)[q]? = some x := fun j q hj hq => ⟨_, List.getElem?_eq_getElem (by rw [hl j hj]; exact hq)⟩
  refine .vec (fun j q => c'.getD (0 + j * k + q) undef) h2 h3 hl (fun _ => ⟨_, 0, by rw [ite_self], hno, hlt, fun j q hj hq => ?_⟩) (fun j q hj hq => ?_) (fun j q y hj hy => ?_)
  · obtain ⟨x, hx⟩ := hget j q hj hq
    obtain ⟨u, hu, _⟩ := h8 _ _ (hat j q x hj hx)
    rw [hw, cell_of_row C.w (C.β i) _ c' T (0, 0) h5, Array.getD_eq_getD_getElem?, hu]; rfl
  · obtain ⟨x, hx⟩ := hget j q hj hq
    obtain ⟨u, hu, hu1, _⟩ := h8 _ _ (hat j q x hj hx)
    rw [Array.getD_eq_getD_getElem?, hu]; exact hu1
  · obtain ⟨u, hu, _, hu2⟩ := h8 _ _ (hat j q y hj hy)
    have : c'.getD (0 + j * k + q) undef = u := by rw [Array.getD_eq_getD_getElem?, hu]; rfl
    rw [this]
    exact hu2.mono (wr := fun _ => False) ⟨by rw [hw]; exact .refl _ _, by simp, fun i _ => by rw [hβ], hok, fun k hk => .inl (how k hk)⟩
theorem AllP_append {a b : List Prop} (h : AllP (a ++ b)) : AllP a ∧ AllP b := by
  induction a with
  | nil => exact ⟨trivial, h⟩
  | cons p a ih => exact ⟨⟨h.1, (ih h.2).1⟩, (ih h.2).2⟩
theorem view_ok {C D : Cx} {h : Heap} (hβ : D.β = C.β) (hok : ∀ i, C.ok i → D.ok i) (how : ∀ q, D.ow q → C.ow q) (hw : D.w = C.w) : ∀ (l : List AV) (vs : List Value), LRel C l vs → AllP (view stdH h l).2.2 → (∀ i ∈ (view stdH h l).2.1, (∀ b, lk i h = some b → BRel C i b) ∧ ¬ D.ow (C.β i)) → LRel D (view stdH h l).1 vs
  | [], vs, hl, _, _ => ⟨hl.1, by simp [view]⟩
  | x :: r, vs, hl, hob, hids => by
    match vs, hl with
    | [], hl => exact absurd hl.1 (by simp)
    | v :: vs, hl =>
      have hx : Rel C x v := hl.2 0 x v rfl rfl
      have hr : LRel C r vs := ⟨by simpa using hl.1, fun c y u hy hu => hl.2 (c + 1) y u (by simpa using hy) (by simpa using hu)⟩
      have e : Ext C D (fun _ => False) := ⟨by rw [hw]; exact .refl _ _, by simp, fun i _ => by rw [hβ], hok, fun k hk => .inl (how k hk)⟩
      have plain : view stdH h (x :: r) = (x :: (view stdH h r).1, (view stdH h r).2.1, (view stdH h r).2.2) → LRel D (view stdH h (x :: r)).1 (v :: vs) := fun q => by
        rw [q] at hob hids ⊢
        exact .cons (hx.mono e) (view_ok hβ hok how hw r vs hr hob hids)
      cases x <;> try exact plain rfl
      case slc i o k n _hl0 =>
        cases o with
        | succ o => exact plain rfl
        | zero =>
          cases hb : lk i h with
          | none => exact plain (by simp only [view, hb])
          | some b =>
            cases b with
            | cells l T => exact plain (by simp only [view, hb])
            | rows k' n' f E =>
              cases hk : (Nat.beq k k' && Nat.blt 0 k) with
              | false => exact plain (by simp only [view, hb, hk]; rfl)
              | true =>
                have q : view stdH h (.slc i 0 k n :: r) = (.vec k n f :: (view stdH h r).1, i :: (view stdH h r).2.1, (n' = n ∧ ∀ j, j < n → (f j).length = k) :: (view stdH h r).2.2) := by simp only [view, hb, hk]; rfl
                rw [q] at hob hids ⊢
                simp only [Bool.and_eq_true] at hk
                have := Nat.eq_of_beq_eq_true hk.1
                subst this
                obtain ⟨⟨h1, h2⟩, h3⟩ := hob
                subst h1
                obtain ⟨b1, b2⟩ := hids i (by simp)
                exact .cons (hx.lend (b1 _ hb) (by simpa using hk.2) h2 hβ hok how b2 hw) (view_ok hβ hok how hw r vs hr h3 (fun j hj => hids j (by simp [hj])))
theorem viewL_len {F : AV → AV × List Nat × List Prop} : ∀ l : List AV, (viewL F l).1.length = l.length
  | [] => rfl
  | x :: r => by simp only [viewL, List.length_cons, viewL_len r]
theorem viewL_get {F : AV → AV × List Nat × List Prop} : ∀ (l : List AV) (c : Nat) (y : AV), (viewL F l).1[c]? = some y → AllP (viewL F l).2.2 → ∃ x, l[c]? = some x ∧ y = (F x).1 ∧ AllP (F x).2.2 ∧ ∀ i ∈ (F x).2.1, i ∈ (viewL F l).2.1
  | [], c, y, h, _ => by simp [viewL] at h
  | x :: r, 0, y, h, ho => by
    simp only [viewL, List.getElem?_cons_zero, Option.some.injEq] at h ho ⊢
    exact ⟨x, rfl, h.symm, (AllP_append ho).1, fun i hi => List.mem_append_left _ hi⟩
  | x :: r, c + 1, y, h, ho => by
    simp only [viewL, List.getElem?_cons_succ] at h ho ⊢
    obtain ⟨z, h1, h2, h3, h4⟩ := viewL_get r c y h (AllP_append ho).2
    exact ⟨z, h1, h2, h3, fun i hi => List.mem_append_right _ (h4 i hi)⟩
/-- A pointer to the call's own cells, lent. -/
theorem Rel.lendP {C D : Cx} {i : Nat} {l l' : List AV} {T : TypeId} {v : Value} (h : Rel C (.ptr i 0) v) (hb : BRel C i (.cells l T)) (hno : ¬ D.ow (C.β i)) (hw : D.w = C.w) (hl : l'.length = l.length) (hr : ∀ (c : Nat) (x y : AV) (u : Value), l[c]? = some x → l'[c]? = some y → Rel C x u → Rel D y u) : Rel D (.rptr l') v := by
  cases h with
  | ptr h1 =>
  obtain ⟨c', h7, h8⟩ := hb
  have hlt : C.β i < D.w.heap.size := by rw [hw]; exact (Array.getElem?_eq_some_iff.1 h7).1
  refine .rptr (fun c => c'.getD (0 + c) undef) hno hlt (fun c hc => ?_) (fun c hc => ?_) (fun c y hy => ?_)
  · obtain ⟨u, hu, _⟩ := h8 c _ (show (Blk.cells l T).at c = some (l[c]'(by omega)) from List.getElem?_eq_getElem (by omega))
    rw [hw, cell_of_row C.w (C.β i) _ c' T (0, 0) h7, Nat.zero_add, Array.getD_eq_getD_getElem?, hu]; rfl
  · obtain ⟨u, hu, hu1, _⟩ := h8 c _ (show (Blk.cells l T).at c = some (l[c]'(by omega)) from List.getElem?_eq_getElem (by omega))
    rw [Nat.zero_add, Array.getD_eq_getD_getElem?, hu]; exact hu1
  · have hc : c < l.length := by rw [← hl]; exact (List.getElem?_eq_some_iff.1 hy).1
    obtain ⟨u, hu, _, hu2⟩ := h8 c _ (show (Blk.cells l T).at c = some (l[c]'hc) from List.getElem?_eq_getElem hc)
    rw [Nat.zero_add, Array.getD_eq_getD_getElem?, hu]
    exact hr c _ y u (List.getElem?_eq_getElem hc) hy hu2
theorem viewA_ok {C D : Cx} {h : Heap} (hβ : D.β = C.β) (hok : ∀ i, C.ok i → D.ok i) (how : ∀ q, D.ow q → C.ow q) (hw : D.w = C.w) : ∀ (d : Nat) (x : AV) (v : Value), Rel C x v → AllP (viewA stdH h d x).2.2 → (∀ i ∈ (viewA stdH h d x).2.1, (∀ b, lk i h = some b → BRel C i b) ∧ ¬ D.ow (C.β i)) → Rel D (viewA stdH h d x).1 v := by
  have e : Ext C D (fun _ => False) := ⟨by rw [hw]; exact .refl _ _, by simp, fun i _ => by rw [hβ], hok, fun k hk => .inl (how k hk)⟩
  intro d
  induction d with
  | zero => exact fun x v hx _ _ => hx.mono e
  | succ d ih =>
    intro x v hx hob hids
    have plain : viewA stdH h (d + 1) x = (x, [], []) → Rel D (viewA stdH h (d + 1) x).1 v := fun q => by rw [q]; exact hx.mono e
    have els : ∀ (l : List AV), AllP (viewL (viewA stdH h d) l).2.2 → (∀ i ∈ (viewL (viewA stdH h d) l).2.1, (∀ b, lk i h = some b → BRel C i b) ∧ ¬ D.ow (C.β i)) → ∀ (c : Nat) (x y : AV) (u : Value), l[c]? = some x → (viewL (viewA stdH h d) l).1[c]? = some y → Rel C x u → Rel D y u := fun l ho hi c x y u hx hy hu => by
      obtain ⟨z, h1, h2, h3, h4⟩ := viewL_get l c y hy ho
      rw [hx] at h1; injection h1 with h1; subst h1; subst h2
      exact ih x u hu h3 fun i hq => hi i (h4 i hq)
    cases x <;> try exact plain rfl
    case ptr i o =>
      cases o with
      | succ o => exact plain rfl
      | zero =>
        cases hb : lk i h with
        | none => exact plain (by simp only [viewA, hb])
        | some b =>
          cases b with
          | rows k n f E => exact plain (by simp only [viewA, hb])
          | cells l T =>
            cases l with
            | nil => exact plain (by simp only [viewA, hb])
            | cons c l =>
              have q : viewA stdH h (d + 1) (.ptr i 0) = (.rptr (viewL (viewA stdH h d) (c :: l)).1, i :: (viewL (viewA stdH h d) (c :: l)).2.1, (viewL (viewA stdH h d) (c :: l)).2.2) := by simp only [viewA, hb]
              rw [q] at hob hids ⊢
              obtain ⟨b1, b2⟩ := hids i List.mem_cons_self
              exact hx.lendP (b1 _ hb) b2 hw (viewL_len _) (els _ hob fun j hj => hids j (List.mem_cons_of_mem _ hj))
    case slc i o k n =>
      cases o with
      | succ o => exact plain rfl
      | zero =>
        cases hb : lk i h with
        | none => exact plain (by simp only [viewA, hb])
        | some b =>
          cases b with
          | cells l T => exact plain (by simp only [viewA, hb])
          | rows k' n' f E =>
            cases hk : (Nat.beq k k' && Nat.blt 0 k) with
            | false => exact plain (by simp only [viewA, hb, hk]; rfl)
            | true =>
              have q : viewA stdH h (d + 1) (.slc i 0 k n) = (.vec k n f, [i], [n' = n ∧ ∀ j, j < n → (f j).length = k]) := by simp only [viewA, hb, hk]; rfl
              rw [q] at hob hids ⊢
              simp only [Bool.and_eq_true] at hk
              have := Nat.eq_of_beq_eq_true hk.1
              subst this
              obtain ⟨⟨h1, h2⟩, _⟩ := hob
              subst h1
              obtain ⟨b1, b2⟩ := hids i (by simp)
              exact hx.lend (b1 _ hb) (by simpa using hk.2) h2 hβ hok how b2 hw
    case fn f a b =>
      have q : viewA stdH h (d + 1) (.fn f a b) = (.fn f (viewL (viewA stdH h d) a).1 (viewL (viewA stdH h d) b).1, (viewL (viewA stdH h d) a).2.1 ++ (viewL (viewA stdH h d) b).2.1, (viewL (viewA stdH h d) a).2.2 ++ (viewL (viewA stdH h d) b).2.2) := rfl
      rw [q] at hob hids ⊢
      obtain ⟨o1, o2⟩ := AllP_append hob
      cases hx with
      | fn h1 h2 h3 h4 =>
        refine .fn (by rw [viewL_len]; exact h1) (by rw [viewL_len]; exact h2) (fun c y u hy hu => ?_) (fun c y u hy hu => ?_)
        · obtain ⟨z, k1, k2, _, _⟩ := viewL_get a c y hy o1
          exact els a o1 (fun i hi => hids i (List.mem_append_left _ hi)) c z y u k1 hy (h3 c z u k1 hu)
        · obtain ⟨z, k1, k2, _, _⟩ := viewL_get b c y hy o2
          exact els b o2 (fun i hi => hids i (List.mem_append_right _ hi)) c z y u k1 hy (h4 c z u k1 hu)
    case agg l =>
      have q : viewA stdH h (d + 1) (.agg l) = (.agg (viewL (viewA stdH h d) l).1, (viewL (viewA stdH h d) l).2.1, (viewL (viewA stdH h d) l).2.2) := rfl
      rw [q] at hob hids ⊢
      cases hx with
      | agg h1 h2 h3 =>
        refine .agg (by rw [viewL_len]; exact h1) h2 (fun c y u hy hu => ?_)
        obtain ⟨z, k1, k2, _, _⟩ := viewL_get l c y hy hob
        exact els l hob hids c z y u k1 hy (h3 c z u k1 hu)
theorem viewF_ok {C D : Cx} {h : Heap} (hβ : D.β = C.β) (hok : ∀ i, C.ok i → D.ok i) (how : ∀ q, D.ow q → C.ow q) (hw : D.w = C.w) (x : AV) (v : Value) (hx : Rel C x v) (hob : AllP (viewF stdH h x).2.2) (hids : ∀ i ∈ (viewF stdH h x).2.1, (∀ b, lk i h = some b → BRel C i b) ∧ ¬ D.ow (C.β i)) : Rel D (viewF stdH h x).1 v := by
  have e : Ext C D (fun _ => False) := ⟨by rw [hw]; exact .refl _ _, by simp, fun i _ => by rw [hβ], hok, fun k hk => .inl (how k hk)⟩
  cases x <;> try exact hx.mono e
  exact viewA_ok hβ hok how hw 5 _ v hx hob hids
theorem viewL_rel {C D : Cx} {h : Heap} {F : AV → AV × List Nat × List Prop} (hF : ∀ (x : AV) (v : Value), Rel C x v → AllP (F x).2.2 → (∀ i ∈ (F x).2.1, (∀ b, lk i h = some b → BRel C i b) ∧ ¬ D.ow (C.β i)) → Rel D (F x).1 v) {l : List AV} {vs : List Value} (hl : LRel C l vs) (hob : AllP (viewL F l).2.2) (hids : ∀ i ∈ (viewL F l).2.1, (∀ b, lk i h = some b → BRel C i b) ∧ ¬ D.ow (C.β i)) : LRel D (viewL F l).1 vs :=
  ⟨by rw [viewL_len]; exact hl.1, fun c y v hy hv => by
    obtain ⟨z, k1, k2, k3, k4⟩ := viewL_get l c y hy hob
    subst k2
    exact hF z v (hl.2 c z v k1 hv) k3 fun i hi => hids i (k4 i hi)⟩
theorem strs_spec : ∀ {cs : List AV} {L : List ByteArray}, strs cs = some L → cs = L.map fun s => .lit (.string s)
  | [], L, h => by simp only [strs, Option.some.injEq] at h; subst h; rfl
  | x :: r, L, h => by
    unfold strs at h
    split at h
    · rename_i e; cases e
    · rename_i s r' e
      injection e with e1 e2
      subst e1; subst e2
      split at h
      · rename_i l hl
        injection h with h
        subst h
        rw [strs_spec hl]; rfl
      · cases h
    · cases h
theorem litRows_eq {k : Nat} {kd : Kd} {len : Nat} {cs : List AV} {j : Nat} (hj : j < len) : rowsOf k cs j = litRows stdH k kd len cs j := by
  unfold litRows
  split
  · cases hc : (Nat.beq k 1 && Nat.beq cs.length len) with
    | false => rfl
    | true =>
      simp only [Bool.and_eq_true] at hc
      obtain rfl := Nat.eq_of_beq_eq_true hc.1
      obtain rfl := Nat.eq_of_beq_eq_true hc.2
      simp only [cond_true]
      cases hL : strs cs with
      | none => rfl
      | some L =>
        have e := strs_spec hL
        subst e
        simp only [List.length_map] at hj
        show _ = rowsS stdH (fun _ => L) j
        unfold rowsOf rowsS
        rw [Nat.mul_one, List.drop_eq_getElem_cons (by simpa using hj), List.take_one]
        simp [List.getD_eq_getElem?_getD, hj]
  · rfl
theorem numsI_spec {q : IntKind} : ∀ {cs : List AV} {L : List Int}, numsI q cs = some L → cs = L.map fun a => .lit (.int q a)
  | [], L, h => by simp only [numsI, Option.some.injEq] at h; subst h; rfl
  | x :: r, L, h => by
    unfold numsI at h
    split at h
    · rename_i e; cases e
    · rename_i q' a r' e
      injection e with e1 e2
      subst e1; subst e2
      cases hq : sameK q q' with
      | false => rw [hq] at h; cases h
      | true =>
        have := sameK_eq hq
        subst this
        rw [hq, cond_true] at h
        split at h
        · rename_i l hl
          injection h with h
          subst h
          rw [numsI_spec hl]; rfl
        · cases h
    · cases h
theorem vecs1_spec : ∀ {cs : List AV} {L : List (Nat × (Nat → List AV))}, vecs1 cs = some L → cs = L.map fun p => .vec 1 p.1 p.2
  | [], L, h => by simp only [vecs1, Option.some.injEq] at h; subst h; rfl
  | x :: r, L, h => by
    unfold vecs1 at h
    split at h
    · rename_i e; cases e
    · rename_i k n f r' e
      injection e with e1 e2
      subst e1; subst e2
      cases hq : Nat.beq k 1 with
      | false => rw [hq] at h; cases h
      | true =>
        obtain rfl := Nat.eq_of_beq_eq_true hq
        rw [hq, cond_true] at h
        split at h
        · rename_i l hl
          injection h with h
          subst h
          rw [vecs1_spec hl]; rfl
        · cases h
    · cases h
theorem rowsOf_map {α : Type} {g : α → AV} {L : List α} {j : Nat} (d : α) (hj : j < L.length) : rowsOf 1 (L.map g) j = [g (L.getD j d)] := by
  unfold rowsOf
  rw [Nat.mul_one, List.drop_eq_getElem_cons (by simpa using hj), List.take_one]
  simp [List.getD_eq_getElem?_getD, hj]
theorem litRowsO_eq {o k : Nat} {kd : Kd} {len : Nat} {cs : List AV} {j : Nat} (hj : j < len) : rowsOf k cs j = litRowsO stdH o k kd len cs j := by
  unfold litRowsO
  split
  · exact litRows_eq hj
  · split
    · rename_i q
      cases hc : (Nat.beq k 1 && Nat.beq cs.length len) with
      | false => rfl
      | true =>
        simp only [Bool.and_eq_true] at hc
        obtain rfl := Nat.eq_of_beq_eq_true hc.1
        obtain rfl := Nat.eq_of_beq_eq_true hc.2
        simp only [cond_true]
        cases hL : numsI q cs with
        | none => rfl
        | some L =>
          have e := numsI_spec hL
          subst e
          rw [List.length_map] at hj
          exact rowsOf_map 0 hj
    · cases hc : (Nat.beq k 1 && Nat.beq cs.length len) with
      | false => rfl
      | true =>
        simp only [Bool.and_eq_true] at hc
        obtain rfl := Nat.eq_of_beq_eq_true hc.1
        obtain rfl := Nat.eq_of_beq_eq_true hc.2
        simp only [cond_true]
        cases hL : vecs1 cs with
        | none => rfl
        | some L =>
          have e := vecs1_spec hL
          subst e
          rw [List.length_map] at hj
          exact rowsOf_map noV hj
    · exact litRows_eq hj
theorem Rel.fulE {C : Cx} {k n : Nat} {f f' : Nat → List AV} {v : Value} (h : Rel C (.ful k n f) v) (e : ∀ j, j < n → f j = f' j) : Rel C (.ful k n f') v := by
  cases h with
  | ful h =>
    refine .ful ?_
    cases h with
    | vec g hn hm hk hc h1 hr => exact .vec g hn hm (fun j hj => by rw [← e j hj]; exact hk j hj) hc h1 (fun j c x hj hx => hr j c x hj (by rw [e j hj]; exact hx))
theorem Leaves.fulE {C : Cx} {m k n : Nat} {f f' : Nat → List AV} {cv : Value} {w' : World} (h : Leaves C m (some (.ful k n f)) [] [] cv w') (e : ∀ j, j < n → f j = f' j) : Leaves C m (some (.ful k n f')) [] [] cv w' := by
  obtain ⟨C', h1, h2, h3, h4, h5, h6, h7, h8, h9⟩ := h
  exact ⟨C', h1, h2, h3, h4, h5, h6, fun x hx => by injection hx with hx; subst hx; exact (h7 _ rfl).fulE e, h8, h9⟩
theorem nvq_rel {C D : Cx} (hβ : D.β = C.β) (hok : D.ok = C.ok) (hw : D.w = C.w) : ∀ (n : Nat) {x : AV} {v : Value}, nvq n x = true → Rel C x v → Rel D x v
  | 0, _, _, h, _ => by simp [nvq] at h
  | n + 1, x, v, h, hr => by
    cases hr with
    | lit h' => exact .lit h'
    | num => exact .num
    | kb => exact .kb
    | er h0 h1 h2 => exact .er h0 h1 h2
    | ptr h1 => rw [← hβ]; exact .ptr (by rw [hok]; exact h1)
    | slc h1 h2 h3 h4 => rw [← hβ]; exact .slc (by rw [hok]; exact h1) h2 h3 (by rw [hw, hβ]; exact h4)
    | agg hl h1 hr => exact .agg hl h1 fun c y u hy hu => nvq_rel hβ hok hw n (by simp only [nvq] at h; exact List.all_eq_true.1 h y (List.mem_of_getElem? hy)) (hr c y u hy hu)
    | tup hl hr => exact .tup hl fun c y u hy hu => nvq_rel hβ hok hw n (by simp only [nvq] at h; exact List.all_eq_true.1 h y (List.mem_of_getElem? hy)) (hr c y u hy hu)
    | _ => simp [nvq] at h
theorem plainB_ok : ∀ {nb : List Blk} {l : List Prop}, plainB stdH nb = some l → AllP l → ∀ b ∈ nb, ∀ p x, b.at p = some x → nvq 4 x = true
  | [], _, _, _, b, hb, _, _, _ => by simp at hb
  | .cells c T :: r, l, h, hl, b, hb, p, x, hx => by
    simp only [plainB] at h
    cases hc : c.all (nvq 4) with
    | false => simp [hc] at h
    | true =>
      simp only [hc, cond_true] at h
      rcases List.mem_cons.1 hb with rfl | hb
      · exact List.all_eq_true.1 hc x (List.mem_of_getElem? hx)
      · exact plainB_ok h hl b hb p x hx
  | .rows k n f E :: r, l, h, hl, b, hb, p, x, hx => by
    simp only [plainB] at h
    cases hr : plainB stdH r with
    | none => simp [hr] at h
    | some l' =>
      simp only [hr, Option.some.injEq] at h
      subst h
      rcases List.mem_cons.1 hb with rfl | hb
      · simp only [Blk.at] at hx
        split at hx
        · rename_i hlt; exact hl.1.row _ hlt x (List.mem_of_getElem? hx)
        · cases hx
      · exact plainB_ok hr hl.2 b hb p x hx
theorem mem_named' {i : Nat} {b : Blk} : ∀ {nb : List Blk} {n : Nat}, (i, b) ∈ named n nb → b ∈ nb
  | [], _, h => by simp [named] at h
  | c :: r, n, h => by
    simp only [named, List.mem_cons, Prod.mk.injEq] at h ⊢
    rcases h with ⟨_, h⟩ | h
    · exact .inl h
    · exact .inr (mem_named' h)
/-- What a call leaves to which the call's own slices were lent. -/
theorem Leaves.lent {C : Cx} {p : Nat → Prop} {n : Nat} {r : AV} {nb : List Blk} {cv : Value} {w' : World} (h : Leaves ⟨C.β, C.ok, fun k => C.ow k ∧ p k, C.w⟩ n (some r) nb [] cv w') (hr : nvq 4 r = true) (hb : ∀ b ∈ nb, ∀ p x, b.at p = some x → nvq 4 x = true) : Leaves C n (some r) nb [] cv w' := by
  obtain ⟨C', h⟩ := h
  have how : ∀ k, C'.ow k → C.ow k ∨ ∃ i, n ≤ i ∧ i < n + nb.length ∧ C'.β i = k := fun k hk => ((h.ow k).1 hk).imp (fun h => h.1) id
  refine ⟨⟨C'.β, C'.ok, fun k => C.ow k ∨ C'.ow k, w'⟩, rfl, ⟨?_, by simp, h.ext.β, h.ext.ok, fun k hk => ?_⟩, h.ok, fun k => ?_, fun i h1 h2 => ?_, h.inj, fun x hx => ?_, fun i b hi => ?_, by simp⟩
  · have := h.ext.wx
    rw [h.w] at this
    exact this.trans (.refl _ (fun _ => False)) (fun k hk => by obtain ⟨i, b, hi, _⟩ := hk; simp at hi) (fun _ _ h => h.elim)
  · rcases hk with hk | hk
    · exact .inl hk
    · exact (h.ext.ow k hk).imp (fun h => h.1) id
  · constructor
    · rintro (hk | hk)
      · exact .inl hk
      · exact how k hk
    · rintro (hk | hk)
      · exact .inl hk
      · exact .inr ((h.ow k).2 (.inr hk))
  · rcases h.new i h1 h2 with h3 | ⟨j, _, _, ⟨b, hb⟩, _⟩
    · exact .inl h3
    · simp at hb
  · injection hx with hx
    subst hx
    exact nvq_rel (C := C') (D := ⟨C'.β, C'.ok, fun k => C.ow k ∨ C'.ow k, w'⟩) rfl rfl h.w.symm 4 hr (h.val _ rfl)
  · obtain ⟨c, h1, h2⟩ := h.nb i b hi
    refine ⟨c, by rw [← h.w]; exact h1, fun p x hx => ?_⟩
    obtain ⟨v, h3, h4, h5⟩ := h2 p x hx
    exact ⟨v, h3, h4, nvq_rel (C := C') (D := ⟨C'.β, C'.ok, fun k => C.ow k ∨ C'.ow k, w'⟩) rfl rfl h.w.symm 4 (hb b (mem_named' hi) p x hx) h5⟩
/-- A call to which the call's own slices are lent. -/
theorem ok_callV {c : Call} {x : Operand} {f : FuncId} {l' : List AV} {vs va vb : List Value} {ids : List Nat} {r : AV} {nb : List Blk} (ho : o.op = .call c) (hc : c.callee = .value x) (hx : ρ x = .func (.func f) va.toArray vb.toArray)
    (hargs : (c.args.toList.map ρ) = vs) (hl : LRel ⟨C.β, C.ok, fun k => C.ow k ∧ ∀ i ∈ ids, C.β i ≠ k, C.w⟩ l' (va ++ vs ++ vb))
    (hf : (P.funcs[f]?.map fun fn => (fn.name == "runtime.NumGoroutine", fn.body.isNone)) = some (false, false)) (hcon : ConN P f l' [] n r nb []) (hlt : Glo C.w C.ow) (hnew : ∀ i, n ≤ i → i < n + nb.length → ¬ C.ok i) (hr : nvq 4 r = true) (hb : ∀ b ∈ nb, ∀ p x, b.at p = some x → nvq 4 x = true) : Yld P o ρ C.w (Leaves C n (some r) nb []) := by
  have hcall := hcon ⟨C.β, C.ok, fun k => C.ow k ∧ ∀ i ∈ ids, C.β i ≠ k, C.w⟩ (va ++ vs ++ vb) hl (by simp [lk]) (by simp [lk]) (hlt.sub fun k hk => hk.1) hnew
  refine .enter (f := f) (args := (va ++ vs ++ vb).toArray) ?_ (hcall.mono fun e w' ⟨cv, he, hL⟩ => ⟨cv, he, hL.lent hr hb⟩)
  unfold execOp
  have hm : c.args.map ρ = vs.toArray := by rw [← hargs]; apply Array.ext'; simp
  have hcf := callable hf (va ++ vs ++ vb).toArray C.w
  simp only [ho, resolve, hc, hx, hm, Deferred.ofValue]
  simpa [invoke] using hcf

theorem Leaves.lent2 {C : Cx} {p : Nat → Prop} {n : Nat} {r : AV} {nb : List Blk} {u : Heap} {cv : Value} {w' : World} (h : Leaves ⟨C.β, C.ok, fun k => C.ow k ∧ p k, C.w⟩ n (some r) nb u cv w') (hr : nvq 4 r = true) (hb : ∀ b ∈ nb, ∀ p x, b.at p = some x → nvq 4 x = true) (hu : ∀ i b, (i, b) ∈ u → ∀ p x, b.at p = some x → nvq 4 x = true) : Leaves C n (some r) nb u cv w' := by
  obtain ⟨C', h⟩ := h
  have how : ∀ k, C'.ow k → C.ow k ∨ ∃ i, n ≤ i ∧ i < n + nb.length ∧ C'.β i = k := fun k hk => ((h.ow k).1 hk).imp (fun h => h.1) id
  have up : ∀ {i : Nat} {b : Blk}, (∀ p x, b.at p = some x → nvq 4 x = true) → BRel C' i b → BRel ⟨C'.β, C'.ok, fun k => C.ow k ∨ C'.ow k, w'⟩ i b := fun hq hB => by
    obtain ⟨c, h1, h2⟩ := hB
    refine ⟨c, by rw [← h.w]; exact h1, fun p x hx => ?_⟩
    obtain ⟨v, h3, h4, h5⟩ := h2 p x hx
    exact ⟨v, h3, h4, nvq_rel (C := C') (D := ⟨C'.β, C'.ok, fun k => C.ow k ∨ C'.ow k, w'⟩) rfl rfl h.w.symm 4 (hq p x hx) h5⟩
  refine ⟨⟨C'.β, C'.ok, fun k => C.ow k ∨ C'.ow k, w'⟩, rfl, ⟨?_, fun k hk => (h.ext.wrow k hk).1, h.ext.β, h.ext.ok, fun k hk => ?_⟩, h.ok, fun k => ?_, h.new, h.inj, fun x hx => ?_, fun i b hi => ?_, fun i b hi => ?_⟩
  · have := h.ext.wx
    rw [h.w] at this
    exact this
  · rcases hk with hk | hk
    · exact .inl hk
    · exact (h.ext.ow k hk).imp (fun h => h.1) id
  · constructor
    · rintro (hk | hk)
      · exact .inl hk
      · exact how k hk
    · rintro (hk | hk)
      · exact .inl hk
      · exact .inr ((h.ow k).2 (.inr hk))
  · injection hx with hx
    subst hx
    exact nvq_rel (C := C') (D := ⟨C'.β, C'.ok, fun k => C.ow k ∨ C'.ow k, w'⟩) rfl rfl h.w.symm 4 hr (h.val _ rfl)
  · exact up (hb b (mem_named' hi)) (h.nb i b hi)
  · exact up (hu i b hi) (h.u i b hi)
/-- A call to which what is the call's own is lent, but for some blocks. -/
theorem ok_callV2 {c : Call} {x : Operand} {f : FuncId} {l' : List AV} {vs va vb : List Value} {ids : List Nat} {h0 : Heap} {r : AV} {nb : List Blk} {u : Heap} (ho : o.op = .call c) (hc : c.callee = .value x) (hx : ρ x = .func (.func f) va.toArray vb.toArray)
    (hargs : (c.args.toList.map ρ) = vs) (hl : LRel ⟨C.β, C.ok, fun k => C.ow k ∧ ∀ i ∈ ids, C.β i ≠ k, C.w⟩ l' (va ++ vs ++ vb))
    (hf : (P.funcs[f]?.map fun fn => (fn.name == "runtime.NumGoroutine", fn.body.isNone)) = some (false, false)) (hcon : ConN P f l' h0 n r nb u)
    (hh : ∀ i b, lk i h0 = some b → BRel C i b ∧ C.ok i ∧ C.ow (C.β i) ∧ ∀ j ∈ ids, C.β j ≠ C.β i) (hinj : ∀ i j a b, lk i h0 = some a → lk j h0 = some b → a.dead = false → b.dead = false → C.β i = C.β j → i = j)
    (hlt : Glo C.w C.ow) (hnew : ∀ i, n ≤ i → i < n + nb.length → ¬ C.ok i) (hr : nvq 4 r = true) (hb : ∀ b ∈ nb, ∀ p x, b.at p = some x → nvq 4 x = true) (hu : ∀ i b, (i, b) ∈ u → ∀ p x, b.at p = some x → nvq 4 x = true) : Yld P o ρ C.w (Leaves C n (some r) nb u) := by
  have e : Ext C ⟨C.β, C.ok, fun k => C.ow k ∧ ∀ i ∈ ids, C.β i ≠ k, C.w⟩ (fun _ => False) := ⟨.refl _ _, by simp, fun _ _ => rfl, fun _ h => h, fun k hk => .inl hk.1⟩
  have hcall := hcon ⟨C.β, C.ok, fun k => C.ow k ∧ ∀ i ∈ ids, C.β i ≠ k, C.w⟩ (va ++ vs ++ vb) hl (fun i b hi => ⟨(hh i b hi).1.mono e (hh i b hi).2.1 (fun h => h), (hh i b hi).2.1, (hh i b hi).2.2.1, (hh i b hi).2.2.2⟩) hinj (hlt.sub fun k hk => hk.1) hnew
  refine .enter (f := f) (args := (va ++ vs ++ vb).toArray) ?_ (hcall.mono fun e w' ⟨cv, he, hL⟩ => ⟨cv, he, hL.lent2 hr hb hu⟩)
  unfold execOp
  have hm : c.args.map ρ = vs.toArray := by rw [← hargs]; apply Array.ext'; simp
  have hcf := callable hf (va ++ vs ++ vb).toArray C.w
  simp only [ho, resolve, hc, hx, hm, Deferred.ofValue]
  simpa [invoke] using hcf
theorem mem_blksOf {i : Nat} {b : Blk} : ∀ {u : Heap}, (i, b) ∈ u → b ∈ blksOf u
  | (j, c) :: r, h => by
    simp only [List.mem_cons, Prod.mk.injEq, blksOf] at h ⊢
    rcases h with ⟨_, h⟩ | h
    · exact .inl h
    · exact .inr (mem_blksOf h)

/-! ### The effect of an operation -/
structure Now (C : Cx) (h : Heap) (n : Nat) (rd : List Nat) (nb : List Blk) : Prop where
  heap : ∀ i ∈ rd, ∀ b, lk i h = some b → BRel C i b ∧ C.ok i ∧ C.ow (C.β i)
  inj : ∀ i ∈ rd, ∀ j ∈ rd, ∀ a b, lk i h = some a → lk j h = some b → a.dead = false → b.dead = false → C.β i = C.β j → i = j
  new : ∀ i, n ≤ i → i < n + nb.length → ¬ C.ok i
  glo : Glo C.w C.ow
theorem Now.owlt {C : Cx} {h : Heap} {n : Nat} {rd : List Nat} {nb : List Blk} (hn : Now C h n rd nb) : ∀ k, C.ow k → k < C.w.heap.size := hn.glo.lt
theorem eCallW_eq (H : Hold) (Γ : Cons) (h : Heap) (nx n : Nat) (l : List AV) : eCallW H Γ h nx n l = (match Γ H n (viewL (viewF H h) l).1 h nx with
    | some (v, nb, rd, u, ob') => eLent2 h v nb rd u (viewL (viewF H h) l).2.1 ((viewL (viewF H h) l).2.2 ++ ob') (plainB H nb) (plainB H (blksOf u))
    | none => match Γ H n (viewL (viewA H h 5) l).1 h nx with
        | some (v, nb, rd, u, ob') => eLent2 h v nb rd u (viewL (viewA H h 5) l).2.1 ((viewL (viewA H h 5) l).2.2 ++ ob') (plainB H nb) (plainB H (blksOf u))
        | none => .bad) := rfl
theorem lent2_ok {Γ : Cons} {h : Heap} {c : Call} {x : Operand} {f : FuncId} {F : AV → AV × List Nat × List Prop} {args : List AV} {vs va vb : List Value} {v : Option AV} {nb : List Blk} {rd : List Nat} {u : Heap} {ob : List Prop} {r : AV} {nb' : List Blk} {rd' : List Nat} {u' : Heap} {ob' : List Prop} (hΓ : ConsOk P Γ)
    (hcb : ∀ f args h n, Γ stdH f args h n ≠ none → (P.funcs[f]?.map fun fn => (fn.name == "runtime.NumGoroutine", fn.body.isNone)) = some (false, false))
    (hF : ∀ D : Cx, D.β = C.β → (∀ i, C.ok i → D.ok i) → (∀ q, D.ow q → C.ow q) → D.w = C.w → ∀ (x : AV) (v : Value), Rel C x v → AllP (F x).2.2 → (∀ i ∈ (F x).2.1, (∀ b, lk i h = some b → BRel C i b) ∧ ¬ D.ow (C.β i)) → Rel D (F x).1 v)
    (ho : o.op = .call c) (hc : c.callee = .value x) (hx : ρ x = .func (.func f) va.toArray vb.toArray) (hargs : (c.args.toList.map ρ) = vs) (hl : LRel C args (va ++ vs ++ vb))
    (hg : Γ stdH f (viewL F args).1 h n = some (r, nb', rd', u', ob')) (he : eLent2 h r nb' rd' u' (viewL F args).2.1 ((viewL F args).2.2 ++ ob') (plainB stdH nb') (plainB stdH (blksOf u')) = .mk v nb rd u ob) (hob : AllP ob) (hnow : Now C h n rd nb) :
    Yld P o ρ C.w (Leaves C n v nb u) ∧ (∀ i b, (i, b) ∈ u → i ∈ rd ∧ ∃ b', lk i h = some b' ∧ b'.dead = false) := by
  cases h1 : plainB stdH nb' with
  | none => simp [eLent2, h1] at he
  | some l1 =>
    cases h2 : plainB stdH (blksOf u') with
    | none => simp [eLent2, h1, h2] at he
    | some l2 =>
      cases h3 : (nvq 4 r && ((viewL F args).2.1.all (fun i => !rd'.any (Nat.beq i)) && (((viewL F args).2.1 ++ rd').all (liveIn h)))) with
      | false => simp only [eLent2, h1, h2, h3, cond_false] at he; cases he
      | true =>
        simp only [eLent2, h1, h2, h3, cond_true, Eff.mk.injEq] at he
        obtain ⟨rfl, rfl, rfl, rfl, rfl⟩ := he
        simp only [Bool.and_eq_true] at h3
        obtain ⟨h4, h5, h6⟩ := h3
        obtain ⟨oa, oq⟩ := AllP_append hob
        obtain ⟨o1, o2⟩ := AllP_append oa
        obtain ⟨o3, o4⟩ := AllP_append oq
        obtain ⟨k1, h0, k2, k3⟩ := hΓ f _ h n r nb' rd' u' ob' hg o2
        have live : ∀ i, i ∈ (viewL F args).2.1 ++ rd' → ∃ b, lk i h = some b ∧ b.dead = false := fun i hi => by
          have := List.all_eq_true.1 h6 i hi
          unfold liveIn at this
          split at this
          · rename_i b hb; exact ⟨b, hb, by simpa using this⟩
          · cases this
        have dj : ∀ i, i ∈ rd' → ∀ j, j ∈ (viewL F args).2.1 → C.β j ≠ C.β i := fun i hi j hj e => by
          obtain ⟨a, ha, ha'⟩ := live i (List.mem_append_right _ hi)
          obtain ⟨b, hb, hb'⟩ := live j (List.mem_append_left _ hj)
          have hji := hnow.inj j (List.mem_append_left _ hj) i (List.mem_append_right _ hi) b a hb ha hb' ha' e
          subst hji
          have := List.all_eq_true.1 h5 j hj
          simp only [Bool.not_eq_true', List.any_eq_false, Bool.not_eq_true] at this
          have := this j hi
          simp at this
        refine ⟨ok_callV2 (ids := (viewL F args).2.1) ho hc hx hargs (viewL_rel (h := h) (hF ⟨C.β, C.ok, fun k => C.ow k ∧ ∀ i ∈ (viewL F args).2.1, C.β i ≠ k, C.w⟩ rfl (fun _ h => h) (fun _ h => h.1) rfl) hl o1 fun i hi => ⟨fun b hb => (hnow.heap i (List.mem_append_left _ hi) b hb).1, fun how => how.2 i hi rfl⟩) (hcb f _ h n (by rw [hg]; simp)) k3 (fun i b hi => ?_) (fun i j a b hi hj hd hd' => hnow.inj i (List.mem_append_right _ (k2 i a hi).1) j (List.mem_append_right _ (k2 j b hj).1) a b (k2 i a hi).2 (k2 j b hj).2 hd hd') hnow.glo hnow.new h4 (plainB_ok h1 o3) (fun i b hi => plainB_ok h2 o4 b (mem_blksOf hi)), fun i b hi => ⟨List.mem_append_right _ (k1 i b hi).1, (k1 i b hi).2⟩⟩
        obtain ⟨q1, q2, q3⟩ := hnow.heap i (List.mem_append_right _ (k2 i b hi).1) b (k2 i b hi).2
        exact ⟨q1, q2, q3, dj i (k2 i b hi).1⟩
theorem eOpt_inv {a : Option AV} {v : Option AV} {nb : List Blk} {rd : List Nat} {u : Heap} {ob : List Prop} (h : eOpt a = .mk v nb rd u ob) : v = a ∧ a ≠ none ∧ nb = [] ∧ u = [] := by
  cases a with
  | none => simp [eOpt] at h
  | some x => simp only [eOpt, pure1, Eff.mk.injEq] at h; obtain ⟨h1, h2, h3, h4, h5⟩ := h; exact ⟨h1.symm, by simp, h2.symm, h4.symm⟩
theorem eff0_ok {Γ : Cons} {τ : Tab} {g : Operand → Option AV} {h : Heap} {v : Option AV} {nb : List Blk} {rd : List Nat} {u : Heap} {ob : List Prop} (hτ : TabOk P τ) (hΓ : ConsOk P Γ)
    (hcb : ∀ f args h n, Γ stdH f args h n ≠ none → (P.funcs[f]?.map fun fn => (fn.name == "runtime.NumGoroutine", fn.body.isNone)) = some (false, false))
    (he : eff0 stdH Γ τ g h n o.op = .mk v nb rd u ob) (hpk : ∀ c a b, o.op ≠ .pick c a b) (hob : AllP ob) (hg : ∀ x av, g x = some av → Rel C av (ρ x)) (hnow : Now C h n rd nb) :
    Yld P o ρ C.w (Leaves C n v nb u) ∧ (∀ i b, (i, b) ∈ u → i ∈ rd ∧ ∃ b', lk i h = some b' ∧ b'.dead = false) := by
  cases hop : o.op <;> simp only [hop, eff0] at he <;> try (exact absurd he (by simp))
  case move x =>
    obtain ⟨rfl, hn, rfl, rfl⟩ := eOpt_inv he
    obtain ⟨av, hav⟩ := Option.ne_none_iff_exists'.1 hn
    rw [hav]
    exact ⟨ok_move hop (hg x av hav), by simp⟩
  case assign x =>
    obtain ⟨rfl, hn, rfl, rfl⟩ := eOpt_inv he
    obtain ⟨av, hav⟩ := Option.ne_none_iff_exists'.1 hn
    rw [hav]
    exact ⟨ok_assign hop (hg x av hav), by simp⟩
  case pick c a b => exact absurd hop (hpk c a b)
  case alloc T =>
    cases hT : lk T τ.l with
    | none => simp [hT, eAlloc] at he
    | some i =>
      simp only [hT, eAlloc, Eff.mk.injEq] at he
      obtain ⟨rfl, rfl, rfl, rfl, rfl⟩ := he
      exact ⟨ok_alloc hop (hτ T i hT) (hnow.new n (Nat.le_refl _) (by simp)), by simp⟩
  case box T x =>
    cases hx : g x with
    | none => simp [hx, eBox] at he
    | some av =>
      cases hc : notTup av with
      | false => simp [hx, eBox, hc] at he
      | true =>
        simp only [hx, eBox, hc, cond_true, Eff.mk.injEq] at he
        obtain ⟨rfl, rfl, rfl, rfl, rfl⟩ := he
        exact ⟨ok_box hop (hg x av hx) (notTup_ne hc) (hnow.new n (Nat.le_refl _) (by simp)), by simp⟩
  case build T ps =>
    cases hT : lk T τ.l with
    | none => simp [hT, eBuild] at he
    | some i =>
      cases hs : i.st with
      | false => simp [hT, eBuild, hs] at he
      | true =>
        simp only [hT, eBuild, hs, cond_true] at he
        cases hf : fills (fun j => i.offs[j]?) (ps.toList.map fun p => (p.1, g p.2)) (i.zero.map .lit) with
        | none => simp [hf] at he
        | some cs =>
          simp only [hf, pure1, Eff.mk.injEq] at he
          obtain ⟨rfl, rfl, rfl, rfl, rfl⟩ := he
          exact ⟨ok_build hop (hτ T i hT) hs hg hf, by simp⟩
  case buildSlice T len ps =>
    cases hT : lk T τ.l with
    | none => simp [hT, eBuildSlice] at he
    | some t =>
      cases hsl : t.sl with
      | false => simp [hT, eBuildSlice, hsl] at he
      | true =>
        cases hE : lk t.elem τ.l with
        | none => simp [hT, eBuildSlice, hsl, hE] at he
        | some i =>
          simp only [hT, eBuildSlice, hsl, hE, cond_true] at he
          cases hc : (Nat.ble (len * i.size) 16777216 && (Nat.blt 0 i.size && Nat.beq i.zero.length i.size)) with
          | false => rw [hc] at he; simp at he
          | true =>
            rw [hc] at he
            simp only [cond_true] at he
            simp only [Bool.and_eq_true] at hc
            obtain ⟨c1, c2, c3⟩ := hc
            have c1' := Nat.le_of_ble_eq_true c1
            have c2' : 0 < i.size := by simpa using c2
            have c3' := Nat.eq_of_beq_eq_true c3
            cases hf : fills (fun j => some (j * i.size, i.size)) (ps.toList.map fun p => (p.1, g p.2)) (rep (i.zero.map .lit) len) with
            | none => simp [hf] at he
            | some cs =>
              simp only [hf] at he
              rcases Nat.eq_zero_or_pos len with h0 | h0
              · subst h0
                have hps : ps = #[] := by
                  cases hl : ps.toList with
                  | nil => simpa using hl
                  | cons p r =>
                    rw [hl] at hf
                    simp only [List.map_cons, rep] at hf
                    cases hx : g p.2 with
                    | none => simp [hx, fills] at hf
                    | some x =>
                      simp only [hx, fills] at hf
                      cases hq : (Nat.beq x.cells.length i.size && notTup x) with
                      | false => rw [hq] at hf; simp at hf
                      | true =>
                        rw [hq] at hf
                        simp only [cond_true] at hf
                        simp only [Bool.and_eq_true] at hq
                        have := Nat.eq_of_beq_eq_true hq.1
                        cases hs : splice [] x.cells (p.1 * i.size) with
                        | none => simp [hs] at hf
                        | some r => have h9 := (splice_spec _ _ _ _ hs).2.1; simp only [List.length_nil] at h9; omega
                subst hps
                simp [fills, rep] at hf
                subst hf
                cases how : ownLit τ.o t.elem 0 with
                | true =>
                  rw [how] at he
                  simp only [cond_true, Eff.mk.injEq] at he
                  obtain ⟨rfl, rfl, rfl, rfl, rfl⟩ := he
                  exact ⟨ok_buildO0 hop (hτ _ i hE) ((hτ T t hT).sl hsl) (hnow.new n (Nat.le_refl _) (by simp)) _, by simp⟩
                | false =>
                  rw [how] at he
                  simp only [cond_false, Eff.mk.injEq] at he
                  obtain ⟨rfl, rfl, rfl, rfl, rfl⟩ := he
                  exact ⟨ok_buildSlice0 hop (hτ _ i hE) ((hτ T t hT).sl hsl) hnow.owlt _, by simp⟩
              · obtain ⟨m, rfl⟩ : ∃ m, len = m + 1 := ⟨len - 1, by omega⟩
                cases how : ownLit τ.o t.elem (m + 1) with
                | true =>
                  rw [how] at he
                  simp only [cond_true, Eff.mk.injEq] at he
                  obtain ⟨rfl, rfl, rfl, rfl, rfl⟩ := he
                  exact ⟨ok_buildO hop (hτ _ i hE) ((hτ T t hT).sl hsl) hg c1' c2' (Nat.succ_pos m) c3' (hnow.new n (Nat.le_refl _) (by simp)) hf, by simp⟩
                | false =>
                  rw [how] at he
                  simp only [cond_false, Eff.mk.injEq] at he
                  obtain ⟨rfl, rfl, rfl, rfl, rfl⟩ := he
                  exact ⟨(ok_buildSlice hop (hτ _ i hE) ((hτ T t hT).sl hsl) hg c1' c2' h0 c3' hnow.owlt hf).mono fun _ _ q => q.fulE fun j hj => litRowsO_eq hj, by simp⟩
  case load T x =>
    cases hT : lk T τ.l with
    | none =>
      cases hx : g x with
      | none => simp [hx, eLoad] at he
      | some av =>
        cases av <;> simp [hx, hT, eLoad, eLoad2, eLoadE] at he
    | some t =>
      cases hx : g x with
      | none => simp [hx, eLoad] at he
      | some av =>
        cases av <;> try (simp [hx, eLoad] at he; done)
        case ptr i off =>
          cases hb : lk i h with
          | none => simp [hx, hT, eLoad, eLoad2, hb] at he
          | some b =>
            cases b with
            | rows k m f E => simp [hx, hT, eLoad, eLoad2, hb] at he
            | cells l E =>
              simp only [hx, hT, eLoad, eLoad2, hb] at he
              cases hm : Nat.ble (off + t.size) l.length with
              | false => simp [hm] at he
              | true =>
                simp only [hm, cond_true] at he
                cases hv : mk t.agg ((l.drop off).take t.size) with
                | none => simp [hv, eLoadV] at he
                | some av =>
                  simp only [hv, eLoadV, Eff.mk.injEq] at he
                  obtain ⟨rfl, rfl, rfl, rfl, rfl⟩ := he
                  exact ⟨ok_load hop (hτ T t hT) (hg x _ hx) (hnow.heap i (by simp) _ hb).1 (Nat.le_of_ble_eq_true hm) hv, by simp⟩
        case elm i k j off =>
          cases hb : lk i h with
          | none => simp [hx, hT, eLoad, eLoadE, hb] at he
          | some b =>
            cases b with
            | cells l E => simp [hx, hT, eLoad, eLoadE, hb] at he
            | rows k' m f E =>
              simp only [hx, hT, eLoad, eLoadE, hb] at he
              cases hm : (Nat.beq k k' && (Nat.ble (off + t.size) k && Nat.blt 0 k)) with
              | false => rw [hm] at he; simp at he
              | true =>
                rw [hm] at he
                simp only [cond_true] at he
                simp only [Bool.and_eq_true] at hm
                have hk := Nat.eq_of_beq_eq_true hm.1
                subst hk
                cases hv : mk t.agg (((f j).drop off).take t.size) with
                | none => simp [hv] at he
                | some av =>
                  simp only [hv, stdH, Eff.mk.injEq] at he
                  obtain ⟨rfl, rfl, rfl, rfl, rfl⟩ := he
                  exact ⟨ok_loadE hop (hτ T t hT) (hg x _ hx) (hnow.heap i (by simp) _ hb).1 (Nat.le_of_ble_eq_true hm.2.1) hob.1 hv, by simp⟩
        case rptr l =>
          simp only [hx, hT, eLoad] at he
          cases hm : Nat.ble t.size l.length with
          | false => simp [hm] at he
          | true =>
            simp only [hm, cond_true] at he
            cases hv : mk t.agg (l.take t.size) with
            | none => simp [hv, eLoadV] at he
            | some av =>
              simp only [hv, eLoadV, Eff.mk.injEq] at he
              obtain ⟨rfl, rfl, rfl, rfl, rfl⟩ := he
              exact ⟨ok_loadR hop (hτ T t hT) (hg x _ hx) (Nat.le_of_ble_eq_true hm) hv, by simp⟩
  case store T x y =>
    cases hT : lk T τ.l with
    | none =>
      cases hx : g x with
      | none => simp [hx, eStore] at he
      | some av =>
        cases av <;> cases hy : g y <;> simp [hx, hy, hT, eStore, eStore2, eStoreE] at he
    | some t =>
      cases hx : g x with
      | none => simp [hx, eStore] at he
      | some ax =>
        cases ax <;> try (simp [hx, eStore] at he; done)
        case ptr i off =>
          cases hy : g y with
          | none => simp [hx, hy, eStore] at he
          | some av =>
            cases hb : lk i h with
            | none => simp [hx, hy, hT, eStore, eStore2, hb] at he
            | some b =>
              cases b with
              | rows k m f E => simp [hx, hy, hT, eStore, eStore2, hb] at he
              | cells l E =>
                simp only [hx, hy, hT, eStore, eStore2, hb] at he
                cases hm : (Nat.beq av.cells.length t.size && (notTup av && Nat.blt 0 l.length)) with
                | false => rw [hm] at he; simp at he
                | true =>
                  rw [hm] at he
                  simp only [cond_true] at he
                  simp only [Bool.and_eq_true] at hm
                  cases hs : splice l av.cells off with
                  | none => simp [hs, eStore3] at he
                  | some cs =>
                    simp only [hs, eStore3, Eff.mk.injEq] at he
                    obtain ⟨rfl, rfl, rfl, rfl, rfl⟩ := he
                    obtain ⟨b1, b2, b3⟩ := hnow.heap i (by simp) _ hb
                    exact ⟨ok_store hop (hτ T t hT) (hg x _ hx) (hg y _ hy) hm.2.1 b1 (Nat.eq_of_beq_eq_true hm.1) hs b3, fun j b hj => by simp at hj; exact ⟨by simp [hj.1], _, hj.1 ▸ hb, by
                      match l, hm.2.2 with
                      | _ :: _, _ => rfl⟩⟩
        case elm i k j off =>
          cases hy : g y with
          | none => simp [hx, hy, eStore] at he
          | some av =>
            cases hb : lk i h with
            | none => simp [hx, hy, hT, eStore, eStoreE, hb] at he
            | some b =>
              cases b with
              | cells l E => simp [hx, hy, hT, eStore, eStoreE, hb] at he
              | rows k' m f E =>
                simp only [hx, hy, hT, eStore, eStoreE, hb] at he
                cases hm : (Nat.beq k k' && (Nat.beq av.cells.length t.size && (notTup av && Nat.blt 0 k))) with
                | false => rw [hm] at he; simp at he
                | true =>
                  rw [hm] at he
                  simp only [cond_true] at he
                  simp only [Bool.and_eq_true] at hm
                  have hk := Nat.eq_of_beq_eq_true hm.1
                  subst hk
                  have hlen := Nat.eq_of_beq_eq_true hm.2.1
                  cases hw : (Nat.beq off 0 && Nat.beq t.size k) with
                  | true =>
                    rw [hw] at he
                    simp only [cond_true, stdH, Eff.mk.injEq] at he
                    obtain ⟨rfl, rfl, rfl, rfl, rfl⟩ := he
                    obtain ⟨b1, b2, b3⟩ := hnow.heap i (by simp) _ hb
                    simp only [Bool.and_eq_true] at hw
                    have h1 := Nat.eq_of_beq_eq_true hw.1
                    have h2 := Nat.eq_of_beq_eq_true hw.2
                    subst h1
                    have hs' : splice (f j) av.cells 0 = some av.cells := by
                      have hle : (f j).length = av.cells.length := by rw [hob.1.2, hlen, h2]
                      simp only [splice]
                      rw [show Nat.ble av.cells.length (f j).length = true by simp [hle], cond_true, ← hle, List.drop_length, List.append_nil]
                    exact ⟨ok_storeE hop (hτ T t hT) (hg x _ hx) (hg y _ hy) hm.2.2.1 (by simpa using hm.2.2.2) b1 hlen hob.1 hs' b3, fun j b hj => by simp at hj; exact ⟨by simp [hj.1], _, hj.1 ▸ hb, rfl⟩⟩
                  | false =>
                    rw [hw] at he
                    cases hle : Nat.ble (off + t.size) k with
                    | false => rw [hle] at he; simp at he
                    | true =>
                      rw [hle] at he
                      simp only [cond_false, cond_true, stdH, Eff.mk.injEq] at he
                      obtain ⟨rfl, rfl, rfl, rfl, rfl⟩ := he
                      obtain ⟨b1, b2, b3⟩ := hnow.heap i (by simp) _ hb
                      have hle' := Nat.le_of_ble_eq_true hle
                      obtain ⟨row, hs'⟩ := splice_some off (f j) av.cells (by rw [hob.1.2, hlen]; exact hle')
                      have hp2 : put2 j off av.cells f = put1 j row f := by
                        funext q
                        unfold put2 put1
                        by_cases hq : q = j
                        · subst hq; rw [hs']
                        · rw [show Nat.beq q j = false by rw [← Bool.not_eq_true]; simpa using hq]; rfl
                      rw [hp2]
                      exact ⟨ok_storeE hop (hτ T t hT) (hg x _ hx) (hg y _ hy) hm.2.2.1 (by simpa using hm.2.2.2) b1 hlen hob.1 hs' b3, fun j b hj => by simp at hj; exact ⟨by simp [hj.1], _, hj.1 ▸ hb, rfl⟩⟩
  case nilCheck x =>
    cases hx : g x with
    | none => simp [hx, eNil] at he
    | some av =>
      cases av <;> try (simp [hx, eNil] at he; done)
      case ptr i off =>
        simp only [hx, eNil, pure1, Eff.mk.injEq] at he
        obtain ⟨rfl, rfl, rfl, rfl, rfl⟩ := he
        exact ⟨ok_nil hop (hg x _ hx), by simp⟩
      case elm i k j off =>
        simp only [hx, eNil, pure1, Eff.mk.injEq] at he
        obtain ⟨rfl, rfl, rfl, rfl, rfl⟩ := he
        exact ⟨ok_nilE hop (hg x _ hx), by simp⟩
      case fn f a b =>
        cases f <;> try (simp [hx, eNil] at he; done)
        simp only [hx, eNil, pure1, Eff.mk.injEq] at he
        obtain ⟨rfl, rfl, rfl, rfl, rfl⟩ := he
        exact ⟨ok_nilF hop (hg x _ hx), by simp⟩
  case fieldAddr T x f =>
    cases hT : lk T τ.l with
    | none => simp [hT, eField] at he
    | some t =>
      cases hx : g x with
      | none => simp [hT, hx, eField] at he
      | some av =>
        cases av <;> try (simp [hT, hx, eField] at he; done)
        case ptr i off =>
          simp only [hT, hx, eField] at he
          cases hf : t.offs[f]? with
          | none => simp [hf, eField2] at he
          | some p =>
            obtain ⟨a, sz⟩ := p
            simp only [hf, eField2] at he
            cases hz : Nat.blt 0 sz with
            | false => simp [hz] at he
            | true =>
              simp only [hz, cond_true, pure1, Eff.mk.injEq] at he
              obtain ⟨rfl, rfl, rfl, rfl, rfl⟩ := he
              exact ⟨ok_field hop (hτ T t hT) (hg x _ hx) hf (by simpa using hz), by simp⟩
        case elm i k j off =>
          simp only [hT, hx, eField] at he
          cases hf : t.offs[f]? with
          | none => simp [hf, eFieldE] at he
          | some p =>
            obtain ⟨a, sz⟩ := p
            simp only [hf, eFieldE] at he
            cases hz : Nat.blt 0 sz with
            | false => simp [hz] at he
            | true =>
              simp only [hz, cond_true, pure1, Eff.mk.injEq] at he
              obtain ⟨rfl, rfl, rfl, rfl, rfl⟩ := he
              exact ⟨ok_fieldE hop (hτ T t hT) (hg x _ hx) hf (by simpa using hz), by simp⟩
        case rptr l =>
          simp only [hT, hx, eField] at he
          cases hf : t.offs[f]? with
          | none => simp [hf, eFieldR] at he
          | some p =>
            obtain ⟨a, sz⟩ := p
            simp only [hf, eFieldR] at he
            cases hz : Nat.blt 0 sz with
            | false => simp [hz] at he
            | true =>
              simp only [hz, cond_true, pure1, Eff.mk.injEq] at he
              obtain ⟨rfl, rfl, rfl, rfl, rfl⟩ := he
              exact ⟨ok_fieldR hop (hτ T t hT) (hg x _ hx) hf (by simpa using hz), by simp⟩
  case makeSlice T x y =>
    cases hT : lk T τ.l with
    | none => simp [hT, eMake] at he
    | some t =>
      cases hx : g x with
      | none => simp [hT, hx, eMake] at he
      | some ax =>
        cases hy : g y with
        | none => cases ax <;> simp [hT, hx, hy, eMake] at he <;> (split at he <;> simp_all)
        | some ay =>
          cases ax <;> try (simp [hT, hx, hy, eMake] at he; done)
          rename_i p
          cases p <;> try (simp [hT, hx, hy, eMake] at he; done)
          rename_i kl a
          cases ay <;> try (simp [hT, hx, hy, eMake] at he; done)
          rename_i q
          cases q <;> try (simp [hT, hx, hy, eMake] at he; done)
          rename_i kc b
          simp only [hT, hx, hy, eMake] at he
          cases hE : lk t.elem τ.l with
          | none => simp [hE] at he
          | some i =>
            simp only [hE] at he
            cases hc : (t.sl && (Nat.blt 0 i.size && Nat.beq i.zero.length i.size)) with
            | false => rw [hc] at he; simp at he
            | true =>
              rw [hc] at he
              simp only [cond_true, stdH, Eff.mk.injEq] at he
              obtain ⟨rfl, rfl, rfl, rfl, rfl⟩ := he
              simp only [Bool.and_eq_true] at hc
              obtain ⟨⟨rfl, h1, h2, h3⟩, _⟩ := hob
              exact ⟨ok_make hop (hτ _ i hE) ((hτ T t hT).sl hc.1) (hg x _ hx).lit_inv.1 (hg y _ hy).lit_inv.1 h1 h2 h3 (by simpa using hc.2.1) (Nat.eq_of_beq_eq_true hc.2.2) (hnow.new n (Nat.le_refl _) (by simp)), by simp⟩
  case binOp op T x y S =>
    cases hnC : isNilC y with
    | true =>
      simp only [eBinN, hnC] at he
      cases hx : g x with
      | none => simp [hx, eErr] at he
      | some ax =>
        cases ax <;> try (simp [hx, eErr] at he; done)
        rename_i b
        cases hy : g y with
        | none => simp [hx, hy, eErr] at he
        | some ay =>
        cases ay <;> try (simp [hx, hy, eErr] at he; done)
        rename_i q
        cases q <;> try (simp [hx, hy, eErr] at he; done)
        cases hT : lk T τ.l with
        | none => simp [hx, hy, hT, kdOf, eErr] at he
        | some t =>
          cases hk : t.kd <;> simp [hx, hy, hT, kdOf, hk, eErr] at he
          have hTT := (hτ T t hT).kd
          rw [hk] at hTT
          have hcn : y = .const .nilIface := by
            unfold isNilC at hnC
            split at hnC
            · rfl
            · cases hnC
          subst hcn
          cases op <;> simp [pure1, stdH] at he
          all_goals
            obtain ⟨rfl, rfl, rfl, rfl, rfl⟩ := he
          · exact ⟨ok_err hop (hg x _ hx) (hg _ _ hy).lit_inv.1 hTT (.inl ⟨rfl, rfl⟩), by simp⟩
          · exact ⟨ok_err hop (hg x _ hx) (hg _ _ hy).lit_inv.1 hTT (.inr ⟨rfl, rfl⟩), by simp⟩
    | false =>
    simp only [eBinN, hnC] at he
    have lits : ∀ p q, g x = some (.lit p) → g y = some (.lit q) → (∀ a b, p = .bool a → q ≠ .bool b) → Yld P o ρ C.w (Leaves C n v nb u) ∧ (∀ i b, (i, b) ∈ u → i ∈ rd ∧ ∃ b', lk i h = some b' ∧ b'.dead = false) := by
      intro p q hx hy hnb
      have he' : eBin2 (bin stdH op p q) = .mk v nb rd u ob := by
        cases p <;> cases q <;> first | (exact absurd rfl (hnb _ _ rfl)) | simpa [hx, hy, eBin] using he
      cases hb : bin stdH op p q with
      | none => simp [hb, eBin2] at he'
      | some r =>
        obtain ⟨r, ob'⟩ := r
        simp only [hb, eBin2, Eff.mk.injEq] at he'
        obtain ⟨rfl, rfl, rfl, rfl, rfl⟩ := he'
        exact ⟨ok_bin hop (hg x _ hx).lit_inv.1 (hg y _ hy).lit_inv.1 hb hob, by simp⟩
    cases hx : g x with
    | none => simp [hx, eBin] at he
    | some ax =>
      cases hy : g y with
      | none => cases ax <;> simp [hx, hy, eBin] at he <;> (split at he <;> simp_all)
      | some ay =>
        cases ax <;> cases ay <;> try (simp [hx, hy, eBin] at he; done)
        case lit.lit p q =>
          by_cases hbb : ∃ a b, p = .bool a ∧ q = .bool b
          · obtain ⟨a, b, rfl, rfl⟩ := hbb
            simp only [hx, hy, eBin] at he
            cases hT : lk T τ.l with
            | none => simp [hT, kdOf, eBool] at he
            | some t =>
              cases hk : t.kd <;> simp [hT, kdOf, hk, eBool] at he
              have hTT : P.underlying T = some .bool := by have := (hτ T t hT).kd; rw [hk] at this; exact this
              cases op <;> simp [pure1, stdH] at he
              all_goals
                obtain ⟨rfl, rfl, rfl, rfl, rfl⟩ := he
              · exact ⟨ok_bool hop (hg x _ hx).bool_inv (hg y _ hy).bool_inv hTT (.inl ⟨rfl, rfl⟩), by simp⟩
              · exact ⟨ok_bool hop (hg x _ hx).bool_inv (hg y _ hy).bool_inv hTT (.inr ⟨rfl, rfl⟩), by simp⟩
          · exact lits p q hx hy fun a b e1 e2 => hbb ⟨a, b, e1, e2⟩
        case agg.agg l m =>
          simp only [hx, hy, eBin] at he
          cases hT : lk T τ.l with
          | none => simp [hT, kdOf] at he
          | some t =>
            cases hk : t.kd <;> simp [hT, kdOf, hk] at he
            rename_i ks
            have hTT := (hτ T t hT).kd
            rw [hk] at hTT
            cases hc : eqCells ks l m with
            | none => simp [hc, eEq] at he
            | some fs =>
              cases op <;> simp [hc, eEq, pure1, stdH] at he
              all_goals
                obtain ⟨rfl, rfl, rfl, rfl, rfl⟩ := he
              · exact ⟨ok_eqA hop (hg x _ hx) (hg y _ hy) hTT hc (.inl ⟨rfl, rfl⟩), by simp⟩
              · exact ⟨ok_eqA hop (hg x _ hx) (hg y _ hy) hTT hc (.inr ⟨rfl, rfl⟩), by simp⟩
        all_goals (cases ‹Value› <;> simp [hx, hy, eBin] at he)
  case unOp op T x =>
    cases hx : g x with
    | none => cases op <;> simp [hx, eUn] at he
    | some av =>
      cases av <;> try (cases op <;> simp [hx, eUn] at he; done)
      case lit p =>
        cases op <;> cases p <;> try (simp [hx, eUn] at he; done)
        all_goals
          simp only [hx, eUn, pure1, stdH, Eff.mk.injEq] at he
          obtain ⟨rfl, rfl, rfl, rfl, rfl⟩ := he
        · exact ⟨ok_neg hop (hg x _ hx).lit_inv.1, by simp⟩
        · exact ⟨ok_not hop (hg x _ hx).lit_inv.1, by simp⟩
  case convert S D x =>
    cases hx : g x with
    | none => simp [hx, eConv] at he
    | some av =>
      cases av <;> try (simp [hx, eConv] at he; done)
      case lit p =>
        cases p <;> try (simp [hx, eConv] at he; done)
        cases hS : lk S τ.l with
        | none => simp [hx, hS, eConv] at he
        | some s =>
          cases hD : lk D τ.l with
          | none => simp [hx, hS, hD, kdOf, eConv] at he
          | some d =>
            cases hk : d.kd <;> simp [hx, hS, hD, kdOf, hk, eConv, pure1, stdH] at he
            obtain ⟨rfl, rfl, rfl, rfl, rfl⟩ := he
            obtain ⟨dd, hd, _⟩ := (hτ S s hS).under
            have hDD := (hτ D d hD).kd
            rw [hk] at hDD
            exact ⟨ok_conv hop (hg x _ hx).lit_inv.1 ⟨dd, hd⟩ hDD, by simp⟩
      case vec k m f =>
        simp only [hx, eConv] at he
        cases hk : Nat.beq k 1 with
        | false => simp [hk] at he
        | true =>
          obtain rfl := Nat.eq_of_beq_eq_true hk
          simp only [hk, cond_true] at he
          unfold eConvS at he
          split at he
          · rename_i s q a hS hf
            cases hc : (s.sl && kdStr (kdOf (lk D τ.l)) && kdU8 (kdOf (lk s.elem τ.l)) && sameK q .u8 && Nat.beq m 1) with
            | false => simp [hc] at he
            | true =>
              simp only [hc, cond_true, pure1, stdH, Eff.mk.injEq] at he
              obtain ⟨rfl, rfl, rfl, rfl, rfl⟩ := he
              simp only [Bool.and_eq_true] at hc
              obtain ⟨⟨⟨⟨h1, h2⟩, h3⟩, h4⟩, h5⟩ := hc
              obtain rfl := Nat.eq_of_beq_eq_true h5
              obtain rfl := sameK_eq h4
              have hSl := (hτ S s hS).sl h1
              cases hD : lk D τ.l with
              | none => simp [hD, kdOf, kdStr] at h2
              | some d =>
                cases hE : lk s.elem τ.l with
                | none => simp [hE, kdOf, kdU8] at h3
                | some e =>
                  simp only [hD, kdOf] at h2
                  simp only [hE, kdOf] at h3
                  have hDD := (hτ D d hD).kd
                  have hEE := (hτ _ e hE).kd
                  cases hdk : d.kd <;> simp [hdk, kdStr] at h2
                  cases hek : e.kd <;> simp [hek, kdU8] at h3
                  rw [hdk] at hDD
                  rw [hek] at hEE
                  obtain rfl := sameK_eq h3
                  exact ⟨ok_convS hop (hg x _ hx) hf hSl hEE hDD, by simp⟩
          · cases he
  case extract x i =>
    cases hx : g x with
    | none => simp [hx, eExt] at he
    | some av =>
      cases av <;> try (simp [hx, eExt] at he; done)
      case tup l =>
        simp only [hx, eExt] at he
        obtain ⟨rfl, hn, rfl, rfl⟩ := eOpt_inv he
        obtain ⟨av, hav⟩ := Option.ne_none_iff_exists'.1 hn
        rw [hav]
        exact ⟨ok_ext hop (hg x _ hx) hav, by simp⟩
  case makeFunc f a c =>
    cases ha : all? (a.toList.map g) with
    | none => simp [ha, eFunc] at he
    | some l =>
      cases hc : all? (c.toList.map g) with
      | none => simp [ha, hc, eFunc] at he
      | some m =>
        simp only [ha, hc, eFunc, pure1, Eff.mk.injEq] at he
        obtain ⟨rfl, rfl, rfl, rfl, rfl⟩ := he
        exact ⟨ok_func hop (ops_rel (fun x _ => hg x) ha) (ops_rel (fun x _ => hg x) hc), by simp⟩
  case index T x i =>
    cases hT : lk T τ.l with
    | none => simp [hT, eIndexS] at he
    | some t =>
      cases hx : g x with
      | none => simp [hT, hx, eIndexS] at he
      | some ax =>
        cases ax <;> try (simp [hT, hx, eIndexS] at he; done)
        case lit p =>
          cases p <;> try (simp [hT, hx, eIndexS] at he; done)
          case string s =>
            cases hi : g i with
            | none => simp [hT, hx, hi, eIndexS] at he
            | some ai =>
              cases ai <;> try (simp [hT, hx, hi, eIndexS] at he; done)
              case lit p =>
                cases p <;> try (simp [hT, hx, hi, eIndexS] at he; done)
                case int k j =>
                  cases hk : t.kd <;> simp [hT, hx, hi, eIndexS, hk, isStr] at he
                  obtain ⟨rfl, rfl, rfl, rfl, rfl⟩ := he
                  have hTT := (hτ T t hT).kd
                  rw [hk] at hTT
                  simp only [AllP, stdH, and_true] at hob
                  exact ⟨ok_index hop (hg x _ hx).lit_inv.1 (hg i _ hi).lit_inv.1 hTT hob, by simp⟩
  case indexAddr T x i =>
    cases hT : lk T τ.l with
    | none => simp [hT, eIdx] at he
    | some t =>
      cases hE : lk t.elem τ.l with
      | none => simp [hT, hE, eIdx] at he
      | some e =>
        cases hx : g x with
        | none => simp [hT, hE, hx, eIdx] at he
        | some av =>
          cases av <;> try (simp [hT, hE, hx, eIdx] at he; done)
          case slc id off k m =>
            cases off with
            | succ off => simp [hT, hE, hx, eIdx] at he
            | zero =>
            cases hi : g i with
            | none => simp [hT, hE, hx, hi, eIdx] at he
            | some ai =>
              cases ai <;> try (simp [hT, hE, hx, hi, eIdx] at he; done)
              case lit p =>
                cases p <;> try (simp [hT, hE, hx, hi, eIdx] at he; done)
                case int q j =>
                  simp only [hT, hE, hx, hi, eIdx] at he
                  cases hc : (t.sl && Nat.beq e.size k) with
                  | false => rw [hc] at he; simp at he
                  | true =>
                    rw [hc] at he
                    simp only [cond_true, stdH, Eff.mk.injEq] at he
                    obtain ⟨rfl, rfl, rfl, rfl, rfl⟩ := he
                    simp only [Bool.and_eq_true] at hc
                    have hk := Nat.eq_of_beq_eq_true hc.2
                    exact ⟨ok_idxE hop (hg x _ hx) (hg i _ hi).lit_inv.1 ⟨t.elem, (hτ T t hT).sl hc.1, fun w => by rw [← hk]; exact (hτ _ e hE).run_size w⟩ hob.1, by simp⟩
          case vec k m f =>
            cases hi : g i with
            | none => simp [hT, hE, hx, hi, eIdx] at he
            | some ai =>
              cases ai <;> try (simp [hT, hE, hx, hi, eIdx] at he; done)
              case lit p =>
                cases p <;> try (simp [hT, hE, hx, hi, eIdx] at he; done)
                case int q j =>
                  simp only [hT, hE, hx, hi, eIdx] at he
                  cases hc : (t.sl && Nat.beq e.size k) with
                  | false => rw [hc] at he; simp at he
                  | true =>
                    rw [hc] at he
                    simp only [cond_true, stdH, Eff.mk.injEq] at he
                    obtain ⟨rfl, rfl, rfl, rfl, rfl⟩ := he
                    simp only [Bool.and_eq_true] at hc
                    have hk := Nat.eq_of_beq_eq_true hc.2
                    exact ⟨ok_idx hop (hg x _ hx) (hg i _ hi).lit_inv.1 ⟨t.elem, (hτ T t hT).sl hc.1, fun w => by rw [← hk]; exact (hτ _ e hE).run_size w⟩ hob.1, by simp⟩
  case call c =>
    cases hc : c.callee with
    | invoke r m => simp [hc] at he
    | builtin bu =>
      simp only [hc] at he
      have mm : ∀ up, c.callee = .builtin (bif up then .max else .min) → (match c.args.toList with | [x, y] => eMM stdH up (g x) (g y) | _ => .bad) = .mk v nb rd u ob → Yld P o ρ C.w (Leaves C n v nb u) ∧ (∀ i b, (i, b) ∈ u → i ∈ rd ∧ ∃ b', lk i h = some b' ∧ b'.dead = false) := by
        intro up hup he
        match ha : c.args.toList with
        | [] => simp [ha] at he
        | [_] => simp [ha] at he
        | _ :: _ :: _ :: _ => simp [ha] at he
        | [x, y] =>
          simp only [ha] at he
          cases hx : g x with
          | none => simp [hx, eMM] at he
          | some ax =>
            cases ax <;> try (simp [hx, eMM] at he; done)
            case lit p =>
              cases p <;> try (simp [hx, eMM] at he; done)
              case int k a =>
                cases hy : g y with
                | none => simp [hx, hy, eMM] at he
                | some ay =>
                  cases ay <;> try (simp [hx, hy, eMM] at he; done)
                  case lit q =>
                    cases q <;> try (simp [hx, hy, eMM] at he; done)
                    case int k' b =>
                      have hr := ok_mm (P := P) (C := C) (n := n) hop hup ha (hg x _ hx).lit_inv.1 (hg y _ hy).lit_inv.1
                      cases up <;> simp only [hx, hy, eMM, pure1, stdH, Eff.mk.injEq] at he <;> obtain ⟨rfl, rfl, rfl, rfl, rfl⟩ := he <;> exact ⟨hr, by simp⟩
      cases bu <;> try (simp at he; done)
      case max => exact mm true hc he
      case min => exact mm false hc he
      case len =>
        match ha : c.args.toList, ht : c.argTypes.toList with
        | [], _ => simp [ha] at he
        | [x], [] => simp [ha, ht] at he
        | _ :: _ :: _, _ => simp [ha] at he
        | [x], _ :: _ :: _ => simp [ha, ht] at he
        | [x], [T] =>
          simp only [ha, ht] at he
          have hop' : o.op = .call { callee := .builtin .len, args := #[x], argTypes := #[T] } := by
            rw [hop]
            obtain ⟨cc, ca, ct⟩ := c
            simp only at hc ha ht
            subst hc
            congr 2
            · rw [← ha]
            · rw [← ht]
          cases hT : lk T τ.l with
          | none => simp [hT, eLen] at he
          | some t =>
            cases hx : g x with
            | none => simp [hT, hx, eLen] at he
            | some av =>
              cases av <;> try (simp [hT, hx, eLen] at he; done)
              case vec k m f =>
                cases hs : t.sl <;> simp [hT, hx, eLen, hs, pure1, stdH] at he
                obtain ⟨rfl, rfl, rfl, rfl, rfl⟩ := he
                exact ⟨ok_len hop' (hg x _ hx) (.inl ⟨k, f, rfl, _, (hτ T t hT).sl hs⟩), by simp⟩
              case slc i off k m =>
                cases hs : t.sl <;> simp [hT, hx, eLen, hs, pure1, stdH] at he
                obtain ⟨rfl, rfl, rfl, rfl, rfl⟩ := he
                exact ⟨ok_len hop' (hg x _ hx) (.inr (.inl ⟨i, off, k, rfl, _, (hτ T t hT).sl hs⟩)), by simp⟩
              case lit p =>
                cases p <;> try (simp [hT, hx, eLen] at he; done)
                case string s =>
                  cases hk : t.kd <;> simp [hT, hx, eLen, hk, isStr, pure1, stdH] at he
                  obtain ⟨rfl, rfl, rfl, rfl, rfl⟩ := he
                  have hTT := (hτ T t hT).kd
                  rw [hk] at hTT
                  exact ⟨ok_len hop' (hg x _ hx) (.inr (.inr (.inl ⟨s, rfl, rfl, hTT⟩))), by simp⟩
                case slice a m cp =>
                  cases hs : t.sl <;> simp [hT, hx, eLen, hs, pure1, stdH] at he
                  obtain ⟨rfl, rfl, rfl, rfl, rfl⟩ := he
                  exact ⟨ok_len hop' (hg x _ hx) (.inr (.inr (.inr ⟨a, cp, rfl, _, (hτ T t hT).sl hs⟩))), by simp⟩
    | value x =>
      simp only [hc] at he
      cases hl : all? (c.args.toList.map g) with
      | none => cases hx : g x <;> simp [hl, hx, eCall] at he
      | some l =>
        have hrl : LRel C l (c.args.toList.map ρ) := ops_rel (fun y _ => hg y) hl
        have core : ∀ (f : FuncId) (a b : List AV) (va vb : List Value), ρ x = .func (.func f) va.toArray vb.toArray → LRel C a va → LRel C b vb → eCallV stdH Γ h n f (a ++ l ++ b) = .mk v nb rd u ob →
            Yld P o ρ C.w (Leaves C n v nb u) ∧ (∀ i b, (i, b) ∈ u → i ∈ rd ∧ ∃ b', lk i h = some b' ∧ b'.dead = false) := by
          intro f a b va vb hρ hA hB he'
          unfold eCallV at he'
          cases hΓ' : Γ stdH f (a ++ l ++ b) h n with
          | none =>
            simp only [hΓ'] at he'
            have hV := fun D h1 h2 h3 h4 => view_ok (C := C) (D := D) (h := h) h1 h2 h3 h4 (a ++ l ++ b) (va ++ (c.args.toList.map ρ) ++ vb) ((hA.append hrl).append hB)
            generalize hvw : view stdH h (a ++ l ++ b) = vw at he' hV
            obtain ⟨l', ids, obv⟩ := vw
            simp only at he' hV
            cases hΓ2 : Γ stdH f l' h n with
            | none =>
              rw [hΓ2] at he'
              simp only [eCallW_eq] at he'
              cases hΓ3 : Γ stdH f (viewL (viewF stdH h) (a ++ l ++ b)).1 h n with
              | some q =>
                obtain ⟨r, nb', rd', u', ob'⟩ := q
                simp only [hΓ3] at he'
                exact lent2_ok (F := viewF stdH h) hΓ hcb (fun D h1 h2 h3 h4 => viewF_ok h1 h2 h3 h4) hop hc hρ rfl ((hA.append hrl).append hB) hΓ3 he' hob hnow
              | none =>
                simp only [hΓ3] at he'
                cases hΓ4 : Γ stdH f (viewL (viewA stdH h 5) (a ++ l ++ b)).1 h n with
                | some q =>
                  obtain ⟨r, nb', rd', u', ob'⟩ := q
                  simp only [hΓ4] at he'
                  exact lent2_ok (F := viewA stdH h 5) hΓ hcb (fun D h1 h2 h3 h4 => viewA_ok h1 h2 h3 h4 5) hop hc hρ rfl ((hA.append hrl).append hB) hΓ4 he' hob hnow
                | none => simp only [hΓ4] at he'; cases he'
            | some q =>
              obtain ⟨r, nb', rd', u', ob'⟩ := q
              rw [hΓ2] at he'
              cases rd' with
              | cons _ _ => simp at he'
              | nil =>
                cases u' with
                | cons _ _ => simp at he'
                | nil =>
                  simp only at he'
                  cases hpb : plainB stdH nb' with
                  | none => simp [hpb, eLent] at he'
                  | some lp =>
                  cases hbq : nvq 4 r with
                  | false => simp [hpb, eLent, hbq] at he'
                  | true =>
                    simp only [hpb, eLent, hbq, cond_true, Eff.mk.injEq] at he'
                    obtain ⟨rfl, rfl, rfl, rfl, rfl⟩ := he'
                    obtain ⟨ob12, ob3⟩ := AllP_append hob
                    obtain ⟨ob1, ob2⟩ := AllP_append ob12
                    obtain ⟨_, h0, k2, k3⟩ := hΓ f l' h n r nb' [] [] ob' hΓ2 ob2
                    have hh0 : h0 = [] := by
                      match h0, k2 with
                      | [], _ => rfl
                      | (i, b) :: t, k2 => exact absurd (k2 i b (by simp [lk])).1 (by simp)
                    subst hh0
                    refine ⟨ok_callV (ids := ids) hop hc hρ rfl (hV _ rfl (fun _ h => h) (fun _ h => h.1) rfl ob1 (fun i hi => ⟨fun b hb => (hnow.heap i hi b hb).1, fun how => how.2 i hi rfl⟩)) (hcb f _ h n (by rw [hΓ2]; simp)) k3 hnow.glo hnow.new hbq (plainB_ok hpb ob3), by simp⟩
          | some r =>
            simp only [hΓ'] at he'
            obtain ⟨r, nb', rd', u', ob'⟩ := r
            simp only [eCall3, Eff.mk.injEq] at he'
            obtain ⟨rfl, rfl, rfl, rfl, rfl⟩ := he'
            obtain ⟨k1, h0, k2, k3⟩ := hΓ f (a ++ l ++ b) h n r nb' rd' u' ob' hΓ' hob
            refine ⟨ok_call hop hc hρ rfl hrl hA hB (hcb f _ h n (by rw [hΓ']; simp)) k3 (fun i b hi => hnow.heap i (k2 i b hi).1 b (k2 i b hi).2) (fun i j a b hi hj hd hd' => hnow.inj i (k2 i a hi).1 j (k2 j b hj).1 a b (k2 i a hi).2 (k2 j b hj).2 hd hd') hnow.glo hnow.new, fun i b hi => ?_⟩
            exact k1 i b hi
        cases hx : g x with
        | none => simp [hl, hx, eCall] at he
        | some ax =>
          cases ax <;> try (simp [hl, hx, eCall] at he; done)
          case lit p =>
            cases p <;> try (simp [hl, hx, eCall] at he; done)
            case func fn fi ca =>
              cases fn <;> try (simp [hl, hx, eCall] at he; done)
              simp only [hl, hx, eCall] at he
              match hfi : fi.toList, hca : ca.toList with
              | [], [] =>
                simp only [hfi, hca] at he
                have hq := (hg x _ hx).lit_inv.1
                have e1 : fi = #[] := by simpa using hfi
                have e2 : ca = #[] := by simpa using hca
                subst e1; subst e2
                exact core _ [] [] [] [] hq (.nil _) (.nil _) (by simpa using he)
              | [], _ :: _ => simp [hfi, hca] at he
              | _ :: _, _ => simp [hfi] at he
          case fn fn a b =>
            cases fn <;> try (simp [hl, hx, eCall] at he; done)
            case func f =>
              simp only [hl, hx, eCall] at he
              have hr := hg x _ hx
              generalize hq : ρ x = q at hr
              cases hr with
              | @fn _ _ _ vs us h1 h2 h3 h4 => exact core f a b vs us hq ⟨h1, h3⟩ ⟨h2, h4⟩ he
theorem bnd_is {g : Operand → Option AV} (hg : ∀ x av, g x = some av → Rel C av (ρ x)) {x : Option Operand} {a : Option Int} (h : bnd g x = some a) : BndIs ρ x a := by
  cases x with
  | none => simp [bnd] at h; subst h; trivial
  | some x =>
    simp only [bnd] at h
    cases hx : nrm (g x) with
    | none => simp [hx] at h
    | some y =>
      have hr := nrm_rel hg x y hx
      cases y <;> try (simp [hx] at h; done)
      rename_i v
      cases v <;> try (simp [hx] at h; done)
      rename_i q j
      simp [hx] at h
      subst h
      exact ⟨q, hr.lit_inv.1⟩
theorem offOf_eq (k : Nat) (lo : Option Int) : offOf stdH k lo = loOf lo * k := by cases lo <;> simp [offOf, loOf, stdH]
theorem eApp_ok {τ : Tab} {h : Heap} {c : Call} {s y : Operand} {T T' : TypeId} {sv yv : AV} {v : Option AV} {nb : List Blk} {rd : List Nat} {u : Heap} {ob : List Prop} (hτ : TabOk P τ) (hop : o.op = .call c) (hcal : c.callee = .builtin .append) (ha' : c.args = #[s, y]) (ht' : c.argTypes = #[T, T'])
    (he : eApp stdH τ h n (Nat.beq T T') (lk T τ.l) (some sv) (some yv) = .mk v nb rd u ob) (hob : AllP ob) (hrs : Rel C sv (ρ s)) (hry : Rel C yv (ρ y)) (hnow : Now C h n rd nb) :
    Yld P o ρ C.w (Leaves C n v nb u) ∧ (∀ i b, (i, b) ∈ u → i ∈ rd ∧ ∃ b', lk i h = some b' ∧ b'.dead = false) := by
        cases hT : lk T τ.l with
        | none => simp [hT, eApp] at he
        | some t =>
              cases yv <;> try (simp [hT, eApp] at he; done)
              case vec k m gf =>
                simp only [hT, eApp] at he
                cases hc : (Nat.beq T T' && t.sl) with
                | false => rw [hc] at he; simp at he
                | true =>
                  rw [hc] at he
                  simp only [cond_true] at he
                  simp only [Bool.and_eq_true] at hc
                  have := Nat.eq_of_beq_eq_true hc.1
                  subst this
                  have hTs := (hτ T t hT).sl hc.2
                  cases hE : lk t.elem τ.l with
                  | none => simp [hE] at he
                  | some i =>
                    simp only [hE] at he
                    cases hd : (Nat.beq i.size k && (Nat.blt 0 i.size && Nat.beq i.zero.length i.size)) with
                    | false => rw [hd] at he; simp at he
                    | true =>
                      rw [hd] at he
                      simp only [cond_true] at he
                      simp only [Bool.and_eq_true] at hd
                      have hk := Nat.eq_of_beq_eq_true hd.1
                      have hk0 : 0 < k := by rw [← hk]; simpa using hd.2.1
                      have hz : i.zero.length = k := by rw [← hk]; exact Nat.eq_of_beq_eq_true hd.2.2
                      have hE' := hτ _ i hE
                      cases sv <;> try (simp [eApp4] at he; done)
                      case ful k' m' f =>
                        simp only [eApp4] at he
                        cases hkk : Nat.beq k k' with
                        | false => rw [hkk] at he; simp at he
                        | true =>
                          rw [hkk] at he
                          simp only [cond_true, stdH, room, Eff.mk.injEq] at he
                          obtain ⟨rfl, rfl, rfl, rfl, rfl⟩ := he
                          have := Nat.eq_of_beq_eq_true hkk
                          subst this
                          exact ⟨ok_app_full hop hcal ha' ht' hTs hE' hk hk0 hz (.inl hrs) hry hob.1 hob.2.1 (hnow.new n (Nat.le_refl _) (by simp)), by simp⟩
                      case lit p =>
                        cases p <;> try (simp [eApp4] at he; done)
                        case slice A l cp =>
                          cases A with
                          | some a => simp [eApp4] at he
                          | none =>
                            cases l with
                            | succ l => simp [eApp4] at he
                            | zero =>
                              cases cp with
                              | succ l => simp [eApp4] at he
                              | zero =>
                                simp only [eApp4, stdH, room, Eff.mk.injEq] at he
                                obtain ⟨rfl, rfl, rfl, rfl, rfl⟩ := he
                                have := ok_app_full (P := P) (C := C) (n0 := n) (f := gf) hop hcal ha' ht' hTs hE' hk hk0 hz (.inr ⟨hrs.lit_inv.1, rfl⟩) hry hob.1 hob.2.1 (hnow.new n (Nat.le_refl _) (by simp))
                                rw [app_zero, Nat.zero_add] at this
                                exact ⟨this, by simp⟩
                      case slc j off k' m' =>
                        cases off with
                        | succ off => simp [eApp4] at he
                        | zero =>
                          simp only [eApp4] at he
                          cases hkk : Nat.beq k k' with
                          | false => rw [hkk] at he; simp at he
                          | true =>
                            rw [hkk] at he
                            simp only [cond_true] at he
                            cases hb : lk j h with
                            | none => simp [hb] at he
                            | some b =>
                              cases b with
                              | cells l E => simp [hb] at he
                              | rows k'' n' f E =>
                                simp only [hb] at he
                                cases hq : (Nat.beq k k'' && Nat.beq t.elem E) with
                                | false => rw [hq] at he; simp at he
                                | true =>
                                  rw [hq] at he
                                  simp only [cond_true, stdH, room, Eff.mk.injEq] at he
                                  obtain ⟨rfl, rfl, rfl, rfl, rfl⟩ := he
                                  simp only [Bool.and_eq_true] at hq
                                  have e1 := Nat.eq_of_beq_eq_true hkk
                                  have e2 := Nat.eq_of_beq_eq_true hq.1
                                  have e3 := Nat.eq_of_beq_eq_true hq.2
                                  subst e1; subst e2; subst e3
                                  have e4 : n' = m' := hob.1
                                  subst e4
                                  obtain ⟨b1, b2, b3⟩ := hnow.heap j (by simp) _ hb
                                  exact ⟨ok_app_own hop hcal ha' ht' hTs hE' hk hk0 hz hrs b1 b2 b3 hry hob.2.1 (hnow.new n (Nat.le_refl _) (by simp)), fun j' b hj => by simp at hj; exact ⟨by simp [hj.1], _, hj.1 ▸ hb, rfl⟩⟩
/-- Rows of an own slice from an offset on, lent. -/
theorem Rel.lendO {C D : Cx} {i o k n n' : Nat} {f : Nat → List AV} {E : TypeId} {v : Value} (h : Rel C (.slc i o k n) v) (hb : BRel C i (.rows k n' f E)) (hk : 0 < k) (ho : o % k = 0) (hn : o / k + n ≤ n') (hl : ∀ j, j < n' → (f j).length = k) (hβ : D.β = C.β) (hok : ∀ i, C.ok i → D.ok i) (how : ∀ q, D.ow q → C.ow q) (hno : ¬ D.ow (C.β i)) (hw : D.w = C.w) : Rel D (.vec k n (dropR o k f)) v := by
  cases h with
  | @slc _ _ _ _ cap h1 h2 h3 h4 =>
  obtain ⟨c, T, h5, h6⟩ := h4
  obtain ⟨c', h7, h8⟩ := hb
  have e : c' = c := by rw [h5] at h7; injection h7 with h7; injection h7 with h7; exact h7.symm
  subst e
  have hlt : C.β i < D.w.heap.size := by rw [hw]; exact (Array.getElem?_eq_some_iff.1 h5).1
  have eo : o = o / k * k := by have := Nat.div_add_mod o k; rw [ho, Nat.add_zero, Nat.mul_comm] at this; exact this.symm
  have hat : ∀ j q x, j < n → (dropR o k f j)[q]? = some x → (Blk.rows k n' f E).at (o + j * k + q) = some x := by
    intro j q x hj hx
    have hq : q < k := by rw [← hl (o / k + j) (by omega)]; exact (List.getElem?_eq_some_iff.1 hx).1
    have e0 : o + j * k + q = (o / k + j) * k + q := by rw [Nat.add_mul, ← eo]
    have e1 : (o + j * k + q) / k = o / k + j := by rw [e0, Nat.add_comm, Nat.add_mul_div_right _ _ hk, Nat.div_eq_of_lt hq, Nat.zero_add]
    have e2 : (o + j * k + q) % k = q := by rw [e0, Nat.add_comm, Nat.add_mul_mod_self_right, Nat.mod_eq_of_lt hq]
    have e3 : o / k + j < n' := by omega
    simp only [Blk.at, e1, e2, e3, if_true]
    exact hx
  have hget : ∀ j q, j < n → q < k → ∃ x, (dropR o k f j)[q]? = some x := fun j q hj hq => ⟨_, List.getElem?_eq_getElem (by show q < (f (o / k + j)).length; rw [hl _ (by omega)]; exact hq)⟩
  refine .vec (fun j q => c'.getD (o + j * k + q) undef) h2 h3 (fun j hj => hl _ (by omega)) (fun h0 => ⟨_, o, by rw [if_neg (by omega)], hno, hlt, fun j q hj hq => ?_⟩) (fun j q hj hq => ?_) (fun j q y hj hy => ?_)
  · obtain ⟨x, hx⟩ := hget j q hj hq
    obtain ⟨u, hu, _⟩ := h8 _ _ (hat j q x hj hx)
    rw [hw, cell_of_row C.w (C.β i) _ c' T (0, 0) h5, Array.getD_eq_getD_getElem?, hu]; rfl
  · obtain ⟨x, hx⟩ := hget j q hj hq
    obtain ⟨u, hu, hu1, _⟩ := h8 _ _ (hat j q x hj hx)
    rw [Array.getD_eq_getD_getElem?, hu]; exact hu1
  · obtain ⟨u, hu, _, hu2⟩ := h8 _ _ (hat j q y hj hy)
    have : c'.getD (o + j * k + q) undef = u := by rw [Array.getD_eq_getD_getElem?, hu]; rfl
    rw [this]
    exact hu2.mono (wr := fun _ => False) ⟨by rw [hw]; exact .refl _ _, by simp, fun i _ => by rw [hβ], hok, fun k hk => .inl (how k hk)⟩
theorem eLent2_inv {h : Heap} {r : AV} {nb' : List Blk} {rd' : List Nat} {u' : Heap} {ids : List Nat} {ob1 ob2 : List Prop} {v : Option AV} {nb : List Blk} {rd : List Nat} {u : Heap} {ob : List Prop} (he : eLent2 h r nb' rd' u' ids (ob1 ++ ob2) (plainB stdH nb') (plainB stdH (blksOf u')) = .mk v nb rd u ob) (hob : AllP ob) :
    nvq 4 r = true ∧ (plainB stdH nb' = some ((plainB stdH nb').getD []) ∧ plainB stdH (blksOf u') = some ((plainB stdH (blksOf u')).getD [])) ∧ (∀ j ∈ ids, j ∉ rd') ∧ (∀ i, i ∈ ids ++ rd' → ∃ b, lk i h = some b ∧ b.dead = false) ∧ v = some r ∧ nb = nb' ∧ rd = ids ++ rd' ∧ u = u' ∧ AllP ob1 ∧ AllP ob2 ∧ AllP ((plainB stdH nb').getD []) ∧ AllP ((plainB stdH (blksOf u')).getD []) := by
  cases h1 : plainB stdH nb' with
  | none => simp [eLent2, h1] at he
  | some l1 =>
    cases h2 : plainB stdH (blksOf u') with
    | none => simp [eLent2, h1, h2] at he
    | some l2 =>
      cases h3 : (nvq 4 r && (ids.all (fun i => !rd'.any (Nat.beq i)) && ((ids ++ rd').all (liveIn h)))) with
      | false => simp only [eLent2, h1, h2, h3, cond_false] at he; cases he
      | true =>
        simp only [eLent2, h1, h2, h3, cond_true, Eff.mk.injEq] at he
        obtain ⟨rfl, rfl, rfl, rfl, rfl⟩ := he
        simp only [Bool.and_eq_true] at h3
        obtain ⟨h4, h5, h6⟩ := h3
        obtain ⟨oa, oq⟩ := AllP_append hob
        obtain ⟨o1, o2⟩ := AllP_append oa
        obtain ⟨o3, o4⟩ := AllP_append oq
        refine ⟨h4, ⟨rfl, rfl⟩, fun j hj hj' => ?_, fun i hi => ?_, rfl, rfl, rfl, rfl, o1, o2, o3, o4⟩
        · have := List.all_eq_true.1 h5 j hj
          simp only [Bool.not_eq_true', List.any_eq_false, Bool.not_eq_true] at this
          have := this j hj'
          simp at this
        · have := List.all_eq_true.1 h6 i hi
          unfold liveIn at this
          split at this
          · rename_i b hb; exact ⟨b, hb, by simpa using this⟩
          · cases this
/-- What 'clear' does to elements of one cell each. -/
theorem run_clr {T E : TypeId} {ti : TI} (hT : P.underlying T = some (.slice E)) (hE : TGood P E ti) (hz : ti.zero.length = 1) (w : World) (b off m cap : Nat) (hn : m ≤ cap) (hc : ∀ j, j < m → (w.cell? ⟨b, off + j, none⟩).isSome = true) (hf : ∀ j, j < m → w.frozen? ⟨b, off + j, none⟩ = false) :
    ∃ zs : List Value, zs.length = m ∧ (∀ v ∈ zs, v.oneCell' = true) ∧ ∀ ty, (Builtin.clear_ #[T] ty #[.slice (some ⟨b, if cap = 0 then 0 else off, none⟩) m cap]).run P w = .ok (.tuple #[]) (w.setCells b off zs) := by
  obtain ⟨j0, z, hj0, hz2, _, hz3, hz4⟩ := hE.get
  have hv : (zeroValue E).run P w = .ok z w := by simp [zeroValue, typeInfo, hj0, hz3]
  have hzs : z.cells.size = 1 := by rw [← Array.length_toList, hz4, hz]
  have h1 : ∀ v ∈ z.cells.toList, v.oneCell' = true := fun v hv => by
    have := List.all_eq_true.1 hE.one v (by rw [← hz4]; exact hv)
    exact this
  cases m with
  | zero => exact ⟨[], rfl, (by simp), fun ty => by simp [Builtin.clear_, run_underlying hT w]; rfl⟩
  | succ m =>
    have hl : (Builtin.zeroCells z.cells (m + 1)).toList.length = m + 1 := by rw [Array.length_toList, size_zeroCells, hzs, Nat.mul_one]
    have ho : ∀ v ∈ (Builtin.zeroCells z.cells (m + 1)).toList, v.oneCell' = true := fun v hv => by
      simp only [Builtin.zeroCells, hzs, Nat.mul_one, Array.toList_map, List.mem_map] at hv
      obtain ⟨i, _, rfl⟩ := hv
      rw [Nat.mod_one, getElem!_pos z.cells 0 (by omega)]
      exact h1 _ (by simp)
    refine ⟨_, hl, ho, fun ty => ?_⟩
    have hst := run_storeCells_cells (P := P) b off (Builtin.zeroCells z.cells (m + 1)).toList 0 w (fun j hj => by rw [Nat.add_zero]; exact hc j (by omega)) (fun j hj => by rw [Nat.add_zero]; exact hf j (by omega)) ho
    simp only [Nat.add_zero] at hst
    have hcap : ¬ cap = 0 := by omega
    simp [Builtin.clear_, run_underlying hT w, hv, hst, hcap]
theorem ok_clr {C : Cx} {n0 : Nat} {c : Call} {x : Operand} {T E : TypeId} {ti : TI} {i off m n : Nat} {f : Nat → List AV} {E' : TypeId} (hop : o.op = .call c) (hcal : c.callee = .builtin .clear) (ha : c.args = #[x]) (ht : c.argTypes = #[T]) (hT : P.underlying T = some (.slice E)) (hE : TGood P E ti) (hz : ti.zero.length = 1)
    (hx : Rel C (.slc i off 1 m) (ρ x)) (hb : BRel C i (.rows 1 n f E')) (hle : off ≤ n) (how : C.ow (C.β i)) : Yld P o ρ C.w (Leaves C n0 none [] [(i, .rows 1 off f E')]) := by
  generalize hq : ρ x = q at hx
  cases hx with
  | @slc _ _ _ _ cap hok hn hm hc' =>
  obtain ⟨cur, T', h5, h6⟩ := hc'
  obtain ⟨c0, hc1, hc2⟩ := id hb
  have hcc : cur = c0 := by rw [hc1] at h5; injection h5 with h5; injection h5 with h5; exact h5.symm
  subst hcc
  obtain ⟨zs, z1, z2, z3⟩ := run_clr hT hE hz C.w (C.β i) off m cap hn (fun j hj => by simp [World.cell?, hc1, show off + j < cur.size by omega]) (fun j hj => by simp [World.frozen?, hc1])
  obtain ⟨c', k1, k2, k3⟩ := setCells_same (C.β i) E' (0, 0) zs off C.w cur hc1 (by omega)
  obtain ⟨o1, o2, o3, o4⟩ := setCells_os (C.β i) zs off C.w
  have hext : Ext C ⟨C.β, C.ok, C.ow, C.w.setCells (C.β i) off zs⟩ (fun k => ∃ j b, (j, b) ∈ [(i, Blk.rows 1 off f E')] ∧ C.β j = k) := by
    refine ⟨⟨o1, o2, o3, by rw [o4]; exact Nat.le_refl _, fun k hk hn => ?_, fun k d U hd => ?_⟩, ?_, fun _ _ => rfl, fun _ h => h, fun _ h => .inl h⟩
    · exact setCells_other _ _ _ _ k (fun e => hn ⟨i, _, List.mem_singleton.2 rfl, e.symm⟩)
    · by_cases hk : k = C.β i
      · subst hk
        rw [hc1] at hd
        injection hd with hd; injection hd with hd1 hd2
        subst hd1; subst hd2
        exact ⟨c', k1, k2⟩
      · exact ⟨d, by rw [show (Cx.mk C.β C.ok C.ow (C.w.setCells (C.β i) off zs)).w = C.w.setCells (C.β i) off zs from rfl, setCells_other _ _ _ _ k hk, hd], rfl⟩
    · rintro k ⟨j, b, hm, rfl⟩
      simp at hm
      rw [hm.1]; exact how
  refine .value (v := .tuple #[]) (w' := C.w.setCells (C.β i) off zs) (by unfold execOp; simp [hop, hq, resolve, invoke, builtin, hcal, ha, ht, z3]) ⟨_, rfl, hext, fun j => by simp; omega, fun k => by simp; omega, fun j h h' => by simp at h'; omega, fun j j' h h' => by simp at h'; omega, by simp, by simp [named], fun j b hm => ?_⟩
  simp at hm
  obtain ⟨rfl, rfl⟩ := hm
  refine ⟨c', k1, fun p x hx' => ?_⟩
  simp only [Blk.at, Nat.div_one, Nat.mod_one] at hx'
  split at hx'
  · rename_i hp
    obtain ⟨v, q1, q2, q3⟩ := hc2 p x (by simp only [Blk.at, Nat.div_one, Nat.mod_one]; rw [if_pos (by omega)]; exact hx')
    exact ⟨v, by rw [k3, if_neg (by omega)]; exact q1, q2, q3.mono hext⟩
  · cases hx'
theorem effN_ok {Γ : Cons} {τ : Tab} {g : Operand → Option AV} {h : Heap} {v : Option AV} {nb : List Blk} {rd : List Nat} {u : Heap} {ob : List Prop} (hτ : TabOk P τ) (hΓ : ConsOk P Γ)
    (hcb : ∀ f args h n, Γ stdH f args h n ≠ none → (P.funcs[f]?.map fun fn => (fn.name == "runtime.NumGoroutine", fn.body.isNone)) = some (false, false))
    (he : effN stdH Γ τ g h n o.op = .mk v nb rd u ob) (hpk : ∀ c a b, o.op ≠ .pick c a b) (hob : AllP ob) (hg : ∀ x av, g x = some av → Rel C av (ρ x)) (hnow : Now C h n rd nb) :
    Yld P o ρ C.w (Leaves C n v nb u) ∧ (∀ i b, (i, b) ∈ u → i ∈ rd ∧ ∃ b', lk i h = some b' ∧ b'.dead = false) := by
  have gen : eff0 stdH Γ τ (fun x => nrm (g x)) h n o.op = .mk v nb rd u ob → Yld P o ρ C.w (Leaves C n v nb u) ∧ (∀ i b, (i, b) ∈ u → i ∈ rd ∧ ∃ b', lk i h = some b' ∧ b'.dead = false) :=
    fun he => eff0_ok hτ hΓ hcb he hpk hob (nrm_rel hg) hnow
  cases hop : o.op
  case move x =>
    rw [hop] at he
    simp only [effN] at he
    obtain ⟨rfl, hn, rfl, rfl⟩ := eOpt_inv he
    obtain ⟨av, hav⟩ := Option.ne_none_iff_exists'.1 hn
    rw [hav]
    exact ⟨ok_move hop (hg x av hav), by simp⟩
  case assign x =>
    rw [hop] at he
    simp only [effN] at he
    obtain ⟨rfl, hn, rfl, rfl⟩ := eOpt_inv he
    obtain ⟨av, hav⟩ := Option.ne_none_iff_exists'.1 hn
    rw [hav]
    exact ⟨ok_assign hop (hg x av hav), by simp⟩
  case extract x i =>
    rw [hop] at he
    simp only [effN] at he
    cases hx : g x with
    | none => simp [hx, eExt] at he
    | some av =>
      cases av <;> try (simp [hx, eExt] at he; done)
      case tup l =>
        simp only [hx, eExt] at he
        obtain ⟨rfl, hn, rfl, rfl⟩ := eOpt_inv he
        obtain ⟨av, hav⟩ := Option.ne_none_iff_exists'.1 hn
        rw [hav]
        exact ⟨ok_ext hop (hg x _ hx) hav, by simp⟩
  case indexAddr T x i =>
    have he' := he
    rw [hop] at he
    simp only [effN] at he
    have plain : nrm (g i) = g i → Yld P o ρ C.w (Leaves C n v nb u) ∧ (∀ i b, (i, b) ∈ u → i ∈ rd ∧ ∃ b', lk i h = some b' ∧ b'.dead = false) := by
      intro hi
      refine gen ?_
      rw [hop]
      simp only [eff0]
      rw [← he]
      unfold eIdx2
      cases hi' : g i with
      | none => rw [hi'] at hi; rw [hi]
      | some y => cases y <;> rw [hi'] at hi <;> first | (rw [hi]; done) | (exact absurd hi (by simp [nrm]))
    cases hi : g i with
    | none => exact plain (by rw [hi]; rfl)
    | some ai =>
      cases ai <;> try (exact plain (by rw [hi]; rfl))
      case ful k m f =>
        rw [hi] at he
        cases hT : lk T τ.l with
        | none => simp [hT, eIdx2, eIdx] at he
        | some t =>
          cases hE : lk t.elem τ.l with
          | none => simp [hT, hE, eIdx2, eIdx] at he
          | some e =>
            cases hx : nrm (g x) with
            | none => simp [hT, hE, hx, eIdx2, eIdx] at he
            | some av => cases av <;> simp [hT, hE, hx, eIdx2, eIdx] at he
      case kb b =>
        rw [hi] at he
        cases hT : lk T τ.l with
        | none => simp [hT, eIdx2, eIdx] at he
        | some t =>
          cases hE : lk t.elem τ.l with
          | none => simp [hT, hE, eIdx2, eIdx] at he
          | some e =>
            cases hx : nrm (g x) with
            | none => simp [hT, hE, hx, eIdx2, eIdx] at he
            | some av => cases av <;> simp [hT, hE, hx, eIdx2, eIdx] at he
      case num j =>
        rw [hi] at he
        cases hT : lk T τ.l with
        | none => simp [hT, eIdx2] at he
        | some t =>
          cases hE : lk t.elem τ.l with
          | none => simp [hT, hE, eIdx2] at he
          | some e =>
            cases hx : nrm (g x) with
            | none => simp [hT, hE, hx, eIdx2] at he
            | some av =>
              cases av <;> try (simp [hT, hE, hx, eIdx2] at he; done)
              case vec k m f =>
                simp only [hT, hE, hx, eIdx2] at he
                cases hc : (t.sl && Nat.beq e.size k) with
                | false => rw [hc] at he; simp at he
                | true =>
                  rw [hc] at he
                  simp only [cond_true, stdH, Eff.mk.injEq] at he
                  obtain ⟨rfl, rfl, rfl, rfl, rfl⟩ := he
                  simp only [Bool.and_eq_true] at hc
                  have hk := Nat.eq_of_beq_eq_true hc.2
                  exact ⟨ok_idxN hop (nrm_rel hg x _ hx) (hg i _ hi) ⟨t.elem, (hτ T t hT).sl hc.1, fun w => by rw [← hk]; exact (hτ _ e hE).run_size w⟩ hob.1, by simp⟩
              case slc id off k m =>
                cases off with
                | succ off => simp [hT, hE, hx, eIdx2] at he
                | zero =>
                simp only [hT, hE, hx, eIdx2] at he
                cases hc : (t.sl && Nat.beq e.size k) with
                | false => rw [hc] at he; simp at he
                | true =>
                  rw [hc] at he
                  simp only [cond_true, stdH, Eff.mk.injEq] at he
                  obtain ⟨rfl, rfl, rfl, rfl, rfl⟩ := he
                  simp only [Bool.and_eq_true] at hc
                  have hk := Nat.eq_of_beq_eq_true hc.2
                  exact ⟨ok_idxEN hop (nrm_rel hg x _ hx) (hg i _ hi) ⟨t.elem, (hτ T t hT).sl hc.1, fun w => by rw [← hk]; exact (hτ _ e hE).run_size w⟩ hob.1, by simp⟩
  case slice T x lo hi mx =>
    cases mx with
    | some m => exact gen (by rw [← he, hop]; rfl)
    | none =>
      rw [hop] at he
      simp only [effN] at he
      cases hlo : bnd g lo with
      | none => simp [hlo, eSlice] at he
      | some a =>
        cases hhi : bnd g hi with
        | none => simp [hlo, hhi, eSlice] at he
        | some b =>
          cases hT : lk T τ.l with
          | none => simp [hlo, hhi, hT, eSlice] at he
          | some t =>
            cases hx : nrm (g x) with
            | none => simp [hlo, hhi, hT, hx, eSlice] at he
            | some av =>
              have hr := nrm_rel hg x _ hx
              cases av <;> try (simp [hlo, hhi, hT, hx, eSlice] at he; done)
              case vec k m f =>
                simp only [hlo, hhi, hT, hx, eSlice] at he
                cases hs : t.sl with
                | false => simp [hs] at he
                | true =>
                  cases hE : lk t.elem τ.l with
                  | none => simp [hs, hE] at he
                  | some i =>
                    cases hk : Nat.beq i.size k with
                    | false => simp [hs, hE, hk] at he
                    | true =>
                      simp only [hs, hE, hk, cond_true, stdH, Eff.mk.injEq] at he
                      obtain ⟨rfl, rfl, rfl, rfl, rfl⟩ := he
                      have hk' := Nat.eq_of_beq_eq_true hk
                      exact ⟨ok_slice hop (bnd_is hg hlo) (bnd_is hg hhi) hr ⟨t.elem, (hτ T t hT).sl hs, fun w => by rw [← hk']; exact (hτ _ i hE).run_size w⟩ hob.1, by simp⟩
              case slc id off k m =>
                cases off with
                | succ off => simp [hlo, hhi, hT, hx, eSlice] at he
                | zero =>
                simp only [hlo, hhi, hT, hx, eSlice] at he
                cases hs : t.sl with
                | false => simp [hs] at he
                | true =>
                  cases hE : lk t.elem τ.l with
                  | none => simp [hs, hE] at he
                  | some i =>
                    cases hk : Nat.beq i.size k with
                    | false => simp [hs, hE, hk] at he
                    | true =>
                      simp only [hs, hE, hk, cond_true, stdH, Eff.mk.injEq] at he
                      obtain ⟨rfl, rfl, rfl, rfl, rfl⟩ := he
                      have hk' := Nat.eq_of_beq_eq_true hk
                      rw [offOf_eq]
                      exact ⟨ok_sliceO hop (bnd_is hg hlo) (bnd_is hg hhi) hr ⟨t.elem, (hτ T t hT).sl hs, fun w => by rw [← hk']; exact (hτ _ i hE).run_size w⟩ hob.1, by simp⟩
              case lit p =>
                cases p <;> try (simp [hlo, hhi, hT, hx, eSlice] at he; done)
                case string s =>
                  cases hk : t.kd <;> simp [hlo, hhi, hT, hx, eSlice, hk, isStr, stdH] at he
                  obtain ⟨rfl, rfl, rfl, rfl, rfl⟩ := he
                  have hTT := (hτ T t hT).kd
                  rw [hk] at hTT
                  exact ⟨ok_sliceS hop (bnd_is hg hlo) (bnd_is hg hhi) hr.lit_inv.1 hTT hob.1, by simp⟩
  case call c =>
    rw [hop] at he
    simp only [effN] at he
    cases hia : isApp c.callee with
    | false =>
      rw [hia] at he
      simp only [cond_false] at he
      cases hic : isClr c.callee with
      | false => rw [hic] at he; exact gen (by rw [hop]; exact he)
      | true =>
        have hcal : c.callee = .builtin .clear := by
          unfold isClr at hic
          split at hic
          · assumption
          · cases hic
        rw [hic] at he
        simp only [cond_true] at he
        match ha : c.args.toList, ht : c.argTypes.toList with
        | [], _ => simp [ha] at he
        | _ :: _ :: _, _ => simp [ha] at he
        | [x], [] => simp [ha, ht] at he
        | [x], _ :: _ :: _ => simp [ha, ht] at he
        | [x], [T] =>
          simp only [ha, ht] at he
          have ha' : c.args = #[x] := by rw [← ha]
          have ht' : c.argTypes = #[T] := by rw [← ht]
          cases hT : lk T τ.l with
          | none => simp [hT, eClr] at he
          | some t =>
            cases hx : g x with
            | none => simp [hT, hx, eClr] at he
            | some av =>
              cases av <;> try (simp [hT, hx, eClr] at he; done)
              case slc i off k m =>
                cases hs : t.sl with
                | false => simp [hT, hx, eClr, hs] at he
                | true =>
                  cases hE : lk t.elem τ.l with
                  | none => simp [hT, hx, eClr, hs, hE] at he
                  | some e =>
                    cases hk : (Nat.beq e.zero.length 1 && Nat.beq k 1) with
                    | false => simp [hT, hx, eClr, hs, hE, hk] at he
                    | true =>
                      cases hb : lk i h with
                      | none => simp [hT, hx, eClr, hs, hE, hk, hb] at he
                      | some b =>
                        cases b with
                        | cells l E => simp [hT, hx, eClr, hs, hE, hk, hb] at he
                        | rows k' n' f E =>
                          cases hk' : Nat.beq k' 1 with
                          | false => simp [hT, hx, eClr, hs, hE, hk, hb, hk'] at he
                          | true =>
                            simp only [hT, hx, eClr, hs, hE, hk, hb, hk', cond_true, stdH, Eff.mk.injEq] at he
                            obtain ⟨rfl, rfl, rfl, rfl, rfl⟩ := he
                            simp only [Bool.and_eq_true] at hk
                            obtain rfl := Nat.eq_of_beq_eq_true hk.2
                            obtain rfl := Nat.eq_of_beq_eq_true hk'
                            obtain ⟨q1, q2, q3⟩ := hnow.heap i (by simp) _ hb
                            exact ⟨ok_clr hop hcal ha' ht' ((hτ T t hT).sl hs) (hτ _ e hE) (Nat.eq_of_beq_eq_true hk.1) (hg x _ hx) q1 hob.1 q3, fun q b hq => by simp at hq; obtain ⟨rfl, rfl⟩ := hq; exact ⟨by simp, _, hb, rfl⟩⟩
    | true =>
      have hcal : c.callee = .builtin .append := by
        unfold isApp at hia
        split at hia
        · assumption
        · cases hia
      rw [hia] at he
      simp only [cond_true] at he
      match ha : c.args.toList, ht : c.argTypes.toList with
      | [], _ => simp [ha] at he
      | [x], _ => simp [ha] at he
      | _ :: _ :: _ :: _, _ => simp [ha] at he
      | [s, y], [] => simp [ha, ht] at he
      | [s, y], [_] => simp [ha, ht] at he
      | [s, y], _ :: _ :: _ :: _ => simp [ha, ht] at he
      | [s, y], [T, T'] =>
        simp only [ha, ht] at he
        have ha' : c.args = #[s, y] := by rw [← ha]
        have ht' : c.argTypes = #[T, T'] := by rw [← ht]
        have pl : ∀ yv, g y = some yv → (∀ i o k m, yv ≠ .slc i o k m) → Yld P o ρ C.w (Leaves C n v nb u) ∧ (∀ i b, (i, b) ∈ u → i ∈ rd ∧ ∃ b', lk i h = some b' ∧ b'.dead = false) := fun yv hy hne => by
          have he2 : eApp stdH τ h n (Nat.beq T T') (lk T τ.l) (g s) (nrm (g y)) = .mk v nb rd u ob := by
            rw [hy] at he ⊢
            rw [← he]
            cases yv <;> first | rfl | exact absurd rfl (hne _ _ _ _)
          cases hx : g s with
          | none =>
            rw [hx] at he2
            cases hT : lk T τ.l with
            | none => simp [hT, eApp] at he2
            | some t => simp [hT, eApp] at he2
          | some sv =>
            cases hy2 : nrm (g y) with
            | none => rw [hy2] at he2; cases hT : lk T τ.l <;> simp [hT, hx, eApp] at he2
            | some y2 => rw [hx, hy2] at he2; exact eApp_ok hτ hop hcal ha' ht' he2 hob (hg s _ hx) (nrm_rel hg y _ hy2) hnow
        cases hy : g y with
        | none =>
          rw [hy] at he
          cases hT : lk T τ.l <;> cases hx : g s <;> simp [hT, hx, eApp, nrm] at he
        | some yv =>
          cases yv <;> try (exact pl _ hy (fun _ _ _ _ h => AV.noConfusion h))
          case slc i o k m =>
            simp only [hy, eAppS] at he
            cases hb : lk i h with
            | none => simp [srcV, hb] at he
            | some b =>
              cases b with
              | cells l E => simp [srcV, hb] at he
              | rows k' n' f E =>
                cases hk : (Nat.beq k k' && Nat.blt 0 k) with
                | false => simp [srcV, hb, hk] at he
                | true =>
                  simp only [srcV, hb, hk, cond_true, stdH] at he
                  simp only [Bool.and_eq_true] at hk
                  have hkk := Nat.eq_of_beq_eq_true hk.1
                  subst hkk
                  have hk0 : 0 < k := by simpa using hk.2
                  cases hx : g s with
                  | none =>
                    rw [hx] at he
                    cases hT : lk T τ.l with
                    | none => simp [hT, eApp] at he
                    | some t => simp [hT, eApp] at he
                  | some sv =>
                    rw [hx] at he
                    cases ha3 : eApp stdH τ h n (Nat.beq T T') (lk T τ.l) (some sv) (some (.vec k m (dropR o k f))) with
                    | bad => rw [ha3] at he; simp at he
                    | mk v' nb' rd' u' ob' =>
                      rw [ha3] at he
                      cases v' with
                      | none => simp at he
                      | some r =>
                        simp only at he
                        obtain ⟨h1, h2, h3, h4, rfl, rfl, rfl, rfl, hob1, hob2, o3, o4⟩ := eLent2_inv he hob
                        obtain ⟨⟨e1, e2, e3⟩, _⟩ := hob1
                        have live := h4
                        have hi0 := hnow.heap i (List.mem_cons_self) _ hb
                        let D : Cx := ⟨C.β, C.ok, fun q => C.ow q ∧ ∀ j ∈ [i], C.β j ≠ q, C.w⟩
                        have eD : Ext C D (fun _ => False) := ⟨.refl _ _, by simp, fun _ _ => rfl, fun _ h => h, fun q hq => .inl hq.1⟩
                        have dj : ∀ j, j ∈ rd' → C.β i ≠ C.β j := fun j hj e => by
                          obtain ⟨a, ha, ha'⟩ := live j (List.mem_append_right _ hj)
                          obtain ⟨b, hb', hb2⟩ := live i (List.mem_append_left _ List.mem_cons_self)
                          have hji := hnow.inj i (List.mem_append_left _ List.mem_cons_self) j (List.mem_append_right _ hj) b a hb' ha hb2 ha' e
                          subst hji
                          exact h3 i List.mem_cons_self hj
                        have hyD : Rel D (.vec k m (dropR o k f)) (ρ y) := (hg y _ hy).lendO hi0.1 hk0 e1 e2 e3 rfl (fun _ h => h) (fun q h => h.1) (fun h => h.2 i List.mem_cons_self rfl) rfl
                        have hD := eApp_ok (C := D) hτ hop hcal ha' ht' ha3 hob2 ((hg s _ hx).mono eD) hyD ⟨fun j hj b hb' => by
                          obtain ⟨q1, q2, q3⟩ := hnow.heap j (List.mem_append_right _ hj) b hb'
                          exact ⟨q1.mono eD q2 (fun h => h), q2, q3, fun j' hj' => by
                            rcases List.mem_cons.1 hj' with rfl | hj'
                            · exact dj j hj
                            · cases hj'⟩, fun a ha b hb' x z => hnow.inj a (List.mem_append_right _ ha) b (List.mem_append_right _ hb') x z, hnow.new, hnow.glo.sub fun q hq => hq.1⟩
                        refine ⟨hD.1.mono fun cv w' hL => hL.lent2 h1 (plainB_ok h2.1 o3) (fun i b hi => plainB_ok h2.2 o4 b (mem_blksOf hi)), fun j b hj => ⟨List.mem_append_right _ (hD.2 j b hj).1, (hD.2 j b hj).2⟩⟩
  all_goals exact gen (by rw [← he, hop]; rfl)
theorem known_eq {x : Operand} {n : Nat} (h : known x = some n) : x = .const (.int .i64 n) := by
  unfold known at h
  split at h
  · injection h with h; subst h; rfl
  · cases h
theorem effK_ok {Γ : Cons} {τ : Tab} {a : Act} {g : Operand → Option AV} {h : Heap} {v : Option AV} {nb : List Blk} {rd : List Nat} {u : Heap} {ob : List Prop} (hτ : TabOk P τ) (hΓ : ConsOk P Γ)
    (hcb : ∀ f args h n, Γ stdH f args h n ≠ none → (P.funcs[f]?.map fun fn => (fn.name == "runtime.NumGoroutine", fn.body.isNone)) = some (false, false))
    (he : effK stdH Γ τ g h n o.op = .mk v nb rd u ob) (hpk : ∀ c a b, o.op ≠ .pick c a b) (hob : AllP ob) (hg : ∀ x av, g x = some av → Rel C av (a.eval x)) (hnow : Now C h n rd nb) :
    Yld P o a.eval C.w (Leaves C n v nb u) ∧ (∀ i b, (i, b) ∈ u → i ∈ rd ∧ ∃ b', lk i h = some b' ∧ b'.dead = false) := by
  have gen : effN stdH Γ τ g h n o.op = .mk v nb rd u ob → Yld P o a.eval C.w (Leaves C n v nb u) ∧ (∀ i b, (i, b) ∈ u → i ∈ rd ∧ ∃ b', lk i h = some b' ∧ b'.dead = false) :=
    fun he => effN_ok hτ hΓ hcb he hpk hob hg hnow
  unfold effK at he
  cases hu : τ.u with
  | false => rw [hu] at he; exact gen he
  | true =>
    rw [hu] at he
    cases hk : eKn τ g o.op with
    | none => simp only [hk] at he; exact gen he
    | some e =>
      simp only [hk] at he
      subst he
      cases hop : o.op <;> rw [hop] at hk <;> try (simp [eKn] at hk; done)
      case move x =>
        simp only [eKn] at hk
        cases hx : known x with
        | none => simp [hx] at hk
        | some m =>
          simp only [hx, pure1, Option.some.injEq, Eff.mk.injEq] at hk
          obtain ⟨rfl, rfl, rfl, rfl, rfl⟩ := hk
          have := known_eq hx
          subst this
          exact ⟨ok_move hop (.num : Rel C (.num m) (.int .i64 m)), by simp⟩
      case binOp op T x y S =>
        simp only [eKn] at hk
        cases hx : g x with
        | none => simp [hx] at hk
        | some ax =>
          cases ax <;> try (simp [hx] at hk; done)
          rename_i p
          have hxv : a.eval x = .int .i64 p := by have := hg x _ hx; generalize a.eval x = q at this; cases this; rfl
          cases hy : knownG g y with
          | none => simp [hx, hy] at hk
          | some ay =>
            cases ay <;> try (simp [hx, hy] at hk; done)
            rename_i q
            have hyv : a.eval y = .int .i64 q := by
              unfold knownG at hy
              cases hky : known y with
              | none => rw [hky] at hy; have := hg y _ hy; generalize a.eval y = z at this; cases this; rfl
              | some c => rw [hky] at hy; injection hy with hy; injection hy with hy; subst hy; have := known_eq hky; subst this; rfl
            have run := fun (r : Value) (hr : bin stdH op (.int .i64 p) (.int .i64 q) = some (r, [])) => (bin_lit (P := P) hr (trivial : AllP []) T x y C.w).1
            cases op <;> try (simp [hx, hy] at hk; done)
            case add =>
              simp only [hx, hy] at hk
              cases hb : Nat.ble (p + q) 1000000 with
              | false => simp [hb] at hk
              | true =>
                simp only [hb, cond_true, pure1, Option.some.injEq, Eff.mk.injEq] at hk
                obtain ⟨rfl, rfl, rfl, rfl, rfl⟩ := hk
                have hle := Nat.le_of_ble_eq_true hb
                have hr := run (.int .i64 ((p + q : Nat) : Int)) (by
                  have : IntKind.i64.wrap ((p : Int) + (q : Int)) = ((p + q : Nat) : Int) := by rw [IntKind.wrap_i64]; omega
                  simp [bin, sameK, IntKind.bits, IntKind.signed, stdH, this])
                refine ⟨.value ?_ (.same fun _ e => by injection e with e; exact e ▸ (.num : Rel C (.num (p + q)) (.int .i64 ((p + q : Nat) : Int)))), by simp⟩
                unfold execOp
                simp only [hop, hxv, hyv]
                rw [Sem.run_bind, hr, Result.andThen_ok]; rfl
            case lss =>
              simp only [hx, hy, pure1, Option.some.injEq, Eff.mk.injEq] at hk
              obtain ⟨rfl, rfl, rfl, rfl, rfl⟩ := hk
              have hr := run (.bool (Nat.blt p q)) (by
                have : decide ((p : Int) < (q : Int)) = Nat.blt p q := by
                  rw [Bool.eq_iff_iff, decide_eq_true_eq, show (Nat.blt p q = true ↔ p < q) by simp]; omega
                simp only [bin, stdH, this]; rfl)
              refine ⟨.value ?_ (.same fun _ e => by injection e with e; exact e ▸ (.kb : Rel C (.kb (Nat.blt p q)) (.bool (Nat.blt p q)))), by simp⟩
              unfold execOp
              simp only [hop, hxv, hyv]
              rw [Sem.run_bind, hr, Result.andThen_ok]; rfl
      case call c =>
        simp only [eKn] at hk
        cases hc : c.callee with
        | value f => simp [hc] at hk
        | invoke r m => simp [hc] at hk
        | builtin bu =>
          cases bu <;> try (simp [hc] at hk; done)
          case len =>
            simp only [hc] at hk
            match ha : c.args.toList, ht : c.argTypes.toList with
            | [], _ => simp [ha] at hk
            | [x], [] => simp [ha, ht] at hk
            | _ :: _ :: _, _ => simp [ha] at hk
            | [x], _ :: _ :: _ => simp [ha, ht] at hk
            | [x], [T] =>
              simp only [ha, ht] at hk
              have hop' : o.op = .call { callee := .builtin .len, args := #[x], argTypes := #[T] } := by
                rw [hop]
                obtain ⟨cc, ca, ct⟩ := c
                simp only at hc ha ht
                subst hc
                congr 2
                · rw [← ha]
                · rw [← ht]
              cases hx : g x with
              | none => simp [hx] at hk
              | some av =>
                cases av <;> try (simp [hx] at hk; done)
                case ful k m f =>
                  cases hT : lk T τ.l with
                  | none => simp [hx, hT] at hk
                  | some t =>
                    cases hs : t.sl with
                    | false => simp [hx, hT, hs] at hk
                    | true =>
                      simp only [hx, hT, hs, cond_true, pure1, Option.some.injEq, Eff.mk.injEq] at hk
                      obtain ⟨rfl, rfl, rfl, rfl, rfl⟩ := hk
                      have hr := hg x _ hx
                      generalize hq : a.eval x = q at hr
                      cases hr with
                      | ful h =>
                      refine ⟨.value (v := .int .i64 (m : Nat)) ?_ (.same fun _ e => by injection e with e; exact e ▸ .num), by simp⟩
                      unfold execOp
                      simp [hop', hq, resolve, invoke, builtin, Builtin.len_, run_underlying ((hτ T t hT).sl hs) C.w, goInt]
theorem BRel.cellsR {C : Cx} {i E : Nat} {l : List AV} (h : BRel C i (.cells l E)) : BRel C i (.rows 1 l.length (rowsOf 1 l) E) := by
  obtain ⟨c, h1, h2⟩ := h
  refine ⟨c, h1, fun p x hx => h2 p x ?_⟩
  simp only [Blk.at, Nat.div_one, Nat.mod_one] at hx ⊢
  split at hx
  · unfold rowsOf at hx
    rw [List.getElem?_take_of_lt (by omega), List.getElem?_drop] at hx
    simpa using hx
  · cases hx
theorem BRel.rowsC {C : Cx} {i E n : Nat} {f : Nat → List AV} {l : List AV} (h : BRel C i (.rows 1 n f E)) (hl : l.length = n) (he : ∀ p, p < n → (f p)[0]? = l[p]?) : BRel C i (.cells l E) := by
  obtain ⟨c, h1, h2⟩ := h
  refine ⟨c, h1, fun p x hx => h2 p x ?_⟩
  simp only [Blk.at, Nat.div_one, Nat.mod_one] at hx ⊢
  have hp : p < n := by have := (List.getElem?_eq_some_iff.1 hx).1; omega
  rw [if_pos hp, he p hp]; exact hx
theorem Leaves.nb1 {C : Cx} {n : Nat} {v : Option AV} {b b' : Blk} {u : Heap} {cv : Value} {w' : World} (h : Leaves C n v [b] u cv w') (hb : ∀ C' : Cx, BRel C' n b → BRel C' n b') : Leaves C n v [b'] u cv w' := by
  obtain ⟨C', h⟩ := h
  refine ⟨C', h.w, h.ext, h.ok, h.ow, h.new, h.inj, h.val, fun i c hi => ?_, h.u⟩
  obtain ⟨rfl, rfl⟩ := named_one hi
  exact hb C' (h.nb i b (by simp [named]))
/-- Slices of the call's own in a slice of its own. -/
theorem nstApp_ok {τ : Tab} {h : Heap} {c : Call} {s y : Operand} {T : TypeId} {t ti : TI} {i q : Nat} {z : AV} {f : Nat → List AV} {e : Eff} {v : Option AV} {nb : List Blk} {rd : List Nat} {u : Heap} {ob : List Prop} (hτ : TabOk P τ) (hop : o.op = .call c) (hcal : c.callee = .builtin .append) (ha' : c.args = #[s, y]) (ht' : c.argTypes = #[T, T])
    (hT : lk T τ.l = some t) (hE : lk t.elem τ.l = some ti) (hsl : t.sl = true) (hz1 : ti.size = 1) (hz2 : ti.zero.length = 1) (hf : f 0 = [z]) (he : nstApp stdH i q z n t.elem ti.bytes (lk i h) = some e) (hem : e = .mk v nb rd u ob) (hob : AllP ob)
    (hrs : Rel C (.slc i 0 1 q) (ρ s)) (hry : Rel C (.ful 1 1 f) (ρ y)) (hnow : Now C h n rd nb) :
    Yld P o ρ C.w (Leaves C n v nb u) ∧ (∀ i b, (i, b) ∈ u → i ∈ rd ∧ ∃ b', lk i h = some b' ∧ b'.dead = false) := by
  have hTs := (hτ T t hT).sl hsl
  have hE' := hτ _ ti hE
  have hry : Rel C (.vec 1 1 f) (ρ y) := hry.nrm _ rfl
  unfold nstApp at he
  split at he
  · rename_i k' n' f' E' hb
    cases hc : (Nat.beq k' 1 && (Nat.beq n' 0 && Nat.beq t.elem E')) with
    | false => rw [hc] at he; simp at he
    | true =>
      rw [hc] at he
      simp only [cond_true, stdH, room, Option.some.injEq] at he
      rw [← he] at hem
      simp only [Eff.mk.injEq] at hem
      obtain ⟨rfl, rfl, rfl, rfl, rfl⟩ := hem
      simp only [Bool.and_eq_true] at hc
      obtain rfl := Nat.eq_of_beq_eq_true hc.1
      obtain rfl := Nat.eq_of_beq_eq_true hc.2.1
      obtain rfl := Nat.eq_of_beq_eq_true hc.2.2
      obtain ⟨hq, hr, _⟩ := hob
      subst hq
      have hn := hnow.heap i (by simp) _ hb
      have := ok_app_own (P := P) (n0 := n) hop hcal ha' ht' hTs hE' hz1 Nat.one_pos hz2 hrs hn.1 hn.2.1 hn.2.2 hry hr (hnow.new n (Nat.le_refl _) (by simp))
      refine ⟨this.mono fun cv w' hL => hL.nb1 fun C' hB => hB.rowsC rfl fun p hp => ?_, fun a b hab => ?_⟩
      · obtain rfl : p = 0 := by omega
        show (app 0 f' f 0)[0]? = _
        rw [app_zero, hf]
      · simp only [List.mem_singleton, Prod.mk.injEq] at hab
        obtain ⟨rfl, rfl⟩ := hab
        exact ⟨by simp, _, hb, rfl⟩
  · rename_i c' l E' hb
    cases hc : Nat.beq t.elem E' with
    | false => rw [hc] at he; simp at he
    | true =>
      rw [hc] at he
      simp only [cond_true, stdH, room, Option.some.injEq] at he
      rw [← he] at hem
      simp only [Eff.mk.injEq] at hem
      obtain ⟨rfl, rfl, rfl, rfl, rfl⟩ := hem
      obtain rfl := Nat.eq_of_beq_eq_true hc
      obtain ⟨hq, hr, _⟩ := hob
      subst hq
      have hn := hnow.heap i (by simp) _ hb
      have := ok_app_own (P := P) (n0 := n) hop hcal ha' ht' hTs hE' hz1 Nat.one_pos hz2 hrs hn.1.cellsR hn.2.1 hn.2.2 hry hr (hnow.new n (Nat.le_refl _) (by simp))
      refine ⟨this.mono fun cv w' hL => hL.nb1 fun C' hB => hB.rowsC (by simp) fun p hp => ?_, fun a b hab => ?_⟩
      · unfold app
        by_cases hpl : p < l.length + 1
        · rw [show Nat.blt p (l.length + 1) = true by simpa using hpl, cond_true]
          unfold rowsOf
          rw [List.getElem?_take_of_lt (by omega), List.getElem?_drop, ← List.cons_append, List.getElem?_append_left (by simpa using hpl)]
          simp
        · obtain rfl : p = l.length + 1 := by omega
          rw [show Nat.blt (l.length + 1) (l.length + 1) = false by rw [← Bool.not_eq_true]; simp, cond_false, Nat.sub_self, hf, ← List.cons_append, List.getElem?_append_right (by simp)]
          simp only [List.length_cons, Nat.sub_self]
      · simp only [List.mem_singleton, Prod.mk.injEq] at hab
        obtain ⟨rfl, rfl⟩ := hab
        exact ⟨by simp, _, hb, rfl⟩
  · cases he
theorem eNst_ok {τ : Tab} {a : Act} {g : Operand → Option AV} {h : Heap} {e : Eff} {v : Option AV} {nb : List Blk} {rd : List Nat} {u : Heap} {ob : List Prop} (hτ : TabOk P τ) (hk : eNst stdH τ g h n o.op = some e) (hem : e = .mk v nb rd u ob) (hob : AllP ob) (hg : ∀ x av, g x = some av → Rel C av (a.eval x)) (hnow : Now C h n rd nb) :
    Yld P o a.eval C.w (Leaves C n v nb u) ∧ (∀ i b, (i, b) ∈ u → i ∈ rd ∧ ∃ b', lk i h = some b' ∧ b'.dead = false) := by
  cases hop : o.op <;> rw [hop] at hk <;> try (simp [eNst] at hk; done)
  case assign x =>
    simp only [eNst] at hk
    cases hu : τ.u with
    | false => rw [hu] at hk; cases hk
    | true =>
      rw [hu] at hk
      cases hx : known x with
      | none => simp [hx] at hk
      | some m =>
        simp only [hx, pure1, Option.some.injEq] at hk
        rw [← hk] at hem
        simp only [Eff.mk.injEq] at hem
        obtain ⟨rfl, rfl, rfl, rfl, rfl⟩ := hem
        have := known_eq hx
        subst this
        exact ⟨ok_assign hop (.num : Rel C (.num m) (.int .i64 m)), by simp⟩
  case indexAddr T x i =>
    simp only [eNst] at hk
    unfold nstIdx at hk
    split at hk
    · rename_i j hi
      split at hk
      · rename_i id k q hx
        cases hk1 : Nat.beq k 1 with
        | false => rw [hk1] at hk; simp at hk
        | true =>
          rw [hk1, cond_true] at hk
          obtain rfl := Nat.eq_of_beq_eq_true hk1
          split at hk
          · rename_i t hT
            split at hk
            · rename_i ti hE
              cases hc : (t.sl && Nat.beq ti.size 1) with
              | false => rw [hc] at hk; simp at hk
              | true =>
                rw [hc, cond_true] at hk
                simp only [Bool.and_eq_true] at hc
                have hz := Nat.eq_of_beq_eq_true hc.2
                split at hk
                · simp only [stdH, Option.some.injEq] at hk
                  rw [← hk] at hem
                  simp only [Eff.mk.injEq] at hem
                  obtain ⟨rfl, rfl, rfl, rfl, rfl⟩ := hem
                  refine ⟨(ok_idxEN (P := P) (n0 := n) hop (hg x _ hx) (hg i _ hi) ⟨t.elem, (hτ T t hT).sl hc.1, fun w => by rw [← hz]; exact (hτ _ ti hE).run_size w⟩ hob.1).mono fun cv w' hL => ?_, by simp⟩
                  obtain ⟨C', hL⟩ := hL
                  refine ⟨C', hL.w, hL.ext, hL.ok, hL.ow, hL.new, hL.inj, fun y hy => ?_, hL.nb, hL.u⟩
                  injection hy with hy
                  subst hy
                  obtain ⟨e1, e2⟩ := (hL.val _ rfl).elm_inv
                  subst e1
                  have := (Rel.ptr e2 : Rel C' (.ptr id j) _)
                  simpa using this
                · cases hk
            · cases hk
          · cases hk
      · cases hk
    · cases hk
  case call c =>
    simp only [eNst] at hk
    cases hc : c.callee with
    | value f => simp [hc] at hk
    | invoke r m => simp [hc] at hk
    | builtin bu =>
      cases bu <;> try (simp [hc] at hk; done)
      case len =>
        simp only [hc] at hk
        match ha : c.args.toList, ht : c.argTypes.toList with
        | [], _ => simp [ha] at hk
        | [x], [] => simp [ha, ht] at hk
        | _ :: _ :: _, _ => simp [ha] at hk
        | [x], _ :: _ :: _ => simp [ha, ht] at hk
        | [x], [T] =>
          simp only [ha, ht] at hk
          have hop' : o.op = .call { callee := .builtin .len, args := #[x], argTypes := #[T] } := by
            rw [hop]
            obtain ⟨cc, ca, ct⟩ := c
            simp only at hc ha ht
            subst hc
            congr 2
            · rw [← ha]
            · rw [← ht]
          unfold nstLen at hk
          split at hk
          · rename_i i oo k q hx
            cases hk1 : Nat.beq k 1 with
            | false => rw [hk1] at hk; simp at hk
            | true =>
              rw [hk1, cond_true] at hk
              split at hk
              · rename_i t hT
                cases hs : t.sl with
                | false => rw [hs] at hk; simp at hk
                | true =>
                  rw [hs, cond_true] at hk
                  simp only [pure1, Option.some.injEq] at hk
                  rw [← hk] at hem
                  simp only [Eff.mk.injEq] at hem
                  obtain ⟨rfl, rfl, rfl, rfl, rfl⟩ := hem
                  refine ⟨(ok_len (P := P) (n := n) hop' (hg x _ hx) (.inr (.inl ⟨i, oo, k, rfl, _, (hτ T t hT).sl hs⟩))).mono fun cv w' hL => ?_, by simp⟩
                  obtain ⟨C', hL⟩ := hL
                  refine ⟨C', hL.w, hL.ext, hL.ok, hL.ow, hL.new, hL.inj, fun y hy => ?_, hL.nb, hL.u⟩
                  injection hy with hy
                  subst hy
                  obtain ⟨e1, _⟩ := (hL.val _ rfl).lit_inv
                  subst e1
                  exact .num
              · cases hk
          · cases hk
      case append =>
        simp only [hc] at hk
        match ha : c.args.toList, ht : c.argTypes.toList with
        | [], _ => simp [ha] at hk
        | [x], _ => simp [ha] at hk
        | _ :: _ :: _ :: _, _ => simp [ha] at hk
        | [x, y], [] => simp [ha, ht] at hk
        | [x, y], [_] => simp [ha, ht] at hk
        | [x, y], _ :: _ :: _ :: _ => simp [ha, ht] at hk
        | [x, y], [T, T'] =>
          simp only [ha, ht] at hk
          have ha' : c.args = #[x, y] := by rw [← Array.toArray_toList (xs := c.args), ha]
          cases hTT : Nat.beq T T' with
          | false => rw [hTT] at hk; simp at hk
          | true =>
            rw [hTT, cond_true] at hk
            obtain rfl := Nat.eq_of_beq_eq_true hTT
            have ht' : c.argTypes = #[T, T] := by rw [← Array.toArray_toList (xs := c.argTypes), ht]
            unfold nstApp2 at hk
            split at hk
            · rename_i i kx q hx
              split at hk
              · rename_i ky my f hy
                cases hd : (Nat.beq kx 1 && (Nat.beq ky 1 && Nat.beq my 1)) with
                | false => rw [hd] at hk; simp at hk
                | true =>
                  rw [hd, cond_true] at hk
                  simp only [Bool.and_eq_true] at hd
                  obtain rfl := Nat.eq_of_beq_eq_true hd.1
                  obtain rfl := Nat.eq_of_beq_eq_true hd.2.1
                  obtain rfl := Nat.eq_of_beq_eq_true hd.2.2
                  split at hk
                  · rename_i z hf
                    cases hnm : isNm z with
                    | false => rw [hnm] at hk; simp at hk
                    | true =>
                    rw [hnm, cond_true] at hk
                    split at hk
                    · rename_i t hT
                      split at hk
                      · rename_i ti hE
                        cases he : (t.sl && (Nat.beq ti.size 1 && Nat.beq ti.zero.length 1)) with
                        | false => rw [he] at hk; simp at hk
                        | true =>
                          rw [he, cond_true] at hk
                          simp only [Bool.and_eq_true] at he
                          exact nstApp_ok hτ hop hc ha' ht' hT hE he.1 (Nat.eq_of_beq_eq_true he.2.1) (Nat.eq_of_beq_eq_true he.2.2) hf hk hem hob (hg x _ hx) (hg y _ hy) hnow
                      · cases hk
                    · cases hk
                  · cases hk
              · cases hk
            · cases hk
theorem eff_ok {Γ : Cons} {τ : Tab} {a : Act} {g : Operand → Option AV} {h : Heap} {v : Option AV} {nb : List Blk} {rd : List Nat} {u : Heap} {ob : List Prop} (hτ : TabOk P τ) (hΓ : ConsOk P Γ)
    (hcb : ∀ f args h n, Γ stdH f args h n ≠ none → (P.funcs[f]?.map fun fn => (fn.name == "runtime.NumGoroutine", fn.body.isNone)) = some (false, false))
    (he : eff stdH Γ τ g h n o.op = .mk v nb rd u ob) (hpk : ∀ c a b, o.op ≠ .pick c a b) (hob : AllP ob) (hg : ∀ x av, g x = some av → Rel C av (a.eval x)) (hnow : Now C h n rd nb) :
    Yld P o a.eval C.w (Leaves C n v nb u) ∧ (∀ i b, (i, b) ∈ u → i ∈ rd ∧ ∃ b', lk i h = some b' ∧ b'.dead = false) := by
  have gen : effK stdH Γ τ g h n o.op = .mk v nb rd u ob → Yld P o a.eval C.w (Leaves C n v nb u) ∧ (∀ i b, (i, b) ∈ u → i ∈ rd ∧ ∃ b', lk i h = some b' ∧ b'.dead = false) :=
    fun he => effK_ok hτ hΓ hcb he hpk hob hg hnow
  unfold eff at he
  split at he
  · cases hk : eNst stdH τ g h n o.op with
    | none => simp only [hk] at he; exact gen he
    | some e =>
      simp only [hk] at he
      exact eNst_ok hτ hk he hob hg hnow
  · exact gen he
end
end Go.Proofs.Ytpilblmncpeelaa.AM

