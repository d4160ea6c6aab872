/- Lemmas and contracts (Rbw Rbe Rbf); conditions: none. -/
import Derived.Test.YtpilblmncpeelaaK04
import Derived.Test.YtpilblmncpeelaaK10
set_option linter.unusedVariables false
set_option linter.unusedSimpArgs false
set_option linter.unusedVariables false
set_option linter.unusedSimpArgs false
set_option maxRecDepth 100000
set_option maxHeartbeats 4000000
set_option cbv.maxSteps 3000000
namespace Go.Proofs.Ytpilblmncpeelaa.AM
/- Functions that have captured a variable that holds a slice; conditions: none. -/
/-! ### Contracts under other names whose new blocks lead to the caller's -/
inductive Rv (π : Nat → Nat) (n m len : Nat) : AV → AV → Prop
  | pl {x : AV} (h : Bl 0 x) : Rv π n m len x x
  | ptrO {i o : Nat} (h : i < m) : Rv π n m len (.ptr (π i) o) (.ptr i o)
  | slcO {i o k l : Nat} (h : i < m) : Rv π n m len (.slc (π i) o k l) (.slc i o k l)
  | slc {i j o k l : Nat} (h : n ≤ i ∧ i < n + len) (e : j = m + (i - n)) : Rv π n m len (.slc i o k l) (.slc j o k l)
theorem Rv.rel {C D : Cx} {π : Nat → Nat} {n m len : Nat} {x y : AV} (h : Rv π n m len x y) (hβ : ∀ i, n ≤ i → i < n + len → D.β i = C.β (m + (i - n)) ∧ D.ok i) (hO : ∀ i, i < m → D.β (π i) = C.β i ∧ D.ok (π i)) (how : ∀ k, D.ow k → C.ow k) (hw : D.w = C.w) {v : Value} (hy : Rel C y v) : Rel D x v := by
  cases h with
  | pl h => exact hy.limit h (fun i hi => by omega) (fun i hi => by omega) how hw
  | ptrO h => cases hy with | ptr h' => rw [← (hO _ h).1]; exact .ptr (hO _ h).2
  | slcO h => cases hy with | slc h' hn hm hc => rw [← (hO _ h).1] at hc ⊢; exact .slc (hO _ h).2 hn hm (by rw [hw]; exact hc)
  | slc h e => subst e; cases hy with | slc h' hn hm hc => rw [← (hβ _ h.1 h.2).1] at hc ⊢; exact .slc (hβ _ h.1 h.2).2 hn hm (by rw [hw]; exact hc)
def RvB (π : Nat → Nat) (n m len : Nat) (b b' : Blk) : Prop := b.elem = b'.elem ∧ ∀ p x, b.at p = some x → ∃ y, b'.at p = some y ∧ Rv π n m len x y
theorem RvB.brel {C D : Cx} {π : Nat → Nat} {n m len i i' : Nat} {b b' : Blk} (h : RvB π n m len b b') (hi : D.β i = C.β i') (hβ : ∀ i, n ≤ i → i < n + len → D.β i = C.β (m + (i - n)) ∧ D.ok i) (hO : ∀ i, i < m → D.β (π i) = C.β i ∧ D.ok (π i)) (how : ∀ k, D.ow k → C.ow k) (hw : D.w = C.w) (hb : BRel C i' b') : BRel D i b := by
  obtain ⟨h3, h4⟩ := h
  obtain ⟨c, h5, h6⟩ := hb
  refine ⟨c, by rw [hw, hi, h3]; exact h5, fun p x hx => ?_⟩
  obtain ⟨y, h7, h8⟩ := h4 p x hx
  obtain ⟨v, h9, h10, h11⟩ := h6 p y h7
  exact ⟨v, h9, h10, h8.rel hβ hO how hw h11⟩
theorem ConN.renV {P : Program} {f : FuncId} {args args' : List AV} {hp hp' u u' : Heap} {r r' : AV} {nb nb' : List Blk} {m n : Nat} (π : Nat → Nat) (h : ConN P f args hp m r nb u) (hm : ∀ i, i < m → ∃ b, lk i hp = some b) (hl : args.length = args'.length) (ha : ∀ (c : Nat) (x y : AV), args[c]? = some x → args'[c]? = some y → Rn π m x y)
    (hh : ∀ i b, lk i hp = some b → i < m ∧ ∃ b', lk (π i) hp' = some b' ∧ RnB π m b b') (hi : ∀ i j, i < m → j < m → π i = π j → i = j) (hlen : nb'.length = nb.length) (hr : Rv π n m nb.length r' r)
    (hnb : ∀ (q : Nat) (b' : Blk), nb'[q]? = some b' → ∃ b, nb[q]? = some b ∧ RvB π n m nb.length b' b) (hu : ∀ i' b', (i', b') ∈ u' → ∃ i b, i < m ∧ π i = i' ∧ (i, b) ∈ u ∧ RvB π n m nb.length b' b)
    (hu2 : ∀ i b, (i, b) ∈ u → i < m ∧ (∃ b', (π i, b') ∈ u') ∧ (b.dead = true → ∀ b', (π i, b') ∈ u' → b'.dead = true)) : ConN P f args' hp' n r' nb' u' := by
  intro C vs hv hb hinj hlt hfresh
  let D : Cx := ⟨fun i => C.β (π i), fun j => j < m, C.ow, C.w⟩
  have hl' : LRel D args vs := by
    refine ⟨hv.1.trans hl.symm, fun c x v hx hvv => ?_⟩
    have hc : c < args'.length := by rw [← hl]; exact (List.getElem?_eq_some_iff.1 hx).1
    exact (ha c x args'[c] hx (List.getElem?_eq_getElem hc)).rel (D := D) (C := C) (fun _ _ => rfl) (fun _ h => h) (fun _ h => h) rfl (hv.2 c _ v (List.getElem?_eq_getElem hc) hvv)
  have hkey : ∀ i, i < m → C.ok (π i) ∧ C.ow (C.β (π i)) := fun i hi => by
    obtain ⟨b, hb1⟩ := hm i hi
    obtain ⟨_, b', hb2, _⟩ := hh i b hb1
    exact (hb _ _ hb2).2
  refine (h D vs hl' (fun j b hj => ?_) (fun j k a1 a2 h1 h2 d1 d2 he => ?_) hlt (fun i h1 _ (h2 : i < m) => by omega)).mono fun e w' ⟨cv, he, C', h⟩ => ⟨cv, he, ?_⟩
  · obtain ⟨h1, b', h2, h3⟩ := hh j b hj
    exact ⟨(h3.z (Z := False) (n0 := 0) (hp := [])).brel (C := C) (i' := π j) rfl (fun _ _ => rfl) (fun _ h => h) (fun _ h => h) rfl (fun h => h.elim) (hb _ _ h2).1, h1, (hkey j h1).2⟩
  · obtain ⟨p1, b1, p2, ⟨_, p3⟩, _⟩ := hh j a1 h1
    obtain ⟨q1, b2, q2, ⟨_, q3⟩, _⟩ := hh k a2 h2
    exact hi j k p1 q1 (hinj _ _ _ _ p2 q2 (p3 d1) (q3 d2) he)
  have hβm : ∀ i, i < m → C'.β i = C.β (π i) := fun i hi => h.ext.β i hi
  have hww : C'.w = w' := h.w
  let F : Cx := ⟨fun i => if n ≤ i ∧ i < n + nb.length then C'.β (m + (i - n)) else C.β i, fun i => C.ok i ∨ (n ≤ i ∧ i < n + nb.length), fun k => C.ow k ∨ ∃ i, n ≤ i ∧ i < n + nb.length ∧ C'.β (m + (i - n)) = k, w'⟩
  have hFn : ∀ i, n ≤ i → i < n + nb.length → F.β i = C'.β (m + (i - n)) := fun i h1 h2 => if_pos ⟨h1, h2⟩
  have hFo : ∀ i, C.ok i → F.β i = C.β i := fun i hi => if_neg fun ⟨h1, h2⟩ => hfresh i h1 (by omega) hi
  have hβ : ∀ i, n ≤ i → i < n + nb.length → F.β i = C'.β (m + (i - n)) ∧ F.ok i := fun i h1 h2 => ⟨hFn i h1 h2, .inr ⟨h1, h2⟩⟩
  have hO : ∀ i, i < m → F.β (π i) = C'.β i ∧ F.ok (π i) := fun i hi => ⟨(hFo _ (hkey i hi).1).trans (hβm i hi).symm, .inl (hkey i hi).1⟩
  have how : ∀ k, F.ow k → C'.ow k := by
    rintro k (h0 | ⟨i, h1, h2, e⟩)
    · exact (h.ow k).2 (.inl h0)
    · exact (h.ow k).2 (.inr ⟨m + (i - n), by omega, by omega, e⟩)
  refine ⟨F, rfl, ⟨?_, ?_, hFo, fun _ h => .inl h, ?_⟩, fun i => by rw [hlen], fun k => ?_, fun i h1 h2 => ?_, fun i j h1 h2 h3 h4 e => ?_, fun y hy => ?_, fun i b hib => ?_, fun i b hib => ?_⟩
  · have hw := h.ext.wx
    rw [h.w] at hw
    refine hw.trans (.refl _ (fun _ => False)) (fun k hk => ?_) (fun k _ h => h.elim)
    obtain ⟨j, b2, hj, hk⟩ := hk
    obtain ⟨_, ⟨b', hb'⟩, _⟩ := hu2 j b2 hj
    exact ⟨π j, b', hb', hk⟩
  · rintro k ⟨i', b', hib, rfl⟩
    obtain ⟨i, b, h1, rfl, _⟩ := hu i' b' hib
    exact (hkey i h1).2
  · rintro k (h0 | ⟨i, h1, h2, rfl⟩)
    · exact .inl h0
    · have := h.ext.ow (C'.β (m + (i - n))) ((h.ow _).2 (.inr ⟨m + (i - n), by omega, by omega, rfl⟩))
      exact this
  · rw [hlen]
    show C.ow k ∨ _ ↔ C.ow k ∨ _
    refine or_congr Iff.rfl ⟨?_, ?_⟩
    · rintro ⟨i, h1, h2, e⟩; exact ⟨i, h1, h2, by rw [hFn i h1 h2]; exact e⟩
    · rintro ⟨i, h1, h2, e⟩; exact ⟨i, h1, h2, by rw [← hFn i h1 h2]; exact e⟩
  · rw [hlen] at h2
    rw [hFn i h1 h2]
    rcases h.new (m + (i - n)) (by omega) (by omega) with hge | ⟨j, hj, e, ⟨b, hjb⟩, hd⟩
    · exact .inl hge
    · obtain ⟨_, hex, hdd⟩ := hu2 j b hjb
      exact .inr ⟨π j, (hkey j hj).1, e, hex, hdd (hd b hjb)⟩
  · rw [hlen] at h2 h4
    rw [hFn i h1 h2, hFn j h3 h4] at e
    have := h.inj (m + (i - n)) (m + (j - n)) (by omega) (by omega) (by omega) (by omega) e
    omega
  · injection hy with hy
    subst hy
    exact hr.rel hβ hO how hww.symm (h.val _ rfl)
  · obtain ⟨h1, h2⟩ := mem_named.1 hib
    have hlt2 : i - n < nb.length := by rw [← hlen]; exact (List.getElem?_eq_some_iff.1 h2).1
    obtain ⟨b0, h3, h4⟩ := hnb _ _ h2
    exact h4.brel (i' := m + (i - n)) (hFn i h1 (by omega)) hβ hO how hww.symm (h.nb _ _ (mem_named.2 ⟨by omega, by rw [Nat.add_sub_cancel_left]; exact h3⟩))
  · obtain ⟨j, b0, h1, rfl, h2, h3⟩ := hu i b hib
    exact h3.brel (i' := j) (by rw [hFo _ (hkey j h1).1, hβm j h1]) hβ hO how hww.symm (h.u _ _ h2)


theorem capt_ok {P : Program} {f : FuncId} {T E n : Nat} {args0 args : List AV} {g g' g1 : Nat → List AV} {v : Value} {i j nx : Nat} (hij : i ≠ j) (hl : args0.length = args.length) (ha : ∀ (c : Nat) (x y : AV), args0[c]? = some x → args[c]? = some y → Rn (pi2 i j) 2 x y)
    (hc : ConN P f args0 [(0, .cells [.slc 1 0 1 n] T), (1, .rows 1 n g E)] 2 (.lit v) [] [(0, .cells [.slc 1 0 1 n] T), (1, .rows 1 n g' E)]) (hg : ∀ q, q < n → ∀ x ∈ g q, Bl 0 x) (hgg : ∀ q, q < n → g q = g1 q) (hg' : ∀ q, q < n → ∀ x ∈ g' q, Bl 0 x) :
    ConN P f args [(i, .cells [.slc j 0 1 n] T), (j, .rows 1 n g1 E)] nx (.lit v) [] [(i, .cells [.slc j 0 1 n] T), (j, .rows 1 n g' E)] := by
  refine hc.renV (pi2 i j) (fun q hq => ?_) hl ha (fun q b hq => ?_) (fun q q' hq hq' he => ?_) rfl (.pl .lit) (fun q b' hq => by simp at hq) (fun i' b' hq => ?_) (fun i' b' hq => ?_)
  · rcases (by omega : q = 0 ∨ q = 1) with rfl | rfl
    · exact ⟨_, rfl⟩
    · exact ⟨_, rfl⟩
  · have := lk_in hq
    simp only [List.mem_cons, List.not_mem_nil, or_false, Prod.mk.injEq] at this
    rcases this with ⟨rfl, rfl⟩ | ⟨rfl, rfl⟩
    · refine ⟨by omega, .cells [.slc j 0 1 n] _, by rw [show pi2 i j 0 = i from rfl, lk_cons, if_pos rfl], ⟨rfl, fun _ => rfl⟩, fun p x hx => ?_⟩
      simp only [Blk.at] at hx
      match p, hx with
      | 0, hx => simp at hx; subst hx; exact ⟨_, rfl, Rn.slc (π := pi2 i j) (i := 1) (by omega)⟩
      | p + 1, hx => simp at hx
    · refine ⟨by omega, .rows 1 n g1 _, by rw [show pi2 i j 1 = j from rfl, lk_cons, if_neg hij, lk_cons, if_pos rfl], ⟨rfl, fun _ => rfl⟩, fun p x hx => ?_⟩
      simp only [Blk.at] at hx ⊢
      split at hx
      · rename_i hlt
        rw [if_pos hlt, ← hgg _ hlt]
        exact ⟨x, hx, .same (q := 0) (by omega) (by omega) (hg _ hlt x (List.mem_of_getElem? hx))⟩
      · cases hx
  · unfold pi2 at he
    split at he <;> split at he <;> first | omega | (exact absurd he hij) | (exact absurd he.symm hij)
  · simp only [List.mem_cons, List.not_mem_nil, or_false, Prod.mk.injEq] at hq
    rcases hq with ⟨rfl, rfl⟩ | ⟨rfl, rfl⟩
    · refine ⟨0, .cells [.slc 1 0 1 n] _, by omega, rfl, List.mem_cons_self, rfl, fun p x hx => ?_⟩
      simp only [Blk.at] at hx
      match p, hx with
      | 0, hx => simp at hx; subst hx; exact ⟨_, rfl, Rv.slcO (π := pi2 i' j) (i := 1) (by omega)⟩
      | p + 1, hx => simp at hx
    · refine ⟨1, .rows 1 n g' _, by omega, rfl, List.mem_cons_of_mem _ List.mem_cons_self, rfl, fun p x hx => ?_⟩
      have hx' := hx
      simp only [Blk.at] at hx
      split at hx
      · rename_i hlt
        exact ⟨x, hx', .pl (hg' _ hlt x (List.mem_of_getElem? hx))⟩
      · cases hx
  · simp only [List.mem_cons, List.not_mem_nil, or_false, Prod.mk.injEq] at hq
    rcases hq with ⟨rfl, rfl⟩ | ⟨rfl, rfl⟩
    · exact ⟨by omega, ⟨_, List.mem_cons_self⟩, fun h => by simp [Blk.dead] at h⟩
    · exact ⟨by omega, ⟨_, List.mem_cons_of_mem _ List.mem_cons_self⟩, fun h => by simp [Blk.dead] at h⟩

end Go.Proofs.Ytpilblmncpeelaa.AM

set_option linter.unusedVariables false
set_option linter.unusedSimpArgs false
set_option maxRecDepth 100000
set_option maxHeartbeats 4000000
set_option cbv.maxSteps 3000000
namespace Go.Proofs.Ytpilblmncpeelaa.AM
/- A region filled by the program: cells cleared; conditions: none. -/
def clr1 (L : List Int) (x y : Int) : List Int := L.set y.toNat ((noB (L.getD y.toNat 0).toNat (1 * 2 ^ x.toNat) : Nat) : Int)
theorem clr1_len (L : List Int) (x y : Int) : (clr1 L x y).length = L.length := by unfold clr1; rw [List.length_set]
theorem getD_setZ (l : List Int) (i j : Nat) (x : Int) : (l.set i x).getD j 0 = if i = j ∧ j < l.length then x else l.getD j 0 := by
  rw [List.getD_eq_getElem?_getD, List.getElem?_set, List.getD_eq_getElem?_getD]
  by_cases h : i = j
  · subst h
    by_cases h2 : i < l.length
    · rw [if_pos rfl, if_pos h2, if_pos ⟨rfl, h2⟩]; rfl
    · rw [if_pos rfl, if_neg h2, if_neg (fun q => h2 q.2), List.getElem?_eq_none (by omega)]
  · rw [if_neg h, if_neg (fun q => h q.1)]
theorem okRw_clr {L : List Int} {x y : Int} (h : okRw L) : okRw (clr1 L x y) := by
  refine ⟨(clr1_len _ _ _).trans h.1, fun j hj => ?_⟩
  unfold clr1
  rw [getD_setZ]
  split
  · rename_i q
    obtain ⟨rfl, _⟩ := q
    have := h.2 _ hj
    have h3 := noB_le (n := (L.getD y.toNat 0).toNat) (m := 1 * 2 ^ x.toNat) (Nat.lt_of_le_of_lt (show (L.getD y.toNat 0).toNat ≤ 1048576 by omega) (by decide))
    omega
  · exact h.2 j hj
/-- What lies in the cells afterwards. -/
theorem clr1_bit {L : List Int} {x y : Int} (h : okRw L) (hx : 0 ≤ x ∧ x < 20) (hy : 0 ≤ y ∧ y < 24) (j i : Nat) : ((clr1 L x y).getD j 0).toNat.testBit i = ((L.getD j 0).toNat.testBit i && !decide (y = (j : Nat) ∧ x = (i : Nat))) := by
  unfold clr1
  rw [getD_setZ]
  by_cases q : y.toNat = j
  · subst q
    rw [if_pos ⟨rfl, by rw [h.1]; omega⟩, Int.toNat_natCast]
    have := h.2 y.toNat (by omega)
    rw [noB_bit (Nat.lt_of_le_of_lt (show (L.getD y.toNat 0).toNat ≤ 1048576 by omega) (by decide)), one_bit]
    congr 2
    rw [decide_eq_decide]
    omega
  · rw [if_neg (fun r => q r.1), decide_eq_false (by omega)]
    simp
theorem c_clr1 (L : List Int) (x y : Int) (hL : okRw L) (hx : 0 ≤ x ∧ x < 20) (hy : 0 ≤ y ∧ y < 24) : ConN Try.prog 50 [.lit (.int .i64 x), .lit (.int .i64 y), .ptr 0 0] [(0, .cells [.slc 1 0 1 (stdH Nat fun _ => L.length)] 26), (1, .rows 1 (stdH Nat fun _ => L.length) (rowsI stdH fun _ => L) 3)] 2 (.lit (.bool true)) [] [(0, .cells [.slc 1 0 1 (stdH Nat fun _ => L.length)] 26), (1, .rows 1 (stdH Nat fun _ => L.length) (rowsI stdH fun _ => clr1 L x y) 3)] := by
  have hB : Base Try.prog (tabΓ []) tab := base_of tabOk (ents_nil)
  refine con_m (N := 15) hB (draw_ok hB mixed) Try.func50 rfl rfl (fun H => [.lit (.int .i64 (H Int fun _ => x)), .lit (.int .i64 (H Int fun _ => y)), .ptr 0 0]) (fun H => [(0, .cells [.slc 1 0 1 (H Nat fun _ => L.length)] 26), (1, .rows 1 (H Nat fun _ => L.length) (rowsI H fun _ => L) 3)]) 2 (fun _ => .lit (.bool true)) (fun _ => []) (fun H => [(0, .cells [.slc 1 0 1 (H Nat fun _ => L.length)] 26), (1, .rows 1 (H Nat fun _ => L.length) (rowsI H fun _ => clr1 L x y) 3)]) 100 (by simp) (fun a ha => ?_) (fun i b hi => ?_) (fun i hi => ?_) (fun i b hi => ?_) ?_
  · simp only [List.mem_cons, List.not_mem_nil, or_false] at ha
    rcases ha with rfl | rfl | rfl
    · exact .lit
    · exact .lit
    · exact .ptr (by omega)
  · have := lk_in hi
    simp only [List.mem_cons, List.not_mem_nil, or_false, Prod.mk.injEq] at this
    rcases this with ⟨rfl, rfl⟩ | ⟨rfl, rfl⟩
    · refine ⟨by omega, fun p a ha => ?_, _, List.mem_cons_self⟩
      simp only [Blk.at] at ha
      match p, ha with
      | 0, ha => simp at ha; subst ha; exact .slc (by omega)
      | p + 1, ha => simp at ha
    · refine ⟨by omega, fun p a ha => ?_, _, List.mem_cons_of_mem _ List.mem_cons_self⟩
      simp only [Blk.at] at ha
      split at ha
      · exact (rows_blx okI _ _ a (List.mem_of_getElem? ha)).mono (by omega)
      · cases ha
  · rcases (by omega : i = 0 ∨ i = 1) with rfl | rfl
    · exact ⟨_, rfl⟩
    · exact ⟨_, rfl⟩
  · simp only [List.mem_cons, List.not_mem_nil, or_false, Prod.mk.injEq] at hi
    rcases hi with ⟨rfl, rfl⟩ | ⟨rfl, rfl⟩
    · exact ⟨_, rfl⟩
    · exact ⟨_, rfl⟩
  intro X hX hX0 H hH
  conv in Fin.chk _ _ => cbv
  try simp only [Plain_rowsA, Plain_rowsB, Plain_rowsF, Plain_rowsG, Plain_rowsI, Plain_rowsQ, Plain_rowsS, Plain_rowsU, Fin.satC_ret, Fin.satC_br, Fin.satC_need, Fin.satC_again, AllP, and_true, true_and, upd, List.length_nil, List.length_cons, Nat.zero_add, if_true, ncast, Int.ofNat_eq_natCast]
  subst hH
  simp only [stdH]
  have hr := hL.2 y.toNat (by omega)
  have hl := hL.1
  obtain ⟨n, hn⟩ : ∃ n : Nat, L.getD y.toNat 0 = n := ⟨(L.getD y.toNat 0).toNat, by omega⟩
  obtain ⟨m, rfl⟩ : ∃ m : Nat, x = m := ⟨x.toNat, by omega⟩
  have e : IntKind.i64.wrap ↑(BitVec.ofInt IntKind.i64.bits (n : Int) &&& ~~~BitVec.ofInt IntKind.i64.bits (IntKind.i64.wrap (1 * 2 ^ min m IntKind.i64.bits))).toNat = ((noB n (1 * 2 ^ m) : Nat) : Int) := by
    have h2 := shlI (n := 1) (x := m) (by omega) (by decide)
    rw [Int.toNat_natCast] at h2
    have h3 : IntKind.i64.wrap (1 * 2 ^ min m IntKind.i64.bits) = ((1 * 2 ^ m : Nat) : Int) := h2
    rw [h3]
    exact noI (Nat.lt_of_le_of_lt (show n ≤ 1048576 by omega) (by decide))
  refine ⟨⟨by omega, by omega⟩, ⟨by omega, rfl⟩, by omega, ⟨by omega, by omega⟩, ⟨by omega, rfl⟩, ?_, trivial, trivial⟩
  rw [hn, Int.toNat_natCast, e]
  have e2 : L.set y.toNat ((noB n (1 * 2 ^ m) : Nat) : Int) = clr1 L m y := by
    unfold clr1
    rw [hn, Int.toNat_natCast, Int.toNat_natCast]
  have := RowsEq.putD okI e2
  rw [clr1_len] at this
  exact this
/-- A row of cells cleared, rows of them. -/
def clrR (L : List Int) (x y : Int) : Nat → List Int
  | 0 => L
  | i + 1 => clr1 (clrR L x y i) (x + (i : Nat)) y
def clrN (L : List Int) (x y : Int) (s : Nat) : Nat → List Int
  | 0 => L
  | j + 1 => clrR (clrN L x y s j) x (y + (j : Nat)) s
theorem clrR_len (L : List Int) (x y : Int) : ∀ i, (clrR L x y i).length = L.length
  | 0 => rfl
  | i + 1 => (clr1_len _ _ _).trans (clrR_len L x y i)
theorem clrN_len (L : List Int) (x y : Int) (s : Nat) : ∀ j, (clrN L x y s j).length = L.length
  | 0 => rfl
  | j + 1 => (clrR_len _ _ _ _).trans (clrN_len L x y s j)
theorem okRw_clrR {L : List Int} {x y : Int} (h : okRw L) : ∀ i, okRw (clrR L x y i)
  | 0 => h
  | i + 1 => okRw_clr (okRw_clrR h i)
theorem okRw_clrN {L : List Int} {x y : Int} {s : Nat} (h : okRw L) : ∀ j, okRw (clrN L x y s j)
  | 0 => h
  | j + 1 => okRw_clrR (okRw_clrN h j) _
theorem clrR_bit {L : List Int} {x y : Int} (h : okRw L) (hy : 0 ≤ y ∧ y < 24) (j q : Nat) : ∀ i : Nat, 0 ≤ x → x + (i : Nat) ≤ 20 → ((clrR L x y i).getD j 0).toNat.testBit q = ((L.getD j 0).toNat.testBit q && !decide (y = (j : Nat) ∧ x ≤ (q : Nat) ∧ ((q : Nat) : Int) < x + (i : Nat)))
  | 0, h1, h2 => by
    rw [decide_eq_false (by omega)]
    simp [clrR]
  | i + 1, h1, h2 => by
    show ((clr1 (clrR L x y i) (x + (i : Nat)) y).getD j 0).toNat.testBit q = _
    rw [clr1_bit (okRw_clrR h i) (by omega) hy, clrR_bit h hy j q i h1 (by omega), Bool.and_assoc]
    congr 1
    rw [Bool.eq_iff_iff]
    simp only [Bool.and_eq_true, Bool.not_eq_true', decide_eq_false_iff_not]
    omega
theorem clrN_bit {L : List Int} {x y : Int} {s : Nat} (h : okRw L) (hx : 0 ≤ x ∧ x + (s : Nat) ≤ 20) (j' q : Nat) : ∀ j : Nat, 0 ≤ y → y + (j : Nat) ≤ 24 → ((clrN L x y s j).getD j' 0).toNat.testBit q = ((L.getD j' 0).toNat.testBit q && !decide ((y ≤ (j' : Nat) ∧ ((j' : Nat) : Int) < y + (j : Nat)) ∧ x ≤ (q : Nat) ∧ ((q : Nat) : Int) < x + (s : Nat)))
  | 0, h1, h2 => by
    rw [decide_eq_false (by omega)]
    simp [clrN]
  | j + 1, h1, h2 => by
    show ((clrR (clrN L x y s j) x (y + (j : Nat)) s).getD j' 0).toNat.testBit q = _
    rw [clrR_bit (okRw_clrN h j) (by omega) j' q s hx.1 hx.2, clrN_bit h hx j' q j h1 (by omega), Bool.and_assoc]
    congr 1
    rw [Bool.eq_iff_iff]
    simp only [Bool.and_eq_true, Bool.not_eq_true', decide_eq_false_iff_not]
    omega

end Go.Proofs.Ytpilblmncpeelaa.AM

set_option linter.unusedVariables false
set_option linter.unusedSimpArgs false
set_option maxRecDepth 100000
set_option maxHeartbeats 4000000
set_option cbv.maxSteps 3000000
namespace Go.Proofs.Ytpilblmncpeelaa.AM
/- A region filled by the program: a box cleared; conditions: none. -/
theorem tl_eq {n : Nat} {g : Nat → List AV} (h : Shp rowI n g) : ∀ q, q < n → rowsI stdH (fun _ => Tl rowI n g) q = g q := fun q hq => by
  rw [h.row q hq]
  show [AV.lit (.int .i64 ((Tl rowI n g).getD q 0))] = _
  rw [List.getD_eq_getElem?_getD, Tl, List.getElem?_map, List.getElem?_range hq]
  rfl
noncomputable def e_clr1 : Entry := ⟨50, fun H a h _ => match a with
  | [.lit (.int .i64 x), .lit (.int .i64 y), .ptr i 0] => (match lk i h with
    | some (.cells [.slc j 0 1 n] T) => (match lk j h with
      | some (.rows 1 n' g E) => bif Nat.beq T 26 && (Nat.beq E 3 && !Nat.beq i j) then some (.lit (.bool true), [], [i, j], [(i, .cells [.slc j 0 1 n] 26), (j, .rows 1 n (rowsI H fun _ => clr1 (Tl rowI n g) x y) 3)], [H Prop fun _ => n' = n ∧ Shp rowI n g ∧ okRw (Tl rowI n g) ∧ (0 ≤ x ∧ x < 20) ∧ 0 ≤ y ∧ y < 24]) else none
      | _ => none)
    | _ => none)
  | _ => none⟩
theorem eok_clr1 : EntryOk Try.prog e_clr1 := by
  refine ⟨by unfold isBody; kernel_rfl, fun a hp nx r nb rd u ob e hob => ?_⟩
  simp only [e_clr1] at e
  split at e
  · rename_i x y i
    split at e
    · rename_i j n T hi
      split at e
      · rename_i n' g E hj
        cases hc : (Nat.beq T 26 && (Nat.beq E 3 && !Nat.beq i j)) with
        | false => rw [hc] at e; simp at e
        | true =>
          rw [hc] at e
          simp only [cond_true, stdH, Option.some.injEq, Prod.mk.injEq] at e
          obtain ⟨rfl, rfl, rfl, rfl, rfl⟩ := e
          simp only [Bool.and_eq_true, Bool.not_eq_true'] at hc
          have hT := Nat.eq_of_beq_eq_true hc.1
          have hE := Nat.eq_of_beq_eq_true hc.2.1
          have hij : i ≠ j := by rintro rfl; have := hc.2.2; simp at this
          subst hT; subst hE
          obtain ⟨⟨rfl, hs, hL, hx, hy⟩, _⟩ := hob
          have hlen : (Tl rowI n' g).length = n' := Tl_len n' g
          refine ⟨fun q b hq => ?_, [(i, .cells [.slc j 0 1 n'] 26), (j, .rows 1 n' g 3)], fun q b hq => ?_, ?_⟩
          · simp only [List.mem_cons, List.not_mem_nil, or_false, Prod.mk.injEq] at hq
            rcases hq with ⟨rfl, rfl⟩ | ⟨rfl, rfl⟩
            · exact ⟨by simp, _, hi, rfl⟩
            · exact ⟨by simp, _, hj, rfl⟩
          · have := lk_in hq
            simp only [List.mem_cons, List.not_mem_nil, or_false, Prod.mk.injEq] at this
            rcases this with ⟨rfl, rfl⟩ | ⟨rfl, rfl⟩
            · exact ⟨by simp, hi⟩
            · exact ⟨by simp, hj⟩
          · have hc2 := c_clr1 (Tl rowI n' g) x y hL hx hy
            simp only [stdH, hlen] at hc2
            refine capt_ok (args0 := [.lit (.int .i64 x), .lit (.int .i64 y), .ptr 0 0]) hij rfl (fun c p q hp hq => ?_) hc2 (fun q _ => rows_blx okI _ q) (tl_eq hs) (fun q _ => rows_blx okI _ q)
            match c, hp, hq with
            | 0, hp, hq => simp at hp hq; subst hp; subst hq; exact .same (q := 0) (by omega) (by omega) .lit
            | 1, hp, hq => simp at hp hq; subst hp; subst hq; exact .same (q := 0) (by omega) (by omega) .lit
            | 2, hp, hq => simp at hp hq; subst hp; subst hq; exact Rn.ptr (π := pi2 i j) (i := 0) (by omega)
            | c + 3, hp, hq => simp at hp
      · simp at e
    · simp at e
  · simp at e
theorem c_allClr (q : Box) (L : List Int) (hL : okRw L) (hx : 0 ≤ q.x ∧ q.x + q.s ≤ 20) (hy : 0 ≤ q.y ∧ q.y + q.s ≤ 24) (hs : 0 ≤ q.s) : ConN Try.prog 29 [aT rowQ stdH fun _ => q, .fn (.func 50) [] [.ptr 0 0]] [(0, .cells [.slc 1 0 1 (stdH Nat fun _ => L.length)] 26), (1, .rows 1 (stdH Nat fun _ => L.length) (rowsI stdH fun _ => L) 3)] 2 (.lit (.bool true)) [] [(0, .cells [.slc 1 0 1 (stdH Nat fun _ => L.length)] 26), (1, .rows 1 (stdH Nat fun _ => L.length) (rowsI stdH fun _ => clrN L q.x q.y q.s.toNat q.s.toNat) 3)] := by
  have hB : Base Try.prog (tabΓ [e_clr1]) tab := base_of tabOk (ents_cons eok_clr1 <| ents_nil)
  refine con_m (N := 34) hB (draw_ok hB mixed) Try.func29 rfl rfl (fun H => [aT rowQ H fun _ => q, .fn (.func 50) [] [.ptr 0 0]]) (fun H => [(0, .cells [.slc 1 0 1 (H Nat fun _ => L.length)] 26), (1, .rows 1 (H Nat fun _ => L.length) (rowsI H fun _ => L) 3)]) 2 (fun _ => .lit (.bool true)) (fun _ => []) (fun H => [(0, .cells [.slc 1 0 1 (H Nat fun _ => L.length)] 26), (1, .rows 1 (H Nat fun _ => L.length) (rowsI H fun _ => clrN L q.x q.y q.s.toNat q.s.toNat) 3)]) 300 (by simp) (fun a ha => ?_) (fun i b hi => ?_) (fun i hi => ?_) (fun i b hi => ?_) ?_
  · simp only [List.mem_cons, List.not_mem_nil, or_false] at ha
    rcases ha with rfl | rfl
    · exact Bl.mono (n := 0) (Nat.zero_le _) (aT_bl okRQ _ _)
    · refine .fn (fun c hc => by cases hc) (fun c hc => ?_)
      simp only [List.mem_cons, List.not_mem_nil, or_false] at hc
      subst hc
      exact .ptr (by omega)
  · have := lk_in hi
    simp only [List.mem_cons, List.not_mem_nil, or_false, Prod.mk.injEq] at this
    rcases this with ⟨rfl, rfl⟩ | ⟨rfl, rfl⟩
    · refine ⟨by omega, fun p a ha => ?_, _, List.mem_cons_self⟩
      simp only [Blk.at] at ha
      match p, ha with
      | 0, ha => simp at ha; subst ha; exact .slc (by omega)
      | p + 1, ha => simp at ha
    · refine ⟨by omega, fun p a ha => ?_, _, List.mem_cons_of_mem _ List.mem_cons_self⟩
      simp only [Blk.at] at ha
      split at ha
      · exact (rows_blx okI _ _ a (List.mem_of_getElem? ha)).mono (by omega)
      · cases ha
  · rcases (by omega : i = 0 ∨ i = 1) with rfl | rfl
    · exact ⟨_, rfl⟩
    · exact ⟨_, rfl⟩
  · simp only [List.mem_cons, List.not_mem_nil, or_false, Prod.mk.injEq] at hi
    rcases hi with ⟨rfl, rfl⟩ | ⟨rfl, rfl⟩
    · exact ⟨_, rfl⟩
    · exact ⟨_, rfl⟩
  intro X hX hX0 H hH
  conv in Fin.chk _ _ => cbv
  try simp only [Plain_rowsA, Plain_rowsB, Plain_rowsF, Plain_rowsG, Plain_rowsI, Plain_rowsQ, Plain_rowsS, Plain_rowsU, Fin.satC_ret, Fin.satC_br, Fin.satC_need, Fin.satC_again, AllP, and_true, true_and, upd, List.length_nil, List.length_cons, Nat.zero_add, if_true, ncast, Int.ofNat_eq_natCast]
  have wy : IntKind.i64.wrap (q.y + q.s) = q.y + q.s := wi (by omega) (by omega)
  have wx : IntKind.i64.wrap (q.x + q.s) = q.x + q.s := wi (by omega) (by omega)
  refine loop_c hB (draw_ok hB mixed) hX hX0 hH [1, 2, 5] (ι := { j : Nat // j ≤ q.s.toNat }) 300 (fun j => [.i (H Int fun _ => q.y + (j.1 : Nat)), .r (H Nat fun _ => (clrN L q.x q.y q.s.toNat j.1).length) (rowsI H fun _ => clrN L q.x q.y q.s.toNat j.1)]) (fun j => q.s.toNat - j.1) (⟨0, by omega⟩) ?_ ?_
  · (conv in matchSt _ _ _ _ => cbv); simp only [AllG, AllP, and_true, hH, stdH, Nat.le_refl, ncast, Int.ofNat_eq_natCast, vrow_I, Arm.eta2, Fld.eta, Grp.eta]
    (repeat' (with_reducible refine And.intro ?_ ?_)) <;> (first | exact True.intro | exact RowsEq.self okI | exact Eq.refl _ | omega)
  · intro I hI j
    conv in Fin.chk _ _ => cbv
    try simp only [Plain_rowsA, Plain_rowsB, Plain_rowsF, Plain_rowsG, Plain_rowsI, Plain_rowsQ, Plain_rowsS, Plain_rowsU, Fin.satC_ret, Fin.satC_br, Fin.satC_need, Fin.satC_again, AllP, and_true, true_and, upd, List.length_nil, List.length_cons, Nat.zero_add, if_true, ncast, Int.ofNat_eq_natCast]
    obtain ⟨j, hj⟩ := j
    have jl := clrN_len L q.x q.y q.s.toNat j
    refine ⟨fun h1 => ?_, fun h1 => ?_⟩
    · have h2 := h1
      simp only [hH, stdH, decide_eq_true_eq, wy] at h2
      refine loop_c hB (draw_ok hB mixed) hX hX0 hH [1, 2, 5, 6] (ι := { i : Nat // i ≤ q.s.toNat }) 300 (fun i => [.i (H Int fun _ => q.x + (i.1 : Nat)), .r (H Nat fun _ => (clrR (clrN L q.x q.y q.s.toNat j) q.x (q.y + (j : Nat)) i.1).length) (rowsI H fun _ => clrR (clrN L q.x q.y q.s.toNat j) q.x (q.y + (j : Nat)) i.1)]) (fun i => q.s.toNat - i.1) (⟨0, by omega⟩) ?_ ?_
      · (conv in matchSt _ _ _ _ => cbv); simp only [AllG, AllP, and_true, hH, stdH, Nat.le_refl, ncast, Int.ofNat_eq_natCast, vrow_I, Arm.eta2, Fld.eta, Grp.eta]
        (repeat' (with_reducible refine And.intro ?_ ?_)) <;> (first | exact True.intro | exact RowsEq.self okI | exact Eq.refl _ | omega)
      · intro J hJ i
        conv in Fin.chk _ _ => cbv
        try simp only [Plain_rowsA, Plain_rowsB, Plain_rowsF, Plain_rowsG, Plain_rowsI, Plain_rowsQ, Plain_rowsS, Plain_rowsU, Fin.satC_ret, Fin.satC_br, Fin.satC_need, Fin.satC_again, AllP, and_true, true_and, upd, List.length_nil, List.length_cons, Nat.zero_add, if_true, ncast, Int.ofNat_eq_natCast]
        obtain ⟨i, hi⟩ := i
        have il := clrR_len (clrN L q.x q.y q.s.toNat j) q.x (q.y + (j : Nat)) i
        refine ⟨fun h3 => ⟨?_, fun h4 => ?_, fun h4 => ?_⟩, fun h3 => ?_⟩
        · simp only [hH, stdH, decide_eq_true_eq, wx, Tl_I] at h3 ⊢
          exact ⟨Shp_I _ _, okRw_clrR (okRw_clrN hL j) i, by omega, by omega⟩
        · exfalso
          simp only [hH, stdH] at h4
          cases h4
        · simp only [hH, stdH, decide_eq_true_eq, wx] at h3
          have e : clr1 (clrR (clrN L q.x q.y q.s.toNat j) q.x (q.y + (j : Nat)) i) (q.x + (i : Nat)) (q.y + (j : Nat)) = clrR (clrN L q.x q.y q.s.toNat j) q.x (q.y + (j : Nat)) (i + 1) := rfl
          refine ⟨⟨i + 1, by omega⟩, by simp only; omega, ?_⟩
          rw [hJ]
          (conv in matchSt _ _ _ _ => cbv); simp only [AllG, AllP, and_true, hH, stdH, Nat.le_refl, ncast, Int.ofNat_eq_natCast, vrow_I, Arm.eta2, Fld.eta, Grp.eta]
          simp only [Tl_I, e]
          have il2 := clrR_len (clrN L q.x q.y q.s.toNat j) q.x (q.y + (j : Nat)) (i + 1)
          have rq := RowsEq.self okI (L := clrR (clrN L q.x q.y q.s.toNat j) q.x (q.y + (j : Nat)) (i + 1))
          rw [il2] at rq ⊢
          rw [il]
          rw [wi (by omega) (by omega)]
          (repeat' (with_reducible refine And.intro ?_ ?_)) <;> (first | exact True.intro | exact rq | exact Eq.refl _ | omega)
        · simp only [hH, stdH, decide_eq_false_iff_not, wx] at h3
          rw [if_neg (by decide)]
          obtain rfl : i = q.s.toNat := by omega
          have e : clrR (clrN L q.x q.y q.s.toNat j) q.x (q.y + (j : Nat)) q.s.toNat = clrN L q.x q.y q.s.toNat (j + 1) := rfl
          refine ⟨⟨j + 1, by omega⟩, by simp only; omega, ?_⟩
          rw [hI]
          (conv in matchSt _ _ _ _ => cbv); simp only [AllG, AllP, and_true, hH, stdH, Nat.le_refl, ncast, Int.ofNat_eq_natCast, vrow_I, Arm.eta2, Fld.eta, Grp.eta]
          rw [e, wi (by omega) (by omega)]
          (repeat' (with_reducible refine And.intro ?_ ?_)) <;> (first | exact True.intro | exact RowsEq.self okI | exact Eq.refl _ | omega)
    · simp only [hH, stdH, decide_eq_false_iff_not, wy] at h1 ⊢
      obtain rfl : j = q.s.toNat := by omega
      have := RowsEq.self okI (L := clrN L q.x q.y q.s.toNat q.s.toNat)
      rw [clrN_len] at this ⊢
      exact ⟨this, rfl, trivial⟩

end Go.Proofs.Ytpilblmncpeelaa.AM

