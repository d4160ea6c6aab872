/- Lemmas and contracts (Skv); conditions: none. -/
import Derived.Test.YtmkniipdkanbbaaGreatDoorK04
import Derived.Test.YtmkniipdkanbbaaGreatDoorK05
import Derived.Test.YtmkniipdkanbbaaGreatDoorK24
import Derived.Test.YtmkniipdkanbbaaGreatDoorK25
set_option linter.unusedVariables false
set_option linter.unusedSimpArgs false
set_option maxRecDepth 100000
set_option maxHeartbeats 4000000
set_option cbv.maxSteps 3000000
namespace Go.Proofs.YtmkniipdkanbbaaGreatDoor.AM
/- Where the tinctures of sketches stand: pointers; conditions: none. -/
/-! ### Contracts under other names whose new blocks lead to the caller's -/
inductive Rw (π : Nat → Nat) (n m len : Nat) : AV → AV → Prop
  | pl {x : AV} (h : Bl 0 x) : Rw π n m len x x
  | ptrO {i o : Nat} (h : i < m) : Rw π n m len (.ptr (π i) o) (.ptr i o)
  | slc {i j o k l : Nat} (h : n ≤ i ∧ i < n + len) (e : j = m + (i - n)) : Rw π n m len (.slc i o k l) (.slc j o k l)
theorem Rw.rel {C D : Cx} {π : Nat → Nat} {n m len : Nat} {x y : AV} (h : Rw π n m len x y) (hβ : ∀ i, n ≤ i → i < n + len → D.β i = C.β (m + (i - n)) ∧ D.ok i) (hO : ∀ i, i < m → D.β (π i) = C.β i ∧ D.ok (π i)) (how : ∀ k, D.ow k → C.ow k) (hw : D.w = C.w) {v : Value} (hy : Rel C y v) : Rel D x v := by
  cases h with
  | pl h => exact hy.limit h (fun i hi => by omega) (fun i hi => by omega) how hw
  | ptrO h => cases hy with | ptr h' => rw [← (hO _ h).1]; exact .ptr (hO _ h).2
  | slc h e => subst e; cases hy with | slc h' hn hm hc => rw [← (hβ _ h.1 h.2).1] at hc ⊢; exact .slc (hβ _ h.1 h.2).2 hn hm (by rw [hw]; exact hc)
def RwB (π : Nat → Nat) (n m len : Nat) (b b' : Blk) : Prop := b.elem = b'.elem ∧ ∀ p x, b.at p = some x → ∃ y, b'.at p = some y ∧ Rw π n m len x y
theorem RwB.brel {C D : Cx} {π : Nat → Nat} {n m len i i' : Nat} {b b' : Blk} (h : RwB π n m len b b') (hi : D.β i = C.β i') (hβ : ∀ i, n ≤ i → i < n + len → D.β i = C.β (m + (i - n)) ∧ D.ok i) (hO : ∀ i, i < m → D.β (π i) = C.β i ∧ D.ok (π i)) (how : ∀ k, D.ow k → C.ow k) (hw : D.w = C.w) (hb : BRel C i' b') : BRel D i b := by
  obtain ⟨h3, h4⟩ := h
  obtain ⟨c, h5, h6⟩ := hb
  refine ⟨c, by rw [hw, hi, h3]; exact h5, fun p x hx => ?_⟩
  obtain ⟨y, h7, h8⟩ := h4 p x hx
  obtain ⟨v, h9, h10, h11⟩ := h6 p y h7
  exact ⟨v, h9, h10, h8.rel hβ hO how hw h11⟩
theorem ConN.renW {P : Program} {f : FuncId} {args args' : List AV} {hp hp' u u' : Heap} {r r' : AV} {nb nb' : List Blk} {m n : Nat} (π : Nat → Nat) (h : ConN P f args hp m r nb u) (hm : ∀ i, i < m → ∃ b, lk i hp = some b) (hl : args.length = args'.length) (ha : ∀ (c : Nat) (x y : AV), args[c]? = some x → args'[c]? = some y → Rn π m x y)
    (hh : ∀ i b, lk i hp = some b → i < m ∧ ∃ b', lk (π i) hp' = some b' ∧ RnB π m b b') (hi : ∀ i j, i < m → j < m → π i = π j → i = j) (hlen : nb'.length = nb.length) (hr : Rw π n m nb.length r' r)
    (hnb : ∀ (q : Nat) (b' : Blk), nb'[q]? = some b' → ∃ b, nb[q]? = some b ∧ RwB π n m nb.length b' b) (hu : ∀ i' b', (i', b') ∈ u' → ∃ i b, i < m ∧ π i = i' ∧ (i, b) ∈ u ∧ RwB π n m nb.length b' b)
    (hu2 : ∀ i b, (i, b) ∈ u → i < m ∧ (∃ b', (π i, b') ∈ u') ∧ (b.dead = true → ∀ b', (π i, b') ∈ u' → b'.dead = true)) : ConN P f args' hp' n r' nb' u' := by
  intro C vs hv hb hinj hlt hfresh
  let D : Cx := ⟨fun i => C.β (π i), fun j => j < m, C.ow, C.w⟩
  have hl' : LRel D args vs := by
    refine ⟨hv.1.trans hl.symm, fun c x v hx hvv => ?_⟩
    have hc : c < args'.length := by rw [← hl]; exact (List.getElem?_eq_some_iff.1 hx).1
    exact (ha c x args'[c] hx (List.getElem?_eq_getElem hc)).rel (D := D) (C := C) (fun _ _ => rfl) (fun _ h => h) (fun _ h => h) rfl (hv.2 c _ v (List.getElem?_eq_getElem hc) hvv)
  have hkey : ∀ i, i < m → C.ok (π i) ∧ C.ow (C.β (π i)) := fun i hi => by
    obtain ⟨b, hb1⟩ := hm i hi
    obtain ⟨_, b', hb2, _⟩ := hh i b hb1
    exact (hb _ _ hb2).2
  refine (h D vs hl' (fun j b hj => ?_) (fun j k a1 a2 h1 h2 d1 d2 he => ?_) hlt (fun i h1 _ (h2 : i < m) => by omega)).mono fun e w' ⟨cv, he, C', h⟩ => ⟨cv, he, ?_⟩
  · obtain ⟨h1, b', h2, h3⟩ := hh j b hj
    exact ⟨(h3.z (Z := False) (n0 := 0) (hp := [])).brel (C := C) (i' := π j) rfl (fun _ _ => rfl) (fun _ h => h) (fun _ h => h) rfl (fun h => h.elim) (hb _ _ h2).1, h1, (hkey j h1).2⟩
  · obtain ⟨p1, b1, p2, ⟨_, p3⟩, _⟩ := hh j a1 h1
    obtain ⟨q1, b2, q2, ⟨_, q3⟩, _⟩ := hh k a2 h2
    exact hi j k p1 q1 (hinj _ _ _ _ p2 q2 (p3 d1) (q3 d2) he)
  have hβm : ∀ i, i < m → C'.β i = C.β (π i) := fun i hi => h.ext.β i hi
  have hww : C'.w = w' := h.w
  let F : Cx := ⟨fun i => if n ≤ i ∧ i < n + nb.length then C'.β (m + (i - n)) else C.β i, fun i => C.ok i ∨ (n ≤ i ∧ i < n + nb.length), fun k => C.ow k ∨ ∃ i, n ≤ i ∧ i < n + nb.length ∧ C'.β (m + (i - n)) = k, w'⟩
  have hFn : ∀ i, n ≤ i → i < n + nb.length → F.β i = C'.β (m + (i - n)) := fun i h1 h2 => if_pos ⟨h1, h2⟩
  have hFo : ∀ i, C.ok i → F.β i = C.β i := fun i hi => if_neg fun ⟨h1, h2⟩ => hfresh i h1 (by omega) hi
  have hβ : ∀ i, n ≤ i → i < n + nb.length → F.β i = C'.β (m + (i - n)) ∧ F.ok i := fun i h1 h2 => ⟨hFn i h1 h2, .inr ⟨h1, h2⟩⟩
  have hO : ∀ i, i < m → F.β (π i) = C'.β i ∧ F.ok (π i) := fun i hi => ⟨(hFo _ (hkey i hi).1).trans (hβm i hi).symm, .inl (hkey i hi).1⟩
  have how : ∀ k, F.ow k → C'.ow k := by
    rintro k (h0 | ⟨i, h1, h2, e⟩)
    · exact (h.ow k).2 (.inl h0)
    · exact (h.ow k).2 (.inr ⟨m + (i - n), by omega, by omega, e⟩)
  refine ⟨F, rfl, ⟨?_, ?_, hFo, fun _ h => .inl h, ?_⟩, fun i => by rw [hlen], fun k => ?_, fun i h1 h2 => ?_, fun i j h1 h2 h3 h4 e => ?_, fun y hy => ?_, fun i b hib => ?_, fun i b hib => ?_⟩
  · have hw := h.ext.wx
    rw [h.w] at hw
    refine hw.trans (.refl _ (fun _ => False)) (fun k hk => ?_) (fun k _ h => h.elim)
    obtain ⟨j, b2, hj, hk⟩ := hk
    obtain ⟨_, ⟨b', hb'⟩, _⟩ := hu2 j b2 hj
    exact ⟨π j, b', hb', hk⟩
  · rintro k ⟨i', b', hib, rfl⟩
    obtain ⟨i, b, h1, rfl, _⟩ := hu i' b' hib
    exact (hkey i h1).2
  · rintro k (h0 | ⟨i, h1, h2, rfl⟩)
    · exact .inl h0
    · have := h.ext.ow (C'.β (m + (i - n))) ((h.ow _).2 (.inr ⟨m + (i - n), by omega, by omega, rfl⟩))
      exact this
  · rw [hlen]
    show C.ow k ∨ _ ↔ C.ow k ∨ _
    refine or_congr Iff.rfl ⟨?_, ?_⟩
    · rintro ⟨i, h1, h2, e⟩; exact ⟨i, h1, h2, by rw [hFn i h1 h2]; exact e⟩
    · rintro ⟨i, h1, h2, e⟩; exact ⟨i, h1, h2, by rw [← hFn i h1 h2]; exact e⟩
  · rw [hlen] at h2
    rw [hFn i h1 h2]
    rcases h.new (m + (i - n)) (by omega) (by omega) with hge | ⟨j, hj, e, ⟨b, hjb⟩, hd⟩
    · exact .inl hge
    · obtain ⟨_, hex, hdd⟩ := hu2 j b hjb
      exact .inr ⟨π j, (hkey j hj).1, e, hex, hdd (hd b hjb)⟩
  · rw [hlen] at h2 h4
    rw [hFn i h1 h2, hFn j h3 h4] at e
    have := h.inj (m + (i - n)) (m + (j - n)) (by omega) (by omega) (by omega) (by omega) e
    omega
  · injection hy with hy
    subst hy
    exact hr.rel hβ hO how hww.symm (h.val _ rfl)
  · obtain ⟨h1, h2⟩ := mem_named.1 hib
    have hlt2 : i - n < nb.length := by rw [← hlen]; exact (List.getElem?_eq_some_iff.1 h2).1
    obtain ⟨b0, h3, h4⟩ := hnb _ _ h2
    exact h4.brel (i' := m + (i - n)) (hFn i h1 (by omega)) hβ hO how hww.symm (h.nb _ _ (mem_named.2 ⟨by omega, by rw [Nat.add_sub_cancel_left]; exact h3⟩))
  · obtain ⟨j, b0, h1, rfl, h2, h3⟩ := hu i b hib
    exact h3.brel (i' := j) (by rw [hFo _ (hkey j h1).1, hβm j h1]) hβ hO how hww.symm (h.u _ _ h2)

def cX (x0 x1 x2 x3 x4 x5 x6 x7 x8 x9 x10 x11 x12 x13 x14 : Int) (l : List AV) : List AV := .lit (.int .i64 x0) :: .lit (.int .i64 x1) :: .lit (.int .i64 x2) :: .lit (.int .i64 x3) :: .lit (.int .i64 x4) :: .lit (.int .i64 x5) :: .lit (.int .i64 x6) :: .lit (.int .i64 x7) :: .lit (.int .i64 x8) :: .lit (.int .i64 x9) :: .lit (.int .i64 x10) :: .lit (.int .i64 x11) :: .lit (.int .i64 x12) :: .lit (.int .i64 x13) :: .lit (.int .i64 x14) :: l
def cA (H : Hold) (a : Arm) (l : List AV) : List AV := cX (H Int fun _ => a.f.d) (H Int fun _ => a.f.l) (H Int fun _ => a.f.p) (H Int fun _ => a.f.q) (H Int fun _ => a.o) (H Int fun _ => a.l) (H Int fun _ => a.t) (H Int fun _ => a.n.c) (H Int fun _ => a.n.k) (H Int fun _ => a.n.a) (H Int fun _ => a.n.t) (H Int fun _ => a.r.c) (H Int fun _ => a.r.k) (H Int fun _ => a.r.a) (H Int fun _ => a.r.t) l
def tabN : Tab := ⟨tabL, false, 4⟩
theorem tabOkN : TabOk Tryz.prog tabN := tabOk
def tabZ : Tab := ⟨tabL, true, 4⟩
theorem tabOkZ : TabOk Tryz.prog tabZ := tabOk
theorem cells_bl {m E : Nat} {l : List AV} (h : ∀ x ∈ l, Bl m x) : BlB m (.cells l E) := fun p x hx => h x (List.mem_of_getElem? hx)
theorem bneD (x : Int) : (x != 0) = !decide (x = 0) := by rw [Bool.eq_iff_iff]; simp
theorem RowsEq.z0 {k : Nat} {f : Nat → List AV} : RowsEq k 0 f 0 f := ⟨rfl, fun j hj => absurd hj (Nat.not_lt_zero j)⟩
theorem c_ptrA000 (a : Arm) (ho : decide (a.o = 0) = true) (hn : noG a.n = true) (hr : noG a.r = true) : ConN Tryz.prog 41 [.ptr 0 0] [(0, .cells (cA stdH a []) 27)] 1 (.slc 1 0 1 0) [.rows 1 0 (rowsOf 1 []) 69] [(0, .cells (cA stdH a []) 27)] := by
  have hB : Base Tryz.prog (tabΓ []) tabN := base_of tabOkN (ents_nil)
  refine con_m (N := 43) hB (draw_ok hB mixed) Tryz.func41 rfl rfl (fun H => [.ptr 0 0]) (fun H => [(0, .cells (cA H a []) 27)]) 1 (fun H => .slc 1 0 1 0) (fun H => [.rows 1 0 (rowsOf 1 []) 69]) (fun H => [(0, .cells (cA H a []) 27)]) 200 (by simp) (fun x hx => ?_) (fun i b hi => ?_) (fun i hi => ?_) (fun i b hi => ?_) ?_
  · simp only [cA, cX, zqu] at hx
    subst hx
    exact .ptr (by omega)
  · have := lk_in hi
    simp only [zqu, Prod.mk.injEq] at this
    obtain ⟨rfl, rfl⟩ := this
    refine ⟨by omega, cells_bl fun x hx => ?_, _, List.mem_cons_self⟩
    simp only [cA, cX, zqu] at hx
    rcases hx with rfl | rfl | rfl | rfl | rfl | rfl | rfl | rfl | rfl | rfl | rfl | rfl | rfl | rfl | rfl <;> first | exact .lit
  · obtain rfl : i = 0 := by omega
    exact ⟨_, rfl⟩
  · simp only [zqu, Prod.mk.injEq] at hi
    obtain ⟨rfl, rfl⟩ := hi
    exact ⟨_, rfl⟩
  intro X hX hX0 H hH
  conv in Fin.chk _ _ => cbv
  try simp only [zqs, Plain_rowsC, Plain_rowsY, zqx, AllP, zqw, upd, if_true]
  subst hH
  simp only [stdH, Arm.eta2, Fld.eta, Grp.eta, allGn, bneD, ho, hn, hr]
  repeat' (first | exact trivial | rfl | exact RowsEq.self okRY | exact RowsEq.z0 | omega | refine And.intro ?_ ?_ | (intro h; first | (cases h; done) | (simp at h; done) | skip))
theorem c_ptrA001 (a : Arm) (ho : decide (a.o = 0) = true) (hn : noG a.n = true) (hr : noG a.r = false) : ConN Tryz.prog 41 [.ptr 0 0] [(0, .cells (cA stdH a []) 27)] 1 (.slc 1 0 1 1) [.cells [.ptr 0 14] 69] [(0, .cells (cA stdH a []) 27)] := by
  have hB : Base Tryz.prog (tabΓ []) tabN := base_of tabOkN (ents_nil)
  refine con_m (N := 43) hB (draw_ok hB mixed) Tryz.func41 rfl rfl (fun H => [.ptr 0 0]) (fun H => [(0, .cells (cA H a []) 27)]) 1 (fun H => .slc 1 0 1 1) (fun H => [.cells [.ptr 0 14] 69]) (fun H => [(0, .cells (cA H a []) 27)]) 200 (by simp) (fun x hx => ?_) (fun i b hi => ?_) (fun i hi => ?_) (fun i b hi => ?_) ?_
  · simp only [cA, cX, zqu] at hx
    subst hx
    exact .ptr (by omega)
  · have := lk_in hi
    simp only [zqu, Prod.mk.injEq] at this
    obtain ⟨rfl, rfl⟩ := this
    refine ⟨by omega, cells_bl fun x hx => ?_, _, List.mem_cons_self⟩
    simp only [cA, cX, zqu] at hx
    rcases hx with rfl | rfl | rfl | rfl | rfl | rfl | rfl | rfl | rfl | rfl | rfl | rfl | rfl | rfl | rfl <;> first | exact .lit
  · obtain rfl : i = 0 := by omega
    exact ⟨_, rfl⟩
  · simp only [zqu, Prod.mk.injEq] at hi
    obtain ⟨rfl, rfl⟩ := hi
    exact ⟨_, rfl⟩
  intro X hX hX0 H hH
  conv in Fin.chk _ _ => cbv
  try simp only [zqs, Plain_rowsC, Plain_rowsY, zqx, AllP, zqw, upd, if_true]
  subst hH
  simp only [stdH, Arm.eta2, Fld.eta, Grp.eta, allGn, bneD, ho, hn, hr]
  repeat' (first | exact trivial | rfl | exact RowsEq.self okRY | exact RowsEq.z0 | omega | refine And.intro ?_ ?_ | (intro h; first | (cases h; done) | (simp at h; done) | skip))
theorem c_ptrA100 (a : Arm) (ho : decide (a.o = 0) = false) (hn : noG a.n = true) (hr : noG a.r = true) : ConN Tryz.prog 41 [.ptr 0 0] [(0, .cells (cA stdH a []) 27)] 1 (.slc 1 0 1 1) [.cells [.ptr 0 6] 69] [(0, .cells (cA stdH a []) 27)] := by
  have hB : Base Tryz.prog (tabΓ []) tabN := base_of tabOkN (ents_nil)
  refine con_m (N := 43) hB (draw_ok hB mixed) Tryz.func41 rfl rfl (fun H => [.ptr 0 0]) (fun H => [(0, .cells (cA H a []) 27)]) 1 (fun H => .slc 1 0 1 1) (fun H => [.cells [.ptr 0 6] 69]) (fun H => [(0, .cells (cA H a []) 27)]) 200 (by simp) (fun x hx => ?_) (fun i b hi => ?_) (fun i hi => ?_) (fun i b hi => ?_) ?_
  · simp only [cA, cX, zqu] at hx
    subst hx
    exact .ptr (by omega)
  · have := lk_in hi
    simp only [zqu, Prod.mk.injEq] at this
    obtain ⟨rfl, rfl⟩ := this
    refine ⟨by omega, cells_bl fun x hx => ?_, _, List.mem_cons_self⟩
    simp only [cA, cX, zqu] at hx
    rcases hx with rfl | rfl | rfl | rfl | rfl | rfl | rfl | rfl | rfl | rfl | rfl | rfl | rfl | rfl | rfl <;> first | exact .lit
  · obtain rfl : i = 0 := by omega
    exact ⟨_, rfl⟩
  · simp only [zqu, Prod.mk.injEq] at hi
    obtain ⟨rfl, rfl⟩ := hi
    exact ⟨_, rfl⟩
  intro X hX hX0 H hH
  conv in Fin.chk _ _ => cbv
  try simp only [zqs, Plain_rowsC, Plain_rowsY, zqx, AllP, zqw, upd, if_true]
  subst hH
  simp only [stdH, Arm.eta2, Fld.eta, Grp.eta, allGn, bneD, ho, hn, hr]
  repeat' (first | exact trivial | rfl | exact RowsEq.self okRY | exact RowsEq.z0 | omega | refine And.intro ?_ ?_ | (intro h; first | (cases h; done) | (simp at h; done) | skip))
theorem c_ptrA101 (a : Arm) (ho : decide (a.o = 0) = false) (hn : noG a.n = true) (hr : noG a.r = false) : ConN Tryz.prog 41 [.ptr 0 0] [(0, .cells (cA stdH a []) 27)] 1 (.slc 1 0 1 2) [.cells [.ptr 0 6, .ptr 0 14] 69] [(0, .cells (cA stdH a []) 27)] := by
  have hB : Base Tryz.prog (tabΓ []) tabN := base_of tabOkN (ents_nil)
  refine con_m (N := 43) hB (draw_ok hB mixed) Tryz.func41 rfl rfl (fun H => [.ptr 0 0]) (fun H => [(0, .cells (cA H a []) 27)]) 1 (fun H => .slc 1 0 1 2) (fun H => [.cells [.ptr 0 6, .ptr 0 14] 69]) (fun H => [(0, .cells (cA H a []) 27)]) 200 (by simp) (fun x hx => ?_) (fun i b hi => ?_) (fun i hi => ?_) (fun i b hi => ?_) ?_
  · simp only [cA, cX, zqu] at hx
    subst hx
    exact .ptr (by omega)
  · have := lk_in hi
    simp only [zqu, Prod.mk.injEq] at this
    obtain ⟨rfl, rfl⟩ := this
    refine ⟨by omega, cells_bl fun x hx => ?_, _, List.mem_cons_self⟩
    simp only [cA, cX, zqu] at hx
    rcases hx with rfl | rfl | rfl | rfl | rfl | rfl | rfl | rfl | rfl | rfl | rfl | rfl | rfl | rfl | rfl <;> first | exact .lit
  · obtain rfl : i = 0 := by omega
    exact ⟨_, rfl⟩
  · simp only [zqu, Prod.mk.injEq] at hi
    obtain ⟨rfl, rfl⟩ := hi
    exact ⟨_, rfl⟩
  intro X hX hX0 H hH
  conv in Fin.chk _ _ => cbv
  try simp only [zqs, Plain_rowsC, Plain_rowsY, zqx, AllP, zqw, upd, if_true]
  subst hH
  simp only [stdH, Arm.eta2, Fld.eta, Grp.eta, allGn, bneD, ho, hn, hr]
  repeat' (first | exact trivial | rfl | exact RowsEq.self okRY | exact RowsEq.z0 | omega | refine And.intro ?_ ?_ | (intro h; first | (cases h; done) | (simp at h; done) | skip))
theorem c_ptrA110 (a : Arm) (ho : decide (a.o = 0) = false) (hn : noG a.n = false) (hr : noG a.r = true) : ConN Tryz.prog 41 [.ptr 0 0] [(0, .cells (cA stdH a []) 27)] 1 (.slc 1 0 1 2) [.cells [.ptr 0 6, .ptr 0 10] 69] [(0, .cells (cA stdH a []) 27)] := by
  have hB : Base Tryz.prog (tabΓ []) tabN := base_of tabOkN (ents_nil)
  refine con_m (N := 43) hB (draw_ok hB mixed) Tryz.func41 rfl rfl (fun H => [.ptr 0 0]) (fun H => [(0, .cells (cA H a []) 27)]) 1 (fun H => .slc 1 0 1 2) (fun H => [.cells [.ptr 0 6, .ptr 0 10] 69]) (fun H => [(0, .cells (cA H a []) 27)]) 200 (by simp) (fun x hx => ?_) (fun i b hi => ?_) (fun i hi => ?_) (fun i b hi => ?_) ?_
  · simp only [cA, cX, zqu] at hx
    subst hx
    exact .ptr (by omega)
  · have := lk_in hi
    simp only [zqu, Prod.mk.injEq] at this
    obtain ⟨rfl, rfl⟩ := this
    refine ⟨by omega, cells_bl fun x hx => ?_, _, List.mem_cons_self⟩
    simp only [cA, cX, zqu] at hx
    rcases hx with rfl | rfl | rfl | rfl | rfl | rfl | rfl | rfl | rfl | rfl | rfl | rfl | rfl | rfl | rfl <;> first | exact .lit
  · obtain rfl : i = 0 := by omega
    exact ⟨_, rfl⟩
  · simp only [zqu, Prod.mk.injEq] at hi
    obtain ⟨rfl, rfl⟩ := hi
    exact ⟨_, rfl⟩
  intro X hX hX0 H hH
  conv in Fin.chk _ _ => cbv
  try simp only [zqs, Plain_rowsC, Plain_rowsY, zqx, AllP, zqw, upd, if_true]
  subst hH
  simp only [stdH, Arm.eta2, Fld.eta, Grp.eta, allGn, bneD, ho, hn, hr]
  repeat' (first | exact trivial | rfl | exact RowsEq.self okRY | exact RowsEq.z0 | omega | refine And.intro ?_ ?_ | (intro h; first | (cases h; done) | (simp at h; done) | skip))
theorem c_ptrA111 (a : Arm) (ho : decide (a.o = 0) = false) (hn : noG a.n = false) (hr : noG a.r = false) : ConN Tryz.prog 41 [.ptr 0 0] [(0, .cells (cA stdH a []) 27)] 1 (.slc 1 0 1 3) [.cells [.ptr 0 6, .ptr 0 10, .ptr 0 14] 69] [(0, .cells (cA stdH a []) 27)] := by
  have hB : Base Tryz.prog (tabΓ []) tabN := base_of tabOkN (ents_nil)
  refine con_m (N := 43) hB (draw_ok hB mixed) Tryz.func41 rfl rfl (fun H => [.ptr 0 0]) (fun H => [(0, .cells (cA H a []) 27)]) 1 (fun H => .slc 1 0 1 3) (fun H => [.cells [.ptr 0 6, .ptr 0 10, .ptr 0 14] 69]) (fun H => [(0, .cells (cA H a []) 27)]) 200 (by simp) (fun x hx => ?_) (fun i b hi => ?_) (fun i hi => ?_) (fun i b hi => ?_) ?_
  · simp only [cA, cX, zqu] at hx
    subst hx
    exact .ptr (by omega)
  · have := lk_in hi
    simp only [zqu, Prod.mk.injEq] at this
    obtain ⟨rfl, rfl⟩ := this
    refine ⟨by omega, cells_bl fun x hx => ?_, _, List.mem_cons_self⟩
    simp only [cA, cX, zqu] at hx
    rcases hx with rfl | rfl | rfl | rfl | rfl | rfl | rfl | rfl | rfl | rfl | rfl | rfl | rfl | rfl | rfl <;> first | exact .lit
  · obtain rfl : i = 0 := by omega
    exact ⟨_, rfl⟩
  · simp only [zqu, Prod.mk.injEq] at hi
    obtain ⟨rfl, rfl⟩ := hi
    exact ⟨_, rfl⟩
  intro X hX hX0 H hH
  conv in Fin.chk _ _ => cbv
  try simp only [zqs, Plain_rowsC, Plain_rowsY, zqx, AllP, zqw, upd, if_true]
  subst hH
  simp only [stdH, Arm.eta2, Fld.eta, Grp.eta, allGn, bneD, ho, hn, hr]
  repeat' (first | exact trivial | rfl | exact RowsEq.self okRY | exact RowsEq.z0 | omega | refine And.intro ?_ ?_ | (intro h; first | (cases h; done) | (simp at h; done) | skip))
theorem c_ptrK000 (k : Skt) (ho : decide (k.arms.o = 0) = true) (hn : noG k.arms.n = true) (hr : noG k.arms.r = true) : ConN Tryz.prog 41 [.ptr 0 0] [(0, .cells (cA stdH k.arms [.vec 2 (stdH Nat fun _ => k.slots.length) (rowsY stdH fun _ => k.slots)]) 30)] 1 (.slc 1 0 1 0) [.rows 1 0 (rowsOf 1 []) 69] [(0, .cells (cA stdH k.arms [.vec 2 (stdH Nat fun _ => k.slots.length) (rowsY stdH fun _ => k.slots)]) 30)] := by
  have hB : Base Tryz.prog (tabΓ []) tabN := base_of tabOkN (ents_nil)
  refine con_m (N := 43) hB (draw_ok hB mixed) Tryz.func41 rfl rfl (fun H => [.ptr 0 0]) (fun H => [(0, .cells (cA H k.arms [.vec 2 (H Nat fun _ => k.slots.length) (rowsY H fun _ => k.slots)]) 30)]) 1 (fun H => .slc 1 0 1 0) (fun H => [.rows 1 0 (rowsOf 1 []) 69]) (fun H => [(0, .cells (cA H k.arms [.vec 2 (H Nat fun _ => k.slots.length) (rowsY H fun _ => k.slots)]) 30)]) 200 (by simp) (fun x hx => ?_) (fun i b hi => ?_) (fun i hi => ?_) (fun i b hi => ?_) ?_
  · simp only [cA, cX, zqu] at hx
    subst hx
    exact .ptr (by omega)
  · have := lk_in hi
    simp only [zqu, Prod.mk.injEq] at this
    obtain ⟨rfl, rfl⟩ := this
    refine ⟨by omega, cells_bl fun x hx => ?_, _, List.mem_cons_self⟩
    simp only [cA, cX, zqu] at hx
    rcases hx with rfl | rfl | rfl | rfl | rfl | rfl | rfl | rfl | rfl | rfl | rfl | rfl | rfl | rfl | rfl | rfl <;> first | exact .lit | exact vl_bl okRY k.slots _
  · obtain rfl : i = 0 := by omega
    exact ⟨_, rfl⟩
  · simp only [zqu, Prod.mk.injEq] at hi
    obtain ⟨rfl, rfl⟩ := hi
    exact ⟨_, rfl⟩
  intro X hX hX0 H hH
  conv in Fin.chk _ _ => cbv
  try simp only [zqs, Plain_rowsC, Plain_rowsY, zqx, AllP, zqw, upd, if_true]
  subst hH
  simp only [stdH, Arm.eta2, Fld.eta, Grp.eta, allGn, bneD, ho, hn, hr]
  repeat' (first | exact trivial | rfl | exact RowsEq.self okRY | exact RowsEq.z0 | omega | refine And.intro ?_ ?_ | (intro h; first | (cases h; done) | (simp at h; done) | skip))
theorem c_ptrK001 (k : Skt) (ho : decide (k.arms.o = 0) = true) (hn : noG k.arms.n = true) (hr : noG k.arms.r = false) : ConN Tryz.prog 41 [.ptr 0 0] [(0, .cells (cA stdH k.arms [.vec 2 (stdH Nat fun _ => k.slots.length) (rowsY stdH fun _ => k.slots)]) 30)] 1 (.slc 1 0 1 1) [.cells [.ptr 0 14] 69] [(0, .cells (cA stdH k.arms [.vec 2 (stdH Nat fun _ => k.slots.length) (rowsY stdH fun _ => k.slots)]) 30)] := by
  have hB : Base Tryz.prog (tabΓ []) tabN := base_of tabOkN (ents_nil)
  refine con_m (N := 43) hB (draw_ok hB mixed) Tryz.func41 rfl rfl (fun H => [.ptr 0 0]) (fun H => [(0, .cells (cA H k.arms [.vec 2 (H Nat fun _ => k.slots.length) (rowsY H fun _ => k.slots)]) 30)]) 1 (fun H => .slc 1 0 1 1) (fun H => [.cells [.ptr 0 14] 69]) (fun H => [(0, .cells (cA H k.arms [.vec 2 (H Nat fun _ => k.slots.length) (rowsY H fun _ => k.slots)]) 30)]) 200 (by simp) (fun x hx => ?_) (fun i b hi => ?_) (fun i hi => ?_) (fun i b hi => ?_) ?_
  · simp only [cA, cX, zqu] at hx
    subst hx
    exact .ptr (by omega)
  · have := lk_in hi
    simp only [zqu, Prod.mk.injEq] at this
    obtain ⟨rfl, rfl⟩ := this
    refine ⟨by omega, cells_bl fun x hx => ?_, _, List.mem_cons_self⟩
    simp only [cA, cX, zqu] at hx
    rcases hx with rfl | rfl | rfl | rfl | rfl | rfl | rfl | rfl | rfl | rfl | rfl | rfl | rfl | rfl | rfl | rfl <;> first | exact .lit | exact vl_bl okRY k.slots _
  · obtain rfl : i = 0 := by omega
    exact ⟨_, rfl⟩
  · simp only [zqu, Prod.mk.injEq] at hi
    obtain ⟨rfl, rfl⟩ := hi
    exact ⟨_, rfl⟩
  intro X hX hX0 H hH
  conv in Fin.chk _ _ => cbv
  try simp only [zqs, Plain_rowsC, Plain_rowsY, zqx, AllP, zqw, upd, if_true]
  subst hH
  simp only [stdH, Arm.eta2, Fld.eta, Grp.eta, allGn, bneD, ho, hn, hr]
  repeat' (first | exact trivial | rfl | exact RowsEq.self okRY | exact RowsEq.z0 | omega | refine And.intro ?_ ?_ | (intro h; first | (cases h; done) | (simp at h; done) | skip))
theorem c_ptrK100 (k : Skt) (ho : decide (k.arms.o = 0) = false) (hn : noG k.arms.n = true) (hr : noG k.arms.r = true) : ConN Tryz.prog 41 [.ptr 0 0] [(0, .cells (cA stdH k.arms [.vec 2 (stdH Nat fun _ => k.slots.length) (rowsY stdH fun _ => k.slots)]) 30)] 1 (.slc 1 0 1 1) [.cells [.ptr 0 6] 69] [(0, .cells (cA stdH k.arms [.vec 2 (stdH Nat fun _ => k.slots.length) (rowsY stdH fun _ => k.slots)]) 30)] := by
  have hB : Base Tryz.prog (tabΓ []) tabN := base_of tabOkN (ents_nil)
  refine con_m (N := 43) hB (draw_ok hB mixed) Tryz.func41 rfl rfl (fun H => [.ptr 0 0]) (fun H => [(0, .cells (cA H k.arms [.vec 2 (H Nat fun _ => k.slots.length) (rowsY H fun _ => k.slots)]) 30)]) 1 (fun H => .slc 1 0 1 1) (fun H => [.cells [.ptr 0 6] 69]) (fun H => [(0, .cells (cA H k.arms [.vec 2 (H Nat fun _ => k.slots.length) (rowsY H fun _ => k.slots)]) 30)]) 200 (by simp) (fun x hx => ?_) (fun i b hi => ?_) (fun i hi => ?_) (fun i b hi => ?_) ?_
  · simp only [cA, cX, zqu] at hx
    subst hx
    exact .ptr (by omega)
  · have := lk_in hi
    simp only [zqu, Prod.mk.injEq] at this
    obtain ⟨rfl, rfl⟩ := this
    refine ⟨by omega, cells_bl fun x hx => ?_, _, List.mem_cons_self⟩
    simp only [cA, cX, zqu] at hx
    rcases hx with rfl | rfl | rfl | rfl | rfl | rfl | rfl | rfl | rfl | rfl | rfl | rfl | rfl | rfl | rfl | rfl <;> first | exact .lit | exact vl_bl okRY k.slots _
  · obtain rfl : i = 0 := by omega
    exact ⟨_, rfl⟩
  · simp only [zqu, Prod.mk.injEq] at hi
    obtain ⟨rfl, rfl⟩ := hi
    exact ⟨_, rfl⟩
  intro X hX hX0 H hH
  conv in Fin.chk _ _ => cbv
  try simp only [zqs, Plain_rowsC, Plain_rowsY, zqx, AllP, zqw, upd, if_true]
  subst hH
  simp only [stdH, Arm.eta2, Fld.eta, Grp.eta, allGn, bneD, ho, hn, hr]
  repeat' (first | exact trivial | rfl | exact RowsEq.self okRY | exact RowsEq.z0 | omega | refine And.intro ?_ ?_ | (intro h; first | (cases h; done) | (simp at h; done) | skip))
theorem c_ptrK101 (k : Skt) (ho : decide (k.arms.o = 0) = false) (hn : noG k.arms.n = true) (hr : noG k.arms.r = false) : ConN Tryz.prog 41 [.ptr 0 0] [(0, .cells (cA stdH k.arms [.vec 2 (stdH Nat fun _ => k.slots.length) (rowsY stdH fun _ => k.slots)]) 30)] 1 (.slc 1 0 1 2) [.cells [.ptr 0 6, .ptr 0 14] 69] [(0, .cells (cA stdH k.arms [.vec 2 (stdH Nat fun _ => k.slots.length) (rowsY stdH fun _ => k.slots)]) 30)] := by
  have hB : Base Tryz.prog (tabΓ []) tabN := base_of tabOkN (ents_nil)
  refine con_m (N := 43) hB (draw_ok hB mixed) Tryz.func41 rfl rfl (fun H => [.ptr 0 0]) (fun H => [(0, .cells (cA H k.arms [.vec 2 (H Nat fun _ => k.slots.length) (rowsY H fun _ => k.slots)]) 30)]) 1 (fun H => .slc 1 0 1 2) (fun H => [.cells [.ptr 0 6, .ptr 0 14] 69]) (fun H => [(0, .cells (cA H k.arms [.vec 2 (H Nat fun _ => k.slots.length) (rowsY H fun _ => k.slots)]) 30)]) 200 (by simp) (fun x hx => ?_) (fun i b hi => ?_) (fun i hi => ?_) (fun i b hi => ?_) ?_
  · simp only [cA, cX, zqu] at hx
    subst hx
    exact .ptr (by omega)
  · have := lk_in hi
    simp only [zqu, Prod.mk.injEq] at this
    obtain ⟨rfl, rfl⟩ := this
    refine ⟨by omega, cells_bl fun x hx => ?_, _, List.mem_cons_self⟩
    simp only [cA, cX, zqu] at hx
    rcases hx with rfl | rfl | rfl | rfl | rfl | rfl | rfl | rfl | rfl | rfl | rfl | rfl | rfl | rfl | rfl | rfl <;> first | exact .lit | exact vl_bl okRY k.slots _
  · obtain rfl : i = 0 := by omega
    exact ⟨_, rfl⟩
  · simp only [zqu, Prod.mk.injEq] at hi
    obtain ⟨rfl, rfl⟩ := hi
    exact ⟨_, rfl⟩
  intro X hX hX0 H hH
  conv in Fin.chk _ _ => cbv
  try simp only [zqs, Plain_rowsC, Plain_rowsY, zqx, AllP, zqw, upd, if_true]
  subst hH
  simp only [stdH, Arm.eta2, Fld.eta, Grp.eta, allGn, bneD, ho, hn, hr]
  repeat' (first | exact trivial | rfl | exact RowsEq.self okRY | exact RowsEq.z0 | omega | refine And.intro ?_ ?_ | (intro h; first | (cases h; done) | (simp at h; done) | skip))
theorem c_ptrK110 (k : Skt) (ho : decide (k.arms.o = 0) = false) (hn : noG k.arms.n = false) (hr : noG k.arms.r = true) : ConN Tryz.prog 41 [.ptr 0 0] [(0, .cells (cA stdH k.arms [.vec 2 (stdH Nat fun _ => k.slots.length) (rowsY stdH fun _ => k.slots)]) 30)] 1 (.slc 1 0 1 2) [.cells [.ptr 0 6, .ptr 0 10] 69] [(0, .cells (cA stdH k.arms [.vec 2 (stdH Nat fun _ => k.slots.length) (rowsY stdH fun _ => k.slots)]) 30)] := by
  have hB : Base Tryz.prog (tabΓ []) tabN := base_of tabOkN (ents_nil)
  refine con_m (N := 43) hB (draw_ok hB mixed) Tryz.func41 rfl rfl (fun H => [.ptr 0 0]) (fun H => [(0, .cells (cA H k.arms [.vec 2 (H Nat fun _ => k.slots.length) (rowsY H fun _ => k.slots)]) 30)]) 1 (fun H => .slc 1 0 1 2) (fun H => [.cells [.ptr 0 6, .ptr 0 10] 69]) (fun H => [(0, .cells (cA H k.arms [.vec 2 (H Nat fun _ => k.slots.length) (rowsY H fun _ => k.slots)]) 30)]) 200 (by simp) (fun x hx => ?_) (fun i b hi => ?_) (fun i hi => ?_) (fun i b hi => ?_) ?_
  · simp only [cA, cX, zqu] at hx
    subst hx
    exact .ptr (by omega)
  · have := lk_in hi
    simp only [zqu, Prod.mk.injEq] at this
    obtain ⟨rfl, rfl⟩ := this
    refine ⟨by omega, cells_bl fun x hx => ?_, _, List.mem_cons_self⟩
    simp only [cA, cX, zqu] at hx
    rcases hx with rfl | rfl | rfl | rfl | rfl | rfl | rfl | rfl | rfl | rfl | rfl | rfl | rfl | rfl | rfl | rfl <;> first | exact .lit | exact vl_bl okRY k.slots _
  · obtain rfl : i = 0 := by omega
    exact ⟨_, rfl⟩
  · simp only [zqu, Prod.mk.injEq] at hi
    obtain ⟨rfl, rfl⟩ := hi
    exact ⟨_, rfl⟩
  intro X hX hX0 H hH
  conv in Fin.chk _ _ => cbv
  try simp only [zqs, Plain_rowsC, Plain_rowsY, zqx, AllP, zqw, upd, if_true]
  subst hH
  simp only [stdH, Arm.eta2, Fld.eta, Grp.eta, allGn, bneD, ho, hn, hr]
  repeat' (first | exact trivial | rfl | exact RowsEq.self okRY | exact RowsEq.z0 | omega | refine And.intro ?_ ?_ | (intro h; first | (cases h; done) | (simp at h; done) | skip))
theorem c_ptrK111 (k : Skt) (ho : decide (k.arms.o = 0) = false) (hn : noG k.arms.n = false) (hr : noG k.arms.r = false) : ConN Tryz.prog 41 [.ptr 0 0] [(0, .cells (cA stdH k.arms [.vec 2 (stdH Nat fun _ => k.slots.length) (rowsY stdH fun _ => k.slots)]) 30)] 1 (.slc 1 0 1 3) [.cells [.ptr 0 6, .ptr 0 10, .ptr 0 14] 69] [(0, .cells (cA stdH k.arms [.vec 2 (stdH Nat fun _ => k.slots.length) (rowsY stdH fun _ => k.slots)]) 30)] := by
  have hB : Base Tryz.prog (tabΓ []) tabN := base_of tabOkN (ents_nil)
  refine con_m (N := 43) hB (draw_ok hB mixed) Tryz.func41 rfl rfl (fun H => [.ptr 0 0]) (fun H => [(0, .cells (cA H k.arms [.vec 2 (H Nat fun _ => k.slots.length) (rowsY H fun _ => k.slots)]) 30)]) 1 (fun H => .slc 1 0 1 3) (fun H => [.cells [.ptr 0 6, .ptr 0 10, .ptr 0 14] 69]) (fun H => [(0, .cells (cA H k.arms [.vec 2 (H Nat fun _ => k.slots.length) (rowsY H fun _ => k.slots)]) 30)]) 200 (by simp) (fun x hx => ?_) (fun i b hi => ?_) (fun i hi => ?_) (fun i b hi => ?_) ?_
  · simp only [cA, cX, zqu] at hx
    subst hx
    exact .ptr (by omega)
  · have := lk_in hi
    simp only [zqu, Prod.mk.injEq] at this
    obtain ⟨rfl, rfl⟩ := this
    refine ⟨by omega, cells_bl fun x hx => ?_, _, List.mem_cons_self⟩
    simp only [cA, cX, zqu] at hx
    rcases hx with rfl | rfl | rfl | rfl | rfl | rfl | rfl | rfl | rfl | rfl | rfl | rfl | rfl | rfl | rfl | rfl <;> first | exact .lit | exact vl_bl okRY k.slots _
  · obtain rfl : i = 0 := by omega
    exact ⟨_, rfl⟩
  · simp only [zqu, Prod.mk.injEq] at hi
    obtain ⟨rfl, rfl⟩ := hi
    exact ⟨_, rfl⟩
  intro X hX hX0 H hH
  conv in Fin.chk _ _ => cbv
  try simp only [zqs, Plain_rowsC, Plain_rowsY, zqx, AllP, zqw, upd, if_true]
  subst hH
  simp only [stdH, Arm.eta2, Fld.eta, Grp.eta, allGn, bneD, ho, hn, hr]
  repeat' (first | exact trivial | rfl | exact RowsEq.self okRY | exact RowsEq.z0 | omega | refine And.intro ?_ ?_ | (intro h; first | (cases h; done) | (simp at h; done) | skip))

end Go.Proofs.YtmkniipdkanbbaaGreatDoor.AM

