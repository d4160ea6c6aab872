/- Lemmas and contracts (Nst); conditions: none. -/
import Derived.Test.YtigkdbhcjjjjkaaK04
import Derived.Test.YtigkdbhcjjjjkaaK12
set_option linter.unusedVariables false
set_option linter.unusedSimpArgs false
set_option linter.unusedVariables false
set_option linter.unusedSimpArgs false
set_option maxRecDepth 100000
set_option maxHeartbeats 4000000
set_option cbv.maxSteps 3000000
namespace Go.Proofs.Ytigkdbhcjjjjkaa.AM
/- Slices of the caller's own in a slice of its own: contracts under other names; conditions: none. -/
/-- A contract under other names, that leaves no new block: the caller's own blocks may name each other. -/
def RvB (π : Nat → Nat) (m : Nat) (b' b : Blk) : Prop := b'.elem = b.elem ∧ ∀ p x', b'.at p = some x' → ∃ x, b.at p = some x ∧ ((x' = x ∧ Bl 0 x) ∨ ∃ i o k l, i < m ∧ x = .slc i o k l ∧ x' = .slc (π i) o k l)
theorem ConN.renS {P : Program} {f : FuncId} {args args' : List AV} {hp hp' u u' : Heap} {r : AV} {m n : Nat} (π : Nat → Nat) (h : ConN P f args hp m r [] u) (hm : ∀ i, i < m → ∃ b, lk i hp = some b) (hl : args.length = args'.length) (ha : ∀ (c : Nat) (x y : AV), args[c]? = some x → args'[c]? = some y → Rn π m x y)
    (hh : ∀ i b, lk i hp = some b → i < m ∧ ∃ b', lk (π i) hp' = some b' ∧ RnB π m b b') (hi : ∀ i j, i < m → j < m → π i = π j → i = j) (hr : Bl 0 r)
    (hu : ∀ i' b', (i', b') ∈ u' → ∃ i b, i < m ∧ π i = i' ∧ (i, b) ∈ u ∧ RvB π m b' b) (hu2 : ∀ i b, (i, b) ∈ u → i < m ∧ (∃ b', (π i, b') ∈ u')) : ConN P f args' hp' n r [] u' := by
  intro C vs hv hb hinj hlt hfresh
  let D : Cx := ⟨fun i => C.β (π i), fun j => j < m, C.ow, C.w⟩
  have hl' : LRel D args vs := by
    refine ⟨hv.1.trans hl.symm, fun c x v hx hvv => ?_⟩
    have hc : c < args'.length := by rw [← hl]; exact (List.getElem?_eq_some_iff.1 hx).1
    exact (ha c x args'[c] hx (List.getElem?_eq_getElem hc)).rel (D := D) (C := C) (fun _ _ => rfl) (fun _ h => h) (fun _ h => h) rfl (hv.2 c _ v (List.getElem?_eq_getElem hc) hvv)
  have hkey : ∀ i, i < m → C.ok (π i) ∧ C.ow (C.β (π i)) := fun i hi => by
    obtain ⟨b, hb1⟩ := hm i hi
    obtain ⟨_, b', hb2, _⟩ := hh i b hb1
    exact (hb _ _ hb2).2
  refine (h D vs hl' (fun j b hj => ?_) (fun j k a1 a2 h1 h2 d1 d2 he => ?_) hlt (fun i h1 h3 => by simp at h3; omega)).mono fun e w' ⟨cv, he, C', h⟩ => ⟨cv, he, ?_⟩
  · obtain ⟨h1, b', h2, h3⟩ := hh j b hj
    exact ⟨(h3.z (Z := False) (n0 := 0) (hp := [])).brel (C := C) (i' := π j) rfl (fun _ _ => rfl) (fun _ h => h) (fun _ h => h) rfl (fun h => h.elim) (hb _ _ h2).1, h1, (hkey j h1).2⟩
  · obtain ⟨p1, b1, p2, ⟨_, p3⟩, _⟩ := hh j a1 h1
    obtain ⟨q1, b2, q2, ⟨_, q3⟩, _⟩ := hh k a2 h2
    exact hi j k p1 q1 (hinj _ _ _ _ p2 q2 (p3 d1) (q3 d2) he)
  have hβm : ∀ i, i < m → C'.β i = C.β (π i) := fun i hi => h.ext.β i hi
  have hww : C'.w = w' := h.w
  let F : Cx := ⟨C.β, C.ok, C.ow, w'⟩
  have how : ∀ k, F.ow k → C'.ow k := fun k hk => (h.ow k).2 (.inl hk)
  have hrel : ∀ {x : AV} {v : Value}, Bl 0 x → Rel C' x v → Rel F x v := fun hx hv => hv.limit hx (fun i hi => by omega) (fun i hi => by omega) how hww.symm
  refine ⟨F, rfl, ⟨?_, ?_, fun _ _ => rfl, fun _ h => h, fun k hk => .inl hk⟩, fun i => by simp only [List.length_nil]; exact ⟨.inl, fun h => h.elim id fun h => by omega⟩, fun k => by simp only [List.length_nil]; exact ⟨.inl, fun h => h.elim id fun ⟨i, h1, h2, _⟩ => by omega⟩, fun i h1 h2 => by simp only [List.length_nil] at h2; omega, fun i j h1 h2 => by simp only [List.length_nil] at h2; omega, fun y hy => ?_, fun i b hib => by simp [named] at hib, fun i b hib => ?_⟩
  · have hw := h.ext.wx
    rw [h.w] at hw
    refine hw.trans (.refl _ (fun _ => False)) (fun k hk => ?_) (fun k _ h => h.elim)
    obtain ⟨j, b2, hj, hk⟩ := hk
    obtain ⟨_, b', hb'⟩ := hu2 j b2 hj
    exact ⟨π j, b', hb', hk⟩
  · rintro k ⟨i', b', hib, rfl⟩
    obtain ⟨i, b, h1, rfl, _⟩ := hu i' b' hib
    exact (hkey i h1).2
  · injection hy with hy
    subst hy
    exact hrel hr (h.val _ rfl)
  · obtain ⟨j, b0, h1, rfl, h2, hE, h3⟩ := hu i b hib
    obtain ⟨c, h5, h6⟩ := h.u _ _ h2
    refine ⟨c, by rw [hE]; show w'.heap[C.β (π j)]? = _; rw [← hβm j h1, ← hww]; exact h5, fun p x' hx' => ?_⟩
    obtain ⟨x, h7, h8⟩ := h3 p x' hx'
    obtain ⟨v, h9, h10, h11⟩ := h6 p x h7
    refine ⟨v, h9, h10, ?_⟩
    rcases h8 with ⟨rfl, hx⟩ | ⟨q, o, k, l, hq, rfl, rfl⟩
    · exact hrel hx h11
    · cases h11 with
      | slc h' hn hm' hc =>
        rw [hβm q hq] at hc ⊢
        exact .slc (hkey q hq).1 hn hm' (by rw [hww] at hc; exact hc)
/-- A further round of a loop by itself. -/
theorem loopK_peel {P : Program} {X : Ctx} {Γ : Cons} {τ : Tab} {rs : List ResultVar} {As : Nat → St → Prop} (hB : Base P Γ τ) (hD : DrawOk P Γ τ) {c : Code} {k : List KI} {ctx : List (List KI)} {s : St} {N : Nat} (hN : X.N = N) {H : Hold} (hH : H = stdH) (n : Nat) {n1 : Nat} {r : AV} {nw : List Blk} {u : Heap}
    (round : ((finish H Γ τ N n rs (k :: ctx) (arun H Γ τ N n [.code c] s)).chk (matchEx H n1 r nw u)).satC P X τ rs (fun x hp => ∃ π, Exp π n1 r nw u x hp) (upd As (ctx.length + 1) (LoopK P X τ rs (fun x hp => ∃ π, Exp π n1 r nw u x hp) As c k ctx))) : LoopK P X τ rs (fun x hp => ∃ π, Exp π n1 r nw u x hp) As c k ctx s := by
  subst hN; subst hH
  intro a w hs
  refine LK.round ?_
  have := arun_ok hB hD n [.code c] s a w (finish_sat hB hD (k :: ctx) (Fin.chk_sat (fun x h e => Exp.of_match e) round)) hs
  refine wp_mono this fun e a w he => ?_
  cases e with
  | normal =>
    obtain ⟨s', h1, h2⟩ := he
    simp only [upd, if_true] at h1
    exact h1 a w h2
  | _ =>
    have he' : contOf P (postS P X τ rs _ (upd As (ctx.length + 1) _) ctx) k _ a w := he
    rw [postS_upd ctx (by omega)] at he'
    exact he'
/-! ### Entries for functions that turn the slices in a slice of the caller's own -/
def gath (h : Heap) (E1 : Nat) : List AV → Option (List (Nat × Nat × Nat × (Nat → List AV)))
  | [] => some []
  | .slc j 0 k p :: r => bif Nat.beq k 1 then (match lk j h with
    | some (.rows k' p' g E) => bif Nat.beq k' 1 && Nat.beq E E1 then (match gath h E1 r with
      | some l => some ((j, p, p', g) :: l)
      | none => none) else none
    | _ => none) else none
  | _ :: _ => none
def eqsP (H : Hold) : List (Nat × Nat × Nat × (Nat → List AV)) → List Prop
  | [] => []
  | (_, p, p', _) :: r => (H Prop fun _ => p' = p) :: eqsP H r
def upds (E1 : Nat) : List (Nat × Nat × Nat × (Nat → List AV)) → List (Nat → List AV) → Heap
  | (j, p, _, _) :: L, g :: gs => (j, .rows 1 p g E1) :: upds E1 L gs
  | _, _ => []
def dstN : List Nat → Bool
  | [] => true
  | x :: r => !(r.any (Nat.beq x)) && dstN r
def slcs (q : Nat) : List (Nat × (Nat → List AV)) → List AV
  | [] => []
  | (p, _) :: r => .slc q 0 1 p :: slcs (q + 1) r
def rws (E1 q : Nat) : List (Nat × (Nat → List AV)) → List (Nat → List AV) → Heap
  | (p, _) :: bs, g :: gs => (q, .rows 1 p g E1) :: rws E1 (q + 1) bs gs
  | _, _ => []
def fst4 (b : Nat × Nat × Nat × (Nat → List AV)) : Nat := b.1
def two4 (b : Nat × Nat × Nat × (Nat → List AV)) : Nat × (Nat → List AV) := (b.2.1, b.2.2.2)
def nstE (f : FuncId) (E0 E1 : Nat) (F : Hold → List (Nat × (Nat → List AV)) → List AV → Option (AV × List (Nat → List AV) × List Prop)) : Entry := ⟨f, fun H a h _ => match a with
  | .slc i 0 k m :: a => (match lk i h with
    | some (.cells l E) => bif Nat.beq k 1 && (Nat.beq E E0 && !isNil l) then (match gath h E1 l with
      | some L => bif dstN (i :: L.map fst4) then (match F H (L.map two4) a with
        | some (r, gs, ob) => bif Nat.beq gs.length L.length then some (r, [], i :: L.map fst4, (i, .cells l E0) :: upds E1 L gs, (H Prop fun _ => m = l.length) :: (eqsP H L ++ ob)) else none
        | none => none) else none
      | none => none) else none
    | _ => none)
  | _ => none⟩
theorem gath_get {h : Heap} {E1 : Nat} : ∀ {l : List AV} {L : List (Nat × Nat × Nat × (Nat → List AV))}, gath h E1 l = some L → L.length = l.length ∧ ∀ (c j p p' : Nat) (g : Nat → List AV), L[c]? = some (j, p, p', g) → l[c]? = some (AV.slc j 0 1 p) ∧ lk j h = some (.rows 1 p' g E1)
  | [], L, e => by simp only [gath, Option.some.injEq] at e; subst e; simp
  | x :: l, L, e => by
    unfold gath at e
    split at e
    · rename_i heq; cases heq
    · rename_i j k p r heq
      obtain ⟨rfl, rfl⟩ := List.cons.inj heq
      cases hk : Nat.beq k 1 with
      | false => rw [hk] at e; cases e
      | true =>
        rw [hk, cond_true] at e
        obtain rfl := Nat.eq_of_beq_eq_true hk
        split at e
        · rename_i k' p' g E hlk
          cases hc : (Nat.beq k' 1 && Nat.beq E E1) with
          | false => rw [hc] at e; cases e
          | true =>
            rw [hc, cond_true] at e
            simp only [Bool.and_eq_true] at hc
            obtain rfl := Nat.eq_of_beq_eq_true hc.1
            obtain rfl := Nat.eq_of_beq_eq_true hc.2
            split at e
            · rename_i L' hL
              injection e with e
              subst e
              obtain ⟨h1, h2⟩ := gath_get hL
              refine ⟨by simp [h1], fun c j' q q' g' hc => ?_⟩
              cases c with
              | zero =>
                simp only [List.getElem?_cons_zero, Option.some.injEq, Prod.mk.injEq] at hc
                obtain ⟨rfl, rfl, rfl, rfl⟩ := hc
                exact ⟨rfl, hlk⟩
              | succ c => exact h2 c _ _ _ _ (by simpa using hc)
            · cases e
        · cases e
    · cases e
theorem slcs_get : ∀ {bs : List (Nat × (Nat → List AV))} {q c : Nat}, (slcs q bs)[c]? = (bs[c]?).map fun b => AV.slc (q + c) 0 1 b.1
  | [], q, c => by simp [slcs]
  | (p, g) :: r, q, 0 => by simp [slcs]
  | (p, g) :: r, q, c + 1 => by
    simp only [slcs, List.getElem?_cons_succ]
    rw [slcs_get, Nat.add_right_comm, Nat.add_assoc]
theorem mem_rws {E1 : Nat} {i : Nat} {b : Blk} : ∀ {bs : List (Nat × (Nat → List AV))} {gs : List (Nat → List AV)} {q : Nat}, (i, b) ∈ rws E1 q bs gs → ∃ (c p : Nat) (g0 g : Nat → List AV), i = q + c ∧ bs[c]? = some (p, g0) ∧ gs[c]? = some g ∧ b = .rows 1 p g E1
  | [], gs, q, h => by simp [rws] at h
  | (p, g0) :: bs, [], q, h => by simp [rws] at h
  | (p, g0) :: bs, g :: gs, q, h => by
    simp only [rws, List.mem_cons, Prod.mk.injEq] at h
    rcases h with ⟨rfl, rfl⟩ | h
    · exact ⟨0, p, g0, g, rfl, rfl, rfl, rfl⟩
    · obtain ⟨c, p', g0', g', h1, h2, h3, h4⟩ := mem_rws h
      exact ⟨c + 1, p', g0', g', by omega, h2, h3, h4⟩
theorem rws_mem {E1 : Nat} : ∀ {bs : List (Nat × (Nat → List AV))} {gs : List (Nat → List AV)} {q c p : Nat} {g0 g : Nat → List AV}, bs[c]? = some (p, g0) → gs[c]? = some g → (q + c, .rows 1 p g E1) ∈ rws E1 q bs gs
  | [], gs, q, c, p, g0, g, h1, h2 => by simp at h1
  | (p', g') :: bs, [], q, c, p, g0, g, h1, h2 => by simp at h2
  | (p', g') :: bs, g1 :: gs, q, 0, p, g0, g, h1, h2 => by
    simp only [List.getElem?_cons_zero, Option.some.injEq, Prod.mk.injEq] at h1 h2
    obtain ⟨rfl, rfl⟩ := h1
    subst h2
    simp [rws]
  | (p', g') :: bs, g1 :: gs, q, c + 1, p, g0, g, h1, h2 => by
    have := rws_mem (q := q + 1) (E1 := E1) (by simpa using h1 : bs[c]? = some (p, g0)) (by simpa using h2 : gs[c]? = some g)
    simp only [rws, List.mem_cons]
    rw [show q + (c + 1) = q + 1 + c by omega]
    exact .inr this
theorem lk_rws {E1 : Nat} : ∀ {bs : List (Nat × (Nat → List AV))} {gs : List (Nat → List AV)} {q i : Nat}, bs.length = gs.length → q ≤ i → i < q + bs.length → ∃ b, lk i (rws E1 q bs gs) = some b
  | [], gs, q, i, _, h1, h2 => by simp at h2; omega
  | (p, g0) :: bs, [], q, i, h, _, _ => by simp at h
  | (p, g0) :: bs, g :: gs, q, i, h, h1, h2 => by
    simp only [rws]
    rw [lk_cons]
    by_cases e : q = i
    · rw [if_pos e]; exact ⟨_, rfl⟩
    · rw [if_neg e]
      exact lk_rws (by simpa using h) (by omega) (by simp only [List.length_cons] at h2; omega)
theorem mem_upds {E1 i : Nat} {b : Blk} : ∀ {L : List (Nat × Nat × Nat × (Nat → List AV))} {gs : List (Nat → List AV)}, (i, b) ∈ upds E1 L gs → ∃ (c p p' : Nat) (g0 g : Nat → List AV), L[c]? = some (i, p, p', g0) ∧ gs[c]? = some g ∧ b = Blk.rows 1 p g E1
  | [], gs, h => by simp [upds] at h
  | (j, p, p', g0) :: L, [], h => by simp [upds] at h
  | (j, p, p', g0) :: L, g :: gs, h => by
    simp only [upds, List.mem_cons, Prod.mk.injEq] at h
    rcases h with ⟨rfl, rfl⟩ | h
    · exact ⟨0, p, p', g0, g, rfl, rfl, rfl⟩
    · obtain ⟨c, q, q', g1, g', h1, h2, h3⟩ := mem_upds h
      exact ⟨c + 1, q, q', g1, g', h1, h2, h3⟩
theorem upds_mem {E1 : Nat} : ∀ {L : List (Nat × Nat × Nat × (Nat → List AV))} {gs : List (Nat → List AV)} {c j p p' : Nat} {g0 g : Nat → List AV}, L[c]? = some (j, p, p', g0) → gs[c]? = some g → (j, .rows 1 p g E1) ∈ upds E1 L gs
  | [], gs, c, j, p, p', g0, g, h1, _ => by simp at h1
  | (a, b, b', d) :: L, [], c, j, p, p', g0, g, _, h2 => by simp at h2
  | (a, b, b', d) :: L, g1 :: gs, 0, j, p, p', g0, g, h1, h2 => by
    simp only [List.getElem?_cons_zero, Option.some.injEq, Prod.mk.injEq] at h1 h2
    obtain ⟨rfl, rfl, rfl, rfl⟩ := h1
    subst h2
    simp [upds]
  | (a, b, b', d) :: L, g1 :: gs, c + 1, j, p, p', g0, g, h1, h2 => by
    simp only [upds, List.mem_cons]
    exact .inr (upds_mem (by simpa using h1) (by simpa using h2))
theorem dstN_ok : ∀ {l : List Nat}, dstN l = true → l.Nodup
  | [], _ => .nil
  | x :: r, h => by
    simp only [dstN, Bool.and_eq_true, Bool.not_eq_true', List.any_eq_false] at h
    exact List.nodup_cons.2 ⟨fun hx => h.1 x hx (Nat.beq_refl x), dstN_ok h.2⟩
theorem eqsP_ok : ∀ {L : List (Nat × Nat × Nat × (Nat → List AV))} {ob : List Prop}, AllP (eqsP stdH L ++ ob) → AllP ob ∧ ∀ (c j p p' : Nat) (g : Nat → List AV), L[c]? = some (j, p, p', g) → p' = p
  | [], ob, h => ⟨h, fun c j p p' g h => by simp at h⟩
  | (a, b, b', d) :: L, ob, h => by
    obtain ⟨h1, h2⟩ := h
    obtain ⟨h3, h4⟩ := eqsP_ok h2
    refine ⟨h3, fun c j p p' g hc => ?_⟩
    cases c with
    | zero =>
      simp only [List.getElem?_cons_zero, Option.some.injEq, Prod.mk.injEq] at hc
      obtain ⟨rfl, rfl, rfl, rfl⟩ := hc
      exact h1
    | succ c => exact h4 c j p p' g (by simpa using hc)
theorem lk_filt {α : Type} {S : List Nat} {k : Nat} : ∀ {h : List (Nat × α)}, lk k (h.filter fun p => S.contains p.1) = if k ∈ S then lk k h else none
  | [] => by simp [lk]
  | (i, b) :: h => by
    rw [List.filter_cons, lk_cons]
    by_cases hi : i ∈ S
    · rw [if_pos (by simpa using hi), lk_cons, lk_filt]
      by_cases e : i = k
      · subst e; rw [if_pos rfl, if_pos rfl, if_pos hi]
      · rw [if_neg e, if_neg e]
    · rw [if_neg (by simpa using hi), lk_filt]
      by_cases e : i = k
      · subst e; rw [if_neg hi, if_neg hi]
      · rw [if_neg e]
theorem nstE_ok {P : Program} {f : FuncId} {E0 E1 : Nat} {F : Hold → List (Nat × (Nat → List AV)) → List AV → Option (AV × List (Nat → List AV) × List Prop)} (hb : isBody P f)
    (h : ∀ bs a r gs ob, F stdH bs a = some (r, gs, ob) → AllP ob → gs.length = bs.length → ∃ g0s : List (Nat → List AV), g0s.length = bs.length ∧ (∀ (c p : Nat) (g g0 : Nat → List AV), bs[c]? = some (p, g) → g0s[c]? = some g0 → ∀ j, j < p → g0 j = g j ∧ ∀ x ∈ g0 j, Bl 0 x) ∧
      ConN P f (.slc 0 0 1 bs.length :: a) ((0, .cells (slcs 1 bs) E0) :: rws E1 1 bs g0s) (bs.length + 1) r [] ((0, .cells (slcs 1 bs) E0) :: rws E1 1 bs gs) ∧ (∀ x ∈ a, Bl 0 x) ∧ Bl 0 r ∧ ∀ (c p : Nat) (g g' : Nat → List AV), bs[c]? = some (p, g) → gs[c]? = some g' → ∀ j, j < p → ∀ x ∈ g' j, Bl 0 x) : EntryOk P (nstE f E0 E1 F) := by
  refine ⟨hb, fun a hp nx r nb rd u ob e hob => ?_⟩
  simp only [nstE] at e
  split at e
  · rename_i a i k m a'
    split at e
    · rename_i l E hlk
      cases hc : (Nat.beq k 1 && (Nat.beq E E0 && !isNil l)) with
      | false => rw [hc] at e; cases e
      | true =>
        rw [hc, cond_true] at e
        simp only [Bool.and_eq_true] at hc
        obtain rfl := Nat.eq_of_beq_eq_true hc.1
        obtain rfl := Nat.eq_of_beq_eq_true hc.2.1
        split at e
        · rename_i L hL
          cases hd : dstN (i :: L.map fst4) with
          | false => rw [hd] at e; cases e
          | true =>
            rw [hd, cond_true] at e
            split at e
            · rename_i r' gs ob' hF
              cases hg : Nat.beq gs.length L.length with
              | false => rw [hg] at e; cases e
              | true =>
                rw [hg, cond_true] at e
                have hg := Nat.eq_of_beq_eq_true hg
                simp only [stdH, Option.some.injEq, Prod.mk.injEq] at e
                obtain ⟨rfl, rfl, rfl, rfl, rfl⟩ := e
                obtain ⟨rfl, hob⟩ := hob
                obtain ⟨hob, hpp⟩ := eqsP_ok hob
                obtain ⟨g1, g2⟩ := gath_get hL
                have hbl : (L.map two4).length = L.length := List.length_map ..
                obtain ⟨g0s, h1, h2, h3, h4, h5, h6⟩ := h _ _ _ _ _ hF hob (by rw [hbl, hg])
                rw [hbl] at h1 h3
                have hnd := dstN_ok hd
                have hbs : ∀ {c p : Nat} {g : Nat → List AV}, (L.map two4)[c]? = some (p, g) → ∃ j p', L[c]? = some (j, p, p', g) := fun {c p g} hh => by
                  rw [List.getElem?_map] at hh
                  cases hLc : L[c]? with
                  | none => rw [hLc] at hh; cases hh
                  | some b =>
                    obtain ⟨j, q, q', g'⟩ := b
                    rw [hLc] at hh
                    simp only [Option.map_some, two4, Option.some.injEq, Prod.mk.injEq] at hh
                    obtain ⟨rfl, rfl⟩ := hh
                    exact ⟨j, q', rfl⟩
                let π : Nat → Nat := fun q => (i :: L.map fst4).getD q 0
                have hπ : ∀ {c j p p' : Nat} {g : Nat → List AV}, L[c]? = some (j, p, p', g) → π (c + 1) = j := fun {c j p p' g} hh => by
                  show (i :: L.map fst4).getD (c + 1) 0 = j
                  rw [List.getD_eq_getElem?_getD, List.getElem?_cons_succ, List.getElem?_map, hh]; rfl
                have hmemL : ∀ {c j p p' : Nat} {g : Nat → List AV}, L[c]? = some (j, p, p', g) → j ∈ L.map fst4 := fun {c j p p' g} hh => List.mem_map.2 ⟨_, List.mem_of_getElem? hh, rfl⟩
                have hdead : (Blk.cells l E).dead = false := by
                  cases l with
                  | nil => simp [isNil] at hc
                  | cons _ _ => rfl
                refine ⟨fun q b hq => ?_, hp.filter (fun p => (i :: L.map fst4).contains p.1), fun q b hq => ?_, ?_⟩
                · simp only [List.mem_cons, Prod.mk.injEq] at hq
                  rcases hq with ⟨rfl, rfl⟩ | hq
                  · exact ⟨by simp, _, hlk, hdead⟩
                  · obtain ⟨c, p, p', g0, g, q1, q2, rfl⟩ := mem_upds hq
                    exact ⟨List.mem_cons_of_mem _ (hmemL q1), _, (g2 c _ _ _ _ q1).2, rfl⟩
                · rw [lk_filt] at hq
                  by_cases hm : q ∈ i :: L.map fst4
                  · rw [if_pos hm] at hq; exact ⟨hm, hq⟩
                  · rw [if_neg hm] at hq; cases hq
                · have hk0 : ∀ {q : Nat} {b : Blk}, q ∈ i :: L.map fst4 → lk q hp = some b → lk q (hp.filter fun p => (i :: L.map fst4).contains p.1) = some b := fun h1 h2 => by rw [lk_filt, if_pos h1]; exact h2
                  refine h3.renS π (fun q hq => ?_) rfl (fun c x z hx hz => ?_) (fun q b hq => ?_) (fun q q' hq hq' he => ?_) h5 (fun q b hq => ?_) (fun q b hq => ?_)
                  · rw [lk_cons]
                    by_cases hq0 : 0 = q
                    · rw [if_pos hq0]; exact ⟨_, rfl⟩
                    · rw [if_neg hq0]
                      exact lk_rws (by rw [hbl, h1]) (by omega) (by rw [hbl]; omega)
                  · cases c with
                    | zero =>
                      simp only [List.getElem?_cons_zero, Option.some.injEq] at hx hz
                      subst hx; subst hz
                      rw [← g1]
                      exact Rn.slc (π := π) (i := 0) (by omega)
                    | succ c =>
                      simp only [List.getElem?_cons_succ] at hx hz
                      rw [hx] at hz; injection hz with hz; subst hz
                      exact .same (q := 0) (by omega) (by omega) (h4 _ (List.mem_of_getElem? hx))
                  · rw [lk_cons] at hq
                    by_cases hq0 : 0 = q
                    · rw [if_pos hq0] at hq
                      injection hq with hq
                      subst hq; subst hq0
                      refine ⟨by omega, _, hk0 List.mem_cons_self hlk, ⟨rfl, fun _ => hdead⟩, fun p x hx => ?_⟩
                      have hx : (slcs 1 (L.map two4))[p]? = some x := hx
                      rw [slcs_get] at hx
                      cases hbp : (L.map two4)[p]? with
                      | none => rw [hbp] at hx; cases hx
                      | some b =>
                        obtain ⟨pp, g⟩ := b
                        rw [hbp] at hx
                        simp only [Option.map_some, Option.some.injEq] at hx
                        subst hx
                        obtain ⟨j, p', hL1⟩ := hbs hbp
                        have hpl : p < L.length := (List.getElem?_eq_some_iff.1 hL1).1
                        refine ⟨.slc j 0 1 pp, (g2 p _ _ _ _ hL1).1, ?_⟩
                        have hj := hπ hL1
                        rw [← hj, Nat.add_comm 1 p]
                        exact Rn.slc (by omega)
                    · rw [if_neg hq0] at hq
                      obtain ⟨c, p, g, g0, rfl, q1, q2, rfl⟩ := mem_rws (lk_in hq)
                      obtain ⟨j, p', hL1⟩ := hbs q1
                      have hpl : c < L.length := (List.getElem?_eq_some_iff.1 hL1).1
                      obtain rfl := hpp c _ _ _ _ hL1
                      refine ⟨by omega, _, by rw [Nat.add_comm 1 c, hπ hL1]; exact hk0 (List.mem_cons_of_mem _ (hmemL hL1)) (g2 c _ _ _ _ hL1).2, rnb_rows rfl (fun j hj => (h2 c _ _ _ q1 q2 j hj).1) (fun j hj => (h2 c _ _ _ q1 q2 j hj).2)⟩
                  · have l1 : q < (i :: L.map fst4).length := by simp only [List.length_cons, List.length_map]; omega
                    have l2 : q' < (i :: L.map fst4).length := by simp only [List.length_cons, List.length_map]; omega
                    have he : (i :: L.map fst4).getD q 0 = (i :: L.map fst4).getD q' 0 := he
                    rw [List.getD_eq_getElem?_getD, List.getD_eq_getElem?_getD, List.getElem?_eq_getElem l1, List.getElem?_eq_getElem l2, Option.getD_some, Option.getD_some] at he
                    exact (List.getElem_inj hnd).1 he
                  · simp only [List.mem_cons, Prod.mk.injEq] at hq
                    rcases hq with ⟨rfl, rfl⟩ | hq
                    · refine ⟨0, _, by omega, rfl, List.mem_cons_self, rfl, fun p x' hx' => ?_⟩
                      have hx' : l[p]? = some x' := hx'
                      have hpl : p < l.length := (List.getElem?_eq_some_iff.1 hx').1
                      obtain ⟨⟨j, pp, p', g⟩, hL1⟩ : ∃ b, L[p]? = some b := ⟨_, List.getElem?_eq_getElem (by omega)⟩
                      have q4 := (g2 p _ _ _ _ hL1).1
                      rw [hx'] at q4
                      injection q4 with q4
                      have q3 : (L.map two4)[p]? = some (pp, g) := by rw [List.getElem?_map, hL1]; rfl
                      refine ⟨.slc (1 + p) 0 1 pp, ?_, .inr ⟨1 + p, 0, 1, pp, by omega, rfl, by rw [Nat.add_comm 1 p, hπ hL1]; exact q4⟩⟩
                      show (slcs 1 (L.map two4))[p]? = _
                      rw [slcs_get, q3]; rfl
                    · obtain ⟨c, p, p', g0, g, q1, q2, rfl⟩ := mem_upds hq
                      have hpl : c < L.length := (List.getElem?_eq_some_iff.1 q1).1
                      have q3 : (L.map two4)[c]? = some (p, g0) := by rw [List.getElem?_map, q1]; rfl
                      refine ⟨1 + c, _, by omega, by rw [Nat.add_comm 1 c]; exact hπ q1, List.mem_cons_of_mem _ (rws_mem q3 q2), rfl, fun y x' hx' => ⟨x', hx', .inl ⟨rfl, ?_⟩⟩⟩
                      have hx := hx'
                      simp only [Blk.at] at hx
                      split at hx
                      · rename_i hlt
                        exact h6 c p g0 g q3 q2 _ hlt _ (List.mem_of_getElem? hx)
                      · cases hx
                  · simp only [List.mem_cons, Prod.mk.injEq] at hq
                    rcases hq with ⟨rfl, rfl⟩ | hq
                    · exact ⟨by omega, _, List.mem_cons_self⟩
                    · obtain ⟨c, p, g, g', rfl, q1, q2, rfl⟩ := mem_rws hq
                      obtain ⟨j, p', hL1⟩ := hbs q1
                      have hpl : c < L.length := (List.getElem?_eq_some_iff.1 hL1).1
                      exact ⟨by omega, _, by rw [Nat.add_comm 1 c, hπ hL1]; exact List.mem_cons_of_mem _ (upds_mem hL1 q2)⟩
            · cases e
        · cases e
    · cases e
  · cases e

end Go.Proofs.Ytigkdbhcjjjjkaa.AM

