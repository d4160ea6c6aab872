/- Lemmas and contracts (Rbt); conditions: none. -/
import Derived.Test.YtpilblmncpeelaaK04
import Derived.Test.YtpilblmncpeelaaK18
set_option linter.unusedVariables false
set_option linter.unusedSimpArgs false
set_option linter.unusedVariables false
set_option linter.unusedSimpArgs false
set_option maxRecDepth 100000
set_option maxHeartbeats 4000000
set_option cbv.maxSteps 3000000
namespace Go.Proofs.Ytpilblmncpeelaa.AM
/- Regions that are drawn: a cell added; conditions: none. -/
/-- A contract under other names, the arguments by what they stand for. -/
theorem ConN.renR {P : Program} {f : FuncId} {args args' : List AV} {hp hp' u u' : Heap} {r r' : AV} {nb nb' : List Blk} {m n : Nat} (π : Nat → Nat) (h : ConN P f args hp m r nb u) (hm : ∀ i, i < m → ∃ b, lk i hp = some b) (hA : ∀ (C : Cx) (vs : List Value), LRel C args' vs → LRel ⟨fun i => C.β (π i), fun j => j < m, C.ow, C.w⟩ args vs)
    (hh : ∀ i b, lk i hp = some b → i < m ∧ ∃ b', lk (π i) hp' = some b' ∧ RnB π m b b') (hi : ∀ i j, i < m → j < m → π i = π j → i = j) (hlen : nb'.length = nb.length) (hr : Re n m nb.length r' r)
    (hnb : ∀ (q : Nat) (b' : Blk), nb'[q]? = some b' → ∃ b, nb[q]? = some b ∧ ReB n m nb.length b' b) (hu : ∀ i' b', (i', b') ∈ u' → ∃ i b, i < m ∧ π i = i' ∧ (i, b) ∈ u ∧ ReB n m nb.length b' b)
    (hu2 : ∀ i b, (i, b) ∈ u → i < m ∧ (∃ b', (π i, b') ∈ u') ∧ (b.dead = true → ∀ b', (π i, b') ∈ u' → b'.dead = true)) : ConN P f args' hp' n r' nb' u' := by
  intro C vs hv hb hinj hlt hfresh
  let D : Cx := ⟨fun i => C.β (π i), fun j => j < m, C.ow, C.w⟩
  have hl' : LRel D args vs := hA C vs hv
  have hkey : ∀ i, i < m → C.ok (π i) ∧ C.ow (C.β (π i)) := fun i hi => by
    obtain ⟨b, hb1⟩ := hm i hi
    obtain ⟨_, b', hb2, _⟩ := hh i b hb1
    exact (hb _ _ hb2).2
  refine (h D vs hl' (fun j b hj => ?_) (fun j k a1 a2 h1 h2 d1 d2 he => ?_) hlt (fun i h1 _ (h2 : i < m) => by omega)).mono fun e w' ⟨cv, he, C', h⟩ => ⟨cv, he, ?_⟩
  · obtain ⟨h1, b', h2, h3⟩ := hh j b hj
    exact ⟨(h3.z (Z := False) (n0 := 0) (hp := [])).brel (C := C) (i' := π j) rfl (fun _ _ => rfl) (fun _ h => h) (fun _ h => h) rfl (fun h => h.elim) (hb _ _ h2).1, h1, (hkey j h1).2⟩
  · obtain ⟨p1, b1, p2, ⟨_, p3⟩, _⟩ := hh j a1 h1
    obtain ⟨q1, b2, q2, ⟨_, q3⟩, _⟩ := hh k a2 h2
    exact hi j k p1 q1 (hinj _ _ _ _ p2 q2 (p3 d1) (q3 d2) he)
  have hβm : ∀ i, i < m → C'.β i = C.β (π i) := fun i hi => h.ext.β i hi
  have hww : C'.w = w' := h.w
  let F : Cx := ⟨fun i => if n ≤ i ∧ i < n + nb.length then C'.β (m + (i - n)) else C.β i, fun i => C.ok i ∨ (n ≤ i ∧ i < n + nb.length), fun k => C.ow k ∨ ∃ i, n ≤ i ∧ i < n + nb.length ∧ C'.β (m + (i - n)) = k, w'⟩
  have hFn : ∀ i, n ≤ i → i < n + nb.length → F.β i = C'.β (m + (i - n)) := fun i h1 h2 => if_pos ⟨h1, h2⟩
  have hFo : ∀ i, C.ok i → F.β i = C.β i := fun i hi => if_neg fun ⟨h1, h2⟩ => hfresh i h1 (by omega) hi
  have hβ : ∀ i, n ≤ i → i < n + nb.length → F.β i = C'.β (m + (i - n)) ∧ F.ok i := fun i h1 h2 => ⟨hFn i h1 h2, .inr ⟨h1, h2⟩⟩
  have how : ∀ k, F.ow k → C'.ow k := by
    rintro k (h0 | ⟨i, h1, h2, e⟩)
    · exact (h.ow k).2 (.inl h0)
    · exact (h.ow k).2 (.inr ⟨m + (i - n), by omega, by omega, e⟩)
  refine ⟨F, rfl, ⟨?_, ?_, hFo, fun _ h => .inl h, ?_⟩, fun i => by rw [hlen], fun k => ?_, fun i h1 h2 => ?_, fun i j h1 h2 h3 h4 e => ?_, fun y hy => ?_, fun i b hib => ?_, fun i b hib => ?_⟩
  · have hw := h.ext.wx
    rw [h.w] at hw
    refine hw.trans (.refl _ (fun _ => False)) (fun k hk => ?_) (fun k _ h => h.elim)
    obtain ⟨j, b2, hj, hk⟩ := hk
    obtain ⟨_, ⟨b', hb'⟩, _⟩ := hu2 j b2 hj
    exact ⟨π j, b', hb', hk⟩
  · rintro k ⟨i', b', hib, rfl⟩
    obtain ⟨i, b, h1, rfl, _⟩ := hu i' b' hib
    exact (hkey i h1).2
  · rintro k (h0 | ⟨i, h1, h2, rfl⟩)
    · exact .inl h0
    · have := h.ext.ow (C'.β (m + (i - n))) ((h.ow _).2 (.inr ⟨m + (i - n), by omega, by omega, rfl⟩))
      exact this
  · rw [hlen]
    show C.ow k ∨ _ ↔ C.ow k ∨ _
    refine or_congr Iff.rfl ⟨?_, ?_⟩
    · rintro ⟨i, h1, h2, e⟩; exact ⟨i, h1, h2, by rw [hFn i h1 h2]; exact e⟩
    · rintro ⟨i, h1, h2, e⟩; exact ⟨i, h1, h2, by rw [← hFn i h1 h2]; exact e⟩
  · rw [hlen] at h2
    rw [hFn i h1 h2]
    rcases h.new (m + (i - n)) (by omega) (by omega) with hge | ⟨j, hj, e, ⟨b, hjb⟩, hd⟩
    · exact .inl hge
    · obtain ⟨_, hex, hdd⟩ := hu2 j b hjb
      exact .inr ⟨π j, (hkey j hj).1, e, hex, hdd (hd b hjb)⟩
  · rw [hlen] at h2 h4
    rw [hFn i h1 h2, hFn j h3 h4] at e
    have := h.inj (m + (i - n)) (m + (j - n)) (by omega) (by omega) (by omega) (by omega) e
    omega
  · injection hy with hy
    subst hy
    exact hr.rel hβ how hww.symm (h.val _ rfl)
  · obtain ⟨h1, h2⟩ := mem_named.1 hib
    have hlt2 : i - n < nb.length := by rw [← hlen]; exact (List.getElem?_eq_some_iff.1 h2).1
    obtain ⟨b0, h3, h4⟩ := hnb _ _ h2
    exact h4.brel (i' := m + (i - n)) (hFn i h1 (by omega)) hβ how hww.symm (h.nb _ _ (mem_named.2 ⟨by omega, by rw [Nat.add_sub_cancel_left]; exact h3⟩))
  · obtain ⟨j, b0, h1, rfl, h2, h3⟩ := hu i b hib
    exact h3.brel (i' := j) (by rw [hFo _ (hkey j h1).1, hβm j h1]) hβ how hww.symm (h.u _ _ h2)
/-- The pattern of the states at a loop, some blocks being named that the loop may change. -/
def mkW (ho : List Nat) (n0 : Nat) (c : Code) (ctx : List (List KI)) (rs : List ResultVar) (s : St) (l : List Atom) : St :=
  match union ho (hot c s) with
  | ho => (match vE s.heap ho (s.env.map (·.1)) (codeW c) s.env ⟨idn n0, n0, l, [], (idn n0).reverse⟩ with
    | (e, S) => (match vH s.heap ho 20 S with
      | S => ⟨e, S.blks, S.nxt⟩))
theorem loop_w {P : Program} {Γ : Cons} {τ : Tab} {X : Ctx} {rs : List ResultVar} {As : Nat → St → Prop} (hB : Base P Γ τ) (hD : DrawOk P Γ τ) {c : Code} {k : List KI} {ctx : List (List KI)} {s : St} {N n0 : Nat} (hN : X.N = N) (h0 : X.n0 = n0) {H : Hold} (hH : H = stdH) (ho keep : List Nat) {ι : Type} (n : Nat) (at' : ι → List Atom) (μ : ι → Nat) (i0 : ι) (hi : AllG (matchSt H n0 (mkW ho n0 c (k :: ctx) rs ⟨flt keep s.env, s.heap, s.next⟩ (at' i0)) s))
    {n1 : Nat} {r : AV} {nw : List Blk} {u : Heap} (round : ∀ (I : ι → St), (∀ i, I i = mkW ho n0 c (k :: ctx) rs ⟨flt keep s.env, s.heap, s.next⟩ (at' i)) → ∀ i, ((finish H Γ τ N n rs (k :: ctx) (arun H Γ τ N n [.code c] (mkW ho n0 c (k :: ctx) rs ⟨flt keep s.env, s.heap, s.next⟩ (at' i)))).chk (matchEx H n1 r nw u)).satC P X τ rs (fun x hp => ∃ π, Exp π n1 r nw u x hp) (upd As (ctx.length + 1) (fun s' => ∃ j, μ j < μ i ∧ AllG (matchSt H n0 (I j) s')))) : (Fin.loop c (k :: ctx) s).satC P X τ rs (fun x hp => ∃ π, Exp π n1 r nw u x hp) As :=
  loop_m hB hD hN h0 hH n (fun i => mkW ho n0 c (k :: ctx) rs ⟨flt keep s.env, s.heap, s.next⟩ (at' i)) μ i0 hi (round _ fun _ => rfl)
/-- A function that turns the slice of its first argument, a structure of a slice of the caller's own. -/
def modR (f : FuncId) (k : Nat) (E : TypeId) (F : Hold → Nat → (Nat → List AV) → List AV → Option (AV × (Nat → List AV) × List Prop)) : Entry := ⟨f, fun H a h _ => match a with
  | .agg [.slc i 0 k' n] :: a => (match lk i h with
    | some (.rows k'' n' g E') => bif Nat.beq k k' && (Nat.beq k k'' && Nat.beq E E') then (match F H n g a with
      | some (r, g', ob) => some (r, [], [i], [(i, .rows k n g' E)], (H Prop fun _ => n' = n) :: ob)
      | none => none) else none
    | _ => none)
  | _ => none⟩
theorem modR_ok {P : Program} {f : FuncId} {k : Nat} {E : TypeId} {F : Hold → Nat → (Nat → List AV) → List AV → Option (AV × (Nat → List AV) × List Prop)} (hb : isBody P f)
    (h : ∀ n g a r g' ob, F stdH n g a = some (r, g', ob) → AllP ob → ∃ g0, (∀ j, j < n → g0 j = g j ∧ ∀ x ∈ g0 j, Bl 0 x) ∧ ConN P f (.agg [.slc 0 0 k n] :: a) [(0, .rows k n g0 E)] 1 r [] [(0, .rows k n g' E)] ∧ (∀ x ∈ a, Bl 0 x) ∧ Bl 0 r ∧ ∀ j, j < n → ∀ x ∈ g' j, Bl 0 x) : EntryOk P (modR f k E F) := by
  refine ⟨hb, fun a hp nx r nb rd u ob e hob => ?_⟩
  simp only [modR] at e
  split at e
  · rename_i i k' n a'
    split at e
    · rename_i k'' n' g E' hlk
      cases hc : (Nat.beq k k' && (Nat.beq k k'' && Nat.beq E E')) with
      | false => rw [hc] at e; simp at e
      | true =>
        rw [hc] at e
        simp only [cond_true] at e
        simp only [Bool.and_eq_true] at hc
        obtain rfl := Nat.eq_of_beq_eq_true hc.1
        obtain rfl := Nat.eq_of_beq_eq_true hc.2.1
        obtain rfl := Nat.eq_of_beq_eq_true hc.2.2
        cases hF : F stdH n g a' with
        | none => simp [hF] at e
        | some y =>
          obtain ⟨r', g', ob'⟩ := y
          simp only [hF, stdH, Option.some.injEq, Prod.mk.injEq] at e
          obtain ⟨rfl, rfl, rfl, rfl, rfl⟩ := e
          obtain ⟨rfl, hob⟩ := hob
          obtain ⟨g0, h0, h1, h2, h3, h4⟩ := h _ _ _ _ _ _ hF hob
          refine ⟨fun q b hq => ?_, [(i, .rows k n' g E)], fun q b hq => ?_, ?_⟩
          · simp at hq; obtain ⟨rfl, rfl⟩ := hq; exact ⟨by simp, _, hlk, rfl⟩
          · rw [lk_cons] at hq
            by_cases hi : i = q
            · rw [if_pos hi] at hq; injection hq with hq; subst hq; subst hi; exact ⟨by simp, hlk⟩
            · rw [if_neg hi] at hq; simp [lk] at hq
          · refine h1.renR (fun _ => i) (fun q hq => ⟨_, by obtain rfl : q = 0 := by omega
                                                            rfl⟩) (fun C vs hv => ⟨hv.1, fun c x v hx hw => ?_⟩) (fun q b hq => ?_) (by omega) rfl (.pl h3) (fun q b hq => by simp at hq) (fun q b hq => ?_) (fun q b hq => ?_)
            · cases c with
              | zero =>
                have hz := hv.2 0 _ v rfl hw
                simp only [List.getElem?_cons_zero, Option.some.injEq] at hx
                subst hx
                cases hz with
                | agg hl1 h5 hr =>
                  refine .agg hl1 h5 fun c x v hx hw => ?_
                  rcases c with _ | c
                  · simp only [List.getElem?_cons_zero, Option.some.injEq] at hx
                    subst hx
                    exact (Rn.slc (π := fun _ => i) (m := 1) (i := 0) (by omega)).rel (C := C) (D := ⟨fun _ => C.β i, fun j => j < 1, C.ow, C.w⟩) (fun _ _ => rfl) (fun _ h => h) (fun _ h => h) rfl (hr 0 _ v rfl hw)
                  · simp at hx
              | succ c =>
                simp only [List.getElem?_cons_succ] at hx
                exact (Rn.same (π := fun _ => i) (m := 1) (q := 0) (by omega) (by omega) (h2 _ (List.mem_of_getElem? hx))).rel (C := C) (D := ⟨fun _ => C.β i, fun j => j < 1, C.ow, C.w⟩) (fun _ _ => rfl) (fun _ h => h) (fun _ h => h) rfl (hv.2 (c + 1) _ v (by simpa using hx) hw)
            · have := lk_in hq
              simp at this
              obtain ⟨rfl, rfl⟩ := this
              exact ⟨by omega, _, by rw [lk_cons, if_pos rfl], rnb_rows rfl (fun j hj => (h0 j hj).1) (fun j hj => (h0 j hj).2)⟩
            · simp at hq
              obtain ⟨rfl, rfl⟩ := hq
              exact ⟨0, _, by omega, rfl, List.mem_cons_self, .same (rowsB_bl h4)⟩
            · simp at hq
              obtain ⟨rfl, rfl⟩ := hq
              exact ⟨by omega, ⟨_, List.mem_cons_self⟩, fun h => by simp [Blk.dead] at h⟩
    · simp at e
  · simp at e
def addR (L : List Int) (x y : Int) : List Int := if shI x y = true then L.set y.toNat (((L.getD y.toNat 0).toNat ||| (1 * 2 ^ x.toNat) : Nat) : Int) else L
theorem addR_len (L : List Int) (x y : Int) : (addR L x y).length = L.length := by
  unfold addR
  split
  · rw [List.length_set]
  · rfl
def okSt (L : List Int) : Prop := L.length = 24 ∧ ∀ j, j < 24 → 0 ≤ L.getD j 0 ∧ L.getD j 0 < 1048576
theorem okSt.rw {L : List Int} (h : okSt L) : okRw L := ⟨h.1, fun j hj => ⟨(h.2 j hj).1, Int.le_of_lt (h.2 j hj).2⟩⟩
theorem k20 : (2 : Nat) ^ 20 = 1048576 := by decide
theorem or20 {n m : Nat} (hn : n < 1048576) (hm : m < 1048576) : n ||| m < 1048576 := by
  rw [← k20] at *
  exact Nat.or_lt_two_pow hn hm
theorem bit20 {x : Nat} (h : x < 20) : 1 * 2 ^ x < 1048576 := by
  rw [← k20, Nat.one_mul]
  exact Nat.pow_lt_pow_right (by decide) h
theorem okSt_add {L : List Int} (x y : Int) (h : okSt L) : okSt (addR L x y) := by
  unfold addR
  split
  · rename_i hs
    obtain ⟨⟨x1, x2⟩, y1, y2⟩ := shI_in hs
    refine ⟨List.length_set.trans h.1, fun j hj => ?_⟩
    rw [getD_setZ]
    split
    · have := h.2 y.toNat (by omega)
      have h3 := or20 (n := (L.getD y.toNat 0).toNat) (m := 1 * 2 ^ x.toNat) (by omega) (bit20 (by omega))
      omega
    · exact h.2 j hj
  · exact h
theorem c_l9Add (L : List Int) (x y : Int) (hL : okSt L) : ConN Try.prog 89 [.agg [.slc 0 0 1 L.length], .lit (.int .i64 x), .lit (.int .i64 y)] [(0, .rows 1 L.length (rowsI stdH fun _ => L) 3)] 1 (.tup []) [] [(0, .rows 1 L.length (rowsI stdH fun _ => addR L x y) 3)] := by
  have hB : Base Try.prog (tabΓ [e_l9In]) tab := base_of tabOk (ents_cons eok_l9In <| ents_nil)
  refine con_m (N := 22) hB (draw_ok hB mixed) Try.func89 rfl rfl (fun H => [.agg [.slc 0 0 1 (H Nat fun _ => L.length)], .lit (.int .i64 (H Int fun _ => x)), .lit (.int .i64 (H Int fun _ => y))]) (fun H => [(0, .rows 1 (H Nat fun _ => L.length) (rowsI H fun _ => L) 3)]) 1 (fun H => .tup []) (fun H => []) (fun H => [(0, .rows 1 (H Nat fun _ => L.length) (rowsI H fun _ => addR L x y) 3)]) 300 (by simp) (fun x hx => ?_) (fun i b hi => ?_) (fun i hi => ?_) (fun i b hi => ?_) ?_
  · simp only [List.mem_cons, List.not_mem_nil, or_false] at hx
    rcases hx with rfl | rfl | rfl
    · exact .agg fun x hx => by
        simp only [List.mem_cons, List.not_mem_nil, or_false] at hx
        rcases hx with rfl
        exact .slc (by omega)
    · exact .lit
    · exact .lit
  · have := lk_in hi
    simp only [List.mem_cons, List.not_mem_nil, or_false, Prod.mk.injEq] at this
    obtain ⟨rfl, rfl⟩ := this
    exact ⟨by omega, bT_bl okI _ (fun _ => L) _, _, List.mem_cons_self⟩
  · obtain rfl : i = 0 := by omega
    exact ⟨_, rfl⟩
  · simp only [List.mem_cons, List.not_mem_nil, or_false, Prod.mk.injEq] at hi
    obtain ⟨rfl, rfl⟩ := hi
    exact ⟨_, rfl⟩
  intro X hX hX0 H hH
  conv in Fin.chk _ _ => cbv
  try simp only [Plain_rowsA, Plain_rowsB, Plain_rowsF, Plain_rowsG, Plain_rowsI, Plain_rowsQ, Plain_rowsS, Plain_rowsU, Fin.satC_ret, Fin.satC_br, Fin.satC_need, Fin.satC_again, AllP, and_true, true_and, upd, List.length_nil, List.length_cons, Nat.zero_add, if_true, ncast, Int.ofNat_eq_natCast]
  have hl := hL.1
  have hin : shI x y = true → (0 ≤ x ∧ x ≤ 19) ∧ 0 ≤ y ∧ y ≤ 23 := shI_in
  subst hH
  simp only [stdH]
  (repeat' (with_reducible first | refine And.intro ?_ ?_ | intro hh))
  all_goals try first | exact trivial | (have := hin hh; omega) | exact rfl
  · have := hin hh
    obtain ⟨m, hm⟩ : ∃ m : Nat, x = m := ⟨x.toNat, by omega⟩
    rw [hm, u64x (by omega)]
    omega
  · obtain ⟨⟨x1, x2⟩, y1, y2⟩ := hin hh
    have hr := hL.2 y.toNat (by omega)
    obtain ⟨n, hn⟩ : ∃ n : Nat, L.getD y.toNat 0 = n := ⟨(L.getD y.toNat 0).toNat, by omega⟩
    obtain ⟨m, hm⟩ : ∃ m : Nat, x = m := ⟨x.toNat, by omega⟩
    have e1 : IntKind.i64.wrap (1 * 2 ^ min (IntKind.u64.wrap x).toNat IntKind.i64.bits) = ((1 * 2 ^ x.toNat : Nat) : Int) := by
      rw [hm, u64x (by omega)]
      exact shlI (n := 1) (by omega) (by decide)
    have e2 : addR L x y = L.set y.toNat (((L.getD y.toNat 0).toNat ||| (1 * 2 ^ x.toNat) : Nat) : Int) := if_pos hh
    have e3 : IntKind.i64.wrap ((BitVec.ofInt IntKind.i64.bits (L.getD y.toNat 0) ||| BitVec.ofInt IntKind.i64.bits (IntKind.i64.wrap (1 * 2 ^ min (IntKind.u64.wrap x).toNat IntKind.i64.bits))).toNat : Nat) = (((L.getD y.toNat 0).toNat ||| (1 * 2 ^ x.toNat) : Nat) : Int) := by
      rw [e1, hn, Int.toNat_natCast]
      have b1 := bit20 (show x.toNat < 20 by omega)
      exact orI (Nat.lt_of_lt_of_le (show n < 1048576 by omega) (by decide)) (Nat.lt_of_lt_of_le b1 (by decide))
    rw [e3, e2]
    have := RowsEq.putD okI (L := L) (j := y.toNat) (x := (((L.getD y.toNat 0).toNat ||| (1 * 2 ^ x.toNat) : Nat) : Int)) rfl
    rw [List.length_set] at this
    exact this
  · rw [show addR L x y = L from if_neg (by rw [hh]; decide)]
    exact RowsEq.self okI
noncomputable def e_l9Add : Entry := modR 89 1 3 fun H n g a => match a with
  | [.lit (.int .i64 x), .lit (.int .i64 y)] => some (.tup [], rowsI H fun _ => addR (Tl rowI n g) x y, [H Prop fun _ => Shp rowI n g, H Prop fun _ => okSt (Tl rowI n g)])
  | _ => none
theorem eok_l9Add : EntryOk Try.prog e_l9Add := modR_ok (by unfold isBody; kernel_rfl) (by
  intro n g a r g' ob e hob
  split at e
  · rename_i x y
    simp only [Option.some.injEq, Prod.mk.injEq] at e
    obtain ⟨rfl, rfl, rfl⟩ := e
    have hs := hob.1
    have hl : (Tl rowI n g).length = n := Tl_len n g
    refine ⟨rowsI stdH fun _ => Tl rowI n g, fun j hj => ⟨?_, ?_⟩, ?_, fun x hx => ?_, .tup fun x hx => ?_, fun j hj => ?_⟩
    · exact tl_eq hs j hj
    · exact rows_blx okI _ j
    · have := c_l9Add (Tl rowI n g) x y hob.2.1
      simp only [stdH, hl] at this ⊢
      exact this
    · simp only [List.mem_cons, List.not_mem_nil, or_false] at hx
      rcases hx with rfl | rfl <;> exact .lit
    · cases hx
    · exact rows_blx okI _ j
  · simp at e)
/-- Rows put together. -/
def cm (how : Int) (n m : Nat) : Nat := bif how == 1 then n ||| m else bif how == 2 then n &&& m else noB n m
def cmR (how : Int) (A B : List Int) (y : Nat) : List Int := (List.range 24).map fun j => if j < y then ((cm how (A.getD j 0).toNat (B.getD j 0).toNat : Nat) : Int) else 0
theorem cmR_len (how : Int) (A B : List Int) (y : Nat) : (cmR how A B y).length = 24 := by unfold cmR; rw [List.length_map, List.length_range]
theorem cmR_get {how : Int} {A B : List Int} {y j : Nat} (h : j < 24) : (cmR how A B y).getD j 0 = if j < y then ((cm how (A.getD j 0).toNat (B.getD j 0).toNat : Nat) : Int) else 0 := by
  unfold cmR
  rw [List.getD_eq_getElem?_getD, List.getElem?_map, List.getElem?_range h]; rfl
theorem cmR_put {how : Int} {A B : List Int} {y : Nat} (h : y < 24) : (cmR how A B y).set y ((cm how (A.getD y 0).toNat (B.getD y 0).toNat : Nat) : Int) = cmR how A B (y + 1) := by
  refine extZ (by rw [List.length_set, cmR_len, cmR_len]) fun j hj => ?_
  rw [List.length_set, cmR_len] at hj
  rw [getD_setZ, cmR_len, cmR_get hj, cmR_get hj]
  by_cases e : y = j
  · subst e
    rw [if_pos ⟨rfl, hj⟩, if_pos (by omega)]
  · rw [if_neg (fun q => e q.1)]
    by_cases h2 : j < y
    · rw [if_pos h2, if_pos (by omega)]
    · rw [if_neg h2, if_neg (by omega)]
theorem cm_lt {how : Int} {n m : Nat} (hn : n < 1048576) (hm : m < 1048576) : cm how n m < 1048576 := by
  unfold cm
  cases how == 1
  · cases how == 2
    · exact Nat.lt_of_le_of_lt (noB_le (Nat.lt_of_lt_of_le hn (by decide))) hn
    · exact Nat.lt_of_le_of_lt Nat.and_le_left hn
  · exact or20 hn hm
theorem okRg_st {L : List Int} (h : okRg L = true) (y : Nat) (hy : y < 24) : 0 ≤ L.getD y 0 ∧ L.getD y 0 < 1048576 := by
  unfold okRg at h
  rw [Bool.and_eq_true] at h
  have := List.all_eq_true.1 h.2 y (List.mem_range.2 hy)
  unfold rO at this
  simp only [Bool.and_eq_true, decide_eq_true_eq] at this
  exact ⟨this.1, this.2.1⟩
theorem cmR_st {how : Int} {A B : List Int} (hA : okRg A = true) (hB : okRg B = true) : okSt (cmR how A B 24) := by
  refine ⟨cmR_len _ _ _ _, fun j hj => ?_⟩
  have a := okRg_st hA j hj
  have b := okRg_st hB j hj
  have := cm_lt (how := how) (n := (A.getD j 0).toNat) (m := (B.getD j 0).toNat) (by omega) (by omega)
  rw [cmR_get hj, if_pos hj]
  omega
theorem genR_ok {g : Nat → Nat → Bool} (h : ∀ y x, g y x = true → shN y x = true) : okRg (genR g) = true := by
  unfold okRg
  rw [Bool.and_eq_true]
  refine ⟨decide_eq_true (by rw [← genAt_all, genAt_len]), List.all_eq_true.2 fun y hy => ?_⟩
  have hy := List.mem_range.1 hy
  have e : (genR g).getD y 0 = ((rwG (g y) 20 : Nat) : Int) := by rw [← genAt_all, genAt_get hy, if_pos hy]
  have h1 := rwG_lt (g := g y) (n := 20)
  rw [k20] at h1
  unfold rO
  rw [e]
  simp only [Bool.and_eq_true, decide_eq_true_eq, List.all_eq_true, List.mem_range, Bool.or_eq_true, Bool.not_eq_true', Int.toNat_natCast]
  refine ⟨by omega, by omega, fun x hx => ?_⟩
  rw [rwG_bit, decide_eq_true hx, Bool.true_and]
  cases hg : g y x
  · exact .inl rfl
  · exact .inr (h y x hg)
theorem gen_rep (g : Nat → Nat → Bool) : RowsEq 1 (genAt g 0 0).length (rowsI stdH fun _ => genAt g 0 0) (List.replicate 24 (0 : Int)).length (rowsI stdH fun _ => List.replicate 24 0) ∧ (List.replicate 24 (0 : Int)).length = (genAt g 0 0).length := by
  rw [genAt_0]
  exact ⟨RowsEq.self okI, rfl⟩
theorem okSt_gen {g : Nat → Nat → Bool} {y x : Nat} (hx : x ≤ 20) : okSt (genAt g y x) := by
  refine ⟨genAt_len g y x, fun j hj => ?_⟩
  rw [genAt_get hj]
  have h1 := rwG_lt (g := g j) (n := 20)
  have h2 := Nat.lt_of_lt_of_le (rwG_lt (g := g j) (n := x)) (p20 hx)
  rw [k20] at h1
  split
  · omega
  · split <;> omega
theorem genR_st (g : Nat → Nat → Bool) : okSt (genR g) := by
  rw [← genAt_all]
  exact okSt_gen (by decide)
theorem addR_gen {g : Nat → Nat → Bool} {y x : Nat} (hy : y < 24) (hx : x < 20) (h : g y x = shN y x) : addR (genAt g y x) (x : Int) (y : Int) = genAt g y (x + 1) := by
  unfold addR
  rw [shI_N y x hy hx, Int.toNat_natCast, Int.toNat_natCast]
  cases hs : shN y x
  · rw [if_neg (by decide), genAt_no (by rw [h, hs])]
  · rw [if_pos rfl, genAt_get hy, if_neg (by omega), if_pos rfl, Int.toNat_natCast]
    exact genAt_yes hy (by rw [h, hs])
theorem Tl_gen {H : Hold} (g : Nat → Nat → Bool) (y x n : Nat) (h : n = 24) : Tl rowI n (rowsI stdH fun _ => genAt g y x) = genAt g y x := by
  subst h
  have := Tl_I (genAt g y x)
  rwa [genAt_len] at this
theorem c_l9Empty   : ConN Try.prog 90 [] [] 0 (.agg [.slc 0 0 1 (stdH Nat fun _ => (List.replicate 24 0).length)]) [.rows 1 (stdH Nat fun _ => (List.replicate 24 0).length) (rowsI stdH fun _ => List.replicate 24 0) 3] [] := by
  have hB : Base Try.prog (tabΓ []) tabO := base_of tabOkO (ents_nil)
  refine con_m (N := 3) hB (draw_ok hB mixed) Try.func90 rfl rfl (fun H => []) (fun _ => []) 0 (fun H => .agg [.slc 0 0 1 (H Nat fun _ => (List.replicate 24 0).length)]) (fun H => [.rows 1 (H Nat fun _ => (List.replicate 24 0).length) (rowsI H fun _ => List.replicate 24 0) 3]) (fun _ => []) 100 (by simp) (fun x hx => ?_) (by simp [lk]) (by omega) (by simp) ?_
  · cases hx
  intro X hX hX0 H hH
  conv in Fin.chk _ _ => cbv
  try simp only [Plain_rowsA, Plain_rowsB, Plain_rowsF, Plain_rowsG, Plain_rowsI, Plain_rowsQ, Plain_rowsS, Plain_rowsU, Fin.satC_ret, Fin.satC_br, Fin.satC_need, Fin.satC_again, AllP, and_true, true_and, upd, List.length_nil, List.length_cons, Nat.zero_add, if_true, ncast, Int.ofNat_eq_natCast]
  subst hH
  simp only [stdH]
  (repeat' (first | exact trivial | rfl | decide | exact RowsEq.self okI | refine And.intro ?_ ?_))
  rw [← genAt_0 fun _ _ => false]
  exact gen_zero _
noncomputable def e_l9Empty : Entry := pureN 90 fun H a => match a with
  | [] => some (fun nx => .agg [.slc nx 0 1 (H Nat fun _ => (List.replicate 24 0).length)], [.rows 1 (H Nat fun _ => (List.replicate 24 0).length) (rowsI H fun _ => List.replicate 24 0) 3], [])
  | _ => none
theorem eok_l9Empty : EntryOk Try.prog e_l9Empty := pureN_ok (by unfold isBody; kernel_rfl) (by
  intro a r nb ob e hob
  split at e
  · simp only [Option.some.injEq, Prod.mk.injEq] at e
    obtain ⟨rfl, rfl, rfl⟩ := e
    refine ⟨ConN.args .nil (c_l9Empty  ), fun x hx => ?_, fun nx => ?_, fun b hb => ?_⟩
    · cases hx
    · (first | exact .slc ⟨by omega, by simp⟩ (by omega) | (refine .tup rfl (fun c x y hx hy => ?_); rcases c with _ | _ | _ | c <;> simp at hx hy <;> (subst hx; subst hy; first | exact .slc ⟨by omega, by simp⟩ (by omega) | exact .pl .lit | exact .pl (blq_ok 4 rfl) | (refine .agg rfl (fun c x y hx hy => ?_); rcases c with _ | _ | _ | c <;> simp at hx hy <;> (subst hx; subst hy; first | exact .slc ⟨by omega, by simp⟩ (by omega) | exact .pl .lit | exact .pl (blq_ok 4 rfl))))) | (refine .agg rfl (fun c x y hx hy => ?_); rcases c with _ | _ | _ | c <;> simp at hx hy <;> (subst hx; subst hy; first | exact .slc ⟨by omega, by simp⟩ (by omega) | exact .pl .lit | exact .pl (blq_ok 4 rfl))))
    · simp only [List.mem_cons, List.not_mem_nil, or_false] at hb; subst hb; exact bT_bl okI _ (fun _ => List.replicate 24 0) _
  · simp at e)
def ordG (o : Int) (y x : Nat) : Bool := ordB o x y && shN y x
def ptG (d p : Int) (y x : Nat) : Bool := (ptI d x y == p) && shN y x
def orlG (o l : Int) (ground : Bool) (y x : Nat) : Bool := shN y x && ((decide (0 < o) && olB o l x y) != ground)
theorem c_OrdS (o : Int) (h0 : inB o 0 7 = true) : ConN Try.prog 87 [.lit (.int .i64 o)] [] 0 (.tup [.agg [.slc 0 0 1 (stdH Nat fun _ => (genR (ordG o)).length)], .lit (.bool (stdH Bool fun _ => true))]) [.rows 1 (stdH Nat fun _ => (genR (ordG o)).length) (rowsI stdH fun _ => genR (ordG o)) 3] [] := by
  have hB : Base Try.prog (tabΓ [e_l1In, e_l9Empty, e_l9Ord, e_l9Add]) tabO := base_of tabOkO (ents_cons eok_l1In <| ents_cons eok_l9Empty <| ents_cons eok_l9Ord <| ents_cons eok_l9Add <| ents_nil)
  refine con_m (N := 29) hB (draw_ok hB mixed) Try.func87 rfl rfl (fun H => [.lit (.int .i64 o)]) (fun _ => []) 0 (fun H => .tup [.agg [.slc 0 0 1 (H Nat fun _ => (genR (ordG o)).length)], .lit (.bool (H Bool fun _ => true))]) (fun H => [.rows 1 (H Nat fun _ => (genR (ordG o)).length) (rowsI H fun _ => genR (ordG o)) 3]) (fun _ => []) 600 (by simp) (fun x hx => ?_) (by simp [lk]) (by omega) (by simp) ?_
  · simp only [List.mem_cons, List.not_mem_nil, or_false] at hx
    rcases hx with rfl
    · exact .lit
  intro X hX hX0 H hH
  conv in Fin.chk _ _ => cbv
  try simp only [Plain_rowsA, Plain_rowsB, Plain_rowsF, Plain_rowsG, Plain_rowsI, Plain_rowsQ, Plain_rowsS, Plain_rowsU, Fin.satC_ret, Fin.satC_br, Fin.satC_need, Fin.satC_again, AllP, and_true, true_and, upd, List.length_nil, List.length_cons, Nat.zero_add, if_true, ncast, Int.ofNat_eq_natCast]
  refine ⟨fun hh => ?_, fun hh => ?_⟩
  · exfalso
    simp only [hH, stdH, h0] at hh
    cases hh
  refine loop_w hB (draw_ok hB mixed) hX hX0 hH [1] [0, 2, 3, 4, 5] (ι := { y : Nat // y ≤ 24 }) 600 (fun y => [.i (H Int fun _ => (y.1 : Nat)), .r (H Nat fun _ => (genAt (ordG o) y.1 0).length) (rowsI H fun _ => genAt (ordG o) y.1 0)]) (fun y => 24 - y.1) (⟨0, by omega⟩) ?_ ?_
  · (conv in matchSt _ _ _ _ => cbv); simp only [AllG, AllP, and_true, hH, stdH, Nat.le_refl, ncast, Int.ofNat_eq_natCast, vrow_I, Arm.eta2, Fld.eta, Grp.eta]
    (repeat' (with_reducible refine And.intro ?_ ?_)) <;> (first | exact True.intro | exact RowsEq.self okI | exact Eq.refl _ | exact gen_zero _ | exact (gen_rep _).1 | exact (gen_rep _).2 | exact genAt_len _ _ _)
  · intro I hI y
    conv in Fin.chk _ _ => cbv
    try simp only [Plain_rowsA, Plain_rowsB, Plain_rowsF, Plain_rowsG, Plain_rowsI, Plain_rowsQ, Plain_rowsS, Plain_rowsU, Fin.satC_ret, Fin.satC_br, Fin.satC_need, Fin.satC_again, AllP, and_true, true_and, upd, List.length_nil, List.length_cons, Nat.zero_add, if_true, ncast, Int.ofNat_eq_natCast]
    obtain ⟨y, hy⟩ := y
    refine ⟨fun k1 => ?_, fun k1 => ?_⟩
    · have k2 := k1
      simp only [hH, stdH, decide_eq_true_eq] at k2
      refine loop_w hB (draw_ok hB mixed) hX hX0 hH [1] [0, 2, 3, 4, 5, 6] (ι := { x : Nat // x ≤ 20 }) 600 (fun x => [.i (H Int fun _ => (x.1 : Nat)), .r (H Nat fun _ => (genAt (ordG o) y x.1).length) (rowsI H fun _ => genAt (ordG o) y x.1)]) (fun x => 20 - x.1) (⟨0, by omega⟩) ?_ ?_
      · (conv in matchSt _ _ _ _ => cbv); simp only [AllG, AllP, and_true, hH, stdH, Nat.le_refl, ncast, Int.ofNat_eq_natCast, vrow_I, Arm.eta2, Fld.eta, Grp.eta]
        (repeat' (with_reducible refine And.intro ?_ ?_)) <;> (first | exact True.intro | exact RowsEq.self okI | exact Eq.refl _)
      · intro J hJ x
        conv in Fin.chk _ _ => cbv
        try simp only [Plain_rowsA, Plain_rowsB, Plain_rowsF, Plain_rowsG, Plain_rowsI, Plain_rowsQ, Plain_rowsS, Plain_rowsU, Fin.satC_ret, Fin.satC_br, Fin.satC_need, Fin.satC_again, AllP, and_true, true_and, upd, List.length_nil, List.length_cons, Nat.zero_add, if_true, ncast, Int.ofNat_eq_natCast]
        obtain ⟨x, hx⟩ := x
        have gl := genAt_len (ordG o) y x
        have gs := okSt_gen (g := ordG o) (y := y) (x := x) (by omega)

        (repeat' (with_reducible first | refine And.intro ?_ ?_ | intro hh))
        all_goals try (rw [hH]; exact trivial)
        all_goals try (clear hJ hI hX hX0 hB J I X; subst hH; simp only [stdH, Tl_I, decide_eq_true_eq] at *; first | exact trivial | exact Shp_I _ _ | exact gs | omega | exact rfl | exact ⟨by omega, rfl⟩ | (rw [u64x (by omega)]; omega))
        · rename_i k3
          simp only [hH, stdH, decide_eq_true_eq] at k3 hh
          have e : addR (genAt (ordG o) y x) (x : Int) (y : Int) = genAt (ordG o) y (x + 1) := addR_gen (by omega) (by omega) (by unfold ordG; rw [hh, Bool.true_and])
          refine ⟨⟨x + 1, by omega⟩, by simp only; omega, ?_⟩
          rw [hJ]
          (conv in matchSt _ _ _ _ => cbv); simp only [AllG, AllP, and_true, hH, stdH, Nat.le_refl, ncast, Int.ofNat_eq_natCast, vrow_I, Arm.eta2, Fld.eta, Grp.eta]
          simp only [Tl_I, Tl_gen, Int.toNat_natCast]
          rw [e, w1 (by omega)]
          (repeat' (with_reducible refine And.intro ?_ ?_)) <;> (first | exact True.intro | exact RowsEq.self okI | exact Eq.refl _ | (rw [genAt_len, genAt_len]))
        · rename_i k3
          simp only [hH, stdH, decide_eq_true_eq] at k3 hh
          have e : genAt (ordG o) y (x + 1) = genAt (ordG o) y x := genAt_no (by unfold ordG; rw [hh]; rfl)
          refine ⟨⟨x + 1, by omega⟩, by simp only; omega, ?_⟩
          rw [hJ]
          (conv in matchSt _ _ _ _ => cbv); simp only [AllG, AllP, and_true, hH, stdH, Nat.le_refl, ncast, Int.ofNat_eq_natCast, vrow_I, Arm.eta2, Fld.eta, Grp.eta]
          rw [e, w1 (by omega)]
          (repeat' (with_reducible refine And.intro ?_ ?_)) <;> (first | exact True.intro | exact RowsEq.self okI | exact Eq.refl _ | (rw [genAt_len, genAt_len]))

        · simp only [hH, stdH, decide_eq_false_iff_not] at hh
          rw [if_neg (by decide)]
          refine ⟨⟨y + 1, by omega⟩, by simp only; omega, ?_⟩
          rw [hI]
          (conv in matchSt _ _ _ _ => cbv); simp only [AllG, AllP, and_true, hH, stdH, Nat.le_refl, ncast, Int.ofNat_eq_natCast, vrow_I, Arm.eta2, Fld.eta, Grp.eta]
          obtain rfl : x = 20 := by omega
          rw [genAt_row, w1 (by omega)]
          (repeat' (with_reducible refine And.intro ?_ ?_)) <;> (first | exact True.intro | exact RowsEq.self okI | exact Eq.refl _ | (rw [genAt_len, genAt_len]))
    · simp only [hH, stdH, decide_eq_false_iff_not] at k1 ⊢
      obtain rfl : y = 24 := by omega
      rw [genAt_all]
      (repeat' (first | exact True.intro | exact RowsEq.self okI | rfl | (rw [← genAt_all, genAt_len]; rfl) | refine And.intro ?_ ?_))
noncomputable def e_OrdS : Entry := pureN 87 fun H a => match a with
  | [.lit (.int .i64 o)] => some (fun nx => .tup [.agg [.slc nx 0 1 (H Nat fun _ => (genR (ordG o)).length)], .lit (.bool (H Bool fun _ => true))], [.rows 1 (H Nat fun _ => (genR (ordG o)).length) (rowsI H fun _ => genR (ordG o)) 3], [H Prop fun _ => inB o 0 7 = true])
  | _ => none
theorem eok_OrdS : EntryOk Try.prog e_OrdS := pureN_ok (by unfold isBody; kernel_rfl) (by
  intro a r nb ob e hob
  split at e
  · rename_i o
    simp only [Option.some.injEq, Prod.mk.injEq] at e
    obtain ⟨rfl, rfl, rfl⟩ := e
    refine ⟨ConN.args (.cons .rfl .nil) (c_OrdS o hob.1), fun x hx => ?_, fun nx => ?_, fun b hb => ?_⟩
    · simp only [List.mem_cons, List.not_mem_nil, or_false] at hx
      rcases hx with rfl
      · exact .lit
    · (first | exact .slc ⟨by omega, by simp⟩ (by omega) | (refine .tup rfl (fun c x y hx hy => ?_); rcases c with _ | _ | _ | c <;> simp at hx hy <;> (subst hx; subst hy; first | exact .slc ⟨by omega, by simp⟩ (by omega) | exact .pl .lit | exact .pl (blq_ok 4 rfl) | (refine .agg rfl (fun c x y hx hy => ?_); rcases c with _ | _ | _ | c <;> simp at hx hy <;> (subst hx; subst hy; first | exact .slc ⟨by omega, by simp⟩ (by omega) | exact .pl .lit | exact .pl (blq_ok 4 rfl))))) | (refine .agg rfl (fun c x y hx hy => ?_); rcases c with _ | _ | _ | c <;> simp at hx hy <;> (subst hx; subst hy; first | exact .slc ⟨by omega, by simp⟩ (by omega) | exact .pl .lit | exact .pl (blq_ok 4 rfl))))
    · simp only [List.mem_cons, List.not_mem_nil, or_false] at hb; subst hb; exact bT_bl okI _ (fun _ => genR (ordG o)) _
  · simp at e)
theorem c_PartS (d : Int) (p : Int) (h0 : (inB d 0 7 = true ∧ inB p 0 1 = true)) : ConN Try.prog 86 [.lit (.int .i64 d), .lit (.int .i64 p)] [] 0 (.tup [.agg [.slc 0 0 1 (stdH Nat fun _ => (genR (ptG d p)).length)], .lit (.bool (stdH Bool fun _ => true))]) [.rows 1 (stdH Nat fun _ => (genR (ptG d p)).length) (rowsI stdH fun _ => genR (ptG d p)) 3] [] := by
  have hB : Base Try.prog (tabΓ [e_l1In, e_l9Empty, e_l9Part, e_l9Add]) tabO := base_of tabOkO (ents_cons eok_l1In <| ents_cons eok_l9Empty <| ents_cons eok_l9Part <| ents_cons eok_l9Add <| ents_nil)
  refine con_m (N := 38) hB (draw_ok hB mixed) Try.func86 rfl rfl (fun H => [.lit (.int .i64 d), .lit (.int .i64 p)]) (fun _ => []) 0 (fun H => .tup [.agg [.slc 0 0 1 (H Nat fun _ => (genR (ptG d p)).length)], .lit (.bool (H Bool fun _ => true))]) (fun H => [.rows 1 (H Nat fun _ => (genR (ptG d p)).length) (rowsI H fun _ => genR (ptG d p)) 3]) (fun _ => []) 600 (by simp) (fun x hx => ?_) (by simp [lk]) (by omega) (by simp) ?_
  · simp only [List.mem_cons, List.not_mem_nil, or_false] at hx
    rcases hx with rfl | rfl
    · exact .lit
    · exact .lit
  intro X hX hX0 H hH
  conv in Fin.chk _ _ => cbv
  try simp only [Plain_rowsA, Plain_rowsB, Plain_rowsF, Plain_rowsG, Plain_rowsI, Plain_rowsQ, Plain_rowsS, Plain_rowsU, Fin.satC_ret, Fin.satC_br, Fin.satC_need, Fin.satC_again, AllP, and_true, true_and, upd, List.length_nil, List.length_cons, Nat.zero_add, if_true, ncast, Int.ofNat_eq_natCast]
  refine ⟨fun hh => ?_, fun hh => ?_⟩
  · exfalso
    simp only [hH, stdH, h0.1, h0.2] at hh
    cases hh
  refine loop_w hB (draw_ok hB mixed) hX hX0 hH [1] [0, 1, 4, 5, 6, 7] (ι := { y : Nat // y ≤ 24 }) 600 (fun y => [.i (H Int fun _ => (y.1 : Nat)), .r (H Nat fun _ => (genAt (ptG d p) y.1 0).length) (rowsI H fun _ => genAt (ptG d p) y.1 0)]) (fun y => 24 - y.1) (⟨0, by omega⟩) ?_ ?_
  · (conv in matchSt _ _ _ _ => cbv); simp only [AllG, AllP, and_true, hH, stdH, Nat.le_refl, ncast, Int.ofNat_eq_natCast, vrow_I, Arm.eta2, Fld.eta, Grp.eta]
    (repeat' (with_reducible refine And.intro ?_ ?_)) <;> (first | exact True.intro | exact RowsEq.self okI | exact Eq.refl _ | exact gen_zero _ | exact (gen_rep _).1 | exact (gen_rep _).2 | exact genAt_len _ _ _)
  · intro I hI y
    conv in Fin.chk _ _ => cbv
    try simp only [Plain_rowsA, Plain_rowsB, Plain_rowsF, Plain_rowsG, Plain_rowsI, Plain_rowsQ, Plain_rowsS, Plain_rowsU, Fin.satC_ret, Fin.satC_br, Fin.satC_need, Fin.satC_again, AllP, and_true, true_and, upd, List.length_nil, List.length_cons, Nat.zero_add, if_true, ncast, Int.ofNat_eq_natCast]
    obtain ⟨y, hy⟩ := y
    refine ⟨fun k1 => ?_, fun k1 => ?_⟩
    · have k2 := k1
      simp only [hH, stdH, decide_eq_true_eq] at k2
      refine loop_w hB (draw_ok hB mixed) hX hX0 hH [1] [0, 1, 4, 5, 6, 7, 8] (ι := { x : Nat // x ≤ 20 }) 600 (fun x => [.i (H Int fun _ => (x.1 : Nat)), .r (H Nat fun _ => (genAt (ptG d p) y x.1).length) (rowsI H fun _ => genAt (ptG d p) y x.1)]) (fun x => 20 - x.1) (⟨0, by omega⟩) ?_ ?_
      · (conv in matchSt _ _ _ _ => cbv); simp only [AllG, AllP, and_true, hH, stdH, Nat.le_refl, ncast, Int.ofNat_eq_natCast, vrow_I, Arm.eta2, Fld.eta, Grp.eta]
        (repeat' (with_reducible refine And.intro ?_ ?_)) <;> (first | exact True.intro | exact RowsEq.self okI | exact Eq.refl _)
      · intro J hJ x
        conv in Fin.chk _ _ => cbv
        try simp only [Plain_rowsA, Plain_rowsB, Plain_rowsF, Plain_rowsG, Plain_rowsI, Plain_rowsQ, Plain_rowsS, Plain_rowsU, Fin.satC_ret, Fin.satC_br, Fin.satC_need, Fin.satC_again, AllP, and_true, true_and, upd, List.length_nil, List.length_cons, Nat.zero_add, if_true, ncast, Int.ofNat_eq_natCast]
        obtain ⟨x, hx⟩ := x
        have gl := genAt_len (ptG d p) y x
        have gs := okSt_gen (g := ptG d p) (y := y) (x := x) (by omega)

        (repeat' (with_reducible first | refine And.intro ?_ ?_ | intro hh))
        all_goals try (rw [hH]; exact trivial)
        all_goals try (clear hJ hI hX hX0 hB J I X; subst hH; simp only [stdH, Tl_I, decide_eq_true_eq] at *; first | exact trivial | exact Shp_I _ _ | exact gs | omega | exact rfl | exact ⟨by omega, rfl⟩ | (rw [u64x (by omega)]; omega))
        · rename_i k3
          simp only [hH, stdH, decide_eq_true_eq] at k3 hh
          have e : addR (genAt (ptG d p) y x) (x : Int) (y : Int) = genAt (ptG d p) y (x + 1) := addR_gen (by omega) (by omega) (by unfold ptG; rw [hh, Bool.true_and])
          refine ⟨⟨x + 1, by omega⟩, by simp only; omega, ?_⟩
          rw [hJ]
          (conv in matchSt _ _ _ _ => cbv); simp only [AllG, AllP, and_true, hH, stdH, Nat.le_refl, ncast, Int.ofNat_eq_natCast, vrow_I, Arm.eta2, Fld.eta, Grp.eta]
          simp only [Tl_I, Tl_gen, Int.toNat_natCast]
          rw [e, w1 (by omega)]
          (repeat' (with_reducible refine And.intro ?_ ?_)) <;> (first | exact True.intro | exact RowsEq.self okI | exact Eq.refl _ | (rw [genAt_len, genAt_len]))
        · rename_i k3
          simp only [hH, stdH, decide_eq_true_eq] at k3 hh
          have e : genAt (ptG d p) y (x + 1) = genAt (ptG d p) y x := genAt_no (by unfold ptG; rw [hh]; rfl)
          refine ⟨⟨x + 1, by omega⟩, by simp only; omega, ?_⟩
          rw [hJ]
          (conv in matchSt _ _ _ _ => cbv); simp only [AllG, AllP, and_true, hH, stdH, Nat.le_refl, ncast, Int.ofNat_eq_natCast, vrow_I, Arm.eta2, Fld.eta, Grp.eta]
          rw [e, w1 (by omega)]
          (repeat' (with_reducible refine And.intro ?_ ?_)) <;> (first | exact True.intro | exact RowsEq.self okI | exact Eq.refl _ | (rw [genAt_len, genAt_len]))

        · simp only [hH, stdH, decide_eq_false_iff_not] at hh
          rw [if_neg (by decide)]
          refine ⟨⟨y + 1, by omega⟩, by simp only; omega, ?_⟩
          rw [hI]
          (conv in matchSt _ _ _ _ => cbv); simp only [AllG, AllP, and_true, hH, stdH, Nat.le_refl, ncast, Int.ofNat_eq_natCast, vrow_I, Arm.eta2, Fld.eta, Grp.eta]
          obtain rfl : x = 20 := by omega
          rw [genAt_row, w1 (by omega)]
          (repeat' (with_reducible refine And.intro ?_ ?_)) <;> (first | exact True.intro | exact RowsEq.self okI | exact Eq.refl _ | (rw [genAt_len, genAt_len]))
    · simp only [hH, stdH, decide_eq_false_iff_not] at k1 ⊢
      obtain rfl : y = 24 := by omega
      rw [genAt_all]
      (repeat' (first | exact True.intro | exact RowsEq.self okI | rfl | (rw [← genAt_all, genAt_len]; rfl) | refine And.intro ?_ ?_))
noncomputable def e_PartS : Entry := pureN 86 fun H a => match a with
  | [.lit (.int .i64 d), .lit (.int .i64 p)] => some (fun nx => .tup [.agg [.slc nx 0 1 (H Nat fun _ => (genR (ptG d p)).length)], .lit (.bool (H Bool fun _ => true))], [.rows 1 (H Nat fun _ => (genR (ptG d p)).length) (rowsI H fun _ => genR (ptG d p)) 3], [H Prop fun _ => (inB d 0 7 = true ∧ inB p 0 1 = true)])
  | _ => none
theorem eok_PartS : EntryOk Try.prog e_PartS := pureN_ok (by unfold isBody; kernel_rfl) (by
  intro a r nb ob e hob
  split at e
  · rename_i d p
    simp only [Option.some.injEq, Prod.mk.injEq] at e
    obtain ⟨rfl, rfl, rfl⟩ := e
    refine ⟨ConN.args (.cons .rfl (.cons .rfl .nil)) (c_PartS d p hob.1), fun x hx => ?_, fun nx => ?_, fun b hb => ?_⟩
    · simp only [List.mem_cons, List.not_mem_nil, or_false] at hx
      rcases hx with rfl | rfl
      · exact .lit
      · exact .lit
    · (first | exact .slc ⟨by omega, by simp⟩ (by omega) | (refine .tup rfl (fun c x y hx hy => ?_); rcases c with _ | _ | _ | c <;> simp at hx hy <;> (subst hx; subst hy; first | exact .slc ⟨by omega, by simp⟩ (by omega) | exact .pl .lit | exact .pl (blq_ok 4 rfl) | (refine .agg rfl (fun c x y hx hy => ?_); rcases c with _ | _ | _ | c <;> simp at hx hy <;> (subst hx; subst hy; first | exact .slc ⟨by omega, by simp⟩ (by omega) | exact .pl .lit | exact .pl (blq_ok 4 rfl))))) | (refine .agg rfl (fun c x y hx hy => ?_); rcases c with _ | _ | _ | c <;> simp at hx hy <;> (subst hx; subst hy; first | exact .slc ⟨by omega, by simp⟩ (by omega) | exact .pl .lit | exact .pl (blq_ok 4 rfl))))
    · simp only [List.mem_cons, List.not_mem_nil, or_false] at hb; subst hb; exact bT_bl okI _ (fun _ => genR (ptG d p)) _
  · simp at e)
theorem c_ShieldS   : ConN Try.prog 91 [] [] 0 (.agg [.slc 0 0 1 (stdH Nat fun _ => (genR shN).length)]) [.rows 1 (stdH Nat fun _ => (genR shN).length) (rowsI stdH fun _ => genR shN) 3] [] := by
  have hB : Base Try.prog (tabΓ [e_l9Empty, e_l9Add]) tabO := base_of tabOkO (ents_cons eok_l9Empty <| ents_cons eok_l9Add <| ents_nil)
  refine con_m (N := 18) hB (draw_ok hB mixed) Try.func91 rfl rfl (fun H => []) (fun _ => []) 0 (fun H => .agg [.slc 0 0 1 (H Nat fun _ => (genR shN).length)]) (fun H => [.rows 1 (H Nat fun _ => (genR shN).length) (rowsI H fun _ => genR shN) 3]) (fun _ => []) 600 (by simp) (fun x hx => ?_) (by simp [lk]) (by omega) (by simp) ?_
  · cases hx
  intro X hX hX0 H hH
  conv in Fin.chk _ _ => cbv
  try simp only [Plain_rowsA, Plain_rowsB, Plain_rowsF, Plain_rowsG, Plain_rowsI, Plain_rowsQ, Plain_rowsS, Plain_rowsU, Fin.satC_ret, Fin.satC_br, Fin.satC_need, Fin.satC_again, AllP, and_true, true_and, upd, List.length_nil, List.length_cons, Nat.zero_add, if_true, ncast, Int.ofNat_eq_natCast]
  refine loop_w hB (draw_ok hB mixed) hX hX0 hH [1] [0, 1, 2] (ι := { y : Nat // y ≤ 24 }) 600 (fun y => [.i (H Int fun _ => (y.1 : Nat)), .r (H Nat fun _ => (genAt (shN) y.1 0).length) (rowsI H fun _ => genAt (shN) y.1 0)]) (fun y => 24 - y.1) (⟨0, by omega⟩) ?_ ?_
  · (conv in matchSt _ _ _ _ => cbv); simp only [AllG, AllP, and_true, hH, stdH, Nat.le_refl, ncast, Int.ofNat_eq_natCast, vrow_I, Arm.eta2, Fld.eta, Grp.eta]
    (repeat' (with_reducible refine And.intro ?_ ?_)) <;> (first | exact True.intro | exact RowsEq.self okI | exact Eq.refl _ | exact gen_zero _ | exact (gen_rep _).1 | exact (gen_rep _).2 | exact genAt_len _ _ _)
  · intro I hI y
    conv in Fin.chk _ _ => cbv
    try simp only [Plain_rowsA, Plain_rowsB, Plain_rowsF, Plain_rowsG, Plain_rowsI, Plain_rowsQ, Plain_rowsS, Plain_rowsU, Fin.satC_ret, Fin.satC_br, Fin.satC_need, Fin.satC_again, AllP, and_true, true_and, upd, List.length_nil, List.length_cons, Nat.zero_add, if_true, ncast, Int.ofNat_eq_natCast]
    obtain ⟨y, hy⟩ := y
    refine ⟨fun k1 => ?_, fun k1 => ?_⟩
    · have k2 := k1
      simp only [hH, stdH, decide_eq_true_eq] at k2
      refine loop_w hB (draw_ok hB mixed) hX hX0 hH [1] [0, 1, 2, 3] (ι := { x : Nat // x ≤ 20 }) 600 (fun x => [.i (H Int fun _ => (x.1 : Nat)), .r (H Nat fun _ => (genAt (shN) y x.1).length) (rowsI H fun _ => genAt (shN) y x.1)]) (fun x => 20 - x.1) (⟨0, by omega⟩) ?_ ?_
      · (conv in matchSt _ _ _ _ => cbv); simp only [AllG, AllP, and_true, hH, stdH, Nat.le_refl, ncast, Int.ofNat_eq_natCast, vrow_I, Arm.eta2, Fld.eta, Grp.eta]
        (repeat' (with_reducible refine And.intro ?_ ?_)) <;> (first | exact True.intro | exact RowsEq.self okI | exact Eq.refl _)
      · intro J hJ x
        conv in Fin.chk _ _ => cbv
        try simp only [Plain_rowsA, Plain_rowsB, Plain_rowsF, Plain_rowsG, Plain_rowsI, Plain_rowsQ, Plain_rowsS, Plain_rowsU, Fin.satC_ret, Fin.satC_br, Fin.satC_need, Fin.satC_again, AllP, and_true, true_and, upd, List.length_nil, List.length_cons, Nat.zero_add, if_true, ncast, Int.ofNat_eq_natCast]
        obtain ⟨x, hx⟩ := x
        have gl := genAt_len (shN) y x
        have gs := okSt_gen (g := shN) (y := y) (x := x) (by omega)

        (repeat' (with_reducible first | refine And.intro ?_ ?_ | intro hh))
        all_goals try (rw [hH]; exact trivial)
        all_goals try (clear hJ hI hX hX0 hB J I X; subst hH; simp only [stdH, Tl_I, decide_eq_true_eq] at *; first | exact trivial | exact Shp_I _ _ | exact gs | omega | exact rfl | exact ⟨by omega, rfl⟩ | (rw [u64x (by omega)]; omega))
        · simp only [hH, stdH, decide_eq_true_eq] at hh
          have e : addR (genAt shN y x) (x : Int) (y : Int) = genAt shN y (x + 1) := addR_gen (by omega) (by omega) rfl
          refine ⟨⟨x + 1, by omega⟩, by simp only; omega, ?_⟩
          rw [hJ]
          (conv in matchSt _ _ _ _ => cbv); simp only [AllG, AllP, and_true, hH, stdH, Nat.le_refl, ncast, Int.ofNat_eq_natCast, vrow_I, Arm.eta2, Fld.eta, Grp.eta]
          simp only [Tl_I, Tl_gen, Int.toNat_natCast]
          rw [e, w1 (by omega)]
          (repeat' (with_reducible refine And.intro ?_ ?_)) <;> (first | exact True.intro | exact RowsEq.self okI | exact Eq.refl _ | (rw [genAt_len, genAt_len]))

        · simp only [hH, stdH, decide_eq_false_iff_not] at hh
          rw [if_neg (by decide)]
          refine ⟨⟨y + 1, by omega⟩, by simp only; omega, ?_⟩
          rw [hI]
          (conv in matchSt _ _ _ _ => cbv); simp only [AllG, AllP, and_true, hH, stdH, Nat.le_refl, ncast, Int.ofNat_eq_natCast, vrow_I, Arm.eta2, Fld.eta, Grp.eta]
          obtain rfl : x = 20 := by omega
          rw [genAt_row, w1 (by omega)]
          (repeat' (with_reducible refine And.intro ?_ ?_)) <;> (first | exact True.intro | exact RowsEq.self okI | exact Eq.refl _ | (rw [genAt_len, genAt_len]))
    · simp only [hH, stdH, decide_eq_false_iff_not] at k1 ⊢
      obtain rfl : y = 24 := by omega
      rw [genAt_all]
      (repeat' (first | exact True.intro | exact RowsEq.self okI | rfl | (rw [← genAt_all, genAt_len]; rfl) | refine And.intro ?_ ?_))
noncomputable def e_ShieldS : Entry := pureN 91 fun H a => match a with
  | [] => some (fun nx => .agg [.slc nx 0 1 (H Nat fun _ => (genR shN).length)], [.rows 1 (H Nat fun _ => (genR shN).length) (rowsI H fun _ => genR shN) 3], [])
  | _ => none
theorem eok_ShieldS : EntryOk Try.prog e_ShieldS := pureN_ok (by unfold isBody; kernel_rfl) (by
  intro a r nb ob e hob
  split at e
  · simp only [Option.some.injEq, Prod.mk.injEq] at e
    obtain ⟨rfl, rfl, rfl⟩ := e
    refine ⟨ConN.args .nil (c_ShieldS  ), fun x hx => ?_, fun nx => ?_, fun b hb => ?_⟩
    · cases hx
    · (first | exact .slc ⟨by omega, by simp⟩ (by omega) | (refine .tup rfl (fun c x y hx hy => ?_); rcases c with _ | _ | _ | c <;> simp at hx hy <;> (subst hx; subst hy; first | exact .slc ⟨by omega, by simp⟩ (by omega) | exact .pl .lit | exact .pl (blq_ok 4 rfl) | (refine .agg rfl (fun c x y hx hy => ?_); rcases c with _ | _ | _ | c <;> simp at hx hy <;> (subst hx; subst hy; first | exact .slc ⟨by omega, by simp⟩ (by omega) | exact .pl .lit | exact .pl (blq_ok 4 rfl))))) | (refine .agg rfl (fun c x y hx hy => ?_); rcases c with _ | _ | _ | c <;> simp at hx hy <;> (subst hx; subst hy; first | exact .slc ⟨by omega, by simp⟩ (by omega) | exact .pl .lit | exact .pl (blq_ok 4 rfl))))
    · simp only [List.mem_cons, List.not_mem_nil, or_false] at hb; subst hb; exact bT_bl okI _ (fun _ => genR shN) _
  · simp at e)
theorem c_RegS (a : Arm) (ground : Bool)  : ConN Try.prog 46 [aT rowA stdH fun _ => a, .lit (.bool ground)] [] 0 (.agg [.slc 0 0 1 (stdH Nat fun _ => (genR (orlG a.o a.l ground)).length)]) [.rows 1 (stdH Nat fun _ => (genR (orlG a.o a.l ground)).length) (rowsI stdH fun _ => genR (orlG a.o a.l ground)) 3] [] := by
  have hB : Base Try.prog (tabΓ [e_l9In, e_l10Ord]) tabO := base_of tabOkO (ents_cons eok_l9In <| ents_cons eok_l10Ord <| ents_nil)
  refine con_m (N := 58) hB (draw_ok hB mixed) Try.func46 rfl rfl (fun H => [aT rowA H fun _ => a, .lit (.bool ground)]) (fun _ => []) 0 (fun H => .agg [.slc 0 0 1 (H Nat fun _ => (genR (orlG a.o a.l ground)).length)]) (fun H => [.rows 1 (H Nat fun _ => (genR (orlG a.o a.l ground)).length) (rowsI H fun _ => genR (orlG a.o a.l ground)) 3]) (fun _ => []) 600 (by simp) (fun x hx => ?_) (by simp [lk]) (by omega) (by simp) ?_
  · simp only [List.mem_cons, List.not_mem_nil, or_false] at hx
    rcases hx with rfl | rfl
    · exact aT_bl okRA _ _
    · exact .lit
  intro X hX hX0 H hH
  conv in Fin.chk _ _ => cbv
  try simp only [Plain_rowsA, Plain_rowsB, Plain_rowsF, Plain_rowsG, Plain_rowsI, Plain_rowsQ, Plain_rowsS, Plain_rowsU, Fin.satC_ret, Fin.satC_br, Fin.satC_need, Fin.satC_again, AllP, and_true, true_and, upd, List.length_nil, List.length_cons, Nat.zero_add, if_true, ncast, Int.ofNat_eq_natCast]
  refine ⟨?_, ?_⟩
  · simp only [hH, stdH]
    (repeat' (first | omega | refine And.intro ?_ ?_))
  refine loop_w hB (draw_ok hB mixed) hX hX0 hH [] [0, 1, 2, 4, 5, 6] (ι := { y : Nat // y ≤ 24 }) 600 (fun y => [.i (H Int fun _ => (y.1 : Nat)), .r (H Nat fun _ => (genAt (orlG a.o a.l ground) y.1 0).length) (rowsI H fun _ => genAt (orlG a.o a.l ground) y.1 0)]) (fun y => 24 - y.1) (⟨0, by omega⟩) ?_ ?_
  · (conv in matchSt _ _ _ _ => cbv); simp only [AllG, AllP, and_true, hH, stdH, Nat.le_refl, ncast, Int.ofNat_eq_natCast, vrow_I, Arm.eta2, Fld.eta, Grp.eta]
    (repeat' (with_reducible refine And.intro ?_ ?_)) <;> (first | exact True.intro | exact RowsEq.self okI | exact Eq.refl _ | exact gen_zero _ | exact (gen_rep _).1 | exact (gen_rep _).2 | exact genAt_len _ _ _)
  · intro I hI y
    conv in Fin.chk _ _ => cbv
    try simp only [Plain_rowsA, Plain_rowsB, Plain_rowsF, Plain_rowsG, Plain_rowsI, Plain_rowsQ, Plain_rowsS, Plain_rowsU, Fin.satC_ret, Fin.satC_br, Fin.satC_need, Fin.satC_again, AllP, and_true, true_and, upd, List.length_nil, List.length_cons, Nat.zero_add, if_true, ncast, Int.ofNat_eq_natCast]
    obtain ⟨y, hy⟩ := y
    refine ⟨fun k1 => ?_, fun k1 => ?_⟩
    · have k2 := k1
      simp only [hH, stdH, decide_eq_true_eq] at k2
      refine loop_w hB (draw_ok hB mixed) hX hX0 hH [] [0, 1, 2, 4, 5, 6, 7] (ι := { x : Nat // x ≤ 20 }) 600 (fun x => [.i (H Int fun _ => (x.1 : Nat)), .r (H Nat fun _ => (genAt (orlG a.o a.l ground) y x.1).length) (rowsI H fun _ => genAt (orlG a.o a.l ground) y x.1)]) (fun x => 20 - x.1) (⟨0, by omega⟩) ?_ ?_
      · (conv in matchSt _ _ _ _ => cbv); simp only [AllG, AllP, and_true, hH, stdH, Nat.le_refl, ncast, Int.ofNat_eq_natCast, vrow_I, Arm.eta2, Fld.eta, Grp.eta]
        (repeat' (with_reducible refine And.intro ?_ ?_)) <;> (first | exact True.intro | exact RowsEq.self okI | exact Eq.refl _)
      · intro J hJ x
        conv in Fin.chk _ _ => cbv
        try simp only [Plain_rowsA, Plain_rowsB, Plain_rowsF, Plain_rowsG, Plain_rowsI, Plain_rowsQ, Plain_rowsS, Plain_rowsU, Fin.satC_ret, Fin.satC_br, Fin.satC_need, Fin.satC_again, AllP, and_true, true_and, upd, List.length_nil, List.length_cons, Nat.zero_add, if_true, ncast, Int.ofNat_eq_natCast]
        obtain ⟨x, hx⟩ := x
        have gl := genAt_len (orlG a.o a.l ground) y x
        have gs := okSt_gen (g := orlG a.o a.l ground) (y := y) (x := x) (by omega)
        skip
        (repeat' (with_reducible first | refine And.intro ?_ ?_ | intro hh))
        all_goals try (rw [hH]; exact trivial)
        all_goals try (clear hJ hI hX hX0 hB J I X; subst hH; simp only [stdH, Tl_I, decide_eq_true_eq] at *; first | exact trivial | exact Shp_I _ _ | exact gs | omega | exact rfl | exact ⟨by omega, rfl⟩ | (rw [u64x (by omega)]; omega))
        · rename_i k3
          have es := shI_N y x (by omega) (by have := k3; simp only [hH, stdH, decide_eq_true_eq] at this; omega)
          simp only [hH, stdH, decide_eq_true_eq, es] at k3 hh
          have e : orlG a.o a.l ground y x = true := by
            unfold orlG
            revert hh
            cases shN y x <;> cases decide (0 < a.o) <;> simp
          refine ⟨⟨x + 1, by omega⟩, by simp only; omega, ?_⟩
          rw [hJ]
          (conv in matchSt _ _ _ _ => cbv); simp only [AllG, AllP, and_true, hH, stdH, Nat.le_refl, ncast, Int.ofNat_eq_natCast, vrow_I, Arm.eta2, Fld.eta, Grp.eta]
          have q := gen_or (y := y) (x := x) (by omega) (by omega) e
          rw [w1 (by omega), Int.toNat_natCast, u64x (by omega), Int.toNat_natCast]
          (repeat' (with_reducible refine And.intro ?_ ?_)) <;> (first | exact True.intro | exact q | exact Eq.refl _ | (rw [genAt_len, genAt_len]))
        · rename_i k3
          have es := shI_N y x (by omega) (by have := k3; simp only [hH, stdH, decide_eq_true_eq] at this; omega)
          simp only [hH, stdH, decide_eq_true_eq, es] at k3 hh
          have e : genAt (orlG a.o a.l ground) y (x + 1) = genAt (orlG a.o a.l ground) y x := genAt_no (by
            unfold orlG
            revert hh
            cases shN y x <;> cases decide (0 < a.o) <;> simp)
          refine ⟨⟨x + 1, by omega⟩, by simp only; omega, ?_⟩
          rw [hJ]
          (conv in matchSt _ _ _ _ => cbv); simp only [AllG, AllP, and_true, hH, stdH, Nat.le_refl, ncast, Int.ofNat_eq_natCast, vrow_I, Arm.eta2, Fld.eta, Grp.eta]
          rw [e, w1 (by omega)]
          (repeat' (with_reducible refine And.intro ?_ ?_)) <;> (first | exact True.intro | exact RowsEq.self okI | exact Eq.refl _ | (rw [genAt_len, genAt_len]))

        · simp only [hH, stdH, decide_eq_false_iff_not] at hh
          rw [if_neg (by decide)]
          refine ⟨⟨y + 1, by omega⟩, by simp only; omega, ?_⟩
          rw [hI]
          (conv in matchSt _ _ _ _ => cbv); simp only [AllG, AllP, and_true, hH, stdH, Nat.le_refl, ncast, Int.ofNat_eq_natCast, vrow_I, Arm.eta2, Fld.eta, Grp.eta]
          obtain rfl : x = 20 := by omega
          rw [genAt_row, w1 (by omega)]
          (repeat' (with_reducible refine And.intro ?_ ?_)) <;> (first | exact True.intro | exact RowsEq.self okI | exact Eq.refl _ | (rw [genAt_len, genAt_len]))
    · simp only [hH, stdH, decide_eq_false_iff_not] at k1 ⊢
      obtain rfl : y = 24 := by omega
      rw [genAt_all]
      (repeat' (first | exact True.intro | exact RowsEq.self okI | rfl | (rw [← genAt_all, genAt_len]; rfl) | refine And.intro ?_ ?_))
noncomputable def e_RegS : Entry := pureN 46 fun H a => match a with
  | [.agg [.lit (.int .i64 a0), .lit (.int .i64 a1), .lit (.int .i64 a2), .lit (.int .i64 a3), .lit (.int .i64 a4), .lit (.int .i64 a5), .lit (.int .i64 a6), .lit (.int .i64 a7), .lit (.int .i64 a8), .lit (.int .i64 a9), .lit (.int .i64 a10), .lit (.int .i64 a11), .lit (.int .i64 a12), .lit (.int .i64 a13), .lit (.int .i64 a14)], .lit (.bool ground)] => some (fun nx => .agg [.slc nx 0 1 (H Nat fun _ => (genR (orlG (⟨⟨a0, a1, a2, a3⟩, a4, a5, a6, ⟨a7, a8, a9, a10⟩, ⟨a11, a12, a13, a14⟩⟩ : Arm).o (⟨⟨a0, a1, a2, a3⟩, a4, a5, a6, ⟨a7, a8, a9, a10⟩, ⟨a11, a12, a13, a14⟩⟩ : Arm).l ground)).length)], [.rows 1 (H Nat fun _ => (genR (orlG (⟨⟨a0, a1, a2, a3⟩, a4, a5, a6, ⟨a7, a8, a9, a10⟩, ⟨a11, a12, a13, a14⟩⟩ : Arm).o (⟨⟨a0, a1, a2, a3⟩, a4, a5, a6, ⟨a7, a8, a9, a10⟩, ⟨a11, a12, a13, a14⟩⟩ : Arm).l ground)).length) (rowsI H fun _ => genR (orlG (⟨⟨a0, a1, a2, a3⟩, a4, a5, a6, ⟨a7, a8, a9, a10⟩, ⟨a11, a12, a13, a14⟩⟩ : Arm).o (⟨⟨a0, a1, a2, a3⟩, a4, a5, a6, ⟨a7, a8, a9, a10⟩, ⟨a11, a12, a13, a14⟩⟩ : Arm).l ground)) 3], [])
  | _ => none
theorem eok_RegS : EntryOk Try.prog e_RegS := pureN_ok (by unfold isBody; kernel_rfl) (by
  intro a r nb ob e hob
  split at e
  · rename_i a0 a1 a2 a3 a4 a5 a6 a7 a8 a9 a10 a11 a12 a13 a14 ground
    simp only [Option.some.injEq, Prod.mk.injEq] at e
    obtain ⟨rfl, rfl, rfl⟩ := e
    refine ⟨ConN.args (.cons .rfl (.cons .rfl .nil)) (c_RegS (⟨⟨a0, a1, a2, a3⟩, a4, a5, a6, ⟨a7, a8, a9, a10⟩, ⟨a11, a12, a13, a14⟩⟩ : Arm) ground ), fun x hx => ?_, fun nx => ?_, fun b hb => ?_⟩
    · simp only [List.mem_cons, List.not_mem_nil, or_false] at hx
      rcases hx with rfl | rfl
      · exact blq_ok 4 rfl
      · exact .lit
    · (first | exact .slc ⟨by omega, by simp⟩ (by omega) | (refine .tup rfl (fun c x y hx hy => ?_); rcases c with _ | _ | _ | c <;> simp at hx hy <;> (subst hx; subst hy; first | exact .slc ⟨by omega, by simp⟩ (by omega) | exact .pl .lit | exact .pl (blq_ok 4 rfl) | (refine .agg rfl (fun c x y hx hy => ?_); rcases c with _ | _ | _ | c <;> simp at hx hy <;> (subst hx; subst hy; first | exact .slc ⟨by omega, by simp⟩ (by omega) | exact .pl .lit | exact .pl (blq_ok 4 rfl))))) | (refine .agg rfl (fun c x y hx hy => ?_); rcases c with _ | _ | _ | c <;> simp at hx hy <;> (subst hx; subst hy; first | exact .slc ⟨by omega, by simp⟩ (by omega) | exact .pl .lit | exact .pl (blq_ok 4 rfl))))
    · simp only [List.mem_cons, List.not_mem_nil, or_false] at hb; subst hb; exact bT_bl okI _ (fun _ => genR (orlG (⟨⟨a0, a1, a2, a3⟩, a4, a5, a6, ⟨a7, a8, a9, a10⟩, ⟨a11, a12, a13, a14⟩⟩ : Arm).o (⟨⟨a0, a1, a2, a3⟩, a4, a5, a6, ⟨a7, a8, a9, a10⟩, ⟨a11, a12, a13, a14⟩⟩ : Arm).l ground)) _
  · simp at e)
theorem c_CombS (a : Rgn) (b : Rgn) (how : Int) (h0 : okRg a.rows = true) (h1 : okRg b.rows = true) (h2 : inB how 1 3 = true) : ConN Try.prog 88 [aT rowZ stdH fun _ => a, aT rowZ stdH fun _ => b, .lit (.int .i64 how)] [] 0 (.tup [.agg [.slc 0 0 1 (stdH Nat fun _ => (cmR how a.rows b.rows 24).length)], .lit (.bool (stdH Bool fun _ => true))]) [.rows 1 (stdH Nat fun _ => (cmR how a.rows b.rows 24).length) (rowsI stdH fun _ => cmR how a.rows b.rows 24) 3] [] := by
  have hB : Base Try.prog (tabΓ [e_l1In, e_l9Empty, e_l9Good]) tabO := base_of tabOkO (ents_cons eok_l1In <| ents_cons eok_l9Empty <| ents_cons eok_l9Good <| ents_nil)
  refine con_m (N := 80) hB (draw_ok hB mixed) Try.func88 rfl rfl (fun H => [aT rowZ H fun _ => a, aT rowZ H fun _ => b, .lit (.int .i64 how)]) (fun _ => []) 0 (fun H => .tup [.agg [.slc 0 0 1 (H Nat fun _ => (cmR how a.rows b.rows 24).length)], .lit (.bool (H Bool fun _ => true))]) (fun H => [.rows 1 (H Nat fun _ => (cmR how a.rows b.rows 24).length) (rowsI H fun _ => cmR how a.rows b.rows 24) 3]) (fun _ => []) 600 (by simp) (fun x hx => ?_) (by simp [lk]) (by omega) (by simp) ?_
  · simp only [List.mem_cons, List.not_mem_nil, or_false] at hx
    rcases hx with rfl | rfl | rfl
    · exact aT_bl okRZ _ _
    · exact aT_bl okRZ _ _
    · exact .lit
  intro X hX hX0 H hH
  conv in Fin.chk _ _ => cbv
  try simp only [Plain_rowsA, Plain_rowsB, Plain_rowsF, Plain_rowsG, Plain_rowsI, Plain_rowsQ, Plain_rowsS, Plain_rowsU, Fin.satC_ret, Fin.satC_br, Fin.satC_need, Fin.satC_again, AllP, and_true, true_and, upd, List.length_nil, List.length_cons, Nat.zero_add, if_true, ncast, Int.ofNat_eq_natCast]
  refine ⟨?_, ?_⟩
  · try simp only [hH, stdH, Nat.le_refl, decide_eq_true_eq, decide_eq_false_iff_not, Bool.not_eq_true', Bool.not_eq_false', peta, ncast, Int.ofNat_eq_natCast, beq_iff_eq, bne_iff_ne, beq_eq_false_iff_ne, bne_eq_false_iff_eq, ne_eq, Classical.not_not, Int.toNat_natCast, vrow_I, Arm.eta2, Fld.eta, Grp.eta]
    exact Shp_I _ _
  refine ⟨?_, ?_⟩
  · rw [hH]
    exact fun _ => Shp_I _ _
  simp only [TlI_HR hH, h0, h1, h2]
  refine ⟨fun hh => ?_, fun hh => ?_⟩
  · exfalso
    simp only [hH, stdH] at hh
    cases hh
  refine loop_c hB (draw_ok hB mixed) hX hX0 hH [0, 1, 2, 3, 4, 6, 7, 8, 9] (ι := { y : Nat // y ≤ 24 }) 600 (fun y => [.i (H Int fun _ => (y.1 : Nat)), .r (H Nat fun _ => (cmR how a.rows b.rows y.1).length) (rowsI H fun _ => cmR how a.rows b.rows y.1)]) (fun y => 24 - y.1) (⟨0, by omega⟩) ?_ ?_
  · (conv in matchSt _ _ _ _ => cbv); simp only [AllG, AllP, and_true, hH, stdH, Nat.le_refl, ncast, Int.ofNat_eq_natCast, vrow_I, Arm.eta2, Fld.eta, Grp.eta]
    (repeat' (with_reducible refine And.intro ?_ ?_)) <;> (first | exact True.intro | exact RowsEq.self okI | exact Eq.refl _ | skip)
  · intro I hI y
    conv in Fin.chk _ _ => cbv
    try simp only [Plain_rowsA, Plain_rowsB, Plain_rowsF, Plain_rowsG, Plain_rowsI, Plain_rowsQ, Plain_rowsS, Plain_rowsU, Fin.satC_ret, Fin.satC_br, Fin.satC_need, Fin.satC_again, AllP, and_true, true_and, upd, List.length_nil, List.length_cons, Nat.zero_add, if_true, ncast, Int.ofNat_eq_natCast]
    obtain ⟨y, hy⟩ := y
    have la := (okRg_rw h0).1
    have lb := (okRg_rw h1).1
    have lc := cmR_len how a.rows b.rows y
    (repeat' (with_reducible first | refine And.intro ?_ ?_ | intro hh))
    all_goals try (clear hI hX hX0 hB I X; subst hH; simp only [stdH, decide_eq_true_eq] at *; first | exact trivial | omega | exact ⟨by omega, rfl⟩ | (refine ⟨?_, ?_⟩ <;> omega))
    · rename_i k1
      simp only [hH, stdH, decide_eq_true_eq] at k1 hh
      refine ⟨⟨y + 1, by omega⟩, by simp only; omega, ?_⟩
      rw [hI]
      (conv in matchSt _ _ _ _ => cbv); simp only [AllG, AllP, and_true, hH, stdH, Nat.le_refl, ncast, Int.ofNat_eq_natCast, vrow_I, Arm.eta2, Fld.eta, Grp.eta]
      have rA := okRg_st h0 y (by omega)
      have rB := okRg_st h1 y (by omega)
      have q := RowsEq.putD okI (cmR_put (how := how) (A := a.rows) (B := b.rows) (y := y) (by omega))
      have ec : cm how (a.rows.getD y 0).toNat (b.rows.getD y 0).toNat = (a.rows.getD y 0).toNat ||| (b.rows.getD y 0).toNat := by unfold cm; simp only [hh, cond_true, cond_false]
      have ev : IntKind.i64.wrap ((BitVec.ofInt IntKind.i64.bits (a.rows.getD y 0) ||| BitVec.ofInt IntKind.i64.bits (b.rows.getD y 0)).toNat : Nat) = ((cm how (a.rows.getD y 0).toNat (b.rows.getD y 0).toNat : Nat) : Int) := by
        rw [ec]
        obtain ⟨n, hn⟩ : ∃ n : Nat, a.rows.getD y 0 = n := ⟨(a.rows.getD y 0).toNat, by omega⟩
        obtain ⟨m, hm⟩ : ∃ m : Nat, b.rows.getD y 0 = m := ⟨(b.rows.getD y 0).toNat, by omega⟩
        rw [hn, hm, Int.toNat_natCast, Int.toNat_natCast]
        exact orI (Nat.lt_of_lt_of_le (show n < 1048576 by omega) (by decide)) (Nat.lt_of_lt_of_le (show m < 1048576 by omega) (by decide))
      rw [w1 (by omega), Int.toNat_natCast, ev]
      (repeat' (with_reducible refine And.intro ?_ ?_)) <;> (first | exact True.intro | exact q | exact RowsEq.self okI | exact Eq.refl _ | (rw [cmR_len, cmR_len]))
    · rename_i k1 k2
      simp only [hH, stdH, decide_eq_true_eq] at k1 k2 hh
      refine ⟨⟨y + 1, by omega⟩, by simp only; omega, ?_⟩
      rw [hI]
      (conv in matchSt _ _ _ _ => cbv); simp only [AllG, AllP, and_true, hH, stdH, Nat.le_refl, ncast, Int.ofNat_eq_natCast, vrow_I, Arm.eta2, Fld.eta, Grp.eta]
      have rA := okRg_st h0 y (by omega)
      have rB := okRg_st h1 y (by omega)
      have q := RowsEq.putD okI (cmR_put (how := how) (A := a.rows) (B := b.rows) (y := y) (by omega))
      have ec : cm how (a.rows.getD y 0).toNat (b.rows.getD y 0).toNat = (a.rows.getD y 0).toNat &&& (b.rows.getD y 0).toNat := by unfold cm; simp only [k2, hh, cond_true, cond_false]
      have ev : IntKind.i64.wrap ((BitVec.ofInt IntKind.i64.bits (a.rows.getD y 0) &&& BitVec.ofInt IntKind.i64.bits (b.rows.getD y 0)).toNat : Nat) = ((cm how (a.rows.getD y 0).toNat (b.rows.getD y 0).toNat : Nat) : Int) := by
        rw [ec]
        obtain ⟨n, hn⟩ : ∃ n : Nat, a.rows.getD y 0 = n := ⟨(a.rows.getD y 0).toNat, by omega⟩
        obtain ⟨m, hm⟩ : ∃ m : Nat, b.rows.getD y 0 = m := ⟨(b.rows.getD y 0).toNat, by omega⟩
        rw [hn, hm, Int.toNat_natCast, Int.toNat_natCast]
        exact andI (Nat.lt_of_lt_of_le (show n < 1048576 by omega) (by decide)) (Nat.lt_of_lt_of_le (show m < 1048576 by omega) (by decide))
      rw [w1 (by omega), Int.toNat_natCast, ev]
      (repeat' (with_reducible refine And.intro ?_ ?_)) <;> (first | exact True.intro | exact q | exact RowsEq.self okI | exact Eq.refl _ | (rw [cmR_len, cmR_len]))
    · rename_i k1 k2
      simp only [hH, stdH, decide_eq_true_eq] at k1 k2 hh
      refine ⟨⟨y + 1, by omega⟩, by simp only; omega, ?_⟩
      rw [hI]
      (conv in matchSt _ _ _ _ => cbv); simp only [AllG, AllP, and_true, hH, stdH, Nat.le_refl, ncast, Int.ofNat_eq_natCast, vrow_I, Arm.eta2, Fld.eta, Grp.eta]
      have rA := okRg_st h0 y (by omega)
      have rB := okRg_st h1 y (by omega)
      have q := RowsEq.putD okI (cmR_put (how := how) (A := a.rows) (B := b.rows) (y := y) (by omega))
      have ec : cm how (a.rows.getD y 0).toNat (b.rows.getD y 0).toNat = noB (a.rows.getD y 0).toNat (b.rows.getD y 0).toNat := by unfold cm; simp only [k2, hh, cond_true, cond_false]
      have ev : IntKind.i64.wrap ((BitVec.ofInt IntKind.i64.bits (a.rows.getD y 0) &&& ~~~BitVec.ofInt IntKind.i64.bits (b.rows.getD y 0)).toNat : Nat) = ((cm how (a.rows.getD y 0).toNat (b.rows.getD y 0).toNat : Nat) : Int) := by
        rw [ec]
        obtain ⟨n, hn⟩ : ∃ n : Nat, a.rows.getD y 0 = n := ⟨(a.rows.getD y 0).toNat, by omega⟩
        obtain ⟨m, hm⟩ : ∃ m : Nat, b.rows.getD y 0 = m := ⟨(b.rows.getD y 0).toNat, by omega⟩
        rw [hn, hm, Int.toNat_natCast, Int.toNat_natCast]
        exact noI (Nat.lt_of_lt_of_le (show n < 1048576 by omega) (by decide))
      rw [w1 (by omega), Int.toNat_natCast, ev]
      (repeat' (with_reducible refine And.intro ?_ ?_)) <;> (first | exact True.intro | exact q | exact RowsEq.self okI | exact Eq.refl _ | (rw [cmR_len, cmR_len]))
    all_goals (rename_i k1; simp only [hH, stdH, decide_eq_false_iff_not] at k1 hh ⊢)
    all_goals (obtain rfl : y = 24 := by omega)
    all_goals first | exact RowsEq.self okI | rfl
noncomputable def e_CombS : Entry := pureN 88 fun H a => match a with
  | [.agg [.vec 1 a0n a0f], .agg [.vec 1 b0n b0f], .lit (.int .i64 how)] => some (fun nx => .tup [.agg [.slc nx 0 1 (H Nat fun _ => (cmR how (⟨(Tl rowI a0n a0f)⟩ : Rgn).rows (⟨(Tl rowI b0n b0f)⟩ : Rgn).rows 24).length)], .lit (.bool (H Bool fun _ => true))], [.rows 1 (H Nat fun _ => (cmR how (⟨(Tl rowI a0n a0f)⟩ : Rgn).rows (⟨(Tl rowI b0n b0f)⟩ : Rgn).rows 24).length) (rowsI H fun _ => cmR how (⟨(Tl rowI a0n a0f)⟩ : Rgn).rows (⟨(Tl rowI b0n b0f)⟩ : Rgn).rows 24) 3], [H Prop fun _ => Shp rowI a0n a0f, H Prop fun _ => Shp rowI b0n b0f, H Prop fun _ => okRg (⟨(Tl rowI a0n a0f)⟩ : Rgn).rows = true, H Prop fun _ => okRg (⟨(Tl rowI b0n b0f)⟩ : Rgn).rows = true, H Prop fun _ => inB how 1 3 = true])
  | _ => none
theorem eok_CombS : EntryOk Try.prog e_CombS := pureN_ok (by unfold isBody; kernel_rfl) (by
  intro a r nb ob e hob
  split at e
  · rename_i a0n a0f b0n b0f how
    simp only [Option.some.injEq, Prod.mk.injEq] at e
    obtain ⟨rfl, rfl, rfl⟩ := e
    refine ⟨ConN.args (.cons (.agg (.cons (.toT okI rfl hob.1) .nil)) (.cons (.agg (.cons (.toT okI rfl hob.2.1) .nil)) (.cons .rfl .nil))) (c_CombS (⟨(Tl rowI a0n a0f)⟩ : Rgn) (⟨(Tl rowI b0n b0f)⟩ : Rgn) how hob.2.2.1 hob.2.2.2.1 hob.2.2.2.2.1), fun x hx => ?_, fun nx => ?_, fun b hb => ?_⟩
    · simp only [List.mem_cons, List.not_mem_nil, or_false] at hx
      rcases hx with rfl | rfl | rfl
      · exact (.agg fun c hc => (by
        simp only [List.mem_cons, List.not_mem_nil, or_false] at hc
        rcases hc with rfl
        · exact (hob.1).bl okI _))
      · exact (.agg fun c hc => (by
        simp only [List.mem_cons, List.not_mem_nil, or_false] at hc
        rcases hc with rfl
        · exact (hob.2.1).bl okI _))
      · exact .lit
    · (first | exact .slc ⟨by omega, by simp⟩ (by omega) | (refine .tup rfl (fun c x y hx hy => ?_); rcases c with _ | _ | _ | c <;> simp at hx hy <;> (subst hx; subst hy; first | exact .slc ⟨by omega, by simp⟩ (by omega) | exact .pl .lit | exact .pl (blq_ok 4 rfl) | (refine .agg rfl (fun c x y hx hy => ?_); rcases c with _ | _ | _ | c <;> simp at hx hy <;> (subst hx; subst hy; first | exact .slc ⟨by omega, by simp⟩ (by omega) | exact .pl .lit | exact .pl (blq_ok 4 rfl))))) | (refine .agg rfl (fun c x y hx hy => ?_); rcases c with _ | _ | _ | c <;> simp at hx hy <;> (subst hx; subst hy; first | exact .slc ⟨by omega, by simp⟩ (by omega) | exact .pl .lit | exact .pl (blq_ok 4 rfl))))
    · simp only [List.mem_cons, List.not_mem_nil, or_false] at hb; subst hb; exact bT_bl okI _ (fun _ => cmR how (⟨(Tl rowI a0n a0f)⟩ : Rgn).rows (⟨(Tl rowI b0n b0f)⟩ : Rgn).rows 24) _
  · simp at e)

end Go.Proofs.Ytpilblmncpeelaa.AM

