/- Lemmas and contracts (Mks); conditions: none. -/
import Derived.Test.YtbnohmfapmeaaaaGreatDoorK03
import Derived.Test.YtbnohmfapmeaaaaGreatDoorK11
import Derived.Test.YtbnohmfapmeaaaaGreatDoorK21
import Derived.Test.YtbnohmfapmeaaaaGreatDoorK28
import Derived.Test.YtbnohmfapmeaaaaGreatDoorK47
set_option linter.unusedVariables false
set_option linter.unusedSimpArgs false
set_option maxRecDepth 100000
set_option maxHeartbeats 4000000
set_option cbv.maxSteps 3000000
namespace Go.Proofs.YtbnohmfapmeaaaaGreatDoor.AM
/- Marks on a shield's parts; conditions: none. -/
/-- A contract under other names, the arguments by what they stand for. -/
theorem ConN.renR {P : Program} {f : FuncId} {args args' : List AV} {hp hp' u u' : Heap} {r r' : AV} {nb nb' : List Blk} {m n : Nat} (π : Nat → Nat) (h : ConN P f args hp m r nb u) (hm : ∀ i, i < m → ∃ b, lk i hp = some b) (hA : ∀ (C : Cx) (vs : List Value), LRel C args' vs → LRel ⟨fun i => C.β (π i), fun j => j < m, C.ow, C.w⟩ args vs)
    (hh : ∀ i b, lk i hp = some b → i < m ∧ ∃ b', lk (π i) hp' = some b' ∧ RnB π m b b') (hi : ∀ i j, i < m → j < m → π i = π j → i = j) (hlen : nb'.length = nb.length) (hr : Re n m nb.length r' r)
    (hnb : ∀ (q : Nat) (b' : Blk), nb'[q]? = some b' → ∃ b, nb[q]? = some b ∧ ReB n m nb.length b' b) (hu : ∀ i' b', (i', b') ∈ u' → ∃ i b, i < m ∧ π i = i' ∧ (i, b) ∈ u ∧ ReB n m nb.length b' b)
    (hu2 : ∀ i b, (i, b) ∈ u → i < m ∧ (∃ b', (π i, b') ∈ u') ∧ (b.dead = true → ∀ b', (π i, b') ∈ u' → b'.dead = true)) : ConN P f args' hp' n r' nb' u' := by
  intro C vs hv hb hinj hlt hfresh
  let D : Cx := ⟨fun i => C.β (π i), fun j => j < m, C.ow, C.w⟩
  have hl' : LRel D args vs := hA C vs hv
  have hkey : ∀ i, i < m → C.ok (π i) ∧ C.ow (C.β (π i)) := fun i hi => by
    obtain ⟨b, hb1⟩ := hm i hi
    obtain ⟨_, b', hb2, _⟩ := hh i b hb1
    exact (hb _ _ hb2).2
  refine (h D vs hl' (fun j b hj => ?_) (fun j k a1 a2 h1 h2 d1 d2 he => ?_) hlt (fun i h1 _ (h2 : i < m) => by omega)).mono fun e w' ⟨cv, he, C', h⟩ => ⟨cv, he, ?_⟩
  · obtain ⟨h1, b', h2, h3⟩ := hh j b hj
    exact ⟨(h3.z (Z := False) (n0 := 0) (hp := [])).brel (C := C) (i' := π j) rfl (fun _ _ => rfl) (fun _ h => h) (fun _ h => h) rfl (fun h => h.elim) (hb _ _ h2).1, h1, (hkey j h1).2⟩
  · obtain ⟨p1, b1, p2, ⟨_, p3⟩, _⟩ := hh j a1 h1
    obtain ⟨q1, b2, q2, ⟨_, q3⟩, _⟩ := hh k a2 h2
    exact hi j k p1 q1 (hinj _ _ _ _ p2 q2 (p3 d1) (q3 d2) he)
  have hβm : ∀ i, i < m → C'.β i = C.β (π i) := fun i hi => h.ext.β i hi
  have hww : C'.w = w' := h.w
  let F : Cx := ⟨fun i => if n ≤ i ∧ i < n + nb.length then C'.β (m + (i - n)) else C.β i, fun i => C.ok i ∨ (n ≤ i ∧ i < n + nb.length), fun k => C.ow k ∨ ∃ i, n ≤ i ∧ i < n + nb.length ∧ C'.β (m + (i - n)) = k, w'⟩
  have hFn : ∀ i, n ≤ i → i < n + nb.length → F.β i = C'.β (m + (i - n)) := fun i h1 h2 => if_pos ⟨h1, h2⟩
  have hFo : ∀ i, C.ok i → F.β i = C.β i := fun i hi => if_neg fun ⟨h1, h2⟩ => hfresh i h1 (by omega) hi
  have hβ : ∀ i, n ≤ i → i < n + nb.length → F.β i = C'.β (m + (i - n)) ∧ F.ok i := fun i h1 h2 => ⟨hFn i h1 h2, .inr ⟨h1, h2⟩⟩
  have how : ∀ k, F.ow k → C'.ow k := by
    rintro k (h0 | ⟨i, h1, h2, e⟩)
    · exact (h.ow k).2 (.inl h0)
    · exact (h.ow k).2 (.inr ⟨m + (i - n), by omega, by omega, e⟩)
  refine ⟨F, rfl, ⟨?_, ?_, hFo, fun _ h => .inl h, ?_⟩, fun i => by rw [hlen], fun k => ?_, fun i h1 h2 => ?_, fun i j h1 h2 h3 h4 e => ?_, fun y hy => ?_, fun i b hib => ?_, fun i b hib => ?_⟩
  · have hw := h.ext.wx
    rw [h.w] at hw
    refine hw.trans (.refl _ (fun _ => False)) (fun k hk => ?_) (fun k _ h => h.elim)
    obtain ⟨j, b2, hj, hk⟩ := hk
    obtain ⟨_, ⟨b', hb'⟩, _⟩ := hu2 j b2 hj
    exact ⟨π j, b', hb', hk⟩
  · rintro k ⟨i', b', hib, rfl⟩
    obtain ⟨i, b, h1, rfl, _⟩ := hu i' b' hib
    exact (hkey i h1).2
  · rintro k (h0 | ⟨i, h1, h2, rfl⟩)
    · exact .inl h0
    · have := h.ext.ow (C'.β (m + (i - n))) ((h.ow _).2 (.inr ⟨m + (i - n), by omega, by omega, rfl⟩))
      exact this
  · rw [hlen]
    show C.ow k ∨ _ ↔ C.ow k ∨ _
    refine or_congr Iff.rfl ⟨?_, ?_⟩
    · rintro ⟨i, h1, h2, e⟩; exact ⟨i, h1, h2, by rw [hFn i h1 h2]; exact e⟩
    · rintro ⟨i, h1, h2, e⟩; exact ⟨i, h1, h2, by rw [← hFn i h1 h2]; exact e⟩
  · rw [hlen] at h2
    rw [hFn i h1 h2]
    rcases h.new (m + (i - n)) (by omega) (by omega) with hge | ⟨j, hj, e, ⟨b, hjb⟩, hd⟩
    · exact .inl hge
    · obtain ⟨_, hex, hdd⟩ := hu2 j b hjb
      exact .inr ⟨π j, (hkey j hj).1, e, hex, hdd (hd b hjb)⟩
  · rw [hlen] at h2 h4
    rw [hFn i h1 h2, hFn j h3 h4] at e
    have := h.inj (m + (i - n)) (m + (j - n)) (by omega) (by omega) (by omega) (by omega) e
    omega
  · injection hy with hy
    subst hy
    exact hr.rel hβ how hww.symm (h.val _ rfl)
  · obtain ⟨h1, h2⟩ := mem_named.1 hib
    have hlt2 : i - n < nb.length := by rw [← hlen]; exact (List.getElem?_eq_some_iff.1 h2).1
    obtain ⟨b0, h3, h4⟩ := hnb _ _ h2
    exact h4.brel (i' := m + (i - n)) (hFn i h1 (by omega)) hβ how hww.symm (h.nb _ _ (mem_named.2 ⟨by omega, by rw [Nat.add_sub_cancel_left]; exact h3⟩))
  · obtain ⟨j, b0, h1, rfl, h2, h3⟩ := hu i b hib
    exact h3.brel (i' := j) (by rw [hFo _ (hkey j h1).1, hβm j h1]) hβ how hww.symm (h.u _ _ h2)
/-- A function that turns the slice of its first argument, a structure of a number and a slice of the caller's own. -/
def modH (f : FuncId) (k : Nat) (E : TypeId) (F : Hold → AV → Nat → (Nat → List AV) → List AV → Option (AV × (Nat → List AV) × List Prop)) : Entry := ⟨f, fun H a h _ => match a with
  | .agg [x, .slc i 0 k' n] :: a => (match lk i h with
    | some (.rows k'' n' g E') => bif Nat.beq k k' && (Nat.beq k k'' && Nat.beq E E') then (match F H x n g a with
      | some (r, g', ob) => some (r, [], [i], [(i, .rows k n g' E)], (H Prop fun _ => n' = n) :: ob)
      | none => none) else none
    | _ => none)
  | _ => none⟩
theorem modH_ok {P : Program} {f : FuncId} {k : Nat} {E : TypeId} {F : Hold → AV → Nat → (Nat → List AV) → List AV → Option (AV × (Nat → List AV) × List Prop)} (hb : isBody P f)
    (h : ∀ x0 n g a r g' ob, F stdH x0 n g a = some (r, g', ob) → AllP ob → ∃ g0, (∀ j, j < n → g0 j = g j ∧ ∀ x ∈ g0 j, Bl 0 x) ∧ ConN P f (.agg [x0, .slc 0 0 k n] :: a) [(0, .rows k n g0 E)] 1 r [] [(0, .rows k n g' E)] ∧ Bl 0 x0 ∧ (∀ x ∈ a, Bl 0 x) ∧ Bl 0 r ∧ ∀ j, j < n → ∀ x ∈ g' j, Bl 0 x) : EntryOk P (modH f k E F) := by
  refine ⟨hb, fun a hp nx r nb rd u ob e hob => ?_⟩
  simp only [modH] at e
  split at e
  · rename_i x0 i k' n a'
    split at e
    · rename_i k'' n' g E' hlk
      cases hc : (Nat.beq k k' && (Nat.beq k k'' && Nat.beq E E')) with
      | false => rw [hc] at e; simp at e
      | true =>
        rw [hc] at e
        simp only [cond_true] at e
        simp only [Bool.and_eq_true] at hc
        obtain rfl := Nat.eq_of_beq_eq_true hc.1
        obtain rfl := Nat.eq_of_beq_eq_true hc.2.1
        obtain rfl := Nat.eq_of_beq_eq_true hc.2.2
        cases hF : F stdH x0 n g a' with
        | none => simp [hF] at e
        | some y =>
          obtain ⟨r', g', ob'⟩ := y
          simp only [hF, stdH, Option.some.injEq, Prod.mk.injEq] at e
          obtain ⟨rfl, rfl, rfl, rfl, rfl⟩ := e
          obtain ⟨rfl, hob⟩ := hob
          obtain ⟨g0, h0, h1, hx0, h2, h3, h4⟩ := h _ _ _ _ _ _ _ hF hob
          refine ⟨fun q b hq => ?_, [(i, .rows k n' g E)], fun q b hq => ?_, ?_⟩
          · simp at hq; obtain ⟨rfl, rfl⟩ := hq; exact ⟨by simp, _, hlk, rfl⟩
          · rw [lk_cons] at hq
            by_cases hi : i = q
            · rw [if_pos hi] at hq; injection hq with hq; subst hq; subst hi; exact ⟨by simp, hlk⟩
            · rw [if_neg hi] at hq; simp [lk] at hq
          · refine h1.renR (fun _ => i) (fun q hq => ⟨_, by obtain rfl : q = 0 := by omega
                                                            rfl⟩) (fun C vs hv => ⟨hv.1, fun c x v hx hw => ?_⟩) (fun q b hq => ?_) (by omega) rfl (.pl h3) (fun q b hq => by simp at hq) (fun q b hq => ?_) (fun q b hq => ?_)
            · cases c with
              | zero =>
                have hz := hv.2 0 _ v rfl hw
                simp only [List.getElem?_cons_zero, Option.some.injEq] at hx
                subst hx
                cases hz with
                | agg hl1 h5 hr =>
                  refine .agg hl1 h5 fun c x v hx hw => ?_
                  rcases c with _ | _ | c
                  · simp only [List.getElem?_cons_zero, Option.some.injEq] at hx
                    subst hx
                    exact (Rn.same (π := fun _ => i) (m := 1) (q := 0) (by omega) (by omega) hx0).rel (C := C) (D := ⟨fun _ => C.β i, fun j => j < 1, C.ow, C.w⟩) (fun _ _ => rfl) (fun _ h => h) (fun _ h => h) rfl (hr 0 _ v rfl hw)
                  · simp only [List.getElem?_cons_succ, List.getElem?_cons_zero, Option.some.injEq] at hx
                    subst hx
                    exact (Rn.slc (π := fun _ => i) (m := 1) (i := 0) (by omega)).rel (C := C) (D := ⟨fun _ => C.β i, fun j => j < 1, C.ow, C.w⟩) (fun _ _ => rfl) (fun _ h => h) (fun _ h => h) rfl (hr 1 _ v rfl hw)
                  · simp at hx
              | succ c =>
                simp only [List.getElem?_cons_succ] at hx
                exact (Rn.same (π := fun _ => i) (m := 1) (q := 0) (by omega) (by omega) (h2 _ (List.mem_of_getElem? hx))).rel (C := C) (D := ⟨fun _ => C.β i, fun j => j < 1, C.ow, C.w⟩) (fun _ _ => rfl) (fun _ h => h) (fun _ h => h) rfl (hv.2 (c + 1) _ v (by simpa using hx) hw)
            · have := lk_in hq
              simp at this
              obtain ⟨rfl, rfl⟩ := this
              exact ⟨by omega, _, by rw [lk_cons, if_pos rfl], rnb_rows rfl (fun j hj => (h0 j hj).1) (fun j hj => (h0 j hj).2)⟩
            · simp at hq
              obtain ⟨rfl, rfl⟩ := hq
              exact ⟨0, _, by omega, rfl, List.mem_cons_self, .same (rowsB_bl h4)⟩
            · simp at hq
              obtain ⟨rfl, rfl⟩ := hq
              exact ⟨by omega, ⟨_, List.mem_cons_self⟩, fun h => by simp [Blk.dead] at h⟩
    · simp at e
  · simp at e
theorem c_markShield (s : Shd) (k : Int) (h0 : s.parts.length ≤ 1048576) (h1 : 0 ≤ k ∧ k ≤ 1000000000) : ConN Tryz.prog 11 [.agg [.lit (.int .i64 s.mode), .slc 0 0 15 s.parts.length], .lit (.int .i64 k)] [(0, .rows 15 s.parts.length (rowsA stdH fun _ => s.parts) 64)] 1 (.lit (.int .i64 (k + 15 * (s.parts.length : Nat)))) [] [(0, .rows 15 s.parts.length (rowsA stdH fun _ => mkL s.parts.length k) 64)] := by
  have hB : Base Tryz.prog (tabΓ [e_markArmsS]) tab := base_of tabOk (ents_cons eok_markArmsS <| ents_nil)
  refine con_m (N := 10) hB (draw_ok hB mixed) Tryz.func11 rfl rfl (fun H => [.agg [.lit (.int .i64 (H Int fun _ => s.mode)), .slc 0 0 15 (H Nat fun _ => s.parts.length)], .lit (.int .i64 (H Int fun _ => k))]) (fun H => [(0, .rows 15 (H Nat fun _ => s.parts.length) (rowsA H fun _ => s.parts) 64)]) 1 (fun H => .lit (.int .i64 (H Int fun _ => k + 15 * (s.parts.length : Nat)))) (fun H => []) (fun H => [(0, .rows 15 (H Nat fun _ => s.parts.length) (rowsA H fun _ => mkL s.parts.length k) 64)]) 300 (by simp) (fun x hx => ?_) (fun i b hi => ?_) (fun i hi => ?_) (fun i b hi => ?_) ?_
  · simp only [List.mem_cons, List.not_mem_nil, or_false] at hx
    rcases hx with rfl | rfl
    · exact .agg fun x hx => by
        simp only [List.mem_cons, List.not_mem_nil, or_false] at hx
        rcases hx with rfl | rfl
        · exact .lit
        · exact .slc (by omega)
    · exact .lit
  · have := lk_in hi
    simp only [List.mem_cons, List.not_mem_nil, or_false, Prod.mk.injEq] at this
    obtain ⟨rfl, rfl⟩ := this
    exact ⟨by omega, bT_bl okRA _ (fun _ => s.parts) _, _, List.mem_cons_self⟩
  · obtain rfl : i = 0 := by omega
    exact ⟨_, rfl⟩
  · simp only [List.mem_cons, List.not_mem_nil, or_false, Prod.mk.injEq] at hi
    obtain ⟨rfl, rfl⟩ := hi
    exact ⟨_, rfl⟩
  intro X hX hX0 H hH
  conv in Fin.chk _ _ => cbv
  try simp only [Plain_rowsA, Plain_rowsB, Plain_rowsC, Plain_rowsF, Plain_rowsG, Plain_rowsI, Plain_rowsS, Plain_rowsU, Fin.satC_ret, Fin.satC_br, Fin.satC_need, Fin.satC_again, AllP, and_true, true_and, upd, List.length_nil, List.length_cons, Nat.zero_add, if_true, ncast, Int.ofNat_eq_natCast]
  subst hH
  simp only [stdH, Tl_A]
  refine ⟨⟨trivial, Shp_A _ _, h0, h1⟩, ?_, trivial⟩
  have := RowsEq.self okRA (k := 15) (L := mkL s.parts.length k)
  rw [mkL_len] at this
  exact this
noncomputable def e_markShield : Entry := modH 11 15 64 fun H x n g a => match x, a with
  | .lit (.int .i64 _), [.lit (.int .i64 k)] => some (.lit (.int .i64 (H Int fun _ => k + 15 * ((Tl rowA n g).length : Nat))), rowsA H fun _ => mkL (Tl rowA n g).length k, [H Prop fun _ => Shp rowA n g, H Prop fun _ => (Tl rowA n g).length ≤ 1048576, H Prop fun _ => 0 ≤ k ∧ k ≤ 1000000000])
  | _, _ => none
theorem eok_markShield : EntryOk Tryz.prog e_markShield := modH_ok (by unfold isBody; kernel_rfl) (by
  intro x0 n g a r g' ob e hob
  split at e
  · rename_i m k
    simp only [Option.some.injEq, Prod.mk.injEq] at e
    obtain ⟨rfl, rfl, rfl⟩ := e
    have hs := hob.1
    have hl : (Tl rowA n g).length = n := Tl_len n g
    refine ⟨rowsA stdH fun _ => Tl rowA n g, fun j hj => ⟨?_, ?_⟩, ?_, .lit, fun x hx => ?_, .lit, fun j hj => ?_⟩
    · rw [hs.row j hj]; exact ((okRA).row (fun _ => Tl rowA n g) j).trans (by rw [Tl_getD hj])
    · exact rows_blx okRA _ j
    · have := c_markShield ⟨m, Tl rowA n g⟩ k hob.2.1 hob.2.2.1
      simp only [stdH, hl] at this ⊢
      exact this
    · simp only [List.mem_cons, List.not_mem_nil, or_false] at hx
      subst hx
      exact .lit
    · exact rows_blx okRA _ j
  · simp at e)
theorem c_heldShield (a : Shd) (k : Int) (h0 : a.parts.length ≤ 1048576) (h1 : 0 ≤ k ∧ k ≤ 1000000000) (h2 : a.parts = mkL a.parts.length k) : ConN Tryz.prog 12 [aT rowH stdH fun _ => a, .lit (.int .i64 k)] [] 0 (.lit (.int .i64 (stdH Int fun _ => k + 15 * (a.parts.length : Nat)))) [] [] := by
  have hB : Base Tryz.prog (tabΓ [e_heldArmsS]) tab := base_of tabOk (ents_cons eok_heldArmsS <| ents_nil)
  refine con_m (N := 12) hB (draw_ok hB mixed) Tryz.func12 rfl rfl (fun H => [aT rowH H fun _ => a, .lit (.int .i64 k)]) (fun _ => []) 0 (fun H => .lit (.int .i64 (H Int fun _ => k + 15 * (a.parts.length : Nat)))) (fun H => []) (fun _ => []) 300 (by simp) (fun x hx => ?_) (by simp [lk]) (by omega) (by simp) ?_
  · simp only [List.mem_cons, List.not_mem_nil, or_false] at hx
    rcases hx with rfl | rfl
    · exact aT_bl okRH _ _
    · exact .lit
  intro X hX hX0 H hH
  conv in Fin.chk _ _ => cbv
  try simp only [Plain_rowsA, Plain_rowsB, Plain_rowsC, Plain_rowsF, Plain_rowsG, Plain_rowsI, Plain_rowsS, Plain_rowsU, Fin.satC_ret, Fin.satC_br, Fin.satC_need, Fin.satC_again, AllP, and_true, true_and, upd, List.length_nil, List.length_cons, Nat.zero_add, if_true, ncast, Int.ofNat_eq_natCast]
  subst hH
  simp only [stdH, Tl_A]
  refine ⟨⟨Shp_A _ _, h0, h1, h2⟩, fun h => ?_, fun _ => ?_⟩
  · simp only [decide_eq_true_eq] at h
    omega
  · first | exact True.intro | rfl
noncomputable def e_heldShield : Entry := pureE 12 fun H a => match a with
  | [.agg [.lit (.int .i64 a0), .vec 15 a1n a1f], .lit (.int .i64 k)] => some (.lit (.int .i64 (H Int fun _ => k + 15 * ((⟨a0, (Tl rowA a1n a1f)⟩ : Shd).parts.length : Nat))), [H Prop fun _ => Shp rowA a1n a1f, H Prop fun _ => (⟨a0, (Tl rowA a1n a1f)⟩ : Shd).parts.length ≤ 1048576, H Prop fun _ => 0 ≤ k ∧ k ≤ 1000000000, H Prop fun _ => (⟨a0, (Tl rowA a1n a1f)⟩ : Shd).parts = mkL (⟨a0, (Tl rowA a1n a1f)⟩ : Shd).parts.length k])
  | _ => none
theorem eok_heldShield : EntryOk Tryz.prog e_heldShield := pureM_ok (by unfold isBody; kernel_rfl) (by
  intro a r ob e hob
  split at e
  · rename_i a0 a1n a1f k
    simp only [Option.some.injEq, Prod.mk.injEq] at e
    obtain ⟨rfl, rfl⟩ := e
    exact ConN.args (.cons (.agg (.cons .rfl (.cons (.toT okRA rfl hob.1) .nil))) (.cons .rfl .nil)) (c_heldShield (⟨a0, (Tl rowA a1n a1f)⟩ : Shd) k hob.2.1 hob.2.2.1 hob.2.2.2.1)
  · simp at e)
theorem c_markArmsZ (l : List Arm) (k : Int) (h0 : l = []) : ConN Tryz.prog 67 [.vec 15 (stdH Nat fun _ => (l).length) (rowsA stdH fun _ => l), .lit (.int .i64 k)] [] 0 (.lit (.int .i64 (stdH Int fun _ => k))) [] [] := by
  have hB : Base Tryz.prog (tabΓ []) tab := base_of tabOk (ents_nil)
  refine con_m (N := 130) hB (draw_ok hB mixed) Tryz.func67 rfl rfl (fun H => [.vec 15 (H Nat fun _ => (l).length) (rowsA H fun _ => l), .lit (.int .i64 k)]) (fun _ => []) 0 (fun H => .lit (.int .i64 (H Int fun _ => k))) (fun H => []) (fun _ => []) 3000 (by simp) (fun x hx => ?_) (by simp [lk]) (by omega) (by simp) ?_
  · simp only [List.mem_cons, List.not_mem_nil, or_false] at hx
    rcases hx with rfl | rfl
    · exact vl_bl okRA l _
    · exact .lit
  intro X hX hX0 H hH
  conv in Fin.chk _ _ => cbv
  try simp only [Plain_rowsA, Plain_rowsB, Plain_rowsC, Plain_rowsF, Plain_rowsG, Plain_rowsI, Plain_rowsS, Plain_rowsU, Fin.satC_ret, Fin.satC_br, Fin.satC_need, Fin.satC_again, AllP, and_true, true_and, upd, List.length_nil, List.length_cons, Nat.zero_add, if_true, ncast, Int.ofNat_eq_natCast]
  subst h0
  refine loop_a hB (draw_ok hB mixed) hX hX0 hH false (ι := Unit) 3000 (fun i => [.i (H Int fun _ => k), .i (H Int fun _ => 0)]) (fun i => 0) (()) ?_ ?_
  · (conv in matchSt _ _ _ _ => cbv); simp only [AllG, AllP, and_true, hH, stdH, Nat.le_refl, ncast, Int.ofNat_eq_natCast, vrow_I, Arm.eta2, Fld.eta, Grp.eta]
    exact ⟨trivial, trivial, trivial, RowsEq.self okRA⟩
  · intro I hI i
    conv in Fin.chk _ _ => cbv
    try simp only [Plain_rowsA, Plain_rowsB, Plain_rowsC, Plain_rowsF, Plain_rowsG, Plain_rowsI, Plain_rowsS, Plain_rowsU, Fin.satC_ret, Fin.satC_br, Fin.satC_need, Fin.satC_again, AllP, and_true, true_and, upd, List.length_nil, List.length_cons, Nat.zero_add, if_true, ncast, Int.ofNat_eq_natCast]
    refine ⟨fun h => ?_, fun _ => by rw [hH]; trivial⟩
    exfalso
    simp only [hH, stdH] at h
    exact absurd h (by decide)
noncomputable def e_markArmsZ : Entry := pureE 67 fun H a => match a with
  | [.vec 15 ln lf, .lit (.int .i64 k)] => some (.lit (.int .i64 (H Int fun _ => k)), [H Prop fun _ => Shp rowA ln lf, H Prop fun _ => (Tl rowA ln lf) = []])
  | _ => none
theorem eok_markArmsZ : EntryOk Tryz.prog e_markArmsZ := pureM_ok (by unfold isBody; kernel_rfl) (by
  intro a r ob e hob
  split at e
  · rename_i ln lf k
    simp only [Option.some.injEq, Prod.mk.injEq] at e
    obtain ⟨rfl, rfl⟩ := e
    exact ConN.args (.cons (.toT okRA rfl hob.1) (.cons .rfl .nil)) (c_markArmsZ (Tl rowA ln lf) k hob.2.1)
  · simp at e)
theorem c_markShieldZ (a : Shd) (k : Int) (h0 : a.parts = []) : ConN Tryz.prog 11 [aT rowH stdH fun _ => a, .lit (.int .i64 k)] [] 0 (.lit (.int .i64 (stdH Int fun _ => k))) [] [] := by
  have hB : Base Tryz.prog (tabΓ [e_markArmsZ]) tab := base_of tabOk (ents_cons eok_markArmsZ <| ents_nil)
  refine con_m (N := 10) hB (draw_ok hB mixed) Tryz.func11 rfl rfl (fun H => [aT rowH H fun _ => a, .lit (.int .i64 k)]) (fun _ => []) 0 (fun H => .lit (.int .i64 (H Int fun _ => k))) (fun H => []) (fun _ => []) 300 (by simp) (fun x hx => ?_) (by simp [lk]) (by omega) (by simp) ?_
  · simp only [List.mem_cons, List.not_mem_nil, or_false] at hx
    rcases hx with rfl | rfl
    · exact aT_bl okRH _ _
    · exact .lit
  intro X hX hX0 H hH
  conv in Fin.chk _ _ => cbv
  try simp only [Plain_rowsA, Plain_rowsB, Plain_rowsC, Plain_rowsF, Plain_rowsG, Plain_rowsI, Plain_rowsS, Plain_rowsU, Fin.satC_ret, Fin.satC_br, Fin.satC_need, Fin.satC_again, AllP, and_true, true_and, upd, List.length_nil, List.length_cons, Nat.zero_add, if_true, ncast, Int.ofNat_eq_natCast]
  subst hH
  simp only [stdH, Tl_A]
  exact ⟨⟨Shp_A _ _, h0⟩, trivial⟩
noncomputable def e_markShieldZ : Entry := pureE 11 fun H a => match a with
  | [.agg [.lit (.int .i64 a0), .vec 15 a1n a1f], .lit (.int .i64 k)] => some (.lit (.int .i64 (H Int fun _ => k)), [H Prop fun _ => Shp rowA a1n a1f, H Prop fun _ => (⟨a0, (Tl rowA a1n a1f)⟩ : Shd).parts = []])
  | _ => none
theorem eok_markShieldZ : EntryOk Tryz.prog e_markShieldZ := pureM_ok (by unfold isBody; kernel_rfl) (by
  intro a r ob e hob
  split at e
  · rename_i a0 a1n a1f k
    simp only [Option.some.injEq, Prod.mk.injEq] at e
    obtain ⟨rfl, rfl⟩ := e
    exact ConN.args (.cons (.agg (.cons .rfl (.cons (.toT okRA rfl hob.1) .nil))) (.cons .rfl .nil)) (c_markShieldZ (⟨a0, (Tl rowA a1n a1f)⟩ : Shd) k hob.2.1)
  · simp at e)

end Go.Proofs.YtbnohmfapmeaaaaGreatDoor.AM

