/- Lemmas and contracts (Trh); conditions: none. -/
import Derived.Test.YtbnohmfapmeaaaaGreatDoorK03
import Derived.Test.YtbnohmfapmeaaaaGreatDoorK28
import Derived.Test.YtbnohmfapmeaaaaGreatDoorK42
set_option linter.unusedVariables false
set_option linter.unusedSimpArgs false
set_option maxRecDepth 100000
set_option maxHeartbeats 4000000
set_option cbv.maxSteps 3000000
namespace Go.Proofs.YtbnohmfapmeaaaaGreatDoor.AM
/- Grants transferred; conditions: none. -/
theorem ConN.renS {P : Program} {f : FuncId} {args args' : List AV} {hp hp' u u' : Heap} {r r' : AV} {nb nb' : List Blk} {m n : Nat} (π : Nat → Nat) (h : ConN P f args hp m r nb u) (hm : ∀ i, i < m → ∃ b, lk i hp = some b) (hA : ∀ (C : Cx) (vs : List Value), LRel C args' vs → LRel ⟨fun i => C.β (π i), fun j => j < m, C.ow, C.w⟩ args vs)
    (hh : ∀ i b, lk i hp = some b → i < m ∧ ∃ b', lk (π i) hp' = some b' ∧ RnB π m b b') (hi : ∀ i j, i < m → j < m → π i = π j → i = j) (hlen : nb'.length = nb.length) (hr : ∀ (D F : Cx) (v : Value), (∀ i, i < m → F.β (π i) = D.β i ∧ F.ok (π i)) → (∀ k, F.ow k → D.ow k) → F.w = D.w → Rel D r v → Rel F r' v)
    (hnb : ∀ (q : Nat) (b' : Blk), nb'[q]? = some b' → ∃ b, nb[q]? = some b ∧ ReB n m nb.length b' b) (hu : ∀ i' b', (i', b') ∈ u' → ∃ i b, i < m ∧ π i = i' ∧ (i, b) ∈ u ∧ ReB n m nb.length b' b)
    (hu2 : ∀ i b, (i, b) ∈ u → i < m ∧ (∃ b', (π i, b') ∈ u') ∧ (b.dead = true → ∀ b', (π i, b') ∈ u' → b'.dead = true)) : ConN P f args' hp' n r' nb' u' := by
  intro C vs hv hb hinj hlt hfresh
  let D : Cx := ⟨fun i => C.β (π i), fun j => j < m, C.ow, C.w⟩
  have hl' : LRel D args vs := hA C vs hv
  have hkey : ∀ i, i < m → C.ok (π i) ∧ C.ow (C.β (π i)) := fun i hi => by
    obtain ⟨b, hb1⟩ := hm i hi
    obtain ⟨_, b', hb2, _⟩ := hh i b hb1
    exact (hb _ _ hb2).2
  refine (h D vs hl' (fun j b hj => ?_) (fun j k a1 a2 h1 h2 d1 d2 he => ?_) hlt (fun i h1 _ (h2 : i < m) => by omega)).mono fun e w' ⟨cv, he, C', h⟩ => ⟨cv, he, ?_⟩
  · obtain ⟨h1, b', h2, h3⟩ := hh j b hj
    exact ⟨(h3.z (Z := False) (n0 := 0) (hp := [])).brel (C := C) (i' := π j) rfl (fun _ _ => rfl) (fun _ h => h) (fun _ h => h) rfl (fun h => h.elim) (hb _ _ h2).1, h1, (hkey j h1).2⟩
  · obtain ⟨p1, b1, p2, ⟨_, p3⟩, _⟩ := hh j a1 h1
    obtain ⟨q1, b2, q2, ⟨_, q3⟩, _⟩ := hh k a2 h2
    exact hi j k p1 q1 (hinj _ _ _ _ p2 q2 (p3 d1) (q3 d2) he)
  have hβm : ∀ i, i < m → C'.β i = C.β (π i) := fun i hi => h.ext.β i hi
  have hww : C'.w = w' := h.w
  let F : Cx := ⟨fun i => if n ≤ i ∧ i < n + nb.length then C'.β (m + (i - n)) else C.β i, fun i => C.ok i ∨ (n ≤ i ∧ i < n + nb.length), fun k => C.ow k ∨ ∃ i, n ≤ i ∧ i < n + nb.length ∧ C'.β (m + (i - n)) = k, w'⟩
  have hFn : ∀ i, n ≤ i → i < n + nb.length → F.β i = C'.β (m + (i - n)) := fun i h1 h2 => if_pos ⟨h1, h2⟩
  have hFo : ∀ i, C.ok i → F.β i = C.β i := fun i hi => if_neg fun ⟨h1, h2⟩ => hfresh i h1 (by omega) hi
  have hβ : ∀ i, n ≤ i → i < n + nb.length → F.β i = C'.β (m + (i - n)) ∧ F.ok i := fun i h1 h2 => ⟨hFn i h1 h2, .inr ⟨h1, h2⟩⟩
  have how : ∀ k, F.ow k → C'.ow k := by
    rintro k (h0 | ⟨i, h1, h2, e⟩)
    · exact (h.ow k).2 (.inl h0)
    · exact (h.ow k).2 (.inr ⟨m + (i - n), by omega, by omega, e⟩)
  refine ⟨F, rfl, ⟨?_, ?_, hFo, fun _ h => .inl h, ?_⟩, fun i => by rw [hlen], fun k => ?_, fun i h1 h2 => ?_, fun i j h1 h2 h3 h4 e => ?_, fun y hy => ?_, fun i b hib => ?_, fun i b hib => ?_⟩
  · have hw := h.ext.wx
    rw [h.w] at hw
    refine hw.trans (.refl _ (fun _ => False)) (fun k hk => ?_) (fun k _ h => h.elim)
    obtain ⟨j, b2, hj, hk⟩ := hk
    obtain ⟨_, ⟨b', hb'⟩, _⟩ := hu2 j b2 hj
    exact ⟨π j, b', hb', hk⟩
  · rintro k ⟨i', b', hib, rfl⟩
    obtain ⟨i, b, h1, rfl, _⟩ := hu i' b' hib
    exact (hkey i h1).2
  · rintro k (h0 | ⟨i, h1, h2, rfl⟩)
    · exact .inl h0
    · have := h.ext.ow (C'.β (m + (i - n))) ((h.ow _).2 (.inr ⟨m + (i - n), by omega, by omega, rfl⟩))
      exact this
  · rw [hlen]
    show C.ow k ∨ _ ↔ C.ow k ∨ _
    refine or_congr Iff.rfl ⟨?_, ?_⟩
    · rintro ⟨i, h1, h2, e⟩; exact ⟨i, h1, h2, by rw [hFn i h1 h2]; exact e⟩
    · rintro ⟨i, h1, h2, e⟩; exact ⟨i, h1, h2, by rw [← hFn i h1 h2]; exact e⟩
  · rw [hlen] at h2
    rw [hFn i h1 h2]
    rcases h.new (m + (i - n)) (by omega) (by omega) with hge | ⟨j, hj, e, ⟨b, hjb⟩, hd⟩
    · exact .inl hge
    · obtain ⟨_, hex, hdd⟩ := hu2 j b hjb
      exact .inr ⟨π j, (hkey j hj).1, e, hex, hdd (hd b hjb)⟩
  · rw [hlen] at h2 h4
    rw [hFn i h1 h2, hFn j h3 h4] at e
    have := h.inj (m + (i - n)) (m + (j - n)) (by omega) (by omega) (by omega) (by omega) e
    omega
  · injection hy with hy
    subst hy
    exact hr C' F _ (fun i hi => ⟨(hFo _ (hkey i hi).1).trans (hβm i hi).symm, .inl (hkey i hi).1⟩) how hww.symm (h.val _ rfl)
  · obtain ⟨h1, h2⟩ := mem_named.1 hib
    have hlt2 : i - n < nb.length := by rw [← hlen]; exact (List.getElem?_eq_some_iff.1 h2).1
    obtain ⟨b0, h3, h4⟩ := hnb _ _ h2
    exact h4.brel (i' := m + (i - n)) (hFn i h1 (by omega)) hβ how hww.symm (h.nb _ _ (mem_named.2 ⟨by omega, by rw [Nat.add_sub_cancel_left]; exact h3⟩))
  · obtain ⟨j, b0, h1, rfl, h2, h3⟩ := hu i b hib
    exact h3.brel (i' := j) (by rw [hFo _ (hkey j h1).1, hβm j h1]) hβ how hww.symm (h.u _ _ h2)
def handJ (f : FuncId) (k : Nat) (E : TypeId) (F : Hold → Nat → (Nat → List AV) → (Nat → List AV) × List Prop) : Entry := ⟨f, fun H a h _ => match a with
  | [.agg [.slc i 0 k' n]] => (match lk i h with
    | some (.rows k'' n' g E') => bif Nat.beq k k' && (Nat.beq k k'' && Nat.beq E E') then some (.tup [.agg [.slc i 0 k n], .lit (.bool (H Bool fun _ => true))], [], [i], [(i, .rows k n (F H n g).1 E')], (H Prop fun _ => n' = n) :: (F H n g).2) else none
    | _ => none)
  | _ => none⟩
theorem handJ_ok {P : Program} {f : FuncId} {k : Nat} {E : TypeId} {F : Hold → Nat → (Nat → List AV) → (Nat → List AV) × List Prop} (hb : isBody P f)
    (h : ∀ n g, AllP (F stdH n g).2 → (∀ j, j < n → (F stdH n g).1 j = g j ∧ ∀ x ∈ (F stdH n g).1 j, Bl 0 x) ∧ ConN P f [.agg [.slc 0 0 k n]] [(0, .rows k n (F stdH n g).1 E)] 1 (.tup [.agg [.slc 0 0 k n], .lit (.bool true)]) [] [(0, .rows k n (F stdH n g).1 E)]) : EntryOk P (handJ f k E F) := by
  refine ⟨hb, fun a hp nx r nb rd u ob e hob => ?_⟩
  simp only [handJ] at e
  split at e
  · rename_i i k' n
    split at e
    · rename_i k'' n' g E' hlk
      cases hc : (Nat.beq k k' && (Nat.beq k k'' && Nat.beq E E')) with
      | false => rw [hc] at e; simp at e
      | true =>
        rw [hc] at e
        simp only [cond_true] at e
        simp only [Bool.and_eq_true] at hc
        obtain rfl := Nat.eq_of_beq_eq_true hc.1
        obtain rfl := Nat.eq_of_beq_eq_true hc.2.1
        obtain rfl := Nat.eq_of_beq_eq_true hc.2.2
        simp only [stdH, Option.some.injEq, Prod.mk.injEq] at e
        obtain ⟨rfl, rfl, rfl, rfl, rfl⟩ := e
        obtain ⟨rfl, hob⟩ := hob
        obtain ⟨h0, h1⟩ := h _ _ hob
        refine ⟨fun q b hq => ?_, [(i, .rows k n' g E)], fun q b hq => ?_, ?_⟩
        · simp at hq; obtain ⟨rfl, rfl⟩ := hq; exact ⟨by simp, _, hlk, rfl⟩
        · rw [lk_cons] at hq
          by_cases hi : i = q
          · rw [if_pos hi] at hq; injection hq with hq; subst hq; subst hi; exact ⟨by simp, hlk⟩
          · rw [if_neg hi] at hq; simp [lk] at hq
        · refine h1.renS (fun _ => i) (fun q hq => ⟨_, by obtain rfl : q = 0 := by omega
                                                          rfl⟩) (fun C vs hv => ⟨hv.1, fun c x v hx hw => ?_⟩) (fun q b hq => ?_) (by omega) rfl (fun D F v hβ how hw hv => ?_) (fun q b hq => by simp at hq) (fun q b hq => ?_) (fun q b hq => ?_)
          · cases c with
            | zero =>
              have hz := hv.2 0 _ v rfl hw
              simp only [List.getElem?_cons_zero, Option.some.injEq] at hx
              subst hx
              cases hz with
              | agg hl1 h5 hr =>
                refine .agg hl1 h5 fun c x v hx hw => ?_
                rcases c with _ | c
                · simp only [List.getElem?_cons_zero, Option.some.injEq] at hx
                  subst hx
                  exact (Rn.slc (π := fun _ => i) (m := 1) (i := 0) (by omega)).rel (C := C) (D := ⟨fun _ => C.β i, fun j => j < 1, C.ow, C.w⟩) (fun _ _ => rfl) (fun _ h => h) (fun _ h => h) rfl (hr 0 _ v rfl hw)
                · simp at hx
            | succ c =>
              simp at hx
          · have := lk_in hq
            simp at this
            obtain ⟨rfl, rfl⟩ := this
            exact ⟨by omega, _, by rw [lk_cons, if_pos rfl], rnb_rows rfl (fun j hj => (h0 j hj).1) (fun j hj => (h0 j hj).2)⟩
          · cases hv with
            | tup hl1 hr =>
              refine .tup hl1 fun c x v hx hw' => ?_
              rcases c with _ | _ | c
              · simp only [List.getElem?_cons_zero, Option.some.injEq] at hx
                subst hx
                have hz := hr 0 _ v rfl hw'
                cases hz with
                | agg hl2 h5 hr2 =>
                  refine .agg hl2 h5 fun c x v hx hw2 => ?_
                  rcases c with _ | c
                  · simp only [List.getElem?_cons_zero, Option.some.injEq] at hx
                    subst hx
                    have hy := hr2 0 _ v rfl hw2
                    obtain ⟨e1, e2⟩ := hβ 0 (by omega)
                    cases hy with
                    | slc h' hn hm hc =>
                      rw [← e1] at hc ⊢
                      exact .slc e2 hn hm (by rw [hw]; exact hc)
                  · simp at hx
              · simp only [List.getElem?_cons_succ, List.getElem?_cons_zero, Option.some.injEq] at hx
                subst hx
                exact (hr 1 _ v rfl hw').limit (m := 0) .lit (fun i hi => by omega) (fun i hi => by omega) how hw
              · simp at hx
          · simp at hq
            obtain ⟨rfl, rfl⟩ := hq
            exact ⟨0, _, by omega, rfl, List.mem_cons_self, .same (rowsB_bl fun j hj => (h0 j hj).2)⟩
          · simp at hq
            obtain ⟨rfl, rfl⟩ := hq
            exact ⟨by omega, ⟨_, List.mem_cons_self⟩, fun h => by simp [Blk.dead] at h⟩
    · simp at e
  · simp at e
theorem c_validRegY (s : Rgr) (h0 : s.gs.length ≤ 2000000) (h1 : Nsz s.gs) (h2 : okRg s.gs = true) : ConN Tryz.prog 84 [.agg [.slc 0 0 18 s.gs.length]] [(0, .rows 18 s.gs.length (rowsW stdH fun _ => s.gs) 100)] 1 (.tup [.agg [.slc 0 0 18 s.gs.length], .lit (.bool true)]) [] [(0, .rows 18 s.gs.length (rowsW stdH fun _ => s.gs) 100)] := by
  have hB : Base Tryz.prog (tabΓ [e_validR]) tab := base_of tabOk (ents_cons eok_validR <| ents_nil)
  refine con_m (N := 9) hB (draw_ok hB mixed) Tryz.func84 rfl rfl (fun H => [.agg [.slc 0 0 18 (H Nat fun _ => s.gs.length)]]) (fun H => [(0, .rows 18 (H Nat fun _ => s.gs.length) (rowsW H fun _ => s.gs) 100)]) 1 (fun H => .tup [.agg [.slc 0 0 18 (H Nat fun _ => s.gs.length)], .lit (.bool (H Bool fun _ => true))]) (fun H => []) (fun H => [(0, .rows 18 (H Nat fun _ => s.gs.length) (rowsW H fun _ => s.gs) 100)]) 300 (by simp) (fun x hx => ?_) (fun i b hi => ?_) (fun i hi => ?_) (fun i b hi => ?_) ?_
  · simp only [List.mem_cons, List.not_mem_nil, or_false] at hx
    subst hx
    exact .agg fun x hx => by
      simp only [List.mem_cons, List.not_mem_nil, or_false] at hx
      subst hx
      exact .slc (by omega)
  · have := lk_in hi
    simp only [List.mem_cons, List.not_mem_nil, or_false, Prod.mk.injEq] at this
    obtain ⟨rfl, rfl⟩ := this
    exact ⟨by omega, bT_bl okRW _ (fun _ => s.gs) _, _, List.mem_cons_self⟩
  · obtain rfl : i = 0 := by omega
    exact ⟨_, rfl⟩
  · simp only [List.mem_cons, List.not_mem_nil, or_false, Prod.mk.injEq] at hi
    obtain ⟨rfl, rfl⟩ := hi
    exact ⟨_, rfl⟩
  intro X hX hX0 H hH
  conv in Fin.chk _ _ => cbv
  try simp only [Plain_rowsA, Plain_rowsB, Plain_rowsC, Plain_rowsD, Plain_rowsF, Plain_rowsG, Plain_rowsI, Plain_rowsS, Plain_rowsU, Plain_rowsW, Fin.satC_ret, Fin.satC_br, Fin.satC_need, Fin.satC_again, AllP, and_true, true_and, upd, List.length_nil, List.length_cons, Nat.zero_add, if_true, ncast, zqe]
  subst hH
  simp only [stdH, Tl_W]
  refine ⟨⟨fun _ _ => rfl, Shp_W _ _, h0, h1⟩, fun h => ?_, fun h => ?_⟩
  · rw [h2] at h; cases h
  · (repeat' (with_reducible refine And.intro ?_ ?_)) <;> (first | exact True.intro | exact RowsEq.self okRW | exact Eq.refl _)
noncomputable def e_validRegY : Entry := handJ 84 18 100 fun H n g => (rowsW H fun _ => Tl rowW n g, [H Prop fun _ => Shp rowW n g, H Prop fun _ => (Tl rowW n g).length ≤ 2000000, H Prop fun _ => Nsz (Tl rowW n g), H Prop fun _ => okRg (Tl rowW n g) = true])
theorem eok_validRegY : EntryOk Tryz.prog e_validRegY := handJ_ok (by unfold isBody; kernel_rfl) (by
  intro n g hob
  have hs := hob.1
  have hl : (Tl rowW n g).length = n := Tl_len n g
  refine ⟨fun j hj => ⟨?_, ?_⟩, ?_⟩
  · show rowsW stdH (fun _ => Tl rowW n g) j = g j
    rw [hs.row j hj]; exact ((okRW).row (fun _ => Tl rowW n g) j).trans (by rw [Tl_getD hj])
  · exact rows_blx okRW _ j
  · have := c_validRegY ⟨Tl rowW n g⟩ hob.2.1 hob.2.2.1 hob.2.2.2.1
    simp only [stdH, hl] at this ⊢
    exact this)
theorem c_validRegN (r : Rgr) (h0 : r.gs.length ≤ 2000000) (h1 : Nsz r.gs) (h2 : okRg r.gs = false) : ConN Tryz.prog 84 [aT rowJ stdH fun _ => r] [] 0 (.tup [.agg [.lit (.slice none 0 0)], .lit (.bool (stdH Bool fun _ => false))]) [] [] := by
  have hB : Base Tryz.prog (tabΓ [e_validR]) tab := base_of tabOk (ents_cons eok_validR <| ents_nil)
  refine con_m (N := 9) hB (draw_ok hB mixed) Tryz.func84 rfl rfl (fun H => [aT rowJ H fun _ => r]) (fun _ => []) 0 (fun H => .tup [.agg [.lit (.slice none 0 0)], .lit (.bool (H Bool fun _ => false))]) (fun H => []) (fun _ => []) 300 (by simp) (fun x hx => ?_) (by simp [lk]) (by omega) (by simp) ?_
  · simp only [List.mem_cons, List.not_mem_nil, or_false] at hx
    rcases hx with rfl
    · exact aT_bl okRJ _ _
  intro X hX hX0 H hH
  conv in Fin.chk _ _ => cbv
  try simp only [Plain_rowsA, Plain_rowsB, Plain_rowsC, Plain_rowsD, Plain_rowsF, Plain_rowsG, Plain_rowsI, Plain_rowsS, Plain_rowsU, Plain_rowsW, Fin.satC_ret, Fin.satC_br, Fin.satC_need, Fin.satC_again, AllP, and_true, true_and, upd, List.length_nil, List.length_cons, Nat.zero_add, if_true, ncast, zqe]
  simp only [TlW_H hH]
  refine ⟨?_, fun h => ?_, fun h => ?_⟩
  · try simp only [hH, stdH, zql, zqa, zqb, zqc, zqd, peta, ncast, zqe, zqf, zqg, zqh, zqi, ne_eq, zqj, zqk, vrow_I, Arm.eta2, Fld.eta, Grp.eta]
    exact ⟨Shp_W _ _, h0, h1⟩
  · try simp only [hH, stdH, zql, zqa, zqb, zqc, zqd, peta, ncast, zqe, zqf, zqg, zqh, zqi, ne_eq, zqj, zqk, vrow_I, Arm.eta2, Fld.eta, Grp.eta]
  · exfalso
    simp only [hH, stdH, Int.toNat_natCast] at h
    rw [h2] at h
    cases h
noncomputable def e_validRegN : Entry := pureE 84 fun H a => match a with
  | [.agg [.vec 18 r0n r0f]] => some (.tup [.agg [.lit (.slice none 0 0)], .lit (.bool (H Bool fun _ => false))], [H Prop fun _ => Shp rowW r0n r0f, H Prop fun _ => (⟨(Tl rowW r0n r0f)⟩ : Rgr).gs.length ≤ 2000000, H Prop fun _ => Nsz (⟨(Tl rowW r0n r0f)⟩ : Rgr).gs, H Prop fun _ => okRg (⟨(Tl rowW r0n r0f)⟩ : Rgr).gs = false])
  | _ => none
theorem eok_validRegN : EntryOk Tryz.prog e_validRegN := pureM_ok (by unfold isBody; kernel_rfl) (by
  intro a r ob e hob
  split at e
  · rename_i r0n r0f
    simp only [Option.some.injEq, Prod.mk.injEq] at e
    obtain ⟨rfl, rfl⟩ := e
    exact ConN.args (.cons (.agg (.cons (.toT okRW rfl hob.1) .nil)) .nil) (c_validRegN (⟨(Tl rowW r0n r0f)⟩ : Rgr) hob.2.1 hob.2.2.1 hob.2.2.2.1)
  · simp at e)
theorem put2_setN {l : List Grt} {i : Nat} {nm : ByteArray} (h : i < l.length) : put2 i 1 [.lit (.string nm)] (rowsW stdH fun _ => l) = rowsW stdH fun _ => setN l i nm := by
  funext q
  by_cases hq : q = i
  · subst hq
    rw [put2_same]
    have e : (rowsW stdH (fun _ => setN l q nm) q) = rowW.cells stdH fun _ => nmG (l.getD q default) nm := by
      rw [show rowsW stdH (fun _ => setN l q nm) q = rowW.cells stdH (fun _ => (setN l q nm).getD q default) from rfl, setN_same nm h]
    rw [e]
    rfl
  · rw [put2_ne hq]
    rw [show rowsW stdH (fun _ => setN l i nm) q = rowW.cells stdH (fun _ => (setN l i nm).getD q default) from rfl, setN_ne nm hq]
    rfl
theorem put1_setN {l : List Grt} {i : Nat} {nm : ByteArray} (h : i < l.length) : put1 i (rowW.cells stdH fun _ => nmG (l.getD i default) nm) (rowsW stdH fun _ => l) = rowsW stdH fun _ => setN l i nm := by
  funext q
  by_cases hq : q = i
  · subst hq
    rw [put1_same]
    rw [show rowsW stdH (fun _ => setN l q nm) q = rowW.cells stdH (fun _ => (setN l q nm).getD q default) from rfl, setN_same nm h]
  · rw [put1_ne hq]
    rw [show rowsW stdH (fun _ => setN l i nm) q = rowW.cells stdH (fun _ => (setN l i nm).getD q default) from rfl, setN_ne nm hq]
    rfl
theorem Tl_setN (l : List Grt) (i : Nat) (nm : ByteArray) : Tl rowW l.length (rowsW stdH fun _ => setN l i nm) = setN l i nm := by
  have := Tl_W (setN l i nm)
  rwa [setN_len] at this
theorem Nsz_setN {l : List Grt} (i : Nat) {nm : ByteArray} (h : Nsz l) (hn : nm.size ≤ 2000000) : Nsz (setN l i nm) := ⟨fun g hg => by
  unfold setN at hg
  rcases List.mem_or_eq_of_mem_set hg with hg | rfl
  · exact h.le g hg
  · exact hn⟩
theorem c_l16Find (r : Rgr) (x : Int) (h0 : r.gs.length ≤ 2000000) : ConN Tryz.prog 85 [aT rowJ stdH fun _ => r, .lit (.int .i64 x)] [] 0 (.lit (.int .i64 (stdH Int fun _ => trI r.gs x))) [] [] := by
  have hB : Base Tryz.prog (tabΓ []) tab := base_of tabOk (ents_nil)
  refine con_m (N := 22) hB (draw_ok hB mixed) Tryz.func85 rfl rfl (fun H => [aT rowJ H fun _ => r, .lit (.int .i64 x)]) (fun _ => []) 0 (fun H => .lit (.int .i64 (H Int fun _ => trI r.gs x))) (fun H => []) (fun _ => []) 100 (by simp) (fun x hx => ?_) (by simp [lk]) (by omega) (by simp) ?_
  · simp only [List.mem_cons, List.not_mem_nil, or_false] at hx
    rcases hx with rfl | rfl
    · exact aT_bl okRJ _ _
    · exact .lit
  intro X hX hX0 H hH
  conv in Fin.chk _ _ => cbv
  try simp only [Plain_rowsA, Plain_rowsB, Plain_rowsC, Plain_rowsD, Plain_rowsF, Plain_rowsG, Plain_rowsI, Plain_rowsS, Plain_rowsU, Plain_rowsW, Fin.satC_ret, Fin.satC_br, Fin.satC_need, Fin.satC_again, AllP, and_true, true_and, upd, List.length_nil, List.length_cons, Nat.zero_add, if_true, ncast, zqe]
  refine loop_a hB (draw_ok hB mixed) hX hX0 hH false (ι := { i : Nat // i ≤ r.gs.length ∧ ∀ j, j < i → nuE x (r.gs.getD j default) = false }) 100 (fun i => [.i (H Int fun _ => 0), .i (H Int fun _ => (i.1 : Nat))]) (fun i => r.gs.length - i.1) (⟨0, by omega, by omega⟩) ?_ ?_
  · (conv in matchSt _ _ _ _ => cbv); simp only [AllG, AllP, and_true, hH, stdH, zql, ncast, zqe, vrow_I, Arm.eta2, Fld.eta, Grp.eta]
    all_goals (repeat' (with_reducible refine And.intro ?_ ?_)) <;> (first | exact Eq.refl _ | exact True.intro | exact Nat.le_refl _ | exact RowsEq.self okRW | exact RowsEq.ofT okRW rfl (Shp_zero _) rfl | exact RowsEq.snoc okRW rfl | exact List.length_append | exact c.rqN)
  · intro I hI i
    conv in Fin.chk _ _ => cbv
    try simp only [Plain_rowsA, Plain_rowsB, Plain_rowsC, Plain_rowsD, Plain_rowsF, Plain_rowsG, Plain_rowsI, Plain_rowsS, Plain_rowsU, Plain_rowsW, Fin.satC_ret, Fin.satC_br, Fin.satC_need, Fin.satC_again, AllP, and_true, true_and, upd, List.length_nil, List.length_cons, Nat.zero_add, if_true, ncast, zqe]
    obtain ⟨i, hi, hj⟩ := i
    refine ⟨fun h1 => ⟨?_, fun h2 => ?_, fun h2 => ?_⟩, fun h1 => ?_⟩
    · simp only [hH, stdH, zql, zqa, zqb, zqc, zqd, peta, ncast, zqe, zqf, zqg, zqh, zqi, ne_eq, zqj, zqk, vrow_I, Arm.eta2, Fld.eta, Grp.eta] at h1 ⊢
      omega
    · simp only [hH, stdH, zql, zqa, zqb, zqc, zqd, peta, ncast, zqe, zqf, zqg, zqh, zqi, ne_eq, zqj, zqk, vrow_I, Arm.eta2, Fld.eta, Grp.eta] at h1
      simp only [hH, stdH, Int.toNat_natCast] at h2
      try simp only [hH, stdH, zql, zqa, zqb, zqc, zqd, peta, ncast, zqe, zqf, zqg, zqh, zqi, ne_eq, zqj, zqk, vrow_I, Arm.eta2, Fld.eta, Grp.eta]
      exact idxF_at default (by omega) h2 hj
    · simp only [hH, stdH, zql, zqa, zqb, zqc, zqd, peta, ncast, zqe, zqf, zqg, zqh, zqi, ne_eq, zqj, zqk, vrow_I, Arm.eta2, Fld.eta, Grp.eta] at h1
      simp only [hH, stdH, Int.toNat_natCast] at h2
      refine ⟨⟨i + 1, by omega, fun j hj' => ?_⟩, by simp only; omega, ?_⟩
      · rcases Nat.lt_succ_iff_lt_or_eq.1 hj' with h | rfl
        · exact hj j h
        · exact h2
      · rw [hI]
        (conv in matchSt _ _ _ _ => cbv); simp only [AllG, AllP, and_true, hH, stdH, zql, ncast, zqe, vrow_I, Arm.eta2, Fld.eta, Grp.eta]
        rw [w1 (by omega)]
        all_goals (repeat' (with_reducible refine And.intro ?_ ?_)) <;> (first | exact Eq.refl _ | exact True.intro | exact Nat.le_refl _ | exact RowsEq.self okRW | exact RowsEq.ofT okRW rfl (Shp_zero _) rfl | exact RowsEq.snoc okRW rfl | exact List.length_append | exact c.rqN)
    · simp only [hH, stdH, zql, zqa, zqb, zqc, zqd, peta, ncast, zqe, zqf, zqg, zqh, zqi, ne_eq, zqj, zqk, vrow_I, Arm.eta2, Fld.eta, Grp.eta] at h1
      try simp only [hH, stdH, zql, zqa, zqb, zqc, zqd, peta, ncast, zqe, zqf, zqg, zqh, zqi, ne_eq, zqj, zqk, vrow_I, Arm.eta2, Fld.eta, Grp.eta]
      exact idxF_no default fun j hj' => hj j (by omega)
noncomputable def e_l16Find : Entry := pureE 85 fun H a => match a with
  | [.agg [.vec 18 r0n r0f], .lit (.int .i64 x)] => some (.lit (.int .i64 (H Int fun _ => trI (⟨(Tl rowW r0n r0f)⟩ : Rgr).gs x)), [H Prop fun _ => Shp rowW r0n r0f, H Prop fun _ => (⟨(Tl rowW r0n r0f)⟩ : Rgr).gs.length ≤ 2000000])
  | _ => none
theorem eok_l16Find : EntryOk Tryz.prog e_l16Find := pureM_ok (by unfold isBody; kernel_rfl) (by
  intro a r ob e hob
  split at e
  · rename_i r0n r0f x
    simp only [Option.some.injEq, Prod.mk.injEq] at e
    obtain ⟨rfl, rfl⟩ := e
    exact ConN.args (.cons (.agg (.cons (.toT okRW rfl hob.1) .nil)) (.cons .rfl .nil)) (c_l16Find (⟨(Tl rowW r0n r0f)⟩ : Rgr) x hob.2.1)
  · simp at e)
theorem c_transHY (r : Rgr) (x : Int) (s : ByteArray) (h0 : r.gs.length ≤ 2000000) (h1 : Nsz r.gs) (h2 : s.size ≤ 2000000) (h3 : trO r.gs x s = true) : ConN Tryz.prog 21 [aT rowJ stdH fun _ => r, .lit (.int .i64 x), .lit (.string s)] [] 0 (.tup [aT rowJ stdH fun _ => ⟨trR r.gs x s⟩, .lit (.bool (stdH Bool fun _ => true))]) [] [] := by
  have hB : Base Tryz.prog (tabΓ [e_validR, e_grantIn, e_cloneR, e_validRegY]) tabA := base_of tabOkA (ents_cons eok_validR <| ents_cons eok_grantIn <| ents_cons eok_cloneR <| ents_cons eok_validRegY <| ents_nil)
  refine con_m (N := 33) hB (draw_ok hB mixed) Tryz.func21 rfl rfl (fun H => [aT rowJ H fun _ => r, .lit (.int .i64 x), .lit (.string s)]) (fun _ => []) 0 (fun H => .tup [aT rowJ H fun _ => ⟨trR r.gs x s⟩, .lit (.bool (H Bool fun _ => true))]) (fun H => []) (fun _ => []) 300 (by simp) (fun x hx => ?_) (by simp [lk]) (by omega) (by simp) ?_
  · simp only [List.mem_cons, List.not_mem_nil, or_false] at hx
    rcases hx with rfl | rfl | rfl
    · exact aT_bl okRJ _ _
    · exact .lit
    · exact .lit
  intro X hX hX0 H hH
  conv in Fin.chk _ _ => cbv
  try simp only [Plain_rowsA, Plain_rowsB, Plain_rowsC, Plain_rowsD, Plain_rowsF, Plain_rowsG, Plain_rowsI, Plain_rowsS, Plain_rowsU, Plain_rowsW, Fin.satC_ret, Fin.satC_br, Fin.satC_need, Fin.satC_again, AllP, and_true, true_and, upd, List.length_nil, List.length_cons, Nat.zero_add, if_true, ncast, zqe]
  obtain ⟨g1, g2, g3, g4⟩ := trO_in h3
  have g5 : okRg (setN r.gs (trI r.gs x).toNat s) = true := (okRg_setN s g1 g3).trans g4
  have eR : trR r.gs x s = setN r.gs (trI r.gs x).toNat s := if_pos h3
  have eI : idxF (nuE x) r.gs = trI r.gs x := rfl
  have g6 := Nsz_setN (trI r.gs x).toNat h1 h2
  have c1 : (bif !okRg r.gs then true else decide (trI r.gs x < 0)) = false := by rw [g1]; exact decide_eq_false (by omega)
  have hq := RowsEq.self okRW (k := 18) (L := setN r.gs (trI r.gs x).toNat s)
  simp only [setN_len] at hq
  subst hH
  simp only [stdH, eI, eR, c1, Tl_W, put2_setN g3, Tl_setN, setN_len]
  (repeat' (first | exact fun _ _ => rfl | exact Shp_W _ _ | assumption | exact True.intro | exact Eq.refl _ | exact Nat.le_refl _ | omega | exact RowsEq.self okRW | (with_reducible refine And.intro ?_ ?_) | (intro h9; first | exact absurd h9 (by decide) | skip)))
noncomputable def e_transHY : Entry := pureE 21 fun H a => match a with
  | [.agg [.vec 18 r0n r0f], .lit (.int .i64 x), .lit (.string s)] => some (.tup [aT rowJ H fun _ => ⟨trR (⟨(Tl rowW r0n r0f)⟩ : Rgr).gs x s⟩, .lit (.bool (H Bool fun _ => true))], [H Prop fun _ => Shp rowW r0n r0f, H Prop fun _ => (⟨(Tl rowW r0n r0f)⟩ : Rgr).gs.length ≤ 2000000, H Prop fun _ => Nsz (⟨(Tl rowW r0n r0f)⟩ : Rgr).gs, H Prop fun _ => s.size ≤ 2000000, H Prop fun _ => trO (⟨(Tl rowW r0n r0f)⟩ : Rgr).gs x s = true])
  | _ => none
theorem eok_transHY : EntryOk Tryz.prog e_transHY := pureM_ok (by unfold isBody; kernel_rfl) (by
  intro a r ob e hob
  split at e
  · rename_i r0n r0f x s
    simp only [Option.some.injEq, Prod.mk.injEq] at e
    obtain ⟨rfl, rfl⟩ := e
    exact ConN.args (.cons (.agg (.cons (.toT okRW rfl hob.1) .nil)) (.cons .rfl (.cons .rfl .nil))) (c_transHY (⟨(Tl rowW r0n r0f)⟩ : Rgr) x s hob.2.1 hob.2.2.1 hob.2.2.2.1 hob.2.2.2.2.1)
  · simp at e)
theorem c_transHN (r : Rgr) (x : Int) (s : ByteArray) (h0 : r.gs.length ≤ 2000000) (h1 : Nsz r.gs) (h2 : s.size ≤ 2000000) (h3 : trO r.gs x s = false) : ConN Tryz.prog 21 [aT rowJ stdH fun _ => r, .lit (.int .i64 x), .lit (.string s)] [] 0 (.tup [aT rowJ stdH fun _ => ⟨[]⟩, .lit (.bool (stdH Bool fun _ => false))]) [] [] := by
  have hB : Base Tryz.prog (tabΓ [e_validR, e_grantIn, e_cloneR, e_validRegN]) tabA := base_of tabOkA (ents_cons eok_validR <| ents_cons eok_grantIn <| ents_cons eok_cloneR <| ents_cons eok_validRegN <| ents_nil)
  refine con_m (N := 33) hB (draw_ok hB mixed) Tryz.func21 rfl rfl (fun H => [aT rowJ H fun _ => r, .lit (.int .i64 x), .lit (.string s)]) (fun _ => []) 0 (fun H => .tup [aT rowJ H fun _ => ⟨[]⟩, .lit (.bool (H Bool fun _ => false))]) (fun H => []) (fun _ => []) 300 (by simp) (fun x hx => ?_) (by simp [lk]) (by omega) (by simp) ?_
  · simp only [List.mem_cons, List.not_mem_nil, or_false] at hx
    rcases hx with rfl | rfl | rfl
    · exact aT_bl okRJ _ _
    · exact .lit
    · exact .lit
  intro X hX hX0 H hH
  conv in Fin.chk _ _ => cbv
  try simp only [Plain_rowsA, Plain_rowsB, Plain_rowsC, Plain_rowsD, Plain_rowsF, Plain_rowsG, Plain_rowsI, Plain_rowsS, Plain_rowsU, Plain_rowsW, Fin.satC_ret, Fin.satC_br, Fin.satC_need, Fin.satC_again, AllP, and_true, true_and, upd, List.length_nil, List.length_cons, Nat.zero_add, if_true, ncast, zqe]
  have eI : idxF (nuE x) r.gs = trI r.gs x := rfl
  subst hH
  simp only [stdH, eI, Tl_W]
  cases c1 : (bif !okRg r.gs then true else decide (trI r.gs x < 0)) with
  | true =>
    (repeat' (first | exact fun _ _ => rfl | exact Shp_W _ _ | assumption | exact True.intro | exact Eq.refl _ | exact Nat.le_refl _ | omega | exact RowsEq.self okRW | (with_reducible refine And.intro ?_ ?_) | (intro h9; first | exact absurd h9 (by decide) | skip)))
  | false =>
    have g1 : okRg r.gs = true := by
      cases e : okRg r.gs with
      | true => rfl
      | false => rw [e] at c1; cases c1
    have g2 : 0 ≤ trI r.gs x := by
      rw [g1] at c1
      have := of_decide_eq_false c1
      omega
    have g3 : (trI r.gs x).toNat < r.gs.length := by
      have : trI r.gs x < (r.gs.length : Nat) := idxF_up _ _ g2
      omega
    have g4 : okNm s = false := by
      unfold trO at h3
      rw [g1, decide_eq_true g2] at h3
      exact h3
    have g5 : okRg (setN r.gs (trI r.gs x).toNat s) = false := (okRg_setN s g1 g3).trans g4
    have g6 := Nsz_setN (trI r.gs x).toNat h1 h2
    simp only [put2_setN g3, Tl_setN, setN_len]
    (repeat' (first | exact fun _ _ => rfl | exact Shp_W _ _ | assumption | exact True.intro | exact Eq.refl _ | exact Nat.le_refl _ | omega | exact RowsEq.self okRW | (with_reducible refine And.intro ?_ ?_) | (intro h9; first | exact absurd h9 (by decide) | skip)))
noncomputable def e_transHN : Entry := pureE 21 fun H a => match a with
  | [.agg [.vec 18 r0n r0f], .lit (.int .i64 x), .lit (.string s)] => some (.tup [aT rowJ H fun _ => ⟨[]⟩, .lit (.bool (H Bool fun _ => false))], [H Prop fun _ => Shp rowW r0n r0f, H Prop fun _ => (⟨(Tl rowW r0n r0f)⟩ : Rgr).gs.length ≤ 2000000, H Prop fun _ => Nsz (⟨(Tl rowW r0n r0f)⟩ : Rgr).gs, H Prop fun _ => s.size ≤ 2000000, H Prop fun _ => trO (⟨(Tl rowW r0n r0f)⟩ : Rgr).gs x s = false])
  | _ => none
theorem eok_transHN : EntryOk Tryz.prog e_transHN := pureM_ok (by unfold isBody; kernel_rfl) (by
  intro a r ob e hob
  split at e
  · rename_i r0n r0f x s
    simp only [Option.some.injEq, Prod.mk.injEq] at e
    obtain ⟨rfl, rfl⟩ := e
    exact ConN.args (.cons (.agg (.cons (.toT okRW rfl hob.1) .nil)) (.cons .rfl (.cons .rfl .nil))) (c_transHN (⟨(Tl rowW r0n r0f)⟩ : Rgr) x s hob.2.1 hob.2.2.1 hob.2.2.2.1 hob.2.2.2.2.1)
  · simp at e)
theorem c_transS (r : Rgr) (x : Int) (s : ByteArray) (h0 : r.gs.length ≤ 2000000) (h1 : Nsz r.gs) (h2 : s.size ≤ 2000000) : ConN Tryz.prog 22 [aT rowJ stdH fun _ => r, .lit (.int .i64 x), .lit (.string s)] [] 0 (.tup [aT rowJ stdH fun _ => ⟨trR r.gs x s⟩, .lit (.bool (stdH Bool fun _ => trO r.gs x s))]) [] [] := by
  have hB : Base Tryz.prog (tabΓ [e_l16Good, e_l16Find, e_l16Own, e_l16Name]) tabA := base_of tabOkA (ents_cons eok_l16Good <| ents_cons eok_l16Find <| ents_cons eok_l16Own <| ents_cons eok_l16Name <| ents_nil)
  refine con_m (N := 42) hB (draw_ok hB mixed) Tryz.func22 rfl rfl (fun H => [aT rowJ H fun _ => r, .lit (.int .i64 x), .lit (.string s)]) (fun _ => []) 0 (fun H => .tup [aT rowJ H fun _ => ⟨trR r.gs x s⟩, .lit (.bool (H Bool fun _ => trO r.gs x s))]) (fun H => []) (fun _ => []) 300 (by simp) (fun x hx => ?_) (by simp [lk]) (by omega) (by simp) ?_
  · simp only [List.mem_cons, List.not_mem_nil, or_false] at hx
    rcases hx with rfl | rfl | rfl
    · exact aT_bl okRJ _ _
    · exact .lit
    · exact .lit
  intro X hX hX0 H hH
  conv in Fin.chk _ _ => cbv
  try simp only [Plain_rowsA, Plain_rowsB, Plain_rowsC, Plain_rowsD, Plain_rowsF, Plain_rowsG, Plain_rowsI, Plain_rowsS, Plain_rowsU, Plain_rowsW, Fin.satC_ret, Fin.satC_br, Fin.satC_need, Fin.satC_again, AllP, and_true, true_and, upd, List.length_nil, List.length_cons, Nat.zero_add, if_true, ncast, zqe]
  have c2 : (bif bif !okRg r.gs then true else decide (trI r.gs x < 0) then true else !okNm s) = !trO r.gs x s := by
    unfold trO
    by_cases q : trI r.gs x < 0
    · rw [decide_eq_true q, decide_eq_false (show ¬ 0 ≤ trI r.gs x by omega)]
      cases okRg r.gs <;> cases okNm s <;> rfl
    · rw [decide_eq_false q, decide_eq_true (show 0 ≤ trI r.gs x by omega)]
      cases okRg r.gs <;> cases okNm s <;> rfl
  subst hH
  simp only [stdH, Tl_W, c2]
  cases h3 : trO r.gs x s with
  | false =>
    have e := trR_no h3
    rw [e]
    simp only [Bool.not_false, Bool.not_true]
    (repeat' (first | exact fun _ _ => rfl | exact Shp_W _ _ | assumption | exact True.intro | exact Eq.refl _ | exact Nat.le_refl _ | omega | exact RowsEq.self okRW | (with_reducible refine And.intro ?_ ?_) | (intro h9; first | exact absurd h9 (by decide) | skip)))
  | true =>
    obtain ⟨g1, g2, g3, g4⟩ := trO_in h3
    have eR : trR r.gs x s = setN r.gs (trI r.gs x).toNat s := if_pos h3
    have hq := RowsEq.self okRW (k := 18) (L := setN r.gs (trI r.gs x).toNat s)
    simp only [setN_len] at hq
    have hp : put1 (trI r.gs x).toNat _ (rowsW stdH fun _ => r.gs) = rowsW stdH fun _ => setN r.gs (trI r.gs x).toNat s := put1_setN g3
    simp only [rowW, nmG, stdH] at hp
    simp only [Bool.not_false, Bool.not_true, eR, setN_len, hp]
    (repeat' (first | exact fun _ _ => rfl | exact Shp_W _ _ | assumption | exact True.intro | exact Eq.refl _ | exact Nat.le_refl _ | omega | exact RowsEq.self okRW | (with_reducible refine And.intro ?_ ?_) | (intro h9; first | exact absurd h9 (by decide) | skip)))
noncomputable def e_transS : Entry := pureE 22 fun H a => match a with
  | [.agg [.vec 18 r0n r0f], .lit (.int .i64 x), .lit (.string s)] => some (.tup [aT rowJ H fun _ => ⟨trR (⟨(Tl rowW r0n r0f)⟩ : Rgr).gs x s⟩, .lit (.bool (H Bool fun _ => trO (⟨(Tl rowW r0n r0f)⟩ : Rgr).gs x s))], [H Prop fun _ => Shp rowW r0n r0f, H Prop fun _ => (⟨(Tl rowW r0n r0f)⟩ : Rgr).gs.length ≤ 2000000, H Prop fun _ => Nsz (⟨(Tl rowW r0n r0f)⟩ : Rgr).gs, H Prop fun _ => s.size ≤ 2000000])
  | _ => none
theorem eok_transS : EntryOk Tryz.prog e_transS := pureM_ok (by unfold isBody; kernel_rfl) (by
  intro a r ob e hob
  split at e
  · rename_i r0n r0f x s
    simp only [Option.some.injEq, Prod.mk.injEq] at e
    obtain ⟨rfl, rfl⟩ := e
    exact ConN.args (.cons (.agg (.cons (.toT okRW rfl hob.1) .nil)) (.cons .rfl (.cons .rfl .nil))) (c_transS (⟨(Tl rowW r0n r0f)⟩ : Rgr) x s hob.2.1 hob.2.2.1 hob.2.2.2.1)
  · simp at e)

end Go.Proofs.YtbnohmfapmeaaaaGreatDoor.AM

