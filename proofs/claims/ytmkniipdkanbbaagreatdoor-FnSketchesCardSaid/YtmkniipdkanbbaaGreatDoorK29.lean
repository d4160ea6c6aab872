/- Lemmas and contracts (Skw); conditions: none. -/
import Derived.Test.YtmkniipdkanbbaaGreatDoorK04
import Derived.Test.YtmkniipdkanbbaaGreatDoorK28
set_option linter.unusedVariables false
set_option linter.unusedSimpArgs false
set_option maxRecDepth 100000
set_option maxHeartbeats 4000000
set_option cbv.maxSteps 3000000
namespace Go.Proofs.YtmkniipdkanbbaaGreatDoor.AM
/- Where the tinctures of sketches stand: the entries; conditions: none. -/
theorem ptrs_ok {P : Program} {f : FuncId} {T E q : Nat} {L0 L : List AV} {offs : List Nat} {i nx : Nat} (hc : ConN P f [.ptr 0 0] [(0, .cells L0 T)] 1 (.slc 1 0 1 q) [.cells (offs.map (AV.ptr 0)) E] [(0, .cells L0 T)]) (hd0 : (Blk.cells L0 T).dead = false) (hd : (Blk.cells L T).dead = false) (hL : L0.length = L.length) (hr : ∀ (c : Nat) (x y : AV), L0[c]? = some x → L[c]? = some y → Rn (fun _ => i) 1 x y) (hb : ∀ x ∈ L0, Bl 0 x) : ConN P f [.ptr i 0] [(i, .cells L T)] nx (.slc nx 0 1 q) [.cells (offs.map (AV.ptr i)) E] [(i, .cells L0 T)] := by
  refine hc.renW (fun _ => i) (fun q hq => ⟨_, by obtain rfl : q = 0 := (by omega); rfl⟩) rfl (fun c x z hx hz => ?_) (fun q b hq => ?_) (by omega) rfl (.slc ⟨by omega, by simp⟩ (by omega)) (fun q b hq => ?_) (fun q b hq => ?_) (fun q b hq => ?_)
  · cases c with
    | zero =>
      simp only [List.getElem?_cons_zero, Option.some.injEq] at hx hz
      subst hx; subst hz
      exact Rn.ptr (π := fun _ => i) (i := 0) (by omega)
    | succ c => simp at hx
  · have := lk_in hq
    simp only [zqu, Prod.mk.injEq] at this
    obtain ⟨rfl, rfl⟩ := this
    refine ⟨by omega, .cells L T, by rw [lk_cons, if_pos rfl], ⟨rfl, fun _ => hd⟩, fun p x hx => ?_⟩
    have hx : L0[p]? = some x := hx
    have hp : p < L.length := by rw [← hL]; exact (List.getElem?_eq_some_iff.1 hx).1
    exact ⟨_, List.getElem?_eq_getElem hp, hr p x _ hx (List.getElem?_eq_getElem hp)⟩
  · cases q with
    | zero =>
      simp only [List.getElem?_cons_zero, Option.some.injEq] at hq
      subst hq
      refine ⟨_, rfl, rfl, fun p x hx => ?_⟩
      have hx : (offs.map (AV.ptr i))[p]? = some x := hx
      rw [List.getElem?_map] at hx
      cases ho : offs[p]? with
      | none => rw [ho] at hx; cases hx
      | some y =>
        rw [ho] at hx
        simp only [Option.map_some, Option.some.injEq] at hx
        subst hx
        refine ⟨.ptr 0 y, ?_, Rw.ptrO (π := fun _ => i) (i := 0) (by omega)⟩
        show (offs.map (AV.ptr 0))[p]? = _
        rw [List.getElem?_map, ho]; rfl
    | succ q => simp at hq
  · simp only [zqu, Prod.mk.injEq] at hq
    obtain ⟨rfl, rfl⟩ := hq
    exact ⟨0, _, by omega, rfl, List.mem_cons_self, rfl, fun p x hx => ⟨x, hx, .pl (hb x (List.mem_of_getElem? hx))⟩⟩
  · simp only [zqu, Prod.mk.injEq] at hq
    obtain ⟨rfl, rfl⟩ := hq
    exact ⟨by omega, ⟨_, List.mem_cons_self⟩, fun h => by rw [hd0] at h; cases h⟩
theorem ptrz_ok {P : Program} {f : FuncId} {T E : Nat} {g : Nat → List AV} {L0 L : List AV} {i nx : Nat} (hc : ConN P f [.ptr 0 0] [(0, .cells L0 T)] 1 (.slc 1 0 1 0) [.rows 1 0 g E] [(0, .cells L0 T)]) (hd0 : (Blk.cells L0 T).dead = false) (hd : (Blk.cells L T).dead = false) (hL : L0.length = L.length) (hr : ∀ (c : Nat) (x y : AV), L0[c]? = some x → L[c]? = some y → Rn (fun _ => i) 1 x y) (hb : ∀ x ∈ L0, Bl 0 x) : ConN P f [.ptr i 0] [(i, .cells L T)] nx (.slc nx 0 1 0) [.rows 1 0 g E] [(i, .cells L0 T)] := by
  refine hc.renW (fun _ => i) (fun q hq => ⟨_, by obtain rfl : q = 0 := (by omega); rfl⟩) rfl (fun c x z hx hz => ?_) (fun q b hq => ?_) (by omega) rfl (.slc ⟨by omega, by simp⟩ (by omega)) (fun q b hq => ?_) (fun q b hq => ?_) (fun q b hq => ?_)
  · cases c with
    | zero =>
      simp only [List.getElem?_cons_zero, Option.some.injEq] at hx hz
      subst hx; subst hz
      exact Rn.ptr (π := fun _ => i) (i := 0) (by omega)
    | succ c => simp at hx
  · have := lk_in hq
    simp only [zqu, Prod.mk.injEq] at this
    obtain ⟨rfl, rfl⟩ := this
    refine ⟨by omega, .cells L T, by rw [lk_cons, if_pos rfl], ⟨rfl, fun _ => hd⟩, fun p x hx => ?_⟩
    have hx : L0[p]? = some x := hx
    have hp : p < L.length := by rw [← hL]; exact (List.getElem?_eq_some_iff.1 hx).1
    exact ⟨_, List.getElem?_eq_getElem hp, hr p x _ hx (List.getElem?_eq_getElem hp)⟩
  · cases q with
    | zero =>
      simp only [List.getElem?_cons_zero, Option.some.injEq] at hq
      subst hq
      exact ⟨_, rfl, rfl, fun p x hx => by simp [Blk.at] at hx⟩
    | succ q => simp at hq
  · simp only [zqu, Prod.mk.injEq] at hq
    obtain ⟨rfl, rfl⟩ := hq
    exact ⟨0, _, by omega, rfl, List.mem_cons_self, rfl, fun p x hx => ⟨x, hx, .pl (hb x (List.mem_of_getElem? hx))⟩⟩
  · simp only [zqu, Prod.mk.injEq] at hq
    obtain ⟨rfl, rfl⟩ := hq
    exact ⟨by omega, ⟨_, List.mem_cons_self⟩, fun h => by rw [hd0] at h; cases h⟩
theorem rn_same {i : Nat} {L : List AV} (hb : ∀ x ∈ L, Bl 0 x) {c : Nat} {x y : AV} (hx : L[c]? = some x) (hy : L[c]? = some y) : Rn (fun _ => i) 1 x y := by
  rw [hx] at hy; injection hy with hy; subst hy
  exact .same (q := 0) (by omega) (by omega) (hb x (List.mem_of_getElem? hx))
theorem vl_bl' {α : Type} {D : RowD α} (ok : RowOk D) (L : List α) {n : Nat} (h : L.length = n) (m : Nat) (hk : 2 = D.k := by rfl) : Bl m (.vec 2 n (rowsT D stdH fun _ => L)) := by subst h; exact vl_bl ok L m hk
theorem yrow {n : Nat} {f : Nat → List AV} (h : Shp rowY n f) (j : Nat) (hj : j < n) : rowsY stdH (fun _ => Tl rowY n f) j = f j := by
  rw [h.row j hj]
  exact (okRY.row (fun _ => Tl rowY n f) j).trans (by rw [Tl_getD hj])
theorem rn_k {i : Nat} {A : List AV} {z w : AV} (hA : A.length = 15) (hz : Rn (fun _ => i) 1 z w) (hbl : ∀ x ∈ A ++ [z], Bl 0 x) (c : Nat) (x y : AV) (hx : (A ++ [z])[c]? = some x) (hy : (A ++ [w])[c]? = some y) : Rn (fun _ => i) 1 x y := by
  by_cases h : c < 15
  · rw [List.getElem?_append_left (by omega)] at hy
    have hb := hbl x (List.mem_of_getElem? hx)
    rw [List.getElem?_append_left (by omega), hy] at hx
    injection hx with hx; subst hx
    exact .same (q := 0) (by omega) (by omega) hb
  · by_cases h15 : c = 15
    · subst h15
      rw [List.getElem?_append_right (by omega), hA] at hx hy
      simp only [Nat.sub_self, List.getElem?_cons_zero, Option.some.injEq] at hx hy
      subst hx; subst hy
      exact hz
    · rw [List.getElem?_eq_none (by simp; omega)] at hx
      cases hx
noncomputable def e_ptrA000 : Entry := ⟨41, fun H a h nx => match a with
  | [.ptr i 0] => (match lk i h with
    | some (.cells [.lit (.int .i64 x0), .lit (.int .i64 x1), .lit (.int .i64 x2), .lit (.int .i64 x3), .lit (.int .i64 x4), .lit (.int .i64 x5), .lit (.int .i64 x6), .lit (.int .i64 x7), .lit (.int .i64 x8), .lit (.int .i64 x9), .lit (.int .i64 x10), .lit (.int .i64 x11), .lit (.int .i64 x12), .lit (.int .i64 x13), .lit (.int .i64 x14)] T') => bif Nat.beq T' 27 then some (.slc nx 0 1 0, [.rows 1 0 (rowsOf 1 []) 69], [i], [(i, .cells (cX x0 x1 x2 x3 x4 x5 x6 x7 x8 x9 x10 x11 x12 x13 x14 []) 27)], [H Prop fun _ => decide (x4 = 0) = true, H Prop fun _ => noG ⟨x7, x8, x9, x10⟩ = true, H Prop fun _ => noG ⟨x11, x12, x13, x14⟩ = true]) else none
    | _ => none)
  | _ => none⟩
theorem eok_ptrA000 : EntryOk Tryz.prog e_ptrA000 := ⟨by unfold isBody; kernel_rfl, fun a hp nx r nb rd u ob e hob => by
  simp only [e_ptrA000] at e
  split at e
  · rename_i i
    split at e
    · rename_i x0 x1 x2 x3 x4 x5 x6 x7 x8 x9 x10 x11 x12 x13 x14 T' hlk
      cases hc : Nat.beq T' 27 with
      | false => rw [hc] at e; cases e
      | true =>
      rw [hc, cond_true] at e
      obtain rfl := Nat.eq_of_beq_eq_true hc
      simp only [zqt] at e
      obtain ⟨rfl, rfl, rfl, rfl, rfl⟩ := e
      obtain ⟨o1, o2, o3, _⟩ := hob
      refine ⟨fun q b hq => ?_, [(i, .cells (cX x0 x1 x2 x3 x4 x5 x6 x7 x8 x9 x10 x11 x12 x13 x14 []) 27)], fun q b hq => ?_, ?_⟩
      · simp only [zqu, Prod.mk.injEq] at hq
        obtain ⟨rfl, rfl⟩ := hq
        exact ⟨by simp, _, hlk, rfl⟩
      · rw [lk_cons] at hq
        by_cases hi : i = q
        · rw [if_pos hi] at hq; injection hq with hq; subst hq; subst hi; exact ⟨by simp, hlk⟩
        · rw [if_neg hi] at hq; simp [lk] at hq
      · skip
        have hbl : ∀ x ∈ ((cX x0 x1 x2 x3 x4 x5 x6 x7 x8 x9 x10 x11 x12 x13 x14 []) : List AV), Bl 0 x := fun x hx => by
          simp only [cA, cX, zqu] at hx
          rcases hx with rfl | rfl | rfl | rfl | rfl | rfl | rfl | rfl | rfl | rfl | rfl | rfl | rfl | rfl | rfl <;> exact .lit
        exact ptrz_ok (c_ptrA000 ⟨⟨x0, x1, x2, x3⟩, x4, x5, x6, ⟨x7, x8, x9, x10⟩, ⟨x11, x12, x13, x14⟩⟩ o1 o2 o3) rfl rfl rfl (fun c x y hx hy => rn_same hbl hx hy) hbl
    · cases e
  · cases e⟩
noncomputable def e_ptrA001 : Entry := ⟨41, fun H a h nx => match a with
  | [.ptr i 0] => (match lk i h with
    | some (.cells [.lit (.int .i64 x0), .lit (.int .i64 x1), .lit (.int .i64 x2), .lit (.int .i64 x3), .lit (.int .i64 x4), .lit (.int .i64 x5), .lit (.int .i64 x6), .lit (.int .i64 x7), .lit (.int .i64 x8), .lit (.int .i64 x9), .lit (.int .i64 x10), .lit (.int .i64 x11), .lit (.int .i64 x12), .lit (.int .i64 x13), .lit (.int .i64 x14)] T') => bif Nat.beq T' 27 then some (.slc nx 0 1 1, [.cells [.ptr i 14] 69], [i], [(i, .cells (cX x0 x1 x2 x3 x4 x5 x6 x7 x8 x9 x10 x11 x12 x13 x14 []) 27)], [H Prop fun _ => decide (x4 = 0) = true, H Prop fun _ => noG ⟨x7, x8, x9, x10⟩ = true, H Prop fun _ => noG ⟨x11, x12, x13, x14⟩ = false]) else none
    | _ => none)
  | _ => none⟩
theorem eok_ptrA001 : EntryOk Tryz.prog e_ptrA001 := ⟨by unfold isBody; kernel_rfl, fun a hp nx r nb rd u ob e hob => by
  simp only [e_ptrA001] at e
  split at e
  · rename_i i
    split at e
    · rename_i x0 x1 x2 x3 x4 x5 x6 x7 x8 x9 x10 x11 x12 x13 x14 T' hlk
      cases hc : Nat.beq T' 27 with
      | false => rw [hc] at e; cases e
      | true =>
      rw [hc, cond_true] at e
      obtain rfl := Nat.eq_of_beq_eq_true hc
      simp only [zqt] at e
      obtain ⟨rfl, rfl, rfl, rfl, rfl⟩ := e
      obtain ⟨o1, o2, o3, _⟩ := hob
      refine ⟨fun q b hq => ?_, [(i, .cells (cX x0 x1 x2 x3 x4 x5 x6 x7 x8 x9 x10 x11 x12 x13 x14 []) 27)], fun q b hq => ?_, ?_⟩
      · simp only [zqu, Prod.mk.injEq] at hq
        obtain ⟨rfl, rfl⟩ := hq
        exact ⟨by simp, _, hlk, rfl⟩
      · rw [lk_cons] at hq
        by_cases hi : i = q
        · rw [if_pos hi] at hq; injection hq with hq; subst hq; subst hi; exact ⟨by simp, hlk⟩
        · rw [if_neg hi] at hq; simp [lk] at hq
      · skip
        have hbl : ∀ x ∈ ((cX x0 x1 x2 x3 x4 x5 x6 x7 x8 x9 x10 x11 x12 x13 x14 []) : List AV), Bl 0 x := fun x hx => by
          simp only [cA, cX, zqu] at hx
          rcases hx with rfl | rfl | rfl | rfl | rfl | rfl | rfl | rfl | rfl | rfl | rfl | rfl | rfl | rfl | rfl <;> exact .lit
        exact ptrs_ok (offs := [14]) (c_ptrA001 ⟨⟨x0, x1, x2, x3⟩, x4, x5, x6, ⟨x7, x8, x9, x10⟩, ⟨x11, x12, x13, x14⟩⟩ o1 o2 o3) rfl rfl rfl (fun c x y hx hy => rn_same hbl hx hy) hbl
    · cases e
  · cases e⟩
noncomputable def e_ptrA100 : Entry := ⟨41, fun H a h nx => match a with
  | [.ptr i 0] => (match lk i h with
    | some (.cells [.lit (.int .i64 x0), .lit (.int .i64 x1), .lit (.int .i64 x2), .lit (.int .i64 x3), .lit (.int .i64 x4), .lit (.int .i64 x5), .lit (.int .i64 x6), .lit (.int .i64 x7), .lit (.int .i64 x8), .lit (.int .i64 x9), .lit (.int .i64 x10), .lit (.int .i64 x11), .lit (.int .i64 x12), .lit (.int .i64 x13), .lit (.int .i64 x14)] T') => bif Nat.beq T' 27 then some (.slc nx 0 1 1, [.cells [.ptr i 6] 69], [i], [(i, .cells (cX x0 x1 x2 x3 x4 x5 x6 x7 x8 x9 x10 x11 x12 x13 x14 []) 27)], [H Prop fun _ => decide (x4 = 0) = false, H Prop fun _ => noG ⟨x7, x8, x9, x10⟩ = true, H Prop fun _ => noG ⟨x11, x12, x13, x14⟩ = true]) else none
    | _ => none)
  | _ => none⟩
theorem eok_ptrA100 : EntryOk Tryz.prog e_ptrA100 := ⟨by unfold isBody; kernel_rfl, fun a hp nx r nb rd u ob e hob => by
  simp only [e_ptrA100] at e
  split at e
  · rename_i i
    split at e
    · rename_i x0 x1 x2 x3 x4 x5 x6 x7 x8 x9 x10 x11 x12 x13 x14 T' hlk
      cases hc : Nat.beq T' 27 with
      | false => rw [hc] at e; cases e
      | true =>
      rw [hc, cond_true] at e
      obtain rfl := Nat.eq_of_beq_eq_true hc
      simp only [zqt] at e
      obtain ⟨rfl, rfl, rfl, rfl, rfl⟩ := e
      obtain ⟨o1, o2, o3, _⟩ := hob
      refine ⟨fun q b hq => ?_, [(i, .cells (cX x0 x1 x2 x3 x4 x5 x6 x7 x8 x9 x10 x11 x12 x13 x14 []) 27)], fun q b hq => ?_, ?_⟩
      · simp only [zqu, Prod.mk.injEq] at hq
        obtain ⟨rfl, rfl⟩ := hq
        exact ⟨by simp, _, hlk, rfl⟩
      · rw [lk_cons] at hq
        by_cases hi : i = q
        · rw [if_pos hi] at hq; injection hq with hq; subst hq; subst hi; exact ⟨by simp, hlk⟩
        · rw [if_neg hi] at hq; simp [lk] at hq
      · skip
        have hbl : ∀ x ∈ ((cX x0 x1 x2 x3 x4 x5 x6 x7 x8 x9 x10 x11 x12 x13 x14 []) : List AV), Bl 0 x := fun x hx => by
          simp only [cA, cX, zqu] at hx
          rcases hx with rfl | rfl | rfl | rfl | rfl | rfl | rfl | rfl | rfl | rfl | rfl | rfl | rfl | rfl | rfl <;> exact .lit
        exact ptrs_ok (offs := [6]) (c_ptrA100 ⟨⟨x0, x1, x2, x3⟩, x4, x5, x6, ⟨x7, x8, x9, x10⟩, ⟨x11, x12, x13, x14⟩⟩ o1 o2 o3) rfl rfl rfl (fun c x y hx hy => rn_same hbl hx hy) hbl
    · cases e
  · cases e⟩
noncomputable def e_ptrA101 : Entry := ⟨41, fun H a h nx => match a with
  | [.ptr i 0] => (match lk i h with
    | some (.cells [.lit (.int .i64 x0), .lit (.int .i64 x1), .lit (.int .i64 x2), .lit (.int .i64 x3), .lit (.int .i64 x4), .lit (.int .i64 x5), .lit (.int .i64 x6), .lit (.int .i64 x7), .lit (.int .i64 x8), .lit (.int .i64 x9), .lit (.int .i64 x10), .lit (.int .i64 x11), .lit (.int .i64 x12), .lit (.int .i64 x13), .lit (.int .i64 x14)] T') => bif Nat.beq T' 27 then some (.slc nx 0 1 2, [.cells [.ptr i 6, .ptr i 14] 69], [i], [(i, .cells (cX x0 x1 x2 x3 x4 x5 x6 x7 x8 x9 x10 x11 x12 x13 x14 []) 27)], [H Prop fun _ => decide (x4 = 0) = false, H Prop fun _ => noG ⟨x7, x8, x9, x10⟩ = true, H Prop fun _ => noG ⟨x11, x12, x13, x14⟩ = false]) else none
    | _ => none)
  | _ => none⟩
theorem eok_ptrA101 : EntryOk Tryz.prog e_ptrA101 := ⟨by unfold isBody; kernel_rfl, fun a hp nx r nb rd u ob e hob => by
  simp only [e_ptrA101] at e
  split at e
  · rename_i i
    split at e
    · rename_i x0 x1 x2 x3 x4 x5 x6 x7 x8 x9 x10 x11 x12 x13 x14 T' hlk
      cases hc : Nat.beq T' 27 with
      | false => rw [hc] at e; cases e
      | true =>
      rw [hc, cond_true] at e
      obtain rfl := Nat.eq_of_beq_eq_true hc
      simp only [zqt] at e
      obtain ⟨rfl, rfl, rfl, rfl, rfl⟩ := e
      obtain ⟨o1, o2, o3, _⟩ := hob
      refine ⟨fun q b hq => ?_, [(i, .cells (cX x0 x1 x2 x3 x4 x5 x6 x7 x8 x9 x10 x11 x12 x13 x14 []) 27)], fun q b hq => ?_, ?_⟩
      · simp only [zqu, Prod.mk.injEq] at hq
        obtain ⟨rfl, rfl⟩ := hq
        exact ⟨by simp, _, hlk, rfl⟩
      · rw [lk_cons] at hq
        by_cases hi : i = q
        · rw [if_pos hi] at hq; injection hq with hq; subst hq; subst hi; exact ⟨by simp, hlk⟩
        · rw [if_neg hi] at hq; simp [lk] at hq
      · skip
        have hbl : ∀ x ∈ ((cX x0 x1 x2 x3 x4 x5 x6 x7 x8 x9 x10 x11 x12 x13 x14 []) : List AV), Bl 0 x := fun x hx => by
          simp only [cA, cX, zqu] at hx
          rcases hx with rfl | rfl | rfl | rfl | rfl | rfl | rfl | rfl | rfl | rfl | rfl | rfl | rfl | rfl | rfl <;> exact .lit
        exact ptrs_ok (offs := [6, 14]) (c_ptrA101 ⟨⟨x0, x1, x2, x3⟩, x4, x5, x6, ⟨x7, x8, x9, x10⟩, ⟨x11, x12, x13, x14⟩⟩ o1 o2 o3) rfl rfl rfl (fun c x y hx hy => rn_same hbl hx hy) hbl
    · cases e
  · cases e⟩
noncomputable def e_ptrA110 : Entry := ⟨41, fun H a h nx => match a with
  | [.ptr i 0] => (match lk i h with
    | some (.cells [.lit (.int .i64 x0), .lit (.int .i64 x1), .lit (.int .i64 x2), .lit (.int .i64 x3), .lit (.int .i64 x4), .lit (.int .i64 x5), .lit (.int .i64 x6), .lit (.int .i64 x7), .lit (.int .i64 x8), .lit (.int .i64 x9), .lit (.int .i64 x10), .lit (.int .i64 x11), .lit (.int .i64 x12), .lit (.int .i64 x13), .lit (.int .i64 x14)] T') => bif Nat.beq T' 27 then some (.slc nx 0 1 2, [.cells [.ptr i 6, .ptr i 10] 69], [i], [(i, .cells (cX x0 x1 x2 x3 x4 x5 x6 x7 x8 x9 x10 x11 x12 x13 x14 []) 27)], [H Prop fun _ => decide (x4 = 0) = false, H Prop fun _ => noG ⟨x7, x8, x9, x10⟩ = false, H Prop fun _ => noG ⟨x11, x12, x13, x14⟩ = true]) else none
    | _ => none)
  | _ => none⟩
theorem eok_ptrA110 : EntryOk Tryz.prog e_ptrA110 := ⟨by unfold isBody; kernel_rfl, fun a hp nx r nb rd u ob e hob => by
  simp only [e_ptrA110] at e
  split at e
  · rename_i i
    split at e
    · rename_i x0 x1 x2 x3 x4 x5 x6 x7 x8 x9 x10 x11 x12 x13 x14 T' hlk
      cases hc : Nat.beq T' 27 with
      | false => rw [hc] at e; cases e
      | true =>
      rw [hc, cond_true] at e
      obtain rfl := Nat.eq_of_beq_eq_true hc
      simp only [zqt] at e
      obtain ⟨rfl, rfl, rfl, rfl, rfl⟩ := e
      obtain ⟨o1, o2, o3, _⟩ := hob
      refine ⟨fun q b hq => ?_, [(i, .cells (cX x0 x1 x2 x3 x4 x5 x6 x7 x8 x9 x10 x11 x12 x13 x14 []) 27)], fun q b hq => ?_, ?_⟩
      · simp only [zqu, Prod.mk.injEq] at hq
        obtain ⟨rfl, rfl⟩ := hq
        exact ⟨by simp, _, hlk, rfl⟩
      · rw [lk_cons] at hq
        by_cases hi : i = q
        · rw [if_pos hi] at hq; injection hq with hq; subst hq; subst hi; exact ⟨by simp, hlk⟩
        · rw [if_neg hi] at hq; simp [lk] at hq
      · skip
        have hbl : ∀ x ∈ ((cX x0 x1 x2 x3 x4 x5 x6 x7 x8 x9 x10 x11 x12 x13 x14 []) : List AV), Bl 0 x := fun x hx => by
          simp only [cA, cX, zqu] at hx
          rcases hx with rfl | rfl | rfl | rfl | rfl | rfl | rfl | rfl | rfl | rfl | rfl | rfl | rfl | rfl | rfl <;> exact .lit
        exact ptrs_ok (offs := [6, 10]) (c_ptrA110 ⟨⟨x0, x1, x2, x3⟩, x4, x5, x6, ⟨x7, x8, x9, x10⟩, ⟨x11, x12, x13, x14⟩⟩ o1 o2 o3) rfl rfl rfl (fun c x y hx hy => rn_same hbl hx hy) hbl
    · cases e
  · cases e⟩
noncomputable def e_ptrA111 : Entry := ⟨41, fun H a h nx => match a with
  | [.ptr i 0] => (match lk i h with
    | some (.cells [.lit (.int .i64 x0), .lit (.int .i64 x1), .lit (.int .i64 x2), .lit (.int .i64 x3), .lit (.int .i64 x4), .lit (.int .i64 x5), .lit (.int .i64 x6), .lit (.int .i64 x7), .lit (.int .i64 x8), .lit (.int .i64 x9), .lit (.int .i64 x10), .lit (.int .i64 x11), .lit (.int .i64 x12), .lit (.int .i64 x13), .lit (.int .i64 x14)] T') => bif Nat.beq T' 27 then some (.slc nx 0 1 3, [.cells [.ptr i 6, .ptr i 10, .ptr i 14] 69], [i], [(i, .cells (cX x0 x1 x2 x3 x4 x5 x6 x7 x8 x9 x10 x11 x12 x13 x14 []) 27)], [H Prop fun _ => decide (x4 = 0) = false, H Prop fun _ => noG ⟨x7, x8, x9, x10⟩ = false, H Prop fun _ => noG ⟨x11, x12, x13, x14⟩ = false]) else none
    | _ => none)
  | _ => none⟩
theorem eok_ptrA111 : EntryOk Tryz.prog e_ptrA111 := ⟨by unfold isBody; kernel_rfl, fun a hp nx r nb rd u ob e hob => by
  simp only [e_ptrA111] at e
  split at e
  · rename_i i
    split at e
    · rename_i x0 x1 x2 x3 x4 x5 x6 x7 x8 x9 x10 x11 x12 x13 x14 T' hlk
      cases hc : Nat.beq T' 27 with
      | false => rw [hc] at e; cases e
      | true =>
      rw [hc, cond_true] at e
      obtain rfl := Nat.eq_of_beq_eq_true hc
      simp only [zqt] at e
      obtain ⟨rfl, rfl, rfl, rfl, rfl⟩ := e
      obtain ⟨o1, o2, o3, _⟩ := hob
      refine ⟨fun q b hq => ?_, [(i, .cells (cX x0 x1 x2 x3 x4 x5 x6 x7 x8 x9 x10 x11 x12 x13 x14 []) 27)], fun q b hq => ?_, ?_⟩
      · simp only [zqu, Prod.mk.injEq] at hq
        obtain ⟨rfl, rfl⟩ := hq
        exact ⟨by simp, _, hlk, rfl⟩
      · rw [lk_cons] at hq
        by_cases hi : i = q
        · rw [if_pos hi] at hq; injection hq with hq; subst hq; subst hi; exact ⟨by simp, hlk⟩
        · rw [if_neg hi] at hq; simp [lk] at hq
      · skip
        have hbl : ∀ x ∈ ((cX x0 x1 x2 x3 x4 x5 x6 x7 x8 x9 x10 x11 x12 x13 x14 []) : List AV), Bl 0 x := fun x hx => by
          simp only [cA, cX, zqu] at hx
          rcases hx with rfl | rfl | rfl | rfl | rfl | rfl | rfl | rfl | rfl | rfl | rfl | rfl | rfl | rfl | rfl <;> exact .lit
        exact ptrs_ok (offs := [6, 10, 14]) (c_ptrA111 ⟨⟨x0, x1, x2, x3⟩, x4, x5, x6, ⟨x7, x8, x9, x10⟩, ⟨x11, x12, x13, x14⟩⟩ o1 o2 o3) rfl rfl rfl (fun c x y hx hy => rn_same hbl hx hy) hbl
    · cases e
  · cases e⟩
noncomputable def e_ptrK000 : Entry := ⟨41, fun H a h nx => match a with
  | [.ptr i 0] => (match lk i h with
    | some (.cells [.lit (.int .i64 x0), .lit (.int .i64 x1), .lit (.int .i64 x2), .lit (.int .i64 x3), .lit (.int .i64 x4), .lit (.int .i64 x5), .lit (.int .i64 x6), .lit (.int .i64 x7), .lit (.int .i64 x8), .lit (.int .i64 x9), .lit (.int .i64 x10), .lit (.int .i64 x11), .lit (.int .i64 x12), .lit (.int .i64 x13), .lit (.int .i64 x14), .vec 2 n f] T') => bif Nat.beq T' 30 then some (.slc nx 0 1 0, [.rows 1 0 (rowsOf 1 []) 69], [i], [(i, .cells (cX x0 x1 x2 x3 x4 x5 x6 x7 x8 x9 x10 x11 x12 x13 x14 [.vec 2 n (rowsY H fun _ => Tl rowY n f)]) 30)], [H Prop fun _ => Shp rowY n f, H Prop fun _ => decide (x4 = 0) = true, H Prop fun _ => noG ⟨x7, x8, x9, x10⟩ = true, H Prop fun _ => noG ⟨x11, x12, x13, x14⟩ = true]) else none
    | _ => none)
  | _ => none⟩
theorem eok_ptrK000 : EntryOk Tryz.prog e_ptrK000 := ⟨by unfold isBody; kernel_rfl, fun a hp nx r nb rd u ob e hob => by
  simp only [e_ptrK000] at e
  split at e
  · rename_i i
    split at e
    · rename_i x0 x1 x2 x3 x4 x5 x6 x7 x8 x9 x10 x11 x12 x13 x14 n f T' hlk
      cases hc : Nat.beq T' 30 with
      | false => rw [hc] at e; cases e
      | true =>
      rw [hc, cond_true] at e
      obtain rfl := Nat.eq_of_beq_eq_true hc
      simp only [zqt] at e
      obtain ⟨rfl, rfl, rfl, rfl, rfl⟩ := e
      obtain ⟨os, o1, o2, o3, _⟩ := hob
      refine ⟨fun q b hq => ?_, [(i, .cells (cX x0 x1 x2 x3 x4 x5 x6 x7 x8 x9 x10 x11 x12 x13 x14 [.vec 2 n f]) 30)], fun q b hq => ?_, ?_⟩
      · simp only [zqu, Prod.mk.injEq] at hq
        obtain ⟨rfl, rfl⟩ := hq
        exact ⟨by simp, _, hlk, rfl⟩
      · rw [lk_cons] at hq
        by_cases hi : i = q
        · rw [if_pos hi] at hq; injection hq with hq; subst hq; subst hi; exact ⟨by simp, hlk⟩
        · rw [if_neg hi] at hq; simp [lk] at hq
      · skip
        have hbl : ∀ x ∈ ((cX x0 x1 x2 x3 x4 x5 x6 x7 x8 x9 x10 x11 x12 x13 x14 [.vec 2 n (rowsY stdH fun _ => Tl rowY n f)]) : List AV), Bl 0 x := fun x hx => by
          simp only [cA, cX, zqu] at hx
          rcases hx with rfl | rfl | rfl | rfl | rfl | rfl | rfl | rfl | rfl | rfl | rfl | rfl | rfl | rfl | rfl | rfl <;> first | exact .lit | exact vl_bl' okRY (Tl rowY n f) (Tl_len n f) _
        have hc := c_ptrK000 ⟨⟨⟨x0, x1, x2, x3⟩, x4, x5, x6, ⟨x7, x8, x9, x10⟩, ⟨x11, x12, x13, x14⟩⟩, Tl rowY n f⟩ o1 o2 o3
        simp only [cA, stdH, Tl_len (D := rowY) n f] at hc
        exact ptrz_ok hc rfl rfl rfl (fun c x y hx hy => rn_k (A := cX x0 x1 x2 x3 x4 x5 x6 x7 x8 x9 x10 x11 x12 x13 x14 []) rfl (Rn.vec (q := 0) (by omega) (by omega) (hbl _ (by simp [cX])) fun j hj => (yrow os j hj)) hbl c x y hx hy) hbl
    · cases e
  · cases e⟩
noncomputable def e_ptrK001 : Entry := ⟨41, fun H a h nx => match a with
  | [.ptr i 0] => (match lk i h with
    | some (.cells [.lit (.int .i64 x0), .lit (.int .i64 x1), .lit (.int .i64 x2), .lit (.int .i64 x3), .lit (.int .i64 x4), .lit (.int .i64 x5), .lit (.int .i64 x6), .lit (.int .i64 x7), .lit (.int .i64 x8), .lit (.int .i64 x9), .lit (.int .i64 x10), .lit (.int .i64 x11), .lit (.int .i64 x12), .lit (.int .i64 x13), .lit (.int .i64 x14), .vec 2 n f] T') => bif Nat.beq T' 30 then some (.slc nx 0 1 1, [.cells [.ptr i 14] 69], [i], [(i, .cells (cX x0 x1 x2 x3 x4 x5 x6 x7 x8 x9 x10 x11 x12 x13 x14 [.vec 2 n (rowsY H fun _ => Tl rowY n f)]) 30)], [H Prop fun _ => Shp rowY n f, H Prop fun _ => decide (x4 = 0) = true, H Prop fun _ => noG ⟨x7, x8, x9, x10⟩ = true, H Prop fun _ => noG ⟨x11, x12, x13, x14⟩ = false]) else none
    | _ => none)
  | _ => none⟩
theorem eok_ptrK001 : EntryOk Tryz.prog e_ptrK001 := ⟨by unfold isBody; kernel_rfl, fun a hp nx r nb rd u ob e hob => by
  simp only [e_ptrK001] at e
  split at e
  · rename_i i
    split at e
    · rename_i x0 x1 x2 x3 x4 x5 x6 x7 x8 x9 x10 x11 x12 x13 x14 n f T' hlk
      cases hc : Nat.beq T' 30 with
      | false => rw [hc] at e; cases e
      | true =>
      rw [hc, cond_true] at e
      obtain rfl := Nat.eq_of_beq_eq_true hc
      simp only [zqt] at e
      obtain ⟨rfl, rfl, rfl, rfl, rfl⟩ := e
      obtain ⟨os, o1, o2, o3, _⟩ := hob
      refine ⟨fun q b hq => ?_, [(i, .cells (cX x0 x1 x2 x3 x4 x5 x6 x7 x8 x9 x10 x11 x12 x13 x14 [.vec 2 n f]) 30)], fun q b hq => ?_, ?_⟩
      · simp only [zqu, Prod.mk.injEq] at hq
        obtain ⟨rfl, rfl⟩ := hq
        exact ⟨by simp, _, hlk, rfl⟩
      · rw [lk_cons] at hq
        by_cases hi : i = q
        · rw [if_pos hi] at hq; injection hq with hq; subst hq; subst hi; exact ⟨by simp, hlk⟩
        · rw [if_neg hi] at hq; simp [lk] at hq
      · skip
        have hbl : ∀ x ∈ ((cX x0 x1 x2 x3 x4 x5 x6 x7 x8 x9 x10 x11 x12 x13 x14 [.vec 2 n (rowsY stdH fun _ => Tl rowY n f)]) : List AV), Bl 0 x := fun x hx => by
          simp only [cA, cX, zqu] at hx
          rcases hx with rfl | rfl | rfl | rfl | rfl | rfl | rfl | rfl | rfl | rfl | rfl | rfl | rfl | rfl | rfl | rfl <;> first | exact .lit | exact vl_bl' okRY (Tl rowY n f) (Tl_len n f) _
        have hc := c_ptrK001 ⟨⟨⟨x0, x1, x2, x3⟩, x4, x5, x6, ⟨x7, x8, x9, x10⟩, ⟨x11, x12, x13, x14⟩⟩, Tl rowY n f⟩ o1 o2 o3
        simp only [cA, stdH, Tl_len (D := rowY) n f] at hc
        exact ptrs_ok (offs := [14]) hc rfl rfl rfl (fun c x y hx hy => rn_k (A := cX x0 x1 x2 x3 x4 x5 x6 x7 x8 x9 x10 x11 x12 x13 x14 []) rfl (Rn.vec (q := 0) (by omega) (by omega) (hbl _ (by simp [cX])) fun j hj => (yrow os j hj)) hbl c x y hx hy) hbl
    · cases e
  · cases e⟩
noncomputable def e_ptrK100 : Entry := ⟨41, fun H a h nx => match a with
  | [.ptr i 0] => (match lk i h with
    | some (.cells [.lit (.int .i64 x0), .lit (.int .i64 x1), .lit (.int .i64 x2), .lit (.int .i64 x3), .lit (.int .i64 x4), .lit (.int .i64 x5), .lit (.int .i64 x6), .lit (.int .i64 x7), .lit (.int .i64 x8), .lit (.int .i64 x9), .lit (.int .i64 x10), .lit (.int .i64 x11), .lit (.int .i64 x12), .lit (.int .i64 x13), .lit (.int .i64 x14), .vec 2 n f] T') => bif Nat.beq T' 30 then some (.slc nx 0 1 1, [.cells [.ptr i 6] 69], [i], [(i, .cells (cX x0 x1 x2 x3 x4 x5 x6 x7 x8 x9 x10 x11 x12 x13 x14 [.vec 2 n (rowsY H fun _ => Tl rowY n f)]) 30)], [H Prop fun _ => Shp rowY n f, H Prop fun _ => decide (x4 = 0) = false, H Prop fun _ => noG ⟨x7, x8, x9, x10⟩ = true, H Prop fun _ => noG ⟨x11, x12, x13, x14⟩ = true]) else none
    | _ => none)
  | _ => none⟩
theorem eok_ptrK100 : EntryOk Tryz.prog e_ptrK100 := ⟨by unfold isBody; kernel_rfl, fun a hp nx r nb rd u ob e hob => by
  simp only [e_ptrK100] at e
  split at e
  · rename_i i
    split at e
    · rename_i x0 x1 x2 x3 x4 x5 x6 x7 x8 x9 x10 x11 x12 x13 x14 n f T' hlk
      cases hc : Nat.beq T' 30 with
      | false => rw [hc] at e; cases e
      | true =>
      rw [hc, cond_true] at e
      obtain rfl := Nat.eq_of_beq_eq_true hc
      simp only [zqt] at e
      obtain ⟨rfl, rfl, rfl, rfl, rfl⟩ := e
      obtain ⟨os, o1, o2, o3, _⟩ := hob
      refine ⟨fun q b hq => ?_, [(i, .cells (cX x0 x1 x2 x3 x4 x5 x6 x7 x8 x9 x10 x11 x12 x13 x14 [.vec 2 n f]) 30)], fun q b hq => ?_, ?_⟩
      · simp only [zqu, Prod.mk.injEq] at hq
        obtain ⟨rfl, rfl⟩ := hq
        exact ⟨by simp, _, hlk, rfl⟩
      · rw [lk_cons] at hq
        by_cases hi : i = q
        · rw [if_pos hi] at hq; injection hq with hq; subst hq; subst hi; exact ⟨by simp, hlk⟩
        · rw [if_neg hi] at hq; simp [lk] at hq
      · skip
        have hbl : ∀ x ∈ ((cX x0 x1 x2 x3 x4 x5 x6 x7 x8 x9 x10 x11 x12 x13 x14 [.vec 2 n (rowsY stdH fun _ => Tl rowY n f)]) : List AV), Bl 0 x := fun x hx => by
          simp only [cA, cX, zqu] at hx
          rcases hx with rfl | rfl | rfl | rfl | rfl | rfl | rfl | rfl | rfl | rfl | rfl | rfl | rfl | rfl | rfl | rfl <;> first | exact .lit | exact vl_bl' okRY (Tl rowY n f) (Tl_len n f) _
        have hc := c_ptrK100 ⟨⟨⟨x0, x1, x2, x3⟩, x4, x5, x6, ⟨x7, x8, x9, x10⟩, ⟨x11, x12, x13, x14⟩⟩, Tl rowY n f⟩ o1 o2 o3
        simp only [cA, stdH, Tl_len (D := rowY) n f] at hc
        exact ptrs_ok (offs := [6]) hc rfl rfl rfl (fun c x y hx hy => rn_k (A := cX x0 x1 x2 x3 x4 x5 x6 x7 x8 x9 x10 x11 x12 x13 x14 []) rfl (Rn.vec (q := 0) (by omega) (by omega) (hbl _ (by simp [cX])) fun j hj => (yrow os j hj)) hbl c x y hx hy) hbl
    · cases e
  · cases e⟩
noncomputable def e_ptrK101 : Entry := ⟨41, fun H a h nx => match a with
  | [.ptr i 0] => (match lk i h with
    | some (.cells [.lit (.int .i64 x0), .lit (.int .i64 x1), .lit (.int .i64 x2), .lit (.int .i64 x3), .lit (.int .i64 x4), .lit (.int .i64 x5), .lit (.int .i64 x6), .lit (.int .i64 x7), .lit (.int .i64 x8), .lit (.int .i64 x9), .lit (.int .i64 x10), .lit (.int .i64 x11), .lit (.int .i64 x12), .lit (.int .i64 x13), .lit (.int .i64 x14), .vec 2 n f] T') => bif Nat.beq T' 30 then some (.slc nx 0 1 2, [.cells [.ptr i 6, .ptr i 14] 69], [i], [(i, .cells (cX x0 x1 x2 x3 x4 x5 x6 x7 x8 x9 x10 x11 x12 x13 x14 [.vec 2 n (rowsY H fun _ => Tl rowY n f)]) 30)], [H Prop fun _ => Shp rowY n f, H Prop fun _ => decide (x4 = 0) = false, H Prop fun _ => noG ⟨x7, x8, x9, x10⟩ = true, H Prop fun _ => noG ⟨x11, x12, x13, x14⟩ = false]) else none
    | _ => none)
  | _ => none⟩
theorem eok_ptrK101 : EntryOk Tryz.prog e_ptrK101 := ⟨by unfold isBody; kernel_rfl, fun a hp nx r nb rd u ob e hob => by
  simp only [e_ptrK101] at e
  split at e
  · rename_i i
    split at e
    · rename_i x0 x1 x2 x3 x4 x5 x6 x7 x8 x9 x10 x11 x12 x13 x14 n f T' hlk
      cases hc : Nat.beq T' 30 with
      | false => rw [hc] at e; cases e
      | true =>
      rw [hc, cond_true] at e
      obtain rfl := Nat.eq_of_beq_eq_true hc
      simp only [zqt] at e
      obtain ⟨rfl, rfl, rfl, rfl, rfl⟩ := e
      obtain ⟨os, o1, o2, o3, _⟩ := hob
      refine ⟨fun q b hq => ?_, [(i, .cells (cX x0 x1 x2 x3 x4 x5 x6 x7 x8 x9 x10 x11 x12 x13 x14 [.vec 2 n f]) 30)], fun q b hq => ?_, ?_⟩
      · simp only [zqu, Prod.mk.injEq] at hq
        obtain ⟨rfl, rfl⟩ := hq
        exact ⟨by simp, _, hlk, rfl⟩
      · rw [lk_cons] at hq
        by_cases hi : i = q
        · rw [if_pos hi] at hq; injection hq with hq; subst hq; subst hi; exact ⟨by simp, hlk⟩
        · rw [if_neg hi] at hq; simp [lk] at hq
      · skip
        have hbl : ∀ x ∈ ((cX x0 x1 x2 x3 x4 x5 x6 x7 x8 x9 x10 x11 x12 x13 x14 [.vec 2 n (rowsY stdH fun _ => Tl rowY n f)]) : List AV), Bl 0 x := fun x hx => by
          simp only [cA, cX, zqu] at hx
          rcases hx with rfl | rfl | rfl | rfl | rfl | rfl | rfl | rfl | rfl | rfl | rfl | rfl | rfl | rfl | rfl | rfl <;> first | exact .lit | exact vl_bl' okRY (Tl rowY n f) (Tl_len n f) _
        have hc := c_ptrK101 ⟨⟨⟨x0, x1, x2, x3⟩, x4, x5, x6, ⟨x7, x8, x9, x10⟩, ⟨x11, x12, x13, x14⟩⟩, Tl rowY n f⟩ o1 o2 o3
        simp only [cA, stdH, Tl_len (D := rowY) n f] at hc
        exact ptrs_ok (offs := [6, 14]) hc rfl rfl rfl (fun c x y hx hy => rn_k (A := cX x0 x1 x2 x3 x4 x5 x6 x7 x8 x9 x10 x11 x12 x13 x14 []) rfl (Rn.vec (q := 0) (by omega) (by omega) (hbl _ (by simp [cX])) fun j hj => (yrow os j hj)) hbl c x y hx hy) hbl
    · cases e
  · cases e⟩
noncomputable def e_ptrK110 : Entry := ⟨41, fun H a h nx => match a with
  | [.ptr i 0] => (match lk i h with
    | some (.cells [.lit (.int .i64 x0), .lit (.int .i64 x1), .lit (.int .i64 x2), .lit (.int .i64 x3), .lit (.int .i64 x4), .lit (.int .i64 x5), .lit (.int .i64 x6), .lit (.int .i64 x7), .lit (.int .i64 x8), .lit (.int .i64 x9), .lit (.int .i64 x10), .lit (.int .i64 x11), .lit (.int .i64 x12), .lit (.int .i64 x13), .lit (.int .i64 x14), .vec 2 n f] T') => bif Nat.beq T' 30 then some (.slc nx 0 1 2, [.cells [.ptr i 6, .ptr i 10] 69], [i], [(i, .cells (cX x0 x1 x2 x3 x4 x5 x6 x7 x8 x9 x10 x11 x12 x13 x14 [.vec 2 n (rowsY H fun _ => Tl rowY n f)]) 30)], [H Prop fun _ => Shp rowY n f, H Prop fun _ => decide (x4 = 0) = false, H Prop fun _ => noG ⟨x7, x8, x9, x10⟩ = false, H Prop fun _ => noG ⟨x11, x12, x13, x14⟩ = true]) else none
    | _ => none)
  | _ => none⟩
theorem eok_ptrK110 : EntryOk Tryz.prog e_ptrK110 := ⟨by unfold isBody; kernel_rfl, fun a hp nx r nb rd u ob e hob => by
  simp only [e_ptrK110] at e
  split at e
  · rename_i i
    split at e
    · rename_i x0 x1 x2 x3 x4 x5 x6 x7 x8 x9 x10 x11 x12 x13 x14 n f T' hlk
      cases hc : Nat.beq T' 30 with
      | false => rw [hc] at e; cases e
      | true =>
      rw [hc, cond_true] at e
      obtain rfl := Nat.eq_of_beq_eq_true hc
      simp only [zqt] at e
      obtain ⟨rfl, rfl, rfl, rfl, rfl⟩ := e
      obtain ⟨os, o1, o2, o3, _⟩ := hob
      refine ⟨fun q b hq => ?_, [(i, .cells (cX x0 x1 x2 x3 x4 x5 x6 x7 x8 x9 x10 x11 x12 x13 x14 [.vec 2 n f]) 30)], fun q b hq => ?_, ?_⟩
      · simp only [zqu, Prod.mk.injEq] at hq
        obtain ⟨rfl, rfl⟩ := hq
        exact ⟨by simp, _, hlk, rfl⟩
      · rw [lk_cons] at hq
        by_cases hi : i = q
        · rw [if_pos hi] at hq; injection hq with hq; subst hq; subst hi; exact ⟨by simp, hlk⟩
        · rw [if_neg hi] at hq; simp [lk] at hq
      · skip
        have hbl : ∀ x ∈ ((cX x0 x1 x2 x3 x4 x5 x6 x7 x8 x9 x10 x11 x12 x13 x14 [.vec 2 n (rowsY stdH fun _ => Tl rowY n f)]) : List AV), Bl 0 x := fun x hx => by
          simp only [cA, cX, zqu] at hx
          rcases hx with rfl | rfl | rfl | rfl | rfl | rfl | rfl | rfl | rfl | rfl | rfl | rfl | rfl | rfl | rfl | rfl <;> first | exact .lit | exact vl_bl' okRY (Tl rowY n f) (Tl_len n f) _
        have hc := c_ptrK110 ⟨⟨⟨x0, x1, x2, x3⟩, x4, x5, x6, ⟨x7, x8, x9, x10⟩, ⟨x11, x12, x13, x14⟩⟩, Tl rowY n f⟩ o1 o2 o3
        simp only [cA, stdH, Tl_len (D := rowY) n f] at hc
        exact ptrs_ok (offs := [6, 10]) hc rfl rfl rfl (fun c x y hx hy => rn_k (A := cX x0 x1 x2 x3 x4 x5 x6 x7 x8 x9 x10 x11 x12 x13 x14 []) rfl (Rn.vec (q := 0) (by omega) (by omega) (hbl _ (by simp [cX])) fun j hj => (yrow os j hj)) hbl c x y hx hy) hbl
    · cases e
  · cases e⟩
noncomputable def e_ptrK111 : Entry := ⟨41, fun H a h nx => match a with
  | [.ptr i 0] => (match lk i h with
    | some (.cells [.lit (.int .i64 x0), .lit (.int .i64 x1), .lit (.int .i64 x2), .lit (.int .i64 x3), .lit (.int .i64 x4), .lit (.int .i64 x5), .lit (.int .i64 x6), .lit (.int .i64 x7), .lit (.int .i64 x8), .lit (.int .i64 x9), .lit (.int .i64 x10), .lit (.int .i64 x11), .lit (.int .i64 x12), .lit (.int .i64 x13), .lit (.int .i64 x14), .vec 2 n f] T') => bif Nat.beq T' 30 then some (.slc nx 0 1 3, [.cells [.ptr i 6, .ptr i 10, .ptr i 14] 69], [i], [(i, .cells (cX x0 x1 x2 x3 x4 x5 x6 x7 x8 x9 x10 x11 x12 x13 x14 [.vec 2 n (rowsY H fun _ => Tl rowY n f)]) 30)], [H Prop fun _ => Shp rowY n f, H Prop fun _ => decide (x4 = 0) = false, H Prop fun _ => noG ⟨x7, x8, x9, x10⟩ = false, H Prop fun _ => noG ⟨x11, x12, x13, x14⟩ = false]) else none
    | _ => none)
  | _ => none⟩
theorem eok_ptrK111 : EntryOk Tryz.prog e_ptrK111 := ⟨by unfold isBody; kernel_rfl, fun a hp nx r nb rd u ob e hob => by
  simp only [e_ptrK111] at e
  split at e
  · rename_i i
    split at e
    · rename_i x0 x1 x2 x3 x4 x5 x6 x7 x8 x9 x10 x11 x12 x13 x14 n f T' hlk
      cases hc : Nat.beq T' 30 with
      | false => rw [hc] at e; cases e
      | true =>
      rw [hc, cond_true] at e
      obtain rfl := Nat.eq_of_beq_eq_true hc
      simp only [zqt] at e
      obtain ⟨rfl, rfl, rfl, rfl, rfl⟩ := e
      obtain ⟨os, o1, o2, o3, _⟩ := hob
      refine ⟨fun q b hq => ?_, [(i, .cells (cX x0 x1 x2 x3 x4 x5 x6 x7 x8 x9 x10 x11 x12 x13 x14 [.vec 2 n f]) 30)], fun q b hq => ?_, ?_⟩
      · simp only [zqu, Prod.mk.injEq] at hq
        obtain ⟨rfl, rfl⟩ := hq
        exact ⟨by simp, _, hlk, rfl⟩
      · rw [lk_cons] at hq
        by_cases hi : i = q
        · rw [if_pos hi] at hq; injection hq with hq; subst hq; subst hi; exact ⟨by simp, hlk⟩
        · rw [if_neg hi] at hq; simp [lk] at hq
      · skip
        have hbl : ∀ x ∈ ((cX x0 x1 x2 x3 x4 x5 x6 x7 x8 x9 x10 x11 x12 x13 x14 [.vec 2 n (rowsY stdH fun _ => Tl rowY n f)]) : List AV), Bl 0 x := fun x hx => by
          simp only [cA, cX, zqu] at hx
          rcases hx with rfl | rfl | rfl | rfl | rfl | rfl | rfl | rfl | rfl | rfl | rfl | rfl | rfl | rfl | rfl | rfl <;> first | exact .lit | exact vl_bl' okRY (Tl rowY n f) (Tl_len n f) _
        have hc := c_ptrK111 ⟨⟨⟨x0, x1, x2, x3⟩, x4, x5, x6, ⟨x7, x8, x9, x10⟩, ⟨x11, x12, x13, x14⟩⟩, Tl rowY n f⟩ o1 o2 o3
        simp only [cA, stdH, Tl_len (D := rowY) n f] at hc
        exact ptrs_ok (offs := [6, 10, 14]) hc rfl rfl rfl (fun c x y hx hy => rn_k (A := cX x0 x1 x2 x3 x4 x5 x6 x7 x8 x9 x10 x11 x12 x13 x14 []) rfl (Rn.vec (q := 0) (by omega) (by omega) (hbl _ (by simp [cX])) fun j hj => (yrow os j hj)) hbl c x y hx hy) hbl
    · cases e
  · cases e⟩

end Go.Proofs.YtmkniipdkanbbaaGreatDoor.AM

