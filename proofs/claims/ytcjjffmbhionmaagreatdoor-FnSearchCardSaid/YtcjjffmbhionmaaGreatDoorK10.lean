/- Lemmas and contracts (Srs); conditions: none. -/
import Derived.Test.YtcjjffmbhionmaaGreatDoorK03
import Derived.Test.YtcjjffmbhionmaaGreatDoorK05
import Derived.Test.YtcjjffmbhionmaaGreatDoorK09
import Derived.Lib.Join
set_option linter.unusedVariables false
set_option linter.unusedSimpArgs false
set_option maxRecDepth 100000
set_option maxHeartbeats 4000000
set_option cbv.maxSteps 3000000
namespace Go.Proofs.YtcjjffmbhionmaaGreatDoor.AM
/- Lists of texts sorted and freed of repetitions by the library; conditions: none. -/
open Go.RowKit Go.Sort
theorem Leaves.turn {C : Cx} {n0 i : Nat} (how : C.ow (C.β i)) {cur arr : Array Value} {b : Blk} (hcur : C.w.heap[C.β i]? = some (.cells cur b.elem (0, 0))) {w' : World} (h2 : w'.os = C.w.os) (h3 : w'.tape = C.w.tape) (h4 : w'.output = C.w.output) (h5 : C.w.heap.size ≤ w'.heap.size)
    (hw : w'.heap[C.β i]? = some (.cells arr b.elem (0, 0))) (hoth : ∀ k, k < C.w.heap.size → k ≠ C.β i → w'.heap[k]? = C.w.heap[k]?) (has : arr.size = cur.size) (hr : ∀ p x, b.at p = some x → ∃ v, arr[p]? = some v ∧ v.oneCell' = true ∧ Rel ⟨C.β, C.ok, C.ow, w'⟩ x v)
    {r : AV} {v : Value} (hv : Rel ⟨C.β, C.ok, C.ow, w'⟩ r v) : Leaves C n0 (some r) [] [(i, b)] v w' := by
  refine ⟨⟨C.β, C.ok, C.ow, w'⟩, rfl, ⟨⟨h2, h3, h4, h5, fun k hk hn => hoth k hk (fun e => hn ⟨i, b, by simp, e.symm⟩), fun k c T hc => ?_⟩, ?_, fun _ _ => rfl, fun _ h => h, fun _ h => .inl h⟩, by simp <;> omega, by simp <;> omega, by simp <;> omega, by simp <;> omega, fun y hy => ?_, by simp [named], fun j b' hb' => ?_⟩
  · by_cases hki : k = C.β i
    · subst hki
      rw [hcur] at hc
      injection hc with hc
      injection hc with q1 q2
      subst q1; subst q2
      exact ⟨arr, hw, has⟩
    · exact ⟨c, by show w'.heap[k]? = _; rw [hoth k (Array.getElem?_eq_some_iff.1 hc).1 hki]; exact hc, rfl⟩
  · rintro k ⟨j, b', hj, rfl⟩
    simp at hj
    rw [hj.1]; exact how
  · injection hy with hy
    subst hy
    exact hv
  · simp at hb'
    obtain ⟨rfl, rfl⟩ := hb'
    exact ⟨arr, hw, fun p x hx => hr p x hx⟩
theorem putRow_block {w : World} {blk : Nat} {cur : Array Value} {E : TypeId} (h : w.heap[blk]? = some (.cells cur E (0, 0))) (m : Nat) (d : Array (List UInt8)) (os : Array Obj) : (grow (putRow encStr (Sort.ahead w m) blk 0 d) os).heap[blk]? = some (.cells (putCells encStr 0 d cur) E (0, 0)) := by
  have hl : blk < w.heap.size := (Array.getElem?_eq_some_iff.1 h).1
  show ((w.heap.modify blk (onCells (putCells encStr 0 d))) ++ os)[blk]? = _
  rw [Array.getElem?_append_left (by simpa using hl), Array.getElem?_modify, if_pos rfl, h]
  rfl
theorem putRow_else {w : World} {blk k : Nat} (hk : k < w.heap.size) (hn : k ≠ blk) (m : Nat) (d : Array (List UInt8)) (os : Array Obj) : (grow (putRow encStr (Sort.ahead w m) blk 0 d) os).heap[k]? = w.heap[k]? := by
  show ((w.heap.modify blk (onCells (putCells encStr 0 d))) ++ os)[k]? = _
  rw [Array.getElem?_append_left (by simpa using hk), Array.getElem?_modify, if_neg (fun e => hn e.symm)]
def toL (L : List ByteArray) : List (List UInt8) := L.map fun s => s.data.toList
theorem toL_len (L : List ByteArray) : (toL L).length = L.length := by unfold toL; rw [List.length_map]
theorem row_leaves {C : Cx} {n0 i : Nat} (how : C.ow (C.β i)) {cur : Array Value} {E : TypeId} (hcur : C.w.heap[C.β i]? = some (.cells cur E (0, 0))) {n : Nat} (hsz : n ≤ cur.size) (d : List (List UInt8)) (hd : d.length = n) (m : Nat) (os : Array Obj) {r : AV} {v : Value}
    (hv : Rel ⟨C.β, C.ok, C.ow, grow (putRow encStr (Sort.ahead C.w m) (C.β i) 0 d.toArray) os⟩ r v) : Leaves C n0 (some r) [] [(i, .rows 1 n (rowsS stdH fun _ => d.map ofL) E)] v (grow (putRow encStr (Sort.ahead C.w m) (C.β i) 0 d.toArray) os) := by
  refine Leaves.turn (b := .rows 1 n (rowsS stdH fun _ => d.map ofL) E) (w' := grow (putRow encStr (Sort.ahead C.w m) (C.β i) 0 d.toArray) os) how hcur rfl rfl rfl ?_ (putRow_block hcur m d.toArray os) (fun k hk hn => putRow_else hk hn m d.toArray os) (by simp [putCells]) (fun p x hx => ?_) hv
  · show _ ≤ ((C.w.heap.modify _ _) ++ os).size
    rw [Array.size_append, Array.size_modify]; omega
  · simp only [Blk.at] at hx
    split at hx
    · rename_i hp
      rw [Nat.div_one] at hp hx
      rw [Nat.mod_one] at hx
      have hx : x = .lit (.string ((d.map ofL).getD p ByteArray.empty)) := by
        have : some (AV.lit (.string ((d.map ofL).getD p ByteArray.empty))) = some x := hx
        injection this with this
        exact this.symm
      have hpd : p < d.length := by omega
      have hpc : p < cur.size := by omega
      subst hx
      refine ⟨.string (ofL d[p]), ?_, rfl, ?_⟩
      · unfold putCells
        rw [Array.getElem?_mapIdx, Array.getElem?_eq_getElem hpc, Option.map_some, if_pos ⟨Nat.zero_le _, by simpa using hpd⟩]
        simp [hpd]
        rfl
      · rw [List.getD_eq_getElem?_getD, List.getElem?_map, List.getElem?_eq_getElem hpd]
        exact .lit rfl
    · cases hx
theorem row_holds {C : Cx} {i : Nat} {cur : Array Value} {E : TypeId} (hcur : C.w.heap[C.β i]? = some (.cells cur E (0, 0))) {L : List ByteArray} (h : ∀ p x, (Blk.rows 1 L.length (rowsS stdH fun _ => L) E).at p = some x → ∃ v, cur[p]? = some v ∧ v.oneCell' = true ∧ Rel C x v) : Holds encStr C.w (C.β i) 0 (toL L).toArray := by
  intro j hj
  have hj' : j < L.length := by simpa [toL] using hj
  obtain ⟨v, h1, _, h3⟩ := h j (.lit (.string (L.getD j ByteArray.empty))) (by
    simp only [Blk.at]
    rw [if_pos (by rw [Nat.div_one]; exact hj'), Nat.div_one, Nat.mod_one]
    rfl)
  cases h3
  refine ⟨?_, ?_⟩
  · unfold World.cell?
    simp only [hcur]
    rw [Nat.zero_add]
    simp [h1, toL, hj', encStr]
  · unfold World.frozen?
    simp [hcur]
def srt (L : List ByteArray) : List ByteArray := ((toL L).mergeSort fun x y => decide (x ≤ y)).map ofL
theorem srt_len (L : List ByteArray) : (srt L).length = L.length := by unfold srt; rw [List.length_map, List.length_mergeSort, toL_len]
theorem c_sortS (L : List ByteArray) (hL : L.length ≤ 1000000) : ConN Tryz.prog 75 [.slc 0 0 1 L.length] [(0, .rows 1 L.length (rowsS stdH fun _ => L) 9)] 1 (.tup []) [] [(0, .rows 1 L.length (rowsS stdH fun _ => srt L) 9)] := by
  intro C vs hl hb hinj hglo hfresh
  obtain ⟨hlen, hrel⟩ := hl
  match vs, hlen with
  | [v0], _ =>
    have r0 := hrel 0 _ v0 rfl rfl
    obtain ⟨⟨cur, hcur, hcells⟩, hok, how⟩ := hb 0 _ (by rw [lk_cons, if_pos rfl])
    cases r0 with
    | @slc _ _ _ _ cap g1 g2 g3 g4 =>
    obtain ⟨cur', T', h5, h6⟩ := g4
    have hce : cur' = cur := by rw [hcur] at h5; injection h5 with h5; injection h5 with h5; exact h5.symm
    subst hce
    rw [ite_self]
    have hlt : C.β 0 < C.w.heap.size := (Array.getElem?_eq_some_iff.1 hcur).1
    have hc := Tryz.slices_Sort_string (C.β 0) 0 cap (toL L) C.w (row_holds hcur hcells) hlt (by rw [toL_len]; omega)
    rw [toL_len] at hc
    refine hc.mono ?_
    rintro e w' ⟨rfl, m, os, rfl⟩
    exact ⟨_, rfl, row_leaves how hcur (by omega) _ (by rw [List.length_mergeSort, toL_len]) m os (.tup (vs := []) rfl fun c x u hx _ => by simp at hx)⟩
noncomputable def e_sortS : Entry := modE 75 1 9 fun H n g a => match a with
  | [] => some (.tup [], rowsS H fun _ => srt (Tl rowS n g), [H Prop fun _ => Shp rowS n g, H Prop fun _ => (Tl rowS n g).length ≤ 1000000])
  | _ => none
theorem eok_sortS : EntryOk Tryz.prog e_sortS := modE_ok (by unfold isBody; kernel_rfl) (by
  intro n g a r g' ob e hob
  split at e
  · simp only [zqt] at e
    obtain ⟨rfl, rfl, rfl⟩ := e
    have hs := hob.1
    have hl : (Tl rowS n g).length = n := Tl_len n g
    refine ⟨rowsS stdH fun _ => Tl rowS n g, fun j hj => ⟨?_, ?_⟩, ?_, fun x hx => ?_, .tup (fun x hx => ?_), fun j hj => ?_⟩
    · rw [hs.row j hj]; exact ((okS).row (fun _ => Tl rowS n g) j).trans (by rw [Tl_getD hj])
    · exact rows_blx okS _ j
    · have := c_sortS (Tl rowS n g) hob.2.1
      simp only [stdH, hl] at this ⊢
      exact this
    · simp at hx
    · simp at hx
    · exact rows_blx okS _ j
  · simp at e)
def turnS (f : FuncId) (k : Nat) (E : TypeId) (F : Hold → Nat → (Nat → List AV) → Nat × (Nat → List AV) × List Prop) : Entry := ⟨f, fun H a h _ => match a with
  | [.slc i 0 k' n] => (match lk i h with
    | some (.rows k'' n' g E') => bif Nat.beq k k' && (Nat.beq k k'' && Nat.beq E E') then some (.slc i 0 k (F H n g).1, [], [i], [(i, .rows k n (F H n g).2.1 E')], (H Prop fun _ => n' = n) :: (F H n g).2.2) else none
    | _ => none)
  | _ => none⟩
theorem turnS_ok {P : Program} {f : FuncId} {k : Nat} {E : TypeId} {F : Hold → Nat → (Nat → List AV) → Nat × (Nat → List AV) × List Prop} (hb : isBody P f)
    (h : ∀ n g, AllP (F stdH n g).2.2 → ∃ g0, (∀ j, j < n → g0 j = g j ∧ ∀ x ∈ g0 j, Bl 0 x) ∧ ConN P f [.slc 0 0 k n] [(0, .rows k n g0 E)] 1 (.slc 0 0 k (F stdH n g).1) [] [(0, .rows k n (F stdH n g).2.1 E)] ∧ ∀ j, j < n → ∀ x ∈ (F stdH n g).2.1 j, Bl 0 x) : EntryOk P (turnS f k E F) := by
  refine ⟨hb, fun a hp nx r nb rd u ob e hob => ?_⟩
  simp only [turnS] at e
  split at e
  · rename_i i k' n
    split at e
    · rename_i k'' n' g E' hlk
      cases hc : (Nat.beq k k' && (Nat.beq k k'' && Nat.beq E E')) with
      | false => rw [hc] at e; simp at e
      | true =>
        rw [hc] at e
        simp only [cond_true] at e
        simp only [Bool.and_eq_true] at hc
        obtain rfl := Nat.eq_of_beq_eq_true hc.1
        obtain rfl := Nat.eq_of_beq_eq_true hc.2.1
        obtain rfl := Nat.eq_of_beq_eq_true hc.2.2
        simp only [stdH, zqt] at e
        obtain ⟨rfl, rfl, rfl, rfl, rfl⟩ := e
        obtain ⟨rfl, hob⟩ := hob
        obtain ⟨g0, h0, h1, h4⟩ := h _ _ hob
        refine ⟨fun q b hq => ?_, [(i, .rows k n' g E)], fun q b hq => ?_, ?_⟩
        · simp at hq; obtain ⟨rfl, rfl⟩ := hq; exact ⟨by simp, _, hlk, rfl⟩
        · rw [lk_cons] at hq
          by_cases hi : i = q
          · rw [if_pos hi] at hq; injection hq with hq; subst hq; subst hi; exact ⟨by simp, hlk⟩
          · rw [if_neg hi] at hq; simp [lk] at hq
        · refine h1.renS (fun _ => i) (fun q hq => ⟨_, by obtain rfl : q = 0 := by omega
                                                          rfl⟩) (fun C vs hv => ⟨hv.1, fun c x v hx hw => ?_⟩) (fun q b hq => ?_) (by omega) rfl (fun D F v hβ how hw hv => ?_) (fun q b hq => by simp at hq) (fun q b hq => ?_) (fun q b hq => ?_)
          · cases c with
            | zero =>
              have hz := hv.2 0 _ v rfl hw
              simp only [List.getElem?_cons_zero, Option.some.injEq] at hx
              subst hx
              exact (Rn.slc (π := fun _ => i) (m := 1) (i := 0) (by omega)).rel (C := C) (D := ⟨fun _ => C.β i, fun j => j < 1, C.ow, C.w⟩) (fun _ _ => rfl) (fun _ h => h) (fun _ h => h) rfl hz
            | succ c =>
              simp at hx
          · have := lk_in hq
            simp at this
            obtain ⟨rfl, rfl⟩ := this
            exact ⟨by omega, _, by rw [lk_cons, if_pos rfl], rnb_rows rfl (fun j hj => (h0 j hj).1) (fun j hj => (h0 j hj).2)⟩
          · obtain ⟨e1, e2⟩ := hβ 0 (by omega)
            cases hv with
            | slc h' hn hm hc =>
              rw [← e1] at hc ⊢
              exact .slc e2 hn hm (by rw [hw]; exact hc)
          · simp at hq
            obtain ⟨rfl, rfl⟩ := hq
            exact ⟨0, _, by omega, rfl, List.mem_cons_self, .same (rowsB_bl h4)⟩
          · simp at hq
            obtain ⟨rfl, rfl⟩ := hq
            exact ⟨by omega, ⟨_, List.mem_cons_self⟩, fun h => by simp [Blk.dead] at h⟩
    · simp at e
  · simp at e
def cmpL (L : List ByteArray) : List ByteArray := (Lib.compact (toL L)).map ofL
def cmpR (L : List ByteArray) : List ByteArray := (Lib.compact (toL L) ++ List.replicate ((toL L).length - (Lib.compact (toL L)).length) []).map ofL
theorem compact_le (l : List (List UInt8)) : (Lib.compact l).length ≤ l.length := by
  unfold Lib.compact Lib.compactUpTo
  rw [List.length_map]
  exact Nat.le_trans (List.length_filter_le _ _) (by rw [List.length_range]; exact Nat.le_refl _)
theorem cmpL_le (L : List ByteArray) : (cmpL L).length ≤ L.length := by
  unfold cmpL
  rw [List.length_map, ← toL_len L]
  exact compact_le _
theorem cmpR_eq (L : List ByteArray) : ∃ z, cmpR L = cmpL L ++ z := ⟨_, List.map_append⟩
theorem c_cpcS (L : List ByteArray) (hL : L.length ≤ 1000000) : ConN Tryz.prog 91 [.slc 0 0 1 L.length] [(0, .rows 1 L.length (rowsS stdH fun _ => L) 9)] 1 (.slc 0 0 1 (cmpL L).length) [] [(0, .rows 1 L.length (rowsS stdH fun _ => cmpR L) 9)] := by
  intro C vs hl hb hinj hglo hfresh
  obtain ⟨hlen, hrel⟩ := hl
  match vs, hlen with
  | [v0], _ =>
    have r0 := hrel 0 _ v0 rfl rfl
    obtain ⟨⟨cur, hcur, hcells⟩, hok, how⟩ := hb 0 _ (by rw [lk_cons, if_pos rfl])
    cases r0 with
    | @slc _ _ _ _ cap g1 g2 g3 g4 =>
    obtain ⟨cur', T', h5, h6⟩ := g4
    have hce : cur' = cur := by rw [hcur] at h5; injection h5 with h5; injection h5 with h5; exact h5.symm
    subst hce
    rw [ite_self]
    have hc := Tryz.slices_Compact_string (C.β 0) 0 cap (toL L) C.w (row_holds hcur hcells) (by rw [toL_len]; omega) (by rw [toL_len]; exact g2)
    have hlen2 : (Lib.compact (toL L) ++ List.replicate ((toL L).length - (Lib.compact (toL L)).length) []).length = L.length := by
      have := compact_le (toL L)
      rw [List.length_append, List.length_replicate, ← toL_len L]; omega
    have hmap : (cmpL L).length = (Lib.compact (toL L)).length := by unfold cmpL; rw [List.length_map]
    rw [show (#[.slice (some ⟨C.β 0, 0, none⟩) L.length cap] : Array Value) = #[.slice (some ⟨C.β 0, 0, none⟩) (toL L).length cap] by rw [toL_len]]
    refine hc.mono ?_
    rintro e w' ⟨rfl, m, rfl⟩
    have hg : ∀ w : World, w = grow w #[] := fun w => by unfold grow; simp
    rw [hg (putRow encStr _ _ _ _)]
    refine ⟨_, rfl, row_leaves how hcur (by omega) _ hlen2 m #[] ?_⟩
    have := @Rel.slc ⟨C.β, C.ok, C.ow, grow (putRow encStr (Sort.ahead C.w m) (C.β 0) 0 (Lib.compact (toL L) ++ List.replicate ((toL L).length - (Lib.compact (toL L)).length) []).toArray) #[]⟩ 0 0 1 (cmpL L).length cap hok (by have := cmpL_le L; omega) g3 ⟨_, _, putRow_block hcur m _ #[], by simp [putCells]; omega⟩
    rw [ite_self, hmap] at this
    rw [hmap]
    exact this
noncomputable def e_cpcS : Entry := turnS 91 1 9 fun H n g => (H Nat fun _ => (cmpL (Tl rowS n g)).length, rowsS H fun _ => cmpR (Tl rowS n g), [H Prop fun _ => Shp rowS n g, H Prop fun _ => (Tl rowS n g).length ≤ 1000000])
theorem eok_cpcS : EntryOk Tryz.prog e_cpcS := turnS_ok (by unfold isBody; kernel_rfl) (by
  intro n g hob
  have hs := hob.1
  have hl : (Tl rowS n g).length = n := Tl_len n g
  refine ⟨rowsS stdH fun _ => Tl rowS n g, fun j hj => ⟨?_, ?_⟩, ?_, fun j hj => ?_⟩
  · rw [hs.row j hj]; exact ((okS).row (fun _ => Tl rowS n g) j).trans (by rw [Tl_getD hj])
  · exact rows_blx okS _ j
  · have := c_cpcS (Tl rowS n g) hob.2.1
    simp only [stdH, hl] at this ⊢
    exact this
  · exact rows_blx okS _ j)

end Go.Proofs.YtcjjffmbhionmaaGreatDoor.AM

