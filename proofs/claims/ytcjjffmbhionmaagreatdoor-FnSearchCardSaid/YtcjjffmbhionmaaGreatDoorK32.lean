/- Lemmas and contracts (Rkm); conditions: none. -/
import Derived.Test.YtcjjffmbhionmaaGreatDoorK03
import Derived.Test.YtcjjffmbhionmaaGreatDoorK10
import Derived.Test.YtcjjffmbhionmaaGreatDoorK23
import Derived.Test.YtcjjffmbhionmaaGreatDoorK30
import Derived.Test.YtcjjffmbhionmaaGreatDoorK31
set_option linter.unusedVariables false
set_option linter.unusedSimpArgs false
set_option maxRecDepth 100000
set_option maxHeartbeats 4000000
set_option cbv.maxSteps 3000000
namespace Go.Proofs.YtcjjffmbhionmaaGreatDoor.AM
/- What arms lack, by the program; conditions: none. -/
open Go.RowKit
def hasL (o : List ByteArray) (s : ByteArray) : Bool := o.any fun y => decide (y = s)
theorem c_mfC (s : ByteArray) (o : List ByteArray) (h0 : o.length ≤ 100000) : ConN Tryz.prog 61 [.lit (.string s), .rptr [.vec 1 (stdH Nat fun _ => (o).length) (rowsS stdH fun _ => o)]] [] 0 (.lit (.bool (stdH Bool fun _ => hasL o s))) [] [] := by
  have hB : Base Tryz.prog (tabΓ [e_hasS]) tab := base_of tabOk (ents_cons eok_hasS <| ents_nil)
  refine con_m (N := 7) hB (draw_ok hB mixed) Tryz.func61 rfl rfl (fun H => [.lit (.string s), .rptr [.vec 1 (H Nat fun _ => (o).length) (rowsS H fun _ => o)]]) (fun _ => []) 0 (fun H => .lit (.bool (H Bool fun _ => hasL o s))) (fun H => []) (fun _ => []) 100 (by simp) (fun x hx => ?_) (by simp [lk]) (by omega) (by simp) ?_
  · simp only [zqu] at hx
    rcases hx with rfl | rfl
    · exact .lit
    · exact (by
        refine .rptr ?_
        intro c hc
        simp only [zqu] at hc
        rcases hc with rfl
        · exact vl_bl okS o _)
  intro X hX hX0 H hH
  conv in Fin.chk _ _ => cbv
  try simp only [zqs, Plain_rowsC, Plain_rowsD, Plain_rowsW, zqx, AllP, zqw, upd, if_true]
  subst hH
  simp only [stdH, TlS']
  (repeat' (first | exact Shp_rowsT okS _ (fun _ => _) | assumption | exact True.intro | exact Eq.refl _ | omega | (with_reducible refine And.intro ?_ ?_)))
noncomputable def e_mfC : Entry := pureE 61 fun H a => match a with
  | [.lit (.string s), .rptr [.vec 1 on of]] => some (.lit (.bool (H Bool fun _ => hasL (Tl rowS on of) s)), [H Prop fun _ => Shp rowS on of, H Prop fun _ => (Tl rowS on of).length ≤ 100000])
  | _ => none
theorem eok_mfC : EntryOk Tryz.prog e_mfC := pureM_ok (by unfold isBody; kernel_rfl) (by
  intro a r ob e hob
  split at e
  · rename_i s on of
    simp only [zqt] at e
    obtain ⟨rfl, rfl⟩ := e
    exact ConN.args (.cons .rfl (.cons (.rptr (.cons (.toT okS rfl hob.1) .nil)) .nil)) (c_mfC s (Tl rowS on of) hob.2.1)
  · simp at e)
theorem c_idxMf (s : List ByteArray) (k0 : List ByteArray) (h0 : s.length ≤ 2000000) (h1 : k0.length ≤ 100000) : ConN Tryz.prog 99 [.vec 1 (stdH Nat fun _ => (s).length) (rowsS stdH fun _ => s), .fn (.func 61) [] [.rptr [.vec 1 (stdH Nat fun _ => (k0).length) (rowsS stdH fun _ => k0)]]] [] 0 (.lit (.int .i64 (stdH Int fun _ => idxF (hasL k0) s))) [] [] := by
  have hB : Base Tryz.prog (tabΓ [e_mfC]) tab := base_of tabOk (ents_cons eok_mfC <| ents_nil)
  refine con_m (N := 19) hB (draw_ok hB mixed) Tryz.func99 rfl rfl (fun H => [.vec 1 (H Nat fun _ => (s).length) (rowsS H fun _ => s), .fn (.func 61) [] [.rptr [.vec 1 (H Nat fun _ => (k0).length) (rowsS H fun _ => k0)]]]) (fun _ => []) 0 (fun H => .lit (.int .i64 (H Int fun _ => idxF (hasL k0) s))) (fun H => []) (fun _ => []) 100 (by simp) (fun x hx => ?_) (by simp [lk]) (by omega) (by simp) ?_
  · simp only [zqu] at hx
    rcases hx with rfl | rfl
    · exact vl_bl okS s _
    · exact (by
        refine .fn (fun c hc => by cases hc) ?_
        intro c hc
        simp only [zqu] at hc
        rcases hc with rfl
        · exact (by
        refine .rptr ?_
        intro c hc
        simp only [zqu] at hc
        rcases hc with rfl
        · exact vl_bl okS k0 _))
  intro X hX hX0 H hH
  conv in Fin.chk _ _ => cbv
  try simp only [zqs, Plain_rowsC, Plain_rowsD, Plain_rowsW, zqx, AllP, zqw, upd, if_true]
  refine loop_a hB (draw_ok hB mixed) hX hX0 hH false (ι := { i : Nat // i ≤ s.length ∧ ∀ j, j < i → hasL k0 (s.getD j ByteArray.empty) = false }) 100 (fun i => [.i (H Int fun _ => 0), .i (H Int fun _ => (i.1 : Nat))]) (fun i => s.length - i.1) (⟨0, by omega, by omega⟩) ?_ ?_
  · (conv in matchSt _ _ _ _ => cbv); simp only [AllG, AllP, and_true, hH, stdH, zql, ncast, zqe, zqy]
    all_goals (repeat' (with_reducible refine And.intro ?_ ?_)) <;> (first | exact Eq.refl _ | exact True.intro | exact Nat.le_refl _ | exact RowsEq.self okS | exact RowsEq.ofT okS rfl (Shp_zero _) rfl | exact RowsEq.snoc okS rfl | exact RowsEq.more okS (Shp_S _ _) (Tl_S _) | exact List.length_append | exact c.rqN)
  · intro I hI i
    conv in Fin.chk _ _ => cbv
    try simp only [zqs, Plain_rowsC, Plain_rowsD, Plain_rowsW, zqx, AllP, zqw, upd, if_true]
    obtain ⟨i, hi, hj⟩ := i
    refine ⟨fun k1 => ⟨?_, ⟨?_, ?_⟩, fun h2 => ?_, fun h2 => ?_⟩, fun k1 => ?_⟩
    · simp only [hH, stdH, zqz, ne_eq, zqy] at k1 ⊢
      omega
    · try simp only [hH, stdH, zqz, ne_eq, zqy]
      exact Shp_rowsT okS _ (fun _ => _)
    · simp only [hH, stdH, TlS']
      exact h1
    · simp only [hH, stdH, zqz, ne_eq, zqy] at k1
      simp only [hH, stdH, TlS', Int.toNat_natCast] at h2
      try simp only [hH, stdH, zqz, ne_eq, zqy]
      exact idxF_at ByteArray.empty (by omega) h2 hj
    · simp only [hH, stdH, zqz, ne_eq, zqy] at k1
      simp only [hH, stdH, TlS', Int.toNat_natCast] at h2
      refine ⟨⟨i + 1, by omega, fun j hj' => ?_⟩, by simp only; omega, ?_⟩
      · rcases Nat.lt_succ_iff_lt_or_eq.1 hj' with h | rfl
        · exact hj j h
        · exact h2
      · rw [hI]
        (conv in matchSt _ _ _ _ => cbv); simp only [AllG, AllP, and_true, hH, stdH, zql, ncast, zqe, zqy]
        rw [w1 (by omega)]
        all_goals (repeat' (with_reducible refine And.intro ?_ ?_)) <;> (first | exact Eq.refl _ | exact True.intro | exact Nat.le_refl _ | exact RowsEq.self okS | exact RowsEq.ofT okS rfl (Shp_zero _) rfl | exact RowsEq.snoc okS rfl | exact RowsEq.more okS (Shp_S _ _) (Tl_S _) | exact List.length_append | exact c.rqN)
    · simp only [hH, stdH, zqz, ne_eq, zqy] at k1 ⊢
      exact idxF_no ByteArray.empty fun j hj' => hj j (by omega)
noncomputable def e_idxMf : Entry := pureE 99 fun H a => match a with
  | [.vec 1 sn sf, .fn (.func 61) [] [.rptr [.vec 1 k0n k0f]]] => some (.lit (.int .i64 (H Int fun _ => idxF (hasL (Tl rowS k0n k0f)) (Tl rowS sn sf))), [H Prop fun _ => Shp rowS sn sf, H Prop fun _ => Shp rowS k0n k0f, H Prop fun _ => (Tl rowS sn sf).length ≤ 2000000, H Prop fun _ => (Tl rowS k0n k0f).length ≤ 100000])
  | _ => none
theorem eok_idxMf : EntryOk Tryz.prog e_idxMf := pureM_ok (by unfold isBody; kernel_rfl) (by
  intro a r ob e hob
  split at e
  · rename_i sn sf k0n k0f
    simp only [zqt] at e
    obtain ⟨rfl, rfl⟩ := e
    exact ConN.args (.cons (.toT okS rfl hob.1) (.cons (.fn .nil (.cons (.rptr (.cons (.toT okS rfl hob.2.1) .nil)) .nil)) .nil)) (c_idxMf (Tl rowS sn sf) (Tl rowS k0n k0f) hob.2.2.1 hob.2.2.2.1)
  · simp at e)
theorem Leaves.newB {C : Cx} {n0 : Nat} (hn : ¬ C.ok n0) {w' : World} {B : Nat} (hB : C.w.heap.size ≤ B) {arr : Array Value} {E : TypeId} (h2 : w'.os = C.w.os) (h3 : w'.tape = C.w.tape) (h4 : w'.output = C.w.output) (h5 : C.w.heap.size ≤ w'.heap.size) (hw : w'.heap[B]? = some (.cells arr E (0, 0)))
    (old : ∀ k, k < C.w.heap.size → w'.heap[k]? = C.w.heap[k]?) {b : Blk} (hbE : b.elem = E) (hr : ∀ p x, b.at p = some x → ∃ v, arr[p]? = some v ∧ v.oneCell' = true ∧ Rel C x v) {k n cap : Nat} (hnc : n ≤ cap) (hm : cap ≤ maxLen) (hsz : cap * k ≤ arr.size) :
    Leaves C n0 (some (.slc n0 0 k n)) [b] [] (.slice (some ⟨B, 0, none⟩) n cap) w' := by
  subst hbE
  let C' : Cx := ⟨fun i => if i = n0 then B else C.β i, fun i => C.ok i ∨ i = n0, fun k => C.ow k ∨ k = B, w'⟩
  have hβ : C'.β n0 = B := if_pos rfl
  have hβ' : ∀ i, C.ok i → C'.β i = C.β i := fun i hi => if_neg (by rintro rfl; exact hn hi)
  have wx : ∀ wr, WExt C.w C'.w wr := fun wr => ⟨h2, h3, h4, h5, fun k hk _ => old k hk, fun k c T h => ⟨c, by show w'.heap[k]? = _; rw [old k (Array.getElem?_eq_some_iff.1 h).1]; exact h, rfl⟩⟩
  have e : Ext C C' (fun _ => False) := ⟨wx _, fun _ h => h.elim, hβ', fun _ h => .inl h, fun k hk => hk.imp id (fun h => by subst h; exact hB)⟩
  refine ⟨C', rfl, ⟨wx _, ?_, hβ', fun _ h => .inl h, fun k hk => hk.imp id (fun h => by subst h; exact hB)⟩, fun i => ?_, fun k => ?_, fun i h h' => ?_, fun i j h h' k k' _ => ?_, fun y hy => ?_, fun i b' hb' => ?_, fun i b' hb' => ?_⟩
  · rintro k ⟨i, b', hi, rfl⟩; simp at hi
  · show C.ok i ∨ i = n0 ↔ _; simp; exact ⟨fun h => h.imp id (fun h => by omega), fun h => h.imp id (fun h => by omega)⟩
  · show C.ow k ∨ k = _ ↔ _
    constructor
    · rintro (h | h)
      · exact .inl h
      · exact .inr ⟨n0, Nat.le_refl _, by simp, by rw [hβ, h]⟩
    · rintro (h | ⟨i, h1, h2, h3⟩)
      · exact .inl h
      · simp at h2
        obtain rfl : i = n0 := by omega
        exact .inr (by rw [← h3, hβ])
  · simp at h'
    obtain rfl : i = n0 := by omega
    rw [hβ]; exact .inl hB
  · simp at h' k'; omega
  · injection hy with hy
    subst hy
    have := @Rel.slc C' n0 0 k n cap (.inr rfl) hnc hm ⟨arr, b.elem, by rw [hβ]; exact hw, by omega⟩
    rwa [hβ, ite_self] at this
  · obtain ⟨rfl, rfl⟩ := named_one hb'
    refine ⟨arr, by rw [hβ]; exact hw, fun p x hx => ?_⟩
    obtain ⟨v, a1, a2, a3⟩ := hr p x hx
    exact ⟨v, a1, a2, a3.mono e⟩
  · simp at hb'
theorem relS_in {C : Cx} {L : List ByteArray} {v : Value} (h : Rel C (.vec 1 L.length (rowsS stdH fun _ => L)) v) : ∃ A cap, v = .slice A L.length cap ∧ L.length ≤ cap ∧ cap ≤ maxLen ∧ (0 < L.length → ∃ b o, A = some ⟨b, o, none⟩ ∧ ∀ j, j < L.length → C.w.cell? ⟨b, o + j, none⟩ = some (.string (L.getD j ByteArray.empty))) := by
  generalize hq : L.length = q at h
  cases h with
  | @vec _ _ cap _ A g hn hm hk hc h1 hr =>
    refine ⟨A, cap, rfl, hn, hm, fun hp => ?_⟩
    obtain ⟨b, o, e, _, _, hcell⟩ := hc hp
    refine ⟨b, o, e, fun j hj => ?_⟩
    have h4 := hcell j 0 hj (by omega)
    rw [Nat.mul_one, Nat.add_zero] at h4
    rw [h4]
    have h5 := hr j 0 (.lit (.string (L.getD j ByteArray.empty))) hj rfl
    generalize g j 0 = gv at h5
    cases h5
    rfl
theorem c_cloneP (l : List ByteArray) (h0 : 0 < l.length) (h1 : l.length ≤ 100000) : ConN Tryz.prog 60 [.vec 1 (stdH Nat fun _ => (l).length) (rowsS stdH fun _ => l)] [] 0 (.slc 0 0 1 (stdH Nat fun _ => (l).length)) [.rows 1 (stdH Nat fun _ => (l).length) (rowsS stdH fun _ => l) 9] [] := by
  intro C vs hl hb hinj hglo hfresh
  obtain ⟨hlen, hrel⟩ := hl
  match vs, hlen with
  | [v0], _ =>
    have r0 := hrel 0 _ v0 rfl rfl
    obtain ⟨A, cap, rfl, q1, q2, q3⟩ := relS_in r0
    obtain ⟨b, o, rfl, q4⟩ := q3 h0
    have hc := Tryz.slices_Clone_string b o l.length cap l C.w (Nat.le_refl _) (by omega) q4
    refine hc.mono ?_
    rintro e w' ⟨v', rfl, hown, hne, hbel⟩
    obtain ⟨hx, h⟩ := hown
    rcases h with ⟨rfl, _⟩ | ⟨g, cap', cur, rfl, hg1, hg2, hg3, hg4, hg5, hg6⟩
    · exact absurd rfl hne
    · refine ⟨_, rfl, Leaves.newB (hfresh 0 (by omega) (by simp)) hg1 hbel.os hbel.tape hbel.output hbel.size hg2 (fun k hk => hbel.block k hk) rfl (fun p x hx => ?_) hg3 hg4 (by omega)⟩
      simp only [Blk.at, Nat.div_one, Nat.mod_one] at hx
      split at hx
      · rename_i hp
        have hx : x = .lit (.string (l.getD p ByteArray.empty)) := by
          have : some (AV.lit (.string (l.getD p ByteArray.empty))) = some x := hx
          injection this with this
          exact this.symm
        subst hx
        have e1 : cur.toList[p]? = some (.string (l.getD p ByteArray.empty)) := by
          have := congrArg (fun z => z[p]?) hg6
          simp only [Nat.mul_one] at this
          rw [List.getElem?_take_of_lt hp] at this
          rw [this, List.take_of_length_le (Nat.le_refl _), List.getElem?_map, List.getElem?_eq_getElem hp, List.getD_eq_getElem?_getD, List.getElem?_eq_getElem hp]
          rfl
        exact ⟨_, by rw [← Array.getElem?_toList]; exact e1, rfl, .lit rfl⟩
      · cases hx
noncomputable def e_cloneP : Entry := pureN 60 fun H a => match a with
  | [.vec 1 ln lf] => some (fun nx => .slc nx 0 1 (H Nat fun _ => ((Tl rowS ln lf)).length), [.rows 1 (H Nat fun _ => ((Tl rowS ln lf)).length) (rowsS H fun _ => (Tl rowS ln lf)) 9], [H Prop fun _ => Shp rowS ln lf, H Prop fun _ => 0 < (Tl rowS ln lf).length, H Prop fun _ => (Tl rowS ln lf).length ≤ 100000])
  | _ => none
theorem eok_cloneP : EntryOk Tryz.prog e_cloneP := pureN_ok (by unfold isBody; kernel_rfl) (by
  intro a r nb ob e hob
  split at e
  · rename_i ln lf
    simp only [zqt] at e
    obtain ⟨rfl, rfl, rfl⟩ := e
    refine ⟨ConN.args (.cons (.toT okS rfl hob.1) .nil) (c_cloneP (Tl rowS ln lf) hob.2.1 hob.2.2.1), fun x hx => ?_, fun nx => ?_, fun b hb => ?_⟩
    · simp only [zqu] at hx
      rcases hx with rfl
      · exact (hob.1).bl okS _
    · (first | exact .slc ⟨by omega, by simp⟩ (by omega) | (refine .tup rfl (fun c x y hx hy => ?_); rcases c with _ | _ | _ | c <;> simp at hx hy <;> (subst hx; subst hy; first | exact .slc ⟨by omega, by simp⟩ (by omega) | exact .pl .lit | exact .pl (blq_ok 4 rfl) | (refine .agg rfl (fun c x y hx hy => ?_); rcases c with _ | _ | _ | c <;> simp at hx hy <;> (subst hx; subst hy; first | exact .slc ⟨by omega, by simp⟩ (by omega) | exact .pl .lit | exact .pl (blq_ok 4 rfl))))) | (refine .agg rfl (fun c x y hx hy => ?_); rcases c with _ | _ | _ | c <;> simp at hx hy <;> (subst hx; subst hy; first | exact .slc ⟨by omega, by simp⟩ (by omega) | exact .pl .lit | exact .pl (blq_ok 4 rfl))))
    · simp only [zqu] at hb; subst hb; exact bT_bl okS _ (fun _ => (Tl rowS ln lf)) _
  · simp at e)
theorem idxF_is {α : Type} {p : α → Bool} {l : List α} (d : α) (h : ¬ idxF p l = -1) : ∃ i : Nat, idxF p l = (i : Nat) ∧ i < l.length ∧ p (l.getD i d) = true ∧ ∀ j, j < i → p (l.getD j d) = false := by
  unfold idxF at h ⊢
  split at h
  · rename_i g
    rw [if_pos g]
    obtain ⟨x, hx, hp⟩ := List.any_eq_true.1 g
    have hl := List.findIdx_lt_length_of_exists ⟨x, hx, hp⟩
    refine ⟨_, rfl, hl, ?_, fun j hj => ?_⟩
    · rw [List.getD_eq_getElem?_getD, List.getElem?_eq_getElem hl, Option.getD_some]
      exact List.findIdx_getElem
    · have hjl : j < l.length := Nat.lt_trans hj hl
      rw [List.getD_eq_getElem?_getD, List.getElem?_eq_getElem hjl, Option.getD_some]
      exact List.not_of_lt_findIdx hj
  · exact absurd rfl h
theorem idxF_none {α : Type} {p : α → Bool} {l : List α} (h : idxF p l = -1) : l.filter (fun s => !p s) = l := by
  refine List.filter_eq_self.2 fun x hx => ?_
  unfold idxF at h
  split at h
  · have : (0 : Int) ≤ ((l.findIdx p : Nat) : Int) := by omega
    omega
  · rename_i g
    cases hp : p x with
    | false => rfl
    | true => exact absurd (List.any_eq_true.2 ⟨x, hx, hp⟩) g
section
variable {p : ByteArray → Bool} {l m : List ByteArray} {i j : Nat}
theorem getE (h : i < l.length) : l.getD i ByteArray.empty = l[i] := by rw [List.getD_eq_getElem?_getD, List.getElem?_eq_getElem h, Option.getD_some]
theorem del_start (hi : i < l.length) (h2 : p (l.getD i ByteArray.empty) = true) (h1 : ∀ j, j < i → p (l.getD j ByteArray.empty) = false) : l.take i = (l.take (i + 1)).filter fun s => !p s := by
  rw [getE hi] at h2
  rw [List.take_succ_eq_append_getElem hi, List.filter_append, List.filter_cons_of_neg (by rw [h2]; simp), List.filter_nil, List.append_nil]
  refine (List.filter_eq_self.2 fun x hx => ?_).symm
  obtain ⟨q, hq, rfl⟩ := List.getElem_of_mem hx
  rw [List.length_take] at hq
  have := h1 q (by omega)
  rw [getE (by omega)] at this
  rw [List.getElem_take, this]
  rfl
theorem del_drop (hj : j < l.length) (h2 : p (l.getD j ByteArray.empty) = true) : ((l.take (j + 1)).filter fun s => !p s) = (l.take j).filter fun s => !p s := by
  rw [getE hj] at h2
  rw [List.take_succ_eq_append_getElem hj, List.filter_append, List.filter_cons_of_neg (by rw [h2]; simp), List.filter_nil, List.append_nil]
theorem del_keep (hj : j < l.length) (hij : i < j) (hm : m.length = l.length) (h1 : m.take i = (l.take j).filter fun s => !p s) (h2 : p (l.getD j ByteArray.empty) = false) : (m.set i (l.getD j ByteArray.empty)).take (i + 1) = (l.take (j + 1)).filter fun s => !p s := by
  have h3 : (m.set i (l.getD j ByteArray.empty)).take (i + 1) = m.take i ++ [l.getD j ByteArray.empty] := by
    have hi : i < (m.set i (l.getD j ByteArray.empty)).length := by rw [List.length_set]; omega
    rw [List.take_succ_eq_append_getElem hi, List.getElem_set_self, List.take_set_of_le (Nat.le_refl _)]
  rw [h3, h1]
  rw [getE hj] at h2 ⊢
  rw [List.take_succ_eq_append_getElem hj, List.filter_append, List.filter_cons_of_pos (by rw [h2]; rfl), List.filter_nil]
end
theorem c_delF (l : List ByteArray) (k0 : List ByteArray) (h0 : l.length ≤ 100000) (h1 : k0.length ≤ 100000) : ConN Tryz.prog 59 [.slc 0 0 1 (stdH Nat fun _ => l.length), .fn (.func 61) [] [.rptr [.vec 1 (stdH Nat fun _ => (k0).length) (rowsS stdH fun _ => k0)]]] [(0, .rows 1 (stdH Nat fun _ => l.length) (rowsS stdH fun _ => l) 9)] 1 (.slc 1 0 1 (l.filter (fun s => !hasL k0 s)).length) [.rows 1 (stdH Nat fun _ => (l.filter (fun s => !hasL k0 s)).length) (rowsS stdH fun _ => l.filter (fun s => !hasL k0 s)) 9] [(0, .cells [] 9)] := by
  have hB : Base Tryz.prog (tabΓ [e_idxMf, e_mfC]) tab := base_of tabOk (ents_cons eok_idxMf <| ents_cons eok_mfC <| ents_nil)
  refine con_m (N := 42) hB (draw_ok hB mixed) Tryz.func59 rfl rfl (fun H => [.slc 0 0 1 (H Nat fun _ => l.length), .fn (.func 61) [] [.rptr [.vec 1 (H Nat fun _ => (k0).length) (rowsS H fun _ => k0)]]]) (fun H => [(0, .rows 1 (H Nat fun _ => l.length) (rowsS H fun _ => l) 9)]) 1 (fun H => .slc 1 0 1 (H Nat fun _ => (l.filter (fun s => !hasL k0 s)).length)) (fun H => [.rows 1 (H Nat fun _ => (l.filter (fun s => !hasL k0 s)).length) (rowsS H fun _ => l.filter (fun s => !hasL k0 s)) 9]) (fun H => [(0, .cells [] 9)]) 300 (by simp) (fun x hx => ?_) (fun i b hi => ?_) (fun i hi => ?_) (fun i b hi => ?_) ?_
  · simp only [zqu] at hx
    rcases hx with rfl | rfl
    · exact .slc (by omega)
    · exact (by
        refine .fn (fun c hc => by cases hc) ?_
        intro c hc
        simp only [zqu] at hc
        rcases hc with rfl
        · exact (by
        refine .rptr ?_
        intro c hc
        simp only [zqu] at hc
        rcases hc with rfl
        · exact vl_bl okS k0 _))
  · have := lk_in hi
    simp only [zqu, Prod.mk.injEq] at this
    obtain ⟨rfl, rfl⟩ := this
    exact ⟨by omega, bT_bl okS _ (fun _ => l) _, _, List.mem_cons_self⟩
  · obtain rfl : i = 0 := by omega
    exact ⟨_, rfl⟩
  · simp only [zqu, Prod.mk.injEq] at hi
    obtain ⟨rfl, rfl⟩ := hi
    exact ⟨_, rfl⟩
  intro X hX hX0 H hH
  conv in Fin.chk _ _ => cbv
  try simp only [zqs, Plain_rowsC, Plain_rowsD, Plain_rowsW, zqx, AllP, zqw, upd, if_true]
  refine ⟨⟨?_, ?_, ?_, ?_, ?_⟩, fun h2 => ⟨?_, ?_⟩, fun h2 => ?_⟩
  · try simp only [hH, stdH, zqz, ne_eq, zqy]
    exact fun j _ => rfl
  · try simp only [hH, stdH, zqz, ne_eq, zqy]
    exact Shp_rowsT okS _ (fun _ => _)
  · try simp only [hH, stdH, zqz, ne_eq, zqy]
    exact Shp_rowsT okS _ (fun _ => _)
  · simp only [hH, stdH, TlS']
    omega
  · simp only [hH, stdH, TlS']
    exact h1
  · simp only [hH, stdH, TlS', beq_iff_eq] at h2
    have e := idxF_none h2
    simp only [hH, stdH, e]
    exact RowsEq.self okS
  · simp only [hH, stdH, TlS', beq_iff_eq] at h2
    have e := idxF_none h2
    simp only [hH, stdH, e]
  · simp only [hH, stdH, TlS', beq_eq_false_iff_ne] at h2
    obtain ⟨i0, e0, hi0, hp0, hj0⟩ := idxF_is ByteArray.empty h2
    clear h2
    have g0 : i0 < i0 + 1 ∧ i0 + 1 ≤ l.length ∧ l.length = l.length ∧ l.take i0 = (l.take (i0 + 1)).filter (fun s => !hasL k0 s) ∧ ∀ x, i0 + 1 ≤ x → l.getD x ByteArray.empty = l.getD x ByteArray.empty := ⟨by omega, by omega, rfl, del_start hi0 hp0 hj0, fun x _ => rfl⟩
    refine loop_a hB (draw_ok hB mixed) hX hX0 hH false (ι := { p : Nat × Nat × List ByteArray // p.1 < p.2.1 ∧ p.2.1 ≤ l.length ∧ p.2.2.length = l.length ∧ p.2.2.take p.1 = (l.take p.2.1).filter (fun s => !hasL k0 s) ∧ ∀ x, p.2.1 ≤ x → p.2.2.getD x ByteArray.empty = l.getD x ByteArray.empty }) 300 (fun p => [.r (H Nat fun _ => (p.1.2.2).length) (rowsS H fun _ => p.1.2.2), .i (H Int fun _ => (p.1.1 : Nat)), .i (H Int fun _ => (p.1.2.1 : Nat))]) (fun p => l.length - p.1.2.1) (⟨(i0, i0 + 1, l), g0⟩) ?_ ?_
    · (conv in matchSt _ _ _ _ => cbv); simp only [AllG, AllP, and_true, hH, stdH, zql, ncast, zqe, zqy]
      simp only [TlS', e0]
      rw [w1 (by omega)]
      (repeat' (with_reducible refine And.intro ?_ ?_)) <;> (first | exact True.intro | exact Eq.refl _ | exact RowsEq.self okS)
    · intro I hI p
      conv in Fin.chk _ _ => cbv
      try simp only [zqs, Plain_rowsC, Plain_rowsD, Plain_rowsW, zqx, AllP, zqw, upd, if_true]
      obtain ⟨⟨i, j, m⟩, g1, g2, g3, g4, g5⟩ := p
      dsimp only at g1 g2 g3 g4 g5
      refine ⟨fun k1 => ⟨?_, ?_, ⟨?_, ?_⟩, fun k2 => ?_, fun k2 => ?_⟩, fun k1 => ?_⟩
      · simp only [hH, stdH, zqz, ne_eq, zqy] at k1 ⊢
        omega
      · simp only [hH, stdH, zqz, ne_eq, zqy] at k1
        simp only [hH, stdH, Int.toNat_natCast]
        exact ⟨by omega, rfl⟩
      · try simp only [hH, stdH, zqz, ne_eq, zqy]
        exact Shp_rowsT okS _ (fun _ => _)
      · simp only [hH, stdH, TlS']
        exact h1
      · simp only [hH, stdH, zqz, ne_eq, zqy] at k1
        have hj : j < l.length := by omega
        have ev := g5 j (Nat.le_refl _)
        simp only [hH, stdH, Int.toNat_natCast, TlS', Bool.not_eq_true', ev] at k2
        have nx : i + 1 < j + 1 ∧ j + 1 ≤ l.length ∧ (m.set i (l.getD j ByteArray.empty)).length = l.length ∧ (m.set i (l.getD j ByteArray.empty)).take (i + 1) = (l.take (j + 1)).filter (fun s => !hasL k0 s) ∧ ∀ x, j + 1 ≤ x → (m.set i (l.getD j ByteArray.empty)).getD x ByteArray.empty = l.getD x ByteArray.empty := ⟨by omega, by omega, by rw [List.length_set]; exact g3, del_keep hj g1 g3 g4 k2, fun x hx => by
          rw [← g5 x (by omega), List.getD_eq_getElem?_getD, List.getElem?_set_ne (by omega), ← List.getD_eq_getElem?_getD]⟩
        refine ⟨?_, ?_, ⟨(i + 1, j + 1, m.set i (l.getD j ByteArray.empty)), nx⟩, by simp only; omega, ?_⟩
        · simp only [hH, stdH, Int.toNat_natCast]
          omega
        · simp only [hH, stdH, Int.toNat_natCast]
          exact ⟨by omega, rfl⟩
        · rw [hI]
          (conv in matchSt _ _ _ _ => cbv); simp only [AllG, AllP, and_true, hH, stdH, zql, ncast, zqe, zqy]
          simp only [Int.toNat_natCast, ev]
          rw [w1 (by omega), w1 (by omega)]
          (repeat' (with_reducible refine And.intro ?_ ?_)) <;> (first | exact True.intro | exact Eq.refl _ | exact RowsEq.self okS | exact RowsEq.ofT okS rfl (Shp_put1 (Shp_rowsT okS _ (fun _ => _)) rfl) (by rw [Tl_put1, TlS']; rfl) | (rw [List.length_set]; done) | exact (List.length_set).trans g3 | exact g3 | exact g3.symm)
      · simp only [hH, stdH, zqz, ne_eq, zqy] at k1
        have hj : j < l.length := by omega
        have ev := g5 j (Nat.le_refl _)
        simp only [hH, stdH, Int.toNat_natCast, TlS', Bool.not_eq_false', ev] at k2
        have nx : i < j + 1 ∧ j + 1 ≤ l.length ∧ m.length = l.length ∧ m.take i = (l.take (j + 1)).filter (fun s => !hasL k0 s) ∧ ∀ x, j + 1 ≤ x → m.getD x ByteArray.empty = l.getD x ByteArray.empty := ⟨by omega, by omega, g3, g4.trans (del_drop hj k2).symm, fun x hx => g5 x (by omega)⟩
        refine ⟨⟨(i, j + 1, m), nx⟩, by simp only; omega, ?_⟩
        rw [hI]
        (conv in matchSt _ _ _ _ => cbv); simp only [AllG, AllP, and_true, hH, stdH, zql, ncast, zqe, zqy]
        rw [w1 (by omega)]
        (repeat' (with_reducible refine And.intro ?_ ?_)) <;> (first | exact True.intro | exact Eq.refl _ | exact RowsEq.self okS)
      · simp only [hH, stdH, zqz, ne_eq, zqy] at k1
        obtain rfl : j = l.length := by omega
        rw [List.take_length] at g4
        have el : (l.filter fun s => !hasL k0 s).length = i := by rw [← g4, List.length_take]; omega
        have e6 : hiOf l.length (some (i : Int)) - loOf none = i := by show ((i : Nat) : Int).toNat - 0 = i; omega
        have e7 : Tl rowS i (rowsS stdH fun _ => m) = l.filter fun s => !hasL k0 s := by
          have := Tl_offS (L := m) (o := 0) (n := i) (by omega)
          rw [List.drop_zero] at this
          rw [← g4, ← this]
          congr 1
          funext q
          rw [Nat.zero_add]
        simp only [hH, stdH, Int.toNat_natCast, Nat.mul_one, e6, el]
        have e8 : RowsEq 1 i (rowsS stdH fun _ => l.filter fun s => !hasL k0 s) i (rowsS stdH fun _ => m) := by
          have := RowsEq.ofT (n' := i) (f' := rowsS stdH fun _ => m) (L := l.filter fun s => !hasL k0 s) okS rfl (Shp_rowsT okS i (fun _ => m)) e7.symm
          rw [el] at this
          exact this
        (repeat' (with_reducible refine And.intro ?_ ?_)) <;> (first | exact True.intro | exact Eq.refl _ | exact e8 | omega | (exact ⟨by show (0 : Int) ≤ (i : Nat); omega, trivial, by show ((i : Nat) : Int).toNat ≤ l.length; omega, Nat.le_refl _⟩) | (exact ⟨trivial, by show (0 : Int) ≤ (i : Nat); omega, by show 0 ≤ _; omega, by show ((i : Nat) : Int).toNat ≤ l.length; omega⟩))
noncomputable def e_delF : Entry := growE 59 1 9 fun H n g a => match a with
  | [.fn (.func 61) [] [.rptr [.vec 1 k0n k0f]]] => some (H Nat fun _ => ((Tl rowS n g).filter (fun s => !hasL (Tl rowS k0n k0f) s)).length, rowsS H fun _ => (Tl rowS n g).filter (fun s => !hasL (Tl rowS k0n k0f) s), [H Prop fun _ => Shp rowS n g, H Prop fun _ => Shp rowS k0n k0f, H Prop fun _ => (Tl rowS n g).length ≤ 100000, H Prop fun _ => (Tl rowS k0n k0f).length ≤ 100000])
  | _ => none
theorem eok_delF : EntryOk Tryz.prog e_delF := growE_ok (by unfold isBody; kernel_rfl) (by
  intro n g a m g' ob e hob
  split at e
  · rename_i k0n k0f
    simp only [zqt] at e
    obtain ⟨rfl, rfl, rfl⟩ := e
    have hs := hob.1
    have hl : (Tl rowS n g).length = n := Tl_len n g
    refine ⟨rowsS stdH fun _ => Tl rowS n g, fun j hj => ⟨?_, ?_⟩, ?_, fun x hx => ?_, fun j hj => ?_⟩
    · rw [hs.row j hj]; exact ((okS).row (fun _ => Tl rowS n g) j).trans (by rw [Tl_getD hj])
    · exact rows_blx okS _ j
    · have := c_delF (Tl rowS n g) (Tl rowS k0n k0f) hob.2.2.1 hob.2.2.2.1
      simp only [stdH, hl] at this ⊢
      exact ConN.args (.cons .rfl (.cons (.fn .nil (.cons (.rptr (.cons (.toT okS rfl hob.2.1) .nil)) .nil)) .nil)) this
    · simp only [zqu] at hx
      rcases hx with rfl
      · exact (by
        refine .fn (fun c hc => by cases hc) ?_
        intro c hc
        simp only [zqu] at hc
        rcases hc with rfl
        · exact (by
        refine .rptr ?_
        intro c hc
        simp only [zqu] at hc
        rcases hc with rfl
        · exact (hob.2.1).bl okS _))
    · exact rows_blx okS _ j
  · simp at e)
theorem c_idxZ (l : List ByteArray) (k : Value) (h0 : l.length = 0) (h1 : k.oneCell' = true) : ConN Tryz.prog 99 [.vec 1 (stdH Nat fun _ => (l).length) (rowsS stdH fun _ => l), .lit k] [] 0 (.lit (.int .i64 (stdH Int fun _ => -1))) [] [] := by
  have hB : Base Tryz.prog (tabΓ []) tab := base_of tabOk (ents_nil)
  refine con_m (N := 19) hB (draw_ok hB mixed) Tryz.func99 rfl rfl (fun H => [.vec 1 (H Nat fun _ => (l).length) (rowsS H fun _ => l), .lit k]) (fun _ => []) 0 (fun H => .lit (.int .i64 (H Int fun _ => -1))) (fun H => []) (fun _ => []) 100 (by simp) (fun x hx => ?_) (by simp [lk]) (by omega) (by simp) ?_
  · simp only [zqu] at hx
    rcases hx with rfl | rfl
    · exact vl_bl okS l _
    · exact .lit
  intro X hX hX0 H hH
  conv in Fin.chk _ _ => cbv
  try simp only [zqs, Plain_rowsC, Plain_rowsD, Plain_rowsW, zqx, AllP, zqw, upd, if_true]
  refine loop_c hB (draw_ok hB mixed) hX hX0 hH [0, 4, 7, 8] (ι := Unit) 100 (fun _ => [.i (H Int fun _ => 0), .i (H Int fun _ => 0)]) (fun _ => 0) (()) ?_ ?_
  · (conv in matchSt _ _ _ _ => cbv); simp only [AllG, AllP, and_true, hH, stdH, zql, ncast, zqe, zqy]
    all_goals (repeat' (with_reducible refine And.intro ?_ ?_)) <;> (first | exact Eq.refl _ | exact True.intro | exact Nat.le_refl _ | exact RowsEq.self okS | exact RowsEq.ofT okS rfl (Shp_zero _) rfl | exact RowsEq.snoc okS rfl | exact RowsEq.more okS (Shp_S _ _) (Tl_S _) | exact List.length_append | exact c.rqN)
  · intro I hI i
    conv in Fin.chk _ _ => cbv
    try simp only [zqs, Plain_rowsC, Plain_rowsD, Plain_rowsW, zqx, AllP, zqw, upd, if_true]
    refine ⟨fun k1 => ?_, fun k1 => ?_⟩
    · exfalso
      simp only [hH, stdH, zqz, ne_eq, zqy] at k1
      omega
    · try simp only [hH, stdH, zqz, ne_eq, zqy]
noncomputable def e_idxZ : Entry := pureE 99 fun H a => match a with
  | [.vec 1 ln lf, .lit k] => some (.lit (.int .i64 (H Int fun _ => -1)), [H Prop fun _ => Shp rowS ln lf, H Prop fun _ => (Tl rowS ln lf).length = 0, H Prop fun _ => k.oneCell' = true])
  | _ => none
theorem eok_idxZ : EntryOk Tryz.prog e_idxZ := pureM_ok (by unfold isBody; kernel_rfl) (by
  intro a r ob e hob
  split at e
  · rename_i ln lf k
    simp only [zqt] at e
    obtain ⟨rfl, rfl⟩ := e
    exact ConN.args (.cons (.toT okS rfl hob.1) (.cons .rfl .nil)) (c_idxZ (Tl rowS ln lf) k hob.2.1 hob.2.2.1)
  · simp at e)
theorem c_delZ0 (l : List ByteArray) (k : Value) (h0 : l.length = 0) (h1 : k.oneCell' = true) : ConN Tryz.prog 59 [.vec 1 (stdH Nat fun _ => (l).length) (rowsS stdH fun _ => l), .lit k] [] 0 (.vec 1 (stdH Nat fun _ => (l).length) (rowsS stdH fun _ => l)) [] [] := by
  have hB : Base Tryz.prog (tabΓ [e_idxZ]) tab := base_of tabOk (ents_cons eok_idxZ <| ents_nil)
  refine con_m (N := 42) hB (draw_ok hB mixed) Tryz.func59 rfl rfl (fun H => [.vec 1 (H Nat fun _ => (l).length) (rowsS H fun _ => l), .lit k]) (fun _ => []) 0 (fun H => .vec 1 (H Nat fun _ => (l).length) (rowsS H fun _ => l)) (fun H => []) (fun _ => []) 300 (by simp) (fun x hx => ?_) (by simp [lk]) (by omega) (by simp) ?_
  · simp only [zqu] at hx
    rcases hx with rfl | rfl
    · exact vl_bl okS l _
    · exact .lit
  intro X hX hX0 H hH
  conv in Fin.chk _ _ => cbv
  try simp only [zqs, Plain_rowsC, Plain_rowsD, Plain_rowsW, zqx, AllP, zqw, upd, if_true]
  refine ⟨⟨?_, ?_, ?_⟩, fun h2 => ?_, fun h2 => ?_⟩
  · try simp only [hH, stdH, zqz, ne_eq, zqy]
    exact Shp_rowsT okS _ (fun _ => _)
  · simp only [hH, stdH, TlS']
    exact h0
  · try simp only [hH, stdH, zqz, ne_eq, zqy]
    exact h1
  · try simp only [hH, stdH, zqz, ne_eq, zqy]
    exact RowsEq.self okS
  · exfalso
    simp only [hH, stdH] at h2
    cases h2
theorem vec0 {C : Cx} {k n : Nat} {f : Nat → List AV} {v : Value} (h : Rel C (.vec k n f) v) (h0 : n = 0) (g : Nat → List AV) : Rel C (.vec k 0 g) v := by
  subst h0
  cases h with
  | @vec _ _ cap _ A q hn hm hk hc h1 hr =>
    exact .vec (g := q) hn hm (fun j hj => absurd hj (Nat.not_lt_zero j)) (fun h => absurd h (Nat.lt_irrefl 0)) (fun j c hj _ => absurd hj (Nat.not_lt_zero j)) (fun j c x hj _ => absurd hj (Nat.not_lt_zero j))
noncomputable def e_delZ : Entry := ⟨59, fun H a h nx => match a with
  | [.vec 1 n f, .fn (.func _) _ _] => some (.vec 1 n f, [], [], [], [H Prop fun _ => n = 0])
  | _ => none⟩
theorem eok_delZ : EntryOk Tryz.prog e_delZ := by
  refine ⟨by unfold isBody; kernel_rfl, fun a hp nx r nb rd u ob e hob => ?_⟩
  simp only [e_delZ] at e
  split at e
  · rename_i n f q x y
    simp only [stdH, zqt] at e
    obtain ⟨rfl, rfl, rfl, rfl, rfl⟩ := e
    obtain ⟨rfl, _⟩ := hob
    refine ⟨by simp, [], by simp [lk], ?_⟩
    intro C vs hl hb hinj hglo hfresh
    obtain ⟨hlen, hrel⟩ := hl
    match vs, hlen with
    | [v0, v1], _ =>
      have r0 := hrel 0 _ v0 rfl rfl
      have r1 := hrel 1 _ v1 rfl rfl
      have hone : v1.oneCell' = true := by cases r1; rfl
      have hc := c_delZ0 [] v1 rfl hone C [v0, v1] (.cons (vec0 r0 rfl _) (.cons (.lit hone) (.nil C))) hb hinj hglo (fun i h1 h2 => absurd h2 (by simp))
      refine hc.mono ?_
      rintro e w' ⟨cv, rfl, C', hA⟩
      exact ⟨cv, rfl, Leaves.n_irrel ⟨C', { hA with val := fun x hx => by injection hx with hx; subst hx; exact vec0 (hA.val _ rfl) rfl _ }⟩⟩
  · simp at e
theorem c_cloneZ (l : List ByteArray) (h0 : l.length = 0) : ConN Tryz.prog 60 [.vec 1 (stdH Nat fun _ => (l).length) (rowsS stdH fun _ => l)] [] 0 (.vec 1 (stdH Nat fun _ => (l).length) (rowsS stdH fun _ => l)) [] [] := by
  intro C vs hl hb hinj hglo hfresh
  obtain ⟨hlen, hrel⟩ := hl
  match vs, hlen with
  | [v0], _ =>
    have r0 := hrel 0 _ v0 rfl rfl
    obtain ⟨A, cap, rfl, q1, q2, q3⟩ := relS_in r0
    have hz : ∀ (D : Cx) (A : Option Addr) (cap : Nat), cap ≤ maxLen → Rel D (.vec 1 (stdH Nat fun _ => l.length) (rowsS stdH fun _ => l)) (.slice A l.length cap) := fun D A cap hm => .vec (g := fun _ _ => .bool false) (by show l.length ≤ cap; omega) hm (fun j _ => rfl) (fun h => absurd h (by show ¬ 0 < l.length; omega)) (fun j c hj _ => absurd hj (by show ¬ j < l.length; omega)) (fun j c x hj _ => absurd hj (by show ¬ j < l.length; omega))
    rw [h0] at hz ⊢
    cases A with
    | none =>
      refine (Tryz.slices_Clone_string_nil 0 cap C.w).mono ?_
      rintro e w' ⟨rfl, rfl⟩
      exact ⟨_, rfl, .same fun x hx => by injection hx with hx; subst hx; exact hz C none 0 (by decide)⟩
    | some A =>
      refine (Tryz.slices_Clone_string_zero A cap C.w).mono ?_
      rintro e w' ⟨v', rfl, hown, hne, hbel⟩
      obtain ⟨hx, h⟩ := hown
      rcases h with ⟨rfl, _⟩ | ⟨g, cap', cur, rfl, hg1, hg2, hg3, hg4, hg5, hg6⟩
      · exact absurd rfl hne
      · refine ⟨_, rfl, ⟨⟨C.β, C.ok, C.ow, w'⟩, rfl, ⟨⟨hbel.os, hbel.tape, hbel.output, hbel.size, fun k hk _ => hbel.block k hk, fun k c T hc => ⟨c, by show w'.heap[k]? = _; rw [hbel.block k (Array.getElem?_eq_some_iff.1 hc).1]; exact hc, rfl⟩⟩, (by rintro k ⟨i, b, hi, _⟩; simp at hi), fun _ _ => rfl, fun _ h => h, fun _ h => .inl h⟩, (by simp <;> omega), (by simp <;> omega), (by simp <;> omega), (by simp <;> omega), (fun x hx => by injection hx with hx; subst hx; exact hz _ _ cap' hg4), (by simp [named]), (by simp)⟩⟩
noncomputable def e_cloneZ : Entry := pureE 60 fun H a => match a with
  | [.vec 1 ln lf] => some (.vec 1 (H Nat fun _ => ((Tl rowS ln lf)).length) (rowsS H fun _ => (Tl rowS ln lf)), [H Prop fun _ => Shp rowS ln lf, H Prop fun _ => (Tl rowS ln lf).length = 0])
  | _ => none
theorem eok_cloneZ : EntryOk Tryz.prog e_cloneZ := pureM_ok (by unfold isBody; kernel_rfl) (by
  intro a r ob e hob
  split at e
  · rename_i ln lf
    simp only [zqt] at e
    obtain ⟨rfl, rfl⟩ := e
    exact ConN.args (.cons (.toT okS rfl hob.1) .nil) (c_cloneZ (Tl rowS ln lf) hob.2.1)
  · simp at e)

end Go.Proofs.YtcjjffmbhionmaaGreatDoor.AM

