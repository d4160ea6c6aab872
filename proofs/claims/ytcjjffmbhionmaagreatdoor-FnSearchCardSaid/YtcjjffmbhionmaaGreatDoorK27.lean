/- Lemmas and contracts (Rka); conditions: none. -/
import Derived.Test.YtcjjffmbhionmaaGreatDoorK03
import Derived.Test.YtcjjffmbhionmaaGreatDoorK23
import Derived.Test.YtcjjffmbhionmaaGreatDoorK24
import Derived.Test.YtcjjffmbhionmaaGreatDoorK26
set_option linter.unusedVariables false
set_option linter.unusedSimpArgs false
set_option maxRecDepth 100000
set_option maxHeartbeats 4000000
set_option cbv.maxSteps 3000000
namespace Go.Proofs.YtcjjffmbhionmaaGreatDoor.AM
/- Grants searched for: the program's; conditions: none. -/
theorem rk_take {f : List ByteArray} {l : List Grt} {i : Nat} (h : i < l.length) : (rkN f l).take (i + 1) = (rkN f l).take i ++ [((rkS f l).getD i default).num] ∧ (rkC f l).take (i + 1) = (rkC f l).take i ++ [((kyG f ((rkS f l).getD i default) : Nat) : Int)] := by
  have h1 : i < (rkS f l).length := by rw [rkS_len]; exact h
  have e : (rkS f l).getD i default = (rkS f l)[i] := by rw [List.getD_eq_getElem?_getD, List.getElem?_eq_getElem h1, Option.getD_some]
  unfold rkN rkC
  rw [e]
  constructor
  · rw [List.take_succ_eq_append_getElem (by rw [List.length_map]; exact h1), List.getElem_map]
  · rw [List.take_succ_eq_append_getElem (by rw [List.length_map]; exact h1), List.getElem_map]
theorem rkS_okA {f : List ByteArray} {l : List Grt} (h : ∀ g ∈ l, okA g.arms = true) {i : Nat} (hi : i < l.length) : okA ((rkS f l).getD i default).arms = true := by
  have h1 : i < (rkS f l).length := by rw [rkS_len]; exact hi
  rw [List.getD_eq_getElem?_getD, List.getElem?_eq_getElem h1, Option.getD_some]
  exact h _ (rkS_mem (List.getElem_mem h1))
def tabQ : Tab := ⟨(88, tiF) :: tabL, false, 1⟩
theorem tabOkQ : TabOk Tryz.prog tabQ := tabOkK
theorem c_rankA (r : Rgr) (k0 : List ByteArray) (h0 : r.gs.length ≤ 20) (h1 : (∀ g ∈ r.gs, okA g.arms = true)) (h2 : k0.length ≤ 100000) : ConN Tryz.prog 52 [aT rowJ stdH fun _ => r, .fn (.func 53) [] [.rptr [.vec 1 (stdH Nat fun _ => (k0).length) (rowsS stdH fun _ => k0)]]] [] 0 (.tup [.slc 0 0 1 (stdH Nat fun _ => (rkN k0 r.gs).length), .slc 1 0 1 (stdH Nat fun _ => (rkC k0 r.gs).length)]) [.rows 1 (stdH Nat fun _ => (rkN k0 r.gs).length) (rowsI stdH fun _ => rkN k0 r.gs) 3, .rows 1 (stdH Nat fun _ => (rkC k0 r.gs).length) (rowsI stdH fun _ => rkC k0 r.gs) 3] [] := by
  have hB : Base Tryz.prog (tabΓ [e_saC, e_sortW]) tabQ := base_of tabOkQ (ents_cons eok_saC <| ents_cons eok_sortW <| ents_nil)
  refine con_m (N := 40) hB (draw_ok hB mixed) Tryz.func52 rfl rfl (fun H => [aT rowJ H fun _ => r, .fn (.func 53) [] [.rptr [.vec 1 (H Nat fun _ => (k0).length) (rowsS H fun _ => k0)]]]) (fun _ => []) 0 (fun H => .tup [.slc 0 0 1 (H Nat fun _ => (rkN k0 r.gs).length), .slc 1 0 1 (H Nat fun _ => (rkC k0 r.gs).length)]) (fun H => [.rows 1 (H Nat fun _ => (rkN k0 r.gs).length) (rowsI H fun _ => rkN k0 r.gs) 3, .rows 1 (H Nat fun _ => (rkC k0 r.gs).length) (rowsI H fun _ => rkC k0 r.gs) 3]) (fun _ => []) 300 (by simp) (fun x hx => ?_) (by simp [lk]) (by omega) (by simp) ?_
  · simp only [zqu] at hx
    rcases hx with rfl | rfl
    · exact aT_bl okRJ _ _
    · exact (by
        refine .fn (fun c hc => by cases hc) ?_
        intro c hc
        simp only [zqu] at hc
        rcases hc with rfl
        · exact (by
        refine .rptr ?_
        intro c hc
        simp only [zqu] at hc
        rcases hc with rfl
        · exact vl_bl okS k0 _))
  intro X hX hX0 H hH
  conv in Fin.chk _ _ => cbv
  try simp only [zqs, Plain_rowsC, Plain_rowsW, zqx, AllP, zqw, upd, if_true]
  try simp only [hetaA hH, TlW_H hH]
  have e5 : Tl rowW r.gs.length (rowsW stdH fun _ => r.gs) = r.gs := Tl_W r.gs
  have el := rkS_len k0 r.gs
  have ew := RowsEq.self okRW (L := rkS k0 r.gs)
  rw [el] at ew
  have en := rkN_len k0 r.gs
  have ec := rkC_len k0 r.gs
  refine ⟨?_, ?_, ?_⟩
  · try simp only [hH, stdH, zqz, ne_eq, zqy]
    ((repeat' (with_reducible refine And.intro ?_ ?_)) <;> (first | exact True.intro | omega | exact Eq.refl _))
  · simp only [hH, stdH, appN0, e5, TlS']
    exact ⟨trivial, Shp_W _ _, Shp_rowsT okS _ (fun _ => _), h0, h1, h2, trivial⟩
  · refine loop_a hB (draw_ok hB mixed) hX hX0 hH false (ι := { i : Nat // i ≤ r.gs.length }) 300 (fun i => [.r (H Nat fun _ => ((rkN k0 r.gs).take i.1).length) (rowsI H fun _ => (rkN k0 r.gs).take i.1), .r (H Nat fun _ => ((rkC k0 r.gs).take i.1).length) (rowsI H fun _ => (rkC k0 r.gs).take i.1), .i (H Int fun _ => (i.1 : Nat))]) (fun i => r.gs.length - i.1) (⟨0, Nat.zero_le _⟩) ?_ ?_
    · (conv in matchSt _ _ _ _ => cbv); simp only [AllG, AllP, and_true, hH, stdH, zql, ncast, zqe, zqy]
      simp only [appN0, e5, TlS', List.take_zero]
      (repeat' (with_reducible refine And.intro ?_ ?_)) <;> (first | exact True.intro | exact Eq.refl _ | exact RowsEq.self okS | exact ew | exact RowsEq.ofT okI rfl (Shp_zero _) rfl)
    · intro I hI i
      conv in Fin.chk _ _ => cbv
      try simp only [zqs, Plain_rowsC, Plain_rowsW, zqx, AllP, zqw, upd, if_true]
      obtain ⟨i, hi⟩ := i
      have l1 : ((rkN k0 r.gs).take i).length = i := by rw [List.length_take]; omega
      have l2 : ((rkC k0 r.gs).take i).length = i := by rw [List.length_take]; omega
      refine ⟨fun h3 => ?_, fun h3 => ?_⟩
      · simp only [hH, stdH, zqz, ne_eq, zqy] at h3
        have hi' : i < r.gs.length := by omega
        have ht := rk_take (f := k0) hi'
        (repeat' (with_reducible refine And.intro ?_ ?_))
        all_goals first
          | (refine ⟨⟨i + 1, by omega⟩, by simp only; omega, ?_⟩
             rw [hI]
             (conv in matchSt _ _ _ _ => cbv); simp only [AllG, AllP, and_true, hH, stdH, zql, ncast, zqe, zqy]
             simp only [appN0, e5, TlS', Int.toNat_natCast]
             rw [w1 (by omega), ht.1, ht.2]
             (repeat' (with_reducible refine And.intro ?_ ?_)) <;> (first | exact True.intro | exact Eq.refl _ | exact RowsEq.self okS | exact ew | exact RowsEq.snoc okI rfl | exact RowsEq.more okI (Shp_I _ _) (Tl_I _) | exact List.length_append))
          | (simp only [hH, stdH, appN0, e5, TlS', Int.toNat_natCast, l1, l2]; done)
          | (simp only [hH, stdH, appN0, e5, TlS', Int.toNat_natCast, l1, l2]
             first | exact True.intro | exact Shp_rowsT okS _ (fun _ => _) | exact rkS_okA h1 hi' | exact ⟨hi', rfl⟩ | exact h2 | omega | exact ⟨by omega, by omega⟩ | exact ⟨True.intro, by omega, by omega⟩)
      · simp only [hH, stdH, zqz, ne_eq, zqy] at h3
        obtain rfl : i = r.gs.length := by omega
        have t1 : (rkN k0 r.gs).take r.gs.length = rkN k0 r.gs := List.take_of_length_le (by omega)
        have t2 : (rkC k0 r.gs).take r.gs.length = rkC k0 r.gs := List.take_of_length_le (by omega)
        simp only [hH, stdH, t1, t2]
        (repeat' (with_reducible refine And.intro ?_ ?_)) <;> (first | exact True.intro | exact Eq.refl _ | exact Nat.le_refl _ | exact RowsEq.self okI)
noncomputable def e_rankA : Entry := pureN 52 fun H a => match a with
  | [.agg [.vec 18 r0n r0f], .fn (.func 53) [] [.rptr [.vec 1 k0n k0f]]] => some (fun nx => .tup [.slc nx 0 1 (H Nat fun _ => (rkN (Tl rowS k0n k0f) (⟨(Tl rowW r0n r0f)⟩ : Rgr).gs).length), .slc (nx + 1) 0 1 (H Nat fun _ => (rkC (Tl rowS k0n k0f) (⟨(Tl rowW r0n r0f)⟩ : Rgr).gs).length)], [.rows 1 (H Nat fun _ => (rkN (Tl rowS k0n k0f) (⟨(Tl rowW r0n r0f)⟩ : Rgr).gs).length) (rowsI H fun _ => rkN (Tl rowS k0n k0f) (⟨(Tl rowW r0n r0f)⟩ : Rgr).gs) 3, .rows 1 (H Nat fun _ => (rkC (Tl rowS k0n k0f) (⟨(Tl rowW r0n r0f)⟩ : Rgr).gs).length) (rowsI H fun _ => rkC (Tl rowS k0n k0f) (⟨(Tl rowW r0n r0f)⟩ : Rgr).gs) 3], [H Prop fun _ => Shp rowW r0n r0f, H Prop fun _ => Shp rowS k0n k0f, H Prop fun _ => (⟨(Tl rowW r0n r0f)⟩ : Rgr).gs.length ≤ 20, H Prop fun _ => (∀ g ∈ (⟨(Tl rowW r0n r0f)⟩ : Rgr).gs, okA g.arms = true), H Prop fun _ => (Tl rowS k0n k0f).length ≤ 100000])
  | _ => none
theorem eok_rankA : EntryOk Tryz.prog e_rankA := pureN_ok (by unfold isBody; kernel_rfl) (by
  intro a r nb ob e hob
  split at e
  · rename_i r0n r0f k0n k0f
    simp only [zqt] at e
    obtain ⟨rfl, rfl, rfl⟩ := e
    refine ⟨ConN.args (.cons (.agg (.cons (.toT okRW rfl hob.1) .nil)) (.cons (.fn .nil (.cons (.rptr (.cons (.toT okS rfl hob.2.1) .nil)) .nil)) .nil)) (c_rankA (⟨(Tl rowW r0n r0f)⟩ : Rgr) (Tl rowS k0n k0f) hob.2.2.1 hob.2.2.2.1 hob.2.2.2.2.1), fun x hx => ?_, fun nx => ?_, fun b hb => ?_⟩
    · simp only [zqu] at hx
      rcases hx with rfl | rfl
      · exact (.agg fun c hc => (by
        simp only [zqu] at hc
        rcases hc with rfl
        · exact (hob.1).bl okRW _))
      · exact (by
        refine .fn (fun c hc => by cases hc) ?_
        intro c hc
        simp only [zqu] at hc
        rcases hc with rfl
        · exact (by
        refine .rptr ?_
        intro c hc
        simp only [zqu] at hc
        rcases hc with rfl
        · exact (hob.2.1).bl okS _))
    · (first | exact .slc ⟨by omega, by simp⟩ (by omega) | (refine .tup rfl (fun c x y hx hy => ?_); rcases c with _ | _ | _ | c <;> simp at hx hy <;> (subst hx; subst hy; first | exact .slc ⟨by omega, by simp⟩ (by omega) | exact .pl .lit | exact .pl (blq_ok 4 rfl) | (refine .agg rfl (fun c x y hx hy => ?_); rcases c with _ | _ | _ | c <;> simp at hx hy <;> (subst hx; subst hy; first | exact .slc ⟨by omega, by simp⟩ (by omega) | exact .pl .lit | exact .pl (blq_ok 4 rfl))))) | (refine .agg rfl (fun c x y hx hy => ?_); rcases c with _ | _ | _ | c <;> simp at hx hy <;> (subst hx; subst hy; first | exact .slc ⟨by omega, by simp⟩ (by omega) | exact .pl .lit | exact .pl (blq_ok 4 rfl))))
    · simp only [zqu] at hb; rcases hb with rfl | rfl
      · exact bT_bl okI _ (fun _ => rkN (Tl rowS k0n k0f) (⟨(Tl rowW r0n r0f)⟩ : Rgr).gs) _
      · exact bT_bl okI _ (fun _ => rkC (Tl rowS k0n k0f) (⟨(Tl rowW r0n r0f)⟩ : Rgr).gs) _
  · simp at e)
theorem c_rankB (r : Rgr) (k0 : List ByteArray) (h0 : r.gs.length ≤ 20) (h1 : (∀ g ∈ r.gs, okA g.arms = true)) (h2 : k0.length ≤ 100000) : ConN Tryz.prog 52 [aT rowJ stdH fun _ => r, .fn (.func 66) [] [.rptr [.vec 1 (stdH Nat fun _ => (k0).length) (rowsS stdH fun _ => k0)]]] [] 0 (.tup [.slc 0 0 1 (stdH Nat fun _ => (rkN k0 r.gs).length), .slc 1 0 1 (stdH Nat fun _ => (rkC k0 r.gs).length)]) [.rows 1 (stdH Nat fun _ => (rkN k0 r.gs).length) (rowsI stdH fun _ => rkN k0 r.gs) 3, .rows 1 (stdH Nat fun _ => (rkC k0 r.gs).length) (rowsI stdH fun _ => rkC k0 r.gs) 3] [] := by
  have hB : Base Tryz.prog (tabΓ [e_sgC, e_sortX]) tabQ := base_of tabOkQ (ents_cons eok_sgC <| ents_cons eok_sortX <| ents_nil)
  refine con_m (N := 40) hB (draw_ok hB mixed) Tryz.func52 rfl rfl (fun H => [aT rowJ H fun _ => r, .fn (.func 66) [] [.rptr [.vec 1 (H Nat fun _ => (k0).length) (rowsS H fun _ => k0)]]]) (fun _ => []) 0 (fun H => .tup [.slc 0 0 1 (H Nat fun _ => (rkN k0 r.gs).length), .slc 1 0 1 (H Nat fun _ => (rkC k0 r.gs).length)]) (fun H => [.rows 1 (H Nat fun _ => (rkN k0 r.gs).length) (rowsI H fun _ => rkN k0 r.gs) 3, .rows 1 (H Nat fun _ => (rkC k0 r.gs).length) (rowsI H fun _ => rkC k0 r.gs) 3]) (fun _ => []) 300 (by simp) (fun x hx => ?_) (by simp [lk]) (by omega) (by simp) ?_
  · simp only [zqu] at hx
    rcases hx with rfl | rfl
    · exact aT_bl okRJ _ _
    · exact (by
        refine .fn (fun c hc => by cases hc) ?_
        intro c hc
        simp only [zqu] at hc
        rcases hc with rfl
        · exact (by
        refine .rptr ?_
        intro c hc
        simp only [zqu] at hc
        rcases hc with rfl
        · exact vl_bl okS k0 _))
  intro X hX hX0 H hH
  conv in Fin.chk _ _ => cbv
  try simp only [zqs, Plain_rowsC, Plain_rowsW, zqx, AllP, zqw, upd, if_true]
  try simp only [hetaA hH, TlW_H hH]
  have e5 : Tl rowW r.gs.length (rowsW stdH fun _ => r.gs) = r.gs := Tl_W r.gs
  have el := rkS_len k0 r.gs
  have ew := RowsEq.self okRW (L := rkS k0 r.gs)
  rw [el] at ew
  have en := rkN_len k0 r.gs
  have ec := rkC_len k0 r.gs
  refine ⟨?_, ?_, ?_⟩
  · try simp only [hH, stdH, zqz, ne_eq, zqy]
    ((repeat' (with_reducible refine And.intro ?_ ?_)) <;> (first | exact True.intro | omega | exact Eq.refl _))
  · simp only [hH, stdH, appN0, e5, TlS']
    exact ⟨trivial, Shp_W _ _, Shp_rowsT okS _ (fun _ => _), h0, h1, h2, trivial⟩
  · refine loop_a hB (draw_ok hB mixed) hX hX0 hH false (ι := { i : Nat // i ≤ r.gs.length }) 300 (fun i => [.r (H Nat fun _ => ((rkN k0 r.gs).take i.1).length) (rowsI H fun _ => (rkN k0 r.gs).take i.1), .r (H Nat fun _ => ((rkC k0 r.gs).take i.1).length) (rowsI H fun _ => (rkC k0 r.gs).take i.1), .i (H Int fun _ => (i.1 : Nat))]) (fun i => r.gs.length - i.1) (⟨0, Nat.zero_le _⟩) ?_ ?_
    · (conv in matchSt _ _ _ _ => cbv); simp only [AllG, AllP, and_true, hH, stdH, zql, ncast, zqe, zqy]
      simp only [appN0, e5, TlS', List.take_zero]
      (repeat' (with_reducible refine And.intro ?_ ?_)) <;> (first | exact True.intro | exact Eq.refl _ | exact RowsEq.self okS | exact ew | exact RowsEq.ofT okI rfl (Shp_zero _) rfl)
    · intro I hI i
      conv in Fin.chk _ _ => cbv
      try simp only [zqs, Plain_rowsC, Plain_rowsW, zqx, AllP, zqw, upd, if_true]
      obtain ⟨i, hi⟩ := i
      have l1 : ((rkN k0 r.gs).take i).length = i := by rw [List.length_take]; omega
      have l2 : ((rkC k0 r.gs).take i).length = i := by rw [List.length_take]; omega
      refine ⟨fun h3 => ?_, fun h3 => ?_⟩
      · simp only [hH, stdH, zqz, ne_eq, zqy] at h3
        have hi' : i < r.gs.length := by omega
        have ht := rk_take (f := k0) hi'
        (repeat' (with_reducible refine And.intro ?_ ?_))
        all_goals first
          | (refine ⟨⟨i + 1, by omega⟩, by simp only; omega, ?_⟩
             rw [hI]
             (conv in matchSt _ _ _ _ => cbv); simp only [AllG, AllP, and_true, hH, stdH, zql, ncast, zqe, zqy]
             simp only [appN0, e5, TlS', Int.toNat_natCast]
             rw [w1 (by omega), ht.1, ht.2]
             (repeat' (with_reducible refine And.intro ?_ ?_)) <;> (first | exact True.intro | exact Eq.refl _ | exact RowsEq.self okS | exact ew | exact RowsEq.snoc okI rfl | exact RowsEq.more okI (Shp_I _ _) (Tl_I _) | exact List.length_append))
          | (simp only [hH, stdH, appN0, e5, TlS', Int.toNat_natCast, l1, l2]; done)
          | (simp only [hH, stdH, appN0, e5, TlS', Int.toNat_natCast, l1, l2]
             first | exact True.intro | exact Shp_rowsT okS _ (fun _ => _) | exact rkS_okA h1 hi' | exact ⟨hi', rfl⟩ | exact h2 | omega | exact ⟨by omega, by omega⟩ | exact ⟨True.intro, by omega, by omega⟩)
      · simp only [hH, stdH, zqz, ne_eq, zqy] at h3
        obtain rfl : i = r.gs.length := by omega
        have t1 : (rkN k0 r.gs).take r.gs.length = rkN k0 r.gs := List.take_of_length_le (by omega)
        have t2 : (rkC k0 r.gs).take r.gs.length = rkC k0 r.gs := List.take_of_length_le (by omega)
        simp only [hH, stdH, t1, t2]
        (repeat' (with_reducible refine And.intro ?_ ?_)) <;> (first | exact True.intro | exact Eq.refl _ | exact Nat.le_refl _ | exact RowsEq.self okI)
noncomputable def e_rankB : Entry := pureN 52 fun H a => match a with
  | [.agg [.vec 18 r0n r0f], .fn (.func 66) [] [.rptr [.vec 1 k0n k0f]]] => some (fun nx => .tup [.slc nx 0 1 (H Nat fun _ => (rkN (Tl rowS k0n k0f) (⟨(Tl rowW r0n r0f)⟩ : Rgr).gs).length), .slc (nx + 1) 0 1 (H Nat fun _ => (rkC (Tl rowS k0n k0f) (⟨(Tl rowW r0n r0f)⟩ : Rgr).gs).length)], [.rows 1 (H Nat fun _ => (rkN (Tl rowS k0n k0f) (⟨(Tl rowW r0n r0f)⟩ : Rgr).gs).length) (rowsI H fun _ => rkN (Tl rowS k0n k0f) (⟨(Tl rowW r0n r0f)⟩ : Rgr).gs) 3, .rows 1 (H Nat fun _ => (rkC (Tl rowS k0n k0f) (⟨(Tl rowW r0n r0f)⟩ : Rgr).gs).length) (rowsI H fun _ => rkC (Tl rowS k0n k0f) (⟨(Tl rowW r0n r0f)⟩ : Rgr).gs) 3], [H Prop fun _ => Shp rowW r0n r0f, H Prop fun _ => Shp rowS k0n k0f, H Prop fun _ => (⟨(Tl rowW r0n r0f)⟩ : Rgr).gs.length ≤ 20, H Prop fun _ => (∀ g ∈ (⟨(Tl rowW r0n r0f)⟩ : Rgr).gs, okA g.arms = true), H Prop fun _ => (Tl rowS k0n k0f).length ≤ 100000])
  | _ => none
theorem eok_rankB : EntryOk Tryz.prog e_rankB := pureN_ok (by unfold isBody; kernel_rfl) (by
  intro a r nb ob e hob
  split at e
  · rename_i r0n r0f k0n k0f
    simp only [zqt] at e
    obtain ⟨rfl, rfl, rfl⟩ := e
    refine ⟨ConN.args (.cons (.agg (.cons (.toT okRW rfl hob.1) .nil)) (.cons (.fn .nil (.cons (.rptr (.cons (.toT okS rfl hob.2.1) .nil)) .nil)) .nil)) (c_rankB (⟨(Tl rowW r0n r0f)⟩ : Rgr) (Tl rowS k0n k0f) hob.2.2.1 hob.2.2.2.1 hob.2.2.2.2.1), fun x hx => ?_, fun nx => ?_, fun b hb => ?_⟩
    · simp only [zqu] at hx
      rcases hx with rfl | rfl
      · exact (.agg fun c hc => (by
        simp only [zqu] at hc
        rcases hc with rfl
        · exact (hob.1).bl okRW _))
      · exact (by
        refine .fn (fun c hc => by cases hc) ?_
        intro c hc
        simp only [zqu] at hc
        rcases hc with rfl
        · exact (by
        refine .rptr ?_
        intro c hc
        simp only [zqu] at hc
        rcases hc with rfl
        · exact (hob.2.1).bl okS _))
    · (first | exact .slc ⟨by omega, by simp⟩ (by omega) | (refine .tup rfl (fun c x y hx hy => ?_); rcases c with _ | _ | _ | c <;> simp at hx hy <;> (subst hx; subst hy; first | exact .slc ⟨by omega, by simp⟩ (by omega) | exact .pl .lit | exact .pl (blq_ok 4 rfl) | (refine .agg rfl (fun c x y hx hy => ?_); rcases c with _ | _ | _ | c <;> simp at hx hy <;> (subst hx; subst hy; first | exact .slc ⟨by omega, by simp⟩ (by omega) | exact .pl .lit | exact .pl (blq_ok 4 rfl))))) | (refine .agg rfl (fun c x y hx hy => ?_); rcases c with _ | _ | _ | c <;> simp at hx hy <;> (subst hx; subst hy; first | exact .slc ⟨by omega, by simp⟩ (by omega) | exact .pl .lit | exact .pl (blq_ok 4 rfl))))
    · simp only [zqu] at hb; rcases hb with rfl | rfl
      · exact bT_bl okI _ (fun _ => rkN (Tl rowS k0n k0f) (⟨(Tl rowW r0n r0f)⟩ : Rgr).gs) _
      · exact bT_bl okI _ (fun _ => rkC (Tl rowS k0n k0f) (⟨(Tl rowW r0n r0f)⟩ : Rgr).gs) _
  · simp at e)
def cutP (l : List Int) : Nat := (l.takeWhile fun x => decide (0 < x)).length
theorem cutP_at {l : List Int} {i : Nat} (hi : i ≤ l.length) (h1 : ∀ j, j < i → 0 < l.getD j 0) (h2 : i = l.length ∨ ¬ 0 < l.getD i 0) : cutP l = i := by
  induction l generalizing i with
  | nil =>
    rw [List.length_nil] at hi
    obtain rfl : i = 0 := by omega
    rfl
  | cons x l ih =>
    unfold cutP
    cases i with
    | zero =>
      rcases h2 with h2 | h2
      · simp at h2
      · rw [List.takeWhile_cons_of_neg (by simpa using h2)]; rfl
    | succ i =>
      have h0 := h1 0 (by omega)
      rw [List.takeWhile_cons_of_pos (by simpa using h0), List.length_cons]
      have := ih (i := i) (by simpa using hi) (fun j hj => by simpa using h1 (j + 1) (by omega)) (by rcases h2 with h2 | h2; exact .inl (by simpa using h2); exact .inr (by simpa using h2))
      unfold cutP at this
      rw [this]
theorem cutP_le (l : List Int) : cutP l ≤ l.length := List.IsPrefix.length_le (List.takeWhile_prefix _)
def saN (f : List ByteArray) (l : List Grt) : List Int := (rkN f l).take (cutP (rkC f l))
def saK (f : List ByteArray) (l : List Grt) : List Int := (rkC f l).take (cutP (rkC f l))

end Go.Proofs.YtcjjffmbhionmaaGreatDoor.AM

