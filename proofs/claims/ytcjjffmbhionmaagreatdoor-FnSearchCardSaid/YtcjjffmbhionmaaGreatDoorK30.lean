/- Lemmas and contracts (Rkq); conditions: none. -/
import Derived.Test.YtcjjffmbhionmaaGreatDoorK03
import Derived.Test.YtcjjffmbhionmaaGreatDoorK28
import Derived.Test.YtcjjffmbhionmaaGreatDoorK29
set_option linter.unusedVariables false
set_option linter.unusedSimpArgs false
set_option maxRecDepth 100000
set_option maxHeartbeats 4000000
set_option cbv.maxSteps 3000000
namespace Go.Proofs.YtcjjffmbhionmaaGreatDoor.AM
/- Searches by the reference, and what arms lack; conditions: none. -/
theorem c_searchS (r : Rgr) (f : List ByteArray) (h0 : r.gs.length ≤ 8000) (h1 : Nsz r.gs) (h2 : f.length ≤ 100000) (h3 : Sz 2000000 f) : ConN Tryz.prog 20 [aT rowJ stdH fun _ => r, .vec 1 (stdH Nat fun _ => (f).length) (rowsS stdH fun _ => f)] [] 0 (.tup [.vec 1 (stdH Nat fun _ => (if okRg r.gs && okFl f then saN f r.gs else []).length) (rowsI stdH fun _ => if okRg r.gs && okFl f then saN f r.gs else []), .vec 1 (stdH Nat fun _ => (if okRg r.gs && okFl f then saK f r.gs else []).length) (rowsI stdH fun _ => if okRg r.gs && okFl f then saK f r.gs else []), .lit (.bool (stdH Bool fun _ => okRg r.gs && okFl f))]) [] [] := by
  have hB : Base Tryz.prog (tabΓ [e_l16Good, e_l17List, e_l17Rank]) tab := base_of tabOk (ents_cons eok_l16Good <| ents_cons eok_l17List <| ents_cons eok_l17Rank <| ents_nil)
  refine con_m (N := 45) hB (draw_ok hB mixed) Tryz.func20 rfl rfl (fun H => [aT rowJ H fun _ => r, .vec 1 (H Nat fun _ => (f).length) (rowsS H fun _ => f)]) (fun _ => []) 0 (fun H => .tup [.vec 1 (H Nat fun _ => (if okRg r.gs && okFl f then saN f r.gs else []).length) (rowsI H fun _ => if okRg r.gs && okFl f then saN f r.gs else []), .vec 1 (H Nat fun _ => (if okRg r.gs && okFl f then saK f r.gs else []).length) (rowsI H fun _ => if okRg r.gs && okFl f then saK f r.gs else []), .lit (.bool (H Bool fun _ => okRg r.gs && okFl f))]) (fun H => []) (fun _ => []) 300 (by simp) (fun x hx => ?_) (by simp [lk]) (by omega) (by simp) ?_
  · simp only [zqu] at hx
    rcases hx with rfl | rfl
    · exact aT_bl okRJ _ _
    · exact vl_bl okS f _
  intro X hX hX0 H hH
  conv in Fin.chk _ _ => cbv
  try simp only [zqs, Plain_rowsC, Plain_rowsD, Plain_rowsW, zqx, AllP, zqw, upd, if_true]
  simp only [TlW_H hH]
  refine ⟨?_, ⟨?_, ?_, ?_⟩, fun h3 => ?_, fun h3 => ?_⟩
  · try simp only [hH, stdH, zqz, ne_eq, zqy]
    exact ⟨Shp_W _ _, by omega, h1⟩
  · try simp only [hH, stdH, zqz, ne_eq, zqy]
    exact fun _ => Shp_rowsT okS _ (fun _ => _)
  · simp only [hH, stdH, TlS']
    exact fun _ => h2
  · simp only [hH, stdH, TlS']
    exact fun _ => h3
  · have e : (okRg r.gs && okFl f) = false := by
      simp only [hH, stdH, TlS'] at h3
      cases a : okRg r.gs <;> cases b : okFl f <;> simp_all
    simp only [hH, stdH, e, Bool.false_eq_true, if_false]
    (repeat' (with_reducible refine And.intro ?_ ?_)) <;> (first | exact True.intro | exact Eq.refl _ | exact RowsEq.ofT okI rfl (Shp_zero _) rfl)
  · obtain ⟨e1, e2⟩ : okRg r.gs = true ∧ okFl f = true := by
      simp only [hH, stdH, TlS'] at h3
      cases a : okRg r.gs <;> cases b : okFl f <;> simp_all
    have hA := okRg_okA e1
    have hl := (okRg_in e1).1
    clear h3
    refine ⟨?_, ?_⟩
    · simp only [hH, stdH, TlS']
      exact ⟨Shp_W _ _, Shp_rowsT okS _ (fun _ => _), by omega, hA, h2⟩
    have ec := rkC_len f r.gs
    have en := rkN_len f r.gs
    refine loop_a hB (draw_ok hB mixed) hX hX0 hH false (ι := { i : Nat // i ≤ r.gs.length ∧ ∀ j, j < i → 0 < (rkC f r.gs).getD j 0 }) 300 (fun i => [.i (H Int fun _ => (i.1 : Nat))]) (fun i => r.gs.length - i.1) (⟨0, Nat.zero_le _, fun j h => absurd h (Nat.not_lt_zero j)⟩) ?_ ?_
    · (conv in matchSt _ _ _ _ => cbv); simp only [AllG, AllP, and_true, hH, stdH, zql, ncast, zqe, zqy]
      simp only [TlS']
      (repeat' (with_reducible refine And.intro ?_ ?_)) <;> (first | exact True.intro | exact Eq.refl _ | exact RowsEq.self okI)
    · intro I hI i
      conv in Fin.chk _ _ => cbv
      try simp only [zqs, Plain_rowsC, Plain_rowsD, Plain_rowsW, zqx, AllP, zqw, upd, if_true]
      obtain ⟨i, hi, hj⟩ := i
      refine ⟨?_, fun k1 => ?_, fun k1 => ?_⟩
      · simp only [hH, stdH, TlS', Int.toNat_natCast, decide_eq_true_eq]
        omega
      skip
      · simp only [hH, stdH, TlS', Int.toNat_natCast] at k1
        by_cases q : (i : Int) < ((rkC f r.gs).length : Nat)
        · rw [decide_eq_true q, cond_true, decide_eq_true_eq] at k1
          refine ⟨⟨i + 1, by omega, fun j hj' => ?_⟩, by simp only; omega, ?_⟩
          · rcases Nat.lt_succ_iff_lt_or_eq.1 hj' with h | rfl
            · exact hj j h
            · exact k1
          · rw [hI]
            (conv in matchSt _ _ _ _ => cbv); simp only [AllG, AllP, and_true, hH, stdH, zql, ncast, zqe, zqy]
            simp only [TlS']
            rw [w1 (by omega)]
            (repeat' (with_reducible refine And.intro ?_ ?_)) <;> (first | exact True.intro | exact Eq.refl _ | exact RowsEq.self okI)
        · rw [decide_eq_false q] at k1
          cases k1
      · have k2 : i = (rkC f r.gs).length ∨ ¬ 0 < (rkC f r.gs).getD i 0 := by
          simp only [hH, stdH, TlS', Int.toNat_natCast] at k1
          by_cases q : (i : Int) < ((rkC f r.gs).length : Nat)
          · rw [decide_eq_true q, cond_true, decide_eq_false_iff_not] at k1
            exact .inr k1
          · exact .inl (by omega)
        have k3 := cutP_at (by omega) hj k2
        have k4 : saN f r.gs = (rkN f r.gs).take i := by unfold saN; rw [k3]
        have k5 : saK f r.gs = (rkC f r.gs).take i := by unfold saK; rw [k3]
        have k6 : (okRg r.gs && okFl f) = true := by rw [e1, e2]; rfl
        simp only [hH, stdH, TlS', k6, if_true, hiN, k4, k5]
        (repeat' (with_reducible refine And.intro ?_ ?_)) <;> (first | exact True.intro | exact Eq.refl _ | exact okB_pre (by omega) | exact preI_rows (by omega) | (rw [offI]; exact preI_rows (by omega)) | omega)
noncomputable def e_searchS : Entry := pureE 20 fun H a => match a with
  | [.agg [.vec 18 r0n r0f], .vec 1 fn ff] => some (.tup [.vec 1 (H Nat fun _ => (if okRg (⟨(Tl rowW r0n r0f)⟩ : Rgr).gs && okFl (Tl rowS fn ff) then saN (Tl rowS fn ff) (⟨(Tl rowW r0n r0f)⟩ : Rgr).gs else []).length) (rowsI H fun _ => if okRg (⟨(Tl rowW r0n r0f)⟩ : Rgr).gs && okFl (Tl rowS fn ff) then saN (Tl rowS fn ff) (⟨(Tl rowW r0n r0f)⟩ : Rgr).gs else []), .vec 1 (H Nat fun _ => (if okRg (⟨(Tl rowW r0n r0f)⟩ : Rgr).gs && okFl (Tl rowS fn ff) then saK (Tl rowS fn ff) (⟨(Tl rowW r0n r0f)⟩ : Rgr).gs else []).length) (rowsI H fun _ => if okRg (⟨(Tl rowW r0n r0f)⟩ : Rgr).gs && okFl (Tl rowS fn ff) then saK (Tl rowS fn ff) (⟨(Tl rowW r0n r0f)⟩ : Rgr).gs else []), .lit (.bool (H Bool fun _ => okRg (⟨(Tl rowW r0n r0f)⟩ : Rgr).gs && okFl (Tl rowS fn ff)))], [H Prop fun _ => Shp rowW r0n r0f, H Prop fun _ => Shp rowS fn ff, H Prop fun _ => (⟨(Tl rowW r0n r0f)⟩ : Rgr).gs.length ≤ 8000, H Prop fun _ => Nsz (⟨(Tl rowW r0n r0f)⟩ : Rgr).gs, H Prop fun _ => (Tl rowS fn ff).length ≤ 100000, H Prop fun _ => Sz 2000000 (Tl rowS fn ff)])
  | _ => none
theorem eok_searchS : EntryOk Tryz.prog e_searchS := pureM_ok (by unfold isBody; kernel_rfl) (by
  intro a r ob e hob
  split at e
  · rename_i r0n r0f fn ff
    simp only [zqt] at e
    obtain ⟨rfl, rfl⟩ := e
    exact ConN.args (.cons (.agg (.cons (.toT okRW rfl hob.1) .nil)) (.cons (.toT okS rfl hob.2.1) .nil)) (c_searchS (⟨(Tl rowW r0n r0f)⟩ : Rgr) (Tl rowS fn ff) hob.2.2.1 hob.2.2.2.1 hob.2.2.2.2.1 hob.2.2.2.2.2.1)
  · simp at e)
def misF (a : Arm) (f : List ByteArray) : List ByteArray := f.filter fun s => !hasF a s
def misP (a : Arm) (f : List ByteArray) (i : Nat) : List ByteArray := (f.take i).filter fun s => !hasF a s
theorem misP_y {a : Arm} {f : List ByteArray} {i : Nat} (h : i < f.length) (hk : hasF a (f.getD i ByteArray.empty) = false) : misP a f (i + 1) = misP a f i ++ [f.getD i ByteArray.empty] := by
  unfold misP
  rw [List.getD_eq_getElem?_getD, List.getElem?_eq_getElem h, Option.getD_some] at hk ⊢
  rw [List.take_succ_eq_append_getElem h, List.filter_append]
  congr 1
  exact List.filter_cons_of_pos (by rw [hk]; rfl)
theorem misP_n {a : Arm} {f : List ByteArray} {i : Nat} (h : i < f.length) (hk : hasF a (f.getD i ByteArray.empty) = true) : misP a f (i + 1) = misP a f i := by
  unfold misP
  rw [List.getD_eq_getElem?_getD, List.getElem?_eq_getElem h, Option.getD_some] at hk
  rw [List.take_succ_eq_append_getElem h, List.filter_append]
  have e : List.filter (fun s => !hasF a s) [f[i]] = [] := List.filter_cons_of_neg (by rw [hk]; simp)
  rw [e, List.append_nil]
theorem misP_len (a : Arm) (f : List ByteArray) (i : Nat) : (misP a f i).length ≤ f.length := by
  unfold misP
  exact Nat.le_trans (List.length_filter_le _ _) (by rw [List.length_take]; omega)
theorem misP_all (a : Arm) (f : List ByteArray) : misP a f f.length = misF a f := by unfold misP misF; rw [List.take_length]
theorem andF {x y : Bool} (h : (bif !x then true else !y) = true) : (x && y) = false := by cases x <;> cases y <;> simp_all
theorem andT {x y : Bool} (h : (bif !x then true else !y) = false) : x = true ∧ y = true := by cases x <;> cases y <;> simp_all
theorem c_missS (a : Arm) (f : List ByteArray) (h0 : f.length ≤ 100000) (h1 : Sz 2000000 f) : ConN Tryz.prog 26 [aT rowA stdH fun _ => a, .vec 1 (stdH Nat fun _ => (f).length) (rowsS stdH fun _ => f)] [] 0 (.tup [.vec 1 (stdH Nat fun _ => (if okA a && okFl f then misF a f else []).length) (rowsS stdH fun _ => if okA a && okFl f then misF a f else []), .lit (.bool (stdH Bool fun _ => okA a && okFl f))]) [] [] := by
  have hB : Base Tryz.prog (tabΓ [e_l5Good, e_l17List, e_l17Features, e_l17HasE]) tabO := base_of tabOkO (ents_cons eok_l5Good <| ents_cons eok_l17List <| ents_cons eok_l17Features <| ents_cons eok_l17HasE <| ents_nil)
  refine con_m (N := 42) hB (draw_ok hB mixed) Tryz.func26 rfl rfl (fun H => [aT rowA H fun _ => a, .vec 1 (H Nat fun _ => (f).length) (rowsS H fun _ => f)]) (fun _ => []) 0 (fun H => .tup [.vec 1 (H Nat fun _ => (if okA a && okFl f then misF a f else []).length) (rowsS H fun _ => if okA a && okFl f then misF a f else []), .lit (.bool (H Bool fun _ => okA a && okFl f))]) (fun H => []) (fun _ => []) 300 (by simp) (fun x hx => ?_) (by simp [lk]) (by omega) (by simp) ?_
  · simp only [zqu] at hx
    rcases hx with rfl | rfl
    · exact aT_bl okRA _ _
    · exact vl_bl okS f _
  intro X hX hX0 H hH
  conv in Fin.chk _ _ => cbv
  try simp only [zqs, Plain_rowsC, Plain_rowsD, Plain_rowsW, zqx, AllP, zqw, upd, if_true]
  simp only [hetaA hH]
  have hf := ftP_len a
  refine ⟨⟨?_, ?_, ?_⟩, fun h3 => ?_, fun h3 => ?_⟩
  · try simp only [hH, stdH, zqz, ne_eq, zqy]
    exact fun _ => Shp_rowsT okS _ (fun _ => _)
  · simp only [hH, stdH, TlS']
    exact fun _ => h0
  · simp only [hH, stdH, TlS']
    exact fun _ => h1
  · simp only [hH, stdH, TlS'] at h3
    have e := andF h3
    simp only [hH, stdH, e, Bool.false_eq_true, if_false]
    (repeat' (with_reducible refine And.intro ?_ ?_)) <;> (first | exact True.intro | exact Eq.refl _ | exact Nat.le_refl _ | exact RowsEq.ofT okS rfl (Shp_zero _) rfl)
  · simp only [hH, stdH, TlS'] at h3
    obtain ⟨e1, e2⟩ := andT h3
    clear h3
    refine ⟨?_, ?_⟩
    · try simp only [hH, stdH, zqz, ne_eq, zqy]
      exact e1
    refine loop_a hB (draw_ok hB mixed) hX hX0 hH false (ι := { i : Nat // i ≤ f.length }) 300 (fun i => [.r (H Nat fun _ => (misP a f i.1).length) (rowsS H fun _ => misP a f i.1), .i (H Int fun _ => (i.1 : Nat))]) (fun i => f.length - i.1) (⟨0, Nat.zero_le _⟩) ?_ ?_
    · (conv in matchSt _ _ _ _ => cbv); simp only [AllG, AllP, and_true, hH, stdH, zql, ncast, zqe, zqy]
      (repeat' (with_reducible refine And.intro ?_ ?_)) <;> (first | exact True.intro | exact Eq.refl _ | exact RowsEq.self okS | exact RowsEq.ofT okS rfl (Shp_zero _) rfl)
    · intro I hI i
      conv in Fin.chk _ _ => cbv
      try simp only [zqs, Plain_rowsC, Plain_rowsD, Plain_rowsW, zqx, AllP, zqw, upd, if_true]
      obtain ⟨i, hi⟩ := i
      have hm := misP_len a f i
      refine ⟨fun k1 => ?_, fun k1 => ?_⟩
      · simp only [hH, stdH, zqz, ne_eq, zqy] at k1
        have hi' : i < f.length := by omega
        refine ⟨?_, ⟨?_, ?_⟩, fun k2 => ?_, fun k2 => ?_⟩
        · try simp only [hH, stdH, zqz, ne_eq, zqy]
          omega
        · try simp only [hH, stdH, zqz, ne_eq, zqy]
          exact Shp_rowsT okS _ (fun _ => _)
        · simp only [hH, stdH, TlS']
          omega
        · simp only [hH, stdH, Int.toNat_natCast, TlS', Bool.not_eq_true'] at k2
          have k3 : hasF a (f.getD i ByteArray.empty) = false := k2
          (repeat' (with_reducible refine And.intro ?_ ?_))
          all_goals first
            | (refine ⟨⟨i + 1, by omega⟩, by simp only; omega, ?_⟩
               rw [hI]
               (conv in matchSt _ _ _ _ => cbv); simp only [AllG, AllP, and_true, hH, stdH, zql, ncast, zqe, zqy]
               simp only [Int.toNat_natCast]
               rw [w1 (by omega), misP_y hi' k3]
               (repeat' (with_reducible refine And.intro ?_ ?_)) <;> (first | exact True.intro | exact Eq.refl _ | exact RowsEq.self okS | exact RowsEq.snoc okS rfl | exact RowsEq.more okS (Shp_rowsT okS _ (fun _ => _)) (Tl_rowsT okS _) | exact RowsEq.snocS rfl | exact List.length_append))
            | (simp only [hH, stdH, Int.toNat_natCast]; done)
            | (simp only [hH, stdH, Int.toNat_natCast]
               first | exact ⟨by omega, by omega⟩ | exact ⟨True.intro, by omega, by omega⟩ | omega)
        · simp only [hH, stdH, Int.toNat_natCast, TlS', Bool.not_eq_false'] at k2
          have k3 : hasF a (f.getD i ByteArray.empty) = true := k2
          refine ⟨⟨i + 1, by omega⟩, by simp only; omega, ?_⟩
          rw [hI]
          (conv in matchSt _ _ _ _ => cbv); simp only [AllG, AllP, and_true, hH, stdH, zql, ncast, zqe, zqy]
          rw [w1 (by omega), misP_n hi' k3]
          (repeat' (with_reducible refine And.intro ?_ ?_)) <;> (first | exact True.intro | exact Eq.refl _ | exact RowsEq.self okS)
      · simp only [hH, stdH, zqz, ne_eq, zqy] at k1
        obtain rfl : i = f.length := by omega
        have e : (okA a && okFl f) = true := by rw [e1, e2]; rfl
        simp only [hH, stdH, e, if_true, misP_all]
        (repeat' (with_reducible refine And.intro ?_ ?_)) <;> (first | exact True.intro | exact Eq.refl _ | exact Nat.le_refl _ | exact RowsEq.self okS)
noncomputable def e_missS : Entry := pureE 26 fun H a => match a with
  | [.agg [.lit (.int .i64 a0), .lit (.int .i64 a1), .lit (.int .i64 a2), .lit (.int .i64 a3), .lit (.int .i64 a4), .lit (.int .i64 a5), .lit (.int .i64 a6), .lit (.int .i64 a7), .lit (.int .i64 a8), .lit (.int .i64 a9), .lit (.int .i64 a10), .lit (.int .i64 a11), .lit (.int .i64 a12), .lit (.int .i64 a13), .lit (.int .i64 a14)], .vec 1 fn ff] => some (.tup [.vec 1 (H Nat fun _ => (if okA (⟨⟨a0, a1, a2, a3⟩, a4, a5, a6, ⟨a7, a8, a9, a10⟩, ⟨a11, a12, a13, a14⟩⟩ : Arm) && okFl (Tl rowS fn ff) then misF (⟨⟨a0, a1, a2, a3⟩, a4, a5, a6, ⟨a7, a8, a9, a10⟩, ⟨a11, a12, a13, a14⟩⟩ : Arm) (Tl rowS fn ff) else []).length) (rowsS H fun _ => if okA (⟨⟨a0, a1, a2, a3⟩, a4, a5, a6, ⟨a7, a8, a9, a10⟩, ⟨a11, a12, a13, a14⟩⟩ : Arm) && okFl (Tl rowS fn ff) then misF (⟨⟨a0, a1, a2, a3⟩, a4, a5, a6, ⟨a7, a8, a9, a10⟩, ⟨a11, a12, a13, a14⟩⟩ : Arm) (Tl rowS fn ff) else []), .lit (.bool (H Bool fun _ => okA (⟨⟨a0, a1, a2, a3⟩, a4, a5, a6, ⟨a7, a8, a9, a10⟩, ⟨a11, a12, a13, a14⟩⟩ : Arm) && okFl (Tl rowS fn ff)))], [H Prop fun _ => Shp rowS fn ff, H Prop fun _ => (Tl rowS fn ff).length ≤ 100000, H Prop fun _ => Sz 2000000 (Tl rowS fn ff)])
  | _ => none
theorem eok_missS : EntryOk Tryz.prog e_missS := pureM_ok (by unfold isBody; kernel_rfl) (by
  intro a r ob e hob
  split at e
  · rename_i a0 a1 a2 a3 a4 a5 a6 a7 a8 a9 a10 a11 a12 a13 a14 fn ff
    simp only [zqt] at e
    obtain ⟨rfl, rfl⟩ := e
    exact ConN.args (.cons .rfl (.cons (.toT okS rfl hob.1) .nil)) (c_missS (⟨⟨a0, a1, a2, a3⟩, a4, a5, a6, ⟨a7, a8, a9, a10⟩, ⟨a11, a12, a13, a14⟩⟩ : Arm) (Tl rowS fn ff) hob.2.1 hob.2.2.1)
  · simp at e)

end Go.Proofs.YtcjjffmbhionmaaGreatDoor.AM

