/- Lemmas and contracts (Rkr); conditions: none. -/
import Derived.Test.YtcjjffmbhionmaaGreatDoorK03
import Derived.Test.YtcjjffmbhionmaaGreatDoorK23
import Derived.Test.YtcjjffmbhionmaaGreatDoorK24
import Derived.Test.YtcjjffmbhionmaaGreatDoorK27
import Derived.Test.YtcjjffmbhionmaaGreatDoorK28
set_option linter.unusedVariables false
set_option linter.unusedSimpArgs false
set_option maxRecDepth 100000
set_option maxHeartbeats 4000000
set_option cbv.maxSteps 3000000
namespace Go.Proofs.YtcjjffmbhionmaaGreatDoor.AM
/- Grants searched for: the reference's; conditions: none. -/
theorem c_l17Count (a : Arm) (l : List ByteArray) (h0 : okA a = true) (h1 : l.length ≤ 100000) : ConN Tryz.prog 57 [aT rowA stdH fun _ => a, .vec 1 (stdH Nat fun _ => (l).length) (rowsS stdH fun _ => l)] [] 0 (.lit (.int .i64 (stdH Int fun _ => (shN a l l.length : Nat)))) [] [] := by
  have hB : Base Tryz.prog (tabΓ [e_l17Features, e_l17HasE]) tab := base_of tabOk (ents_cons eok_l17Features <| ents_cons eok_l17HasE <| ents_nil)
  refine con_m (N := 25) hB (draw_ok hB mixed) Tryz.func57 rfl rfl (fun H => [aT rowA H fun _ => a, .vec 1 (H Nat fun _ => (l).length) (rowsS H fun _ => l)]) (fun _ => []) 0 (fun H => .lit (.int .i64 (H Int fun _ => (shN a l l.length : Nat)))) (fun H => []) (fun _ => []) 300 (by simp) (fun x hx => ?_) (by simp [lk]) (by omega) (by simp) ?_
  · simp only [zqu] at hx
    rcases hx with rfl | rfl
    · exact aT_bl okRA _ _
    · exact vl_bl okS l _
  intro X hX hX0 H hH
  conv in Fin.chk _ _ => cbv
  try simp only [zqs, Plain_rowsC, Plain_rowsD, Plain_rowsW, zqx, AllP, zqw, upd, if_true]
  have hf := ftP_len a
  simp only [hetaA hH]
  refine ⟨?_, ?_⟩
  · try simp only [hH, stdH, zqz, ne_eq, zqy]
    exact h0
  refine loop_a hB (draw_ok hB mixed) hX hX0 hH false (ι := { i : Nat // i ≤ l.length }) 300 (fun i => [.i (H Int fun _ => (shN a l i.1 : Nat)), .i (H Int fun _ => (i.1 : Nat))]) (fun i => l.length - i.1) (⟨0, Nat.zero_le _⟩) ?_ ?_
  · (conv in matchSt _ _ _ _ => cbv); simp only [AllG, AllP, and_true, hH, stdH, zql, ncast, zqe, zqy]
    (repeat' (with_reducible refine And.intro ?_ ?_)) <;> (first | exact True.intro | exact Eq.refl _ | exact RowsEq.self okS)
  · intro I hI i
    conv in Fin.chk _ _ => cbv
    try simp only [zqs, Plain_rowsC, Plain_rowsD, Plain_rowsW, zqx, AllP, zqw, upd, if_true]
    obtain ⟨i, hi⟩ := i
    have hc := shN_le a l i
    refine ⟨fun k1 => ⟨?_, ⟨?_, ?_⟩, fun k2 => ?_, fun k2 => ?_⟩, fun k1 => ?_⟩
    · simp only [hH, stdH, zqz, ne_eq, zqy] at k1 ⊢
      omega
    · try simp only [hH, stdH, zqz, ne_eq, zqy]
      exact Shp_rowsT okS _ (fun _ => _)
    · simp only [hH, stdH, TlS']
      omega
    · simp only [hH, stdH, zqz, ne_eq, zqy] at k1
      simp only [hH, stdH, Int.toNat_natCast, TlS'] at k2
      have k3 : hasF a (l.getD i ByteArray.empty) = true := k2
      refine ⟨⟨i + 1, by omega⟩, by simp only; omega, ?_⟩
      rw [hI]
      (conv in matchSt _ _ _ _ => cbv); simp only [AllG, AllP, and_true, hH, stdH, zql, ncast, zqe, zqy]
      have e : IntKind.i64.wrap (((shN a l i : Nat) : Int) + 1) = ((shN a l (i + 1) : Nat) : Int) := by
        rw [shN_s (by omega), if_pos k3, wi (by omega) (by omega)]; rfl
      rw [w1 (by omega)]
      (repeat' (with_reducible refine And.intro ?_ ?_)) <;> (first | exact True.intro | exact e.symm | exact Eq.refl _ | exact RowsEq.self okS)
    · simp only [hH, stdH, zqz, ne_eq, zqy] at k1
      simp only [hH, stdH, Int.toNat_natCast, TlS'] at k2
      have k3 : hasF a (l.getD i ByteArray.empty) = false := k2
      refine ⟨⟨i + 1, by omega⟩, by simp only; omega, ?_⟩
      rw [hI]
      (conv in matchSt _ _ _ _ => cbv); simp only [AllG, AllP, and_true, hH, stdH, zql, ncast, zqe, zqy]
      have e : shN a l (i + 1) = shN a l i := by
        rw [shN_s (by omega), if_neg (by rw [k3]; simp), Nat.add_zero]
      rw [w1 (by omega), e]
      (repeat' (with_reducible refine And.intro ?_ ?_)) <;> (first | exact True.intro | exact Eq.refl _ | exact RowsEq.self okS)
    · simp only [hH, stdH, zqz, ne_eq, zqy] at k1
      obtain rfl : i = l.length := by omega
      try simp only [hH, stdH, zqz, ne_eq, zqy]
noncomputable def e_l17Count : Entry := pureE 57 fun H a => match a with
  | [.agg [.lit (.int .i64 a0), .lit (.int .i64 a1), .lit (.int .i64 a2), .lit (.int .i64 a3), .lit (.int .i64 a4), .lit (.int .i64 a5), .lit (.int .i64 a6), .lit (.int .i64 a7), .lit (.int .i64 a8), .lit (.int .i64 a9), .lit (.int .i64 a10), .lit (.int .i64 a11), .lit (.int .i64 a12), .lit (.int .i64 a13), .lit (.int .i64 a14)], .vec 1 ln lf] => some (.lit (.int .i64 (H Int fun _ => (shN (⟨⟨a0, a1, a2, a3⟩, a4, a5, a6, ⟨a7, a8, a9, a10⟩, ⟨a11, a12, a13, a14⟩⟩ : Arm) (Tl rowS ln lf) (Tl rowS ln lf).length : Nat))), [H Prop fun _ => Shp rowS ln lf, H Prop fun _ => okA (⟨⟨a0, a1, a2, a3⟩, a4, a5, a6, ⟨a7, a8, a9, a10⟩, ⟨a11, a12, a13, a14⟩⟩ : Arm) = true, H Prop fun _ => (Tl rowS ln lf).length ≤ 100000])
  | _ => none
theorem eok_l17Count : EntryOk Tryz.prog e_l17Count := pureM_ok (by unfold isBody; kernel_rfl) (by
  intro a r ob e hob
  split at e
  · rename_i a0 a1 a2 a3 a4 a5 a6 a7 a8 a9 a10 a11 a12 a13 a14 ln lf
    simp only [zqt] at e
    obtain ⟨rfl, rfl⟩ := e
    exact ConN.args (.cons .rfl (.cons (.toT okS rfl hob.1) .nil)) (c_l17Count (⟨⟨a0, a1, a2, a3⟩, a4, a5, a6, ⟨a7, a8, a9, a10⟩, ⟨a11, a12, a13, a14⟩⟩ : Arm) (Tl rowS ln lf) hob.2.1 hob.2.2.1)
  · simp at e)
theorem c_l17List (l : List ByteArray) (h0 : l.length ≤ 100000) (h1 : Sz 2000000 l) : ConN Tryz.prog 54 [.vec 1 (stdH Nat fun _ => (l).length) (rowsS stdH fun _ => l)] [] 0 (.lit (.bool (stdH Bool fun _ => okFl l))) [] [] := by
  have hB : Base Tryz.prog (tabΓ [e_isFeatS]) tab := base_of tabOk (ents_cons eok_isFeatS <| ents_nil)
  refine con_m (N := 35) hB (draw_ok hB mixed) Tryz.func54 rfl rfl (fun H => [.vec 1 (H Nat fun _ => (l).length) (rowsS H fun _ => l)]) (fun _ => []) 0 (fun H => .lit (.bool (H Bool fun _ => okFl l))) (fun H => []) (fun _ => []) 300 (by simp) (fun x hx => ?_) (by simp [lk]) (by omega) (by simp) ?_
  · simp only [zqu] at hx
    rcases hx with rfl
    · exact vl_bl okS l _
  intro X hX hX0 H hH
  conv in Fin.chk _ _ => cbv
  try simp only [zqs, Plain_rowsC, Plain_rowsD, Plain_rowsW, zqx, AllP, zqw, upd, if_true]
  refine loop_a hB (draw_ok hB mixed) hX hX0 hH false (ι := { i : Nat // i ≤ l.length ∧ ∀ j, j < i → okFi l j = true }) 300 (fun i => [.i (H Int fun _ => (i.1 : Nat))]) (fun i => l.length - i.1) (⟨0, Nat.zero_le _, fun j h => absurd h (Nat.not_lt_zero j)⟩) ?_ ?_
  · (conv in matchSt _ _ _ _ => cbv); simp only [AllG, AllP, and_true, hH, stdH, zql, ncast, zqe, zqy]
    (repeat' (with_reducible refine And.intro ?_ ?_)) <;> (first | exact True.intro | exact Eq.refl _ | exact RowsEq.self okS)
  · intro I hI i
    conv in Fin.chk _ _ => cbv
    try simp only [zqs, Plain_rowsC, Plain_rowsD, Plain_rowsW, zqx, AllP, zqw, upd, if_true]
    obtain ⟨i, hi, hj⟩ := i
    refine ⟨fun k1 => ⟨?_, ?_, ?_, ?_, fun h2 => ?_, fun h2 => ?_⟩, fun k1 => ?_⟩
    · simp only [hH, stdH, zqz, ne_eq, zqy] at k1 ⊢
      omega
    · simp only [hH, stdH, zqz, ne_eq, zqy] at k1
      have hi' : i < l.length := by omega
      simp only [hH, stdH, Int.toNat_natCast]
      rw [List.getD_eq_getElem?_getD, List.getElem?_eq_getElem hi', Option.getD_some]
      exact h1.le _ (List.getElem_mem hi')
    · simp only [hH, stdH, zqz, ne_eq, zqy] at k1
      try simp only [hH, stdH, zqz, ne_eq, zqy]
      intro h
      rw [wi (by omega) (by omega)]
      omega
    · simp only [hH, stdH, zqz, ne_eq, zqy] at k1
      try simp only [hH, stdH, zqz, ne_eq, zqy]
      intro h
      omega
    · simp only [hH, stdH, zqz, ne_eq, zqy] at k1
      simp only [hH, stdH, zqk, cond_fi (l := l) (i := i) (by omega), zqc] at h2
      try simp only [hH, stdH, zqz, ne_eq, zqy]
      exact okFl_bad (by omega) h2
    · simp only [hH, stdH, zqz, ne_eq, zqy] at k1
      simp only [hH, stdH, zqk, cond_fi (l := l) (i := i) (by omega), zqd] at h2
      refine ⟨⟨i + 1, by omega, fun j hj' => ?_⟩, by simp only; omega, ?_⟩
      · rcases Nat.lt_succ_iff_lt_or_eq.1 hj' with h | rfl
        · exact hj j h
        · exact h2
      · rw [hI]
        (conv in matchSt _ _ _ _ => cbv); simp only [AllG, AllP, and_true, hH, stdH, zql, ncast, zqe, zqy]
        rw [w1 (by omega)]
        (repeat' (with_reducible refine And.intro ?_ ?_)) <;> (first | exact True.intro | exact Eq.refl _ | exact RowsEq.self okS)
    · simp only [hH, stdH, zqz, ne_eq, zqy] at k1
      try simp only [hH, stdH, zqz, ne_eq, zqy]
      rw [okFl_all fun j hj' => hj j (by omega), decide_eq_decide]
      omega
noncomputable def e_l17List : Entry := pureE 54 fun H a => match a with
  | [.vec 1 ln lf] => some (.lit (.bool (H Bool fun _ => okFl (Tl rowS ln lf))), [H Prop fun _ => Shp rowS ln lf, H Prop fun _ => (Tl rowS ln lf).length ≤ 100000, H Prop fun _ => Sz 2000000 (Tl rowS ln lf)])
  | _ => none
theorem eok_l17List : EntryOk Tryz.prog e_l17List := pureM_ok (by unfold isBody; kernel_rfl) (by
  intro a r ob e hob
  split at e
  · rename_i ln lf
    simp only [zqt] at e
    obtain ⟨rfl, rfl⟩ := e
    exact ConN.args (.cons (.toT okS rfl hob.1) .nil) (c_l17List (Tl rowS ln lf) hob.2.1 hob.2.2.1)
  · simp at e)
def rkO (f : List ByteArray) (l : List Grt) (i j : Nat) : List Grt := rkH (kyG f) l f.length i ++ (l.take j).filter fun x => decide (kyG f x = f.length - i)
theorem rkO_0 (f : List ByteArray) (l : List Grt) (i : Nat) : rkO f l i 0 = rkH (kyG f) l f.length i := by unfold rkO; simp
theorem rkO_n (f : List ByteArray) (l : List Grt) (i : Nat) : rkO f l i l.length = rkH (kyG f) l f.length (i + 1) := by unfold rkO; rw [List.take_length]; rfl
theorem rkO_y {f : List ByteArray} {l : List Grt} {i j : Nat} (h : j < l.length) (hk : kyG f (l.getD j default) = f.length - i) : rkO f l i (j + 1) = rkO f l i j ++ [l.getD j default] := by
  unfold rkO
  rw [List.getD_eq_getElem?_getD, List.getElem?_eq_getElem h, Option.getD_some] at hk ⊢
  rw [List.take_succ_eq_append_getElem h, List.filter_append, List.append_assoc]
  congr 2
  exact List.filter_cons_of_pos (decide_eq_true hk)
theorem rkO_no {f : List ByteArray} {l : List Grt} {i j : Nat} (h : j < l.length) (hk : ¬ kyG f (l.getD j default) = f.length - i) : rkO f l i (j + 1) = rkO f l i j := by
  unfold rkO
  rw [List.getD_eq_getElem?_getD, List.getElem?_eq_getElem h, Option.getD_some] at hk
  rw [List.take_succ_eq_append_getElem h, List.filter_append]
  have e : List.filter (fun x => decide (kyG f x = f.length - i)) [l[j]] = [] := List.filter_cons_of_neg (by simpa using hk)
  rw [e, List.append_nil]
theorem rkO_len (f : List ByteArray) (l : List Grt) (i j : Nat) (hi : i ≤ f.length) : (rkO f l i j).length ≤ 2 * l.length := by
  have h1 := congrArg List.length (rkH_L (kyG f) l f.length i hi)
  have h2 : (rkL (kyG f) l f.length).length = l.length := rkS_len f l
  rw [List.length_append, h2] at h1
  have h3 := List.length_filter_le (fun x => decide (kyG f x = f.length - i)) (l.take j)
  rw [List.length_take] at h3
  unfold rkO
  rw [List.length_append]
  omega
def cntI (f : List ByteArray) (g : Grt) : Int := (kyG f g : Int)
theorem c_l17Rank (r : Rgr) (f : List ByteArray) (h0 : r.gs.length ≤ 8000) (h1 : (∀ g ∈ r.gs, okA g.arms = true)) (h2 : f.length ≤ 100000) : ConN Tryz.prog 55 [aT rowJ stdH fun _ => r, .vec 1 (stdH Nat fun _ => (f).length) (rowsS stdH fun _ => f)] [] 0 (.tup [.vec 1 (stdH Nat fun _ => (rkN f r.gs).length) (rowsI stdH fun _ => rkN f r.gs), .vec 1 (stdH Nat fun _ => (rkC f r.gs).length) (rowsI stdH fun _ => rkC f r.gs)]) [] [] := by
  have hB : Base Tryz.prog (tabΓ [e_l17Count]) tabO := base_of tabOkO (ents_cons eok_l17Count <| ents_nil)
  refine con_m (N := 50) hB (draw_ok hB mixed) Tryz.func55 rfl rfl (fun H => [aT rowJ H fun _ => r, .vec 1 (H Nat fun _ => (f).length) (rowsS H fun _ => f)]) (fun _ => []) 0 (fun H => .tup [.vec 1 (H Nat fun _ => (rkN f r.gs).length) (rowsI H fun _ => rkN f r.gs), .vec 1 (H Nat fun _ => (rkC f r.gs).length) (rowsI H fun _ => rkC f r.gs)]) (fun H => []) (fun _ => []) 300 (by simp) (fun x hx => ?_) (by simp [lk]) (by omega) (by simp) ?_
  · simp only [zqu] at hx
    rcases hx with rfl | rfl
    · exact aT_bl okRJ _ _
    · exact vl_bl okS f _
  intro X hX hX0 H hH
  conv in Fin.chk _ _ => cbv
  try simp only [zqs, Plain_rowsC, Plain_rowsD, Plain_rowsW, zqx, AllP, zqw, upd, if_true]
  refine loop_a hB (draw_ok hB mixed) hX hX0 hH false (ι := { i : Nat // i ≤ f.length + 1 }) 300 (fun i => [.r (H Nat fun _ => ((rkH (kyG f) r.gs f.length i.1).map fun g => g.num).length) (rowsI H fun _ => (rkH (kyG f) r.gs f.length i.1).map fun g => g.num), .r (H Nat fun _ => ((rkH (kyG f) r.gs f.length i.1).map (cntI f)).length) (rowsI H fun _ => (rkH (kyG f) r.gs f.length i.1).map (cntI f)), .i (H Int fun _ => (f.length : Int) - (i.1 : Nat))]) (fun i => f.length + 1 - i.1) (⟨0, Nat.zero_le _⟩) ?_ ?_
  · (conv in matchSt _ _ _ _ => cbv); simp only [AllG, AllP, and_true, hH, stdH, zql, ncast, zqe, zqy]
    (repeat' (with_reducible refine And.intro ?_ ?_)) <;> (first | exact True.intro | exact Eq.refl _ | exact RowsEq.self okS | exact RowsEq.self okRW | exact RowsEq.ofT okI rfl (Shp_zero _) rfl | omega)
  · intro I hI i
    conv in Fin.chk _ _ => cbv
    try simp only [zqs, Plain_rowsC, Plain_rowsD, Plain_rowsW, zqx, AllP, zqw, upd, if_true]
    obtain ⟨i, hi⟩ := i
    refine ⟨fun k1 => ?_, fun k1 => ?_⟩
    · simp only [hH, stdH, zqz, ne_eq, zqy] at k1
      have hi' : i ≤ f.length := by omega
      refine loop_a hB (draw_ok hB mixed) hX hX0 hH true (ι := { j : Nat // j ≤ r.gs.length }) 300 (fun j => [.r (H Nat fun _ => ((rkO f r.gs i j.1).map fun g => g.num).length) (rowsI H fun _ => (rkO f r.gs i j.1).map fun g => g.num), .r (H Nat fun _ => ((rkO f r.gs i j.1).map (cntI f)).length) (rowsI H fun _ => (rkO f r.gs i j.1).map (cntI f)), .i (H Int fun _ => (j.1 : Nat))]) (fun j => r.gs.length - j.1) (⟨0, Nat.zero_le _⟩) ?_ ?_
      · (conv in matchSt _ _ _ _ => cbv); simp only [AllG, AllP, and_true, hH, stdH, zql, ncast, zqe, zqy]
        simp only [rkO_0]
        (repeat' (with_reducible refine And.intro ?_ ?_)) <;> (first | exact True.intro | exact Eq.refl _ | exact RowsEq.self okS | exact RowsEq.self okRW | exact RowsEq.self okI | omega)
      · intro J hJ j
        conv in Fin.chk _ _ => cbv
        try simp only [zqs, Plain_rowsC, Plain_rowsD, Plain_rowsW, zqx, AllP, zqw, upd, if_true]
        obtain ⟨j, hj⟩ := j
        have hO := rkO_len f r.gs i j hi'
        refine ⟨fun k2 => ⟨?_, ⟨?_, ?_, ?_⟩, fun k3 => ?_, fun k3 => ?_⟩, fun k2 => ?_⟩
        · simp only [hH, stdH, zqz, ne_eq, zqy] at k2 ⊢
          omega
        · try simp only [hH, stdH, zqz, ne_eq, zqy]
          exact Shp_rowsT okS _ (fun _ => _)
        · simp only [hH, stdH, zqz, ne_eq, zqy] at k2
          simp only [hH, stdH, Int.toNat_natCast]
          exact okA_at h1 (by omega)
        · simp only [hH, stdH, TlS']
          exact h2
        · simp only [hH, stdH, zqz, ne_eq, zqy] at k2
          have hj' : j < r.gs.length := by omega
          have k4 : kyG f (r.gs.getD j default) = f.length - i := by
            simp only [hH, stdH, Int.toNat_natCast, TlS', beq_iff_eq] at k3
            have k3' : ((kyG f (r.gs.getD j default) : Nat) : Int) = (f.length : Int) - (i : Nat) := k3
            omega
          have e := rkO_y hj' k4
          have ec : cntI f (r.gs.getD j default) = (f.length : Int) - (i : Nat) := by unfold cntI; rw [k4]; omega
          have m1 : ((rkO f r.gs i (j + 1)).map fun g => g.num) = ((rkO f r.gs i j).map fun g => g.num) ++ [(r.gs.getD j default).num] := by rw [e, List.map_append]; rfl
          have m2 : (rkO f r.gs i (j + 1)).map (cntI f) = (rkO f r.gs i j).map (cntI f) ++ [(f.length : Int) - (i : Nat)] := by rw [e, List.map_append, ← ec]; rfl
          (repeat' (with_reducible refine And.intro ?_ ?_))
          all_goals first
            | (refine ⟨⟨j + 1, by omega⟩, by simp only; omega, ?_⟩
               rw [hJ]
               (conv in matchSt _ _ _ _ => cbv); simp only [AllG, AllP, and_true, hH, stdH, zql, ncast, zqe, zqy]
               simp only [Int.toNat_natCast]
               rw [w1 (by omega), m1, m2]
               (repeat' (with_reducible refine And.intro ?_ ?_)) <;> (first | exact True.intro | exact Eq.refl _ | exact RowsEq.self okS | exact RowsEq.self okRW | exact RowsEq.snoc okI rfl | exact RowsEq.more okI (Shp_I _ _) (Tl_I _) | exact List.length_append))
            | (simp only [hH, stdH, Int.toNat_natCast, List.length_map]; done)
            | (simp only [hH, stdH, Int.toNat_natCast, List.length_map]
               first | exact ⟨by omega, by omega⟩ | exact ⟨True.intro, by omega, by omega⟩ | omega)
        · simp only [hH, stdH, zqz, ne_eq, zqy] at k2
          have hj' : j < r.gs.length := by omega
          have k4 : ¬ kyG f (r.gs.getD j default) = f.length - i := by
            simp only [hH, stdH, Int.toNat_natCast, TlS', beq_eq_false_iff_ne] at k3
            have k3' : ((kyG f (r.gs.getD j default) : Nat) : Int) ≠ (f.length : Int) - (i : Nat) := k3
            omega
          have e := rkO_no hj' k4
          refine ⟨⟨j + 1, by omega⟩, by simp only; omega, ?_⟩
          rw [hJ]
          (conv in matchSt _ _ _ _ => cbv); simp only [AllG, AllP, and_true, hH, stdH, zql, ncast, zqe, zqy]
          rw [w1 (by omega), e]
          (repeat' (with_reducible refine And.intro ?_ ?_)) <;> (first | exact True.intro | exact Eq.refl _ | exact RowsEq.self okS | exact RowsEq.self okRW | exact RowsEq.self okI)
        · simp only [hH, stdH, zqz, ne_eq, zqy] at k2
          obtain rfl : j = r.gs.length := by omega
          rw [if_neg (by decide)]
          refine ⟨⟨i + 1, by omega⟩, by simp only; omega, ?_⟩
          rw [hI]
          (conv in matchSt _ _ _ _ => cbv); simp only [AllG, AllP, and_true, hH, stdH, zql, ncast, zqe, zqy]
          rw [wi (by omega) (by omega), rkO_n]
          (repeat' (with_reducible refine And.intro ?_ ?_)) <;> (first | exact True.intro | exact Eq.refl _ | exact RowsEq.self okS | exact RowsEq.self okRW | exact RowsEq.self okI | omega)
    · simp only [hH, stdH, zqz, ne_eq, zqy] at k1
      obtain rfl : i = f.length + 1 := by omega
      simp only [hH, stdH, rkH_all]
      (repeat' (with_reducible refine And.intro ?_ ?_)) <;> (first | exact True.intro | exact Eq.refl _ | exact Nat.le_refl _ | exact RowsEq.self okI)
noncomputable def e_l17Rank : Entry := pureE 55 fun H a => match a with
  | [.agg [.vec 18 r0n r0f], .vec 1 fn ff] => some (.tup [.vec 1 (H Nat fun _ => (rkN (Tl rowS fn ff) (⟨(Tl rowW r0n r0f)⟩ : Rgr).gs).length) (rowsI H fun _ => rkN (Tl rowS fn ff) (⟨(Tl rowW r0n r0f)⟩ : Rgr).gs), .vec 1 (H Nat fun _ => (rkC (Tl rowS fn ff) (⟨(Tl rowW r0n r0f)⟩ : Rgr).gs).length) (rowsI H fun _ => rkC (Tl rowS fn ff) (⟨(Tl rowW r0n r0f)⟩ : Rgr).gs)], [H Prop fun _ => Shp rowW r0n r0f, H Prop fun _ => Shp rowS fn ff, H Prop fun _ => (⟨(Tl rowW r0n r0f)⟩ : Rgr).gs.length ≤ 8000, H Prop fun _ => (∀ g ∈ (⟨(Tl rowW r0n r0f)⟩ : Rgr).gs, okA g.arms = true), H Prop fun _ => (Tl rowS fn ff).length ≤ 100000])
  | _ => none
theorem eok_l17Rank : EntryOk Tryz.prog e_l17Rank := pureM_ok (by unfold isBody; kernel_rfl) (by
  intro a r ob e hob
  split at e
  · rename_i r0n r0f fn ff
    simp only [zqt] at e
    obtain ⟨rfl, rfl⟩ := e
    exact ConN.args (.cons (.agg (.cons (.toT okRW rfl hob.1) .nil)) (.cons (.toT okS rfl hob.2.1) .nil)) (c_l17Rank (⟨(Tl rowW r0n r0f)⟩ : Rgr) (Tl rowS fn ff) hob.2.2.1 hob.2.2.2.1 hob.2.2.2.2.1)
  · simp at e)

end Go.Proofs.YtcjjffmbhionmaaGreatDoor.AM

