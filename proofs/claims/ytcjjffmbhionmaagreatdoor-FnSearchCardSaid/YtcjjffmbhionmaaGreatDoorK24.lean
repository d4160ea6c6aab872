/- Lemmas and contracts (Flu Fbi Fpl Fbs Srt Rnk); conditions: none. -/
import Derived.Test.YtcjjffmbhionmaaGreatDoorK03
import Derived.Test.YtcjjffmbhionmaaGreatDoorK05
import Derived.Test.YtcjjffmbhionmaaGreatDoorK07
import Derived.Test.YtcjjffmbhionmaaGreatDoorK09
import Derived.Test.YtcjjffmbhionmaaGreatDoorK16
import Derived.Test.YtcjjffmbhionmaaGreatDoorK18
import Derived.Test.YtcjjffmbhionmaaGreatDoorK23
set_option linter.unusedVariables false
set_option linter.unusedSimpArgs false
set_option maxRecDepth 100000
set_option maxHeartbeats 4000000
set_option cbv.maxSteps 3000000
namespace Go.Proofs.YtcjjffmbhionmaaGreatDoor.AM
/- Grants looked up by features; conditions: none. -/
def okFi (l : List ByteArray) (i : Nat) : Bool := isF (l.getD i ByteArray.empty) && (decide (i = 0) || ltA (l.getD (i - 1) ByteArray.empty) (l.getD i ByteArray.empty))
def okFl (l : List ByteArray) : Bool := decide (l.length ≤ 10) && (List.range l.length).all (okFi l)
theorem okFl_all {l : List ByteArray} (h : ∀ i, i < l.length → okFi l i = true) : okFl l = decide (l.length ≤ 10) := by
  unfold okFl
  rw [List.all_eq_true.2 (fun i hi => h i (List.mem_range.1 hi)), Bool.and_true]
theorem okFl_bad {l : List ByteArray} {i : Nat} (hi : i < l.length) (h : okFi l i = false) : okFl l = false := by
  unfold okFl
  cases e : (List.range l.length).all (okFi l) with
  | false => rw [Bool.and_false]
  | true =>
    have := List.all_eq_true.1 e i (List.mem_range.2 hi)
    rw [h] at this; cases this
theorem cond_fi {l : List ByteArray} {i : Nat} (hi : i ≤ 100000) : (bif !isF (l.getD i ByteArray.empty) then true else bif decide ((0 : Int) < (i : Int)) then !Op.bytesLess (l.getD (IntKind.i64.wrap ((i : Int) - 1)).toNat ByteArray.empty).toList (l.getD i ByteArray.empty).toList else false) = !okFi l i := by
  unfold okFi
  rcases Nat.eq_zero_or_pos i with rfl | h
  · cases isF (l.getD 0 ByteArray.empty) <;> rfl
  · have e : (IntKind.i64.wrap ((i : Int) - 1)).toNat = i - 1 := by rw [wi (by omega) (by omega)]; omega
    rw [e, decide_eq_true (show (0 : Int) < (i : Int) by omega), decide_eq_false (show ¬ i = 0 by omega)]
    show (bif !isF (l.getD i ByteArray.empty) then true else bif true then !ltA (l.getD (i - 1) ByteArray.empty) (l.getD i ByteArray.empty) else false) = _
    cases isF (l.getD i ByteArray.empty) <;> cases ltA (l.getD (i - 1) ByteArray.empty) (l.getD i ByteArray.empty) <;> rfl
theorem c_areF (l : List ByteArray) (h0 : l.length ≤ 100000) : ConN Tryz.prog 40 [.vec 1 (stdH Nat fun _ => (l).length) (rowsS stdH fun _ => l)] [] 0 (.lit (.bool (stdH Bool fun _ => okFl l))) [] [] := by
  have hB : Base Tryz.prog (tabΓ [e_isFeat]) tab := base_of tabOk (ents_cons eok_isFeat <| ents_nil)
  refine con_m (N := 32) hB (draw_ok hB mixed) Tryz.func40 rfl rfl (fun H => [.vec 1 (H Nat fun _ => (l).length) (rowsS H fun _ => l)]) (fun _ => []) 0 (fun H => .lit (.bool (H Bool fun _ => okFl l))) (fun H => []) (fun _ => []) 300 (by simp) (fun x hx => ?_) (by simp [lk]) (by omega) (by simp) ?_
  · simp only [zqu] at hx
    rcases hx with rfl
    · exact vl_bl okS l _
  intro X hX hX0 H hH
  conv in Fin.chk _ _ => cbv
  try simp only [zqs, Plain_rowsC, Plain_rowsW, zqx, AllP, zqw, upd, if_true]
  refine loop_a hB (draw_ok hB mixed) hX hX0 hH false (ι := { i : Nat // i ≤ l.length ∧ ∀ j, j < i → okFi l j = true }) 300 (fun i => [.b (H Bool fun _ => false), .i (H Int fun _ => (i.1 : Nat))]) (fun i => l.length - i.1) (⟨0, Nat.zero_le _, fun j h => absurd h (Nat.not_lt_zero j)⟩) ?_ ?_
  · (conv in matchSt _ _ _ _ => cbv); simp only [AllG, AllP, and_true, hH, stdH, zql, ncast, zqe, zqy]
    (repeat' (with_reducible refine And.intro ?_ ?_)) <;> (first | exact True.intro | exact Eq.refl _ | exact RowsEq.self okS)
  · intro I hI i
    conv in Fin.chk _ _ => cbv
    try simp only [zqs, Plain_rowsC, Plain_rowsW, zqx, AllP, zqw, upd, if_true]
    obtain ⟨i, hi, hj⟩ := i
    refine ⟨fun h1 => ⟨?_, ?_, fun h2 => ?_, fun h2 => ?_⟩, fun h1 => ?_⟩
    · simp only [hH, stdH, zqz, ne_eq, zqy] at h1 ⊢
      omega
    · simp only [hH, stdH, zqz, ne_eq, zqy] at h1
      try simp only [hH, stdH, zqz, ne_eq, zqy]
      intro h
      rw [wi (by omega) (by omega)]
      omega
    · simp only [hH, stdH, zqz, ne_eq, zqy] at h1
      simp only [hH, stdH, zqk, cond_fi (l := l) (i := i) (by omega), zqc] at h2
      try simp only [hH, stdH, zqz, ne_eq, zqy]
      exact okFl_bad (by omega) h2
    · simp only [hH, stdH, zqz, ne_eq, zqy] at h1
      simp only [hH, stdH, zqk, cond_fi (l := l) (i := i) (by omega), zqd] at h2
      refine ⟨⟨i + 1, by omega, fun j hj' => ?_⟩, by simp only; omega, ?_⟩
      · rcases Nat.lt_succ_iff_lt_or_eq.1 hj' with h | rfl
        · exact hj j h
        · exact h2
      · rw [hI]
        (conv in matchSt _ _ _ _ => cbv); simp only [AllG, AllP, and_true, hH, stdH, zql, ncast, zqe, zqy]
        rw [w1 (by omega)]
        (repeat' (with_reducible refine And.intro ?_ ?_)) <;> (first | exact True.intro | exact Eq.refl _ | exact RowsEq.self okS)
    · simp only [hH, stdH, zqz, ne_eq, zqy] at h1
      try simp only [hH, stdH, zqz, ne_eq, zqy]
      rw [okFl_all fun j hj' => hj j (by omega), decide_eq_decide]
      omega
noncomputable def e_areF : Entry := pureE 40 fun H a => match a with
  | [.vec 1 ln lf] => some (.lit (.bool (H Bool fun _ => okFl (Tl rowS ln lf))), [H Prop fun _ => Shp rowS ln lf, H Prop fun _ => (Tl rowS ln lf).length ≤ 100000])
  | _ => none
theorem eok_areF : EntryOk Tryz.prog e_areF := pureM_ok (by unfold isBody; kernel_rfl) (by
  intro a r ob e hob
  split at e
  · rename_i ln lf
    simp only [zqt] at e
    obtain ⟨rfl, rfl⟩ := e
    exact ConN.args (.cons (.toT okS rfl hob.1) .nil) (c_areF (Tl rowS ln lf) hob.2.1)
  · simp at e)
theorem okRg_okA {l : List Grt} (h : okRg l = true) : ∀ g ∈ l, okA g.arms = true := fun g hg => by
  obtain ⟨i, hi, e⟩ := List.getElem_of_mem hg
  have := okRg_N h hi
  rw [List.getD_eq_getElem?_getD, List.getElem?_eq_getElem hi, Option.getD_some, e] at this
  exact (okN_in this).2.2.2
theorem c_lookUp (r : Rgr) (f : List ByteArray) (h0 : r.gs.length ≤ 2000000) (h1 : Nsz r.gs) (h2 : f.length ≤ 100000) : ConN Tryz.prog 9 [aT rowJ stdH fun _ => r, .vec 1 (stdH Nat fun _ => (f).length) (rowsS stdH fun _ => f)] [] 0 (.tup [.vec 1 (stdH Nat fun _ => (if okRg r.gs && okFl f then nmb (luE f) r.gs r.gs.length else []).length) (rowsI stdH fun _ => if okRg r.gs && okFl f then nmb (luE f) r.gs r.gs.length else []), .lit (.bool (stdH Bool fun _ => okRg r.gs && okFl f))]) [] [] := by
  have hB : Base Tryz.prog (tabΓ [e_validR, e_areF, e_numL]) tab := base_of tabOk (ents_cons eok_validR <| ents_cons eok_areF <| ents_cons eok_numL <| ents_nil)
  refine con_m (N := 17) hB (draw_ok hB mixed) Tryz.func9 rfl rfl (fun H => [aT rowJ H fun _ => r, .vec 1 (H Nat fun _ => (f).length) (rowsS H fun _ => f)]) (fun _ => []) 0 (fun H => .tup [.vec 1 (H Nat fun _ => (if okRg r.gs && okFl f then nmb (luE f) r.gs r.gs.length else []).length) (rowsI H fun _ => if okRg r.gs && okFl f then nmb (luE f) r.gs r.gs.length else []), .lit (.bool (H Bool fun _ => okRg r.gs && okFl f))]) (fun H => []) (fun _ => []) 300 (by simp) (fun x hx => ?_) (by simp [lk]) (by omega) (by simp) ?_
  · simp only [zqu] at hx
    rcases hx with rfl | rfl
    · exact aT_bl okRJ _ _
    · exact vl_bl okS f _
  intro X hX hX0 H hH
  conv in Fin.chk _ _ => cbv
  try simp only [zqs, Plain_rowsC, Plain_rowsW, zqx, AllP, zqw, upd, if_true]
  simp only [TlW_H hH]
  subst hH
  simp only [stdH, TlS']
  cases hR : okRg r.gs with
  | false =>
    simp only [Bool.not_false, cond_true, Bool.false_and, Bool.false_eq_true, if_false]
    (repeat' (first | exact Shp_W _ _ | exact Shp_rowsT okS _ (fun _ => _) | assumption | exact True.intro | exact Eq.refl _ | (with_reducible refine And.intro ?_ ?_) | (intro h9; first | exact absurd h9 (by decide) | skip)))
  | true =>
    have hA := okRg_okA hR
    cases hF : okFl f with
    | false =>
      simp only [Bool.not_false, Bool.not_true, cond_false, Bool.true_and, Bool.false_eq_true, if_false]
      (repeat' (first | exact Shp_W _ _ | exact Shp_rowsT okS _ (fun _ => _) | assumption | exact True.intro | exact Eq.refl _ | (with_reducible refine And.intro ?_ ?_) | (intro h9; first | exact absurd h9 (by decide) | skip)))
    | true =>
      simp only [Bool.not_true, cond_false, Bool.true_and, if_true]
      (repeat' (first | exact Shp_W _ _ | exact Shp_rowsT okS _ (fun _ => _) | assumption | exact True.intro | exact Eq.refl _ | exact Nat.le_refl _ | exact RowsEq.self okI | (with_reducible refine And.intro ?_ ?_) | (intro h9; first | exact absurd h9 (by decide) | skip)))
noncomputable def e_lookUp : Entry := pureE 9 fun H a => match a with
  | [.agg [.vec 18 r0n r0f], .vec 1 fn ff] => some (.tup [.vec 1 (H Nat fun _ => (if okRg (⟨(Tl rowW r0n r0f)⟩ : Rgr).gs && okFl (Tl rowS fn ff) then nmb (luE (Tl rowS fn ff)) (⟨(Tl rowW r0n r0f)⟩ : Rgr).gs (⟨(Tl rowW r0n r0f)⟩ : Rgr).gs.length else []).length) (rowsI H fun _ => if okRg (⟨(Tl rowW r0n r0f)⟩ : Rgr).gs && okFl (Tl rowS fn ff) then nmb (luE (Tl rowS fn ff)) (⟨(Tl rowW r0n r0f)⟩ : Rgr).gs (⟨(Tl rowW r0n r0f)⟩ : Rgr).gs.length else []), .lit (.bool (H Bool fun _ => okRg (⟨(Tl rowW r0n r0f)⟩ : Rgr).gs && okFl (Tl rowS fn ff)))], [H Prop fun _ => Shp rowW r0n r0f, H Prop fun _ => Shp rowS fn ff, H Prop fun _ => (⟨(Tl rowW r0n r0f)⟩ : Rgr).gs.length ≤ 2000000, H Prop fun _ => Nsz (⟨(Tl rowW r0n r0f)⟩ : Rgr).gs, H Prop fun _ => (Tl rowS fn ff).length ≤ 100000])
  | _ => none
theorem eok_lookUp : EntryOk Tryz.prog e_lookUp := pureM_ok (by unfold isBody; kernel_rfl) (by
  intro a r ob e hob
  split at e
  · rename_i r0n r0f fn ff
    simp only [zqt] at e
    obtain ⟨rfl, rfl⟩ := e
    exact ConN.args (.cons (.agg (.cons (.toT okRW rfl hob.1) .nil)) (.cons (.toT okS rfl hob.2.1) .nil)) (c_lookUp (⟨(Tl rowW r0n r0f)⟩ : Rgr) (Tl rowS fn ff) hob.2.2.1 hob.2.2.2.1 hob.2.2.2.2.1)
  · simp at e)

end Go.Proofs.YtcjjffmbhionmaaGreatDoor.AM

set_option maxRecDepth 100000
set_option maxHeartbeats 4000000
set_option cbv.maxSteps 3000000
namespace Go.Proofs.YtcjjffmbhionmaaGreatDoor.AM
/- The index of a register; conditions: none. -/
structure Ixl where
  ft : ByteArray
  ns : List Int
deriving Inhabited
theorem Ixl.eta (a : Ixl) : (⟨a.ft, a.ns⟩ : Ixl) = a := rfl
end Go.Proofs.YtcjjffmbhionmaaGreatDoor.AM

set_option maxRecDepth 100000
set_option maxHeartbeats 4000000
set_option cbv.maxSteps 3000000
namespace Go.Proofs.YtcjjffmbhionmaaGreatDoor.AM
/- What the index lists, in plain words; conditions: none. -/
theorem okA_kind {a : Arm} (h : okA a = true) : (noG a.n = false → 1 ≤ a.n.k ∧ a.n.k ≤ 8) ∧ (noG a.r = false → 1 ≤ a.r.k ∧ a.r.k ≤ 8) := by
  have hk : ∀ g : Grp, okG g = true → 1 ≤ g.k ∧ g.k ≤ 8 := fun g hg => by
    unfold okG attF inB at hg
    simp only [Bool.and_eq_true, decide_eq_true_eq] at hg
    have h3 := hg.1.2
    repeat' split at h3
    all_goals first | (simp only [Bool.and_eq_true, decide_eq_true_eq] at h3; omega) | omega
  unfold okA at h
  simp only [Bool.and_eq_true] at h
  obtain ⟨⟨h1, h2⟩, h3⟩ := h
  refine ⟨fun q => ?_, fun q => hk _ (by rw [q, Bool.false_or] at h2; exact h2)⟩
  split at h3
  · simp only [Bool.and_eq_true] at h3
    rw [h3.2] at q; cases q
  · simp only [Bool.and_eq_true] at h3
    have h4 := h3.2
    rw [q, Bool.false_or] at h4
    exact hk _ h4
theorem isF_of {k : ByteArray × Int × Int} (hk : k ∈ kL) {x : Int} (h : k.2.1 ≤ x ∧ x ≤ k.2.2) : isF (ftX k.1 x) = true := isF_iff.2 ⟨k, hk, x, h, rfl⟩
theorem ftP_isF {a : Arm} (h : okA a = true) {x : ByteArray} (hx : x ∈ ftP a) : isF x = true := by
  have bd := okA_bd h
  obtain ⟨k1, k2⟩ := okA_kind h
  rw [ftP_mem, ftU_mem bd] at hx
  have b1 := bd.d
  have b2 := bd.o
  have b3 := bd.nc
  have b4 := bd.rc
  have b5 := bd.fl
  have b6 := bd.l
  simp only [decide_eq_true_eq, Bool.not_eq_true'] at hx
  rcases hx with (rfl | rfl | rfl) | ⟨t, ht, rfl⟩ | (⟨q, rfl⟩ | ⟨q, rfl⟩) | (⟨q, rfl⟩ | ⟨q, rfl⟩)
  · exact isF_of (k := (fcD, 0, 7)) (by simp [kL]) (by simp only; omega)
  · exact isF_of (k := (fcO, 0, 7)) (by simp [kL]) (by simp only; omega)
  · exact isF_of (k := (fcN, 0, 12)) (by simp [kL]) (by simp only; omega)
  · have := bd.t t ht
    exact isF_of (k := (fcT, 1, 9)) (by simp [kL]) (by simp only; omega)
  · exact isF_of (k := (fcL, 1, 4)) (by simp [kL]) (by simp only; omega)
  · exact isF_of (k := (fcL, 1, 4)) (by simp [kL]) (by simp only; omega)
  · have := k1 q
    exact isF_of (k := (fcK, 1, 8)) (by simp [kL]) (by simp only; omega)
  · have := k2 q
    exact isF_of (k := (fcK, 1, 8)) (by simp [kL]) (by simp only; omega)
theorem biE_iff {s : ByteArray} {g : Grt} : biE s g = hasF g.arms s := by
  unfold biE shN
  cases h : hasF g.arms s <;> simp [h]
theorem Asc.filter {l : List ByteArray} (p : ByteArray → Bool) (h : Asc l) : Asc (l.filter p) := by
  unfold Asc toL at *
  rw [List.pairwise_map] at *
  exact h.filter p
end Go.Proofs.YtcjjffmbhionmaaGreatDoor.AM

set_option maxRecDepth 100000
set_option maxHeartbeats 4000000
set_option cbv.maxSteps 3000000
namespace Go.Proofs.YtcjjffmbhionmaaGreatDoor.AM
/- The index of a register by the reference; conditions: none. -/
theorem any_bad {l : List ByteArray} {s : ByteArray} (h : ∀ j, j < l.length → l.getD j ByteArray.empty ≠ s) : l.any (fun y => decide (y = s)) = false := by
  rw [← Bool.not_eq_true, List.any_eq_true]
  rintro ⟨y, hy, e⟩
  rw [decide_eq_true_eq] at e
  obtain ⟨j, hj, e2⟩ := List.getElem_of_mem hy
  exact h j hj (by rw [List.getD_eq_getElem?_getD, List.getElem?_eq_getElem hj, Option.getD_some, e2, e])
theorem any_at {l : List ByteArray} {s : ByteArray} {j : Nat} (hj : j < l.length) (h : l.getD j ByteArray.empty = s) : l.any (fun y => decide (y = s)) = true := by
  rw [List.getD_eq_getElem?_getD, List.getElem?_eq_getElem hj, Option.getD_some] at h
  exact List.any_eq_true.2 ⟨_, List.getElem_mem hj, decide_eq_true h⟩
theorem c_l17HasE (l : List ByteArray) (s : ByteArray) (h0 : l.length ≤ 100000) : ConN Tryz.prog 39 [.vec 1 (stdH Nat fun _ => (l).length) (rowsS stdH fun _ => l), .lit (.string s)] [] 0 (.lit (.bool (stdH Bool fun _ => l.any (fun y => decide (y = s))))) [] [] := by
  have hB : Base Tryz.prog (tabΓ []) tab := base_of tabOk (ents_nil)
  refine con_m (N := 18) hB (draw_ok hB mixed) Tryz.func39 rfl rfl (fun H => [.vec 1 (H Nat fun _ => (l).length) (rowsS H fun _ => l), .lit (.string s)]) (fun _ => []) 0 (fun H => .lit (.bool (H Bool fun _ => l.any (fun y => decide (y = s))))) (fun H => []) (fun _ => []) 300 (by simp) (fun x hx => ?_) (by simp [lk]) (by omega) (by simp) ?_
  · simp only [zqu] at hx
    rcases hx with rfl | rfl
    · exact vl_bl okS l _
    · exact .lit
  intro X hX hX0 H hH
  conv in Fin.chk _ _ => cbv
  try simp only [zqs, Plain_rowsC, Plain_rowsW, zqx, AllP, zqw, upd, if_true]
  refine loop_a hB (draw_ok hB mixed) hX hX0 hH false (ι := { i : Nat // i ≤ l.length ∧ ∀ j, j < i → l.getD j ByteArray.empty ≠ s }) 300 (fun i => [.i (H Int fun _ => (i.1 : Nat))]) (fun i => l.length - i.1) (⟨0, Nat.zero_le _, fun j h => absurd h (Nat.not_lt_zero j)⟩) ?_ ?_
  · (conv in matchSt _ _ _ _ => cbv); simp only [AllG, AllP, and_true, hH, stdH, zql, ncast, zqe, zqy]
    (repeat' (with_reducible refine And.intro ?_ ?_)) <;> (first | exact True.intro | exact Eq.refl _ | exact RowsEq.self okS)
  · intro I hI i
    conv in Fin.chk _ _ => cbv
    try simp only [zqs, Plain_rowsC, Plain_rowsW, zqx, AllP, zqw, upd, if_true]
    obtain ⟨i, hi, hj⟩ := i
    refine ⟨fun h1 => ⟨?_, fun h2 => ?_, fun h2 => ?_⟩, fun h1 => ?_⟩
    · simp only [hH, stdH, zqz, ne_eq, zqy] at h1 ⊢
      omega
    · simp only [hH, stdH, zqz, ne_eq, zqy] at h1
      simp only [hH, stdH, Int.toNat_natCast, beqT, decide_eq_true_eq] at h2
      try simp only [hH, stdH, zqz, ne_eq, zqy]
      exact any_at (by omega) h2
    · simp only [hH, stdH, zqz, ne_eq, zqy] at h1
      simp only [hH, stdH, Int.toNat_natCast, beqT, decide_eq_false_iff_not] at h2
      refine ⟨⟨i + 1, by omega, fun j hj' => ?_⟩, by simp only; omega, ?_⟩
      · rcases Nat.lt_succ_iff_lt_or_eq.1 hj' with h | rfl
        · exact hj j h
        · exact h2
      · rw [hI]
        (conv in matchSt _ _ _ _ => cbv); simp only [AllG, AllP, and_true, hH, stdH, zql, ncast, zqe, zqy]
        rw [w1 (by omega)]
        (repeat' (with_reducible refine And.intro ?_ ?_)) <;> (first | exact True.intro | exact Eq.refl _ | exact RowsEq.self okS)
    · simp only [hH, stdH, zqz, ne_eq, zqy] at h1
      try simp only [hH, stdH, zqz, ne_eq, zqy]
      exact any_bad fun j hj' => hj j (by omega)
noncomputable def e_l17HasE : Entry := pureE 39 fun H a => match a with
  | [.vec 1 ln lf, .lit (.string s)] => some (.lit (.bool (H Bool fun _ => (Tl rowS ln lf).any (fun y => decide (y = s)))), [H Prop fun _ => Shp rowS ln lf, H Prop fun _ => (Tl rowS ln lf).length ≤ 100000])
  | _ => none
theorem eok_l17HasE : EntryOk Tryz.prog e_l17HasE := pureM_ok (by unfold isBody; kernel_rfl) (by
  intro a r ob e hob
  split at e
  · rename_i ln lf s
    simp only [zqt] at e
    obtain ⟨rfl, rfl⟩ := e
    exact ConN.args (.cons (.toT okS rfl hob.1) (.cons .rfl .nil)) (c_l17HasE (Tl rowS ln lf) s hob.2.1)
  · simp at e)
end Go.Proofs.YtcjjffmbhionmaaGreatDoor.AM

set_option maxRecDepth 100000
set_option maxHeartbeats 4000000
set_option cbv.maxSteps 3000000
namespace Go.Proofs.YtcjjffmbhionmaaGreatDoor.AM
/- Insertion sort, as the library does it; numbers sorted; conditions: none. -/
def swp {α : Type} (d : α) (l : List α) (j : Nat) : List α := (l.set j (l.getD (j - 1) d)).set (j - 1) (l.getD j d)
def bub {α : Type} (lt : α → α → Bool) (d : α) : Nat → List α → List α
  | 0, l => l
  | j + 1, l => bif lt (l.getD (j + 1) d) (l.getD j d) then bub lt d j (swp d l (j + 1)) else l
def isr {α : Type} (lt : α → α → Bool) (d : α) (l : List α) : Nat → List α
  | 0 => l
  | i + 1 => bub lt d (i + 1) (isr lt d l i)
theorem swp_len {α : Type} (d : α) (l : List α) (j : Nat) : (swp d l j).length = l.length := by simp [swp]
theorem bub_len {α : Type} (lt : α → α → Bool) (d : α) : ∀ (j : Nat) (l : List α), (bub lt d j l).length = l.length
  | 0, l => rfl
  | j + 1, l => by
    unfold bub
    cases lt (l.getD (j + 1) d) (l.getD j d)
    · rfl
    · exact (bub_len lt d j _).trans (swp_len d l (j + 1))
theorem isr_len {α : Type} (lt : α → α → Bool) (d : α) (l : List α) : ∀ i, (isr lt d l i).length = l.length
  | 0 => rfl
  | i + 1 => (bub_len lt d (i + 1) _).trans (isr_len lt d l i)
theorem bub_yes {α : Type} {lt : α → α → Bool} {d : α} {j : Nat} {l : List α} (h : lt (l.getD (j + 1) d) (l.getD j d) = true) : bub lt d (j + 1) l = bub lt d j (swp d l (j + 1)) := by
  rw [bub, h]; rfl
theorem bub_no {α : Type} {lt : α → α → Bool} {d : α} {j : Nat} {l : List α} (h : lt (l.getD (j + 1) d) (l.getD j d) = false) : bub lt d (j + 1) l = l := by
  rw [bub, h]; rfl
theorem getDm {α : Type} {d : α} {l : List α} {j : Nat} (h : j < l.length) : l.getD j d ∈ l := by
  rw [List.getD_eq_getElem?_getD, List.getElem?_eq_getElem h, Option.getD_some]; exact List.getElem_mem h
theorem swp_mem {α : Type} {d : α} {l : List α} {j : Nat} (h : j < l.length) {x : α} (hx : x ∈ swp d l j) : x ∈ l := by
  unfold swp at hx
  rcases List.mem_or_eq_of_mem_set hx with hx | rfl
  · rcases List.mem_or_eq_of_mem_set hx with hx | rfl
    · exact hx
    · exact getDm (by omega)
  · exact getDm h
theorem bub_mem {α : Type} {lt : α → α → Bool} {d : α} : ∀ {j : Nat} {l : List α}, j < l.length → ∀ {x : α}, x ∈ bub lt d j l → x ∈ l
  | 0, l, _, x, hx => hx
  | j + 1, l, h, x, hx => by
    unfold bub at hx
    cases hl : lt (l.getD (j + 1) d) (l.getD j d)
    · rw [hl] at hx; exact hx
    · rw [hl] at hx
      exact swp_mem h (bub_mem (by rw [swp_len]; omega) hx)
theorem isr_mem {α : Type} {lt : α → α → Bool} {d : α} {l : List α} : ∀ {i : Nat}, i < l.length → ∀ {x : α}, x ∈ isr lt d l i → x ∈ l
  | 0, _, x, hx => hx
  | i + 1, h, x, hx => isr_mem (by omega) (bub_mem (by rw [isr_len]; exact h) hx)
theorem wsub {j : Nat} (h : 0 < j) (hj : j ≤ 4000000) : IntKind.i64.wrap ((j : Int) - 1) = ((j - 1 : Nat) : Int) := by
  rw [wi] <;> omega

end Go.Proofs.YtcjjffmbhionmaaGreatDoor.AM

set_option maxRecDepth 100000
set_option maxHeartbeats 4000000
set_option cbv.maxSteps 3000000
namespace Go.Proofs.YtcjjffmbhionmaaGreatDoor.AM
/- Lists ranked by a number: plain; conditions: none. -/
def rkL {α : Type} (key : α → Nat) (l : List α) : Nat → List α
  | 0 => l.filter fun x => decide (key x = 0)
  | n + 1 => (l.filter fun x => decide (key x = n + 1)) ++ rkL key l n
theorem rkL_le {α : Type} {key : α → Nat} {l : List α} : ∀ {n : Nat} {a : α}, a ∈ rkL key l n → key a ≤ n ∧ a ∈ l
  | 0, a, h => by
    simp only [rkL, List.mem_filter, decide_eq_true_eq] at h
    exact ⟨by omega, h.1⟩
  | n + 1, a, h => by
    simp only [rkL, List.mem_append, List.mem_filter, decide_eq_true_eq] at h
    rcases h with h | h
    · exact ⟨by omega, h.1⟩
    · have := rkL_le h
      exact ⟨by omega, this.2⟩
theorem rkL_more {α : Type} {key : α → Nat} {l : List α} {x : α} : ∀ {n : Nat}, n < key x → rkL key (l ++ [x]) n = rkL key l n
  | 0, h => by
    simp only [rkL, List.filter_append]
    rw [List.filter_cons_of_neg (by simp only [decide_eq_true_eq]; omega)]
    simp
  | n + 1, h => by
    simp only [rkL, List.filter_append]
    rw [rkL_more (by omega), List.filter_cons_of_neg (by simp only [decide_eq_true_eq]; omega)]
    simp
theorem rkL_cut {α : Type} {key : α → Nat} {l : List α} {x : α} : ∀ {n : Nat}, key x ≤ n → ∃ A B, rkL key l n = A ++ B ∧ rkL key (l ++ [x]) n = A ++ x :: B ∧ (∀ a ∈ A, key x ≤ key a) ∧ ∀ b ∈ B, key b < key x
  | 0, h => by
    refine ⟨l.filter fun x => decide (key x = 0), [], by simp [rkL], ?_, fun a ha => by omega, by simp⟩
    simp only [rkL, List.filter_append]
    rw [List.filter_cons_of_pos (by simp only [decide_eq_true_eq]; omega)]
    simp
  | n + 1, h => by
    by_cases hk : key x = n + 1
    · refine ⟨l.filter fun x => decide (key x = n + 1), rkL key l n, rfl, ?_, fun a ha => ?_, fun b hb => ?_⟩
      · simp only [rkL, List.filter_append]
        rw [rkL_more (by omega), List.filter_cons_of_pos (by simp only [decide_eq_true_eq]; omega)]
        simp
      · simp only [List.mem_filter, decide_eq_true_eq] at ha
        omega
      · have := (rkL_le hb).1
        omega
    · obtain ⟨A, B, h1, h2, h3, h4⟩ := rkL_cut (l := l) (show key x ≤ n by omega)
      refine ⟨(l.filter fun x => decide (key x = n + 1)) ++ A, B, ?_, ?_, fun a ha => ?_, h4⟩
      · rw [rkL, h1, List.append_assoc]
      · simp only [rkL, List.filter_append]
        rw [List.filter_cons_of_neg (by simp only [decide_eq_true_eq]; omega), h2]
        simp
      · rcases List.mem_append.1 ha with ha | ha
        · simp only [List.mem_filter, decide_eq_true_eq] at ha
          omega
        · exact h3 a ha
def gtK {α : Type} (key : α → Nat) (a b : α) : Bool := decide (key b < key a)
theorem getD_mid {α : Type} {d : α} (p q : List α) (x : α) : (p ++ x :: q).getD p.length d = x := by
  rw [List.getD_eq_getElem?_getD, List.getElem?_append_right (Nat.le_refl _), Nat.sub_self]; rfl
theorem swp_mid {α : Type} {d : α} (p q : List α) (y x : α) : swp d (p ++ y :: x :: q) (p.length + 1) = p ++ x :: y :: q := by
  have e1 : (p ++ y :: x :: q).getD (p.length + 1) d = x := by
    rw [List.getD_eq_getElem?_getD, List.getElem?_append_right (by omega), show p.length + 1 - p.length = 1 by omega]; rfl
  unfold swp
  rw [Nat.add_sub_cancel, e1, getD_mid]
  rw [List.set_append_right _ _ (by omega), List.set_append_right _ _ (by omega)]
  rw [show p.length + 1 - p.length = 1 by omega, Nat.sub_self]
  rfl
theorem bub_back {α : Type} {key : α → Nat} {d : α} {x : α} : ∀ (B A r : List α), (∀ a ∈ A, key x ≤ key a) → (∀ b ∈ B, key b < key x) → bub (gtK key) d (A.length + B.length) (A ++ (B.reverse ++ x :: r)) = A ++ x :: (B.reverse ++ r)
  | [], A, r, hA, _ => by
    simp only [List.length_nil, Nat.add_zero, List.reverse_nil, List.nil_append]
    rcases List.eq_nil_or_concat A with rfl | ⟨p, y, rfl⟩
    · rfl
    · have hy := hA y (by simp)
      rw [List.concat_eq_append, List.length_append, List.length_singleton]
      refine bub_no ?_
      unfold gtK
      rw [decide_eq_false_iff_not]
      have e1 : ((p ++ [y]) ++ x :: r).getD (p.length + 1) d = x := by
        have := getD_mid (d := d) (p ++ [y]) r x
        rwa [List.length_append, List.length_singleton] at this
      have e2 : ((p ++ [y]) ++ x :: r).getD p.length d = y := by
        rw [List.append_assoc]
        exact getD_mid p _ y
      rw [e1, e2]
      omega
  | b :: B, A, r, hA, hB => by
    have hb := hB b (by simp)
    have e0 : A ++ ((b :: B).reverse ++ x :: r) = (A ++ B.reverse) ++ b :: x :: r := by simp
    rw [e0, List.length_cons, ← Nat.add_assoc]
    have el : (A ++ B.reverse).length = A.length + B.length := by simp
    have e1 : ((A ++ B.reverse) ++ b :: x :: r).getD (A.length + B.length + 1) d = x := by
      have := getD_mid (d := d) ((A ++ B.reverse) ++ [b]) r x
      rw [List.length_append, el, List.length_singleton] at this
      rwa [List.append_assoc (A ++ B.reverse)] at this
    have e2 : ((A ++ B.reverse) ++ b :: x :: r).getD (A.length + B.length) d = b := by
      have := getD_mid (d := d) (A ++ B.reverse) (x :: r) b
      rwa [el] at this
    rw [bub_yes (by unfold gtK; rw [e1, e2]; exact decide_eq_true hb), ← el, swp_mid, el]
    have := bub_back (d := d) B A (b :: r) hA (fun q hq => hB q (by simp [hq]))
    rw [List.append_assoc, this]
    simp
theorem rkL_nil {α : Type} (key : α → Nat) (n : Nat) : rkL key ([] : List α) n = [] := List.eq_nil_iff_forall_not_mem.2 fun a ha => by have := (rkL_le ha).2; simp at this
theorem rkL_lenR {α : Type} {key : α → Nat} {n : Nat} : ∀ (r : List α), (∀ x ∈ r, key x ≤ n) → (rkL key r.reverse n).length = r.length
  | [], _ => by rw [List.reverse_nil, rkL_nil]
  | x :: r, h => by
    obtain ⟨A, B, h1, h2, _⟩ := rkL_cut (l := r.reverse) (h x (by simp))
    have h5 := rkL_lenR r (fun y hy => h y (by simp [hy]))
    rw [h1, List.length_append] at h5
    rw [List.reverse_cons, h2, List.length_append, List.length_cons, List.length_cons]
    omega
theorem rkL_len {α : Type} {key : α → Nat} {n : Nat} {l : List α} (h : ∀ x ∈ l, key x ≤ n) : (rkL key l n).length = l.length := by
  have := rkL_lenR (key := key) (n := n) l.reverse (fun x hx => h x (List.mem_reverse.1 hx))
  rwa [List.reverse_reverse, List.length_reverse] at this
theorem isr_rk {α : Type} {key : α → Nat} {d : α} {n : Nat} (l : List α) (hk : ∀ x ∈ l, key x ≤ n) : ∀ i, i < l.length → isr (gtK key) d l i = rkL key (l.take (i + 1)) n ++ l.drop (i + 1)
  | 0, h => by
    obtain ⟨x, l, rfl⟩ : ∃ x q, l = x :: q := by
      cases l with
      | nil => exact absurd h (Nat.not_lt_zero 0)
      | cons x q => exact ⟨x, q, rfl⟩
    obtain ⟨A, B, h1, h2, _⟩ := rkL_cut (l := []) (hk x (by simp))
    have h3 : A ++ B = [] := by rw [← h1, rkL_nil]
    obtain ⟨rfl, rfl⟩ := List.append_eq_nil_iff.1 h3
    simp only [List.nil_append] at h2
    show x :: l = rkL key [x] n ++ l
    rw [h2]; rfl
  | i + 1, h => by
    have hx := hk l[i + 1] (List.getElem_mem _)
    rw [List.take_succ_eq_append_getElem h]
    obtain ⟨A, B, h1, h2, h3, h4⟩ := rkL_cut (l := l.take (i + 1)) hx
    show bub _ d (i + 1) (isr _ d l i) = _
    rw [isr_rk l hk i (by omega), h1, h2, List.drop_eq_getElem_cons h]
    have hl : A.length + B.length = i + 1 := by
      have := rkL_len (n := n) (l := l.take (i + 1)) (fun x hx => hk x (List.mem_of_mem_take hx))
      rw [h1, List.length_append, List.length_take] at this
      omega
    have := bub_back (d := d) B.reverse A (l.drop (i + 1 + 1)) h3 (fun b hb => h4 b (List.mem_reverse.1 hb))
    rw [List.reverse_reverse, List.length_reverse, hl] at this
    rw [List.append_assoc, this]
    simp
theorem rkL_all {α : Type} {key : α → Nat} {d : α} {n : Nat} {l : List α} (hk : ∀ x ∈ l, key x ≤ n) : isr (gtK key) d l (l.length - 1) = rkL key l n := by
  cases l with
  | nil =>
    rw [rkL_nil]; rfl
  | cons x l =>
    have h := isr_rk (d := d) (x :: l) hk l.length (by simp)
    show isr _ d (x :: l) l.length = _
    rw [h]
    simp
def kyG (f : List ByteArray) (g : Grt) : Nat := shN g.arms f f.length
theorem kyG_le (f : List ByteArray) (g : Grt) : kyG f g ≤ f.length := shN_le _ _ _
def rkS (f : List ByteArray) (l : List Grt) : List Grt := rkL (kyG f) l f.length
theorem rkS_len (f : List ByteArray) (l : List Grt) : (rkS f l).length = l.length := rkL_len fun x _ => kyG_le f x
theorem rkS_mem {f : List ByteArray} {l : List Grt} {g : Grt} (h : g ∈ rkS f l) : g ∈ l := (rkL_le h).2
theorem rkS_srt (f : List ByteArray) (l : List Grt) : isr (gtK (kyG f)) default l (l.length - 1) = rkS f l := rkL_all fun x _ => kyG_le f x
def rkN (f : List ByteArray) (l : List Grt) : List Int := (rkS f l).map fun g => g.num
def rkC (f : List ByteArray) (l : List Grt) : List Int := (rkS f l).map fun g => (kyG f g : Int)
theorem rkN_len (f : List ByteArray) (l : List Grt) : (rkN f l).length = l.length := by unfold rkN; rw [List.length_map, rkS_len]
theorem rkC_len (f : List ByteArray) (l : List Grt) : (rkC f l).length = l.length := by unfold rkC; rw [List.length_map, rkS_len]
def rkH {α : Type} (key : α → Nat) (l : List α) (n : Nat) : Nat → List α
  | 0 => []
  | i + 1 => rkH key l n i ++ l.filter fun x => decide (key x = n - i)
theorem rkH_L {α : Type} (key : α → Nat) (l : List α) (n : Nat) : ∀ i, i ≤ n → rkH key l n i ++ rkL key l (n - i) = rkL key l n
  | 0, _ => rfl
  | i + 1, h => by
    rw [← rkH_L key l n i (by omega)]
    obtain ⟨m, hm⟩ : ∃ m, n - i = m + 1 := ⟨n - i - 1, by omega⟩
    rw [show n - (i + 1) = m by omega, hm, rkL, rkH, hm, List.append_assoc]
theorem rkH_all {α : Type} (key : α → Nat) (l : List α) (n : Nat) : rkH key l n (n + 1) = rkL key l n := by
  rw [← rkH_L key l n n (Nat.le_refl _), rkH, Nat.sub_self, rkL]

end Go.Proofs.YtcjjffmbhionmaaGreatDoor.AM

