/- Lemmas and contracts (Skj); conditions: none. -/
import Derived.Test.YtmkniipdkanbbaaGreatDoorK04
import Derived.Test.YtmkniipdkanbbaaGreatDoorK22
import Derived.Test.YtmkniipdkanbbaaGreatDoorK32
set_option linter.unusedVariables false
set_option linter.unusedSimpArgs false
set_option maxRecDepth 100000
set_option maxHeartbeats 4000000
set_option cbv.maxSteps 3000000
namespace Go.Proofs.YtmkniipdkanbbaaGreatDoor.AM
/- What slots stand for, by the program: pieces; conditions: none. -/
theorem RowsEq.litQ {L : List Int} {n : Nat} {f : Nat → List AV} (hn : L.length = n) (hf : ∀ j, j < n → f j = [.lit (.int .i64 (L.getD j 0))]) : RowsEq 1 L.length (rowsI stdH fun _ => L) n f := by
  subst hn
  refine ⟨rfl, fun j hj => ?_⟩
  have e := hf j hj
  have q := (RowsEq.self okI (L := L)).2 j hj
  rw [e]
  exact q
theorem c_tincQ (f : Fld)  : ConN Tryz.prog 97 [aT rowF stdH fun _ => f] [] 0 (.slc 0 0 1 (stdH Nat fun _ => (tinQ f).length)) [.rows 1 (stdH Nat fun _ => (tinQ f).length) (rowsI stdH fun _ => tinQ f) 3] [] := by
  have hB : Base Tryz.prog (tabΓ []) tabA := base_of tabOkA (ents_nil)
  refine con_m (N := 14) hB (draw_ok hB mixed) Tryz.func97 rfl rfl (fun H => [aT rowF H fun _ => f]) (fun _ => []) 0 (fun H => .slc 0 0 1 (H Nat fun _ => (tinQ f).length)) (fun H => [.rows 1 (H Nat fun _ => (tinQ f).length) (rowsI H fun _ => tinQ f) 3]) (fun _ => []) 100 (by simp) (fun x hx => ?_) (by simp [lk]) (by omega) (by simp) ?_
  · simp only [zqu] at hx
    rcases hx with rfl
    · exact aT_bl okRF _ _
  intro X hX hX0 H hH
  conv in Fin.chk _ _ => cbv
  try simp only [zqs, Plain_rowsC, Plain_rowsY, zqx, AllP, zqw, upd, if_true]
  subst hH
  simp only [stdH]
  unfold tinQ
  refine ⟨fun h => ?_, fun h => ?_⟩
  · have h0 : f.d = 0 := by simpa using h
    rw [if_pos h0]
    refine ⟨RowsEq.litQ rfl fun j hj => ?_, rfl⟩
    rcases (by omega : j = 0) with rfl
    rfl
  · have h0 : ¬ f.d = 0 := by simpa using h
    rw [if_neg h0]
    refine ⟨RowsEq.litQ rfl fun j hj => ?_, rfl⟩
    rcases (by omega : j = 0 ∨ j = 1) with rfl | rfl <;> rfl
noncomputable def e_tincQ : Entry := pureN 97 fun H a => match a with
  | [.agg [.lit (.int .i64 f0), .lit (.int .i64 f1), .lit (.int .i64 f2), .lit (.int .i64 f3)]] => some (fun nx => .slc nx 0 1 (H Nat fun _ => (tinQ (⟨f0, f1, f2, f3⟩ : Fld)).length), [.rows 1 (H Nat fun _ => (tinQ (⟨f0, f1, f2, f3⟩ : Fld)).length) (rowsI H fun _ => tinQ (⟨f0, f1, f2, f3⟩ : Fld)) 3], [])
  | _ => none
theorem eok_tincQ : EntryOk Tryz.prog e_tincQ := pureN_ok (by unfold isBody; kernel_rfl) (by
  intro a r nb ob e hob
  split at e
  · rename_i f0 f1 f2 f3
    simp only [zqt] at e
    obtain ⟨rfl, rfl, rfl⟩ := e
    refine ⟨ConN.args (.cons .rfl .nil) (c_tincQ (⟨f0, f1, f2, f3⟩ : Fld) ), fun x hx => ?_, fun nx => ?_, fun b hb => ?_⟩
    · simp only [zqu] at hx
      rcases hx with rfl
      · exact blq_ok 4 rfl
    · (first | exact .slc ⟨by omega, by simp⟩ (by omega) | (refine .tup rfl (fun c x y hx hy => ?_); rcases c with _ | _ | _ | c <;> simp at hx hy <;> (subst hx; subst hy; first | exact .slc ⟨by omega, by simp⟩ (by omega) | exact .pl .lit | exact .pl (blq_ok 4 rfl) | (refine .agg rfl (fun c x y hx hy => ?_); rcases c with _ | _ | _ | c <;> simp at hx hy <;> (subst hx; subst hy; first | exact .slc ⟨by omega, by simp⟩ (by omega) | exact .pl .lit | exact .pl (blq_ok 4 rfl))))) | (refine .agg rfl (fun c x y hx hy => ?_); rcases c with _ | _ | _ | c <;> simp at hx hy <;> (subst hx; subst hy; first | exact .slc ⟨by omega, by simp⟩ (by omega) | exact .pl .lit | exact .pl (blq_ok 4 rfl))))
    · simp only [zqu] at hb; subst hb; exact bT_bl okI _ (fun _ => tinQ (⟨f0, f1, f2, f3⟩ : Fld)) _
  · simp at e)
theorem c_tincQS (f : Fld)  : ConN Tryz.prog 140 [aT rowF stdH fun _ => f] [] 0 (.slc 0 0 1 (stdH Nat fun _ => (tinQ f).length)) [.rows 1 (stdH Nat fun _ => (tinQ f).length) (rowsI stdH fun _ => tinQ f) 3] [] := by
  have hB : Base Tryz.prog (tabΓ []) tabA := base_of tabOkA (ents_nil)
  refine con_m (N := 14) hB (draw_ok hB mixed) Tryz.func140 rfl rfl (fun H => [aT rowF H fun _ => f]) (fun _ => []) 0 (fun H => .slc 0 0 1 (H Nat fun _ => (tinQ f).length)) (fun H => [.rows 1 (H Nat fun _ => (tinQ f).length) (rowsI H fun _ => tinQ f) 3]) (fun _ => []) 100 (by simp) (fun x hx => ?_) (by simp [lk]) (by omega) (by simp) ?_
  · simp only [zqu] at hx
    rcases hx with rfl
    · exact aT_bl okRF _ _
  intro X hX hX0 H hH
  conv in Fin.chk _ _ => cbv
  try simp only [zqs, Plain_rowsC, Plain_rowsY, zqx, AllP, zqw, upd, if_true]
  subst hH
  simp only [stdH]
  unfold tinQ
  refine ⟨fun h => ?_, fun h => ?_⟩
  · have h0 : f.d = 0 := by simpa using h
    rw [if_pos h0]
    refine ⟨RowsEq.litQ rfl fun j hj => ?_, rfl⟩
    rcases (by omega : j = 0) with rfl
    rfl
  · have h0 : ¬ f.d = 0 := by simpa using h
    rw [if_neg h0]
    refine ⟨RowsEq.litQ rfl fun j hj => ?_, rfl⟩
    rcases (by omega : j = 0 ∨ j = 1) with rfl | rfl <;> rfl
noncomputable def e_tincQS : Entry := pureN 140 fun H a => match a with
  | [.agg [.lit (.int .i64 f0), .lit (.int .i64 f1), .lit (.int .i64 f2), .lit (.int .i64 f3)]] => some (fun nx => .slc nx 0 1 (H Nat fun _ => (tinQ (⟨f0, f1, f2, f3⟩ : Fld)).length), [.rows 1 (H Nat fun _ => (tinQ (⟨f0, f1, f2, f3⟩ : Fld)).length) (rowsI H fun _ => tinQ (⟨f0, f1, f2, f3⟩ : Fld)) 3], [])
  | _ => none
theorem eok_tincQS : EntryOk Tryz.prog e_tincQS := pureN_ok (by unfold isBody; kernel_rfl) (by
  intro a r nb ob e hob
  split at e
  · rename_i f0 f1 f2 f3
    simp only [zqt] at e
    obtain ⟨rfl, rfl, rfl⟩ := e
    refine ⟨ConN.args (.cons .rfl .nil) (c_tincQS (⟨f0, f1, f2, f3⟩ : Fld) ), fun x hx => ?_, fun nx => ?_, fun b hb => ?_⟩
    · simp only [zqu] at hx
      rcases hx with rfl
      · exact blq_ok 4 rfl
    · (first | exact .slc ⟨by omega, by simp⟩ (by omega) | (refine .tup rfl (fun c x y hx hy => ?_); rcases c with _ | _ | _ | c <;> simp at hx hy <;> (subst hx; subst hy; first | exact .slc ⟨by omega, by simp⟩ (by omega) | exact .pl .lit | exact .pl (blq_ok 4 rfl) | (refine .agg rfl (fun c x y hx hy => ?_); rcases c with _ | _ | _ | c <;> simp at hx hy <;> (subst hx; subst hy; first | exact .slc ⟨by omega, by simp⟩ (by omega) | exact .pl .lit | exact .pl (blq_ok 4 rfl))))) | (refine .agg rfl (fun c x y hx hy => ?_); rcases c with _ | _ | _ | c <;> simp at hx hy <;> (subst hx; subst hy; first | exact .slc ⟨by omega, by simp⟩ (by omega) | exact .pl .lit | exact .pl (blq_ok 4 rfl))))
    · simp only [zqu] at hb; subst hb; exact bT_bl okI _ (fun _ => tinQ (⟨f0, f1, f2, f3⟩ : Fld)) _
  · simp at e)
theorem c_idxI (s : List Int) (v : Int) (h0 : s.length ≤ 2000000) : ConN Tryz.prog 163 [.vec 1 (stdH Nat fun _ => (s).length) (rowsI stdH fun _ => s), .lit (.int .i64 v)] [] 0 (.lit (.int .i64 (stdH Int fun _ => idxF (fun y => decide (y = v)) s))) [] [] := by
  have hB : Base Tryz.prog (tabΓ []) tab := base_of tabOk (ents_nil)
  refine con_m (N := 19) hB (draw_ok hB mixed) Tryz.func163 rfl rfl (fun H => [.vec 1 (H Nat fun _ => (s).length) (rowsI H fun _ => s), .lit (.int .i64 v)]) (fun _ => []) 0 (fun H => .lit (.int .i64 (H Int fun _ => idxF (fun y => decide (y = v)) s))) (fun H => []) (fun _ => []) 100 (by simp) (fun x hx => ?_) (by simp [lk]) (by omega) (by simp) ?_
  · simp only [zqu] at hx
    rcases hx with rfl | rfl
    · exact vl_bl okI s _
    · exact .lit
  intro X hX hX0 H hH
  conv in Fin.chk _ _ => cbv
  try simp only [zqs, Plain_rowsC, Plain_rowsY, zqx, AllP, zqw, upd, if_true]
  refine loop_a hB (draw_ok hB mixed) hX hX0 hH false (ι := { i : Nat // i ≤ (s).length ∧ ∀ j, j < i → decide ((s).getD j 0 = v) = false }) 100 (fun i => [.i (H Int fun _ => 0), .i (H Int fun _ => (i.1 : Nat))]) (fun i => (s).length - i.1) (⟨0, by omega, by omega⟩) ?_ ?_
  · (conv in matchSt _ _ _ _ => cbv); simp only [AllG, AllP, and_true, hH, stdH, zql, ncast, zqe, zqy]
    (repeat' (first | with_reducible exact True.intro | rfl | exact Nat.le_refl _ | exact RowsEq.self okI | exact RowsEq.ofT okI rfl (Shp_zero _) rfl | exact RowsEq.snoc okI rfl | exact RowsEq.more okI (Shp_I _ _) (Tl_I _) | exact RowsEq.self okI | exact RowsEq.self okRA | exact List.length_append | refine And.intro ?_ ?_ | trivial))
  · intro I hI i
    conv in Fin.chk _ _ => cbv
    try simp only [zqs, Plain_rowsC, Plain_rowsY, zqx, AllP, zqw, upd, if_true]
    obtain ⟨i, hi, hj⟩ := i
    refine ⟨fun h1 => ⟨?_, fun h2 => ?_, fun h2 => ?_⟩, fun h1 => ?_⟩
    · simp only [hH, stdH, zqz, ne_eq, zqy] at h1 ⊢
      omega
    · simp only [hH, stdH, zqz, ne_eq, zqy] at h1
      simp only [hH, stdH, zqz, ne_eq, zqy] at h2
      try simp only [hH, stdH, zqz, ne_eq, zqy]
      exact idxF_at 0 (by omega) (decide_eq_true (by rw [h2])) hj
    · simp only [hH, stdH, zqz, ne_eq, zqy] at h1
      simp only [hH, stdH, zqz, ne_eq, zqy] at h2
      refine ⟨⟨i + 1, by omega, fun j hj' => ?_⟩, by simp only; omega, ?_⟩
      · rcases Nat.lt_succ_iff_lt_or_eq.1 hj' with h | rfl
        · exact hj j h
        · exact decide_eq_false fun q => h2 (by rw [q])
      · rw [hI]
        (conv in matchSt _ _ _ _ => cbv); simp only [AllG, AllP, and_true, hH, stdH, zql, ncast, zqe, zqy]
        rw [w1 (by omega)]
        (repeat' (first | with_reducible exact True.intro | rfl | exact Nat.le_refl _ | exact RowsEq.self okI | exact RowsEq.ofT okI rfl (Shp_zero _) rfl | exact RowsEq.snoc okI rfl | exact RowsEq.more okI (Shp_I _ _) (Tl_I _) | exact RowsEq.self okI | exact RowsEq.self okRA | exact List.length_append | refine And.intro ?_ ?_ | trivial))
    · simp only [hH, stdH, zqz, ne_eq, zqy] at h1 ⊢
      exact idxF_no 0 fun j hj' => hj j (by omega)
noncomputable def e_idxI : Entry := pureE 163 fun H a => match a with
  | [.vec 1 sn sf, .lit (.int .i64 v)] => some (.lit (.int .i64 (H Int fun _ => idxF (fun y => decide (y = v)) (Tl rowI sn sf))), [H Prop fun _ => Shp rowI sn sf, H Prop fun _ => (Tl rowI sn sf).length ≤ 2000000])
  | _ => none
theorem eok_idxI : EntryOk Tryz.prog e_idxI := pureM_ok (by unfold isBody; kernel_rfl) (by
  intro a r ob e hob
  split at e
  · rename_i sn sf v
    simp only [zqt] at e
    obtain ⟨rfl, rfl⟩ := e
    exact ConN.args (.cons (.toT okI rfl hob.1) (.cons .rfl .nil)) (c_idxI (Tl rowI sn sf) v hob.2.1)
  · simp at e)
theorem c_hasI (s : List Int) (v : Int) (h0 : s.length ≤ 2000000) : ConN Tryz.prog 148 [.vec 1 (stdH Nat fun _ => (s).length) (rowsI stdH fun _ => s), .lit (.int .i64 v)] [] 0 (.lit (.bool (stdH Bool fun _ => s.any (fun y => decide (y = v))))) [] [] := by
  have hB : Base Tryz.prog (tabΓ [e_idxI]) tab := base_of tabOk (ents_cons eok_idxI <| ents_nil)
  refine con_m (N := 9) hB (draw_ok hB mixed) Tryz.func148 rfl rfl (fun H => [.vec 1 (H Nat fun _ => (s).length) (rowsI H fun _ => s), .lit (.int .i64 v)]) (fun _ => []) 0 (fun H => .lit (.bool (H Bool fun _ => s.any (fun y => decide (y = v))))) (fun H => []) (fun _ => []) 100 (by simp) (fun x hx => ?_) (by simp [lk]) (by omega) (by simp) ?_
  · simp only [zqu] at hx
    rcases hx with rfl | rfl
    · exact vl_bl okI s _
    · exact .lit
  intro X hX hX0 H hH
  conv in Fin.chk _ _ => cbv
  try simp only [zqs, Plain_rowsC, Plain_rowsY, zqx, AllP, zqw, upd, if_true]
  refine ⟨⟨?_, ?_⟩, ?_⟩
  · try simp only [hH, stdH, zqz, ne_eq, zqy]
    exact Shp_I _ _
  · try simp only [hH, stdH, zqz, ne_eq, zqy]
    simp only [Tl_I]; exact h0
  · try simp only [hH, stdH, zqz, ne_eq, zqy]
    simp only [Tl_I]; exact (idxF_ge _ _).symm
noncomputable def e_hasI : Entry := pureE 148 fun H a => match a with
  | [.vec 1 sn sf, .lit (.int .i64 v)] => some (.lit (.bool (H Bool fun _ => (Tl rowI sn sf).any (fun y => decide (y = v)))), [H Prop fun _ => Shp rowI sn sf, H Prop fun _ => (Tl rowI sn sf).length ≤ 2000000])
  | _ => none
theorem eok_hasI : EntryOk Tryz.prog e_hasI := pureM_ok (by unfold isBody; kernel_rfl) (by
  intro a r ob e hob
  split at e
  · rename_i sn sf v
    simp only [zqt] at e
    obtain ⟨rfl, rfl⟩ := e
    exact ConN.args (.cons (.toT okI rfl hob.1) (.cons .rfl .nil)) (c_hasI (Tl rowI sn sf) v hob.2.1)
  · simp at e)
theorem any_con (l : List Int) (v : Int) : (l.any fun y => decide (y = v)) = l.contains v := by
  rw [List.contains_eq_any_beq]
  congr 1
  funext y
  rw [Bool.eq_iff_iff, decide_eq_true_eq, beq_iff_eq]
  exact eq_comm
theorem c_firsts (l : List Int) (h0 : l.length ≤ 1000) : ConN Tryz.prog 98 [.vec 1 (stdH Nat fun _ => (l).length) (rowsI stdH fun _ => l)] [] 0 (.slc 0 0 1 (stdH Nat fun _ => (fstL l).length)) [.rows 1 (stdH Nat fun _ => (fstL l).length) (rowsI stdH fun _ => fstL l) 3] [] := by
  have hB : Base Tryz.prog (tabΓ [e_hasI]) tabO := base_of tabOkO (ents_cons eok_hasI <| ents_nil)
  refine con_m (N := 23) hB (draw_ok hB mixed) Tryz.func98 rfl rfl (fun H => [.vec 1 (H Nat fun _ => (l).length) (rowsI H fun _ => l)]) (fun _ => []) 0 (fun H => .slc 0 0 1 (H Nat fun _ => (fstL l).length)) (fun H => [.rows 1 (H Nat fun _ => (fstL l).length) (rowsI H fun _ => fstL l) 3]) (fun _ => []) 200 (by simp) (fun x hx => ?_) (by simp [lk]) (by omega) (by simp) ?_
  · simp only [zqu] at hx
    rcases hx with rfl
    · exact vl_bl okI l _
  intro X hX hX0 H hH
  conv in Fin.chk _ _ => cbv
  try simp only [zqs, Plain_rowsC, Plain_rowsY, zqx, AllP, zqw, upd, if_true]
  refine loop_a hB (draw_ok hB mixed) hX hX0 hH false (ι := { i : Nat // i ≤ l.length }) 200 (fun i => [.r (H Nat fun _ => (fstL (l.take i.1)).length) (rowsI H fun _ => fstL (l.take i.1)), .i (H Int fun _ => (i.1 : Nat))]) (fun i => l.length - i.1) (⟨0, by omega⟩) ?_ ?_
  · (conv in matchSt _ _ _ _ => cbv); simp only [AllG, AllP, and_true, hH, stdH, zql, ncast, zqe, zqy]
    (repeat' (with_reducible refine And.intro ?_ ?_)) <;> (first | exact True.intro | rfl | exact RowsEq.self okI | exact RowsEq.ofT okI rfl (Shp_zero _) rfl)
  · intro I hI i
    conv in Fin.chk _ _ => cbv
    try simp only [zqs, Plain_rowsC, Plain_rowsY, zqx, AllP, zqw, upd, if_true]
    obtain ⟨i, hi⟩ := i
    have hz := fstL_le (l.take i)
    have hz2 : (l.take i).length ≤ l.length := by rw [List.length_take]; omega
    refine ⟨fun h1 => ⟨?_, ⟨?_, ?_, ?_⟩, fun h2 => ⟨?_, ?_⟩, fun h2 => ?_⟩, fun h1 => ?_⟩
    · simp only [hH, stdH, zqz, ne_eq, zqy] at h1 ⊢
      omega
    · try simp only [hH, stdH, zqz, ne_eq, zqy]
      exact fun j _ => rfl
    · try simp only [hH, stdH, zqz, ne_eq, zqy]
      exact Shp_I _ _
    · try simp only [hH, stdH, zqz, ne_eq, zqy]
      rw [Tl_I]; omega
    · try simp only [hH, stdH, zqz, ne_eq, zqy]
      (repeat' (first | exact trivial | omega | refine And.intro ?_ ?_))
    · simp only [hH, stdH, zqz, ne_eq, zqy] at h1
      simp only [hH, stdH, Tl_I, Int.toNat_natCast, any_con] at h2
      have e9 := fstL_take (l := l) (i := i) (by omega)
      rw [if_neg (by simpa using h2)] at e9
      refine ⟨⟨i + 1, by omega⟩, by simp only; omega, ?_⟩
      rw [hI]
      (conv in matchSt _ _ _ _ => cbv); simp only [AllG, AllP, and_true, hH, stdH, zql, ncast, zqe, zqy]
      rw [w1 (by omega), e9]
      (repeat' (with_reducible refine And.intro ?_ ?_)) <;> (first | exact True.intro | exact Eq.refl _ | exact RowsEq.self okI | exact RowsEq.more okI (Shp_I _ _) (Tl_I _) | exact RowsEq.snoc okI rfl | exact List.length_append)
    · simp only [hH, stdH, zqz, ne_eq, zqy] at h1
      simp only [hH, stdH, Tl_I, Int.toNat_natCast, any_con] at h2
      have e9 := fstL_take (l := l) (i := i) (by omega)
      rw [if_pos (by simpa using h2)] at e9
      refine ⟨⟨i + 1, by omega⟩, by simp only; omega, ?_⟩
      rw [hI]
      (conv in matchSt _ _ _ _ => cbv); simp only [AllG, AllP, and_true, hH, stdH, zql, ncast, zqe, zqy]
      rw [w1 (by omega), e9]
      (repeat' (with_reducible refine And.intro ?_ ?_)) <;> (first | exact True.intro | exact Eq.refl _ | exact RowsEq.self okI)
    · simp only [hH, stdH, zqz, ne_eq, zqy] at h1
      obtain rfl : i = l.length := by omega
      rw [List.take_length]
      try simp only [hH, stdH, zqz, ne_eq, zqy]
      (repeat' (first | exact trivial | rfl | exact RowsEq.self okI | refine And.intro ?_ ?_))
noncomputable def e_firsts : Entry := pureN 98 fun H a => match a with
  | [.vec 1 ln lf] => some (fun nx => .slc nx 0 1 (H Nat fun _ => (fstL (Tl rowI ln lf)).length), [.rows 1 (H Nat fun _ => (fstL (Tl rowI ln lf)).length) (rowsI H fun _ => fstL (Tl rowI ln lf)) 3], [H Prop fun _ => Shp rowI ln lf, H Prop fun _ => (Tl rowI ln lf).length ≤ 1000])
  | _ => none
theorem eok_firsts : EntryOk Tryz.prog e_firsts := pureN_ok (by unfold isBody; kernel_rfl) (by
  intro a r nb ob e hob
  split at e
  · rename_i ln lf
    simp only [zqt] at e
    obtain ⟨rfl, rfl, rfl⟩ := e
    refine ⟨ConN.args (.cons (.toT okI rfl hob.1) .nil) (c_firsts (Tl rowI ln lf) hob.2.1), fun x hx => ?_, fun nx => ?_, fun b hb => ?_⟩
    · simp only [zqu] at hx
      rcases hx with rfl
      · exact (hob.1).bl okI _
    · (first | exact .slc ⟨by omega, by simp⟩ (by omega) | (refine .tup rfl (fun c x y hx hy => ?_); rcases c with _ | _ | _ | c <;> simp at hx hy <;> (subst hx; subst hy; first | exact .slc ⟨by omega, by simp⟩ (by omega) | exact .pl .lit | exact .pl (blq_ok 4 rfl) | (refine .agg rfl (fun c x y hx hy => ?_); rcases c with _ | _ | _ | c <;> simp at hx hy <;> (subst hx; subst hy; first | exact .slc ⟨by omega, by simp⟩ (by omega) | exact .pl .lit | exact .pl (blq_ok 4 rfl))))) | (refine .agg rfl (fun c x y hx hy => ?_); rcases c with _ | _ | _ | c <;> simp at hx hy <;> (subst hx; subst hy; first | exact .slc ⟨by omega, by simp⟩ (by omega) | exact .pl .lit | exact .pl (blq_ok 4 rfl))))
    · simp only [zqu] at hb; subst hb; exact bT_bl okI _ (fun _ => fstL (Tl rowI ln lf)) _
  · simp at e)
end Go.Proofs.YtmkniipdkanbbaaGreatDoor.AM

