/- Lemmas and contracts (Prs); conditions: none. -/
import Derived.Test.YtcjjffmbhionmaaGreatDoorK03
import Derived.Test.YtcjjffmbhionmaaGreatDoorK09
import Derived.Test.YtcjjffmbhionmaaGreatDoorK13
set_option linter.unusedVariables false
set_option linter.unusedSimpArgs false
set_option maxRecDepth 100000
set_option maxHeartbeats 4000000
set_option cbv.maxSteps 3000000
namespace Go.Proofs.YtcjjffmbhionmaaGreatDoor.AM
/- Texts taken apart: words of tinctures, groups; conditions: none. -/
/-! ### Words -/
/-! ### Where a word stands -/
def ixS (l : List ByteArray) (w : ByteArray) : Int := idxF (fun y => decide (y = w)) l
theorem beqC (s t : ByteArray) : (s.toList == t.toList) = decide (t = s) := by
  rw [beqT, Bool.eq_iff_iff, decide_eq_true_eq, decide_eq_true_eq]; exact eq_comm
theorem c_idxS (s : List ByteArray) (v : ByteArray) (h0 : s.length ≤ 2000000) : ConN Tryz.prog 82 [.vec 1 (stdH Nat fun _ => (s).length) (rowsS stdH fun _ => s), .lit (.string v)] [] 0 (.lit (.int .i64 (stdH Int fun _ => ixS s v))) [] [] := by
  have hB : Base Tryz.prog (tabΓ []) tab := base_of tabOk (ents_nil)
  refine con_m (N := 19) hB (draw_ok hB mixed) Tryz.func82 rfl rfl (fun H => [.vec 1 (H Nat fun _ => (s).length) (rowsS H fun _ => s), .lit (.string v)]) (fun _ => []) 0 (fun H => .lit (.int .i64 (H Int fun _ => ixS s v))) (fun H => []) (fun _ => []) 100 (by simp) (fun x hx => ?_) (by simp [lk]) (by omega) (by simp) ?_
  · simp only [zqu] at hx
    rcases hx with rfl | rfl
    · exact vl_bl okS s _
    · exact .lit
  intro X hX hX0 H hH
  conv in Fin.chk _ _ => cbv
  try simp only [zqs, Plain_rowsC, zqx, AllP, zqw, upd, if_true]
  refine loop_a hB (draw_ok hB mixed) hX hX0 hH false (ι := { i : Nat // i ≤ (s).length ∧ ∀ j, j < i → (fun y => decide (y = v)) ((s).getD j ByteArray.empty) = false }) 100 (fun i => [.i (H Int fun _ => 0), .i (H Int fun _ => (i.1 : Nat))]) (fun i => (s).length - i.1) (⟨0, by omega, by omega⟩) ?_ ?_
  · (conv in matchSt _ _ _ _ => cbv); simp only [AllG, AllP, and_true, hH, stdH, zql, ncast, zqe, zqy]
    (repeat' (first | with_reducible exact True.intro | rfl | exact Nat.le_refl _ | exact RowsEq.self okS | exact RowsEq.ofT okS rfl (Shp_zero _) rfl | exact RowsEq.snoc okS rfl | exact RowsEq.more okS (Shp_S _ _) (Tl_S _) | exact RowsEq.self okI | exact RowsEq.self okRA | exact List.length_append | refine And.intro ?_ ?_ | trivial))
  · intro I hI i
    conv in Fin.chk _ _ => cbv
    try simp only [zqs, Plain_rowsC, zqx, AllP, zqw, upd, if_true]
    obtain ⟨i, hi, hj⟩ := i
    refine ⟨fun h1 => ⟨?_, fun h2 => ?_, fun h2 => ?_⟩, fun h1 => ?_⟩
    · simp only [hH, stdH, zqz, ne_eq, zqy] at h1 ⊢
      omega
    · simp only [hH, stdH, zqz, ne_eq, zqy] at h1
      simp only [hH, stdH, Int.toNat_natCast] at h2
      have h3 : (fun y => decide (y = v)) ((s).getD i ByteArray.empty) = true := by first | exact (beqT _ _).symm.trans h2 | exact (beqC _ _).symm.trans h2
      try simp only [hH, stdH, zqz, ne_eq, zqy]
      exact idxF_at ByteArray.empty (by omega) h3 hj
    · simp only [hH, stdH, zqz, ne_eq, zqy] at h1
      simp only [hH, stdH, Int.toNat_natCast] at h2
      have h3 : (fun y => decide (y = v)) ((s).getD i ByteArray.empty) = false := by first | exact (beqT _ _).symm.trans h2 | exact (beqC _ _).symm.trans h2
      refine ⟨⟨i + 1, by omega, fun j hj' => ?_⟩, by simp only; omega, ?_⟩
      · rcases Nat.lt_succ_iff_lt_or_eq.1 hj' with h | rfl
        · exact hj j h
        · exact h3
      · rw [hI]
        (conv in matchSt _ _ _ _ => cbv); simp only [AllG, AllP, and_true, hH, stdH, zql, ncast, zqe, zqy]
        rw [w1 (by omega)]
        (repeat' (first | with_reducible exact True.intro | rfl | exact Nat.le_refl _ | exact RowsEq.self okS | exact RowsEq.ofT okS rfl (Shp_zero _) rfl | exact RowsEq.snoc okS rfl | exact RowsEq.more okS (Shp_S _ _) (Tl_S _) | exact RowsEq.self okI | exact RowsEq.self okRA | exact List.length_append | refine And.intro ?_ ?_ | trivial))
    · simp only [hH, stdH, zqz, ne_eq, zqy] at h1 ⊢
      exact idxF_no ByteArray.empty fun j hj' => hj j (by omega)
noncomputable def e_idxS : Entry := pureE 82 fun H a => match a with
  | [.vec 1 sn sf, .lit (.string v)] => some (.lit (.int .i64 (H Int fun _ => ixS (Tl rowS sn sf) v)), [H Prop fun _ => Shp rowS sn sf, H Prop fun _ => (Tl rowS sn sf).length ≤ 2000000])
  | _ => none
theorem eok_idxS : EntryOk Tryz.prog e_idxS := pureM_ok (by unfold isBody; kernel_rfl) (by
  intro a r ob e hob
  split at e
  · rename_i sn sf v
    simp only [zqt] at e
    obtain ⟨rfl, rfl⟩ := e
    exact ConN.args (.cons (.toT okS rfl hob.1) (.cons .rfl .nil)) (c_idxS (Tl rowS sn sf) v hob.2.1)
  · simp at e)
theorem c_hasS (s : List ByteArray) (v : ByteArray) (h0 : s.length ≤ 2000000) : ConN Tryz.prog 42 [.vec 1 (stdH Nat fun _ => (s).length) (rowsS stdH fun _ => s), .lit (.string v)] [] 0 (.lit (.bool (stdH Bool fun _ => s.any (fun y => decide (y = v))))) [] [] := by
  have hB : Base Tryz.prog (tabΓ [e_idxS]) tab := base_of tabOk (ents_cons eok_idxS <| ents_nil)
  refine con_m (N := 9) hB (draw_ok hB mixed) Tryz.func42 rfl rfl (fun H => [.vec 1 (H Nat fun _ => (s).length) (rowsS H fun _ => s), .lit (.string v)]) (fun _ => []) 0 (fun H => .lit (.bool (H Bool fun _ => s.any (fun y => decide (y = v))))) (fun H => []) (fun _ => []) 100 (by simp) (fun x hx => ?_) (by simp [lk]) (by omega) (by simp) ?_
  · simp only [zqu] at hx
    rcases hx with rfl | rfl
    · exact vl_bl okS s _
    · exact .lit
  intro X hX hX0 H hH
  conv in Fin.chk _ _ => cbv
  try simp only [zqs, Plain_rowsC, zqx, AllP, zqw, upd, if_true]
  refine ⟨⟨?_, ?_⟩, ?_⟩
  · try simp only [hH, stdH, zqz, ne_eq, zqy]
    exact ShpS' _ _
  · try simp only [hH, stdH, zqz, ne_eq, zqy]
    simp only [TlS']; exact h0
  · try simp only [hH, stdH, zqz, ne_eq, zqy]
    simp only [TlS']; exact (idxF_ge _ _).symm
noncomputable def e_hasS : Entry := pureE 42 fun H a => match a with
  | [.vec 1 sn sf, .lit (.string v)] => some (.lit (.bool (H Bool fun _ => (Tl rowS sn sf).any (fun y => decide (y = v)))), [H Prop fun _ => Shp rowS sn sf, H Prop fun _ => (Tl rowS sn sf).length ≤ 2000000])
  | _ => none
theorem eok_hasS : EntryOk Tryz.prog e_hasS := pureM_ok (by unfold isBody; kernel_rfl) (by
  intro a r ob e hob
  split at e
  · rename_i sn sf v
    simp only [zqt] at e
    obtain ⟨rfl, rfl⟩ := e
    exact ConN.args (.cons (.toT okS rfl hob.1) (.cons .rfl .nil)) (c_hasS (Tl rowS sn sf) v hob.2.1)
  · simp at e)
/-! ### Groups -/
end Go.Proofs.YtcjjffmbhionmaaGreatDoor.AM

