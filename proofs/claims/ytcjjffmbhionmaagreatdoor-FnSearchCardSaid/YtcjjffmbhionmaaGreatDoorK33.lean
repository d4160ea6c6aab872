/- Lemmas and contracts (Rku Rkn); conditions: none. -/
import Derived.Test.YtcjjffmbhionmaaGreatDoorK03
import Derived.Test.YtcjjffmbhionmaaGreatDoorK23
import Derived.Test.YtcjjffmbhionmaaGreatDoorK28
import Derived.Test.YtcjjffmbhionmaaGreatDoorK29
import Derived.Test.YtcjjffmbhionmaaGreatDoorK32
set_option linter.unusedVariables false
set_option linter.unusedSimpArgs false
set_option maxRecDepth 100000
set_option maxHeartbeats 4000000
set_option cbv.maxSteps 3000000
namespace Go.Proofs.YtcjjffmbhionmaaGreatDoor.AM
/- Similar grants, rare features; conditions: none. -/
theorem c_l1Least (x : Int) (z : Int)  : ConN Tryz.prog 67 [.lit (.int .i64 x), .lit (.int .i64 z)] [] 0 (.lit (.int .i64 (stdH Int fun _ => if x < z then x else z))) [] [] := by
  have hB : Base Tryz.prog (tabΓ []) tab := base_of tabOk (ents_nil)
  refine con_m (N := 10) hB (draw_ok hB mixed) Tryz.func67 rfl rfl (fun H => [.lit (.int .i64 x), .lit (.int .i64 z)]) (fun _ => []) 0 (fun H => .lit (.int .i64 (H Int fun _ => if x < z then x else z))) (fun H => []) (fun _ => []) 100 (by simp) (fun x hx => ?_) (by simp [lk]) (by omega) (by simp) ?_
  · simp only [zqu] at hx
    rcases hx with rfl | rfl
    · exact .lit
    · exact .lit
  intro X hX hX0 H hH
  conv in Fin.chk _ _ => cbv
  try simp only [zqs, Plain_rowsC, Plain_rowsD, Plain_rowsW, zqx, AllP, zqw, upd, if_true]
  subst hH
  simp only [stdH]
  refine ⟨fun h => ?_, fun h => ?_⟩
  · rw [decide_eq_true_eq] at h
    exact if_pos h
  · rw [decide_eq_false_iff_not] at h
    exact if_neg h
noncomputable def e_l1Least : Entry := pureE 67 fun H a => match a with
  | [.lit (.int .i64 x), .lit (.int .i64 z)] => some (.lit (.int .i64 (H Int fun _ => if x < z then x else z)), [])
  | _ => none
theorem eok_l1Least : EntryOk Tryz.prog e_l1Least := pureM_ok (by unfold isBody; kernel_rfl) (by
  intro a r ob e hob
  split at e
  · rename_i x z
    simp only [zqt] at e
    obtain ⟨rfl, rfl⟩ := e
    exact ConN.args (.cons .rfl (.cons .rfl .nil)) (c_l1Least x z )
  · simp at e)
theorem tk_min {α : Type} (L : List α) (n : Nat) : L.take n = L.take (min n L.length) := by
  rcases Nat.le_total n L.length with h | h
  · rw [Nat.min_eq_left h]
  · rw [Nat.min_eq_right h, List.take_of_length_le h, List.take_length]
theorem and3F {x y z : Bool} (h : (bif (bif !x then true else !y) then true else !z) = true) : (x && y && z) = false := by cases x <;> cases y <;> cases z <;> simp_all
theorem and3T {x y z : Bool} (h : (bif (bif !x then true else !y) then true else !z) = false) : (x = true ∧ y = true) ∧ z = true := by cases x <;> cases y <;> cases z <;> simp_all
theorem simS_end {L : List Int} {n : Int} (h : 0 ≤ n) : RowsEq 1 (L.take n.toNat).length (rowsI stdH fun _ => L.take n.toNat) (min n.toNat L.length) (rowsI stdH fun _ => L) := by
  rw [tk_min]
  exact preI_rows (Nat.min_le_right _ _)
theorem c_simS (r : Rgr) (a : Arm) (n : Int) (h0 : r.gs.length ≤ 8000) (h1 : Nsz r.gs) : ConN Tryz.prog 29 [aT rowJ stdH fun _ => r, aT rowA stdH fun _ => a, .lit (.int .i64 n)] [] 0 (.tup [.vec 1 (stdH Nat fun _ => (if okRg r.gs && okA a && inB n 1 12 then (rkN (ftP a) r.gs).take n.toNat else []).length) (rowsI stdH fun _ => if okRg r.gs && okA a && inB n 1 12 then (rkN (ftP a) r.gs).take n.toNat else []), .lit (.bool (stdH Bool fun _ => okRg r.gs && okA a && inB n 1 12))]) [] [] := by
  have hB : Base Tryz.prog (tabΓ [e_l16Good, e_l5Good, e_l1In, e_l17Features, e_l17Rank, e_l1Least]) tab := base_of tabOk (ents_cons eok_l16Good <| ents_cons eok_l5Good <| ents_cons eok_l1In <| ents_cons eok_l17Features <| ents_cons eok_l17Rank <| ents_cons eok_l1Least <| ents_nil)
  refine con_m (N := 37) hB (draw_ok hB mixed) Tryz.func29 rfl rfl (fun H => [aT rowJ H fun _ => r, aT rowA H fun _ => a, .lit (.int .i64 n)]) (fun _ => []) 0 (fun H => .tup [.vec 1 (H Nat fun _ => (if okRg r.gs && okA a && inB n 1 12 then (rkN (ftP a) r.gs).take n.toNat else []).length) (rowsI H fun _ => if okRg r.gs && okA a && inB n 1 12 then (rkN (ftP a) r.gs).take n.toNat else []), .lit (.bool (H Bool fun _ => okRg r.gs && okA a && inB n 1 12))]) (fun H => []) (fun _ => []) 300 (by simp) (fun x hx => ?_) (by simp [lk]) (by omega) (by simp) ?_
  · simp only [zqu] at hx
    rcases hx with rfl | rfl | rfl
    · exact aT_bl okRJ _ _
    · exact aT_bl okRA _ _
    · exact .lit
  intro X hX hX0 H hH
  conv in Fin.chk _ _ => cbv
  try simp only [zqs, Plain_rowsC, Plain_rowsD, Plain_rowsW, zqx, AllP, zqw, upd, if_true]
  simp only [hetaA hH, TlW_H hH]
  have hf := ftP_len a
  have en := rkN_len (ftP a) r.gs
  refine ⟨?_, fun h3 => ?_, fun h3 => ?_⟩
  · try simp only [hH, stdH, zqz, ne_eq, zqy]
    exact ⟨Shp_W _ _, by omega, h1⟩
  · simp only [hH, stdH, TlS'] at h3
    have e := and3F h3
    simp only [hH, stdH, e, Bool.false_eq_true, if_false]
    (repeat' (with_reducible refine And.intro ?_ ?_)) <;> (first | exact True.intro | exact Eq.refl _ | exact Nat.le_refl _ | exact RowsEq.ofT okI rfl (Shp_zero _) rfl)
  · simp only [hH, stdH, TlS'] at h3
    obtain ⟨⟨e1, e2⟩, e3⟩ := and3T h3
    have hA := okRg_okA e1
    have hl := (okRg_in e1).1
    have e : (okRg r.gs && okA a && inB n 1 12) = true := by rw [e1, e2, e3]; rfl
    have hn : 1 ≤ n ∧ n ≤ 12 := by unfold inB at e3; simpa using e3
    clear h3
    have hm : (if n < (((rkN (ftP a) r.gs).length : Nat) : Int) then n else (((rkN (ftP a) r.gs).length : Nat) : Int)) = ((min n.toNat (rkN (ftP a) r.gs).length : Nat) : Int) := by
      split <;> omega
    simp only [hH, stdH, TlS', e, if_true, hm, hiN]
    (repeat' (with_reducible refine And.intro ?_ ?_)) <;> (first | exact True.intro | exact Eq.refl _ | exact Nat.le_refl _ | exact Shp_W _ _ | exact Shp_rowsT okS _ (fun _ => _) | exact e2 | exact hA | exact okB_pre (Nat.min_le_right _ _) | exact simS_end (by omega) | (rw [offI]; exact simS_end (by omega)) | exact Nat.min_le_right _ _ | exact (simS_end (by omega)).1 | omega)
noncomputable def e_simS : Entry := pureE 29 fun H a => match a with
  | [.agg [.vec 18 r0n r0f], .agg [.lit (.int .i64 a0), .lit (.int .i64 a1), .lit (.int .i64 a2), .lit (.int .i64 a3), .lit (.int .i64 a4), .lit (.int .i64 a5), .lit (.int .i64 a6), .lit (.int .i64 a7), .lit (.int .i64 a8), .lit (.int .i64 a9), .lit (.int .i64 a10), .lit (.int .i64 a11), .lit (.int .i64 a12), .lit (.int .i64 a13), .lit (.int .i64 a14)], .lit (.int .i64 n)] => some (.tup [.vec 1 (H Nat fun _ => (if okRg (⟨(Tl rowW r0n r0f)⟩ : Rgr).gs && okA (⟨⟨a0, a1, a2, a3⟩, a4, a5, a6, ⟨a7, a8, a9, a10⟩, ⟨a11, a12, a13, a14⟩⟩ : Arm) && inB n 1 12 then (rkN (ftP (⟨⟨a0, a1, a2, a3⟩, a4, a5, a6, ⟨a7, a8, a9, a10⟩, ⟨a11, a12, a13, a14⟩⟩ : Arm)) (⟨(Tl rowW r0n r0f)⟩ : Rgr).gs).take n.toNat else []).length) (rowsI H fun _ => if okRg (⟨(Tl rowW r0n r0f)⟩ : Rgr).gs && okA (⟨⟨a0, a1, a2, a3⟩, a4, a5, a6, ⟨a7, a8, a9, a10⟩, ⟨a11, a12, a13, a14⟩⟩ : Arm) && inB n 1 12 then (rkN (ftP (⟨⟨a0, a1, a2, a3⟩, a4, a5, a6, ⟨a7, a8, a9, a10⟩, ⟨a11, a12, a13, a14⟩⟩ : Arm)) (⟨(Tl rowW r0n r0f)⟩ : Rgr).gs).take n.toNat else []), .lit (.bool (H Bool fun _ => okRg (⟨(Tl rowW r0n r0f)⟩ : Rgr).gs && okA (⟨⟨a0, a1, a2, a3⟩, a4, a5, a6, ⟨a7, a8, a9, a10⟩, ⟨a11, a12, a13, a14⟩⟩ : Arm) && inB n 1 12))], [H Prop fun _ => Shp rowW r0n r0f, H Prop fun _ => (⟨(Tl rowW r0n r0f)⟩ : Rgr).gs.length ≤ 8000, H Prop fun _ => Nsz (⟨(Tl rowW r0n r0f)⟩ : Rgr).gs])
  | _ => none
theorem eok_simS : EntryOk Tryz.prog e_simS := pureM_ok (by unfold isBody; kernel_rfl) (by
  intro a r ob e hob
  split at e
  · rename_i r0n r0f a0 a1 a2 a3 a4 a5 a6 a7 a8 a9 a10 a11 a12 a13 a14 n
    simp only [zqt] at e
    obtain ⟨rfl, rfl⟩ := e
    exact ConN.args (.cons (.agg (.cons (.toT okRW rfl hob.1) .nil)) (.cons .rfl (.cons .rfl .nil))) (c_simS (⟨(Tl rowW r0n r0f)⟩ : Rgr) (⟨⟨a0, a1, a2, a3⟩, a4, a5, a6, ⟨a7, a8, a9, a10⟩, ⟨a11, a12, a13, a14⟩⟩ : Arm) n hob.2.1 hob.2.2.1)
  · simp at e)
theorem c_simI (r : Rgr) (a : Arm) (n : Int) (h0 : r.gs.length ≤ 2000000) (h1 : Nsz r.gs) : ConN Tryz.prog 28 [aT rowJ stdH fun _ => r, aT rowA stdH fun _ => a, .lit (.int .i64 n)] [] 0 (.tup [.vec 1 (stdH Nat fun _ => (if okRg r.gs && okA a && inB n 1 12 then (rkN (ftP a) r.gs).take n.toNat else []).length) (rowsI stdH fun _ => if okRg r.gs && okA a && inB n 1 12 then (rkN (ftP a) r.gs).take n.toNat else []), .lit (.bool (stdH Bool fun _ => okRg r.gs && okA a && inB n 1 12))]) [] [] := by
  have hB : Base Tryz.prog (tabΓ [e_validR, e_IsValidArms, e_inside, e_featuresA, e_rankB]) tab := base_of tabOk (ents_cons eok_validR <| ents_cons eok_IsValidArms <| ents_cons eok_inside <| ents_cons eok_featuresA <| ents_cons eok_rankB <| ents_nil)
  refine con_m (N := 38) hB (draw_ok hB mixed) Tryz.func28 rfl rfl (fun H => [aT rowJ H fun _ => r, aT rowA H fun _ => a, .lit (.int .i64 n)]) (fun _ => []) 0 (fun H => .tup [.vec 1 (H Nat fun _ => (if okRg r.gs && okA a && inB n 1 12 then (rkN (ftP a) r.gs).take n.toNat else []).length) (rowsI H fun _ => if okRg r.gs && okA a && inB n 1 12 then (rkN (ftP a) r.gs).take n.toNat else []), .lit (.bool (H Bool fun _ => okRg r.gs && okA a && inB n 1 12))]) (fun H => []) (fun _ => []) 300 (by simp) (fun x hx => ?_) (by simp [lk]) (by omega) (by simp) ?_
  · simp only [zqu] at hx
    rcases hx with rfl | rfl | rfl
    · exact aT_bl okRJ _ _
    · exact aT_bl okRA _ _
    · exact .lit
  intro X hX hX0 H hH
  conv in Fin.chk _ _ => cbv
  try simp only [zqs, Plain_rowsC, Plain_rowsD, Plain_rowsW, zqx, AllP, zqw, upd, if_true]
  simp only [hetaA hH, TlW_H hH]
  have hf := ftP_len a
  have en := rkN_len (ftP a) r.gs
  refine ⟨?_, fun h3 => ?_, fun h3 => ?_⟩
  · try simp only [hH, stdH, zqz, ne_eq, zqy]
    exact ⟨Shp_W _ _, by omega, h1⟩
  · simp only [hH, stdH, TlS'] at h3
    have e := and3F h3
    simp only [hH, stdH, e, Bool.false_eq_true, if_false]
    (repeat' (with_reducible refine And.intro ?_ ?_)) <;> (first | exact True.intro | exact Eq.refl _ | exact Nat.le_refl _ | exact RowsEq.ofT okI rfl (Shp_zero _) rfl)
  · simp only [hH, stdH, TlS'] at h3
    obtain ⟨⟨e1, e2⟩, e3⟩ := and3T h3
    have hA := okRg_okA e1
    have hl := (okRg_in e1).1
    have e : (okRg r.gs && okA a && inB n 1 12) = true := by rw [e1, e2, e3]; rfl
    have hn : 1 ≤ n ∧ n ≤ 12 := by unfold inB at e3; simpa using e3
    clear h3
    have hm : (if (((rkN (ftP a) r.gs).length : Nat) : Int) < n then (((rkN (ftP a) r.gs).length : Nat) : Int) else n) = ((min n.toNat (rkN (ftP a) r.gs).length : Nat) : Int) := by
      split <;> omega
    simp only [hH, stdH, TlS', e, if_true, hm, hiN]
    (repeat' (with_reducible refine And.intro ?_ ?_)) <;> (first | exact True.intro | exact Eq.refl _ | exact Nat.le_refl _ | exact Shp_W _ _ | exact Shp_rowsT okS _ (fun _ => _) | exact e2 | exact hA | exact okB_pre (Nat.min_le_right _ _) | exact simS_end (by omega) | (rw [offI]; exact simS_end (by omega)) | exact Nat.min_le_right _ _ | exact (simS_end (by omega)).1 | omega)
noncomputable def e_simI : Entry := pureE 28 fun H a => match a with
  | [.agg [.vec 18 r0n r0f], .agg [.lit (.int .i64 a0), .lit (.int .i64 a1), .lit (.int .i64 a2), .lit (.int .i64 a3), .lit (.int .i64 a4), .lit (.int .i64 a5), .lit (.int .i64 a6), .lit (.int .i64 a7), .lit (.int .i64 a8), .lit (.int .i64 a9), .lit (.int .i64 a10), .lit (.int .i64 a11), .lit (.int .i64 a12), .lit (.int .i64 a13), .lit (.int .i64 a14)], .lit (.int .i64 n)] => some (.tup [.vec 1 (H Nat fun _ => (if okRg (⟨(Tl rowW r0n r0f)⟩ : Rgr).gs && okA (⟨⟨a0, a1, a2, a3⟩, a4, a5, a6, ⟨a7, a8, a9, a10⟩, ⟨a11, a12, a13, a14⟩⟩ : Arm) && inB n 1 12 then (rkN (ftP (⟨⟨a0, a1, a2, a3⟩, a4, a5, a6, ⟨a7, a8, a9, a10⟩, ⟨a11, a12, a13, a14⟩⟩ : Arm)) (⟨(Tl rowW r0n r0f)⟩ : Rgr).gs).take n.toNat else []).length) (rowsI H fun _ => if okRg (⟨(Tl rowW r0n r0f)⟩ : Rgr).gs && okA (⟨⟨a0, a1, a2, a3⟩, a4, a5, a6, ⟨a7, a8, a9, a10⟩, ⟨a11, a12, a13, a14⟩⟩ : Arm) && inB n 1 12 then (rkN (ftP (⟨⟨a0, a1, a2, a3⟩, a4, a5, a6, ⟨a7, a8, a9, a10⟩, ⟨a11, a12, a13, a14⟩⟩ : Arm)) (⟨(Tl rowW r0n r0f)⟩ : Rgr).gs).take n.toNat else []), .lit (.bool (H Bool fun _ => okRg (⟨(Tl rowW r0n r0f)⟩ : Rgr).gs && okA (⟨⟨a0, a1, a2, a3⟩, a4, a5, a6, ⟨a7, a8, a9, a10⟩, ⟨a11, a12, a13, a14⟩⟩ : Arm) && inB n 1 12))], [H Prop fun _ => Shp rowW r0n r0f, H Prop fun _ => (⟨(Tl rowW r0n r0f)⟩ : Rgr).gs.length ≤ 2000000, H Prop fun _ => Nsz (⟨(Tl rowW r0n r0f)⟩ : Rgr).gs])
  | _ => none
theorem eok_simI : EntryOk Tryz.prog e_simI := pureM_ok (by unfold isBody; kernel_rfl) (by
  intro a r ob e hob
  split at e
  · rename_i r0n r0f a0 a1 a2 a3 a4 a5 a6 a7 a8 a9 a10 a11 a12 a13 a14 n
    simp only [zqt] at e
    obtain ⟨rfl, rfl⟩ := e
    exact ConN.args (.cons (.agg (.cons (.toT okRW rfl hob.1) .nil)) (.cons .rfl (.cons .rfl .nil))) (c_simI (⟨(Tl rowW r0n r0f)⟩ : Rgr) (⟨⟨a0, a1, a2, a3⟩, a4, a5, a6, ⟨a7, a8, a9, a10⟩, ⟨a11, a12, a13, a14⟩⟩ : Arm) n hob.2.1 hob.2.2.1)
  · simp at e)

end Go.Proofs.YtcjjffmbhionmaaGreatDoor.AM

set_option maxRecDepth 100000
set_option maxHeartbeats 4000000
set_option cbv.maxSteps 3000000
namespace Go.Proofs.YtcjjffmbhionmaaGreatDoor.AM
/- What arms lack, and rare features, by the program; conditions: none. -/
theorem misF_hasL (a : Arm) (f : List ByteArray) : f.filter (fun s => !hasL (ftP a) s) = misF a f := rfl
theorem c_missZ (a : Arm) (f : List ByteArray) (h0 : f.length ≤ 100000) (h1 : f.length = 0) : ConN Tryz.prog 25 [aT rowA stdH fun _ => a, .vec 1 (stdH Nat fun _ => (f).length) (rowsS stdH fun _ => f)] [] 0 (.tup [.vec 1 (stdH Nat fun _ => (if okA a && okFl f then misF a f else []).length) (rowsS stdH fun _ => if okA a && okFl f then misF a f else []), .lit (.bool (stdH Bool fun _ => okA a && okFl f))]) [] [] := by
  have hB : Base Tryz.prog (tabΓ [e_IsValidArms, e_areF, e_featuresA, e_cloneZ, e_delZ]) tab := base_of tabOk (ents_cons eok_IsValidArms <| ents_cons eok_areF <| ents_cons eok_featuresA <| ents_cons eok_cloneZ <| ents_cons eok_delZ <| ents_nil)
  refine con_m (N := 21) hB (draw_ok hB mixed) Tryz.func25 rfl rfl (fun H => [aT rowA H fun _ => a, .vec 1 (H Nat fun _ => (f).length) (rowsS H fun _ => f)]) (fun _ => []) 0 (fun H => .tup [.vec 1 (H Nat fun _ => (if okA a && okFl f then misF a f else []).length) (rowsS H fun _ => if okA a && okFl f then misF a f else []), .lit (.bool (H Bool fun _ => okA a && okFl f))]) (fun H => []) (fun _ => []) 300 (by simp) (fun x hx => ?_) (by simp [lk]) (by omega) (by simp) ?_
  · simp only [zqu] at hx
    rcases hx with rfl | rfl
    · exact aT_bl okRA _ _
    · exact vl_bl okS f _
  intro X hX hX0 H hH
  conv in Fin.chk _ _ => cbv
  try simp only [zqs, Plain_rowsC, Plain_rowsD, Plain_rowsW, zqx, AllP, zqw, upd, if_true]
  simp only [hetaA hH]
  have hf := ftP_len a
  refine ⟨⟨?_, ?_⟩, fun h3 => ?_, fun h3 => ?_⟩
  · try simp only [hH, stdH, zqz, ne_eq, zqy]
    exact fun _ => Shp_rowsT okS _ (fun _ => _)
  · simp only [hH, stdH, TlS']
    exact fun _ => h0
  · simp only [hH, stdH, TlS'] at h3
    have e := andF h3
    simp only [hH, stdH, e, Bool.false_eq_true, if_false]
    (repeat' (with_reducible refine And.intro ?_ ?_)) <;> (first | exact True.intro | exact Eq.refl _ | exact Nat.le_refl _ | exact RowsEq.ofT okS rfl (Shp_zero _) rfl)
  · simp only [hH, stdH, TlS'] at h3
    obtain ⟨e1, e2⟩ := andT h3
    have e : (okA a && okFl f) = true := by rw [e1, e2]; rfl
    have el : f.length = 0 → misF a f = f := fun h => by rw [List.eq_nil_of_length_eq_zero h]; rfl
    clear h3
    simp only [hH, stdH, TlS', e, if_true, misF_hasL]
    (repeat' (with_reducible refine And.intro ?_ ?_)) <;> (first | exact True.intro | exact Eq.refl _ | exact Nat.le_refl _ | exact Shp_rowsT okS _ (fun _ => _) | exact e1 | exact h1 | exact RowsEq.self okS | (rw [el h1]; exact RowsEq.self okS) | (rw [el h1]; done) | exact h0 | omega)
theorem c_missP (a : Arm) (f : List ByteArray) (h0 : f.length ≤ 100000) (h1 : 0 < f.length) : ConN Tryz.prog 25 [aT rowA stdH fun _ => a, .vec 1 (stdH Nat fun _ => (f).length) (rowsS stdH fun _ => f)] [] 0 (.tup [.vec 1 (stdH Nat fun _ => (if okA a && okFl f then misF a f else []).length) (rowsS stdH fun _ => if okA a && okFl f then misF a f else []), .lit (.bool (stdH Bool fun _ => okA a && okFl f))]) [] [] := by
  have hB : Base Tryz.prog (tabΓ [e_IsValidArms, e_areF, e_featuresA, e_cloneP, e_delF]) tab := base_of tabOk (ents_cons eok_IsValidArms <| ents_cons eok_areF <| ents_cons eok_featuresA <| ents_cons eok_cloneP <| ents_cons eok_delF <| ents_nil)
  refine con_m (N := 21) hB (draw_ok hB mixed) Tryz.func25 rfl rfl (fun H => [aT rowA H fun _ => a, .vec 1 (H Nat fun _ => (f).length) (rowsS H fun _ => f)]) (fun _ => []) 0 (fun H => .tup [.vec 1 (H Nat fun _ => (if okA a && okFl f then misF a f else []).length) (rowsS H fun _ => if okA a && okFl f then misF a f else []), .lit (.bool (H Bool fun _ => okA a && okFl f))]) (fun H => []) (fun _ => []) 300 (by simp) (fun x hx => ?_) (by simp [lk]) (by omega) (by simp) ?_
  · simp only [zqu] at hx
    rcases hx with rfl | rfl
    · exact aT_bl okRA _ _
    · exact vl_bl okS f _
  intro X hX hX0 H hH
  conv in Fin.chk _ _ => cbv
  try simp only [zqs, Plain_rowsC, Plain_rowsD, Plain_rowsW, zqx, AllP, zqw, upd, if_true]
  simp only [hetaA hH]
  have hf := ftP_len a
  refine ⟨⟨?_, ?_⟩, fun h3 => ?_, fun h3 => ?_⟩
  · try simp only [hH, stdH, zqz, ne_eq, zqy]
    exact fun _ => Shp_rowsT okS _ (fun _ => _)
  · simp only [hH, stdH, TlS']
    exact fun _ => h0
  · simp only [hH, stdH, TlS'] at h3
    have e := andF h3
    simp only [hH, stdH, e, Bool.false_eq_true, if_false]
    (repeat' (with_reducible refine And.intro ?_ ?_)) <;> (first | exact True.intro | exact Eq.refl _ | exact Nat.le_refl _ | exact RowsEq.ofT okS rfl (Shp_zero _) rfl)
  · simp only [hH, stdH, TlS'] at h3
    obtain ⟨e1, e2⟩ := andT h3
    have e : (okA a && okFl f) = true := by rw [e1, e2]; rfl
    have el : f.length = 0 → misF a f = f := fun h => by rw [List.eq_nil_of_length_eq_zero h]; rfl
    clear h3
    simp only [hH, stdH, TlS', e, if_true, misF_hasL]
    (repeat' (with_reducible refine And.intro ?_ ?_)) <;> (first | exact True.intro | exact Eq.refl _ | exact Nat.le_refl _ | exact Shp_rowsT okS _ (fun _ => _) | exact e1 | exact h1 | exact RowsEq.self okS | (rw [el h1]; exact RowsEq.self okS) | (rw [el h1]; done) | exact h0 | omega)
theorem c_missI (a : Arm) (f : List ByteArray) (h0 : f.length ≤ 100000) : ConN Tryz.prog 25 [aT rowA stdH fun _ => a, .vec 1 (stdH Nat fun _ => (f).length) (rowsS stdH fun _ => f)] [] 0 (.tup [.vec 1 (stdH Nat fun _ => (if okA a && okFl f then misF a f else []).length) (rowsS stdH fun _ => if okA a && okFl f then misF a f else []), .lit (.bool (stdH Bool fun _ => okA a && okFl f))]) [] [] := by
  rcases Nat.eq_zero_or_pos f.length with h | h
  · exact c_missZ a f h0 h
  · exact c_missP a f h0 h
noncomputable def e_missI : Entry := pureE 25 fun H a => match a with
  | [.agg [.lit (.int .i64 a0), .lit (.int .i64 a1), .lit (.int .i64 a2), .lit (.int .i64 a3), .lit (.int .i64 a4), .lit (.int .i64 a5), .lit (.int .i64 a6), .lit (.int .i64 a7), .lit (.int .i64 a8), .lit (.int .i64 a9), .lit (.int .i64 a10), .lit (.int .i64 a11), .lit (.int .i64 a12), .lit (.int .i64 a13), .lit (.int .i64 a14)], .vec 1 fn ff] => some (.tup [.vec 1 (H Nat fun _ => (if okA (⟨⟨a0, a1, a2, a3⟩, a4, a5, a6, ⟨a7, a8, a9, a10⟩, ⟨a11, a12, a13, a14⟩⟩ : Arm) && okFl (Tl rowS fn ff) then misF (⟨⟨a0, a1, a2, a3⟩, a4, a5, a6, ⟨a7, a8, a9, a10⟩, ⟨a11, a12, a13, a14⟩⟩ : Arm) (Tl rowS fn ff) else []).length) (rowsS H fun _ => if okA (⟨⟨a0, a1, a2, a3⟩, a4, a5, a6, ⟨a7, a8, a9, a10⟩, ⟨a11, a12, a13, a14⟩⟩ : Arm) && okFl (Tl rowS fn ff) then misF (⟨⟨a0, a1, a2, a3⟩, a4, a5, a6, ⟨a7, a8, a9, a10⟩, ⟨a11, a12, a13, a14⟩⟩ : Arm) (Tl rowS fn ff) else []), .lit (.bool (H Bool fun _ => okA (⟨⟨a0, a1, a2, a3⟩, a4, a5, a6, ⟨a7, a8, a9, a10⟩, ⟨a11, a12, a13, a14⟩⟩ : Arm) && okFl (Tl rowS fn ff)))], [H Prop fun _ => Shp rowS fn ff, H Prop fun _ => (Tl rowS fn ff).length ≤ 100000])
  | _ => none
theorem eok_missI : EntryOk Tryz.prog e_missI := pureM_ok (by unfold isBody; kernel_rfl) (by
  intro a r ob e hob
  split at e
  · rename_i a0 a1 a2 a3 a4 a5 a6 a7 a8 a9 a10 a11 a12 a13 a14 fn ff
    simp only [zqt] at e
    obtain ⟨rfl, rfl⟩ := e
    exact ConN.args (.cons .rfl (.cons (.toT okS rfl hob.1) .nil)) (c_missI (⟨⟨a0, a1, a2, a3⟩, a4, a5, a6, ⟨a7, a8, a9, a10⟩, ⟨a11, a12, a13, a14⟩⟩ : Arm) (Tl rowS fn ff) hob.2.1)
  · simp at e)

end Go.Proofs.YtcjjffmbhionmaaGreatDoor.AM

