/- Lemmas and contracts (Stt); conditions: none. -/
import Derived.Test.YtmkniipdkanbbaaGreatDoorK04
import Derived.Test.YtmkniipdkanbbaaGreatDoorK31
import Derived.Test.YtmkniipdkanbbaaGreatDoorK32
set_option linter.unusedVariables false
set_option linter.unusedSimpArgs false
set_option maxRecDepth 100000
set_option maxHeartbeats 4000000
set_option cbv.maxSteps 3000000
namespace Go.Proofs.YtmkniipdkanbbaaGreatDoor.AM
/- What slots stand for, by the reference; conditions: none. -/
theorem TlI_HK {H : Hold} (hH : H = stdH) (L : List Int) : Tl rowI (H Nat fun _ => L.length) (rowsI H fun _ => L) = L := by subst hH; exact Tl_I L
theorem cntS3 (a : Arm) : cntP a ≤ 3 := by unfold cntP i2 i1; split <;> split <;> split <;> omega
theorem tw_range {g : Nat → Bool} {n i : Nat} (hi : i ≤ n) (h : ∀ j, j < i → g j = true) (h2 : i = n ∨ g i = false) : (List.range n).takeWhile g = List.range i := by
  obtain ⟨m, rfl⟩ : ∃ m, n = i + m := ⟨n - i, by omega⟩
  rw [List.range_add, List.takeWhile_append_of_pos (fun j hj => h j (List.mem_range.1 hj))]
  have : ((List.range m).map (i + ·)).takeWhile g = [] := by
    cases m with
    | zero => rfl
    | succ m =>
      rw [List.range_succ_eq_map, List.map_cons, List.takeWhile_cons_of_neg]
      rw [Nat.add_zero]
      rcases h2 with h2 | h2
      · omega
      · rw [h2]; simp
  rw [this, List.append_nil]
def stO (f : Fld) (S : List Slo) : List Int := ((List.range S.length).takeWhile (gI f S)).map (tI f S)
theorem stO_at {f : Fld} {S : List Slo} {i : Nat} (hi : i ≤ S.length) (h : ∀ j, j < i → gI f S j = true) (h2 : i = S.length ∨ gI f S i = false) : stO f S = (List.range i).map (tI f S) := by
  unfold stO; rw [tw_range hi h h2]
theorem stt_g {f : Fld} {S : List Slo} {i : Nat} (h : ((S.getD i default).m = 2 ∧ ¬ f.d = 0) ∨ ((S.getD i default).m = 3 ∧ ((fstL (mI f S i)).length : Int) < (S.getD i default).n)) : gI f S i = false := by
  unfold gI gVm
  rcases h with ⟨h1, h2⟩ | ⟨h1, h2⟩
  · rw [if_pos h1]; exact decide_eq_false h2
  · rw [if_neg (by omega), if_pos h1]; exact decide_eq_false (by omega)
theorem st_app {L : List Int} {v : Int} : RowsEq 1 (L ++ [v]).length (rowsI stdH fun _ => L ++ [v]) (L.length + 1) (app L.length (rowsI stdH fun _ => L) (rowsN .i64 stdH fun _ => [v])) :=
  RowsEq.more okI (Shp_I _ _) (Tl_I [v])
theorem RowsEq.putT {α : Type} {D : RowD α} (ok : RowOk D) {L : List α} {j : Nat} {x : α} {M : List α} (e : L.set j x = M) : RowsEq D.k M.length (rowsT D stdH fun _ => M) L.length (put1 j (D.cells stdH fun _ => x) (rowsT D stdH fun _ => L)) :=
  .ofT ok rfl (Shp_put1 (Shp_rowsT ok _ _) (by rw [ok.of_cells])) (by rw [Tl_put1, Tl_rowsT ok, ok.of_cells, e])
theorem st_nx {p : Nat → Bool} {n s j : Nat} {l : List Int} {v : Int} (hp : p (n - 2 - s) = true) (hj : j = n - 2 - s) (hv : v = (nxD p n l s).getD (n - 2 - s + 1) 0) : RowsEq 1 (nxD p n l (s + 1)).length (rowsI stdH fun _ => nxD p n l (s + 1)) (nxD p n l s).length (put1 j [AV.lit (.int .i64 v)] (rowsI stdH fun _ => nxD p n l s)) := by
  subst hj; subst hv
  exact RowsEq.putT okI (if_pos hp).symm
theorem st_nn {p : Nat → Bool} {n s : Nat} {l : List Int} (hp : p (n - 2 - s) = false) : nxD p n l (s + 1) = nxD p n l s := if_neg (by rw [hp]; simp)
theorem st_app0 {L : List Int} : RowsEq 1 (L ++ [0]).length (rowsI stdH fun _ => L ++ [0]) (L.length + 1) (app L.length (rowsI stdH fun _ => L) (rowsOf 1 [.lit (.int .i64 0)])) := RowsEq.snoc okI rfl
theorem c_ownQS (l : List Int) (h0 : l.length ≤ 100000) : ConN Tryz.prog 152 [.vec 1 (stdH Nat fun _ => (l).length) (rowsI stdH fun _ => l)] [] 0 (.slc 0 0 1 (stdH Nat fun _ => (l).length)) [.rows 1 (stdH Nat fun _ => (l).length) (rowsI stdH fun _ => l) 3] [] := by
  have hB : Base Tryz.prog (tabΓ []) tabO := base_of tabOkO (ents_nil)
  refine con_m (N := 6) hB (draw_ok hB mixed) Tryz.func152 rfl rfl (fun H => [.vec 1 (H Nat fun _ => (l).length) (rowsI H fun _ => l)]) (fun _ => []) 0 (fun H => .slc 0 0 1 (H Nat fun _ => (l).length)) (fun H => [.rows 1 (H Nat fun _ => (l).length) (rowsI H fun _ => l) 3]) (fun _ => []) 100 (by simp) (fun x hx => ?_) (by simp [lk]) (by omega) (by simp) ?_
  · simp only [zqu] at hx
    rcases hx with rfl
    · exact vl_bl okI l _
  intro X hX hX0 H hH
  conv in Fin.chk _ _ => cbv
  try simp only [zqs, Plain_rowsC, Plain_rowsY, zqx, AllP, zqw, upd, if_true]
  refine ⟨⟨?_, ?_⟩, ?_, ?_⟩
  · try simp only [hH, stdH, zqz, ne_eq, zqy]
  · try simp only [hH, stdH, zqz, ne_eq, zqy]
    omega
  · try simp only [hH, stdH, zqz, ne_eq, zqy]
    exact ⟨rfl, fun j hj => ⟨rfl, rfl, fun x hx => rows_blx okI _ j x hx⟩⟩
  · try simp only [hH, stdH, zqz, ne_eq, zqy]
noncomputable def e_ownQS : Entry := pureN 152 fun H a => match a with
  | [.vec 1 ln lf] => some (fun nx => .slc nx 0 1 (H Nat fun _ => ((Tl rowI ln lf)).length), [.rows 1 (H Nat fun _ => ((Tl rowI ln lf)).length) (rowsI H fun _ => (Tl rowI ln lf)) 3], [H Prop fun _ => Shp rowI ln lf, H Prop fun _ => (Tl rowI ln lf).length ≤ 100000])
  | _ => none
theorem eok_ownQS : EntryOk Tryz.prog e_ownQS := pureN_ok (by unfold isBody; kernel_rfl) (by
  intro a r nb ob e hob
  split at e
  · rename_i ln lf
    simp only [zqt] at e
    obtain ⟨rfl, rfl, rfl⟩ := e
    refine ⟨ConN.args (.cons (.toT okI rfl hob.1) .nil) (c_ownQS (Tl rowI ln lf) hob.2.1), fun x hx => ?_, fun nx => ?_, fun b hb => ?_⟩
    · simp only [zqu] at hx
      rcases hx with rfl
      · exact (hob.1).bl okI _
    · (first | exact .slc ⟨by omega, by simp⟩ (by omega) | (refine .tup rfl (fun c x y hx hy => ?_); rcases c with _ | _ | _ | c <;> simp at hx hy <;> (subst hx; subst hy; first | exact .slc ⟨by omega, by simp⟩ (by omega) | exact .pl .lit | exact .pl (blq_ok 4 rfl) | (refine .agg rfl (fun c x y hx hy => ?_); rcases c with _ | _ | _ | c <;> simp at hx hy <;> (subst hx; subst hy; first | exact .slc ⟨by omega, by simp⟩ (by omega) | exact .pl .lit | exact .pl (blq_ok 4 rfl))))) | (refine .agg rfl (fun c x y hx hy => ?_); rcases c with _ | _ | _ | c <;> simp at hx hy <;> (subst hx; subst hy; first | exact .slc ⟨by omega, by simp⟩ (by omega) | exact .pl .lit | exact .pl (blq_ok 4 rfl))))
    · simp only [zqu] at hb; subst hb; exact bT_bl okI _ (fun _ => (Tl rowI ln lf)) _
  · simp at e)
theorem c_nextS (list : List Int) (h0 : list.length ≤ 1000) : ConN Tryz.prog 106 [.vec 1 (stdH Nat fun _ => (list).length) (rowsI stdH fun _ => list)] [] 0 (.slc 0 0 1 (stdH Nat fun _ => (nxD (fun i => decide (list.getD i 0 = 0)) list.length list (list.length - 1)).length)) [.rows 1 (stdH Nat fun _ => (nxD (fun i => decide (list.getD i 0 = 0)) list.length list (list.length - 1)).length) (rowsI stdH fun _ => nxD (fun i => decide (list.getD i 0 = 0)) list.length list (list.length - 1)) 3] [] := by
  have hB : Base Tryz.prog (tabΓ [e_ownQS]) tabO := base_of tabOkO (ents_cons eok_ownQS <| ents_nil)
  refine con_m (N := 28) hB (draw_ok hB mixed) Tryz.func106 rfl rfl (fun H => [.vec 1 (H Nat fun _ => (list).length) (rowsI H fun _ => list)]) (fun _ => []) 0 (fun H => .slc 0 0 1 (H Nat fun _ => (nxD (fun i => decide (list.getD i 0 = 0)) list.length list (list.length - 1)).length)) (fun H => [.rows 1 (H Nat fun _ => (nxD (fun i => decide (list.getD i 0 = 0)) list.length list (list.length - 1)).length) (rowsI H fun _ => nxD (fun i => decide (list.getD i 0 = 0)) list.length list (list.length - 1)) 3]) (fun _ => []) 200 (by simp) (fun x hx => ?_) (by simp [lk]) (by omega) (by simp) ?_
  · simp only [zqu] at hx
    rcases hx with rfl
    · exact vl_bl okI list _
  intro X hX hX0 H hH
  conv in Fin.chk _ _ => cbv
  try simp only [zqs, Plain_rowsC, Plain_rowsY, zqx, AllP, zqw, upd, if_true]
  refine ⟨⟨?_, ?_⟩, ?_⟩
  · try simp only [hH, stdH, zqz, ne_eq, zqy]
    exact Shp_I _ _
  · try simp only [hH, stdH, zqz, ne_eq, zqy]
    simp only [Tl_I]; omega
  simp only [TlI_HK hH]
  refine loop_a hB (draw_ok hB mixed) hX hX0 hH false (ι := { s : Nat // s ≤ list.length - 1 }) 200 (fun s => [.r (H Nat fun _ => (nxD (fun i => decide (list.getD i 0 = 0)) list.length list s.1).length) (rowsI H fun _ => nxD (fun i => decide (list.getD i 0 = 0)) list.length list s.1), .i (H Int fun _ => (list.length : Int) - 2 - (s.1 : Nat))]) (fun s => list.length - 1 - s.1) (⟨0, by omega⟩) ?_ ?_
  · (conv in matchSt _ _ _ _ => cbv); simp only [AllG, AllP, and_true, hH, stdH, zql, ncast, zqe, zqy]
    (repeat' (with_reducible refine And.intro ?_ ?_)) <;> (first | exact True.intro | exact RowsEq.self okI | (rw [wi (by omega) (by omega)]; omega))
  · intro I hI i
    conv in Fin.chk _ _ => cbv
    try simp only [zqs, Plain_rowsC, Plain_rowsY, zqx, AllP, zqw, upd, if_true]
    obtain ⟨s, hs⟩ := i
    have nl : (nxD (fun i => decide (list.getD i 0 = 0)) list.length list s).length = list.length := nxD_len
    (repeat' (with_reducible first | refine And.intro ?_ ?_ | intro hh))
    all_goals try (clear hI hX hX0 hB I X; subst hH; simp only [stdH, Tl_I, zqk, zqf, zqh, ne_eq, zqa, zqb] at *; (repeat' refine And.intro ?_ ?_) <;> first | exact trivial | omega | exact rfl | (rw [wi (by omega) (by omega)]; omega))
    · rename_i h1
      simp only [hH, stdH, Int.toNat_natCast, beq_iff_eq, decide_eq_true_eq] at h1 hh
      have ej : ((list.length : Int) - 2 - (s : Nat)).toNat = list.length - 2 - s := by omega
      have ew : (IntKind.i64.wrap ((list.length : Int) - 2 - (s : Nat) + 1)).toNat = list.length - 2 - s + 1 := by rw [wi (by omega) (by omega)]; omega
      have ex : IntKind.i64.wrap ((list.length : Int) - 2 - (s : Nat) - 1) = (list.length : Int) - 2 - ((s + 1 : Nat) : Int) := by rw [wi (by omega) (by omega)]; omega
      rw [ej, nxD_old (by omega) (by omega)] at hh
      refine ⟨⟨s + 1, by omega⟩, by simp only; omega, ?_⟩
      rw [hI]
      (conv in matchSt _ _ _ _ => cbv); simp only [AllG, AllP, and_true, hH, stdH, zql, ncast, zqe, zqy]
      rw [ej, ew, ex]
      (repeat' (with_reducible refine And.intro ?_ ?_)) <;> (first | exact True.intro | exact Eq.refl _ | exact RowsEq.self okI | exact st_nx (decide_eq_true hh) rfl rfl)
    · rename_i h1
      simp only [hH, stdH, Int.toNat_natCast, beq_eq_false_iff_ne, ne_eq, decide_eq_true_eq] at h1 hh
      have ej : ((list.length : Int) - 2 - (s : Nat)).toNat = list.length - 2 - s := by omega
      have ex : IntKind.i64.wrap ((list.length : Int) - 2 - (s : Nat) - 1) = (list.length : Int) - 2 - ((s + 1 : Nat) : Int) := by rw [wi (by omega) (by omega)]; omega
      rw [ej, nxD_old (by omega) (by omega)] at hh
      refine ⟨⟨s + 1, by omega⟩, by simp only; omega, ?_⟩
      rw [hI]
      (conv in matchSt _ _ _ _ => cbv); simp only [AllG, AllP, and_true, hH, stdH, zql, ncast, zqe, zqy]
      rw [ex, st_nn (decide_eq_false hh)]
      (repeat' (with_reducible refine And.intro ?_ ?_)) <;> (first | exact True.intro | exact Eq.refl _ | exact RowsEq.self okI)
    · simp only [hH, stdH, decide_eq_false_iff_not] at hh ⊢
      have es : s = list.length - 1 := by omega
      rw [es]
      exact RowsEq.self okI
    · simp only [hH, stdH]
      exact nxD_len
noncomputable def e_nextS : Entry := pureN 106 fun H a => match a with
  | [.vec 1 listn listf] => some (fun nx => .slc nx 0 1 (H Nat fun _ => (nxD (fun i => decide ((Tl rowI listn listf).getD i 0 = 0)) (Tl rowI listn listf).length (Tl rowI listn listf) ((Tl rowI listn listf).length - 1)).length), [.rows 1 (H Nat fun _ => (nxD (fun i => decide ((Tl rowI listn listf).getD i 0 = 0)) (Tl rowI listn listf).length (Tl rowI listn listf) ((Tl rowI listn listf).length - 1)).length) (rowsI H fun _ => nxD (fun i => decide ((Tl rowI listn listf).getD i 0 = 0)) (Tl rowI listn listf).length (Tl rowI listn listf) ((Tl rowI listn listf).length - 1)) 3], [H Prop fun _ => Shp rowI listn listf, H Prop fun _ => (Tl rowI listn listf).length ≤ 1000])
  | _ => none
theorem eok_nextS : EntryOk Tryz.prog e_nextS := pureN_ok (by unfold isBody; kernel_rfl) (by
  intro a r nb ob e hob
  split at e
  · rename_i listn listf
    simp only [zqt] at e
    obtain ⟨rfl, rfl, rfl⟩ := e
    refine ⟨ConN.args (.cons (.toT okI rfl hob.1) .nil) (c_nextS (Tl rowI listn listf) hob.2.1), fun x hx => ?_, fun nx => ?_, fun b hb => ?_⟩
    · simp only [zqu] at hx
      rcases hx with rfl
      · exact (hob.1).bl okI _
    · (first | exact .slc ⟨by omega, by simp⟩ (by omega) | (refine .tup rfl (fun c x y hx hy => ?_); rcases c with _ | _ | _ | c <;> simp at hx hy <;> (subst hx; subst hy; first | exact .slc ⟨by omega, by simp⟩ (by omega) | exact .pl .lit | exact .pl (blq_ok 4 rfl) | (refine .agg rfl (fun c x y hx hy => ?_); rcases c with _ | _ | _ | c <;> simp at hx hy <;> (subst hx; subst hy; first | exact .slc ⟨by omega, by simp⟩ (by omega) | exact .pl .lit | exact .pl (blq_ok 4 rfl))))) | (refine .agg rfl (fun c x y hx hy => ?_); rcases c with _ | _ | _ | c <;> simp at hx hy <;> (subst hx; subst hy; first | exact .slc ⟨by omega, by simp⟩ (by omega) | exact .pl .lit | exact .pl (blq_ok 4 rfl))))
    · simp only [zqu] at hb; subst hb; exact bT_bl okI _ (fun _ => nxD (fun i => decide ((Tl rowI listn listf).getD i 0 = 0)) (Tl rowI listn listf).length (Tl rowI listn listf) ((Tl rowI listn listf).length - 1)) _
  · simp at e)
theorem c_statS (k : Skt) (h0 : okK k = true) : ConN Tryz.prog 104 [aT rowK stdH fun _ => k] [] 0 (.tup [.slc 0 0 1 (stdH Nat fun _ => (stO k.arms.f k.slots).length), .lit (.bool (stdH Bool fun _ => okR k.arms.f k.slots))]) [.rows 1 (stdH Nat fun _ => (stO k.arms.f k.slots).length) (rowsI stdH fun _ => stO k.arms.f k.slots) 3] [] := by
  have hB : Base Tryz.prog (tabΓ [e_tincQS, e_firstQS]) tabO := base_of tabOkO (ents_cons eok_tincQS <| ents_cons eok_firstQS <| ents_nil)
  refine con_m (N := 80) hB (draw_ok hB mixed) Tryz.func104 rfl rfl (fun H => [aT rowK H fun _ => k]) (fun _ => []) 0 (fun H => .tup [.slc 0 0 1 (H Nat fun _ => (stO k.arms.f k.slots).length), .lit (.bool (H Bool fun _ => okR k.arms.f k.slots))]) (fun H => [.rows 1 (H Nat fun _ => (stO k.arms.f k.slots).length) (rowsI H fun _ => stO k.arms.f k.slots) 3]) (fun _ => []) 600 (by simp) (fun x hx => ?_) (by simp [lk]) (by omega) (by simp) ?_
  · simp only [zqu] at hx
    rcases hx with rfl
    · exact aT_bl okRK _ _
  intro X hX hX0 H hH
  conv in Fin.chk _ _ => cbv
  try simp only [zqs, Plain_rowsC, Plain_rowsY, zqx, AllP, zqw, upd, if_true]
  have hk := okK_iff.1 h0
  have hl : k.slots.length ≤ 3 := by rw [hk.len]; exact cntS3 _
  have hf := (okA_b hk.a).1
  have hy : ∀ i, i < k.slots.length → okY (k.slots.getD i default) = true := fun i h => hk.y i (by rw [← hk.len]; exact h)
  refine loop_a hB (draw_ok hB mixed) hX hX0 hH false (ι := { i : Nat // i ≤ k.slots.length ∧ ∀ j, j < i → gI k.arms.f k.slots j = true }) 600 (fun i => [.r (H Nat fun _ => (mI k.arms.f k.slots i.1).length) (rowsI H fun _ => mI k.arms.f k.slots i.1), .r (H Nat fun _ => ((List.range i.1).map (tI k.arms.f k.slots)).length) (rowsI H fun _ => (List.range i.1).map (tI k.arms.f k.slots)), .i (H Int fun _ => (i.1 : Nat))]) (fun i => k.slots.length - i.1) (⟨0, by omega, by omega⟩) ?_ ?_
  · (conv in matchSt _ _ _ _ => cbv); simp only [AllG, AllP, and_true, hH, stdH, zql, ncast, zqe, zqy]
    (repeat' (with_reducible refine And.intro ?_ ?_)) <;> (first | exact True.intro | exact Eq.refl _ | exact RowsEq.self okRY | exact RowsEq.self okI | exact RowsEq.ofT okI rfl (Shp_zero _) rfl)
  · intro I hI i
    conv in Fin.chk _ _ => cbv
    try simp only [zqs, Plain_rowsC, Plain_rowsY, zqx, AllP, zqw, upd, if_true]
    obtain ⟨i, hi, hj⟩ := i
    have mp := mI_pos k.arms.f k.slots i
    have ml := mI_len k.arms.f k.slots i
    have wl2 : (IntKind.i64.wrap (((mI k.arms.f k.slots i).length : Int) - 1)).toNat = (mI k.arms.f k.slots i).length - 1 := by rw [wi (by omega) (by omega)]; omega
    have ol : ((List.range i).map (tI k.arms.f k.slots)).length = i := by rw [List.length_map, List.length_range]
    (repeat' (with_reducible first | refine And.intro ?_ ?_ | intro hh))
    all_goals try (rw [hH]; exact trivial)
    all_goals try (clear hI hX hX0 hB I X; subst hH; simp only [stdH, Tl_I, zqk, zqg, zqi, zqf, zqh, ne_eq, zqa, zqb] at *; (repeat' refine And.intro ?_ ?_) <;> first | exact trivial | omega | exact fun j _ => rfl | exact rfl | exact Shp_I _ _ | (rw [wi (by omega) (by omega)]; omega) | (have y3 := okY_3 (hy i (by omega)) (by assumption); rw [wi (by omega) (by omega)]; omega) | (have e8 := stt_g (f := k.arms.f) (S := k.slots) (i := i) (by omega); have e9 := okR_no (by omega) e8; have e7 := stO_at (f := k.arms.f) (S := k.slots) hi hj (.inr e8); first | exact e9 | (rw [e7]; done) | (rw [e7]; exact RowsEq.self okI)))
    · rename_i h1 h2
      simp only [hH, stdH, zqk, zqg, zqi, zqf, zqh, ne_eq, zqa, zqb, Tl_I, Decidable.not_not] at h1 h2 hh
      have hin : i < k.slots.length := by omega
      have et : (k.slots.getD i default).n = tI k.arms.f k.slots i := by
        unfold tI tVm
        rw [if_neg (by omega), if_pos (by omega)]
      have hg : gI k.arms.f k.slots i = true := by
        unfold gI gVm
        rw [if_neg (by omega), if_neg (by omega)]
      have ht := tI_tnc hf (fun j hj' => hy j hj') hin (fun j hj' => (Nat.lt_or_eq_of_le hj').elim (fun h => hj j h) (fun h => by rw [h]; exact hg)) (by omega)
      rw [← et] at ht
      have e1 : mI k.arms.f k.slots (i + 1) = mI k.arms.f k.slots i ++ [(k.slots.getD i default).n] := by
        rw [et]
        exact if_neg (by omega)
      have eo : (List.range (i + 1)).map (tI k.arms.f k.slots) = (List.range i).map (tI k.arms.f k.slots) ++ [(k.slots.getD i default).n] := by
        rw [et, List.range_succ, List.map_append]; rfl
      refine ⟨⟨i + 1, by omega, fun j hj' => ?_⟩, by simp only; omega, ?_⟩
      · rcases Nat.lt_succ_iff_lt_or_eq.1 hj' with h | rfl
        · exact hj j h
        · exact hg
      · rw [hI]
        (conv in matchSt _ _ _ _ => cbv); simp only [AllG, AllP, and_true, hH, stdH, zql, ncast, zqe, zqy]
        try simp only [Int.toNat_natCast, Tl_I, wl2]
        rw [w1 (by omega), e1, eo]
        (repeat' (with_reducible refine And.intro ?_ ?_)) <;> (first | exact True.intro | exact Eq.refl _ | exact RowsEq.self okRY | exact RowsEq.self okI | exact st_app | exact List.length_append)
    · rename_i h1 h2
      simp only [hH, stdH, zqk, zqg, zqi, zqf, zqh, ne_eq, zqa, zqb, Tl_I, Decidable.not_not] at h1 h2 hh
      have hin : i < k.slots.length := by omega
      have et : (k.slots.getD i default).n = tI k.arms.f k.slots i := by
        unfold tI tVm
        rw [if_neg (by omega), if_pos (by omega)]
      have hg : gI k.arms.f k.slots i = true := by
        unfold gI gVm
        rw [if_neg (by omega), if_neg (by omega)]
      have ht := tI_tnc hf (fun j hj' => hy j hj') hin (fun j hj' => (Nat.lt_or_eq_of_le hj').elim (fun h => hj j h) (fun h => by rw [h]; exact hg)) (by omega)
      rw [← et] at ht
      exact absurd ht.1 (by omega)
    · rename_i h1 h2 h3 h4
      simp only [hH, stdH, zqk, zqg, zqi, zqf, zqh, ne_eq, zqa, zqb, Tl_I, Decidable.not_not] at h1 h2 h3 h4 hh
      have hin : i < k.slots.length := by omega
      have et : k.arms.f.p = tI k.arms.f k.slots i := by
        unfold tI tVm
        rw [if_neg (by omega), if_neg (by omega), if_pos (by omega)]
      have hg : gI k.arms.f k.slots i = true := by
        unfold gI gVm
        rw [if_pos (by omega)]; exact decide_eq_true (by omega)
      have ht := tI_tnc hf (fun j hj' => hy j hj') hin (fun j hj' => (Nat.lt_or_eq_of_le hj').elim (fun h => hj j h) (fun h => by rw [h]; exact hg)) (by omega)
      rw [← et] at ht
      have e1 : mI k.arms.f k.slots (i + 1) = mI k.arms.f k.slots i ++ [k.arms.f.p] := by
        rw [et]
        exact if_neg (by omega)
      have eo : (List.range (i + 1)).map (tI k.arms.f k.slots) = (List.range i).map (tI k.arms.f k.slots) ++ [k.arms.f.p] := by
        rw [et, List.range_succ, List.map_append]; rfl
      refine ⟨⟨i + 1, by omega, fun j hj' => ?_⟩, by simp only; omega, ?_⟩
      · rcases Nat.lt_succ_iff_lt_or_eq.1 hj' with h | rfl
        · exact hj j h
        · exact hg
      · rw [hI]
        (conv in matchSt _ _ _ _ => cbv); simp only [AllG, AllP, and_true, hH, stdH, zql, ncast, zqe, zqy]
        try simp only [Int.toNat_natCast, Tl_I, wl2]
        rw [w1 (by omega), e1, eo]
        (repeat' (with_reducible refine And.intro ?_ ?_)) <;> (first | exact True.intro | exact Eq.refl _ | exact RowsEq.self okRY | exact RowsEq.self okI | exact st_app | exact List.length_append)
    · rename_i h1 h2 h3 h4
      simp only [hH, stdH, zqk, zqg, zqi, zqf, zqh, ne_eq, zqa, zqb, Tl_I, Decidable.not_not] at h1 h2 h3 h4 hh
      have hin : i < k.slots.length := by omega
      have et : k.arms.f.p = tI k.arms.f k.slots i := by
        unfold tI tVm
        rw [if_neg (by omega), if_neg (by omega), if_pos (by omega)]
      have hg : gI k.arms.f k.slots i = true := by
        unfold gI gVm
        rw [if_pos (by omega)]; exact decide_eq_true (by omega)
      have ht := tI_tnc hf (fun j hj' => hy j hj') hin (fun j hj' => (Nat.lt_or_eq_of_le hj').elim (fun h => hj j h) (fun h => by rw [h]; exact hg)) (by omega)
      rw [← et] at ht
      exact absurd ht.1 (by omega)
    · rename_i h1 h2 h3 h4 h5
      simp only [hH, stdH, zqk, zqg, zqi, zqf, zqh, ne_eq, zqa, zqb, Tl_I, Decidable.not_not] at h1 h2 h3 h4 h5 hh
      have hin : i < k.slots.length := by omega
      have y3 := okY_3 (hy i hin) (by omega)
      have wn2 : (IntKind.i64.wrap ((k.slots.getD i default).n - 1)).toNat = ((k.slots.getD i default).n - 1).toNat := by rw [wi (by omega) (by omega)]
      have et : (fstL (mI k.arms.f k.slots i)).getD ((k.slots.getD i default).n - 1).toNat 0 = tI k.arms.f k.slots i := by
        unfold tI tVm
        rw [if_neg (by omega), if_neg (by omega), if_neg (by omega), if_pos (by omega)]
      have hg : gI k.arms.f k.slots i = true := by
        unfold gI gVm
        rw [if_neg (by omega), if_pos (by omega)]; exact decide_eq_true (by omega)
      have ht := tI_tnc hf (fun j hj' => hy j hj') hin (fun j hj' => (Nat.lt_or_eq_of_le hj').elim (fun h => hj j h) (fun h => by rw [h]; exact hg)) (by omega)
      rw [← et] at ht
      have e1 : mI k.arms.f k.slots (i + 1) = mI k.arms.f k.slots i ++ [(fstL (mI k.arms.f k.slots i)).getD ((k.slots.getD i default).n - 1).toNat 0] := by
        rw [et]
        exact if_neg (by omega)
      have eo : (List.range (i + 1)).map (tI k.arms.f k.slots) = (List.range i).map (tI k.arms.f k.slots) ++ [(fstL (mI k.arms.f k.slots i)).getD ((k.slots.getD i default).n - 1).toNat 0] := by
        rw [et, List.range_succ, List.map_append]; rfl
      refine ⟨⟨i + 1, by omega, fun j hj' => ?_⟩, by simp only; omega, ?_⟩
      · rcases Nat.lt_succ_iff_lt_or_eq.1 hj' with h | rfl
        · exact hj j h
        · exact hg
      · rw [hI]
        (conv in matchSt _ _ _ _ => cbv); simp only [AllG, AllP, and_true, hH, stdH, zql, ncast, zqe, zqy]
        try simp only [Int.toNat_natCast, Tl_I, wl2, wn2]
        rw [w1 (by omega), e1, eo]
        (repeat' (with_reducible refine And.intro ?_ ?_)) <;> (first | exact True.intro | exact Eq.refl _ | exact RowsEq.self okRY | exact RowsEq.self okI | exact st_app | exact List.length_append)
    · rename_i h1 h2 h3 h4 h5
      simp only [hH, stdH, zqk, zqg, zqi, zqf, zqh, ne_eq, zqa, zqb, Tl_I, Decidable.not_not] at h1 h2 h3 h4 h5 hh
      have hin : i < k.slots.length := by omega
      have y3 := okY_3 (hy i hin) (by omega)
      have wn2 : (IntKind.i64.wrap ((k.slots.getD i default).n - 1)).toNat = ((k.slots.getD i default).n - 1).toNat := by rw [wi (by omega) (by omega)]
      have et : (fstL (mI k.arms.f k.slots i)).getD ((k.slots.getD i default).n - 1).toNat 0 = tI k.arms.f k.slots i := by
        unfold tI tVm
        rw [if_neg (by omega), if_neg (by omega), if_neg (by omega), if_pos (by omega)]
      have hg : gI k.arms.f k.slots i = true := by
        unfold gI gVm
        rw [if_neg (by omega), if_pos (by omega)]; exact decide_eq_true (by omega)
      have ht := tI_tnc hf (fun j hj' => hy j hj') hin (fun j hj' => (Nat.lt_or_eq_of_le hj').elim (fun h => hj j h) (fun h => by rw [h]; exact hg)) (by omega)
      rw [← et] at ht
      rw [wn2] at hh
      exact absurd ht.1 (by omega)
    · rename_i h1 h2 h3 h4 h5
      simp only [hH, stdH, zqk, zqg, zqi, zqf, zqh, ne_eq, zqa, zqb, Tl_I, Decidable.not_not] at h1 h2 h3 h4 h5 hh
      have hin : i < k.slots.length := by omega
      have et : (mI k.arms.f k.slots i).getD ((mI k.arms.f k.slots i).length - 1) 0 = tI k.arms.f k.slots i := by
        unfold tI tVm
        rw [if_neg (by omega), if_neg (by omega), if_neg (by omega), if_neg (by omega)]
      have hg : gI k.arms.f k.slots i = true := by
        unfold gI gVm
        rw [if_neg (by omega), if_neg (by omega)]
      have ht := tI_tnc hf (fun j hj' => hy j hj') hin (fun j hj' => (Nat.lt_or_eq_of_le hj').elim (fun h => hj j h) (fun h => by rw [h]; exact hg)) (by omega)
      rw [← et] at ht
      have e1 : mI k.arms.f k.slots (i + 1) = mI k.arms.f k.slots i ++ [(mI k.arms.f k.slots i).getD ((mI k.arms.f k.slots i).length - 1) 0] := by
        rw [et]
        exact if_neg (by omega)
      have eo : (List.range (i + 1)).map (tI k.arms.f k.slots) = (List.range i).map (tI k.arms.f k.slots) ++ [(mI k.arms.f k.slots i).getD ((mI k.arms.f k.slots i).length - 1) 0] := by
        rw [et, List.range_succ, List.map_append]; rfl
      refine ⟨⟨i + 1, by omega, fun j hj' => ?_⟩, by simp only; omega, ?_⟩
      · rcases Nat.lt_succ_iff_lt_or_eq.1 hj' with h | rfl
        · exact hj j h
        · exact hg
      · rw [hI]
        (conv in matchSt _ _ _ _ => cbv); simp only [AllG, AllP, and_true, hH, stdH, zql, ncast, zqe, zqy]
        try simp only [Int.toNat_natCast, Tl_I, wl2]
        rw [w1 (by omega), e1, eo]
        (repeat' (with_reducible refine And.intro ?_ ?_)) <;> (first | exact True.intro | exact Eq.refl _ | exact RowsEq.self okRY | exact RowsEq.self okI | exact st_app | exact List.length_append)
    · rename_i h1 h2 h3 h4 h5
      simp only [hH, stdH, zqk, zqg, zqi, zqf, zqh, ne_eq, zqa, zqb, Tl_I, Decidable.not_not] at h1 h2 h3 h4 h5 hh
      have hin : i < k.slots.length := by omega
      have et : (mI k.arms.f k.slots i).getD ((mI k.arms.f k.slots i).length - 1) 0 = tI k.arms.f k.slots i := by
        unfold tI tVm
        rw [if_neg (by omega), if_neg (by omega), if_neg (by omega), if_neg (by omega)]
      have hg : gI k.arms.f k.slots i = true := by
        unfold gI gVm
        rw [if_neg (by omega), if_neg (by omega)]
      have ht := tI_tnc hf (fun j hj' => hy j hj') hin (fun j hj' => (Nat.lt_or_eq_of_le hj').elim (fun h => hj j h) (fun h => by rw [h]; exact hg)) (by omega)
      rw [← et] at ht
      rw [wl2] at hh
      exact absurd ht.1 (by omega)
    · rename_i h1 h2 h3 h4 h5
      simp only [hH, stdH, zqk, zqg, zqi, zqf, zqh, ne_eq, zqa, zqb, Tl_I, Decidable.not_not] at h1 h2 h3 h4 h5 hh
      have hin : i < k.slots.length := by omega
      omega
    · rename_i h1 h2 h3 h4 h5
      simp only [hH, stdH, zqk, zqg, zqi, zqf, zqh, ne_eq, zqa, zqb, Tl_I, Decidable.not_not] at h1 h2 h3 h4 h5 hh
      have hin : i < k.slots.length := by omega
      have y9 := okY_m (hy i hin)
      have h5 : (k.slots.getD i default).m = 5 := by omega
      have et := tI_5 (f := k.arms.f) h5
      have e1 : mI k.arms.f k.slots (i + 1) = mI k.arms.f k.slots i := if_pos h5
      have eo : (List.range (i + 1)).map (tI k.arms.f k.slots) = (List.range i).map (tI k.arms.f k.slots) ++ [0] := by
        rw [List.range_succ, List.map_append]
        show _ ++ [tI k.arms.f k.slots i] = _
        rw [et]
      refine ⟨⟨i + 1, by omega, fun j hj' => ?_⟩, by simp only; omega, ?_⟩
      · rcases Nat.lt_succ_iff_lt_or_eq.1 hj' with h | rfl
        · exact hj j h
        · unfold gI gVm
          rw [if_neg (by omega), if_neg (by omega)]
      · rw [hI]
        (conv in matchSt _ _ _ _ => cbv); simp only [AllG, AllP, and_true, hH, stdH, zql, ncast, zqe, zqy]
        rw [w1 (by omega), e1, eo]
        (repeat' (with_reducible refine And.intro ?_ ?_)) <;> (first | exact True.intro | exact Eq.refl _ | exact RowsEq.self okRY | exact RowsEq.self okI | exact st_app | exact st_app0 | exact List.length_append | skip)
    · simp only [hH, stdH, decide_eq_false_iff_not] at hh ⊢
      rw [stO_at (f := k.arms.f) (S := k.slots) hi hj (.inl (by omega))]
      exact RowsEq.self okI
    · simp only [hH, stdH, decide_eq_false_iff_not] at hh ⊢
      exact okR_all.2 fun j hj' => hj j (by omega)
    · simp only [hH, stdH, decide_eq_false_iff_not] at hh ⊢
      rw [stO_at (f := k.arms.f) (S := k.slots) hi hj (.inl (by omega))]
noncomputable def e_statS : Entry := pureN 104 fun H a => match a with
  | [.agg [.lit (.int .i64 k0), .lit (.int .i64 k1), .lit (.int .i64 k2), .lit (.int .i64 k3), .lit (.int .i64 k4), .lit (.int .i64 k5), .lit (.int .i64 k6), .lit (.int .i64 k7), .lit (.int .i64 k8), .lit (.int .i64 k9), .lit (.int .i64 k10), .lit (.int .i64 k11), .lit (.int .i64 k12), .lit (.int .i64 k13), .lit (.int .i64 k14), .vec 2 k15n k15f]] => some (fun nx => .tup [.slc nx 0 1 (H Nat fun _ => (stO (⟨⟨⟨k0, k1, k2, k3⟩, k4, k5, k6, ⟨k7, k8, k9, k10⟩, ⟨k11, k12, k13, k14⟩⟩, (Tl rowY k15n k15f)⟩ : Skt).arms.f (⟨⟨⟨k0, k1, k2, k3⟩, k4, k5, k6, ⟨k7, k8, k9, k10⟩, ⟨k11, k12, k13, k14⟩⟩, (Tl rowY k15n k15f)⟩ : Skt).slots).length), .lit (.bool (H Bool fun _ => okR (⟨⟨⟨k0, k1, k2, k3⟩, k4, k5, k6, ⟨k7, k8, k9, k10⟩, ⟨k11, k12, k13, k14⟩⟩, (Tl rowY k15n k15f)⟩ : Skt).arms.f (⟨⟨⟨k0, k1, k2, k3⟩, k4, k5, k6, ⟨k7, k8, k9, k10⟩, ⟨k11, k12, k13, k14⟩⟩, (Tl rowY k15n k15f)⟩ : Skt).slots))], [.rows 1 (H Nat fun _ => (stO (⟨⟨⟨k0, k1, k2, k3⟩, k4, k5, k6, ⟨k7, k8, k9, k10⟩, ⟨k11, k12, k13, k14⟩⟩, (Tl rowY k15n k15f)⟩ : Skt).arms.f (⟨⟨⟨k0, k1, k2, k3⟩, k4, k5, k6, ⟨k7, k8, k9, k10⟩, ⟨k11, k12, k13, k14⟩⟩, (Tl rowY k15n k15f)⟩ : Skt).slots).length) (rowsI H fun _ => stO (⟨⟨⟨k0, k1, k2, k3⟩, k4, k5, k6, ⟨k7, k8, k9, k10⟩, ⟨k11, k12, k13, k14⟩⟩, (Tl rowY k15n k15f)⟩ : Skt).arms.f (⟨⟨⟨k0, k1, k2, k3⟩, k4, k5, k6, ⟨k7, k8, k9, k10⟩, ⟨k11, k12, k13, k14⟩⟩, (Tl rowY k15n k15f)⟩ : Skt).slots) 3], [H Prop fun _ => Shp rowY k15n k15f, H Prop fun _ => okK (⟨⟨⟨k0, k1, k2, k3⟩, k4, k5, k6, ⟨k7, k8, k9, k10⟩, ⟨k11, k12, k13, k14⟩⟩, (Tl rowY k15n k15f)⟩ : Skt) = true])
  | _ => none
theorem eok_statS : EntryOk Tryz.prog e_statS := pureN_ok (by unfold isBody; kernel_rfl) (by
  intro a r nb ob e hob
  split at e
  · rename_i k0 k1 k2 k3 k4 k5 k6 k7 k8 k9 k10 k11 k12 k13 k14 k15n k15f
    simp only [zqt] at e
    obtain ⟨rfl, rfl, rfl⟩ := e
    refine ⟨ConN.args (.cons (.agg (.cons .rfl (.cons .rfl (.cons .rfl (.cons .rfl (.cons .rfl (.cons .rfl (.cons .rfl (.cons .rfl (.cons .rfl (.cons .rfl (.cons .rfl (.cons .rfl (.cons .rfl (.cons .rfl (.cons .rfl (.cons (.toT okRY rfl hob.1) .nil))))))))))))))))) .nil) (c_statS (⟨⟨⟨k0, k1, k2, k3⟩, k4, k5, k6, ⟨k7, k8, k9, k10⟩, ⟨k11, k12, k13, k14⟩⟩, (Tl rowY k15n k15f)⟩ : Skt) hob.2.1), fun x hx => ?_, fun nx => ?_, fun b hb => ?_⟩
    · simp only [zqu] at hx
      rcases hx with rfl
      · exact (.agg fun c hc => (by
        simp only [zqu] at hc
        rcases hc with rfl | rfl | rfl | rfl | rfl | rfl | rfl | rfl | rfl | rfl | rfl | rfl | rfl | rfl | rfl | rfl
        · exact .lit
        · exact .lit
        · exact .lit
        · exact .lit
        · exact .lit
        · exact .lit
        · exact .lit
        · exact .lit
        · exact .lit
        · exact .lit
        · exact .lit
        · exact .lit
        · exact .lit
        · exact .lit
        · exact .lit
        · exact (hob.1).bl okRY _))
    · (first | exact .slc ⟨by omega, by simp⟩ (by omega) | (refine .tup rfl (fun c x y hx hy => ?_); rcases c with _ | _ | _ | c <;> simp at hx hy <;> (subst hx; subst hy; first | exact .slc ⟨by omega, by simp⟩ (by omega) | exact .pl .lit | exact .pl (blq_ok 4 rfl) | (refine .agg rfl (fun c x y hx hy => ?_); rcases c with _ | _ | _ | c <;> simp at hx hy <;> (subst hx; subst hy; first | exact .slc ⟨by omega, by simp⟩ (by omega) | exact .pl .lit | exact .pl (blq_ok 4 rfl))))) | (refine .agg rfl (fun c x y hx hy => ?_); rcases c with _ | _ | _ | c <;> simp at hx hy <;> (subst hx; subst hy; first | exact .slc ⟨by omega, by simp⟩ (by omega) | exact .pl .lit | exact .pl (blq_ok 4 rfl))))
    · simp only [zqu] at hb; subst hb; exact bT_bl okI _ (fun _ => stO (⟨⟨⟨k0, k1, k2, k3⟩, k4, k5, k6, ⟨k7, k8, k9, k10⟩, ⟨k11, k12, k13, k14⟩⟩, (Tl rowY k15n k15f)⟩ : Skt).arms.f (⟨⟨⟨k0, k1, k2, k3⟩, k4, k5, k6, ⟨k7, k8, k9, k10⟩, ⟨k11, k12, k13, k14⟩⟩, (Tl rowY k15n k15f)⟩ : Skt).slots) _
  · simp at e)

end Go.Proofs.YtmkniipdkanbbaaGreatDoor.AM

