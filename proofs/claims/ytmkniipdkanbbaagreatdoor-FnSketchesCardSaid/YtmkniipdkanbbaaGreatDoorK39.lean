/- Lemmas and contracts (Rdk); conditions: none. -/
import Derived.Test.YtmkniipdkanbbaaGreatDoorK04
import Derived.Test.YtmkniipdkanbbaaGreatDoorK06
import Derived.Test.YtmkniipdkanbbaaGreatDoorK27
import Derived.Test.YtmkniipdkanbbaaGreatDoorK33
set_option linter.unusedVariables false
set_option linter.unusedSimpArgs false
set_option maxRecDepth 100000
set_option maxHeartbeats 4000000
set_option cbv.maxSteps 3000000
namespace Go.Proofs.YtmkniipdkanbbaaGreatDoor.AM
/- What slots stand for, by the program; conditions: none. -/
theorem RowsEq.zeros0 (g : Nat → Int) (n : Nat) : RowsEq 1 (preZ g n 0).length (rowsI stdH fun _ => preZ g n 0) ((n : Int).toNat) fun _ => List.map AV.lit [Value.int IntKind.i64 0] := by
  rw [Int.toNat_natCast]
  refine RowsEq.litQ (preZ_len (Nat.zero_le _)) fun j hj => ?_
  rw [preZ_get, if_neg (Nat.not_lt_zero _)]; rfl
theorem nbm (z : Nat) : Nat.beq.match_1 (fun _ _ => Bool) z z (fun _ => true) (fun _ => false) (fun _ => false) Nat.beq = true := by
  cases z
  · rfl
  · exact Nat.beq_refl _
theorem cntK3 (a : Arm) : cntP a ≤ 3 := by unfold cntP i2 i1; split <;> split <;> split <;> omega
theorem RowsEq.putR {α : Type} {D : RowD α} (ok : RowOk D) {L : List α} {j : Nat} {x : α} {M : List α} (e : L.set j x = M) : RowsEq D.k M.length (rowsT D stdH fun _ => M) L.length (put1 j (D.cells stdH fun _ => x) (rowsT D stdH fun _ => L)) :=
  .ofT ok rfl (Shp_put1 (Shp_rowsT ok _ _) (by rw [ok.of_cells])) (by rw [Tl_put1, Tl_rowsT ok, ok.of_cells, e])
theorem rk_put {g : Nat → Int} {n i : Nat} {v : Int} (h : i < n) (e : v = g i) : RowsEq 1 (preZ g n (i + 1)).length (rowsI stdH fun _ => preZ g n (i + 1)) (preZ g n i).length (put1 i [AV.lit (.int .i64 v)] (rowsI stdH fun _ => preZ g n i)) := by
  subst e
  exact RowsEq.putR okI (preZ_set h)
theorem rk_skip {g : Nat → Int} {n i : Nat} (h : i < n) (e : g i = 0) : RowsEq 1 (preZ g n (i + 1)).length (rowsI stdH fun _ => preZ g n (i + 1)) (preZ g n i).length (rowsI stdH fun _ => preZ g n i) := by
  rw [← preZ_skip h e]
  exact RowsEq.self okI
theorem rk_app {L : List Int} {v : Int} : RowsEq 1 (L ++ [v]).length (rowsI stdH fun _ => L ++ [v]) (L.length + 1) (app L.length (rowsI stdH fun _ => L) (rowsN .i64 stdH fun _ => [v])) :=
  RowsEq.more okI (Shp_I _ _) (Tl_I [v])
theorem rk_nx {p : Nat → Bool} {n s j : Nat} {l : List Int} {v : Int} (hp : p (n - 2 - s) = true) (hj : j = n - 2 - s) (hv : v = (nxD p n l s).getD (n - 2 - s + 1) 0) : RowsEq 1 (nxD p n l (s + 1)).length (rowsI stdH fun _ => nxD p n l (s + 1)) (nxD p n l s).length (put1 j [AV.lit (.int .i64 v)] (rowsI stdH fun _ => nxD p n l s)) := by
  subst hj; subst hv
  exact RowsEq.putR okI (if_pos hp).symm
theorem rk_nn {p : Nat → Bool} {n s : Nat} {l : List Int} (hp : p (n - 2 - s) = false) : nxD p n l (s + 1) = nxD p n l s := if_neg (by rw [hp]; simp)
theorem rk_self {L M : List Int} {n : Nat} (hn : L.length = n) (e : M = L) : RowsEq 1 M.length (rowsI stdH fun _ => M) n (rowsI stdH fun _ => L) := by
  subst e; subst hn
  exact RowsEq.self okI
theorem rdk_no {f : Fld} {S : List Slo} {i : Nat} (hi : i < S.length) (h : ((S.getD i default).m = 2 ∧ ¬ f.d = 0) ∨ ((S.getD i default).m = 3 ∧ ((fstL (mI f S i)).length : Int) < (S.getD i default).n)) : okR f S = false := by
  refine okR_no (i := i) hi ?_
  unfold gI gVm
  rcases h with ⟨h1, h2⟩ | ⟨h1, h2⟩
  · rw [if_pos h1]; exact decide_eq_false h2
  · rw [if_neg (by omega), if_pos h1]; exact decide_eq_false (by omega)
theorem c_readK (k : Skt) (h0 : okK k = true) : ConN Tryz.prog 49 [aT rowK stdH fun _ => k] [] 0 (.tup [.vec 1 (stdH Nat fun _ => (if okR k.arms.f k.slots = true then rdO k.arms.f k.slots else []).length) (rowsI stdH fun _ => if okR k.arms.f k.slots = true then rdO k.arms.f k.slots else []), .vec 1 (stdH Nat fun _ => (if okR k.arms.f k.slots = true then rdLa k.arms.f k.slots else []).length) (rowsI stdH fun _ => if okR k.arms.f k.slots = true then rdLa k.arms.f k.slots else []), .lit (.bool (stdH Bool fun _ => okR k.arms.f k.slots))]) [] [] := by
  have hB : Base Tryz.prog (tabΓ [e_tincQ, e_firsts]) tabO := base_of tabOkO (ents_cons eok_tincQ <| ents_cons eok_firsts <| ents_nil)
  refine con_m (N := 125) hB (draw_ok hB mixed) Tryz.func49 rfl rfl (fun H => [aT rowK H fun _ => k]) (fun _ => []) 0 (fun H => .tup [.vec 1 (H Nat fun _ => (if okR k.arms.f k.slots = true then rdO k.arms.f k.slots else []).length) (rowsI H fun _ => if okR k.arms.f k.slots = true then rdO k.arms.f k.slots else []), .vec 1 (H Nat fun _ => (if okR k.arms.f k.slots = true then rdLa k.arms.f k.slots else []).length) (rowsI H fun _ => if okR k.arms.f k.slots = true then rdLa k.arms.f k.slots else []), .lit (.bool (H Bool fun _ => okR k.arms.f k.slots))]) (fun H => []) (fun _ => []) 600 (by simp) (fun x hx => ?_) (by simp [lk]) (by omega) (by simp) ?_
  · simp only [zqu] at hx
    rcases hx with rfl
    · exact aT_bl okRK _ _
  intro X hX hX0 H hH
  conv in Fin.chk _ _ => cbv
  try simp only [zqs, Plain_rowsC, Plain_rowsY, zqx, AllP, zqw, upd, if_true]
  have hk := okK_iff.1 h0
  have hl : k.slots.length ≤ 3 := by rw [hk.len]; exact cntK3 _
  have e8 : ((8 : Nat) : Int) = 8 := rfl
  refine ⟨?_, ?_, ?_⟩
  · simp only [hH, stdH]
    (repeat' (first | omega | refine And.intro ?_ ?_))
  · simp only [hH, stdH]
    (repeat' (first | omega | refine And.intro ?_ ?_))
  refine loop_c hB (draw_ok hB mixed) hX hX0 hH [1, 5, 6, 7, 25, 26, 27] (ι := { i : Nat // i ≤ k.slots.length ∧ ∀ j, j < i → gI k.arms.f k.slots j = true }) 600 (fun i => [.r (H Nat fun _ => (mI k.arms.f k.slots i.1).length) (rowsI H fun _ => mI k.arms.f k.slots i.1), .r (H Nat fun _ => (preZ (tI k.arms.f k.slots) k.slots.length i.1).length) (rowsI H fun _ => preZ (tI k.arms.f k.slots) k.slots.length i.1), .r (H Nat fun _ => (preZ (lI k.arms.f k.slots) k.slots.length i.1).length) (rowsI H fun _ => preZ (lI k.arms.f k.slots) k.slots.length i.1), .i (H Int fun _ => (i.1 : Nat))]) (fun i => k.slots.length - i.1) (⟨0, by omega, by omega⟩) ?_ ?_
  · (conv in matchSt _ _ _ _ => cbv); simp only [AllG, AllP, and_true, hH, stdH, zql, ncast, zqe, zqy]
    (repeat' (with_reducible refine And.intro ?_ ?_)) <;> (first | exact True.intro | exact Eq.refl _ | exact RowsEq.self okRY | exact RowsEq.self okI | exact RowsEq.zeros0 _ _ | skip)
  · intro I hI i
    conv in Fin.chk _ _ => cbv
    try simp only [zqs, Plain_rowsC, Plain_rowsY, zqx, AllP, zqw, upd, if_true]
    obtain ⟨i, hi, hj⟩ := i
    have hy : i < k.slots.length → okY (k.slots.getD i default) = true := fun h => hk.y i (by rw [← hk.len]; exact h)
    have mp := mI_pos k.arms.f k.slots i
    have ml := mI_len k.arms.f k.slots i
    have wl2 : (IntKind.i64.wrap (((mI k.arms.f k.slots i).length : Int) - 1)).toNat = (mI k.arms.f k.slots i).length - 1 := by rw [wi (by omega) (by omega)]; omega
    have oz := preZ_len (g := tI k.arms.f k.slots) (n := k.slots.length) (i := i) hi
    have lz := preZ_len (g := lI k.arms.f k.slots) (n := k.slots.length) (i := i) hi
    (repeat' (with_reducible first | refine And.intro ?_ ?_ | intro hh))
    all_goals try (conv in Fin.satC _ _ _ _ _ _ _ => (arg 7; simp only [nbm]; cbv))
    all_goals try (conv in Fin.satC _ _ _ _ _ _ _ => (arg 7; simp only [nbm]; cbv))
    all_goals (try simp only [Fin.satC_ret, Fin.satC_br, Fin.satC_need, Fin.satC_again, AllP, and_true, true_and, upd, if_true, ncast, zqe])
    all_goals (repeat' (with_reducible first | refine And.intro ?_ ?_ | intro hh))
    all_goals try (rw [hH]; exact trivial)
    all_goals try (clear hI hX hX0 hB I X; subst hH; simp only [stdH, Tl_I, zqk, zqg, zqi, zqf, zqh, ne_eq, zqa, zqb] at *; (repeat' refine And.intro ?_ ?_) <;> first | exact trivial | omega | exact fun j _ => rfl | exact rfl | exact Shp_I _ _ | (unfold put1; cases Nat.beq i i <;> rfl) | (rw [wi (by omega) (by omega)]; omega) | (have y3 := okY_3 (hy (by omega)) (by assumption); rw [wi (by omega) (by omega)]; omega) | (have e9 := rdk_no (f := k.arms.f) (S := k.slots) (i := i) (by omega) (by omega); simp [e9]; done))
    · rename_i h1
      simp only [hH, stdH, zqk, zqg, zqi, zqf, zqh, ne_eq, zqa, zqb, Tl_I] at h1 hh
      have hin : i < k.slots.length := by omega
      have e1 : mI k.arms.f k.slots (i + 1) = mI k.arms.f k.slots i := if_pos hh
      have et : (0 : Int) = tI k.arms.f k.slots i := (tI_5 hh).symm
      refine ⟨⟨i + 1, by omega, fun j hj' => ?_⟩, by simp only; omega, ?_⟩
      · rcases Nat.lt_succ_iff_lt_or_eq.1 hj' with h | rfl
        · exact hj j h
        · unfold gI gVm
          rw [if_neg (by omega), if_neg (by omega)]
      · rw [hI]
        (conv in matchSt _ _ _ _ => cbv); simp only [AllG, AllP, and_true, hH, stdH, zql, ncast, zqe, zqy]
        simp only [Int.toNat_natCast, Tl_I, wl2]
        rw [w1 (by omega), e1]
        (repeat' (with_reducible refine And.intro ?_ ?_)) <;> (first | exact True.intro | exact Eq.refl _ | exact RowsEq.self okRY | exact RowsEq.self okI | exact rk_put hin rfl | exact rk_skip hin et.symm | exact rk_app | exact List.length_append | exact rk_put hin et)
    · rename_i h1 h2
      simp only [hH, stdH, zqk, zqg, zqi, zqf, zqh, ne_eq, zqa, zqb, Tl_I] at h1 h2 hh
      have hin : i < k.slots.length := by omega
      have et : (k.slots.getD i default).n = tI k.arms.f k.slots i := by
        unfold tI tVm
        rw [if_neg (by omega), if_pos (by omega)]
      have e1 : mI k.arms.f k.slots (i + 1) = mI k.arms.f k.slots i ++ [(k.slots.getD i default).n] := by
        rw [et]
        exact if_neg (by omega)
      refine ⟨⟨i + 1, by omega, fun j hj' => ?_⟩, by simp only; omega, ?_⟩
      · rcases Nat.lt_succ_iff_lt_or_eq.1 hj' with h | rfl
        · exact hj j h
        · unfold gI gVm
          rw [if_neg (by omega), if_neg (by omega)]
      · rw [hI]
        (conv in matchSt _ _ _ _ => cbv); simp only [AllG, AllP, and_true, hH, stdH, zql, ncast, zqe, zqy]
        simp only [Int.toNat_natCast, Tl_I, wl2]
        rw [w1 (by omega), e1]
        (repeat' (with_reducible refine And.intro ?_ ?_)) <;> (first | exact True.intro | exact Eq.refl _ | exact RowsEq.self okRY | exact RowsEq.self okI | exact rk_put hin rfl | exact rk_put hin et | exact rk_app | exact List.length_append | exact rk_put hin et)
    · rename_i h1 h2 h3 h4
      simp only [hH, stdH, zqk, zqg, zqi, zqf, zqh, ne_eq, zqa, zqb, Tl_I] at h1 h2 h3 h4 hh
      have hin : i < k.slots.length := by omega
      have et : k.arms.f.p = tI k.arms.f k.slots i := by
        unfold tI tVm
        rw [if_neg (by omega), if_neg (by omega), if_pos (by omega)]
      have e1 : mI k.arms.f k.slots (i + 1) = mI k.arms.f k.slots i ++ [k.arms.f.p] := by
        rw [et]
        exact if_neg (by omega)
      refine ⟨⟨i + 1, by omega, fun j hj' => ?_⟩, by simp only; omega, ?_⟩
      · rcases Nat.lt_succ_iff_lt_or_eq.1 hj' with h | rfl
        · exact hj j h
        · unfold gI gVm
          rw [if_pos (by omega)]; exact decide_eq_true (by omega)
      · rw [hI]
        (conv in matchSt _ _ _ _ => cbv); simp only [AllG, AllP, and_true, hH, stdH, zql, ncast, zqe, zqy]
        simp only [Int.toNat_natCast, Tl_I, wl2]
        rw [w1 (by omega), e1]
        (repeat' (with_reducible refine And.intro ?_ ?_)) <;> (first | exact True.intro | exact Eq.refl _ | exact RowsEq.self okRY | exact RowsEq.self okI | exact rk_put hin rfl | exact rk_put hin et | exact rk_app | exact List.length_append | exact rk_put hin et)
    · rename_i h1 h2 h3 h4 h5
      simp only [hH, stdH, zqk, zqg, zqi, zqf, zqh, ne_eq, zqa, zqb, Tl_I] at h1 h2 h3 h4 h5 hh
      have hin : i < k.slots.length := by omega
      have y3 := okY_3 (hy hin) (by omega)
      have wn2 : (IntKind.i64.wrap ((k.slots.getD i default).n - 1)).toNat = ((k.slots.getD i default).n - 1).toNat := by rw [wi (by omega) (by omega)]
      have et : (fstL (mI k.arms.f k.slots i)).getD ((k.slots.getD i default).n - 1).toNat 0 = tI k.arms.f k.slots i := by
        unfold tI tVm
        rw [if_neg (by omega), if_neg (by omega), if_neg (by omega), if_pos (by omega)]
      have e1 : mI k.arms.f k.slots (i + 1) = mI k.arms.f k.slots i ++ [(fstL (mI k.arms.f k.slots i)).getD ((k.slots.getD i default).n - 1).toNat 0] := by
        rw [et]
        exact if_neg (by omega)
      refine ⟨⟨i + 1, by omega, fun j hj' => ?_⟩, by simp only; omega, ?_⟩
      · rcases Nat.lt_succ_iff_lt_or_eq.1 hj' with h | rfl
        · exact hj j h
        · unfold gI gVm
          rw [if_neg (by omega), if_pos (by omega)]; exact decide_eq_true (by omega)
      · rw [hI]
        (conv in matchSt _ _ _ _ => cbv); simp only [AllG, AllP, and_true, hH, stdH, zql, ncast, zqe, zqy]
        simp only [Int.toNat_natCast, Tl_I, wl2, wn2]
        rw [w1 (by omega), e1]
        (repeat' (with_reducible refine And.intro ?_ ?_)) <;> (first | exact True.intro | exact Eq.refl _ | exact RowsEq.self okRY | exact RowsEq.self okI | exact rk_put hin rfl | exact rk_put hin et | exact rk_app | exact List.length_append | exact rk_put hin et)
    · rename_i h1 h2 h3 h4 h5
      simp only [hH, stdH, zqk, zqg, zqi, zqf, zqh, ne_eq, zqa, zqb, Tl_I] at h1 h2 h3 h4 h5 hh
      have hin : i < k.slots.length := by omega
      have et : (mI k.arms.f k.slots i).getD ((mI k.arms.f k.slots i).length - 1) 0 = tI k.arms.f k.slots i := by
        unfold tI tVm
        rw [if_neg (by omega), if_neg (by omega), if_neg (by omega), if_neg (by omega)]
      have e1 : mI k.arms.f k.slots (i + 1) = mI k.arms.f k.slots i ++ [(mI k.arms.f k.slots i).getD ((mI k.arms.f k.slots i).length - 1) 0] := by
        rw [et]
        exact if_neg (by omega)
      refine ⟨⟨i + 1, by omega, fun j hj' => ?_⟩, by simp only; omega, ?_⟩
      · rcases Nat.lt_succ_iff_lt_or_eq.1 hj' with h | rfl
        · exact hj j h
        · unfold gI gVm
          rw [if_neg (by omega), if_neg (by omega)]
      · rw [hI]
        (conv in matchSt _ _ _ _ => cbv); simp only [AllG, AllP, and_true, hH, stdH, zql, ncast, zqe, zqy]
        simp only [Int.toNat_natCast, Tl_I, wl2]
        rw [w1 (by omega), e1]
        (repeat' (with_reducible refine And.intro ?_ ?_)) <;> (first | exact True.intro | exact Eq.refl _ | exact RowsEq.self okRY | exact RowsEq.self okI | exact rk_put hin rfl | exact rk_put hin et | exact rk_app | exact List.length_append | exact rk_put hin et)
    · rename_i h1 h2 h3 h4 h5
      simp only [hH, stdH, zqk, zqf, zqh, ne_eq, zqa, zqb, Tl_I] at h1 h2 h3 h4 h5 hh
      exfalso
      have := okY_m (hy (by omega))
      omega
    · have hx := hh
      simp only [hH, stdH, decide_eq_false_iff_not] at hx
      have ei : i = k.slots.length := by omega
      have hr : okR k.arms.f k.slots = true := okR_all.2 fun j hj' => hj j (by omega)
      clear hI
      refine loop_c hB (draw_ok hB mixed) hX hX0 hH [1, 6, 7, 11] (ι := { s : Nat // s ≤ k.slots.length - 1 }) 600 (fun s => [.r (H Nat fun _ => (nxD (isN k.slots) k.slots.length (preZ (tI k.arms.f k.slots) k.slots.length k.slots.length) s.1).length) (rowsI H fun _ => nxD (isN k.slots) k.slots.length (preZ (tI k.arms.f k.slots) k.slots.length k.slots.length) s.1), .i (H Int fun _ => (k.slots.length : Int) - 2 - (s.1 : Nat))]) (fun s => k.slots.length - 1 - s.1) (⟨0, by omega⟩) ?_ ?_
      · (conv in matchSt _ _ _ _ => cbv); simp only [AllG, AllP, and_true, hH, stdH, zql, ncast, zqe, zqy]
        (repeat' (with_reducible refine And.intro ?_ ?_)) <;> (first | exact True.intro | exact RowsEq.self okRY | exact RowsEq.self okI | (rw [wi (by omega) (by omega)]; omega) | (rw [ei]; exact RowsEq.self okI))
      · intro I hI s
        conv in Fin.chk _ _ => cbv
        try simp only [zqs, Plain_rowsC, Plain_rowsY, zqx, AllP, zqw, upd, if_true]
        obtain ⟨s, hs⟩ := s
        have nl : (nxD (isN k.slots) k.slots.length (preZ (tI k.arms.f k.slots) k.slots.length k.slots.length) s).length = k.slots.length := by rw [nxD_len, preZ_len (Nat.le_refl _)]
        (repeat' (with_reducible first | refine And.intro ?_ ?_ | intro hh))
        all_goals try (clear hI hX hX0 hB; subst hH; simp only [stdH, Tl_I, zqk, zqf, zqh, ne_eq, zqa, zqb] at *; (repeat' refine And.intro ?_ ?_) <;> first | exact trivial | omega | exact rfl | (rw [wi (by omega) (by omega)]; omega) | exact hr)
        · rename_i h1
          simp only [hH, stdH, Int.toNat_natCast, beq_iff_eq, decide_eq_true_eq] at h1 hh
          have ej : ((k.slots.length : Int) - 2 - (s : Nat)).toNat = k.slots.length - 2 - s := by omega
          have ew : (IntKind.i64.wrap ((k.slots.length : Int) - 2 - (s : Nat) + 1)).toNat = k.slots.length - 2 - s + 1 := by rw [wi (by omega) (by omega)]; omega
          have ex : IntKind.i64.wrap ((k.slots.length : Int) - 2 - (s : Nat) - 1) = (k.slots.length : Int) - 2 - ((s + 1 : Nat) : Int) := by rw [wi (by omega) (by omega)]; omega
          rw [ej] at hh
          refine ⟨⟨s + 1, by omega⟩, by simp only; omega, ?_⟩
          rw [hI]
          (conv in matchSt _ _ _ _ => cbv); simp only [AllG, AllP, and_true, hH, stdH, zql, ncast, zqe, zqy]
          rw [ej, ew, ex]
          (repeat' (with_reducible refine And.intro ?_ ?_)) <;> (first | exact True.intro | exact Eq.refl _ | exact RowsEq.self okRY | exact RowsEq.self okI | exact rk_nx (decide_eq_true hh) rfl rfl)
        · rename_i h1
          simp only [hH, stdH, Int.toNat_natCast, beq_eq_false_iff_ne, ne_eq, decide_eq_true_eq] at h1 hh
          have ej : ((k.slots.length : Int) - 2 - (s : Nat)).toNat = k.slots.length - 2 - s := by omega
          have ex : IntKind.i64.wrap ((k.slots.length : Int) - 2 - (s : Nat) - 1) = (k.slots.length : Int) - 2 - ((s + 1 : Nat) : Int) := by rw [wi (by omega) (by omega)]; omega
          rw [ej] at hh
          refine ⟨⟨s + 1, by omega⟩, by simp only; omega, ?_⟩
          rw [hI]
          (conv in matchSt _ _ _ _ => cbv); simp only [AllG, AllP, and_true, hH, stdH, zql, ncast, zqe, zqy]
          rw [ex, rk_nn (decide_eq_false hh)]
          (repeat' (with_reducible refine And.intro ?_ ?_)) <;> (first | exact True.intro | exact Eq.refl _ | exact RowsEq.self okRY | exact RowsEq.self okI)
        · simp only [hH, stdH, decide_eq_false_iff_not] at hh ⊢
          simp only [hr, if_true, Int.toNat_natCast]
          exact ⟨by rw [ei, preZ_len (Nat.le_refl _)]; exact Nat.le_refl _, rk_self (by rw [ei, preZ_len (Nat.le_refl _)]) (by rw [ei]; rfl)⟩
        · simp only [hH, stdH, decide_eq_false_iff_not] at hh ⊢
          simp only [hr, if_true, Int.toNat_natCast]
          have es : s = k.slots.length - 1 := by omega
          exact ⟨by rw [nl]; exact Nat.le_refl _, rk_self nl (by rw [es]; rfl)⟩
noncomputable def e_readK : Entry := pureE 49 fun H a => match a with
  | [.agg [.lit (.int .i64 k0), .lit (.int .i64 k1), .lit (.int .i64 k2), .lit (.int .i64 k3), .lit (.int .i64 k4), .lit (.int .i64 k5), .lit (.int .i64 k6), .lit (.int .i64 k7), .lit (.int .i64 k8), .lit (.int .i64 k9), .lit (.int .i64 k10), .lit (.int .i64 k11), .lit (.int .i64 k12), .lit (.int .i64 k13), .lit (.int .i64 k14), .vec 2 k15n k15f]] => some (.tup [.vec 1 (H Nat fun _ => (if okR (⟨⟨⟨k0, k1, k2, k3⟩, k4, k5, k6, ⟨k7, k8, k9, k10⟩, ⟨k11, k12, k13, k14⟩⟩, (Tl rowY k15n k15f)⟩ : Skt).arms.f (⟨⟨⟨k0, k1, k2, k3⟩, k4, k5, k6, ⟨k7, k8, k9, k10⟩, ⟨k11, k12, k13, k14⟩⟩, (Tl rowY k15n k15f)⟩ : Skt).slots = true then rdO (⟨⟨⟨k0, k1, k2, k3⟩, k4, k5, k6, ⟨k7, k8, k9, k10⟩, ⟨k11, k12, k13, k14⟩⟩, (Tl rowY k15n k15f)⟩ : Skt).arms.f (⟨⟨⟨k0, k1, k2, k3⟩, k4, k5, k6, ⟨k7, k8, k9, k10⟩, ⟨k11, k12, k13, k14⟩⟩, (Tl rowY k15n k15f)⟩ : Skt).slots else []).length) (rowsI H fun _ => if okR (⟨⟨⟨k0, k1, k2, k3⟩, k4, k5, k6, ⟨k7, k8, k9, k10⟩, ⟨k11, k12, k13, k14⟩⟩, (Tl rowY k15n k15f)⟩ : Skt).arms.f (⟨⟨⟨k0, k1, k2, k3⟩, k4, k5, k6, ⟨k7, k8, k9, k10⟩, ⟨k11, k12, k13, k14⟩⟩, (Tl rowY k15n k15f)⟩ : Skt).slots = true then rdO (⟨⟨⟨k0, k1, k2, k3⟩, k4, k5, k6, ⟨k7, k8, k9, k10⟩, ⟨k11, k12, k13, k14⟩⟩, (Tl rowY k15n k15f)⟩ : Skt).arms.f (⟨⟨⟨k0, k1, k2, k3⟩, k4, k5, k6, ⟨k7, k8, k9, k10⟩, ⟨k11, k12, k13, k14⟩⟩, (Tl rowY k15n k15f)⟩ : Skt).slots else []), .vec 1 (H Nat fun _ => (if okR (⟨⟨⟨k0, k1, k2, k3⟩, k4, k5, k6, ⟨k7, k8, k9, k10⟩, ⟨k11, k12, k13, k14⟩⟩, (Tl rowY k15n k15f)⟩ : Skt).arms.f (⟨⟨⟨k0, k1, k2, k3⟩, k4, k5, k6, ⟨k7, k8, k9, k10⟩, ⟨k11, k12, k13, k14⟩⟩, (Tl rowY k15n k15f)⟩ : Skt).slots = true then rdLa (⟨⟨⟨k0, k1, k2, k3⟩, k4, k5, k6, ⟨k7, k8, k9, k10⟩, ⟨k11, k12, k13, k14⟩⟩, (Tl rowY k15n k15f)⟩ : Skt).arms.f (⟨⟨⟨k0, k1, k2, k3⟩, k4, k5, k6, ⟨k7, k8, k9, k10⟩, ⟨k11, k12, k13, k14⟩⟩, (Tl rowY k15n k15f)⟩ : Skt).slots else []).length) (rowsI H fun _ => if okR (⟨⟨⟨k0, k1, k2, k3⟩, k4, k5, k6, ⟨k7, k8, k9, k10⟩, ⟨k11, k12, k13, k14⟩⟩, (Tl rowY k15n k15f)⟩ : Skt).arms.f (⟨⟨⟨k0, k1, k2, k3⟩, k4, k5, k6, ⟨k7, k8, k9, k10⟩, ⟨k11, k12, k13, k14⟩⟩, (Tl rowY k15n k15f)⟩ : Skt).slots = true then rdLa (⟨⟨⟨k0, k1, k2, k3⟩, k4, k5, k6, ⟨k7, k8, k9, k10⟩, ⟨k11, k12, k13, k14⟩⟩, (Tl rowY k15n k15f)⟩ : Skt).arms.f (⟨⟨⟨k0, k1, k2, k3⟩, k4, k5, k6, ⟨k7, k8, k9, k10⟩, ⟨k11, k12, k13, k14⟩⟩, (Tl rowY k15n k15f)⟩ : Skt).slots else []), .lit (.bool (H Bool fun _ => okR (⟨⟨⟨k0, k1, k2, k3⟩, k4, k5, k6, ⟨k7, k8, k9, k10⟩, ⟨k11, k12, k13, k14⟩⟩, (Tl rowY k15n k15f)⟩ : Skt).arms.f (⟨⟨⟨k0, k1, k2, k3⟩, k4, k5, k6, ⟨k7, k8, k9, k10⟩, ⟨k11, k12, k13, k14⟩⟩, (Tl rowY k15n k15f)⟩ : Skt).slots))], [H Prop fun _ => Shp rowY k15n k15f, H Prop fun _ => okK (⟨⟨⟨k0, k1, k2, k3⟩, k4, k5, k6, ⟨k7, k8, k9, k10⟩, ⟨k11, k12, k13, k14⟩⟩, (Tl rowY k15n k15f)⟩ : Skt) = true])
  | _ => none
theorem eok_readK : EntryOk Tryz.prog e_readK := pureM_ok (by unfold isBody; kernel_rfl) (by
  intro a r ob e hob
  split at e
  · rename_i k0 k1 k2 k3 k4 k5 k6 k7 k8 k9 k10 k11 k12 k13 k14 k15n k15f
    simp only [zqt] at e
    obtain ⟨rfl, rfl⟩ := e
    exact ConN.args (.cons (.agg (.cons .rfl (.cons .rfl (.cons .rfl (.cons .rfl (.cons .rfl (.cons .rfl (.cons .rfl (.cons .rfl (.cons .rfl (.cons .rfl (.cons .rfl (.cons .rfl (.cons .rfl (.cons .rfl (.cons .rfl (.cons (.toT okRY rfl hob.1) .nil))))))))))))))))) .nil) (c_readK (⟨⟨⟨k0, k1, k2, k3⟩, k4, k5, k6, ⟨k7, k8, k9, k10⟩, ⟨k11, k12, k13, k14⟩⟩, (Tl rowY k15n k15f)⟩ : Skt) hob.2.1)
  · simp at e)

end Go.Proofs.YtmkniipdkanbbaaGreatDoor.AM

