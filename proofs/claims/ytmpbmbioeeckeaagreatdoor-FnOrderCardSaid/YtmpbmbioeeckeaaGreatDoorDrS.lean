import Derived.Test.YtmpbmbioeeckeaaGreatDoorAmT
import Derived.Test.YtmpbmbioeeckeaaGreatDoorAro
import Derived.Test.YtmpbmbioeeckeaaGreatDoorDrA
set_option linter.unusedVariables false
set_option linter.unusedSimpArgs false
set_option maxRecDepth 100000
set_option maxHeartbeats 4000000
set_option cbv.maxSteps 3000000
namespace Go.Proofs.YtmpbmbioeeckeaaGreatDoor.AM
/- A list of arms is drawn; conditions: none. -/
noncomputable def sdS (c : Cd) : Nat → DS
  | 0 => (F_pick c 6 (0, 0)).2
  | i + 1 => (F_arms c (sdS c i)).2
noncomputable def sdG (c : Cd) (i : Nat) : Arm := (F_arms c (sdS c i)).1
noncomputable def sdN (c : Cd) : Nat := (F_pick c 6 (0, 0)).1.toNat
noncomputable def sdQ (c : Cd) : Bool × DS := F_one c 10 (sdS c (sdN c))
noncomputable def sdLn (c : Cd) : Nat := if (sdQ c).1 = true then sdN c + 1 else sdN c
noncomputable def sdLg (c : Cd) (j : Nat) : Arm := if j < sdN c then sdG c j else (F_anyArms c (sdQ c).2).1
theorem sd_pick (c : Cd) : ((F_pick c 6 (0, 0)).1 = (sdN c : Int) ∧ sdN c < 6) ∧ Bd 398 (sdS c 0) := by
  have h : Bd 400 (0, 0) := ⟨by decide, by decide⟩
  obtain ⟨a, m, n⟩ := p_pick c 6 (0, 0) h.mono
  exact ⟨by unfold sdN; omega, a.bd h⟩
theorem sd_bd (c : Cd) : ∀ i, i ≤ 6 → Bd (398 - 38 * i) (sdS c i)
  | 0, _ => (sd_pick c).2
  | i + 1, hi => by
    have h := sd_bd c i (by omega)
    have a := (p_arms c (sdS c i) (h.mono (by omega))).1
    exact a.bd h (by omega)
theorem arow_len (g : Nat → Arm) (j : Nat) : (arow g j).length = 15 := rfl
theorem arow_el (g : Nat → Arm) (j : Nat) : ∀ x ∈ arow g j, Bl 0 x := fun x hx => by
  simp only [arow, List.mem_cons, List.not_mem_nil, or_false] at hx
  rcases hx with rfl | rfl | rfl | rfl | rfl | rfl | rfl | rfl | rfl | rfl | rfl | rfl | rfl | rfl | rfl <;> exact .lit
/-- The rows that are known, and one more. -/
theorem app_arow {n : Nat} {f : Nat → List AV} {g : Nat → Arm} (a : Arm) (ha : g n = a) (hf : ∀ j, j < n → f j = arow g j) : ∀ j, j < n + 1 → app n f (rowsOf 15 (arow (fun _ => a) n)) j = arow g j := by
  intro j hj
  by_cases h : j < n
  · have : app n f (rowsOf 15 (arow (fun _ => a) n)) j = f j := by unfold app; rw [show Nat.blt j n = true by simpa using h]; rfl
    rw [this, hf j h]
  · obtain rfl : j = n := by omega
    have : app j f (rowsOf 15 (arow (fun _ => a) j)) j = rowsOf 15 (arow (fun _ => a) j) 0 := by unfold app; rw [show Nat.blt j j = false by rw [← Bool.not_eq_true]; simp, Nat.sub_self]; rfl
    rw [this]; subst ha; rfl
theorem sdL1 {c : Cd} {k : Nat} (hN : sdN c = k) (hq : (F_one c 10 (sdS c k)).1 = true) : sdLn c = k + 1 := by subst hN; unfold sdLn sdQ; rw [if_pos hq]
theorem sdL0 {c : Cd} {k : Nat} (hN : sdN c = k) (hq : (F_one c 10 (sdS c k)).1 = false) : sdLn c = k := by subst hN; unfold sdLn sdQ; rw [if_neg (by rw [hq]; simp)]
theorem sdLg_lt {c : Cd} {j : Nat} (h : j < sdN c) : arow (sdG c) j = arow (sdLg c) j := by
  have : sdLg c j = sdG c j := if_pos h
  unfold arow; rw [this]
theorem sdLg_last {c : Cd} {k : Nat} (hN : sdN c = k) : sdLg c k = (F_anyArms c (F_one c 10 (sdS c k)).2).1 := by subst hN; exact if_neg (by omega)
theorem c_DrawSimplest (c : Cd) : Con Tryz.prog 14 [codeAV c] [] (.vec 15 (sdLn c) (arow (sdLg c))) [] := by
  have hB : Base Tryz.prog (tabΓ [e_pick c, e_arms c, e_one c, e_anyArms c]) tab := base_of tabOk (ents_cons (eok_pick c) <| ents_cons (eok_arms c) <| ents_cons (eok_one c) <| ents_cons (eok_anyArms c) <| ents_nil)
  refine con_okN (N := 29) hB (draw_ok hB mixed) Tryz.func14 rfl rfl _ _ 0 _ _ 100 (by simp) (codeAV_bl c) (by simp [lk]) (arow_bl _ _ _) (by simp) ?_
  intro X hX hX0 H hH
  conv in finish _ _ _ _ _ _ _ _ => cbv
  subst hH
  simp only [Fin.sat_ret, Fin.sat_br, Fin.sat_need, AllP, stdH, and_true, true_and, ncast, Int.ofNat_eq_natCast]
  have hp0 := sd_pick c
  have h0 : Bd 400 (0, 0) := ⟨by decide, by decide⟩
  refine ⟨h0.mono, ?_⟩
  refine loop_sat hB (draw_ok hB mixed) hX (ι := { i : Nat // i ≤ sdN c }) 100 (fun H i => match i.1 with
    | 0 => ⟨[(3, .ptr 0 0), (4, .ful 15 0 (rowsOf 15 [])), (5, .lit (.int .i64 (H Int fun _ => (sdN c : Nat))))], [(0, .cells [.vec 1 c.n c.rows, .lit (.int .i64 (H Int fun _ => (sdS c 0).1)), .lit (.int .u64 (H Int fun _ => (sdS c 0).2))] 55)], 1⟩
    | k + 1 => ⟨[(3, .ptr 0 0), (4, .slc 1 0 15 (H Nat fun _ => k + 1)), (5, .lit (.int .i64 (H Int fun _ => (sdN c : Int) - (k + 1 : Nat))))], [(0, .cells [.vec 1 c.n c.rows, .lit (.int .i64 (H Int fun _ => (sdS c (k + 1)).1)), .lit (.int .u64 (H Int fun _ => (sdS c (k + 1)).2))] 55), (1, .rows 15 (H Nat fun _ => k + 1) (arowH H (sdG c)) 37)], 2⟩) (fun i => sdN c - i.1) ⟨0, Nat.zero_le _⟩ ?_ ?_
  · rw [hX0]
    refine .ofH (fun p hp => ?_) (fun p hp => ?_) (Nat.zero_le _)
    · simp only [List.mem_cons, List.not_mem_nil, or_false] at hp
      rcases hp with rfl | rfl | rfl
      · exact ⟨rfl, .ptr (by omega)⟩
      · exact ⟨rfl, .ful (by omega)⟩
      · exact ⟨by rw [← hp0.1.1]; rfl, .lit⟩
    · simp only [List.mem_cons, List.not_mem_nil, or_false] at hp
      subst hp
      exact ⟨rfl, by omega, c.blB _ _ (sdS c 0)⟩
  · have step : ∀ (id k : Nat) (s : Env) (hp : Heap) (nx : Nat) (f : Nat → List AV) (n' : Nat), n' = k + 1 → (∀ j, j < k + 1 → f j = arow (sdG c) j) → lk 3 s = some (.ptr 0 0) → lk 4 s = some (.slc id 0 15 n') → lk 5 s = some (.lit (.int .i64 (IntKind.i64.wrap ((sdN c : Int) - k - 1)))) → lk 0 hp = some (.cells [.vec 1 c.n c.rows, .lit (.int .i64 (sdS c (k + 1)).1), .lit (.int .u64 (sdS c (k + 1)).2)] 55) → lk id hp = some (.rows 15 n' f 37) → k < sdN c → id ≠ 0 →
        StLe 0 ⟨[(3, .ptr 0 0), (4, .slc 1 0 15 (k + 1)), (5, .lit (.int .i64 ((sdN c : Int) - (k + 1 : Nat))))], [(0, .cells [.vec 1 c.n c.rows, .lit (.int .i64 (sdS c (k + 1)).1), .lit (.int .u64 (sdS c (k + 1)).2)] 55), (1, .rows 15 (k + 1) (arow (sdG c)) 37)], 2⟩ ⟨s, hp, nx⟩ := by
      intro id k s hp nx f n' hn hf k3 k4 k5 k6 k7 hk hid
      subst hn
      have e5 : IntKind.i64.wrap ((sdN c : Int) - k - 1) = (sdN c : Int) - (k + 1 : Nat) := by rw [wi] <;> omega
      rw [e5] at k5
      refine .ofP (fun i => if i = 1 then id else i) (fun p hp => ?_) (fun p hp => ?_) (fun i hi => by omega) (fun i j hi hj e => ?_) (Nat.zero_le _)
      · simp only [List.mem_cons, List.not_mem_nil, or_false] at hp
        rcases hp with rfl | rfl | rfl
        · exact ⟨_, k3, Rn.ptr (π := fun i => if i = 1 then id else i) (i := 0) (by omega)⟩
        · exact ⟨_, k4, Rn.slc (π := fun i => if i = 1 then id else i) (i := 1) (by omega)⟩
        · exact ⟨_, k5, .same (q := 0) (by omega) (by omega) .lit⟩
      · simp only [List.mem_cons, List.not_mem_nil, or_false] at hp
        rcases hp with rfl | rfl
        · refine ⟨by omega, _, k6, ⟨rfl, fun _ => rfl⟩, fun p x hx => ⟨x, hx, .same (q := 0) (by omega) (by omega) (c.blB 0 _ (sdS c (k + 1)) p x hx)⟩⟩
        · exact ⟨by omega, _, k7, rnb_rows rfl (fun j hj => (hf j hj).symm) (fun j _ => arow_el _ j)⟩
      · rcases (by omega : i = 0 ∨ i = 1) with rfl | rfl <;> rcases (by omega : j = 0 ∨ j = 1) with rfl | rfl <;> simp at e ⊢ <;> omega
    rintro ⟨_ | k, hk⟩ H hH
    · have hb := sd_bd c 0 (by omega)
      conv in finish _ _ _ _ _ _ _ _ => cbv
      subst hH
      simp only [Fin.sat_ret, Fin.sat_br, Fin.sat_need, Fin.sat_again, AllP, stdH, and_true, true_and, decide_eq_true_eq, decide_eq_false_iff_not, Int.ofNat_eq_natCast, ncast, hX0, peta, arowH_std]
      refine ⟨fun hlt => ⟨hb.mono, by omega, ?_⟩, fun hge => ?_⟩
      · simp only [upd, List.length_nil, Nat.zero_add, if_true]
        exact ⟨⟨1, by omega⟩, by simp only; omega, step 1 0 _ _ _ _ _ rfl (app_arow (g := sdG c) (F_arms c (sdS c 0)).1 rfl (by omega)) rfl rfl (by rw [show (sdN c : Int) - ((0 : Nat) : Int) - 1 = (sdN c : Int) - 1 by omega]; rfl) rfl rfl (by omega) (by omega)⟩
      · have hN : sdN c = 0 := by omega
        have a1 := (p_one c 10 (sdS c 0) hb.mono).1
        refine ⟨hb.mono, fun hq => ⟨a1.bd hb, by omega, _, rfl, ?_, by simp⟩, fun hq => ⟨_, rfl, ?_, by simp⟩⟩
        · rw [sdL1 hN hq]
          exact frz_rows rfl (Nat.zero_le _) (by decide) (fun j _ => arow_len _ j) (app_arow (g := sdLg c) _ (sdLg_last hN) (by omega))
        · rw [sdL0 hN hq]
          exact .ful0
    · have hb0 := sd_pick c
      have hb := sd_bd c (k + 1) (by omega)
      conv in finish _ _ _ _ _ _ _ _ => cbv
      subst hH
      simp only [Fin.sat_ret, Fin.sat_br, Fin.sat_need, Fin.sat_again, AllP, stdH, and_true, true_and, decide_eq_true_eq, decide_eq_false_iff_not, Int.ofNat_eq_natCast, ncast, hX0, peta, arowH_std]
      refine ⟨fun hlt => ⟨hb.mono, by omega, ?_⟩, fun hge => ?_⟩
      · simp only [upd, List.length_nil, Nat.zero_add, if_true]
        exact ⟨⟨k + 1 + 1, by omega⟩, by simp only; omega, step 2 (k + 1) _ _ _ _ _ rfl (app_arow (g := sdG c) (F_arms c (sdS c (k + 1))).1 rfl (fun _ _ => rfl)) rfl rfl rfl rfl rfl (by omega) (by omega)⟩
      · have hN : sdN c = k + 1 := by omega
        have a1 := (p_one c 10 (sdS c (k + 1)) (hb.mono (by omega))).1
        refine ⟨hb.mono (by omega), fun hq => ⟨a1.bd hb (by omega), by omega, _, rfl, ?_, by simp⟩, fun hq => ⟨_, rfl, ?_, by simp⟩⟩
        · rw [sdL1 hN hq]
          exact frz_rows rfl (Nat.zero_le _) (by decide) (fun j _ => arow_len _ j) (app_arow (g := sdLg c) _ (sdLg_last hN) (fun j hj => sdLg_lt (by omega)))
        · rw [sdL0 hN hq]
          exact frz_rows rfl (Nat.zero_le _) (by decide) (fun j _ => arow_len _ j) (fun j hj => sdLg_lt (by omega))
noncomputable def e_DrawSimplest (c : Cd) : Entry := codeE 14 c fun H => .vec 15 (H Nat fun _ => sdLn c) (arowH H (sdLg c))
theorem eok_DrawSimplest (c : Cd) : EntryOk Tryz.prog (e_DrawSimplest c) := codeE_ok (by unfold isBody; kernel_rfl) (c_DrawSimplest c)

end Go.Proofs.YtmpbmbioeeckeaaGreatDoor.AM
