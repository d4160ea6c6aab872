/- Lemmas and contracts (Rgd); conditions: none. -/
import Derived.Test.YtcjjffmbhionmaaGreatDoorK03
import Derived.Test.YtcjjffmbhionmaaGreatDoorK19
import Derived.Test.YtcjjffmbhionmaaGreatDoorK23
import Derived.Test.YtcjjffmbhionmaaGreatDoorK28
set_option linter.unusedVariables false
set_option linter.unusedSimpArgs false
set_option maxRecDepth 100000
set_option maxHeartbeats 4000000
set_option cbv.maxSteps 3000000
namespace Go.Proofs.YtcjjffmbhionmaaGreatDoor.AM
/- Registers are drawn; conditions: none. -/
theorem rows_snocW {L : List Grt} {g : Grt} : RowsEq 18 (L ++ [g]).length (rowsW stdH fun _ => L ++ [g]) (L.length + 1) (app L.length (rowsW stdH fun _ => L) (rowsOf 18 (rowW.cells stdH fun _ => g))) := by
  have := GW_eq (l := L) (g := g)
  unfold GW at this
  rw [dr0] at this
  exact this
def nmL : List ByteArray := [(⟨⟨[65, 115, 104, 101]⟩⟩ : ByteArray), (⟨⟨[66, 114, 111, 111, 107]⟩⟩ : ByteArray), (⟨⟨[67, 111, 108, 101]⟩⟩ : ByteArray), (⟨⟨[68, 117, 110, 110]⟩⟩ : ByteArray)]
theorem nmL_sz : Sz 200 nmL := ⟨by decide⟩
def cfl (L : List Grt) (x : Arm) : Bool := L.any (cnS x)
theorem cfl_n (L : List Grt) (x : Arm) : decide ((0 : Int) < (nmb (cnS x) L L.length).length) = cfl L x := by
  rw [Bool.eq_iff_iff, decide_eq_true_eq, nmb_all, List.length_map]
  unfold cfl
  rw [List.any_eq_true]
  constructor
  · intro h
    obtain ⟨y, hy⟩ := List.exists_mem_of_length_pos (l := L.filter (cnS x)) (by omega)
    exact ⟨y, List.mem_filter.1 hy⟩
  · rintro ⟨y, hy⟩
    have := List.length_pos_of_mem (List.mem_filter.2 hy)
    omega
noncomputable def rgB (c : Cd) (a : Arm) (st : DS) : Arm × DS := if (F_one c 2 (F_like c a st).2).1 = true then F_arms c (F_one c 2 (F_like c a st).2).2 else ((F_like c a st).1, (F_one c 2 (F_like c a st).2).2)
theorem rgB_ok (c : Cd) (a : Arm) (st : DS) (h : Bd 80 st) : Adv 80 st (rgB c a st).2 := by
  have a1 := (p_like c a st (h.mono (by omega))).1
  have b1 := a1.bd h (by omega : 40 + 40 ≤ 80)
  have a2 := (p_one c 2 (F_like c a st).2 (b1.mono (by omega))).1
  have b2 := a2.bd b1 (by omega : 2 + 38 ≤ 40)
  have a3 := (p_arms c (F_one c 2 (F_like c a st).2).2 (b2.mono (by omega))).1
  unfold rgB
  split
  · exact a1.trans (a2.trans a3 (Nat.le_refl _)) (by omega)
  · exact a1.trans a2 (by omega)
noncomputable def rgG (c : Cd) (a : Arm) : Nat → List Grt → Int → Int → DS → List Grt × DS
  | 0, L, _, _, st => (L, st)
  | n + 1, L, y, k, st => if cfl L (rgB c a st).1 = true then rgG c a n L y k (rgB c a st).2 else rgG c a n (L ++ [⟨k + 1 + (F_pick c 2 (F_pick c 20 (rgB c a st).2).2).1, (F_ofS c nmL (F_pick c 2 (F_pick c 20 (rgB c a st).2).2).2).1, y + (F_pick c 20 (rgB c a st).2).1, (rgB c a st).1⟩]) (y + (F_pick c 20 (rgB c a st).2).1) (k + 1 + (F_pick c 2 (F_pick c 20 (rgB c a st).2).2).1) (F_ofS c nmL (F_pick c 2 (F_pick c 20 (rgB c a st).2).2).2).2
theorem rgG_c {c : Cd} {a : Arm} {n : Nat} {L : List Grt} {y k : Int} {st s : DS} {x : Arm} (hb : rgB c a st = (x, s)) (hc : cfl L x = true) : rgG c a (n + 1) L y k st = rgG c a n L y k s := by
  conv => lhs; unfold rgG
  simp only [hb, hc, if_true]
theorem rgG_n {c : Cd} {a : Arm} {n : Nat} {L : List Grt} {y k : Int} {st s : DS} {x : Arm} (hb : rgB c a st = (x, s)) (hc : cfl L x = false) : rgG c a (n + 1) L y k st = rgG c a n (L ++ [⟨k + 1 + (F_pick c 2 (F_pick c 20 s).2).1, (F_ofS c nmL (F_pick c 2 (F_pick c 20 s).2).2).1, y + (F_pick c 20 s).1, x⟩]) (y + (F_pick c 20 s).1) (k + 1 + (F_pick c 2 (F_pick c 20 s).2).1) (F_ofS c nmL (F_pick c 2 (F_pick c 20 s).2).2).2 := by
  conv => lhs; unfold rgG
  simp only [hb, hc, Bool.false_eq_true, if_false]
theorem TlS4_H {H : Hold} (hH : H = stdH) (x y z w : ByteArray) : Tl rowS 4 (rowsS H fun _ => [x, y, z, w]) = [x, y, z, w] := by subst hH; exact Tl_rowsT okS [x, y, z, w]
theorem rgG_ok (c : Cd) (a : Arm) : ∀ (n : Nat) (L : List Grt) (y k : Int) (st : DS) (m : Nat), Bd (86 * n + m) st → (∀ g ∈ L, g.name.size ≤ 200) → Adv (86 * n) st (rgG c a n L y k st).2 ∧ (rgG c a n L y k st).1.length ≤ L.length + n ∧ ∀ g ∈ (rgG c a n L y k st).1, g.name.size ≤ 200
  | 0, L, y, k, st, m, _, hL => ⟨Adv.refl _ _, Nat.le_refl _, hL⟩
  | n + 1, L, y, k, st, m, h, hL => by
    have a1 := rgB_ok c a st (h.mono (by omega))
    have b1 := a1.bd h (by omega : 80 + (6 + 86 * n + m) ≤ 86 * (n + 1) + m)
    obtain ⟨a2, _, _⟩ := p_pick c 20 (rgB c a st).2 (b1.mono (by omega))
    have b2 := a2.bd b1 (by omega : 2 + (4 + 86 * n + m) ≤ 6 + 86 * n + m)
    obtain ⟨a3, _, _⟩ := p_pick c 2 (F_pick c 20 (rgB c a st).2).2 (b2.mono (by omega))
    have b3 := a3.bd b2 (by omega : 2 + (2 + 86 * n + m) ≤ 4 + 86 * n + m)
    obtain ⟨a4, l4⟩ := p_ofS c nmL (F_pick c 2 (F_pick c 20 (rgB c a st).2).2).2 (b3.mono (by omega)) (by decide) (by decide) nmL_sz
    have b4 := a4.bd b3 (by omega : 2 + (86 * n + m) ≤ 2 + 86 * n + m)
    unfold rgG
    split
    · obtain ⟨h1, h2, h3⟩ := rgG_ok c a n L y k (rgB c a st).2 m (b1.mono (by omega)) hL
      exact ⟨a1.trans h1 (by omega), by omega, h3⟩
    · obtain ⟨h1, h2, h3⟩ := rgG_ok c a n (L ++ [⟨k + 1 + (F_pick c 2 (F_pick c 20 (rgB c a st).2).2).1, (F_ofS c nmL (F_pick c 2 (F_pick c 20 (rgB c a st).2).2).2).1, y + (F_pick c 20 (rgB c a st).2).1, (rgB c a st).1⟩]) (y + (F_pick c 20 (rgB c a st).2).1) (k + 1 + (F_pick c 2 (F_pick c 20 (rgB c a st).2).2).1) (F_ofS c nmL (F_pick c 2 (F_pick c 20 (rgB c a st).2).2).2).2 m b4 (by
        intro g hg
        rcases List.mem_append.1 hg with hg | hg
        · exact hL g hg
        · rw [List.mem_singleton] at hg; subst hg; exact l4)
      rw [List.length_append, List.length_singleton] at h2
      exact ⟨a1.trans (a2.trans (a3.trans (a4.trans h1 (Nat.le_refl _)) (Nat.le_refl _)) (Nat.le_refl _)) (by omega), by omega, h3⟩
noncomputable def rgY (c : Cd) (st : DS) : List Grt × DS := rgG c (F_arms c (F_pick c 100 st).2).1 (F_pick c 6 (F_arms c (F_pick c 100 st).2).2).1.toNat [] (1500 + (F_pick c 100 st).1) 0 (F_pick c 6 (F_arms c (F_pick c 100 st).2).2).2
theorem rgY_ok (c : Cd) (st : DS) (h : Bd 472 st) : Adv 472 st (rgY c st).2 ∧ ((rgY c st).1.length ≤ 5 ∧ ∀ g ∈ (rgY c st).1, g.name.size ≤ 200) := by
  obtain ⟨a1, m1, n1⟩ := p_pick c 100 st (h.mono (by omega))
  have b1 := a1.bd h (by omega : 2 + 470 ≤ 472)
  have a2 := (p_arms c (F_pick c 100 st).2 (b1.mono (by omega))).1
  have b2 := a2.bd b1 (by omega : 38 + 432 ≤ 470)
  obtain ⟨a3, m3, n3⟩ := p_pick c 6 (F_arms c (F_pick c 100 st).2).2 (b2.mono (by omega))
  have b3 := a3.bd b2 (by omega : 2 + 430 ≤ 432)
  obtain ⟨h1, h2, h3⟩ := rgG_ok c (F_arms c (F_pick c 100 st).2).1 (F_pick c 6 (F_arms c (F_pick c 100 st).2).2).1.toNat [] (1500 + (F_pick c 100 st).1) 0 (F_pick c 6 (F_arms c (F_pick c 100 st).2).2).2 0 (b3.mono (by omega)) (by simp)
  simp only [List.length_nil] at h2
  exact ⟨a1.trans (a2.trans (a3.trans (h1.le (by omega : _ ≤ 430)) (Nat.le_refl _)) (Nat.le_refl _)) (by omega), by unfold rgY; omega, h3⟩
def r_register (n : Nat) (H : Hold) (y : Unit → List Grt) : AV := .agg [.slc n 0 18 (H Nat fun _ => ((y ())).length)]
def nb_register (H : Hold) (y : Unit → List Grt) : List Blk := [.rows 18 (H Nat fun _ => ((y ())).length) (rowsW H fun _ => (y ())) 72]
theorem x_register (c : Cd)  (st : DS) (h : Bd 472 st)  : ∃ y, DrwM Tryz.prog 66 68 472 r_register nb_register (fun y => y.length ≤ 5 ∧ ∀ g ∈ y, g.name.size ≤ 200) c [] st y := by
  have hB : Base Tryz.prog (tabΓ [e_pick c, e_arms c, e_like c, e_one c, e_l16Conflicts, e_ofS c]) tabO := base_of tabOkO (ents_cons (eok_pick c) <| ents_cons (eok_arms c) <| ents_cons (eok_like c) <| ents_cons (eok_one c) <| ents_cons eok_l16Conflicts <| ents_cons (eok_ofS c) <| ents_nil)
  refine drwM_okL (N := 56) hB (draw_ok hB mixed) Tryz.func68 rfl rfl 66 472 r_register nb_register (fun y => y.length ≤ 5 ∧ ∀ g ∈ y, g.name.size ≤ 200) c (fun H => []) st 400 (by simp) (fun x hx => ?_) (rgY c st) (rgY_ok c st h) ?_
  · cases hx
  intro X hX hX0 H hH
  conv in Fin.chk _ _ => cbv
  try simp only [zqs, Plain_rowsC, Plain_rowsD, zqx, AllP, zqw, upd, if_true]
  simp only [hetaA hH, heta hH]
  obtain ⟨a1, m1, n1⟩ := p_pick c 100 st (h.mono (by omega))
  have b1 := a1.bd h (by omega : 2 + 470 ≤ 472)
  have a2 := (p_arms c (F_pick c 100 st).2 (b1.mono (by omega))).1
  have b2 := a2.bd b1 (by omega : 38 + 432 ≤ 470)
  obtain ⟨a3, m3, n3⟩ := p_pick c 6 (F_arms c (F_pick c 100 st).2).2 (b2.mono (by omega))
  have b3 := a3.bd b2 (by omega : 2 + 430 ≤ 432)
  have eY : rgY c st = rgG c (F_arms c (F_pick c 100 st).2).1 (F_pick c 6 (F_arms c (F_pick c 100 st).2).2).1.toNat [] (1500 + (F_pick c 100 st).1) 0 (F_pick c 6 (F_arms c (F_pick c 100 st).2).2).2 := rfl
  generalize F_pick c 100 st = k1 at *
  obtain ⟨k1, s1⟩ := k1
  simp only at *
  generalize F_arms c s1 = a at *
  obtain ⟨a, s2⟩ := a
  simp only at *
  generalize F_pick c 6 s2 = k3 at *
  obtain ⟨k3, s3⟩ := k3
  simp only at *
  refine ⟨?_, ?_, ?_, ?_⟩
  · try simp only [hH, stdH, zqz, ne_eq, zqy]
    exact h.mono
  · try simp only [hH, stdH, zqz, ne_eq, zqy]
    exact b1.mono
  · try simp only [hH, stdH, zqz, ne_eq, zqy]
    exact b2.mono
  · have g0 : k3.toNat ≤ 5 ∧ ([] : List Grt).length + k3.toNat ≤ 5 ∧ (1500 ≤ 1500 + k1 ∧ 1500 + k1 ≤ 1700 - 20 * (k3.toNat : Int)) ∧ ((0 : Int) ≤ 0 ∧ (0 : Int) ≤ 20 - 2 * (k3.toNat : Int)) ∧ Bd (86 * k3.toNat) s3 ∧ (∀ g ∈ ([] : List Grt), g.name.size ≤ 200) ∧ rgG c a k3.toNat [] (1500 + k1) 0 s3 = rgY c st := ⟨by omega, by simp only [List.length_nil]; omega, by omega, by omega, b3.mono (by omega), by simp, eY.symm⟩
    refine loop_c hB (draw_ok hB mixed) hX hX0 hH [0, 2, 3, 4, 5, 6, 7] (ι := { p : Nat × List Grt × Int × Int × DS // p.1 ≤ 5 ∧ p.2.1.length + p.1 ≤ 5 ∧ (1500 ≤ p.2.2.1 ∧ p.2.2.1 ≤ 1700 - 20 * (p.1 : Int)) ∧ (0 ≤ p.2.2.2.1 ∧ p.2.2.2.1 ≤ 20 - 2 * (p.1 : Int)) ∧ Bd (86 * p.1) p.2.2.2.2 ∧ (∀ g ∈ p.2.1, g.name.size ≤ 200) ∧ rgG c a p.1 p.2.1 p.2.2.1 p.2.2.2.1 p.2.2.2.2 = rgY c st }) 400 (fun i => [.i (H Int fun _ => i.1.2.2.1), .i (H Int fun _ => i.1.2.2.2.1), .i (H Int fun _ => (i.1.1 : Nat)), .i (H Int fun _ => i.1.2.2.2.2.1), .i (H Int fun _ => i.1.2.2.2.2.2), .r (H Nat fun _ => (i.1.2.1).length) (rowsW H fun _ => i.1.2.1)]) (fun i => i.1.1) (⟨(k3.toNat, [], 1500 + k1, 0, s3), g0⟩) ?_ ?_
    · (conv in matchSt _ _ _ _ => cbv); simp only [AllG, AllP, and_true, hH, stdH, zql, ncast, zqe, zqy]
      rw [wi (by omega) (by omega)]
      all_goals (repeat' (with_reducible refine And.intro ?_ ?_)) <;> (first | exact Eq.refl _ | exact True.intro | exact RowsEq.ofT okRW rfl (Shp_zero _) rfl | exact c.rqN | omega)
    · intro I hI i
      conv in Fin.chk _ _ => cbv
      try simp only [zqs, Plain_rowsC, Plain_rowsD, zqx, AllP, zqw, upd, if_true]
      obtain ⟨⟨n, L, y, k, s4⟩, g1, g2, g3, g4, g5, g6, g7⟩ := i
      simp only at g1 g2 g3 g4 g5 g6 g7
      simp only [hetaA hH, heta hH, TlW_H hH, TlS4_H hH]
      refine ⟨fun h1 => ?_, fun h1 => ?_⟩
      · simp only [hH, stdH, zqz, ne_eq, zqy] at h1
        obtain ⟨m, rfl⟩ : ∃ m, n = m + 1 := ⟨n - 1, by omega⟩
        have e5 : IntKind.i64.wrap (((m + 1 : Nat) : Int) - 1) = (m : Int) := by rw [wi] <;> omega
        have a4 := (p_like c a s4 (g5.mono (by omega))).1
        have b4 := a4.bd g5 (by omega : 40 + (46 + 86 * m) ≤ 86 * (m + 1))
        have a9 := (p_one c 2 (F_like c a s4).2 (b4.mono (by omega))).1
        have b9 := a9.bd b4 (by omega : 2 + (44 + 86 * m) ≤ 46 + 86 * m)
        refine ⟨?_, ?_, fun h2 => ⟨?_, ?_⟩, fun h2 => ?_⟩
        · try simp only [hH, stdH, zqz, ne_eq, zqy]
          exact g5.mono (by omega)
        · try simp only [hH, stdH, zqz, ne_eq, zqy]
          exact b4.mono (by omega)
        · try simp only [hH, stdH, zqz, ne_eq, zqy]
          exact b9.mono (by omega)
        · simp only [hH, stdH, Int.toNat_natCast] at h2
          have a10 := (p_arms c (F_one c 2 (F_like c a s4).2).2 (b9.mono (by omega))).1
          have bB := a10.bd b9 (by omega : 38 + (6 + 86 * m) ≤ 44 + 86 * m)
          have hb : rgB c a s4 = ((F_arms c (F_one c 2 (F_like c a s4).2).2).1, (F_arms c (F_one c 2 (F_like c a s4).2).2).2) := if_pos h2
          obtain ⟨a5, m5, n5⟩ := p_pick c 20 (F_arms c (F_one c 2 (F_like c a s4).2).2).2 (bB.mono (by omega))
          have b5 := a5.bd bB (by omega : 2 + (4 + 86 * m) ≤ 6 + 86 * m)
          obtain ⟨a6, m6, n6⟩ := p_pick c 2 (F_pick c 20 (F_arms c (F_one c 2 (F_like c a s4).2).2).2).2 (b5.mono (by omega))
          have b6 := a6.bd b5 (by omega : 2 + (2 + 86 * m) ≤ 4 + 86 * m)
          obtain ⟨a7, l7⟩ := p_ofS c nmL (F_pick c 2 (F_pick c 20 (F_arms c (F_one c 2 (F_like c a s4).2).2).2).2).2 (b6.mono (by omega)) (by decide) (by decide) nmL_sz
          have b7 := a7.bd b6 (by omega : 2 + 86 * m ≤ 2 + 86 * m)
          refine ⟨⟨?_, ?_, ?_, ?_⟩, fun h3 => ?_, fun h3 => ⟨?_, ?_, ⟨?_, ?_, ?_, ?_, ?_⟩, ⟨?_, ?_⟩, ?_⟩⟩
          · try simp only [hH, stdH, zqz, ne_eq, zqy]
            exact fun j _ => rfl
          · try simp only [hH, stdH, zqz, ne_eq, zqy]
            exact Shp_W _ _
          · try simp only [hH, stdH, zqz, ne_eq, zqy]
            omega
          · try simp only [hH, stdH, zqz, ne_eq, zqy]
          · simp only [hH, stdH, Int.toNat_natCast] at h3
            rw [cfl_n] at h3
            refine ⟨⟨(m, L, y, k, (F_arms c (F_one c 2 (F_like c a s4).2).2).2), by omega, by simp only; omega, by simp only; omega, by simp only; omega, bB.mono (by simp only; omega), g6, (rgG_c hb h3).symm.trans g7⟩, by simp only; omega, ?_⟩
            rw [hI]
            (conv in matchSt _ _ _ _ => cbv); simp only [AllG, AllP, and_true, hH, stdH, zql, ncast, zqe, zqy]
            rw [e5]
            all_goals (repeat' (with_reducible refine And.intro ?_ ?_)) <;> (first | exact Eq.refl _ | exact True.intro | exact Nat.le_refl _ | exact RowsEq.self okRW | exact RowsEq.ofT okRW rfl (Shp_zero _) rfl | exact RowsEq.snoc okRW rfl | exact List.length_append | exact c.rqN)
          · try simp only [hH, stdH, zqz, ne_eq, zqy]
            exact bB.mono (by omega)
          · try simp only [hH, stdH, zqz, ne_eq, zqy]
            exact b5.mono (by omega)
          · try simp only [hH, stdH, zqz, ne_eq, zqy]
            exact b6.mono (by omega)
          · try simp only [hH, stdH, zqz, ne_eq, zqy]
            exact Shp_rowsT okS 4 (fun _ => nmL)
          · try simp only [hH, stdH, zqz, ne_eq, zqy]
            exact (by decide : 1 ≤ nmL.length)
          · try simp only [hH, stdH, zqz, ne_eq, zqy]
            exact (by decide : nmL.length ≤ 100)
          · try simp only [hH, stdH, zqz, ne_eq, zqy]
            exact nmL_sz
          · try simp only [hH, stdH, zqz, ne_eq, zqy]
          · try simp only [hH, stdH, zqz, ne_eq, zqy]
            ((repeat' (with_reducible refine And.intro ?_ ?_)) <;> (first | exact True.intro | omega | exact Eq.refl _))
          · simp only [hH, stdH, Int.toNat_natCast] at h3
            rw [cfl_n] at h3
            refine ⟨⟨(m, L ++ [⟨k + 1 + (F_pick c 2 (F_pick c 20 (F_arms c (F_one c 2 (F_like c a s4).2).2).2).2).1, (F_ofS c nmL (F_pick c 2 (F_pick c 20 (F_arms c (F_one c 2 (F_like c a s4).2).2).2).2).2).1, y + (F_pick c 20 (F_arms c (F_one c 2 (F_like c a s4).2).2).2).1, (F_arms c (F_one c 2 (F_like c a s4).2).2).1⟩], y + (F_pick c 20 (F_arms c (F_one c 2 (F_like c a s4).2).2).2).1, k + 1 + (F_pick c 2 (F_pick c 20 (F_arms c (F_one c 2 (F_like c a s4).2).2).2).2).1, (F_ofS c nmL (F_pick c 2 (F_pick c 20 (F_arms c (F_one c 2 (F_like c a s4).2).2).2).2).2).2), by omega, by simp only [List.length_append, List.length_singleton]; omega, by simp only; omega, by simp only; omega, b7.mono (by simp only; omega), fun g hg => ?_, (rgG_n hb h3).symm.trans g7⟩, by simp only; omega, ?_⟩
            · rcases List.mem_append.1 hg with hg | hg
              · exact g6 g hg
              · rw [List.mem_singleton] at hg
                subst hg
                exact l7
            · rw [hI]
              (conv in matchSt _ _ _ _ => cbv); simp only [AllG, AllP, and_true, hH, stdH, zql, ncast, zqe, zqy]
              have wy : IntKind.i64.wrap (y + (F_pick c 20 (F_arms c (F_one c 2 (F_like c a s4).2).2).2).1) = y + (F_pick c 20 (F_arms c (F_one c 2 (F_like c a s4).2).2).2).1 := wi (by omega) (by omega)
              have wk : IntKind.i64.wrap (k + 1) = k + 1 := wi (by omega) (by omega)
              have wl : IntKind.i64.wrap (k + 1 + (F_pick c 2 (F_pick c 20 (F_arms c (F_one c 2 (F_like c a s4).2).2).2).2).1) = k + 1 + (F_pick c 2 (F_pick c 20 (F_arms c (F_one c 2 (F_like c a s4).2).2).2).2).1 := wi (by omega) (by omega)
              simp only [e5, wy, wk, wl]
              all_goals (repeat' (with_reducible refine And.intro ?_ ?_)) <;> (first | exact Eq.refl _ | exact True.intro | exact GW_eq | exact RowsEq.snoc okRW rfl | exact List.length_append | exact c.rqN)
        · simp only [hH, stdH, Int.toNat_natCast] at h2
          have bB : Bd (6 + 86 * m) (F_one c 2 (F_like c a s4).2).2 := b9.mono (by omega)
          have hb : rgB c a s4 = ((F_like c a s4).1, (F_one c 2 (F_like c a s4).2).2) := if_neg (ne_true_of_eq_false h2)
          obtain ⟨a5, m5, n5⟩ := p_pick c 20 (F_one c 2 (F_like c a s4).2).2 (bB.mono (by omega))
          have b5 := a5.bd bB (by omega : 2 + (4 + 86 * m) ≤ 6 + 86 * m)
          obtain ⟨a6, m6, n6⟩ := p_pick c 2 (F_pick c 20 (F_one c 2 (F_like c a s4).2).2).2 (b5.mono (by omega))
          have b6 := a6.bd b5 (by omega : 2 + (2 + 86 * m) ≤ 4 + 86 * m)
          obtain ⟨a7, l7⟩ := p_ofS c nmL (F_pick c 2 (F_pick c 20 (F_one c 2 (F_like c a s4).2).2).2).2 (b6.mono (by omega)) (by decide) (by decide) nmL_sz
          have b7 := a7.bd b6 (by omega : 2 + 86 * m ≤ 2 + 86 * m)
          refine ⟨⟨?_, ?_, ?_, ?_⟩, fun h3 => ?_, fun h3 => ⟨?_, ?_, ⟨?_, ?_, ?_, ?_, ?_⟩, ⟨?_, ?_⟩, ?_⟩⟩
          · try simp only [hH, stdH, zqz, ne_eq, zqy]
            exact fun j _ => rfl
          · try simp only [hH, stdH, zqz, ne_eq, zqy]
            exact Shp_W _ _
          · try simp only [hH, stdH, zqz, ne_eq, zqy]
            omega
          · try simp only [hH, stdH, zqz, ne_eq, zqy]
          · simp only [hH, stdH, Int.toNat_natCast] at h3
            rw [cfl_n] at h3
            refine ⟨⟨(m, L, y, k, (F_one c 2 (F_like c a s4).2).2), by omega, by simp only; omega, by simp only; omega, by simp only; omega, bB.mono (by simp only; omega), g6, (rgG_c hb h3).symm.trans g7⟩, by simp only; omega, ?_⟩
            rw [hI]
            (conv in matchSt _ _ _ _ => cbv); simp only [AllG, AllP, and_true, hH, stdH, zql, ncast, zqe, zqy]
            rw [e5]
            all_goals (repeat' (with_reducible refine And.intro ?_ ?_)) <;> (first | exact Eq.refl _ | exact True.intro | exact Nat.le_refl _ | exact RowsEq.self okRW | exact RowsEq.ofT okRW rfl (Shp_zero _) rfl | exact RowsEq.snoc okRW rfl | exact List.length_append | exact c.rqN)
          · try simp only [hH, stdH, zqz, ne_eq, zqy]
            exact bB.mono (by omega)
          · try simp only [hH, stdH, zqz, ne_eq, zqy]
            exact b5.mono (by omega)
          · try simp only [hH, stdH, zqz, ne_eq, zqy]
            exact b6.mono (by omega)
          · try simp only [hH, stdH, zqz, ne_eq, zqy]
            exact Shp_rowsT okS 4 (fun _ => nmL)
          · try simp only [hH, stdH, zqz, ne_eq, zqy]
            exact (by decide : 1 ≤ nmL.length)
          · try simp only [hH, stdH, zqz, ne_eq, zqy]
            exact (by decide : nmL.length ≤ 100)
          · try simp only [hH, stdH, zqz, ne_eq, zqy]
            exact nmL_sz
          · try simp only [hH, stdH, zqz, ne_eq, zqy]
          · try simp only [hH, stdH, zqz, ne_eq, zqy]
            ((repeat' (with_reducible refine And.intro ?_ ?_)) <;> (first | exact True.intro | omega | exact Eq.refl _))
          · simp only [hH, stdH, Int.toNat_natCast] at h3
            rw [cfl_n] at h3
            refine ⟨⟨(m, L ++ [⟨k + 1 + (F_pick c 2 (F_pick c 20 (F_one c 2 (F_like c a s4).2).2).2).1, (F_ofS c nmL (F_pick c 2 (F_pick c 20 (F_one c 2 (F_like c a s4).2).2).2).2).1, y + (F_pick c 20 (F_one c 2 (F_like c a s4).2).2).1, (F_like c a s4).1⟩], y + (F_pick c 20 (F_one c 2 (F_like c a s4).2).2).1, k + 1 + (F_pick c 2 (F_pick c 20 (F_one c 2 (F_like c a s4).2).2).2).1, (F_ofS c nmL (F_pick c 2 (F_pick c 20 (F_one c 2 (F_like c a s4).2).2).2).2).2), by omega, by simp only [List.length_append, List.length_singleton]; omega, by simp only; omega, by simp only; omega, b7.mono (by simp only; omega), fun g hg => ?_, (rgG_n hb h3).symm.trans g7⟩, by simp only; omega, ?_⟩
            · rcases List.mem_append.1 hg with hg | hg
              · exact g6 g hg
              · rw [List.mem_singleton] at hg
                subst hg
                exact l7
            · rw [hI]
              (conv in matchSt _ _ _ _ => cbv); simp only [AllG, AllP, and_true, hH, stdH, zql, ncast, zqe, zqy]
              have wy : IntKind.i64.wrap (y + (F_pick c 20 (F_one c 2 (F_like c a s4).2).2).1) = y + (F_pick c 20 (F_one c 2 (F_like c a s4).2).2).1 := wi (by omega) (by omega)
              have wk : IntKind.i64.wrap (k + 1) = k + 1 := wi (by omega) (by omega)
              have wl : IntKind.i64.wrap (k + 1 + (F_pick c 2 (F_pick c 20 (F_one c 2 (F_like c a s4).2).2).2).1) = k + 1 + (F_pick c 2 (F_pick c 20 (F_one c 2 (F_like c a s4).2).2).2).1 := wi (by omega) (by omega)
              simp only [e5, wy, wk, wl]
              all_goals (repeat' (with_reducible refine And.intro ?_ ?_)) <;> (first | exact Eq.refl _ | exact True.intro | exact GW_eq | exact RowsEq.snoc okRW rfl | exact List.length_append | exact c.rqN)
      · simp only [hH, stdH, zqz, ne_eq, zqy] at h1
        obtain rfl : n = 0 := by omega
        have e : (L, s4) = rgY c st := g7
        rw [← e]
        try simp only [hH, stdH, zqz, ne_eq, zqy]
        all_goals (repeat' (with_reducible refine And.intro ?_ ?_)) <;> (first | exact Eq.refl _ | exact True.intro | exact RowsEq.self okRW | exact c.rqN)
noncomputable def F_register (c : Cd)  (st : DS) : List Grt × DS := drwM Tryz.prog 66 68 472 r_register nb_register (fun y => y.length ≤ 5 ∧ ∀ g ∈ y, g.name.size ≤ 200) c [] st
noncomputable def e_register (c : Cd) : Entry := curEN 66 68 472 c fun H st a nx => match a with
  | [] => some (r_register nx H (fun _ => (F_register c  st).1), nb_register H (fun _ => (F_register c  st).1), (fun _ => (F_register c  st).2), [])
  | _ => none
theorem eok_register (c : Cd) : EntryOk Tryz.prog (e_register c) := curEN_ok (by unfold isBody; kernel_rfl) (by
  intro st a nx r nb y ob e hb hob
  split at e
  · simp only [zqt] at e
    obtain ⟨rfl, rfl, rfl, rfl⟩ := e
    have hd := drwM_spec (x_register c  st hb )
    refine ⟨_, _, ConN.args (.cons .rfl .nil) hd.1, fun x hx => ?_, rfl, ?_, fun q b hq => ⟨b, hq, .same ?_⟩⟩
    · cases hx
    · (repeat' (first | exact .nil | exact .slc ⟨by omega, by simp [nb_register]⟩ (by omega) | exact .pl .lit | apply ReL.cons | apply Re.aggL | apply Re.tupL))
    · replace hq := List.mem_of_getElem? hq
      simp only [nb_register, zqu] at hq; subst hq; exact bT_bl okRW _ (fun _ => (F_register c  st).1) _
  · simp at e)
theorem p_register (c : Cd)  (st : DS) (h : Bd 472 st)  : Adv 472 st (F_register c  st).2 ∧ (fun y => y.length ≤ 5 ∧ ∀ g ∈ y, g.name.size ≤ 200) (F_register c  st).1 := (drwM_spec (x_register c  st h )).2
def nmL5 : List ByteArray := [(⟨⟨[]⟩⟩ : ByteArray), (⟨⟨[97, 115, 104, 101]⟩⟩ : ByteArray), (⟨⟨[65, 98, 99, 100, 101, 102, 103, 104, 105, 106, 107, 108]⟩⟩ : ByteArray), (⟨⟨[65, 98, 99, 100, 101, 102, 103, 104, 105, 106, 107, 108, 109]⟩⟩ : ByteArray), (⟨⟨[65]⟩⟩ : ByteArray)]
theorem nmL5_sz : Sz 200 nmL5 := ⟨by decide⟩
def arF (n : Int) : Grt := ⟨IntKind.i64.wrap (100 + n), (⟨⟨[90, 101, 100]⟩⟩ : ByteArray), 2900, ⟨⟨0, 0, IntKind.i64.wrap (1 + n.tmod 9), 0⟩, 0, 0, 0, ⟨0, 0, 0, 0⟩, ⟨IntKind.i64.wrap (1 + n.tmod 6), IntKind.i64.wrap (4 + n.tmod 5), 0, IntKind.i64.wrap (1 + IntKind.i64.wrap (n.tdiv 2))⟩⟩⟩
noncomputable def arM (c : Cd) : Nat → Nat → List Grt → DS → List Grt × DS
  | 0, _, L, st => (L, (F_pick c 2 st).2)
  | f + 1, i, L, st => if (L.length : Int) < 12 + (F_pick c 2 st).1 then arM c f (i + 1) (L ++ [arF (i : Nat)]) (F_pick c 2 st).2 else (L, (F_pick c 2 st).2)
theorem arM_ok (c : Cd) : ∀ (f i : Nat) (L : List Grt) (st : DS) (k : Nat), Bd (2 * f + 2 + k) st → (∀ g ∈ L, g.name.size ≤ 200) → Adv (2 * f + 2) st (arM c f i L st).2 ∧ (arM c f i L st).1.length ≤ L.length + f ∧ ∀ g ∈ (arM c f i L st).1, g.name.size ≤ 200
  | 0, i, L, st, k, h, hL => by
    have a1 := (p_pick c 2 st (h.mono (by omega))).1
    exact ⟨a1.le (by omega), by simp [arM], hL⟩
  | f + 1, i, L, st, k, h, hL => by
    have a1 := (p_pick c 2 st (h.mono (by omega))).1
    unfold arM
    split
    · obtain ⟨h1, h2, h3⟩ := arM_ok c f (i + 1) (L ++ [arF (i : Nat)]) (F_pick c 2 st).2 k (a1.bd h (by omega)) (by
        intro g hg
        rcases List.mem_append.1 hg with hg | hg
        · exact hL g hg
        · rw [List.mem_singleton] at hg; subst hg; show ((⟨⟨[90, 101, 100]⟩⟩ : ByteArray)).size ≤ 200; decide)
      refine ⟨a1.trans h1 (by omega), ?_, h3⟩
      rw [List.length_append, List.length_singleton] at h2; omega
    · exact ⟨a1.le (by omega), by simp, hL⟩
noncomputable def amNum (c : Cd) (st : DS) : Int × DS := F_among c 4 (ints (rowsN .i64 stdH fun _ => [0, 1000, 1, 999])) st
noncomputable def amYr (c : Cd) (st : DS) : Int × DS := F_among c 4 (ints (rowsN .i64 stdH fun _ => [999, 1000, 2999, 3000])) st
theorem amNum_ok (c : Cd) (st : DS) (h : Bd 2 st) : Adv 2 st (amNum c st).2 := (p_among c 4 _ st h (by decide) (by decide)).1
theorem amYr_ok (c : Cd) (st : DS) (h : Bd 2 st) : Adv 2 st (amYr c st).2 := (p_among c 4 _ st h (by decide) (by decide)).1
noncomputable def arC (c : Cd) (L : List Grt) (i : Nat) (k : Int × DS) : List Grt × DS :=
  if k.1 = 0 then (L.set i { L.getD i default with num := (amNum c k.2).1 }, (amNum c k.2).2)
  else if k.1 = 1 then (L.set i { L.getD i default with name := (F_ofS c nmL5 k.2).1 }, (F_ofS c nmL5 k.2).2)
  else if k.1 = 2 then (L.set i { L.getD i default with year := (amYr c k.2).1 }, (amYr c k.2).2)
  else if k.1 = 3 then (L.set i { L.getD i default with arms := (F_anyArms c k.2).1 }, (F_anyArms c k.2).2)
  else if k.1 = 4 then (L.set i { L.getD i default with arms := (F_like c (L.getD 0 default).arms k.2).1 }, (F_like c (L.getD 0 default).arms k.2).2)
  else if k.1 = 5 then arM c 14 0 L k.2
  else (L.set i (L.getD i default), k.2)
noncomputable def arY (c : Cd) (st : DS) : List Grt × DS := if (F_register c st).1.length = 0 then F_register c st else arC c (F_register c st).1 (F_pick c ((F_register c st).1.length : Nat) (F_register c st).2).1.toNat (F_pick c 20 (F_pick c ((F_register c st).1.length : Nat) (F_register c st).2).2)
theorem set_sz {L : List Grt} {i : Nat} {g : Grt} (h : ∀ g ∈ L, g.name.size ≤ 200) (hg : g.name.size ≤ 200) : ∀ x ∈ L.set i g, x.name.size ≤ 200 := fun x hx => by
  rcases List.mem_or_eq_of_mem_set hx with hx | rfl
  · exact h x hx
  · exact hg
theorem getDsz {L : List Grt} {i : Nat} (h : ∀ g ∈ L, g.name.size ≤ 200) : (L.getD i default).name.size ≤ 200 := by
  rcases Nat.lt_or_ge i L.length with g | g
  · rw [List.getD_eq_getElem?_getD, List.getElem?_eq_getElem g, Option.getD_some]
    exact h _ (List.getElem_mem g)
  · rw [List.getD_eq_getElem?_getD, List.getElem?_eq_none g, Option.getD_none]
    exact Nat.zero_le _
theorem arC_ok (c : Cd) (L : List Grt) (i : Nat) (k : Int × DS) (h : Bd 54 k.2) (hl : L.length ≤ 5) (hL : ∀ g ∈ L, g.name.size ≤ 200) : Adv 54 k.2 (arC c L i k).2 ∧ ((arC c L i k).1.length ≤ 20 ∧ ∀ g ∈ (arC c L i k).1, g.name.size ≤ 200) := by
  have a1 := amNum_ok c k.2 (h.mono (by omega))
  obtain ⟨a2, l2⟩ := p_ofS c nmL5 k.2 (h.mono (by omega)) (by decide) (by decide) nmL5_sz
  have a3 := amYr_ok c k.2 (h.mono (by omega))
  have a4 := (p_anyArms c k.2 (h.mono (by omega))).1
  have a5 := (p_like c (L.getD 0 default).arms k.2 (h.mono (by omega))).1
  obtain ⟨a6, l6, m6⟩ := arM_ok c 14 0 L k.2 0 (h.mono (by omega)) hL
  have hg := getDsz (i := i) hL
  unfold arC
  repeat' split
  · exact ⟨a1.le (by omega), by simp only [List.length_set]; omega, set_sz hL hg⟩
  · exact ⟨a2.le (by omega), by simp only [List.length_set]; omega, set_sz hL l2⟩
  · exact ⟨a3.le (by omega), by simp only [List.length_set]; omega, set_sz hL hg⟩
  · exact ⟨a4.le (by omega), by simp only [List.length_set]; omega, set_sz hL hg⟩
  · exact ⟨a5.le (by omega), by simp only [List.length_set]; omega, set_sz hL hg⟩
  · exact ⟨a6.le (by omega), by omega, m6⟩
  · exact ⟨(Adv.refl 0 _).le (by omega), by simp only [List.length_set]; omega, set_sz hL hg⟩
theorem arY_ok (c : Cd) (st : DS) (h : Bd 530 st) : Adv 530 st (arY c st).2 ∧ ((arY c st).1.length ≤ 20 ∧ ∀ g ∈ (arY c st).1, g.name.size ≤ 200) := by
  obtain ⟨a1, l1, m1⟩ := p_register c st (h.mono (by omega))
  have b1 := a1.bd h (by omega : 472 + 58 ≤ 530)
  obtain ⟨a2, _, _⟩ := p_pick c ((F_register c st).1.length : Nat) (F_register c st).2 (b1.mono (by omega))
  have b2 := a2.bd b1 (by omega : 2 + 56 ≤ 58)
  obtain ⟨a3, _, _⟩ := p_pick c 20 (F_pick c ((F_register c st).1.length : Nat) (F_register c st).2).2 (b2.mono (by omega))
  have b3 := a3.bd b2 (by omega : 2 + 54 ≤ 56)
  obtain ⟨h1, h2⟩ := arC_ok c (F_register c st).1 (F_pick c ((F_register c st).1.length : Nat) (F_register c st).2).1.toNat (F_pick c 20 (F_pick c ((F_register c st).1.length : Nat) (F_register c st).2).2) b3 l1 m1
  unfold arY
  split
  · exact ⟨a1.le (by omega), by omega, m1⟩
  · exact ⟨a1.trans (a2.trans (a3.trans h1 (Nat.le_refl _)) (Nat.le_refl _)) (by omega), h2⟩
theorem TlS5_H {H : Hold} (hH : H = stdH) (x y z w v : ByteArray) : Tl rowS 5 (rowsS H fun _ => [x, y, z, w, v]) = [x, y, z, w, v] := by subst hH; exact Tl_rowsT okS [x, y, z, w, v]
def r_anyRegister (n : Nat) (H : Hold) (y : Unit → List Grt) : AV := .agg [.vec 18 (H Nat fun _ => ((y ())).length) (rowsW H fun _ => (y ()))]
def nb_anyRegister (H : Hold) (y : Unit → List Grt) : List Blk := []
theorem x_anyRegister (c : Cd)  (st : DS) (h : Bd 530 st)  : ∃ y, DrwM Tryz.prog 66 30 530 r_anyRegister nb_anyRegister (fun y => y.length ≤ 20 ∧ ∀ g ∈ y, g.name.size ≤ 200) c [] st y := by
  have hB : Base Tryz.prog (tabΓ [e_register c, e_pick c, e_among c, e_ofS c, e_anyArms c, e_like c]) tabO := base_of tabOkO (ents_cons (eok_register c) <| ents_cons (eok_pick c) <| ents_cons (eok_among c) <| ents_cons (eok_ofS c) <| ents_cons (eok_anyArms c) <| ents_cons (eok_like c) <| ents_nil)
  refine drwM_okL (N := 104) hB (draw_ok hB mixed) Tryz.func30 rfl rfl 66 530 r_anyRegister nb_anyRegister (fun y => y.length ≤ 20 ∧ ∀ g ∈ y, g.name.size ≤ 200) c (fun H => []) st 400 (by simp) (fun x hx => ?_) (arY c st) (arY_ok c st h) ?_
  · cases hx
  intro X hX hX0 H hH
  conv in Fin.chk _ _ => cbv
  try simp only [zqs, Plain_rowsC, Plain_rowsD, zqx, AllP, zqw, upd, if_true]
  obtain ⟨a1, l1, z1⟩ := p_register c st (h.mono (by omega))
  have b1 := a1.bd h (by omega : 472 + 58 ≤ 530)
  obtain ⟨a2, m2, n2⟩ := p_pick c ((F_register c st).1.length : Nat) (F_register c st).2 (b1.mono (by omega))
  have b2 := a2.bd b1 (by omega : 2 + 56 ≤ 58)
  have a3 := (p_pick c 20 (F_pick c ((F_register c st).1.length : Nat) (F_register c st).2).2 (b2.mono (by omega))).1
  have b3 := a3.bd b2 (by omega : 2 + 54 ≤ 56)
  have eY : arY c st = if (F_register c st).1.length = 0 then F_register c st else arC c (F_register c st).1 (F_pick c ((F_register c st).1.length : Nat) (F_register c st).2).1.toNat (F_pick c 20 (F_pick c ((F_register c st).1.length : Nat) (F_register c st).2).2) := rfl
  simp only [hetaA hH, heta hH, hlen hH, TlS5_H hH]
  generalize F_register c st = q at *
  obtain ⟨L, s1⟩ := q
  simp only at *
  generalize F_pick c ((L.length : Nat) : Int) s1 = i at *
  obtain ⟨i, s2⟩ := i
  simp only at *
  generalize F_pick c 20 s2 = k at *
  obtain ⟨k, s3⟩ := k
  simp only at *
  refine ⟨?_, fun h1 => ?_, fun h1 => ⟨?_, ?_, ?_, ?_, ?_⟩⟩
  · try simp only [hH, stdH, zqz, ne_eq, zqy]
    exact h.mono
  · simp only [hH, stdH, zqz, ne_eq, zqy] at h1
    have eZ : arY c st = (L, s1) := by rw [eY, if_pos (by omega)]
    rw [show arY c st = (L, s1) from eZ]
    all_goals (repeat' (with_reducible refine And.intro ?_ ?_))
    all_goals ((try simp only [hH, stdH, zqz, ne_eq, zqy]); first | done | exact Eq.refl _ | exact c.rqN | exact RowsEq.putW default rfl | exact ⟨True.intro, RowsEq.putW default rfl⟩ | exact ⟨True.intro, RowsEq.self okRW⟩ | exact fun j _ => rfl | exact vrow_ok _ rfl (by decide) | omega | exact Bd.mono (by assumption) | exact Shp_rowsT okS 5 (fun _ => nmL5) | exact nmL5_sz | exact (by decide : 1 ≤ nmL5.length) | exact (by decide : nmL5.length ≤ 100) | exact ⟨by omega, rfl⟩ | exact ⟨by omega, by omega⟩ | exact RowsEq.self okRW)
  · try simp only [hH, stdH, zqz, ne_eq, zqy]
    exact b1.mono
  · simp only [hH, stdH, zqz, ne_eq, zqy] at h1 ⊢
    omega
  · simp only [hH, stdH, zqz, ne_eq, zqy] at h1 ⊢
    exact ⟨by omega, rfl⟩
  · try simp only [hH, stdH, zqz, ne_eq, zqy]
    exact b2.mono
  · simp only [hH, stdH, zqz, ne_eq, zqy] at h1
    rw [if_neg (by omega)] at eY
    unfold arC at eY
    simp only at eY
    refine ⟨fun k0 => ?_, fun k0 => ⟨fun k1 => ?_, fun k1 => ⟨fun k2 => ?_, fun k2 => ⟨fun k3 => ?_, fun k3 => ⟨fun k4 => ?_, fun k4 => ⟨fun k5 => ?_, fun k5 => ?_⟩⟩⟩⟩⟩⟩
    · simp only [hH, stdH, zqz, ne_eq, zqy] at k0
      have eZ : arY c st = (L.set i.toNat { L.getD i.toNat default with num := (amNum c s3).1 }, (amNum c s3).2) := by rw [eY, if_pos k0]
      rw [show arY c st = (L.set i.toNat { L.getD i.toNat default with num := (amNum c s3).1 }, (amNum c s3).2) from eZ]
      all_goals (repeat' (with_reducible refine And.intro ?_ ?_))
      all_goals ((try simp only [hH, stdH, zqz, ne_eq, zqy]); first | done | exact Eq.refl _ | exact c.rqN | exact RowsEq.putW { L.getD i.toNat default with num := (amNum c s3).1 } rfl | exact ⟨True.intro, RowsEq.putW { L.getD i.toNat default with num := (amNum c s3).1 } rfl⟩ | exact ⟨True.intro, RowsEq.self okRW⟩ | exact fun j _ => rfl | exact vrow_ok _ rfl (by decide) | omega | exact Bd.mono (by assumption) | exact Shp_rowsT okS 5 (fun _ => nmL5) | exact nmL5_sz | exact (by decide : 1 ≤ nmL5.length) | exact (by decide : nmL5.length ≤ 100) | exact ⟨by omega, rfl⟩ | exact ⟨by omega, by omega⟩ | exact RowsEq.self okRW)
    · simp only [hH, stdH, zqz, ne_eq, zqy] at k0 k1
      have eZ : arY c st = (L.set i.toNat { L.getD i.toNat default with name := (F_ofS c nmL5 s3).1 }, (F_ofS c nmL5 s3).2) := by rw [eY, if_neg k0, if_pos k1]
      rw [show arY c st = (L.set i.toNat { L.getD i.toNat default with name := (F_ofS c nmL5 s3).1 }, (F_ofS c nmL5 s3).2) from eZ]
      all_goals (repeat' (with_reducible refine And.intro ?_ ?_))
      all_goals ((try simp only [hH, stdH, zqz, ne_eq, zqy]); first | done | exact Eq.refl _ | exact c.rqN | exact RowsEq.putW { L.getD i.toNat default with name := (F_ofS c nmL5 s3).1 } rfl | exact ⟨True.intro, RowsEq.putW { L.getD i.toNat default with name := (F_ofS c nmL5 s3).1 } rfl⟩ | exact ⟨True.intro, RowsEq.self okRW⟩ | exact fun j _ => rfl | exact vrow_ok _ rfl (by decide) | omega | exact Bd.mono (by assumption) | exact Shp_rowsT okS 5 (fun _ => nmL5) | exact nmL5_sz | exact (by decide : 1 ≤ nmL5.length) | exact (by decide : nmL5.length ≤ 100) | exact ⟨by omega, rfl⟩ | exact ⟨by omega, by omega⟩ | exact RowsEq.self okRW)
    · simp only [hH, stdH, zqz, ne_eq, zqy] at k0 k1 k2
      have eZ : arY c st = (L.set i.toNat { L.getD i.toNat default with year := (amYr c s3).1 }, (amYr c s3).2) := by rw [eY, if_neg k0, if_neg k1, if_pos k2]
      rw [show arY c st = (L.set i.toNat { L.getD i.toNat default with year := (amYr c s3).1 }, (amYr c s3).2) from eZ]
      all_goals (repeat' (with_reducible refine And.intro ?_ ?_))
      all_goals ((try simp only [hH, stdH, zqz, ne_eq, zqy]); first | done | exact Eq.refl _ | exact c.rqN | exact RowsEq.putW { L.getD i.toNat default with year := (amYr c s3).1 } rfl | exact ⟨True.intro, RowsEq.putW { L.getD i.toNat default with year := (amYr c s3).1 } rfl⟩ | exact ⟨True.intro, RowsEq.self okRW⟩ | exact fun j _ => rfl | exact vrow_ok _ rfl (by decide) | omega | exact Bd.mono (by assumption) | exact Shp_rowsT okS 5 (fun _ => nmL5) | exact nmL5_sz | exact (by decide : 1 ≤ nmL5.length) | exact (by decide : nmL5.length ≤ 100) | exact ⟨by omega, rfl⟩ | exact ⟨by omega, by omega⟩ | exact RowsEq.self okRW)
    · simp only [hH, stdH, zqz, ne_eq, zqy] at k0 k1 k2 k3
      have eZ : arY c st = (L.set i.toNat { L.getD i.toNat default with arms := (F_anyArms c s3).1 }, (F_anyArms c s3).2) := by rw [eY, if_neg k0, if_neg k1, if_neg k2, if_pos k3]
      rw [show arY c st = (L.set i.toNat { L.getD i.toNat default with arms := (F_anyArms c s3).1 }, (F_anyArms c s3).2) from eZ]
      all_goals (repeat' (with_reducible refine And.intro ?_ ?_))
      all_goals ((try simp only [hH, stdH, zqz, ne_eq, zqy]); first | done | exact Eq.refl _ | exact c.rqN | exact RowsEq.putW { L.getD i.toNat default with arms := (F_anyArms c s3).1 } rfl | exact ⟨True.intro, RowsEq.putW { L.getD i.toNat default with arms := (F_anyArms c s3).1 } rfl⟩ | exact ⟨True.intro, RowsEq.self okRW⟩ | exact fun j _ => rfl | exact vrow_ok _ rfl (by decide) | omega | exact Bd.mono (by assumption) | exact Shp_rowsT okS 5 (fun _ => nmL5) | exact nmL5_sz | exact (by decide : 1 ≤ nmL5.length) | exact (by decide : nmL5.length ≤ 100) | exact ⟨by omega, rfl⟩ | exact ⟨by omega, by omega⟩ | exact RowsEq.self okRW)
    · simp only [hH, stdH, zqz, ne_eq, zqy] at k0 k1 k2 k3 k4
      have eZ : arY c st = (L.set i.toNat { L.getD i.toNat default with arms := (F_like c (L.getD 0 default).arms s3).1 }, (F_like c (L.getD 0 default).arms s3).2) := by rw [eY, if_neg k0, if_neg k1, if_neg k2, if_neg k3, if_pos k4]
      rw [show arY c st = (L.set i.toNat { L.getD i.toNat default with arms := (F_like c (L.getD 0 default).arms s3).1 }, (F_like c (L.getD 0 default).arms s3).2) from eZ]
      all_goals (repeat' (with_reducible refine And.intro ?_ ?_))
      all_goals ((try simp only [hH, stdH, zqz, ne_eq, zqy]); first | done | exact Eq.refl _ | exact c.rqN | exact RowsEq.putW { L.getD i.toNat default with arms := (F_like c (L.getD 0 default).arms s3).1 } rfl | exact ⟨True.intro, RowsEq.putW { L.getD i.toNat default with arms := (F_like c (L.getD 0 default).arms s3).1 } rfl⟩ | exact ⟨True.intro, RowsEq.self okRW⟩ | exact fun j _ => rfl | exact vrow_ok _ rfl (by decide) | omega | exact Bd.mono (by assumption) | exact Shp_rowsT okS 5 (fun _ => nmL5) | exact nmL5_sz | exact (by decide : 1 ≤ nmL5.length) | exact (by decide : nmL5.length ≤ 100) | exact ⟨by omega, rfl⟩ | exact ⟨by omega, by omega⟩ | exact RowsEq.self okRW)
    · simp only [hH, stdH, zqz, ne_eq, zqy] at k0 k1 k2 k3 k4 k5
      have eZ : arY c st = arM c 14 0 L s3 := by rw [eY, if_neg k0, if_neg k1, if_neg k2, if_neg k3, if_neg k4, if_pos k5]
      have g0 : (0 : Nat) ≤ 14 ∧ L.length ≤ 5 + 0 ∧ Bd (2 * (14 - 0) + 2) s3 ∧ arM c (14 - 0) 0 L s3 = arY c st := ⟨by omega, by omega, b3.mono (by omega), eZ.symm⟩
      refine loop_c hB (draw_ok hB mixed) hX hX0 hH [0, 2, 3, 6] (ι := { p : Nat × List Grt × DS // p.1 ≤ 14 ∧ p.2.1.length ≤ 5 + p.1 ∧ Bd (2 * (14 - p.1) + 2) p.2.2 ∧ arM c (14 - p.1) p.1 p.2.1 p.2.2 = arY c st }) 400 (fun i => [.i (H Int fun _ => (i.1.1 : Nat)), .i (H Int fun _ => i.1.2.2.1), .i (H Int fun _ => i.1.2.2.2), .r (H Nat fun _ => (i.1.2.1).length) (rowsW H fun _ => i.1.2.1)]) (fun i => 14 - i.1.1) (⟨(0, L, s3), g0⟩) ?_ ?_
      · (conv in matchSt _ _ _ _ => cbv); simp only [AllG, AllP, and_true, hH, stdH, zql, ncast, zqe, zqy]
        all_goals (repeat' (with_reducible refine And.intro ?_ ?_)) <;> (first | exact Eq.refl _ | exact True.intro | exact RowsEq.self okRW | exact c.rqN)
      · intro I hI i
        conv in Fin.chk _ _ => cbv
        try simp only [zqs, Plain_rowsC, Plain_rowsD, zqx, AllP, zqw, upd, if_true]
        obtain ⟨⟨n, L, s4⟩, g1, g2, g3, g4⟩ := i
        simp only at g1 g2 g3 g4
        simp only [hetaA hH, heta hH]
        obtain ⟨a5, m5, n5⟩ := p_pick c 2 s4 (g3.mono (by omega))
        have w5 : IntKind.i64.wrap (12 + (F_pick c 2 s4).1) = 12 + (F_pick c 2 s4).1 := wi (by omega) (by omega)
        refine ⟨?_, fun h5 => ⟨?_, ?_, ?_, ?_, ⟨?_, ?_⟩, ?_⟩, fun h5 => ?_⟩
        · try simp only [hH, stdH, zqz, ne_eq, zqy]
          exact g3.mono (by omega)
        · try simp only [hH, stdH, zqz, ne_eq, zqy]
          try omega
        · try simp only [hH, stdH, zqz, ne_eq, zqy]
          try omega
        · try simp only [hH, stdH, zqz, ne_eq, zqy]
          try omega
        · try simp only [hH, stdH, zqz, ne_eq, zqy]
          try omega
        · try simp only [hH, stdH, zqz, ne_eq, zqy]
        · try simp only [hH, stdH, zqz, ne_eq, zqy]
          ((repeat' (with_reducible refine And.intro ?_ ?_)) <;> (first | exact True.intro | omega | exact Eq.refl _))
        · simp only [hH, stdH, Int.toNat_natCast] at h5
          rw [w5] at h5
          obtain ⟨h6, h7⟩ := and_c2 h5
          obtain ⟨f, hf⟩ : ∃ f, 14 - n = f + 1 := ⟨14 - n - 1, by omega⟩
          have hf2 : 14 - (n + 1) = f := by omega
          have g5 : arM c (14 - (n + 1)) (n + 1) (L ++ [arF (n : Nat)]) (F_pick c 2 s4).2 = arY c st := by
            rw [← g4, hf, hf2]
            exact (if_pos h6).symm
          refine ⟨⟨(n + 1, L ++ [arF (n : Nat)], (F_pick c 2 s4).2), by simp only; omega, by simp only [List.length_append, List.length_singleton]; omega, a5.bd g3 (by simp only; omega), g5⟩, by simp only; omega, ?_⟩
          rw [hI]
          (conv in matchSt _ _ _ _ => cbv); simp only [AllG, AllP, and_true, hH, stdH, zql, ncast, zqe, zqy]
          rw [w1 (by omega)]
          all_goals (repeat' (with_reducible refine And.intro ?_ ?_)) <;> (first | exact Eq.refl _ | exact True.intro | exact rows_snocW (g := arF (n : Nat)) | exact GW_eq (g := arF (n : Nat)) | exact List.length_append | exact c.rqN)
        · simp only [hH, stdH, Int.toNat_natCast] at h5
          rw [w5] at h5
          have g5 : arY c st = (L, (F_pick c 2 s4).2) := by
            rw [← g4]
            rcases and_n2 h5 with h6 | h6
            · cases 14 - n with
              | zero => rfl
              | succ f => unfold arM; rw [if_neg h6]
            · rw [show 14 - n = 0 by omega]; rfl
          rw [g5]
          try simp only [hH, stdH, zqz, ne_eq, zqy]
          all_goals (repeat' (with_reducible refine And.intro ?_ ?_)) <;> (first | exact Eq.refl _ | exact True.intro | exact RowsEq.self okRW | exact c.rqN)
    · simp only [hH, stdH, zqz, ne_eq, zqy] at k0 k1 k2 k3 k4 k5
      have eZ : arY c st = (L.set i.toNat (L.getD i.toNat default), s3) := by rw [eY, if_neg k0, if_neg k1, if_neg k2, if_neg k3, if_neg k4, if_neg k5]
      rw [show arY c st = (L.set i.toNat (L.getD i.toNat default), s3) from eZ]
      all_goals (repeat' (with_reducible refine And.intro ?_ ?_))
      all_goals ((try simp only [hH, stdH, zqz, ne_eq, zqy]); first | done | exact Eq.refl _ | exact c.rqN | exact RowsEq.putW (L.getD i.toNat default) rfl | exact ⟨True.intro, RowsEq.putW (L.getD i.toNat default) rfl⟩ | exact ⟨True.intro, RowsEq.self okRW⟩ | exact fun j _ => rfl | exact vrow_ok _ rfl (by decide) | omega | exact Bd.mono (by assumption) | exact Shp_rowsT okS 5 (fun _ => nmL5) | exact nmL5_sz | exact (by decide : 1 ≤ nmL5.length) | exact (by decide : nmL5.length ≤ 100) | exact ⟨by omega, rfl⟩ | exact ⟨by omega, by omega⟩ | exact RowsEq.self okRW)
noncomputable def F_anyRegister (c : Cd)  (st : DS) : List Grt × DS := drwM Tryz.prog 66 30 530 r_anyRegister nb_anyRegister (fun y => y.length ≤ 20 ∧ ∀ g ∈ y, g.name.size ≤ 200) c [] st
noncomputable def e_anyRegister (c : Cd) : Entry := curEN 66 30 530 c fun H st a nx => match a with
  | [] => some (r_anyRegister nx H (fun _ => (F_anyRegister c  st).1), nb_anyRegister H (fun _ => (F_anyRegister c  st).1), (fun _ => (F_anyRegister c  st).2), [])
  | _ => none
theorem eok_anyRegister (c : Cd) : EntryOk Tryz.prog (e_anyRegister c) := curEN_ok (by unfold isBody; kernel_rfl) (by
  intro st a nx r nb y ob e hb hob
  split at e
  · simp only [zqt] at e
    obtain ⟨rfl, rfl, rfl, rfl⟩ := e
    have hd := drwM_spec (x_anyRegister c  st hb )
    refine ⟨_, _, ConN.args (.cons .rfl .nil) hd.1, fun x hx => ?_, rfl, ?_, fun q b hq => ⟨b, hq, .same ?_⟩⟩
    · cases hx
    · (repeat' (first | exact .nil | exact .slc ⟨by omega, by simp [nb_anyRegister]⟩ (by omega) | exact .pl .lit | exact .pl (vT_bl okRW (fun _ => (F_anyRegister c  st).1) _) | apply ReL.cons | apply Re.aggL | apply Re.tupL))
    · replace hq := List.mem_of_getElem? hq
      simp [nb_anyRegister] at hq
  · simp at e)
theorem p_anyRegister (c : Cd)  (st : DS) (h : Bd 530 st)  : Adv 530 st (F_anyRegister c  st).2 ∧ (fun y => y.length ≤ 20 ∧ ∀ g ∈ y, g.name.size ≤ 200) (F_anyRegister c  st).1 := (drwM_spec (x_anyRegister c  st h )).2
end Go.Proofs.YtcjjffmbhionmaaGreatDoor.AM

