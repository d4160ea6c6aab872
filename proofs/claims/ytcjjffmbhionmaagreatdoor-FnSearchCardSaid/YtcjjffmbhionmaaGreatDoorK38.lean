/- Lemmas and contracts (Fdx); conditions: none. -/
import Derived.Test.YtcjjffmbhionmaaGreatDoorK03
import Derived.Test.YtcjjffmbhionmaaGreatDoorK19
import Derived.Test.YtcjjffmbhionmaaGreatDoorK23
import Derived.Test.YtcjjffmbhionmaaGreatDoorK37
set_option linter.unusedVariables false
set_option linter.unusedSimpArgs false
set_option maxRecDepth 100000
set_option maxHeartbeats 4000000
set_option cbv.maxSteps 3000000
namespace Go.Proofs.YtcjjffmbhionmaaGreatDoor.AM
/- Registers, arms and features to be searched for are drawn; conditions: none. -/
noncomputable def foG (c : Cd) : List ByteArray → List ByteArray → DS → List ByteArray × DS
  | [], L, st => (L, st)
  | x :: m, L, st => if L.length < 9 then (if (F_one c 2 st).1 = true then foG c m (L ++ [x]) (F_one c 2 st).2 else foG c m L (F_one c 2 st).2) else (L, st)
noncomputable def foE (c : Cd) (L : List ByteArray) (st : DS) : List ByteArray × DS := if (F_one c 3 st).1 = true then (putF L (F_ofS c ftT3 (F_one c 3 st).2).1, (F_ofS c ftT3 (F_one c 3 st).2).2) else (L, (F_one c 3 st).2)
noncomputable def foA (c : Cd) (g : List Grt) (st : DS) : List ByteArray := ftP (g.getD (F_pick c (g.length : Nat) st).1.toNat default).arms
noncomputable def foB (c : Cd) (g : List Grt) (st : DS) : List ByteArray × DS := foE c (foG c (foA c g st) [] (F_pick c (g.length : Nat) st).2).1 (foG c (foA c g st) [] (F_pick c (g.length : Nat) st).2).2
noncomputable def foY (c : Cd) (g : List Grt) (st : DS) : List ByteArray × DS := if g.length = 0 ∨ okRg g = false then F_features c st else if (F_one c 4 st).1 = true then F_features c (F_one c 4 st).2 else foB c g (F_one c 4 st).2
theorem foG_ok (c : Cd) : ∀ (m L : List ByteArray) (st : DS) (q : Nat), Bd (2 * m.length + q) st → Sz 200 L → Sz 200 m → L.length ≤ 9 → Adv (2 * m.length) st (foG c m L st).2 ∧ (foG c m L st).1.length ≤ 9 ∧ Sz 200 (foG c m L st).1
  | [], L, st, q, _, hL, _, hl => ⟨Adv.refl _ _, hl, hL⟩
  | x :: m, L, st, q, h, hL, hm, hl => by
    rw [List.length_cons] at h
    have a1 := (p_one c 2 st (h.mono (by omega))).1
    have b1 := a1.bd h (by omega : 2 + (2 * m.length + q) ≤ 2 * (m.length + 1) + q)
    have hm' : Sz 200 m := ⟨fun y hy => hm.le y (List.mem_cons_of_mem _ hy)⟩
    unfold foG
    rw [List.length_cons]
    split
    · split
      · obtain ⟨h1, h2, h3⟩ := foG_ok c m (L ++ [x]) (F_one c 2 st).2 q b1 (Sz_snoc hL (hm.le x List.mem_cons_self)) hm' (by rw [List.length_append, List.length_singleton]; omega)
        exact ⟨a1.trans h1 (by omega), h2, h3⟩
      · obtain ⟨h1, h2, h3⟩ := foG_ok c m L (F_one c 2 st).2 q b1 hL hm' hl
        exact ⟨a1.trans h1 (by omega), h2, h3⟩
    · exact ⟨(Adv.refl 0 st).le (by omega), hl, hL⟩
theorem ftT3_sz : Sz 200 ftT3 := ⟨by decide⟩
theorem foE_ok (c : Cd) (L : List ByteArray) (st : DS) (h : Bd 4 st) (h1 : L.length ≤ 9) (h2 : Sz 200 L) : Adv 4 st (foE c L st).2 ∧ (foE c L st).1.length ≤ 12 ∧ Sz 200 (foE c L st).1 := by
  have a1 := (p_one c 3 st (h.mono (by omega))).1
  have b1 := a1.bd h (by omega : 2 + 2 ≤ 4)
  obtain ⟨a2, l2⟩ := p_ofS c ftT3 (F_one c 3 st).2 (b1.mono (by omega)) (by decide) (by decide) ftT3_sz
  unfold foE
  split
  · have := putF_len L (F_ofS c ftT3 (F_one c 3 st).2).1
    exact ⟨a1.trans a2 (by omega), by simp only; omega, putF_sz h2 l2⟩
  · exact ⟨a1.le (by omega), by simp only; omega, h2⟩
theorem ftP_sz {a : Arm} (h : okA a = true) : Sz 200 (ftP a) := ⟨fun x hx => by
  have h1 := ftP_isF h hx
  by_cases q : 2 ≤ x.size ∧ x.size ≤ 3
  · omega
  · rw [isF_size q] at h1; cases h1⟩
theorem foB_ok (c : Cd) (g : List Grt) (st : DS) (h : Bd 30 st) (h0 : 0 < g.length) (hg : okRg g = true) : Adv 30 st (foB c g st).2 ∧ (foB c g st).1.length ≤ 12 ∧ Sz 200 (foB c g st).1 := by
  have hl := (okRg_in hg).1
  obtain ⟨a1, m1, n1⟩ := p_pick c (g.length : Nat) st (h.mono (by omega))
  have b1 := a1.bd h (by omega : 2 + 28 ≤ 30)
  have hi : (F_pick c (g.length : Nat) st).1.toNat < g.length := by omega
  have hA := okA_at (okRg_okA hg) hi
  have hf := ftP_len (g.getD (F_pick c (g.length : Nat) st).1.toNat default).arms
  obtain ⟨h1, h2, h3⟩ := foG_ok c (foA c g st) [] (F_pick c (g.length : Nat) st).2 4 (b1.mono (by unfold foA; omega)) ⟨fun x hx => by cases hx⟩ (ftP_sz hA) (by simp)
  have b2 := h1.bd (b1.mono (by unfold foA; omega : 2 * (foA c g st).length + 4 ≤ 28)) (Nat.le_refl _)
  obtain ⟨h4, h5, h6⟩ := foE_ok c (foG c (foA c g st) [] (F_pick c (g.length : Nat) st).2).1 (foG c (foA c g st) [] (F_pick c (g.length : Nat) st).2).2 b2 h2 h3
  unfold foB
  exact ⟨a1.trans (h1.trans h4 (Nat.le_refl _)) (by unfold foA; omega), h5, h6⟩
theorem foY_ok (c : Cd) (g : List Grt) (st : DS) (h : Bd 32 st) : Adv 32 st (foY c g st).2 ∧ ((foY c g st).1.length ≤ 12 ∧ Sz 200 (foY c g st).1) := by
  have a1 := (p_one c 4 st (h.mono (by omega))).1
  have b1 := a1.bd h (by omega : 2 + 30 ≤ 32)
  unfold foY
  split
  · obtain ⟨a2, l2⟩ := p_features c st (h.mono (by omega))
    exact ⟨a2.le (by omega), l2⟩
  · rename_i hq
    split
    · obtain ⟨a2, l2⟩ := p_features c (F_one c 4 st).2 (b1.mono (by omega))
      exact ⟨a1.trans a2 (by omega), l2⟩
    · have hg : okRg g = true := by cases e : okRg g with | true => rfl | false => exact absurd (.inr e) hq
      obtain ⟨h1, h2, h3⟩ := foB_ok c g (F_one c 4 st).2 b1 (by omega) hg
      exact ⟨a1.trans h1 (by omega), h2, h3⟩
theorem foq_t {n : Nat} {b : Bool} : (bif (((n : Nat) : Int) == 0) then true else !b) = true ↔ (n = 0 ∨ b = false) := by cases b <;> by_cases h : n = 0 <;> simp [h]
theorem foq_f {n : Nat} {b : Bool} : (bif (((n : Nat) : Int) == 0) then true else !b) = false ↔ ¬ (n = 0 ∨ b = false) := by cases b <;> by_cases h : n = 0 <;> simp [h]
theorem foG_go {c : Cd} {al L : List ByteArray} {st : DS} {i : Nat} (hi : i < al.length) (hL : L.length < 9) : foG c (al.drop i) L st = if (F_one c 2 st).1 = true then foG c (al.drop (i + 1)) (L ++ [al.getD i ByteArray.empty]) (F_one c 2 st).2 else foG c (al.drop (i + 1)) L (F_one c 2 st).2 := by
  rw [List.drop_eq_getElem_cons hi, List.getD_eq_getElem?_getD, List.getElem?_eq_getElem hi, Option.getD_some]
  exact if_pos hL
theorem foG_end {c : Cd} {al L : List ByteArray} {st : DS} {i : Nat} (h : i = al.length ∨ ¬ L.length < 9) : foG c (al.drop i) L st = (L, st) := by
  cases e : al.drop i with
  | nil => rfl
  | cons x m =>
    rcases h with h | h
    · subst h
      rw [List.drop_length] at e
      cases e
    · exact if_neg h
theorem bif2_t {a b : Bool} : (bif a then b else false) = true ↔ a = true ∧ b = true := by cases a <;> simp
theorem bif2_f {a b : Bool} : (bif a then b else false) = false ↔ a = false ∨ b = false := by cases a <;> simp
def r_featuresOf (n : Nat) (H : Hold) (y : Unit → List ByteArray) : AV := .vec 1 (H Nat fun _ => ((y ())).length) (rowsS H fun _ => (y ()))
def nb_featuresOf (H : Hold) (y : Unit → List ByteArray) : List Blk := []
theorem x_featuresOf (c : Cd) (r : Rgr) (st : DS) (h : Bd 32 st) (h0 : r.gs.length ≤ 20) (h1 : Nsz r.gs) : ∃ y, DrwM Tryz.prog 66 96 32 r_featuresOf nb_featuresOf (fun y => y.length ≤ 12 ∧ Sz 200 y) c [aT rowJ stdH fun _ => r] st y := by
  have hB : Base Tryz.prog (tabΓ [e_l16Good, e_one c, e_features c, e_pick c, e_l17Features, e_ofS c, e_putO]) tabO := base_of tabOkO (ents_cons eok_l16Good <| ents_cons (eok_one c) <| ents_cons (eok_features c) <| ents_cons (eok_pick c) <| ents_cons eok_l17Features <| ents_cons (eok_ofS c) <| ents_cons eok_putO <| ents_nil)
  refine drwM_okL (N := 63) hB (draw_ok hB mixed) Tryz.func96 rfl rfl 66 32 r_featuresOf nb_featuresOf (fun y => y.length ≤ 12 ∧ Sz 200 y) c (fun H => [aT rowJ H fun _ => r]) st 400 (by simp) (fun x hx => ?_) (foY c r.gs st) (foY_ok c r.gs st h) ?_
  · simp only [zqu] at hx; rcases hx with rfl
    · exact aT_bl okRJ _ _
  intro X hX hX0 H hH
  conv in Fin.chk _ _ => cbv
  try simp only [zqs, Plain_rowsC, Plain_rowsD, Plain_rowsW, zqx, AllP, zqw, upd, if_true]
  simp only [hetaA hH, TlW_H hH]
  refine ⟨⟨?_, ?_, ?_⟩, fun h2 => ⟨?_, fun _ => ?_, fun h3 => ?_⟩, fun h2 => ⟨?_, fun h3 => ?_, fun h3 => ?_⟩⟩
  · try simp only [hH, stdH, zqz, ne_eq, zqy]
    exact fun _ => Shp_W _ _
  · try simp only [hH, stdH, zqz, ne_eq, zqy]
    exact fun _ => by omega
  · try simp only [hH, stdH, zqz, ne_eq, zqy]
    exact fun _ => h1
  · try simp only [hH, stdH, zqz, ne_eq, zqy]
  · simp only [hH, stdH] at h2
    have q := foq_t.1 h2
    have e6 : foY c r.gs st = F_features c st := if_pos q
    simp only [hH, stdH, e6]
    (repeat' (with_reducible refine And.intro ?_ ?_)) <;> (first | exact Eq.refl _ | exact True.intro | exact c.rqN | exact h.mono (by omega) | exact RowsEq.self okS)
  · cases h3
  · try simp only [hH, stdH, zqz, ne_eq, zqy]
    exact h.mono (by omega)
  · simp only [hH, stdH] at h2
    have q := foq_f.1 h2
    simp only [hH, stdH, cond_false] at h3
    have a1 := (p_one c 4 st (h.mono (by omega))).1
    have b1 := a1.bd h (by omega : 2 + 30 ≤ 32)
    have e6 : foY c r.gs st = F_features c (F_one c 4 st).2 := (if_neg q).trans (if_pos h3)
    simp only [hH, stdH, e6]
    (repeat' (with_reducible refine And.intro ?_ ?_)) <;> (first | exact Eq.refl _ | exact True.intro | exact c.rqN | exact b1.mono (by omega) | exact RowsEq.self okS)
  · simp only [hH, stdH] at h2
    have q := foq_f.1 h2
    have hg : okRg r.gs = true := by cases e : okRg r.gs with | true => rfl | false => exact absurd (.inr e) q
    simp only [hH, stdH, cond_false] at h3
    have a1 := (p_one c 4 st (h.mono (by omega))).1
    have b1 := a1.bd h (by omega : 2 + 30 ≤ 32)
    have e6 : foY c r.gs st = foB c r.gs (F_one c 4 st).2 := (if_neg q).trans (if_neg (by rw [h3]; simp))
    obtain ⟨a2, m2, n2⟩ := p_pick c (r.gs.length : Nat) (F_one c 4 st).2 (b1.mono (by omega))
    have b2 := a2.bd b1 (by omega : 2 + 28 ≤ 30)
    have hi : (F_pick c (r.gs.length : Nat) (F_one c 4 st).2).1.toNat < r.gs.length := by omega
    have hA := okA_at (okRg_okA hg) hi
    have hf : (foA c r.gs (F_one c 4 st).2).length ≤ 12 := ftP_len _
    have hz : Sz 200 (foA c r.gs (F_one c 4 st).2) := ftP_sz hA
    clear h2 h3
    refine ⟨?_, ?_, ?_, ?_⟩
    · try simp only [hH, stdH, zqz, ne_eq, zqy]
      exact b1.mono (by omega)
    · simp only [hH, stdH]
      exact (⟨m2, by omega⟩ : 0 ≤ (F_pick c (r.gs.length : Nat) (F_one c 4 st).2).1 ∧ (F_pick c (r.gs.length : Nat) (F_one c 4 st).2).1 < (r.gs.length : Nat))
    · try simp only [hH, stdH, zqz, ne_eq, zqy]
      exact hA
    · have g0 : 0 ≤ (foA c r.gs (F_one c 4 st).2).length ∧ ([] : List ByteArray).length ≤ 9 ∧ Bd (2 * ((foA c r.gs (F_one c 4 st).2).length - 0) + 4) (F_pick c (r.gs.length : Nat) (F_one c 4 st).2).2 ∧ Sz 200 ([] : List ByteArray) ∧ foG c ((foA c r.gs (F_one c 4 st).2).drop 0) [] (F_pick c (r.gs.length : Nat) (F_one c 4 st).2).2 = foG c (foA c r.gs (F_one c 4 st).2) [] (F_pick c (r.gs.length : Nat) (F_one c 4 st).2).2 := ⟨by omega, by simp, b2.mono (by omega), ⟨fun x hx => by cases hx⟩, by rw [List.drop_zero]⟩
      refine loop_a hB (draw_ok hB mixed) hX hX0 hH false (ι := { p : Nat × List ByteArray × DS // p.1 ≤ (foA c r.gs (F_one c 4 st).2).length ∧ p.2.1.length ≤ 9 ∧ Bd (2 * ((foA c r.gs (F_one c 4 st).2).length - p.1) + 4) p.2.2 ∧ Sz 200 p.2.1 ∧ foG c ((foA c r.gs (F_one c 4 st).2).drop p.1) p.2.1 p.2.2 = foG c (foA c r.gs (F_one c 4 st).2) [] (F_pick c (r.gs.length : Nat) (F_one c 4 st).2).2 }) 400 (fun i => [.r (H Nat fun _ => (i.1.2.1).length) (rowsS H fun _ => i.1.2.1), .i (H Int fun _ => (i.1.1 : Nat)), .i (H Int fun _ => i.1.2.2.1), .i (H Int fun _ => i.1.2.2.2)]) (fun i => (foA c r.gs (F_one c 4 st).2).length - i.1.1) (⟨(0, [], (F_pick c (r.gs.length : Nat) (F_one c 4 st).2).2), g0⟩) ?_ ?_
      · (conv in matchSt _ _ _ _ => cbv); simp only [AllG, AllP, and_true, hH, stdH, zql, ncast, zqe, zqy]
        (repeat' (with_reducible refine And.intro ?_ ?_)) <;> (first | exact Eq.refl _ | exact True.intro | exact c.rqN | exact RowsEq.self okS | exact RowsEq.ofT okS rfl (Shp_zero _) rfl)
      · have eA : ftP (r.gs.getD (F_pick c (r.gs.length : Nat) ((F_one c 4 (st.fst, st.snd)).snd.fst, (F_one c 4 (st.fst, st.snd)).snd.snd)).fst.toNat default).arms = (foA c r.gs (F_one c 4 st).2) := rfl
        intro I hI i
        conv in Fin.chk _ _ => cbv
        try simp only [zqs, Plain_rowsC, Plain_rowsD, Plain_rowsW, zqx, AllP, zqw, upd, if_true]
        obtain ⟨⟨i, L, s2⟩, g1, g2, g3, g4, g5⟩ := i
        simp only at g1 g2 g3 g4 g5
        refine ⟨fun k1 => ⟨?_, fun k2 => ?_, fun k2 => ?_⟩, fun k1 => ⟨?_, fun k2 => ?_, fun k2 => ?_⟩⟩
        · try simp only [hH, stdH, zqz, ne_eq, zqy]
          simp only [hH, stdH, eA, bif2_t, decide_eq_true_eq] at k1
          exact g3.mono (by omega)
        · simp only [hH, stdH, eA, bif2_t, decide_eq_true_eq] at k1
          have hi' : i < (foA c r.gs (F_one c 4 st).2).length := by omega
          have k2' : (F_one c 2 s2).1 = true := by simp only [hH, stdH] at k2; exact k2
          have e7 := (foG_go (c := c) (st := s2) hi' (by omega)).symm.trans g5
          rw [if_pos k2'] at e7
          have a3 := (p_one c 2 s2 (g3.mono (by omega))).1
          have b3 := a3.bd g3 (by omega : 2 + (2 * ((foA c r.gs (F_one c 4 st).2).length - (i + 1)) + 4) ≤ 2 * ((foA c r.gs (F_one c 4 st).2).length - i) + 4)
          have nx : i + 1 ≤ (foA c r.gs (F_one c 4 st).2).length ∧ (L ++ [(foA c r.gs (F_one c 4 st).2).getD i ByteArray.empty]).length ≤ 9 ∧ Bd (2 * ((foA c r.gs (F_one c 4 st).2).length - (i + 1)) + 4) (F_one c 2 s2).2 ∧ Sz 200 (L ++ [(foA c r.gs (F_one c 4 st).2).getD i ByteArray.empty]) ∧ foG c ((foA c r.gs (F_one c 4 st).2).drop (i + 1)) (L ++ [(foA c r.gs (F_one c 4 st).2).getD i ByteArray.empty]) (F_one c 2 s2).2 = foG c (foA c r.gs (F_one c 4 st).2) [] (F_pick c (r.gs.length : Nat) (F_one c 4 st).2).2 := ⟨by omega, by rw [List.length_append, List.length_singleton]; omega, b3, Sz_snoc g4 (by rw [List.getD_eq_getElem?_getD, List.getElem?_eq_getElem hi', Option.getD_some]; exact hz.le _ (List.getElem_mem hi')), e7⟩
          (repeat' (with_reducible refine And.intro ?_ ?_))
          all_goals first
            | (refine ⟨⟨(i + 1, L ++ [(foA c r.gs (F_one c 4 st).2).getD i ByteArray.empty], (F_one c 2 s2).2), nx⟩, by simp only; omega, ?_⟩
               rw [hI]
               (conv in matchSt _ _ _ _ => cbv); simp only [AllG, AllP, and_true, hH, stdH, zql, ncast, zqe, zqy]
               simp only [Int.toNat_natCast, eA]
               rw [w1 (by omega)]
               (repeat' (with_reducible refine And.intro ?_ ?_)) <;> (first | exact Eq.refl _ | exact True.intro | exact c.rqN | exact RowsEq.self okS | exact RowsEq.snocS rfl | exact List.length_append))
            | (simp only [hH, stdH, eA]; done)
            | (simp only [hH, stdH, eA]
               first | exact ⟨by omega, by omega⟩ | exact ⟨True.intro, by omega, by omega⟩ | omega)
        · simp only [hH, stdH, eA, bif2_t, decide_eq_true_eq] at k1
          have hi' : i < (foA c r.gs (F_one c 4 st).2).length := by omega
          have k2' : ¬ (F_one c 2 s2).1 = true := by simp only [hH, stdH] at k2; rw [show (F_one c 2 s2).1 = false from k2]; simp
          have e7 := (foG_go (c := c) (st := s2) hi' (by omega)).symm.trans g5
          rw [if_neg k2'] at e7
          have a3 := (p_one c 2 s2 (g3.mono (by omega))).1
          have b3 := a3.bd g3 (by omega : 2 + (2 * ((foA c r.gs (F_one c 4 st).2).length - (i + 1)) + 4) ≤ 2 * ((foA c r.gs (F_one c 4 st).2).length - i) + 4)
          refine ⟨⟨(i + 1, L, (F_one c 2 s2).2), by simp only; omega, g2, b3, g4, e7⟩, by simp only; omega, ?_⟩
          rw [hI]
          (conv in matchSt _ _ _ _ => cbv); simp only [AllG, AllP, and_true, hH, stdH, zql, ncast, zqe, zqy]
          rw [w1 (by omega)]
          (repeat' (with_reducible refine And.intro ?_ ?_)) <;> (first | exact Eq.refl _ | exact True.intro | exact c.rqN | exact RowsEq.self okS)
        · try simp only [hH, stdH, zqz, ne_eq, zqy]
          exact g3.mono (by omega)
        · simp only [hH, stdH, eA, bif2_f, decide_eq_false_iff_not] at k1
          have e8 : foG c ((foA c r.gs (F_one c 4 st).2).drop i) L s2 = (L, s2) := foG_end (by omega)
          rw [e8] at g5
          have k2' : (F_one c 3 s2).1 = true := by simp only [hH, stdH] at k2; exact k2
          have e9 : foY c r.gs st = (putF L (F_ofS c ftT3 (F_one c 3 s2).2).1, (F_ofS c ftT3 (F_one c 3 s2).2).2) := by
            rw [e6]
            unfold foB
            rw [← g5]
            exact if_pos k2'
          have a3 := (p_one c 3 s2 (g3.mono (by omega))).1
          have b3 := a3.bd g3 (by omega : 2 + 2 ≤ 2 * ((foA c r.gs (F_one c 4 st).2).length - i) + 4)
          have eT : Tl rowS 3 (rowsS stdH fun _ => [(⟨⟨[116, 51]⟩⟩ : ByteArray), (⟨⟨[107, 52]⟩⟩ : ByteArray), (⟨⟨[111, 50]⟩⟩ : ByteArray)]) = ftT3 := Tl_rowsT okS ftT3
          simp only [hH, stdH, TlS', eT, e9]
          (repeat' (with_reducible refine And.intro ?_ ?_)) <;> (first | exact Eq.refl _ | exact True.intro | exact c.rqN | exact Nat.le_refl _ | exact RowsEq.self okS | exact b3.mono (by omega) | exact Shp_rowsT okS _ (fun _ => _) | exact (by decide : 1 ≤ ftT3.length) | exact (by decide : ftT3.length ≤ 100) | exact ftT3_sz | omega)
        · simp only [hH, stdH, eA, bif2_f, decide_eq_false_iff_not] at k1
          have e8 : foG c ((foA c r.gs (F_one c 4 st).2).drop i) L s2 = (L, s2) := foG_end (by omega)
          rw [e8] at g5
          have k2' : ¬ (F_one c 3 s2).1 = true := by simp only [hH, stdH] at k2; rw [show (F_one c 3 s2).1 = false from k2]; simp
          have e9 : foY c r.gs st = (L, (F_one c 3 s2).2) := by
            rw [e6]
            unfold foB
            rw [← g5]
            exact if_neg k2'
          simp only [hH, stdH, e9]
          (repeat' (with_reducible refine And.intro ?_ ?_)) <;> (first | exact Eq.refl _ | exact True.intro | exact c.rqN | exact Nat.le_refl _ | exact RowsEq.self okS)
noncomputable def F_featuresOf (c : Cd) (r : Rgr) (st : DS) : List ByteArray × DS := drwM Tryz.prog 66 96 32 r_featuresOf nb_featuresOf (fun y => y.length ≤ 12 ∧ Sz 200 y) c [aT rowJ stdH fun _ => r] st
noncomputable def e_featuresOf (c : Cd) : Entry := curEN 66 96 32 c fun H st a nx => match a with
  | [.agg [.vec 18 r0n r0f]] => some (r_featuresOf nx H (fun _ => (F_featuresOf c (⟨(Tl rowW r0n r0f)⟩ : Rgr) st).1), nb_featuresOf H (fun _ => (F_featuresOf c (⟨(Tl rowW r0n r0f)⟩ : Rgr) st).1), (fun _ => (F_featuresOf c (⟨(Tl rowW r0n r0f)⟩ : Rgr) st).2), [H Prop fun _ => Shp rowW r0n r0f, H Prop fun _ => (⟨(Tl rowW r0n r0f)⟩ : Rgr).gs.length ≤ 20, H Prop fun _ => Nsz (⟨(Tl rowW r0n r0f)⟩ : Rgr).gs])
  | _ => none
theorem eok_featuresOf (c : Cd) : EntryOk Tryz.prog (e_featuresOf c) := curEN_ok (by unfold isBody; kernel_rfl) (by
  intro st a nx r nb y ob e hb hob
  split at e
  · rename_i r0n r0f
    simp only [zqt] at e
    obtain ⟨rfl, rfl, rfl, rfl⟩ := e
    have hd := drwM_spec (x_featuresOf c (⟨(Tl rowW r0n r0f)⟩ : Rgr) st hb hob.2.1 hob.2.2.1)
    refine ⟨_, _, ConN.args (.cons .rfl (.cons (.agg (.cons (.toT okRW rfl hob.1) .nil)) .nil)) hd.1, fun x hx => ?_, rfl, ?_, fun q b hq => ⟨b, hq, .same ?_⟩⟩
    · simp only [zqu] at hx
      rcases hx with rfl
      · exact (.agg fun c hc => (by
        simp only [zqu] at hc
        rcases hc with rfl
        · exact (hob.1).bl okRW _))
    · (repeat' (first | exact .nil | exact .slc ⟨by omega, by simp [nb_featuresOf]⟩ (by omega) | exact .pl .lit | exact .pl (vT_bl okS (fun _ => (F_featuresOf c (⟨(Tl rowW r0n r0f)⟩ : Rgr) st).1) _) | apply ReL.cons | apply Re.aggL | apply Re.tupL))
    · replace hq := List.mem_of_getElem? hq
      simp [nb_featuresOf] at hq
  · simp at e)
theorem p_featuresOf (c : Cd) (r : Rgr) (st : DS) (h : Bd 32 st) (h0 : r.gs.length ≤ 20) (h1 : Nsz r.gs) : Adv 32 st (F_featuresOf c r st).2 ∧ (fun y => y.length ≤ 12 ∧ Sz 200 y) (F_featuresOf c r st).1 := (drwM_spec (x_featuresOf c r st h h0 h1)).2

end Go.Proofs.YtcjjffmbhionmaaGreatDoor.AM

