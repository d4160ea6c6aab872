import Derived.Test.YtmpbmbioeeckeaaAmT
import Derived.Test.YtmpbmbioeeckeaaSpo
import Derived.Test.YtmpbmbioeeckeaaPad
import Derived.Test.YtmpbmbioeeckeaaWra
set_option linter.unusedVariables false
set_option linter.unusedSimpArgs false
set_option maxRecDepth 100000
set_option maxHeartbeats 4000000
set_option cbv.maxSteps 3000000
namespace Go.Proofs.Ytmpbmbioeeckeaa.AM
/- Arms and their texts: draws, lines joined; conditions: none. -/
theorem okF_0 {p : Int} (h : 1 ≤ p ∧ p ≤ 9) : okF ⟨0, 0, p, 0⟩ = true := by
  simp [okF, inB]
  omega
theorem okF_1 {d l p q k : Int} (hd : 1 ≤ d ∧ d ≤ 7) (hl : 0 ≤ l ∧ l ≤ 4) (hp : 1 ≤ p ∧ p ≤ 9) (hk : 0 ≤ k ∧ k < 8) (hq : q = 1 + Int.tmod (p + k) 9) : okF ⟨d, l, p, q⟩ = true := by
  rw [Int.tmod_eq_emod_of_nonneg (by omega)] at hq
  unfold okF inB
  have h0 : ¬ d = 0 := by omega
  simp only [Bool.and_eq_true, decide_eq_true_eq, h0, if_false, Bool.not_eq_true', decide_eq_false_iff_not]
  omega
theorem okA_1 {f : Fld} {o l t : Int} {n r : Grp} (hf : okF f = true) (ho : 1 ≤ o ∧ o ≤ 7) (hl : 0 ≤ l ∧ l ≤ 4) (ht : 1 ≤ t ∧ t ≤ 9) (hn : (noG n || okG n) = true) (hr : (noG r || okG r) = true) : okA ⟨f, o, l, t, n, r⟩ = true := by
  have h0 : ¬ o = 0 := by omega
  unfold okA inB
  simp only [hf, hr, hn, h0, if_false, Bool.and_eq_true, decide_eq_true_eq, Bool.true_and, Bool.and_true, true_and, and_true]
  omega
theorem okA_0 {f : Fld} {r : Grp} (hf : okF f = true) (hr : (noG r || okG r) = true) : okA ⟨f, 0, 0, 0, zG, r⟩ = true := by
  unfold okA
  simp only [hf, hr, if_true, Bool.and_eq_true, decide_eq_true_eq, true_and]
  rfl
theorem orG {g : Grp} (h : okG g = true) : (noG g || okG g) = true := by rw [h]; simp
theorem orZ : (noG zG || okG zG) = true := rfl
def enc_fieldV (H : Hold) (y : Unit → Fld) : AV := .agg [.lit (.int .i64 (H Int fun _ => (((y ())).d))), .lit (.int .i64 (H Int fun _ => (((y ())).l))), .lit (.int .i64 (H Int fun _ => (((y ())).p))), .lit (.int .i64 (H Int fun _ => (((y ())).q)))]
theorem x_fieldV (c : Cd)  (st : DS) (h : Bd 10 st)  : ∃ y, Drw Try.prog 80 45 10 enc_fieldV (fun y => okF y = true) c [] st y := by
  have hB : Base Try.prog (tabΓ [e_tincture c, e_one c, e_pick c, e_among c]) tab := base_of tabOk (ents_cons (eok_tincture c) <| ents_cons (eok_one c) <| ents_cons (eok_pick c) <| ents_cons (eok_among c) <| ents_nil)
  refine drw_ok (N := 27) hB (draw_ok hB mixed) Try.func45 rfl rfl _ _ _ _ _ _ _ 100 (by simp) (by intro x hx; simp at hx; (first | done | (subst hx; first | (first | exact .lit | exact blq_ok 4 rfl) | exact .vec (fun j hj x hx => by simp [vrow] at hx; subst hx; exact .lit)) | (rcases hx with rfl | rfl <;> (first | exact .lit | exact blq_ok 4 rfl)) | (rcases hx with rfl | rfl | rfl <;> (first | exact .lit | exact blq_ok 4 rfl)))) ?_
  intro H hH
  conv in finish _ _ _ _ _ _ _ _ => cbv
  subst hH
  simp only [Fin.sat0, Fin.sat1, stdH, Option.some.injEq, AV.lit.injEq, AV.agg.injEq, AV.tup.injEq, List.cons.injEq, Value.bool.injEq, Value.int.injEq, AllP, and_true, true_and, eq_self, decide_eq_true_eq, decide_eq_false_iff_not, Bool.not_eq_true', Bool.not_eq_false', peta, ncast]
  obtain ⟨a1, m1, n1⟩ := p_tincture c st h.mono
  generalize F_tincture c st = y1 at *
  have b1 : Bd 8 y1.2 := a1.bd h
  have a2 := (p_one c 2 y1.2 (Bd.mono (by assumption))).1; generalize F_one c 2 y1.2 = y2 at *; have b2 : Bd 6 y2.2 := a2.bd (by assumption)
  obtain ⟨a3, m3, n3⟩ := p_pick c (7) y2.2 (Bd.mono (by assumption)); generalize F_pick c (7) y2.2 = y3 at *; have b3 : Bd 4 y3.2 := Adv.bd a3 (by assumption)
  have q4 := p_amongL c [.lit (.int .i64 0), .lit (.int .i64 0), .lit (.int .i64 1), .lit (.int .i64 2), .lit (.int .i64 3), .lit (.int .i64 4)] 6 y3.2 (by first | assumption | exact Bd.mono (by assumption)) rfl (by decide) (by decide); generalize F_among c 6 (ints (rowsOf 1 [.lit (.int .i64 0), .lit (.int .i64 0), .lit (.int .i64 1), .lit (.int .i64 2), .lit (.int .i64 3), .lit (.int .i64 4)])) y3.2 = y4 at *; simp only [List.map_cons, List.map_nil, intOf, List.mem_cons, List.not_mem_nil, or_false] at q4; obtain ⟨a4, q4⟩ := q4
  have b4 : Bd 2 y4.2 := a4.bd b3
  obtain ⟨a5, m5, n5⟩ := p_pick c (8) y4.2 (Bd.mono (by assumption)); generalize F_pick c (8) y4.2 = y5 at *; have b5 : Bd 0 y5.2 := Adv.bd a5 (by assumption)
  have w3 : IntKind.i64.wrap (1 + y3.1) = 1 + y3.1 := wi (by omega) (by omega)
  have w4 : IntKind.i64.wrap (y1.1 + y5.1) = y1.1 + y5.1 := wi (by omega) (by omega)
  have t1 := Int.tmod_nonneg 9 (a := y1.1 + y5.1) (by omega)
  have t2 := Int.tmod_lt_of_pos (y1.1 + y5.1) (show (0 : Int) < 9 by omega)
  have w5 : IntKind.i64.wrap (Int.tmod (y1.1 + y5.1) 9) = Int.tmod (y1.1 + y5.1) 9 := wi (by omega) (by omega)
  have w6 : IntKind.i64.wrap (1 + Int.tmod (y1.1 + y5.1) 9) = 1 + Int.tmod (y1.1 + y5.1) 9 := wi (by omega) (by omega)
  simp only [w3, w4, w5, w6]
  exact ⟨h.mono, b1.mono, fun _ => ⟨(⟨0, 0, y1.1, 0⟩, y2.2), .refl, by unfold enc_fieldV; (first | exact .lit | exact blq_ok 4 rfl), rfl, (a1.t a2).le (by decide), okF_0 ⟨m1, n1⟩⟩, fun _ => ⟨b2.mono, ⟨b3.mono, vrow_ok _ rfl (by decide), by decide, by decide⟩, b4, by decide, ⟨(⟨1 + y3.1, y4.1, y1.1, 1 + Int.tmod (y1.1 + y5.1) 9⟩, y5.2), .refl, by unfold enc_fieldV; (first | exact .lit | exact blq_ok 4 rfl), rfl, ((((a1.t a2).t a3).t a4).t a5).le (by decide), okF_1 ⟨by omega, by omega⟩ ⟨by omega, by omega⟩ ⟨m1, n1⟩ ⟨by omega, by omega⟩ rfl⟩⟩⟩
noncomputable def F_fieldV (c : Cd)  (st : DS) : Fld × DS := drw Try.prog 80 45 10 enc_fieldV (fun y => okF y = true) c [] st
noncomputable def e_fieldV (c : Cd) : Entry := curE 80 45 10 c fun H st a => match a with
  | [] => some (enc_fieldV H (fun _ => (F_fieldV c  st).1), (fun _ => (F_fieldV c  st).2), [])
  | _ => none
theorem eok_fieldV (c : Cd) : EntryOk Try.prog (e_fieldV c) := curE_ok (by unfold isBody; kernel_rfl) (by
  intro st a r y ob e hb hob
  split at e
  · simp only [Option.some.injEq, Prod.mk.injEq] at e
    obtain ⟨rfl, rfl, rfl⟩ := e
    exact ⟨(drw_spec (x_fieldV c  st hb)).1, (by intro x hx; cases hx), (by unfold enc_fieldV; (first | exact .lit | exact blq_ok 4 rfl))⟩
  · simp at e)
theorem p_fieldV (c : Cd)  (st : DS) (h : Bd 10 st)  : Adv 10 st (F_fieldV c  st).2 ∧ (fun y => okF y = true) (F_fieldV c  st).1 := (drw_spec (x_fieldV c  st h )).2
structure AW where
  a : Arm
  w : Int
deriving Inhabited
/-! ### Lines joined -/
def jf (a x : ByteArray) : ByteArray := a ++ (spB ++ x)
def jW : List ByteArray → ByteArray
  | [] => ByteArray.empty
  | w :: ws => ws.foldl jf w
theorem jf_pre (x : ByteArray) : ∀ (ws : List ByteArray) (a : ByteArray), ws.foldl jf (x ++ a) = x ++ ws.foldl jf a
  | [], _ => rfl
  | w :: ws, a => by
    show ws.foldl jf (jf (x ++ a) w) = x ++ ws.foldl jf (jf a w)
    rw [← jf_pre x ws (jf a w)]
    unfold jf
    rw [ByteArray.append_assoc]
theorem jW_snoc (d : List ByteArray) (n : ByteArray) (h : d ≠ []) : jW (d ++ [n]) = jW d ++ (spB ++ n) := by
  cases d with
  | nil => exact absurd rfl h
  | cons e d => show (d ++ [n]).foldl jf e = jf (d.foldl jf e) n; rw [List.foldl_append]; rfl
theorem jW_merge (d : List ByteArray) (n w : ByteArray) (ws : List ByteArray) : jW (d ++ (n ++ (spB ++ w)) :: ws) = jW (d ++ n :: w :: ws) := by
  cases d with
  | nil => rfl
  | cons e d =>
    show (d ++ (n ++ (spB ++ w)) :: ws).foldl jf e = (d ++ n :: w :: ws).foldl jf e
    rw [List.foldl_append, List.foldl_append]
    show ws.foldl jf (jf (d.foldl jf e) (n ++ (spB ++ w))) = ws.foldl jf (jf (jf (d.foldl jf e) n) w)
    congr 1
    unfold jf
    simp only [ByteArray.append_assoc]
theorem jW_wrap2 (width : Int) : ∀ (ws d : List ByteArray) (n : ByteArray), jW (wrap2 width d n ws) = jW (d ++ n :: ws)
  | [], d, n => by unfold wrap2; rfl
  | w :: ws, d, n => by
    unfold wrap2
    split
    · rw [jW_wrap2 width ws d (n ++ (spB ++ w)), jW_merge]
    · rw [jW_wrap2 width ws (d ++ [n]) w, List.append_assoc]; rfl
theorem ofL_cons (b : UInt8) (l : List UInt8) : ofL (b :: l) = ofL [b] ++ ofL l := by
  apply ByteArray.ext; apply Array.ext'; simp [ofL]
theorem jW_spl : ∀ l : List UInt8, jW ((spl l).map ofL) = ofL l
  | [] => rfl
  | b :: l => by
    have ih := jW_spl l
    rw [spl_cons, ofL_cons]
    cases e : spl l with
    | nil => exact absurd e (spl_ne _)
    | cons w ws =>
      rw [e] at ih
      split
      · rename_i hb
        subst hb
        show (ws.map ofL).foldl jf (jf (ofL []) (ofL w)) = _
        have : jf (ofL []) (ofL w) = ofL [32] ++ ofL w := empty_app _
        rw [this, jf_pre]
        exact congrArg _ ih
      · show (ws.map ofL).foldl jf (ofL (b :: w)) = _
        rw [ofL_cons, jf_pre]
        exact congrArg _ ih
theorem jW_words (s : ByteArray) : jW (wordsB s) = s := by
  have := jW_spl s.data.toList
  exact this
theorem jW_wrapT (s : ByteArray) (width : Int) : jW (wrapT s width) = s := by
  have h := jW_words s
  unfold wrapT wrapL
  cases e : wordsB s with
  | nil => rw [e] at h; exact h
  | cons w ws =>
    rw [e] at h
    show jW (wrap2 width [] w ws) = s
    rw [jW_wrap2]; exact h
theorem jW_take {L : List ByteArray} {i : Nat} (h : i < L.length) : jW (L.take (i + 1)) = if i = 0 then L.getD i ByteArray.empty else jW (L.take i) ++ (spB ++ L.getD i ByteArray.empty) := by
  rw [List.take_succ_eq_append_getElem h, List.getD_eq_getElem?_getD, List.getElem?_eq_getElem h]
  split
  · rename_i h0; subst h0; rfl
  · rename_i h0
    refine jW_snoc _ _ fun e => ?_
    have := congrArg List.length e
    rw [List.length_take, List.length_nil] at this
    omega
theorem jf_sz : ∀ (ws : List ByteArray) (a : ByteArray), a.size ≤ (ws.foldl jf a).size
  | [], _ => Nat.le_refl _
  | w :: ws, a => by
    refine Nat.le_trans ?_ (jf_sz ws (jf a w))
    unfold jf
    rw [ByteArray.size_append]; omega
theorem jW_sz (L : List ByteArray) (i : Nat) : (jW (L.take i)).size ≤ (jW L).size := by
  cases L with
  | nil => rw [List.take_nil]; exact Nat.le_refl _
  | cons w ws =>
    cases i with
    | zero => exact Nat.zero_le _
    | succ i =>
      show ((ws.take i).foldl jf w).size ≤ (ws.foldl jf w).size
      conv => rhs; rw [← List.take_append_drop i ws, List.foldl_append]
      exact jf_sz _ _

end Go.Proofs.Ytmpbmbioeeckeaa.AM
