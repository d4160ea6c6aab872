/- Lemmas and contracts (Rkb Alw Drl); conditions: none. -/
import Derived.Test.YtcjjffmbhionmaaGreatDoorK03
import Derived.Test.YtcjjffmbhionmaaGreatDoorK04
import Derived.Test.YtcjjffmbhionmaaGreatDoorK09
import Derived.Test.YtcjjffmbhionmaaGreatDoorK11
import Derived.Test.YtcjjffmbhionmaaGreatDoorK12
import Derived.Test.YtcjjffmbhionmaaGreatDoorK13
import Derived.Test.YtcjjffmbhionmaaGreatDoorK27
set_option linter.unusedVariables false
set_option linter.unusedSimpArgs false
set_option maxRecDepth 100000
set_option maxHeartbeats 4000000
set_option cbv.maxSteps 3000000
namespace Go.Proofs.YtcjjffmbhionmaaGreatDoor.AM
/- Grants searched for, the program's; conditions: none. -/
theorem drI (f : Nat → List AV) : dropR 0 1 f = f := by
  funext j
  show f (0 / 1 + j) = f j
  rw [Nat.zero_div, Nat.zero_add]
theorem preI_rows {L : List Int} {i : Nat} (hi : i ≤ L.length) : RowsEq 1 (L.take i).length (rowsI stdH fun _ => L.take i) i (rowsI stdH fun _ => L) := by
  have := Tl_dropR (D := rowI) (a := 0) (k := 1) (m := i) (by omega) (Tl_I L) (by omega)
  rw [Nat.zero_mul, List.drop_zero, drI] at this
  exact RowsEq.ofT okI rfl (Shp_I i L) this.symm
theorem offI (L : List Int) : (fun j => rowsI stdH (fun _ => L) (loOf none + j)) = rowsI stdH fun _ => L := by
  funext j
  show rowsI stdH (fun _ => L) (0 + j) = _
  rw [Nat.zero_add]
theorem hiN {n k : Nat} : hiOf n (some ((k : Nat) : Int)) - loOf none = k := by
  show ((k : Nat) : Int).toNat - 0 = k
  omega
theorem okB_pre {n k : Nat} (h : k ≤ n) : okB n none (some (k : Int)) := ⟨trivial, by show (0 : Int) ≤ (k : Nat); omega, by show 0 ≤ _; omega, by show ((k : Nat) : Int).toNat ≤ n; omega⟩
theorem c_searchI (r : Rgr) (f : List ByteArray) (h0 : r.gs.length ≤ 2000000) (h1 : Nsz r.gs) (h2 : f.length ≤ 100000) : ConN Tryz.prog 19 [aT rowJ stdH fun _ => r, .vec 1 (stdH Nat fun _ => (f).length) (rowsS stdH fun _ => f)] [] 0 (.tup [.vec 1 (stdH Nat fun _ => (if okRg r.gs && okFl f then saN f r.gs else []).length) (rowsI stdH fun _ => if okRg r.gs && okFl f then saN f r.gs else []), .vec 1 (stdH Nat fun _ => (if okRg r.gs && okFl f then saK f r.gs else []).length) (rowsI stdH fun _ => if okRg r.gs && okFl f then saK f r.gs else []), .lit (.bool (stdH Bool fun _ => okRg r.gs && okFl f))]) [] [] := by
  have hB : Base Tryz.prog (tabΓ [e_validR, e_areF, e_rankA]) tab := base_of tabOk (ents_cons eok_validR <| ents_cons eok_areF <| ents_cons eok_rankA <| ents_nil)
  refine con_m (N := 43) hB (draw_ok hB mixed) Tryz.func19 rfl rfl (fun H => [aT rowJ H fun _ => r, .vec 1 (H Nat fun _ => (f).length) (rowsS H fun _ => f)]) (fun _ => []) 0 (fun H => .tup [.vec 1 (H Nat fun _ => (if okRg r.gs && okFl f then saN f r.gs else []).length) (rowsI H fun _ => if okRg r.gs && okFl f then saN f r.gs else []), .vec 1 (H Nat fun _ => (if okRg r.gs && okFl f then saK f r.gs else []).length) (rowsI H fun _ => if okRg r.gs && okFl f then saK f r.gs else []), .lit (.bool (H Bool fun _ => okRg r.gs && okFl f))]) (fun H => []) (fun _ => []) 300 (by simp) (fun x hx => ?_) (by simp [lk]) (by omega) (by simp) ?_
  · simp only [zqu] at hx
    rcases hx with rfl | rfl
    · exact aT_bl okRJ _ _
    · exact vl_bl okS f _
  intro X hX hX0 H hH
  conv in Fin.chk _ _ => cbv
  try simp only [zqs, Plain_rowsC, Plain_rowsW, zqx, AllP, zqw, upd, if_true]
  simp only [TlW_H hH]
  refine ⟨?_, ⟨?_, ?_⟩, fun h3 => ?_, fun h3 => ?_⟩
  · try simp only [hH, stdH, zqz, ne_eq, zqy]
    exact ⟨Shp_W _ _, h0, h1⟩
  · try simp only [hH, stdH, zqz, ne_eq, zqy]
    exact fun _ => Shp_rowsT okS _ (fun _ => _)
  · simp only [hH, stdH, TlS']
    exact fun _ => h2
  · have e : (okRg r.gs && okFl f) = false := by
      simp only [hH, stdH, TlS'] at h3
      cases a : okRg r.gs <;> cases b : okFl f <;> simp_all
    simp only [hH, stdH, e, Bool.false_eq_true, if_false]
    (repeat' (with_reducible refine And.intro ?_ ?_)) <;> (first | exact True.intro | exact Eq.refl _ | exact RowsEq.self okI)
  · obtain ⟨e1, e2⟩ : okRg r.gs = true ∧ okFl f = true := by
      simp only [hH, stdH, TlS'] at h3
      cases a : okRg r.gs <;> cases b : okFl f <;> simp_all
    have hA := okRg_okA e1
    have hl := (okRg_in e1).1
    clear h3
    refine ⟨?_, ?_⟩
    · simp only [hH, stdH, TlS']
      exact ⟨Shp_W _ _, Shp_rowsT okS _ (fun _ => _), by omega, hA, h2, trivial, trivial⟩
    have ec := rkC_len f r.gs
    have en := rkN_len f r.gs
    refine loop_a hB (draw_ok hB mixed) hX hX0 hH false (ι := { i : Nat // i ≤ r.gs.length ∧ ∀ j, j < i → 0 < (rkC f r.gs).getD j 0 }) 300 (fun i => [.i (H Int fun _ => (i.1 : Nat))]) (fun i => r.gs.length - i.1) (⟨0, Nat.zero_le _, fun j h => absurd h (Nat.not_lt_zero j)⟩) ?_ ?_
    · (conv in matchSt _ _ _ _ => cbv); simp only [AllG, AllP, and_true, hH, stdH, zql, ncast, zqe, zqy]
      simp only [TlS']
      (repeat' (with_reducible refine And.intro ?_ ?_)) <;> (first | exact True.intro | exact Eq.refl _ | exact RowsEq.self okI)
    · intro I hI i
      conv in Fin.chk _ _ => cbv
      try simp only [zqs, Plain_rowsC, Plain_rowsW, zqx, AllP, zqw, upd, if_true]
      obtain ⟨i, hi, hj⟩ := i
      refine ⟨?_, ?_, fun k1 => ?_, fun k1 => ?_⟩
      · simp only [hH, stdH, TlS', Int.toNat_natCast, decide_eq_true_eq]
        omega
      · (simp only [hH, stdH, TlS', Int.toNat_natCast, decide_eq_true_eq]; intro h; exact ⟨by omega, rfl⟩)
      · simp only [hH, stdH, TlS', Int.toNat_natCast] at k1
        by_cases q : (i : Int) < ((rkC f r.gs).length : Nat)
        · rw [decide_eq_true q, cond_true, decide_eq_true_eq] at k1
          refine ⟨⟨i + 1, by omega, fun j hj' => ?_⟩, by simp only; omega, ?_⟩
          · rcases Nat.lt_succ_iff_lt_or_eq.1 hj' with h | rfl
            · exact hj j h
            · exact k1
          · rw [hI]
            (conv in matchSt _ _ _ _ => cbv); simp only [AllG, AllP, and_true, hH, stdH, zql, ncast, zqe, zqy]
            simp only [TlS']
            rw [w1 (by omega)]
            (repeat' (with_reducible refine And.intro ?_ ?_)) <;> (first | exact True.intro | exact Eq.refl _ | exact RowsEq.self okI)
        · rw [decide_eq_false q] at k1
          cases k1
      · have k2 : i = (rkC f r.gs).length ∨ ¬ 0 < (rkC f r.gs).getD i 0 := by
          simp only [hH, stdH, TlS', Int.toNat_natCast] at k1
          by_cases q : (i : Int) < ((rkC f r.gs).length : Nat)
          · rw [decide_eq_true q, cond_true, decide_eq_false_iff_not] at k1
            exact .inr k1
          · exact .inl (by omega)
        have k3 := cutP_at (by omega) hj k2
        have k4 : saN f r.gs = (rkN f r.gs).take i := by unfold saN; rw [k3]
        have k5 : saK f r.gs = (rkC f r.gs).take i := by unfold saK; rw [k3]
        have k6 : (okRg r.gs && okFl f) = true := by rw [e1, e2]; rfl
        simp only [hH, stdH, TlS', k6, if_true, hiN, k4, k5]
        (repeat' (with_reducible refine And.intro ?_ ?_)) <;> (first | exact True.intro | exact Eq.refl _ | exact okB_pre (by omega) | exact preI_rows (by omega) | (rw [offI]; exact preI_rows (by omega)) | omega)
noncomputable def e_searchI : Entry := pureE 19 fun H a => match a with
  | [.agg [.vec 18 r0n r0f], .vec 1 fn ff] => some (.tup [.vec 1 (H Nat fun _ => (if okRg (⟨(Tl rowW r0n r0f)⟩ : Rgr).gs && okFl (Tl rowS fn ff) then saN (Tl rowS fn ff) (⟨(Tl rowW r0n r0f)⟩ : Rgr).gs else []).length) (rowsI H fun _ => if okRg (⟨(Tl rowW r0n r0f)⟩ : Rgr).gs && okFl (Tl rowS fn ff) then saN (Tl rowS fn ff) (⟨(Tl rowW r0n r0f)⟩ : Rgr).gs else []), .vec 1 (H Nat fun _ => (if okRg (⟨(Tl rowW r0n r0f)⟩ : Rgr).gs && okFl (Tl rowS fn ff) then saK (Tl rowS fn ff) (⟨(Tl rowW r0n r0f)⟩ : Rgr).gs else []).length) (rowsI H fun _ => if okRg (⟨(Tl rowW r0n r0f)⟩ : Rgr).gs && okFl (Tl rowS fn ff) then saK (Tl rowS fn ff) (⟨(Tl rowW r0n r0f)⟩ : Rgr).gs else []), .lit (.bool (H Bool fun _ => okRg (⟨(Tl rowW r0n r0f)⟩ : Rgr).gs && okFl (Tl rowS fn ff)))], [H Prop fun _ => Shp rowW r0n r0f, H Prop fun _ => Shp rowS fn ff, H Prop fun _ => (⟨(Tl rowW r0n r0f)⟩ : Rgr).gs.length ≤ 2000000, H Prop fun _ => Nsz (⟨(Tl rowW r0n r0f)⟩ : Rgr).gs, H Prop fun _ => (Tl rowS fn ff).length ≤ 100000])
  | _ => none
theorem eok_searchI : EntryOk Tryz.prog e_searchI := pureM_ok (by unfold isBody; kernel_rfl) (by
  intro a r ob e hob
  split at e
  · rename_i r0n r0f fn ff
    simp only [zqt] at e
    obtain ⟨rfl, rfl⟩ := e
    exact ConN.args (.cons (.agg (.cons (.toT okRW rfl hob.1) .nil)) (.cons (.toT okS rfl hob.2.1) .nil)) (c_searchI (⟨(Tl rowW r0n r0f)⟩ : Rgr) (Tl rowS fn ff) hob.2.2.1 hob.2.2.2.1 hob.2.2.2.2.1)
  · simp at e)

end Go.Proofs.YtcjjffmbhionmaaGreatDoor.AM

set_option maxRecDepth 100000
set_option maxHeartbeats 4000000
set_option cbv.maxSteps 3000000
namespace Go.Proofs.YtcjjffmbhionmaaGreatDoor.AM
/- Findings; conditions: none. -/
structure Fdg where
  p : Int
  u : Int
  l : Int
deriving Inhabited
def rowsD (H : Hold) (L : Unit → List Fdg) (j : Nat) : List AV := [.lit (.int .i64 (H Int fun _ => ((L ()).getD j default).p)), .lit (.int .i64 (H Int fun _ => ((L ()).getD j default).u)), .lit (.int .i64 (H Int fun _ => ((L ()).getD j default).l))]
theorem Fdg.eta (a : Fdg) : (⟨a.p, a.u, a.l⟩ : Fdg) = a := rfl
theorem Plain_rowsD (n : Nat) (H : Hold) (L : Unit → List Fdg) : Plain n (rowsD H L) = True := eq_true ⟨fun j _ x hx => by simp [rowsD] at hx; rcases hx with rfl | rfl | rfl <;> rfl⟩
def eqrD (a b : Fdg) : Bool := allT [fun _ => a.p == b.p, fun _ => a.u == b.u, fun _ => a.l == b.l]
theorem eqrD_iff {a b : Fdg} : eqrD a b = true ↔ a = b := by
  obtain ⟨a0, a1, a2⟩ := a; obtain ⟨b0, b1, b2⟩ := b
  simp [eqrD, allT, and_assoc]
instance : DecidableEq Fdg := fun a b => decidable_of_iff (eqrD a b = true) eqrD_iff
end Go.Proofs.YtcjjffmbhionmaaGreatDoor.AM

set_option maxRecDepth 100000
set_option maxHeartbeats 4000000
set_option cbv.maxSteps 3000000
namespace Go.Proofs.YtcjjffmbhionmaaGreatDoor.AM
/- Findings drawn; conditions: none. -/
structure Sz (n : Nat) (l : List ByteArray) : Prop where
  le : ∀ s ∈ l, s.size ≤ n
theorem Sz.at {n : Nat} {l : List ByteArray} (h : Sz n l) (j : Nat) : (l.getD j ByteArray.empty).size ≤ n := by
  rcases Nat.lt_or_ge j l.length with g | g
  · rw [List.getD_eq_getElem?_getD, List.getElem?_eq_getElem g, Option.getD_some]
    exact h.le _ (List.getElem_mem g)
  · rw [List.getD_eq_getElem?_getD, List.getElem?_eq_none g, Option.getD_none]
    exact Nat.zero_le _
def r_ofS (n : Nat) (H : Hold) (y : Unit → ByteArray) : AV := .lit (.string (H ByteArray fun _ => (y ())))
def nb_ofS (H : Hold) (y : Unit → ByteArray) : List Blk := []
theorem x_ofS (c : Cd) (l : List ByteArray) (st : DS) (h : Bd 2 st) (h0 : 1 ≤ l.length) (h1 : l.length ≤ 100) (h2 : Sz 200 l) : ∃ y, DrwM Tryz.prog 66 47 2 r_ofS nb_ofS (fun y => y.size ≤ 200) c [.vec 1 (stdH Nat fun _ => (l).length) (rowsS stdH fun _ => l)] st y := by
  have hB : Base Tryz.prog (tabΓ [e_pick c]) tab := base_of tabOk (ents_cons (eok_pick c) <| ents_nil)
  refine drwM_ok (N := 12) hB (draw_ok hB mixed) Tryz.func47 rfl rfl 66 2 r_ofS nb_ofS (fun y => y.size ≤ 200) c (fun H => [.vec 1 (H Nat fun _ => (l).length) (rowsS H fun _ => l)]) st 100 (by simp) (fun x hx => ?_) ?_
  · simp only [zqu] at hx; rcases hx with rfl
    · exact vl_bl okS l _
  intro H hH
  conv in finish _ _ _ _ _ _ _ _ => cbv
  simp only [Fin.sat0, AllP, and_true, true_and, ncast, Int.ofNat_eq_natCast, heta hH]
  simp only [hlen hH]
  obtain ⟨a1, m1, n1⟩ := p_pick c (l.length) st (Bd.mono (by assumption)); generalize F_pick c (l.length) st = y1 at *; have b1 : Bd 0 y1.2 := Adv.bd a1 (by assumption)
  refine ⟨?_, ?_, ?_⟩
  · try simp only [hH, stdH, zqz, ne_eq, zqy]
    exact h.mono
  · try simp only [hH, stdH, zqz, ne_eq, zqy]
    omega
  · refine ⟨(l.getD y1.1.toNat ByteArray.empty, y1.2), a1, h2.at _, ?_⟩
    (conv in matchEx _ _ _ _ _ _ _ => cbv); simp only [AllG, AllP, and_true, hH, stdH, zql, ncast, zqe, zqy]
    (repeat' (first | with_reducible exact True.intro | exact c.rqN | rfl | refine And.intro ?_ ?_ | trivial))
noncomputable def F_ofS (c : Cd) (l : List ByteArray) (st : DS) : ByteArray × DS := drwM Tryz.prog 66 47 2 r_ofS nb_ofS (fun y => y.size ≤ 200) c [.vec 1 (stdH Nat fun _ => (l).length) (rowsS stdH fun _ => l)] st
noncomputable def e_ofS (c : Cd) : Entry := curEN 66 47 2 c fun H st a nx => match a with
  | [.vec 1 ln lf] => some (r_ofS nx H (fun _ => (F_ofS c (Tl rowS ln lf) st).1), nb_ofS H (fun _ => (F_ofS c (Tl rowS ln lf) st).1), (fun _ => (F_ofS c (Tl rowS ln lf) st).2), [H Prop fun _ => Shp rowS ln lf, H Prop fun _ => 1 ≤ (Tl rowS ln lf).length, H Prop fun _ => (Tl rowS ln lf).length ≤ 100, H Prop fun _ => Sz 200 (Tl rowS ln lf)])
  | _ => none
theorem eok_ofS (c : Cd) : EntryOk Tryz.prog (e_ofS c) := curEN_ok (by unfold isBody; kernel_rfl) (by
  intro st a nx r nb y ob e hb hob
  split at e
  · rename_i ln lf
    simp only [zqt] at e
    obtain ⟨rfl, rfl, rfl, rfl⟩ := e
    have hd := drwM_spec (x_ofS c (Tl rowS ln lf) st hb hob.2.1 hob.2.2.1 hob.2.2.2.1)
    refine ⟨_, _, ConN.args (.cons .rfl (.cons (.toT okS rfl hob.1) .nil)) hd.1, fun x hx => ?_, rfl, ?_, fun q b hq => ⟨b, hq, .same ?_⟩⟩
    · simp only [zqu] at hx
      rcases hx with rfl
      · exact (hob.1).bl okS _
    · (repeat' (first | exact .nil | exact .slc ⟨by omega, by simp [nb_ofS]⟩ (by omega) | exact .pl .lit | apply ReL.cons | apply Re.aggL | apply Re.tupL))
    · replace hq := List.mem_of_getElem? hq
      simp [nb_ofS] at hq
  · simp at e)
theorem p_ofS (c : Cd) (l : List ByteArray) (st : DS) (h : Bd 2 st) (h0 : 1 ≤ l.length) (h1 : l.length ≤ 100) (h2 : Sz 200 l) : Adv 2 st (F_ofS c l st).2 ∧ (fun y => y.size ≤ 200) (F_ofS c l st).1 := (drwM_spec (x_ofS c l st h h0 h1 h2)).2
theorem hs {H : Hold} (hH : H = stdH) (x : ByteArray) : (H ByteArray fun _ => x) = x := by subst hH; rfl
theorem hb {H : Hold} (hH : H = stdH) (x : Bool) : (H Bool fun _ => x) = x := by subst hH; rfl
end Go.Proofs.YtcjjffmbhionmaaGreatDoor.AM

