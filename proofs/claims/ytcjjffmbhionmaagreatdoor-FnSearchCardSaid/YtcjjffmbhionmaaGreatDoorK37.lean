/- Lemmas and contracts (Fdr Fdq Fdw); conditions: none. -/
import Derived.Test.YtcjjffmbhionmaaGreatDoorK03
import Derived.Test.YtcjjffmbhionmaaGreatDoorK23
import Derived.Test.YtcjjffmbhionmaaGreatDoorK24
import Derived.Test.YtcjjffmbhionmaaGreatDoorK28
import Derived.Test.YtcjjffmbhionmaaGreatDoorK31
import Derived.Test.YtcjjffmbhionmaaGreatDoorK36
set_option linter.unusedVariables false
set_option linter.unusedSimpArgs false
set_option maxRecDepth 100000
set_option maxHeartbeats 4000000
set_option cbv.maxSteps 3000000
namespace Go.Proofs.YtcjjffmbhionmaaGreatDoor.AM
/- Features are drawn; conditions: none. -/
def ftD : List ByteArray := [(⟨⟨[116, 49]⟩⟩ : ByteArray), (⟨⟨[116, 51]⟩⟩ : ByteArray), (⟨⟨[116, 52]⟩⟩ : ByteArray), (⟨⟨[116, 53]⟩⟩ : ByteArray), (⟨⟨[116, 50]⟩⟩ : ByteArray), (⟨⟨[100, 48]⟩⟩ : ByteArray), (⟨⟨[100, 49]⟩⟩ : ByteArray), (⟨⟨[100, 52]⟩⟩ : ByteArray), (⟨⟨[108, 49]⟩⟩ : ByteArray), (⟨⟨[108, 50]⟩⟩ : ByteArray), (⟨⟨[111, 48]⟩⟩ : ByteArray), (⟨⟨[111, 50]⟩⟩ : ByteArray), (⟨⟨[111, 55]⟩⟩ : ByteArray), (⟨⟨[107, 49]⟩⟩ : ByteArray), (⟨⟨[107, 52]⟩⟩ : ByteArray), (⟨⟨[110, 48]⟩⟩ : ByteArray), (⟨⟨[110, 49]⟩⟩ : ByteArray), (⟨⟨[110, 51]⟩⟩ : ByteArray), (⟨⟨[110, 49, 50]⟩⟩ : ByteArray), (⟨⟨[108, 48]⟩⟩ : ByteArray), (⟨⟨[110, 49, 51]⟩⟩ : ByteArray), (⟨⟨[116, 49, 48]⟩⟩ : ByteArray), (⟨⟨[120, 49]⟩⟩ : ByteArray), (⟨⟨[116]⟩⟩ : ByteArray)]
theorem ftD_sz (k : Nat) : Sz 200 (ftD.take k) := ⟨fun x hx => (show ∀ x ∈ ftD, x.size ≤ 200 by decide) x (List.mem_of_mem_take hx)⟩
theorem ftD_cut {x : Int} (hx : 0 ≤ x ∧ x < 24) : IntKind.i64.wrap (19 + IntKind.i64.wrap (x.tdiv 4)) = ((19 + (x / 4).toNat : Nat) : Int) ∧ 19 + (x / 4).toNat ≤ 24 := by
  have e : x.tdiv 4 = x / 4 := Int.tdiv_eq_ediv_of_nonneg hx.1
  rw [e, wi (x := x / 4) (by omega) (by omega), wi (by omega) (by omega)]
  omega
theorem hiD {k : Nat} : hiOf 24 (some ((k : Nat) : Int)) - loOf none = k := by
  show ((k : Nat) : Int).toNat - 0 = k
  omega
theorem TlD_H {H : Hold} (hH : H = stdH) {x : Int} (hx : 0 ≤ x ∧ x < 24) : Tl rowS (H Nat fun _ => hiOf 24 (some (H Int fun _ => IntKind.i64.wrap (19 + H Int fun _ => IntKind.i64.wrap ((H Int fun _ => x).tdiv 4)))) - loOf none) (fun j => rowsS H (fun _ => [(⟨⟨[116, 49]⟩⟩ : ByteArray), (⟨⟨[116, 51]⟩⟩ : ByteArray), (⟨⟨[116, 52]⟩⟩ : ByteArray), (⟨⟨[116, 53]⟩⟩ : ByteArray), (⟨⟨[116, 50]⟩⟩ : ByteArray), (⟨⟨[100, 48]⟩⟩ : ByteArray), (⟨⟨[100, 49]⟩⟩ : ByteArray), (⟨⟨[100, 52]⟩⟩ : ByteArray), (⟨⟨[108, 49]⟩⟩ : ByteArray), (⟨⟨[108, 50]⟩⟩ : ByteArray), (⟨⟨[111, 48]⟩⟩ : ByteArray), (⟨⟨[111, 50]⟩⟩ : ByteArray), (⟨⟨[111, 55]⟩⟩ : ByteArray), (⟨⟨[107, 49]⟩⟩ : ByteArray), (⟨⟨[107, 52]⟩⟩ : ByteArray), (⟨⟨[110, 48]⟩⟩ : ByteArray), (⟨⟨[110, 49]⟩⟩ : ByteArray), (⟨⟨[110, 51]⟩⟩ : ByteArray), (⟨⟨[110, 49, 50]⟩⟩ : ByteArray), (⟨⟨[108, 48]⟩⟩ : ByteArray), (⟨⟨[110, 49, 51]⟩⟩ : ByteArray), (⟨⟨[116, 49, 48]⟩⟩ : ByteArray), (⟨⟨[120, 49]⟩⟩ : ByteArray), (⟨⟨[116]⟩⟩ : ByteArray)]) (H Nat fun _ => loOf none + j)) = ftD.take (19 + (x / 4).toNat) := by
  obtain ⟨e, h⟩ := ftD_cut hx
  subst hH
  simp only [stdH, e, hiD]
  exact (Tl_offS (L := ftD) (o := 0) (n := 19 + (x / 4).toNat) (by show 0 + _ ≤ 24; omega)).trans (by rw [List.drop_zero])
theorem ftD_len {x : Int} (hx : 0 ≤ x ∧ x < 24) : (ftD.take (19 + (x / 4).toNat)).length = 19 + (x / 4).toNat := by
  rw [List.length_take]
  show min _ 24 = _
  have := (ftD_cut hx).2
  omega
def r_feature (n : Nat) (H : Hold) (y : Unit → ByteArray) : AV := .lit (.string (H ByteArray fun _ => (y ())))
def nb_feature (H : Hold) (y : Unit → ByteArray) : List Blk := []
theorem x_feature (c : Cd)  (st : DS) (h : Bd 4 st)  : ∃ y, DrwM Tryz.prog 66 48 4 r_feature nb_feature (fun y => y.size ≤ 200) c [] st y := by
  have hB : Base Tryz.prog (tabΓ [e_pick c, e_ofS c]) tab := base_of tabOk (ents_cons (eok_pick c) <| ents_cons (eok_ofS c) <| ents_nil)
  refine drwM_ok (N := 11) hB (draw_ok hB mixed) Tryz.func48 rfl rfl 66 4 r_feature nb_feature (fun y => y.size ≤ 200) c (fun H => []) st 200 (by simp) (fun x hx => ?_) ?_
  · cases hx
  intro H hH
  conv in finish _ _ _ _ _ _ _ _ => cbv
  simp only [Fin.sat0, AllP, and_true, true_and, ncast, Int.ofNat_eq_natCast, heta hH]
  obtain ⟨a1, m1, n1⟩ := p_pick c 24 st (h.mono (by omega))
  have b1 := a1.bd h (by omega : 2 + 2 ≤ 4)
  have hx : 0 ≤ (F_pick c 24 st).1 ∧ (F_pick c 24 st).1 < 24 := ⟨m1, by omega⟩
  have hl := ftD_len hx
  obtain ⟨a2, l2⟩ := p_ofS c (ftD.take (19 + ((F_pick c 24 st).1 / 4).toNat)) (F_pick c 24 st).2 (b1.mono (by omega)) (by omega) (by have := (ftD_cut hx).2; omega) (ftD_sz _)
  simp only [TlD_H hH hx]
  refine ⟨?_, ?_, ?_, ⟨?_, ?_, ?_, ?_, ?_⟩, ?_⟩
  · try simp only [hH, stdH, zqz, ne_eq, zqy]
    exact h.mono (by omega)
  · try simp only [hH, stdH, zqz, ne_eq, zqy]
    decide
  · obtain ⟨e, q⟩ := ftD_cut hx
    simp only [hH, stdH, e]
    exact ⟨trivial, by show (0 : Int) ≤ ((_ : Nat) : Int); omega, Nat.zero_le _, by show ((_ : Nat) : Int).toNat ≤ 24; omega⟩
  · try simp only [hH, stdH, zqz, ne_eq, zqy]
    exact b1.mono (by omega)
  · try simp only [hH, stdH, zqz, ne_eq, zqy]
    exact Shp_offS ftD _ _
  · try simp only [hH, stdH, zqz, ne_eq, zqy]
    omega
  · have := (ftD_cut hx).2
    try simp only [hH, stdH, zqz, ne_eq, zqy]
    omega
  · try simp only [hH, stdH, zqz, ne_eq, zqy]
    exact ftD_sz _
  · refine ⟨((F_ofS c (ftD.take (19 + ((F_pick c 24 st).1 / 4).toNat)) (F_pick c 24 st).2).1, (F_ofS c (ftD.take (19 + ((F_pick c 24 st).1 / 4).toNat)) (F_pick c 24 st).2).2), (a1.trans a2 (Nat.le_refl _)).le (by omega), l2, ?_⟩
    (conv in matchEx _ _ _ _ _ _ _ => cbv); simp only [AllG, AllP, and_true, hH, stdH, zql, ncast, zqe, zqy]
    all_goals (repeat' (with_reducible refine And.intro ?_ ?_)) <;> (first | exact Eq.refl _ | exact True.intro | exact c.rqN)
noncomputable def F_feature (c : Cd)  (st : DS) : ByteArray × DS := drwM Tryz.prog 66 48 4 r_feature nb_feature (fun y => y.size ≤ 200) c [] st
noncomputable def e_feature (c : Cd) : Entry := curEN 66 48 4 c fun H st a nx => match a with
  | [] => some (r_feature nx H (fun _ => (F_feature c  st).1), nb_feature H (fun _ => (F_feature c  st).1), (fun _ => (F_feature c  st).2), [])
  | _ => none
theorem eok_feature (c : Cd) : EntryOk Tryz.prog (e_feature c) := curEN_ok (by unfold isBody; kernel_rfl) (by
  intro st a nx r nb y ob e hb hob
  split at e
  · simp only [zqt] at e
    obtain ⟨rfl, rfl, rfl, rfl⟩ := e
    have hd := drwM_spec (x_feature c  st hb )
    refine ⟨_, _, ConN.args (.cons .rfl .nil) hd.1, fun x hx => ?_, rfl, ?_, fun q b hq => ⟨b, hq, .same ?_⟩⟩
    · cases hx
    · (repeat' (first | exact .nil | exact .slc ⟨by omega, by simp [nb_feature]⟩ (by omega) | exact .pl .lit | apply ReL.cons | apply Re.aggL | apply Re.tupL))
    · replace hq := List.mem_of_getElem? hq
      simp [nb_feature] at hq
  · simp at e)
theorem p_feature (c : Cd)  (st : DS) (h : Bd 4 st)  : Adv 4 st (F_feature c  st).2 ∧ (fun y => y.size ≤ 200) (F_feature c  st).1 := (drwM_spec (x_feature c  st h )).2
end Go.Proofs.YtcjjffmbhionmaaGreatDoor.AM

set_option maxRecDepth 100000
set_option maxHeartbeats 4000000
set_option cbv.maxSteps 3000000
namespace Go.Proofs.YtcjjffmbhionmaaGreatDoor.AM
/- Lists of features put together; conditions: none. -/
theorem PlS (n : Nat) (L : List ByteArray) : Plain n (rowsS stdH fun _ => L) := of_eq_true (Plain_rowsS n stdH fun _ => L)
theorem putO_plain {l : List ByteArray} {s : ByteArray} {i : Nat} (hi : i ≤ l.length) : Plain i (app 0 (rowsOf 1 []) (dropR 0 1 (rowsS stdH fun _ => l))) ∧ Plain (i + 1 + (l.length - i)) (app (i + 1) (app i (app 0 (rowsOf 1 []) (dropR 0 1 (rowsS stdH fun _ => l))) (rowsS stdH fun _ => [s])) (dropR (i * 1) 1 (rowsS stdH fun _ => l))) := by
  have h1 : Plain i (dropR 0 1 (rowsS stdH fun _ => l)) := by
    have := Plain.drop (a := 0) (k := 1) (m := i) (n := l.length) (by omega) (PlS l.length l) (by omega)
    rw [Nat.zero_mul] at this
    exact this
  have h2 : Plain i (app 0 (rowsOf 1 []) (dropR 0 1 (rowsS stdH fun _ => l))) := by
    rw [app_zero]
    exact h1
  exact ⟨h2, Plain.app (Plain.app h2 (PlS 1 [s])) (Plain.drop (a := i) (k := 1) (m := l.length - i) (n := l.length) (by omega) (PlS l.length l) (by omega))⟩
theorem putO_rows {l : List ByteArray} {s : ByteArray} {i : Nat} (hi : i ≤ l.length) : RowsEq 1 (l.take i ++ s :: l.drop i).length (rowsS stdH fun _ => l.take i ++ s :: l.drop i) (i + 1 + (l.length - i)) (app (i + 1) (app i (app 0 (rowsOf 1 []) (dropR 0 1 (rowsS stdH fun _ => l))) (rowsS stdH fun _ => [s])) (dropR (i * 1) 1 (rowsS stdH fun _ => l))) := by
  have e1 : dropR 0 1 (rowsS stdH fun _ => l) = fun j => rowsS stdH (fun _ => l) (0 + j) := funext fun j => rfl
  have e2 : dropR (i * 1) 1 (rowsS stdH fun _ => l) = fun j => rowsS stdH (fun _ => l) (i + j) := funext fun j => by
    show rowsS stdH _ (i * 1 / 1 + j) = _
    rw [Nat.mul_one, Nat.div_one]
  rw [e1, e2]
  exact put_rows hi
theorem c_putO (l : List ByteArray) (s : ByteArray) (h0 : l.length ≤ 100000) : ConN Tryz.prog 38 [.slc 0 0 1 (stdH Nat fun _ => l.length), .lit (.string s)] [(0, .rows 1 (stdH Nat fun _ => l.length) (rowsS stdH fun _ => l) 9)] 1 (.slc 1 0 1 (putF l s).length) [.rows 1 (stdH Nat fun _ => (putF l s).length) (rowsS stdH fun _ => putF l s) 9] [(0, .cells [] 9)] := by
  have hB : Base Tryz.prog (tabΓ []) tabO := base_of tabOkO (ents_nil)
  refine con_m (N := 45) hB (draw_ok hB mixed) Tryz.func38 rfl rfl (fun H => [.slc 0 0 1 (H Nat fun _ => l.length), .lit (.string s)]) (fun H => [(0, .rows 1 (H Nat fun _ => l.length) (rowsS H fun _ => l) 9)]) 1 (fun H => .slc 1 0 1 (H Nat fun _ => (putF l s).length)) (fun H => [.rows 1 (H Nat fun _ => (putF l s).length) (rowsS H fun _ => putF l s) 9]) (fun H => [(0, .cells [] 9)]) 300 (by simp) (fun x hx => ?_) (fun i b hi => ?_) (fun i hi => ?_) (fun i b hi => ?_) ?_
  · simp only [zqu] at hx
    rcases hx with rfl | rfl
    · exact .slc (by omega)
    · exact .lit
  · have := lk_in hi
    simp only [zqu, Prod.mk.injEq] at this
    obtain ⟨rfl, rfl⟩ := this
    exact ⟨by omega, bT_bl okS _ (fun _ => l) _, _, List.mem_cons_self⟩
  · obtain rfl : i = 0 := by omega
    exact ⟨_, rfl⟩
  · simp only [zqu, Prod.mk.injEq] at hi
    obtain ⟨rfl, rfl⟩ := hi
    exact ⟨_, rfl⟩
  intro X hX hX0 H hH
  conv in Fin.chk _ _ => cbv
  try simp only [zqs, Plain_rowsC, Plain_rowsD, Plain_rowsW, zqx, AllP, zqw, upd, if_true]
  refine loop_a hB (draw_ok hB mixed) hX hX0 hH false (ι := { i : Nat // i ≤ l.length ∧ ∀ j, j < i → ltA (l.getD j ByteArray.empty) s = true }) 300 (fun i => [.i (H Int fun _ => (i.1 : Nat))]) (fun i => l.length - i.1) (⟨0, Nat.zero_le _, fun j h => absurd h (Nat.not_lt_zero j)⟩) ?_ ?_
  · (conv in matchSt _ _ _ _ => cbv); simp only [AllG, AllP, and_true, hH, stdH, zql, ncast, zqe, zqy]
    exact ⟨RowsEq.self okS, rfl⟩
  · intro I hI i
    conv in Fin.chk _ _ => cbv
    try simp only [zqs, Plain_rowsC, Plain_rowsD, Plain_rowsW, zqx, AllP, zqw, upd, if_true]
    obtain ⟨i, hi, hj⟩ := i
    have hbl : ∀ q : Nat, Op.bytesLess (l.getD q ByteArray.empty).toList s.toList = ltA (l.getD q ByteArray.empty) s := fun _ => rfl
    refine ⟨?_, ?_, fun h1 => ?_, fun h1 => ⟨?_, ?_, fun h2 => ?_, fun h2 => ?_⟩⟩
    · try simp only [hH, stdH, zqz, ne_eq, zqy]
      intro h
      omega
    · try simp only [hH, stdH, zqz, ne_eq, zqy]
      intro h
      exact ⟨by omega, rfl⟩
    · simp only [hH, stdH, Int.toNat_natCast, hbl] at h1
      by_cases q : (i : Int) < l.length
      · rw [decide_eq_true q, cond_true] at h1
        refine ⟨⟨i + 1, by omega, fun j hj' => ?_⟩, by simp only; omega, ?_⟩
        · rcases Nat.lt_succ_iff_lt_or_eq.1 hj' with h | rfl
          · exact hj j h
          · exact h1
        · rw [hI]
          (conv in matchSt _ _ _ _ => cbv); simp only [AllG, AllP, and_true, hH, stdH, zql, ncast, zqe, zqy]
          rw [w1 (by omega)]
          exact ⟨RowsEq.self okS, rfl⟩
      · rw [decide_eq_false q] at h1
        cases h1
    · try simp only [hH, stdH, zqz, ne_eq, zqy]
      intro h
      omega
    · try simp only [hH, stdH, zqz, ne_eq, zqy]
      intro h
      exact ⟨by omega, rfl⟩
    · simp only [hH, stdH, Int.toNat_natCast, beqT] at h2
      by_cases q : (i : Int) < l.length
      · rw [decide_eq_true q, cond_true, decide_eq_true_eq] at h2
        have hi' : i < l.length := by omega
        have e0 : l.getD i ByteArray.empty = l[i] := by rw [List.getD_eq_getElem?_getD, List.getElem?_eq_getElem hi', Option.getD_some]
        rw [e0] at h2
        have e : putF l s = l := by
          rw [putF_at l i hi hj, List.drop_eq_getElem_cons hi', h2]
          conv => rhs; rw [← List.take_append_drop i l, List.drop_eq_getElem_cons hi', h2]
          congr 1
          exact (if_neg (by rw [ltA_irr]; simp)).trans (if_pos rfl)
        try simp only [hH, stdH, zqz, ne_eq, zqy]
        rw [e]
        exact ⟨RowsEq.self okS, rfl⟩
      · rw [decide_eq_false q] at h2
        cases h2
    · have e : putF l s = l.take i ++ s :: l.drop i := by
        rw [putF_at l i hi hj]
        congr 1
        simp only [hH, stdH, Int.toNat_natCast, hbl, beqT] at h1 h2
        by_cases q : i < l.length
        · rw [decide_eq_true (show (i : Int) < l.length by omega), cond_true] at h1 h2
          rw [decide_eq_false_iff_not] at h2
          have e0 : l.getD i ByteArray.empty = l[i] := by rw [List.getD_eq_getElem?_getD, List.getElem?_eq_getElem q, Option.getD_some]
          rw [e0] at h1 h2
          rw [List.drop_eq_getElem_cons q]
          exact (if_neg (by rw [h1]; simp)).trans (if_neg h2)
        · rw [List.drop_of_length_le (by omega)]; rfl
      have h5 : hiOf l.length (some (i : Int)) - loOf none = i := by show ((i : Nat) : Int).toNat - 0 = i; omega
      have h6 : hiOf l.length none - loOf (some (i : Int)) = l.length - i := by show l.length - ((i : Nat) : Int).toNat = _; rw [Int.toNat_natCast]
      have h8 : hiOf l.length none = l.length := rfl
      have h9 : loOf none = 0 := rfl
      have h10 : ∀ j, rowsS stdH (fun _ => l) j = [.lit (.string (l.getD j ByteArray.empty))] := fun j => rfl
      simp only [hH, stdH]
      rw [e]
      simp only [h5, h6, h8, h9, Int.toNat_natCast]
      have pl := putO_plain (s := s) hi
      have el : (l.take i ++ s :: l.drop i).length = i + 1 + (l.length - i) := by rw [List.length_append, List.length_cons, List.length_take, List.length_drop]; omega
      have o1 : okB l.length none (some (i : Int)) := ⟨trivial, by show (0 : Int) ≤ (i : Nat); omega, by show 0 ≤ _; omega, by show ((i : Nat) : Int).toNat ≤ l.length; omega⟩
      have o2 : okB l.length (some (i : Int)) none := ⟨by show (0 : Int) ≤ (i : Nat); omega, trivial, by show ((i : Nat) : Int).toNat ≤ l.length; omega, Nat.le_refl _⟩
      (repeat' (with_reducible refine And.intro ?_ ?_)) <;> (first | exact True.intro | exact pl.1 | exact pl.2 | exact o1 | exact o2 | exact fun j _ => rfl | exact el | exact putO_rows hi | exact Nat.mod_one _ | omega)
noncomputable def e_putO : Entry := growE 38 1 9 fun H n g a => match a with
  | [.lit (.string s)] => some (H Nat fun _ => (putF (Tl rowS n g) s).length, rowsS H fun _ => putF (Tl rowS n g) s, [H Prop fun _ => Shp rowS n g, H Prop fun _ => (Tl rowS n g).length ≤ 100000])
  | _ => none
theorem eok_putO : EntryOk Tryz.prog e_putO := growE_ok (by unfold isBody; kernel_rfl) (by
  intro n g a m g' ob e hob
  split at e
  · rename_i s
    simp only [zqt] at e
    obtain ⟨rfl, rfl, rfl⟩ := e
    have hs := hob.1
    have hl : (Tl rowS n g).length = n := Tl_len n g
    refine ⟨rowsS stdH fun _ => Tl rowS n g, fun j hj => ⟨?_, ?_⟩, ?_, fun x hx => ?_, fun j hj => ?_⟩
    · rw [hs.row j hj]; exact ((okS).row (fun _ => Tl rowS n g) j).trans (by rw [Tl_getD hj])
    · exact rows_blx okS _ j
    · have := c_putO (Tl rowS n g) s hob.2.1
      simp only [stdH, hl] at this ⊢
      exact ConN.args (.cons .rfl (.cons .rfl .nil)) this
    · simp only [zqu] at hx
      rcases hx with rfl
      · exact .lit
    · exact rows_blx okS _ j
  · simp at e)

end Go.Proofs.YtcjjffmbhionmaaGreatDoor.AM

set_option maxRecDepth 100000
set_option maxHeartbeats 4000000
set_option cbv.maxSteps 3000000
namespace Go.Proofs.YtcjjffmbhionmaaGreatDoor.AM
/- Lists of features are drawn; conditions: none. -/
def ftE : List ByteArray := [(⟨⟨[100, 48]⟩⟩ : ByteArray), (⟨⟨[100, 49]⟩⟩ : ByteArray), (⟨⟨[100, 50]⟩⟩ : ByteArray), (⟨⟨[100, 51]⟩⟩ : ByteArray), (⟨⟨[100, 52]⟩⟩ : ByteArray), (⟨⟨[100, 53]⟩⟩ : ByteArray), (⟨⟨[100, 54]⟩⟩ : ByteArray), (⟨⟨[100, 55]⟩⟩ : ByteArray), (⟨⟨[111, 48]⟩⟩ : ByteArray), (⟨⟨[111, 49]⟩⟩ : ByteArray), (⟨⟨[111, 50]⟩⟩ : ByteArray)]
def ftA : ByteArray := (⟨⟨[97]⟩⟩ : ByteArray)
def ftT3 : List ByteArray := [(⟨⟨[116, 51]⟩⟩ : ByteArray), (⟨⟨[107, 52]⟩⟩ : ByteArray), (⟨⟨[111, 50]⟩⟩ : ByteArray)]
theorem putF_sz {n : Nat} {l : List ByteArray} {s : ByteArray} (h : Sz n l) (hs : s.size ≤ n) : Sz n (putF l s) := ⟨fun x hx => by
  rcases (putF_mem l s x).1 hx with rfl | hx
  · exact hs
  · exact h.le x hx⟩
theorem Sz_snoc {n : Nat} {l : List ByteArray} {s : ByteArray} (h : Sz n l) (hs : s.size ≤ n) : Sz n (l ++ [s]) := ⟨fun x hx => by
  rcases List.mem_append.1 hx with hx | hx
  · exact h.le x hx
  · rw [List.mem_singleton] at hx; subst hx; exact hs⟩
noncomputable def fsG (c : Cd) : Nat → List ByteArray → DS → List ByteArray × DS
  | 0, L, st => (L, st)
  | n + 1, L, st => fsG c n (putF L (F_feature c st).1) (F_feature c st).2
noncomputable def fsE (c : Cd) (L : List ByteArray) (st : DS) : List ByteArray × DS := if (F_pick c 40 st).1 = 0 then (L ++ [ftA], (F_pick c 40 st).2) else if (F_pick c 40 st).1 = 1 then (ftE.take (10 + (F_pick c 2 (F_pick c 40 st).2).1.toNat), (F_pick c 2 (F_pick c 40 st).2).2) else (L, (F_pick c 40 st).2)
noncomputable def fsY (c : Cd) (st : DS) : List ByteArray × DS := fsE c (fsG c (F_pick c 5 st).1.toNat [] (F_pick c 5 st).2).1 (fsG c (F_pick c 5 st).1.toNat [] (F_pick c 5 st).2).2
theorem fsG_ok (c : Cd) : ∀ (n : Nat) (L : List ByteArray) (st : DS) (m : Nat), Bd (4 * n + m) st → Sz 200 L → Adv (4 * n) st (fsG c n L st).2 ∧ (fsG c n L st).1.length ≤ L.length + n ∧ Sz 200 (fsG c n L st).1
  | 0, L, st, m, _, hL => ⟨Adv.refl _ _, Nat.le_refl _, hL⟩
  | n + 1, L, st, m, h, hL => by
    obtain ⟨a1, q1⟩ := p_feature c st (h.mono (by omega))
    have b1 := a1.bd h (by omega : 4 + (4 * n + m) ≤ 4 * (n + 1) + m)
    obtain ⟨h1, h2, h3⟩ := fsG_ok c n (putF L (F_feature c st).1) (F_feature c st).2 m b1 (putF_sz hL q1)
    have := putF_len L (F_feature c st).1
    unfold fsG
    exact ⟨a1.trans h1 (by omega), by omega, h3⟩
theorem fsE_ok (c : Cd) (L : List ByteArray) (st : DS) (h : Bd 4 st) (h1 : L.length ≤ 4) (h2 : Sz 200 L) : Adv 4 st (fsE c L st).2 ∧ (fsE c L st).1.length ≤ 12 ∧ Sz 200 (fsE c L st).1 := by
  obtain ⟨a1, m1, n1⟩ := p_pick c 40 st (h.mono (by omega))
  have b1 := a1.bd h (by omega : 2 + 2 ≤ 4)
  obtain ⟨a2, m2, n2⟩ := p_pick c 2 (F_pick c 40 st).2 (b1.mono (by omega))
  unfold fsE
  split
  · exact ⟨a1.le (by omega), by simp only [List.length_append, List.length_singleton]; omega, Sz_snoc h2 (by decide)⟩
  · split
    · refine ⟨a1.trans a2 (by omega), ?_, ⟨fun x hx => (show ∀ x ∈ ftE, x.size ≤ 200 by decide) x (List.mem_of_mem_take hx)⟩⟩
      simp only [List.length_take]
      omega
    · exact ⟨a1.le (by omega), by simp only; omega, h2⟩
theorem fsY_ok (c : Cd) (st : DS) (h : Bd 22 st) : Adv 22 st (fsY c st).2 ∧ ((fsY c st).1.length ≤ 12 ∧ Sz 200 (fsY c st).1) := by
  obtain ⟨a1, m1, n1⟩ := p_pick c 5 st (h.mono (by omega))
  have b1 := a1.bd h (by omega : 2 + 20 ≤ 22)
  obtain ⟨h1, h2, h3⟩ := fsG_ok c (F_pick c 5 st).1.toNat [] (F_pick c 5 st).2 4 (b1.mono (by omega)) ⟨fun x hx => by cases hx⟩
  have b2 := h1.bd b1 (by omega : 4 * (F_pick c 5 st).1.toNat + 4 ≤ 20)
  rw [List.length_nil] at h2
  obtain ⟨h4, h5, h6⟩ := fsE_ok c (fsG c (F_pick c 5 st).1.toNat [] (F_pick c 5 st).2).1 (fsG c (F_pick c 5 st).1.toNat [] (F_pick c 5 st).2).2 b2 (by omega) h3
  unfold fsY
  exact ⟨a1.trans (h1.trans h4 (Nat.le_refl _)) (by omega), h5, h6⟩
theorem hiE {k : Nat} : hiOf 11 (some ((k : Nat) : Int)) - loOf none = k := by
  show ((k : Nat) : Int).toNat - 0 = k
  omega
theorem ftE_rows {k : Nat} (h : k ≤ 11) : RowsEq 1 (ftE.take k).length (rowsS stdH fun _ => ftE.take k) k (fun j => rowsS stdH (fun _ => ftE) (loOf none + j)) := by
  have e := Tl_offS (L := ftE) (o := 0) (n := k) (by show 0 + k ≤ 11; omega)
  rw [List.drop_zero] at e
  exact RowsEq.ofT okS rfl (Shp_offS ftE 0 k) e.symm
def r_features (n : Nat) (H : Hold) (y : Unit → List ByteArray) : AV := .vec 1 (H Nat fun _ => ((y ())).length) (rowsS H fun _ => (y ()))
def nb_features (H : Hold) (y : Unit → List ByteArray) : List Blk := []
theorem x_features (c : Cd)  (st : DS) (h : Bd 22 st)  : ∃ y, DrwM Tryz.prog 66 58 22 r_features nb_features (fun y => y.length ≤ 12 ∧ Sz 200 y) c [] st y := by
  have hB : Base Tryz.prog (tabΓ [e_pick c, e_feature c, e_putO]) tabO := base_of tabOkO (ents_cons (eok_pick c) <| ents_cons (eok_feature c) <| ents_cons eok_putO <| ents_nil)
  refine drwM_okL (N := 31) hB (draw_ok hB mixed) Tryz.func58 rfl rfl 66 22 r_features nb_features (fun y => y.length ≤ 12 ∧ Sz 200 y) c (fun H => []) st 400 (by simp) (fun x hx => ?_) (fsY c st) (fsY_ok c st h) ?_
  · cases hx
  intro X hX hX0 H hH
  conv in Fin.chk _ _ => cbv
  try simp only [zqs, Plain_rowsC, Plain_rowsD, Plain_rowsW, zqx, AllP, zqw, upd, if_true]
  obtain ⟨a1, m1, n1⟩ := p_pick c 5 st (h.mono (by omega))
  have b1 := a1.bd h (by omega : 2 + 20 ≤ 22)
  have eY : fsY c st = fsE c (fsG c (F_pick c 5 st).1.toNat [] (F_pick c 5 st).2).1 (fsG c (F_pick c 5 st).1.toNat [] (F_pick c 5 st).2).2 := rfl
  refine ⟨?_, ?_⟩
  · try simp only [hH, stdH, zqz, ne_eq, zqy]
    exact h.mono
  · have g0 : (F_pick c 5 st).1.toNat ≤ 4 ∧ ([] : List ByteArray).length + (F_pick c 5 st).1.toNat ≤ 4 ∧ Bd (4 * (F_pick c 5 st).1.toNat + 4) (F_pick c 5 st).2 ∧ Sz 200 ([] : List ByteArray) ∧ fsE c (fsG c (F_pick c 5 st).1.toNat [] (F_pick c 5 st).2).1 (fsG c (F_pick c 5 st).1.toNat [] (F_pick c 5 st).2).2 = fsY c st := ⟨by omega, by simp only [List.length_nil]; omega, b1.mono (by omega), ⟨fun x hx => by cases hx⟩, eY.symm⟩
    refine loop_a hB (draw_ok hB mixed) hX hX0 hH false (ι := { p : Nat × List ByteArray × DS // p.1 ≤ 4 ∧ p.2.1.length + p.1 ≤ 4 ∧ Bd (4 * p.1 + 4) p.2.2 ∧ Sz 200 p.2.1 ∧ fsE c (fsG c p.1 p.2.1 p.2.2).1 (fsG c p.1 p.2.1 p.2.2).2 = fsY c st }) 400 (fun i => [.r (H Nat fun _ => (i.1.2.1).length) (rowsS H fun _ => i.1.2.1), .i (H Int fun _ => (i.1.1 : Nat)), .i (H Int fun _ => i.1.2.2.1), .i (H Int fun _ => i.1.2.2.2)]) (fun i => i.1.1) (⟨((F_pick c 5 st).1.toNat, [], (F_pick c 5 st).2), g0⟩) ?_ ?_
    · (conv in matchSt _ _ _ _ => cbv); simp only [AllG, AllP, and_true, hH, stdH, zql, ncast, zqe, zqy]
      (repeat' (with_reducible refine And.intro ?_ ?_)) <;> (first | exact Eq.refl _ | exact True.intro | exact c.rqN | exact Int.toNat_of_nonneg m1 | exact RowsEq.ofT okS rfl (Shp_zero _) rfl)
    · intro I hI i
      conv in Fin.chk _ _ => cbv
      try simp only [zqs, Plain_rowsC, Plain_rowsD, Plain_rowsW, zqx, AllP, zqw, upd, if_true]
      obtain ⟨⟨n, L, s2⟩, g1, g2, g3, g4, g5⟩ := i
      simp only at g1 g2 g3 g4 g5
      refine ⟨fun h1 => ?_, fun h1 => ⟨?_, fun h2 => ?_, fun h2 => ⟨fun h3 => ?_, fun h3 => ?_⟩⟩⟩
      · simp only [hH, stdH, zqz, ne_eq, zqy] at h1
        obtain ⟨m, rfl⟩ : ∃ m, n = m + 1 := ⟨n - 1, by omega⟩
        obtain ⟨a2, l2⟩ := p_feature c s2 (g3.mono (by omega))
        have b2 := a2.bd g3 (by omega : 4 + (4 * m + 4) ≤ 4 * (m + 1) + 4)
        have hp := putF_len L (F_feature c s2).1
        have w : IntKind.i64.wrap (((m + 1 : Nat) : Int) - 1) = ((m : Nat) : Int) := by rw [wi (by omega) (by omega)]; omega
        have nx : m ≤ 4 ∧ (putF L (F_feature c s2).1).length + m ≤ 4 ∧ Bd (4 * m + 4) (F_feature c s2).2 ∧ Sz 200 (putF L (F_feature c s2).1) ∧ fsE c (fsG c m (putF L (F_feature c s2).1) (F_feature c s2).2).1 (fsG c m (putF L (F_feature c s2).1) (F_feature c s2).2).2 = fsY c st := ⟨by omega, by omega, b2, putF_sz g4 l2, g5⟩
        (repeat' (with_reducible refine And.intro ?_ ?_))
        all_goals first
          | (refine ⟨⟨(m, putF L (F_feature c s2).1, (F_feature c s2).2), nx⟩, Nat.lt_succ_self _, ?_⟩
             rw [hI]
             (conv in matchSt _ _ _ _ => cbv); simp only [AllG, AllP, and_true, hH, stdH, zql, ncast, zqe, zqy]
             simp only [TlS', w]
             (repeat' (with_reducible refine And.intro ?_ ?_)) <;> (first | exact Eq.refl _ | exact True.intro | exact c.rqN | exact RowsEq.self okS))
          | (simp only [hH, stdH, TlS']; done)
          | (simp only [hH, stdH, TlS']
             first | exact g3.mono (by omega) | exact Shp_rowsT okS _ (fun _ => _) | omega)
      · try simp only [hH, stdH, zqz, ne_eq, zqy]
        exact g3.mono (by omega)
      · simp only [hH, stdH, zqz, ne_eq, zqy] at h1
        obtain rfl : n = 0 := by omega
        simp only [hH, stdH, beq_iff_eq] at h2
        have e6 : fsY c st = (L ++ [ftA], (F_pick c 40 s2).2) := g5.symm.trans (if_pos h2)
        simp only [hH, stdH, e6]
        (repeat' (with_reducible refine And.intro ?_ ?_)) <;> (first | exact Eq.refl _ | exact True.intro | exact c.rqN | exact Nat.le_refl _ | exact RowsEq.snocS rfl | exact ⟨by omega, by omega⟩ | omega | exact (List.length_append ..))
      · simp only [hH, stdH, zqz, ne_eq, zqy] at h1
        obtain rfl : n = 0 := by omega
        simp only [hH, stdH, beq_eq_false_iff_ne] at h2
        simp only [hH, stdH, beq_iff_eq] at h3
        obtain ⟨a3, m3, n3⟩ := p_pick c 40 s2 (g3.mono (by omega))
        have b3 := a3.bd g3 (by omega : 2 + 2 ≤ 4 * 0 + 4)
        obtain ⟨a4, m4, n4⟩ := p_pick c 2 (F_pick c 40 s2).2 (b3.mono (by omega))
        have e6 : fsY c st = (ftE.take (10 + (F_pick c 2 (F_pick c 40 s2).2).1.toNat), (F_pick c 2 (F_pick c 40 s2).2).2) := g5.symm.trans ((if_neg h2).trans (if_pos h3))
        have w : IntKind.i64.wrap (10 + (F_pick c 2 (F_pick c 40 s2).2).1) = ((10 + (F_pick c 2 (F_pick c 40 s2).2).1.toNat : Nat) : Int) := by rw [wi (by omega) (by omega)]; omega
        simp only [hH, stdH, e6, w, hiE]
        have hk : 10 + (F_pick c 2 (F_pick c 40 s2).2).1.toNat ≤ 11 := by omega
        (repeat' (with_reducible refine And.intro ?_ ?_)) <;> (first | exact Eq.refl _ | exact True.intro | exact c.rqN | exact b3.mono (by omega) | exact okB_pre hk | exact ftE_rows hk | omega)
      · simp only [hH, stdH, zqz, ne_eq, zqy] at h1
        obtain rfl : n = 0 := by omega
        simp only [hH, stdH, beq_eq_false_iff_ne] at h2 h3
        have e6 : fsY c st = (L, (F_pick c 40 s2).2) := g5.symm.trans ((if_neg h2).trans (if_neg h3))
        simp only [hH, stdH, e6]
        (repeat' (with_reducible refine And.intro ?_ ?_)) <;> (first | exact Eq.refl _ | exact True.intro | exact c.rqN | exact Nat.le_refl _ | exact RowsEq.self okS)
noncomputable def F_features (c : Cd)  (st : DS) : List ByteArray × DS := drwM Tryz.prog 66 58 22 r_features nb_features (fun y => y.length ≤ 12 ∧ Sz 200 y) c [] st
noncomputable def e_features (c : Cd) : Entry := curEN 66 58 22 c fun H st a nx => match a with
  | [] => some (r_features nx H (fun _ => (F_features c  st).1), nb_features H (fun _ => (F_features c  st).1), (fun _ => (F_features c  st).2), [])
  | _ => none
theorem eok_features (c : Cd) : EntryOk Tryz.prog (e_features c) := curEN_ok (by unfold isBody; kernel_rfl) (by
  intro st a nx r nb y ob e hb hob
  split at e
  · simp only [zqt] at e
    obtain ⟨rfl, rfl, rfl, rfl⟩ := e
    have hd := drwM_spec (x_features c  st hb )
    refine ⟨_, _, ConN.args (.cons .rfl .nil) hd.1, fun x hx => ?_, rfl, ?_, fun q b hq => ⟨b, hq, .same ?_⟩⟩
    · cases hx
    · (repeat' (first | exact .nil | exact .slc ⟨by omega, by simp [nb_features]⟩ (by omega) | exact .pl .lit | exact .pl (vT_bl okS (fun _ => (F_features c  st).1) _) | apply ReL.cons | apply Re.aggL | apply Re.tupL))
    · replace hq := List.mem_of_getElem? hq
      simp [nb_features] at hq
  · simp at e)
theorem p_features (c : Cd)  (st : DS) (h : Bd 22 st)  : Adv 22 st (F_features c  st).2 ∧ (fun y => y.length ≤ 12 ∧ Sz 200 y) (F_features c  st).1 := (drwM_spec (x_features c  st h )).2

end Go.Proofs.YtcjjffmbhionmaaGreatDoor.AM

