/- Lemmas and contracts (Ftq); conditions: none. -/
import Derived.Test.YtcjjffmbhionmaaGreatDoorK03
import Derived.Test.YtcjjffmbhionmaaGreatDoorK13
import Derived.Test.YtcjjffmbhionmaaGreatDoorK15
set_option linter.unusedVariables false
set_option linter.unusedSimpArgs false
set_option maxRecDepth 100000
set_option maxHeartbeats 4000000
set_option cbv.maxSteps 3000000
namespace Go.Proofs.YtcjjffmbhionmaaGreatDoor.AM
/- The features of arms by the reference; conditions: none. -/
theorem Tl_offS {L : List ByteArray} {o n : Nat} (h : o + n ≤ L.length) : Tl rowS n (fun j => rowsS stdH (fun _ => L) (o + j)) = (L.drop o).take n := by
  refine List.ext_getElem (by simp [Tl]; omega) fun i h1 h2 => ?_
  have h3 : i < n := by simpa [Tl] using h1
  simp only [Tl, List.getElem_map, List.getElem_range, List.getElem_take, List.getElem_drop]
  show L.getD (o + i) ByteArray.empty = _
  rw [List.getD_eq_getElem?_getD, List.getElem?_eq_getElem (by omega), Option.getD_some]
theorem Shp_offS (L : List ByteArray) (o n : Nat) : Shp rowS n (fun j => rowsS stdH (fun _ => L) (o + j)) := ⟨fun j _ => rfl⟩
theorem put_rows {L : List ByteArray} {s : ByteArray} {i : Nat} (hi : i ≤ L.length) : RowsEq 1 (L.take i ++ s :: L.drop i).length (rowsS stdH fun _ => L.take i ++ s :: L.drop i) (i + 1 + (L.length - i)) (app (i + 1) (app i (app 0 (rowsOf 1 []) fun j => rowsS stdH (fun _ => L) (0 + j)) (rowsS stdH fun _ => [s])) fun j => rowsS stdH (fun _ => L) (i + j)) := by
  have h0 : Shp rowS i (app 0 (rowsOf 1 []) fun j => rowsS stdH (fun _ => L) (0 + j)) := by
    have := Shp_app (D := rowS) (n := 0) (m := i) (Shp_zero (rowsOf 1 [])) (Shp_offS L 0 i)
    rwa [Nat.zero_add] at this
  have t0 : Tl rowS i (app 0 (rowsOf 1 []) fun j => rowsS stdH (fun _ => L) (0 + j)) = L.take i := by
    have := Tl_app (D := rowS) 0 i (rowsOf 1 []) (fun j => rowsS stdH (fun _ => L) (0 + j))
    rw [Nat.zero_add] at this
    rw [this, Tl_zero, List.nil_append, Tl_offS (by omega), List.drop_zero]
  have h1 : Shp rowS 1 (rowsS stdH fun _ => [s]) := Shp_rowsT okS 1 fun _ => [s]
  have t1 : Tl rowS 1 (rowsS stdH fun _ => [s]) = [s] := Tl_rowsT okS [s]
  refine RowsEq.ofT okS rfl (Shp_app (Shp_app h0 h1) (Shp_offS L i _)) ?_
  rw [Tl_app, Tl_app, t0, t1, Tl_offS (by omega), List.append_assoc, List.singleton_append, List.take_of_length_le (l := List.drop i L) (by rw [List.length_drop]; omega)]
theorem putF_at {s : ByteArray} : ∀ (l : List ByteArray) (i : Nat), i ≤ l.length → (∀ j, j < i → ltA (l.getD j ByteArray.empty) s = true) → putF l s = l.take i ++ putF (l.drop i) s
  | l, 0, _, _ => rfl
  | [], i + 1, h, _ => by simp at h
  | x :: l, i + 1, h, hj => by
    have h1 : ltA x s = true := hj 0 (by omega)
    rw [show putF (x :: l) s = _ from if_pos h1, putF_at l i (by simpa using h) (fun j q => by
      have := hj (j + 1) (by omega)
      exact this)]
    rfl
theorem ltA_irr (s : ByteArray) : ltA s s = false := by
  rw [← Bool.not_eq_true, ltA_iff]
  exact List.lt_irrefl _
theorem c_l17Put (l : List ByteArray) (s : ByteArray) (h0 : l.length ≤ 100000) : ConN Tryz.prog 38 [.vec 1 (stdH Nat fun _ => (l).length) (rowsS stdH fun _ => l), .lit (.string s)] [] 0 (.vec 1 (stdH Nat fun _ => (putF l s).length) (rowsS stdH fun _ => putF l s)) [] [] := by
  have hB : Base Tryz.prog (tabΓ []) tabO := base_of tabOkO (ents_nil)
  refine con_m (N := 45) hB (draw_ok hB mixed) Tryz.func38 rfl rfl (fun H => [.vec 1 (H Nat fun _ => (l).length) (rowsS H fun _ => l), .lit (.string s)]) (fun _ => []) 0 (fun H => .vec 1 (H Nat fun _ => (putF l s).length) (rowsS H fun _ => putF l s)) (fun H => []) (fun _ => []) 300 (by simp) (fun x hx => ?_) (by simp [lk]) (by omega) (by simp) ?_
  · simp only [zqu] at hx
    rcases hx with rfl | rfl
    · exact vl_bl okS l _
    · exact .lit
  intro X hX hX0 H hH
  conv in Fin.chk _ _ => cbv
  try simp only [zqs, Plain_rowsC, zqx, AllP, zqw, upd, if_true]
  refine loop_a hB (draw_ok hB mixed) hX hX0 hH false (ι := { i : Nat // i ≤ l.length ∧ ∀ j, j < i → ltA (l.getD j ByteArray.empty) s = true }) 300 (fun i => [.i (H Int fun _ => (i.1 : Nat))]) (fun i => l.length - i.1) (⟨0, Nat.zero_le _, fun j h => absurd h (Nat.not_lt_zero j)⟩) ?_ ?_
  · (conv in matchSt _ _ _ _ => cbv); simp only [AllG, AllP, and_true, hH, stdH, zql, ncast, zqe, zqy]
    exact ⟨rfl, trivial, RowsEq.self okS⟩
  · intro I hI i
    conv in Fin.chk _ _ => cbv
    try simp only [zqs, Plain_rowsC, zqx, AllP, zqw, upd, if_true]
    obtain ⟨i, hi, hj⟩ := i
    have hbl : ∀ q : Nat, Op.bytesLess (l.getD q ByteArray.empty).toList s.toList = ltA (l.getD q ByteArray.empty) s := fun _ => rfl
    refine ⟨?_, fun h1 => ?_, fun h1 => ⟨?_, fun h2 => ?_, fun h2 => ?_⟩⟩
    · try simp only [hH, stdH, zqz, ne_eq, zqy]
      intro h
      omega
    · simp only [hH, stdH, Int.toNat_natCast, hbl] at h1
      by_cases q : (i : Int) < l.length
      · rw [decide_eq_true q, cond_true] at h1
        refine ⟨⟨i + 1, by omega, fun j hj' => ?_⟩, by simp only; omega, ?_⟩
        · rcases Nat.lt_succ_iff_lt_or_eq.1 hj' with h | rfl
          · exact hj j h
          · exact h1
        · rw [hI]
          (conv in matchSt _ _ _ _ => cbv); simp only [AllG, AllP, and_true, hH, stdH, zql, ncast, zqe, zqy]
          rw [w1 (by omega)]
          exact ⟨rfl, trivial, RowsEq.self okS⟩
      · rw [decide_eq_false q] at h1
        cases h1
    · try simp only [hH, stdH, zqz, ne_eq, zqy]
      intro h
      omega
    · simp only [hH, stdH, Int.toNat_natCast, beqT] at h2
      by_cases q : (i : Int) < l.length
      · rw [decide_eq_true q, cond_true, decide_eq_true_eq] at h2
        have hi' : i < l.length := by omega
        have e0 : l.getD i ByteArray.empty = l[i] := by rw [List.getD_eq_getElem?_getD, List.getElem?_eq_getElem hi', Option.getD_some]
        rw [e0] at h2
        have e : putF l s = l := by
          rw [putF_at l i hi hj, List.drop_eq_getElem_cons hi', h2]
          conv => rhs; rw [← List.take_append_drop i l, List.drop_eq_getElem_cons hi', h2]
          congr 1
          exact (if_neg (by rw [ltA_irr]; simp)).trans (if_pos rfl)
        try simp only [hH, stdH, zqz, ne_eq, zqy]
        rw [e]
        exact RowsEq.self okS
      · rw [decide_eq_false q] at h2
        cases h2
    · have e : putF l s = l.take i ++ s :: l.drop i := by
        rw [putF_at l i hi hj]
        congr 1
        simp only [hH, stdH, Int.toNat_natCast, hbl, beqT] at h1 h2
        by_cases q : i < l.length
        · rw [decide_eq_true (show (i : Int) < l.length by omega), cond_true] at h1 h2
          rw [decide_eq_false_iff_not] at h2
          have e0 : l.getD i ByteArray.empty = l[i] := by rw [List.getD_eq_getElem?_getD, List.getElem?_eq_getElem q, Option.getD_some]
          rw [e0] at h1 h2
          rw [List.drop_eq_getElem_cons q]
          exact (if_neg (by rw [h1]; simp)).trans (if_neg h2)
        · rw [List.drop_of_length_le (by omega)]; rfl
      have h5 : hiOf l.length (some (i : Int)) - loOf none = i := by show ((i : Nat) : Int).toNat - 0 = i; omega
      have h6 : hiOf l.length none - loOf (some (i : Int)) = l.length - i := by show l.length - ((i : Nat) : Int).toNat = _; rw [Int.toNat_natCast]
      have h7 : loOf (some (i : Int)) = i := Int.toNat_natCast i
      simp only [hH, stdH]
      refine ⟨?_, ?_⟩
      · exact ⟨trivial, by show (0 : Int) ≤ (i : Nat); omega, by show 0 ≤ _; omega, by show ((i : Nat) : Int).toNat ≤ l.length; omega⟩
      · rw [e]
        have h8 : hiOf l.length none = l.length := rfl
        have h9 : loOf none = 0 := rfl
        simp only [h5, h6, h7, h8, h9]
        exact ⟨⟨trivial, by omega, by omega⟩, ⟨trivial, by omega, by omega⟩, ⟨by show (0 : Int) ≤ (i : Nat); omega, trivial, by show ((i : Nat) : Int).toNat ≤ l.length; omega, Nat.le_refl _⟩, ⟨trivial, by omega, by omega⟩, Nat.le_refl _, put_rows hi⟩
noncomputable def e_l17Put : Entry := pureE 38 fun H a => match a with
  | [.vec 1 ln lf, .lit (.string s)] => some (.vec 1 (H Nat fun _ => (putF (Tl rowS ln lf) s).length) (rowsS H fun _ => putF (Tl rowS ln lf) s), [H Prop fun _ => Shp rowS ln lf, H Prop fun _ => (Tl rowS ln lf).length ≤ 100000])
  | _ => none
theorem eok_l17Put : EntryOk Tryz.prog e_l17Put := pureM_ok (by unfold isBody; kernel_rfl) (by
  intro a r ob e hob
  split at e
  · rename_i ln lf s
    simp only [zqt] at e
    obtain ⟨rfl, rfl⟩ := e
    exact ConN.args (.cons (.toT okS rfl hob.1) (.cons .rfl .nil)) (c_l17Put (Tl rowS ln lf) s hob.2.1)
  · simp at e)
def qT (a : Arm) (i : Nat) : List ByteArray := ((tinA a).take i).foldl (fun o x => putF o (ftX fcT x)) []
theorem qT_s {a : Arm} {i : Nat} (h : i < (tinA a).length) : qT a (i + 1) = putF (qT a i) (ftX fcT (lget (tinA a) i)) := by
  unfold qT lget
  rw [List.take_succ_eq_append_getElem h, List.foldl_append, List.foldl_cons, List.foldl_nil, List.getD_eq_getElem?_getD, List.getElem?_eq_getElem h, Option.getD_some]
theorem putF_len (l : List ByteArray) (s : ByteArray) : (putF l s).length ≤ l.length + 1 := by
  induction l with
  | nil => exact Nat.le_refl _
  | cons x l ih =>
    unfold putF
    split
    · rw [List.length_cons, List.length_cons]; omega
    · split
      · omega
      · rw [List.length_cons, List.length_cons]; omega
theorem qT_len (a : Arm) : ∀ i, i ≤ (tinA a).length → (qT a i).length ≤ i
  | 0, _ => Nat.zero_le _
  | i + 1, h => by
    rw [qT_s (by omega)]
    have h1 := qT_len a i (by omega)
    have h2 := putF_len (qT a i) (ftX fcT (lget (tinA a) i))
    omega
theorem fold_put : ∀ (l : List Int) (o : List ByteArray), Asc o → Asc (l.foldl (fun o x => putF o (ftX fcT x)) o) ∧ ∀ x, x ∈ l.foldl (fun o x => putF o (ftX fcT x)) o ↔ x ∈ o ∨ ∃ t, t ∈ l ∧ ftX fcT t = x
  | [], o, h => ⟨h, fun x => by simp⟩
  | y :: l, o, h => by
    obtain ⟨h1, h2⟩ := fold_put l (putF o (ftX fcT y)) (putF_asc _ h)
    refine ⟨h1, fun x => ?_⟩
    rw [List.foldl_cons, h2, putF_mem]
    constructor
    · rintro ((rfl | h) | ⟨t, ht, rfl⟩)
      · exact .inr ⟨y, List.mem_cons_self, rfl⟩
      · exact .inl h
      · exact .inr ⟨t, List.mem_cons_of_mem _ ht, rfl⟩
    · rintro (h | ⟨t, ht, rfl⟩)
      · exact .inl (.inr h)
      · rcases List.mem_cons.1 ht with rfl | ht
        · exact .inl (.inl rfl)
        · exact .inr ⟨t, ht, rfl⟩
def pIf (b : Bool) (l : List ByteArray) (s : ByteArray) : List ByteArray := if b = true then putF l s else l
theorem pIf_asc {b : Bool} {l : List ByteArray} {s : ByteArray} (h : Asc l) : Asc (pIf b l s) := by
  unfold pIf
  split
  · exact putF_asc s h
  · exact h
theorem pIf_mem {b : Bool} {l : List ByteArray} {s x : ByteArray} : x ∈ pIf b l s ↔ (b = true ∧ x = s) ∨ x ∈ l := by
  unfold pIf
  split
  · rename_i h
    rw [putF_mem]; simp [h]
  · rename_i h
    simp [h]
def ftQ (a : Arm) : List ByteArray := putF (pIf (!noG a.r) (pIf (!noG a.n) (pIf (decide (0 < a.l)) (pIf (decide (0 < a.f.l)) (putF (putF (qT a (tinA a).length) (ftX fcD a.f.d)) (ftX fcO a.o)) (ftX fcL a.f.l)) (ftX fcL a.l)) (ftX fcK a.n.k)) (ftX fcK a.r.k)) (ftX fcN (a.n.c + a.r.c))
theorem ftU_mem {a : Arm} (bd : ABd a) (x : ByteArray) : x ∈ ftU a ↔ (x = ftX fcD a.f.d ∨ x = ftX fcO a.o ∨ x = ftX fcN (a.n.c + a.r.c)) ∨ (∃ t, t ∈ tinA a ∧ ftX fcT t = x) ∨ ((decide (0 < a.f.l) = true ∧ x = ftX fcL a.f.l) ∨ (decide (0 < a.l) = true ∧ x = ftX fcL a.l)) ∨ (((!noG a.n) = true ∧ x = ftX fcK a.n.k) ∨ ((!noG a.r) = true ∧ x = ftX fcK a.r.k)) := by
  have h1 := bd.fl
  have h2 := bd.l
  unfold ftU
  rw [List.mem_append, List.mem_append, List.mem_append, or_assoc, or_assoc]
  refine or_congr ?_ (or_congr ?_ (or_congr ?_ ?_))
  · unfold ftB
    simp
  · unfold ftT
    rw [List.take_length, List.mem_map]
  · unfold ftL
    rw [List.mem_map]
    simp only [decide_eq_true_eq]
    constructor
    · rintro ⟨y, hy, rfl⟩
      rw [List.mem_filter, decide_eq_true_eq] at hy
      have hy2 : y ∈ [a.f.l, a.l] := hy.1
      simp only [zqu] at hy2
      rcases hy2 with rfl | rfl
      · exact .inl ⟨by omega, rfl⟩
      · exact .inr ⟨by omega, rfl⟩
    · rintro (⟨h, rfl⟩ | ⟨h, rfl⟩)
      · exact ⟨a.f.l, List.mem_filter.2 ⟨by simp, decide_eq_true (by omega)⟩, rfl⟩
      · exact ⟨a.l, List.mem_filter.2 ⟨by simp, decide_eq_true (by omega)⟩, rfl⟩
  · unfold ftK
    rw [List.mem_map]
    constructor
    · rintro ⟨y, hy, rfl⟩
      rw [List.mem_filter] at hy
      have hy2 : y ∈ [a.n, a.r] := hy.1
      simp only [zqu] at hy2
      rcases hy2 with rfl | rfl
      · exact .inl ⟨hy.2, rfl⟩
      · exact .inr ⟨hy.2, rfl⟩
    · rintro (⟨h, rfl⟩ | ⟨h, rfl⟩)
      · exact ⟨a.n, List.mem_filter.2 ⟨by simp, h⟩, rfl⟩
      · exact ⟨a.r, List.mem_filter.2 ⟨by simp, h⟩, rfl⟩
theorem ftQ_eq {a : Arm} (bd : ABd a) : ftP a = ftQ a := by
  obtain ⟨h1, h2⟩ := fold_put (tinA a) [] List.Pairwise.nil
  have hq : qT a (tinA a).length = (tinA a).foldl (fun o x => putF o (ftX fcT x)) [] := by unfold qT; rw [List.take_length]
  rw [← hq] at h1 h2
  refine Asc.ext (ftP_asc a) (putF_asc _ (pIf_asc (pIf_asc (pIf_asc (pIf_asc (putF_asc _ (putF_asc _ h1))))))) fun x => ?_
  unfold ftQ
  rw [ftP_mem, ftU_mem bd, putF_mem, pIf_mem, pIf_mem, pIf_mem, pIf_mem, putF_mem, putF_mem, h2]
  simp only [List.not_mem_nil, false_or]
  constructor
  · rintro ((h | h | h) | h | (h | h) | (h | h)) <;> simp [h]
  · rintro (h | h | h | h | h | h | h | h) <;> simp [h]
theorem putF_b {l : List ByteArray} {s : ByteArray} {m : Nat} (h : l.length ≤ m) : (putF l s).length ≤ m + 1 := Nat.le_trans (putF_len l s) (by omega)
theorem c_l17Features (a : Arm) (h0 : okA a = true) : ConN Tryz.prog 37 [aT rowA stdH fun _ => a] [] 0 (.vec 1 (stdH Nat fun _ => (ftP a).length) (rowsS stdH fun _ => ftP a)) [] [] := by
  have hB : Base Tryz.prog (tabΓ [e_l17Put, e_tinS, e_l1NumB, e_l4None]) tab := base_of tabOk (ents_cons eok_l17Put <| ents_cons eok_tinS <| ents_cons eok_l1NumB <| ents_cons eok_l4None <| ents_nil)
  refine con_m (N := 89) hB (draw_ok hB mixed) Tryz.func37 rfl rfl (fun H => [aT rowA H fun _ => a]) (fun _ => []) 0 (fun H => .vec 1 (H Nat fun _ => (ftP a).length) (rowsS H fun _ => ftP a)) (fun H => []) (fun _ => []) 300 (by simp) (fun x hx => ?_) (by simp [lk]) (by omega) (by simp) ?_
  · simp only [zqu] at hx
    rcases hx with rfl
    · exact aT_bl okRA _ _
  intro X hX hX0 H hH
  conv in Fin.chk _ _ => cbv
  try simp only [zqs, Plain_rowsC, zqx, AllP, zqw, upd, if_true]
  have bd := okA_bd h0
  have tl := tinA_len a
  simp only [hetaA hH, tinS_eq h0]
  refine loop_c hB (draw_ok hB mixed) hX hX0 hH [1, 2, 3, 4, 5] (ι := { i : Nat // i ≤ (tinA a).length }) 300 (fun i => [.r (H Nat fun _ => (qT a i.1).length) (rowsS H fun _ => qT a i.1), .i (H Int fun _ => (i.1 : Nat))]) (fun i => (tinA a).length - i.1) (⟨0, Nat.zero_le _⟩) ?_ ?_
  · (conv in matchSt _ _ _ _ => cbv); simp only [AllG, AllP, and_true, hH, stdH, zql, ncast, zqe, zqy]
    (repeat' (with_reducible refine And.intro ?_ ?_)) <;> (first | exact True.intro | exact Eq.refl _ | exact RowsEq.self okI | exact RowsEq.self okS)
  · intro I hI i
    conv in Fin.chk _ _ => cbv
    try simp only [zqs, Plain_rowsC, zqx, AllP, zqw, upd, if_true]
    obtain ⟨i, hi⟩ := i
    have hq := qT_len a i hi
    refine ⟨fun h1 => ⟨?_, ?_, ?_, ⟨?_, ?_⟩, ?_⟩, fun h1 => ?_⟩
    · simp only [hH, stdH, zqz, ne_eq, zqy] at h1 ⊢
      omega
    · simp only [hH, stdH, zqz, ne_eq, zqy] at h1
      have := bd.t _ (lget_mem (l := tinA a) (i := i) (by omega))
      simp only [hH, stdH, Int.toNat_natCast]
      omega
    · simp only [hH, stdH, zqz, ne_eq, zqy] at h1
      have := bd.t _ (lget_mem (l := tinA a) (i := i) (by omega))
      have := numD_sz4 (i := (lget (tinA a) i).toNat) (by omega)
      simp only [hH, stdH, Int.toNat_natCast, bsz, List.length_cons, List.length_nil]
      omega
    · try simp only [hH, stdH, zqz, ne_eq, zqy]
      exact Shp_rowsT okS _ (fun _ => _)
    · simp only [hH, stdH, TlS']
      omega
    · simp only [hH, stdH, zqz, ne_eq, zqy] at h1
      refine ⟨⟨i + 1, by omega⟩, by simp only; omega, ?_⟩
      rw [hI]
      (conv in matchSt _ _ _ _ => cbv); simp only [AllG, AllP, and_true, hH, stdH, zql, ncast, zqe, zqy]
      simp only [Int.toNat_natCast, TlS']
      rw [w1 (by omega), qT_s (by omega)]
      (repeat' (with_reducible refine And.intro ?_ ?_)) <;> (first | exact True.intro | exact Eq.refl _ | exact RowsEq.self okI | exact RowsEq.self okS)
    · simp only [hH, stdH, zqz, ne_eq, zqy] at h1
      obtain rfl : i = (tinA a).length := by omega
      have b1 := bd.d
      have b2 := bd.o
      have b3 := bd.nc
      have b4 := bd.rc
      have b5 := bd.fl
      have b6 := bd.l
      have b7 := bd.nk
      have b8 := bd.rk
      have z : ∀ x : Int, 0 ≤ x ∧ x ≤ 99 → (numD x.toNat).size ≤ 4 := fun x hx => numD_sz4 (i := x.toNat) (by omega)
      have z1 := z a.f.d (by omega)
      have z2 := z a.o (by omega)
      have z3 := z (a.n.c + a.r.c) (by omega)
      have z4 := z a.f.l (by omega)
      have z5 := z a.l (by omega)
      have z6 := z a.n.k (by omega)
      have z7 := z a.r.k (by omega)
      have ew : IntKind.i64.wrap (a.n.c + a.r.c) = a.n.c + a.r.c := wi (by omega) (by omega)
      have eQ := ftQ_eq bd
      unfold ftQ pIf at eQ
      subst hH
      simp only [stdH, TlS', ew, Grp.eta, eQ, bsz, List.length_cons, List.length_nil]
      by_cases c1 : 0 < a.f.l <;> by_cases c2 : 0 < a.l <;> cases c3 : noG a.n <;> cases c4 : noG a.r <;> simp only [c1, c2, decide_true, decide_false, Bool.not_true, Bool.not_false, if_true, if_false, Bool.false_eq_true, Bool.true_eq_false, false_implies, true_implies, and_true, true_and] <;> (repeat' (with_reducible refine And.intro ?_ ?_)) <;> (first | exact Shp_rowsT okS _ (fun _ => _) | exact RowsEq.self okS | omega | (repeat (apply putF_b)); omega)
noncomputable def e_l17Features : Entry := pureE 37 fun H a => match a with
  | [.agg [.lit (.int .i64 a0), .lit (.int .i64 a1), .lit (.int .i64 a2), .lit (.int .i64 a3), .lit (.int .i64 a4), .lit (.int .i64 a5), .lit (.int .i64 a6), .lit (.int .i64 a7), .lit (.int .i64 a8), .lit (.int .i64 a9), .lit (.int .i64 a10), .lit (.int .i64 a11), .lit (.int .i64 a12), .lit (.int .i64 a13), .lit (.int .i64 a14)]] => some (.vec 1 (H Nat fun _ => (ftP (⟨⟨a0, a1, a2, a3⟩, a4, a5, a6, ⟨a7, a8, a9, a10⟩, ⟨a11, a12, a13, a14⟩⟩ : Arm)).length) (rowsS H fun _ => ftP (⟨⟨a0, a1, a2, a3⟩, a4, a5, a6, ⟨a7, a8, a9, a10⟩, ⟨a11, a12, a13, a14⟩⟩ : Arm)), [H Prop fun _ => okA (⟨⟨a0, a1, a2, a3⟩, a4, a5, a6, ⟨a7, a8, a9, a10⟩, ⟨a11, a12, a13, a14⟩⟩ : Arm) = true])
  | _ => none
theorem eok_l17Features : EntryOk Tryz.prog e_l17Features := pureM_ok (by unfold isBody; kernel_rfl) (by
  intro a r ob e hob
  split at e
  · rename_i a0 a1 a2 a3 a4 a5 a6 a7 a8 a9 a10 a11 a12 a13 a14
    simp only [zqt] at e
    obtain ⟨rfl, rfl⟩ := e
    exact ConN.args (.cons .rfl .nil) (c_l17Features (⟨⟨a0, a1, a2, a3⟩, a4, a5, a6, ⟨a7, a8, a9, a10⟩, ⟨a11, a12, a13, a14⟩⟩ : Arm) hob.1)
  · simp at e)

end Go.Proofs.YtcjjffmbhionmaaGreatDoor.AM

