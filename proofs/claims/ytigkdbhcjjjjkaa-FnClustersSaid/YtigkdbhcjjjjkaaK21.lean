/- Lemmas and contracts (Puz); conditions: none. -/
import Derived.Test.YtigkdbhcjjjjkaaK04
import Derived.Test.YtigkdbhcjjjjkaaK18
import Derived.Test.YtigkdbhcjjjjkaaK20
set_option linter.unusedVariables false
set_option linter.unusedSimpArgs false
set_option linter.unusedVariables false
set_option linter.unusedSimpArgs false
set_option maxRecDepth 100000
set_option maxHeartbeats 4000000
set_option cbv.maxSteps 3000000
namespace Go.Proofs.Ytigkdbhcjjjjkaa.AM
/- Numbers put to their places; conditions: none. -/
/-- A number put into an ascending list, unless it is there. -/
def putZ : List Int → Int → List Int
  | [], x => [x]
  | y :: l, x => if y < x then y :: putZ l x else if y = x then y :: l else x :: y :: l
theorem putZ_mem : ∀ (l : List Int) (x z : Int), z ∈ putZ l x ↔ z = x ∨ z ∈ l
  | [], x, z => by simp [putZ]
  | y :: l, x, z => by
    unfold putZ
    split
    · rw [List.mem_cons, putZ_mem l x z, List.mem_cons]
      constructor
      · rintro (h | h | h) <;> simp [h]
      · rintro (h | h | h) <;> simp [h]
    · split
      · rename_i h
        subst h
        simp
      · simp
theorem putZ_asc : ∀ {l : List Int} (x : Int), l.Pairwise (· < ·) → (putZ l x).Pairwise (· < ·)
  | [], x, _ => by simp [putZ]
  | y :: l, x, h => by
    rw [List.pairwise_cons] at h
    unfold putZ
    split
    · rename_i hy
      rw [List.pairwise_cons]
      refine ⟨fun z hz => ?_, putZ_asc x h.2⟩
      rcases (putZ_mem l x z).1 hz with rfl | hz
      · exact hy
      · exact h.1 z hz
    · split
      · exact List.pairwise_cons.2 h
      · rw [List.pairwise_cons]
        refine ⟨fun z hz => ?_, List.pairwise_cons.2 h⟩
        rcases List.mem_cons.1 hz with rfl | hz
        · omega
        · have := h.1 z hz; omega
theorem putZ_len (l : List Int) (x : Int) : (putZ l x).length ≤ l.length + 1 := by
  induction l with
  | nil => exact Nat.le_refl _
  | cons y l ih =>
    unfold putZ
    split
    · simp only [List.length_cons]; omega
    · split <;> simp only [List.length_cons] <;> omega
theorem putZ_at {x : Int} : ∀ (l : List Int) (i : Nat), i ≤ l.length → (∀ j, j < i → l.getD j 0 < x) → putZ l x = l.take i ++ putZ (l.drop i) x
  | l, 0, _, _ => by simp
  | [], i + 1, h, _ => by simp at h
  | y :: l, i + 1, h, hj => by
    have h0 := hj 0 (by omega)
    have ih := putZ_at (x := x) l i (by simpa using h) (fun j hj' => by simpa using hj (j + 1) (by omega))
    rw [putZ, if_pos (by simpa using h0), ih]
    rfl
theorem ascZ_ext : ∀ {s t : List Int}, s.Pairwise (· < ·) → t.Pairwise (· < ·) → (∀ x, x ∈ s ↔ x ∈ t) → s = t
  | [], [], _, _, _ => rfl
  | [], y :: t, _, _, h => absurd ((h y).2 List.mem_cons_self) (by simp)
  | x :: s, [], _, _, h => absurd ((h x).1 List.mem_cons_self) (by simp)
  | x :: s, y :: t, hs, ht, h => by
    rw [List.pairwise_cons] at hs ht
    have h1 := (h x).1 List.mem_cons_self
    have h2 := (h y).2 List.mem_cons_self
    have e : x = y := by
      rcases List.mem_cons.1 h1 with h1 | h1
      · exact h1
      · rcases List.mem_cons.1 h2 with h2 | h2
        · exact h2.symm
        · have := hs.1 y h2; have := ht.1 x h1; omega
    subst e
    rw [ascZ_ext hs.2 ht.2 fun z => ?_]
    have hz := h z
    rw [List.mem_cons, List.mem_cons] at hz
    constructor
    · intro hm
      rcases hz.1 (.inr hm) with rfl | hm'
      · have := hs.1 z hm; omega
      · exact hm'
    · intro hm
      rcases hz.2 (.inr hm) with rfl | hm'
      · have := ht.1 z hm; omega
      · exact hm'
def putsZ (l : List Int) (i : Nat) : List Int := (l.take i).foldl putZ []
theorem putsZ_s {l : List Int} {i : Nat} (h : i < l.length) : putsZ l (i + 1) = putZ (putsZ l i) (l.getD i 0) := by
  unfold putsZ
  rw [List.take_succ_eq_append_getElem h, List.foldl_append, List.foldl_cons, List.foldl_nil, List.getD_eq_getElem?_getD, List.getElem?_eq_getElem h, Option.getD_some]
theorem putsZ_ok : ∀ (l o : List Int), o.Pairwise (· < ·) → (l.foldl putZ o).Pairwise (· < ·) ∧ ∀ x, x ∈ l.foldl putZ o ↔ x ∈ o ∨ x ∈ l
  | [], o, h => ⟨h, fun x => by simp⟩
  | y :: l, o, h => by
    obtain ⟨h1, h2⟩ := putsZ_ok l (putZ o y) (putZ_asc y h)
    refine ⟨h1, fun x => ?_⟩
    rw [List.foldl_cons, h2, putZ_mem, List.mem_cons]
    constructor
    · rintro ((h | h) | h) <;> simp [h]
    · rintro (h | h | h) <;> simp [h]
theorem putsZ_len (l : List Int) : ∀ i, i ≤ l.length → (putsZ l i).length ≤ i
  | 0, _ => by simp [putsZ]
  | i + 1, h => by
    rw [putsZ_s (by omega)]
    have h1 := putsZ_len l i (by omega)
    have h2 := putZ_len (putsZ l i) (l.getD i 0)
    omega
theorem putsZ_srt {l : List Int} (h : l.Nodup) : putsZ l l.length = l.mergeSort fun x y => decide (x ≤ y) := by
  unfold putsZ
  rw [List.take_length]
  obtain ⟨h1, h2⟩ := putsZ_ok l [] .nil
  have hp := List.mergeSort_perm l fun x y => decide (x ≤ y)
  refine ascZ_ext h1 ?_ fun x => by rw [h2, hp.mem_iff]; simp
  have h3 := List.pairwise_mergeSort (le := fun x y : Int => decide (x ≤ y)) (fun a b c h1 h2 => by simp only [decide_eq_true_eq] at *; omega) (fun a b => by simp only [Bool.or_eq_true, decide_eq_true_eq]; omega) l
  have h4 := hp.nodup_iff.2 h
  exact (h3.and h4).imp fun h => by
    have h5 := h.1
    have h6 := h.2
    simp only [decide_eq_true_eq] at h5
    omega
theorem putZ_plain {l : List Int} {s : Int} {i : Nat} (hi : i ≤ l.length) : Plain i (app 0 (rowsOf 1 []) (dropR 0 1 (rowsI stdH fun _ => l))) ∧ Plain (i + 1 + (l.length - i)) (app (i + 1) (app i (app 0 (rowsOf 1 []) (dropR 0 1 (rowsI stdH fun _ => l))) (rowsI stdH fun _ => [s])) (dropR (i * 1) 1 (rowsI stdH fun _ => l))) := by
  have h1 : Plain i (dropR 0 1 (rowsI stdH fun _ => l)) := by
    have := Plain.drop (a := 0) (k := 1) (m := i) (n := l.length) (by omega) (PlZ l.length l) (by omega)
    rw [Nat.zero_mul] at this
    exact this
  have h2 : Plain i (app 0 (rowsOf 1 []) (dropR 0 1 (rowsI stdH fun _ => l))) := by
    rw [app_zero]
    exact h1
  exact ⟨h2, Plain.app (Plain.app h2 (PlZ 1 [s])) (Plain.drop (a := i) (k := 1) (m := l.length - i) (n := l.length) (by omega) (PlZ l.length l) (by omega))⟩
theorem putZ_rows {l : List Int} {s : Int} {i : Nat} (hi : i ≤ l.length) : RowsEq 1 (l.take i ++ s :: l.drop i).length (rowsI stdH fun _ => l.take i ++ s :: l.drop i) (i + 1 + (l.length - i)) (app (i + 1) (app i (app 0 (rowsOf 1 []) (dropR 0 1 (rowsI stdH fun _ => l))) (rowsI stdH fun _ => [s])) (dropR (i * 1) 1 (rowsI stdH fun _ => l))) := by
  have a := Tl_dropR (D := rowI) (a := 0) (k := 1) (m := i) (by omega) (Tl_I l) (by omega)
  have b := Shp_dropR (D := rowI) (a := 0) (k := 1) (m := i) (by omega) (Shp_I l.length l) (by omega)
  have c := Tl_dropR (D := rowI) (a := i) (k := 1) (m := l.length - i) (by omega) (Tl_I l) (by omega)
  have d := Shp_dropR (D := rowI) (a := i) (k := 1) (m := l.length - i) (by omega) (Shp_I l.length l) (by omega)
  rw [Nat.zero_mul, List.drop_zero] at a
  rw [Nat.zero_mul] at b
  have b' : Shp rowI i (app 0 (rowsOf 1 []) (dropR 0 1 (rowsI stdH fun _ => l))) := by rw [app_zero]; exact b
  refine RowsEq.ofT okI rfl (Shp_app (Shp_app b' (Shp_I 1 [s])) d) ?_
  rw [Tl_app, Tl_app, app_zero, a, c, List.take_of_length_le (l := List.drop i l) (by rw [List.length_drop]; omega)]
  have e : Tl rowI 1 (rowsI stdH fun _ => [s]) = [s] := Tl_I [s]
  rw [e, List.append_assoc]; rfl
theorem c_putZO (l : List Int) (s : Int) (h0 : l.length ≤ 100000) : ConN Try.prog 34 [.slc 0 0 1 (stdH Nat fun _ => l.length), .lit (.int .i64 s)] [(0, .rows 1 (stdH Nat fun _ => l.length) (rowsI stdH fun _ => l) 3)] 1 (.slc 1 0 1 (putZ l s).length) [.rows 1 (stdH Nat fun _ => (putZ l s).length) (rowsI stdH fun _ => putZ l s) 3] [(0, .cells [] 3)] := by
  have hB : Base Try.prog (tabΓ []) tabO := base_of tabOkO (ents_nil)
  refine con_m (N := 45) hB (draw_ok hB mixed) Try.func34 rfl rfl (fun H => [.slc 0 0 1 (H Nat fun _ => l.length), .lit (.int .i64 s)]) (fun H => [(0, .rows 1 (H Nat fun _ => l.length) (rowsI H fun _ => l) 3)]) 1 (fun H => .slc 1 0 1 (H Nat fun _ => (putZ l s).length)) (fun H => [.rows 1 (H Nat fun _ => (putZ l s).length) (rowsI H fun _ => putZ l s) 3]) (fun H => [(0, .cells [] 3)]) 300 (by simp) (fun x hx => ?_) (fun i b hi => ?_) (fun i hi => ?_) (fun i b hi => ?_) ?_
  · simp only [List.mem_cons, List.not_mem_nil, or_false] at hx
    rcases hx with rfl | rfl
    · exact .slc (by omega)
    · exact .lit
  · have := lk_in hi
    simp only [List.mem_cons, List.not_mem_nil, or_false, Prod.mk.injEq] at this
    obtain ⟨rfl, rfl⟩ := this
    exact ⟨by omega, bT_bl okI _ (fun _ => l) _, _, List.mem_cons_self⟩
  · obtain rfl : i = 0 := by omega
    exact ⟨_, rfl⟩
  · simp only [List.mem_cons, List.not_mem_nil, or_false, Prod.mk.injEq] at hi
    obtain ⟨rfl, rfl⟩ := hi
    exact ⟨_, rfl⟩
  intro X hX hX0 H hH
  conv in Fin.chk _ _ => cbv
  try simp only [Plain_rowsA, Plain_rowsB, Plain_rowsF, Plain_rowsG, Plain_rowsI, Plain_rowsS, Plain_rowsU, Fin.satC_ret, Fin.satC_br, Fin.satC_need, Fin.satC_again, AllP, and_true, true_and, upd, List.length_nil, List.length_cons, Nat.zero_add, if_true, ncast, Int.ofNat_eq_natCast]
  refine loop_a hB (draw_ok hB mixed) hX hX0 hH false (ι := { i : Nat // i ≤ l.length ∧ ∀ j, j < i → l.getD j 0 < s }) 300 (fun i => [.i (H Int fun _ => (i.1 : Nat))]) (fun i => l.length - i.1) (⟨0, Nat.zero_le _, fun j h => absurd h (Nat.not_lt_zero j)⟩) ?_ ?_
  · (conv in matchSt _ _ _ _ => cbv); simp only [AllG, AllP, and_true, hH, stdH, Nat.le_refl, ncast, Int.ofNat_eq_natCast, vrow_I, Arm.eta2, Fld.eta, Grp.eta]
    exact ⟨RowsEq.self okI, rfl⟩
  · intro I hI i
    conv in Fin.chk _ _ => cbv
    try simp only [Plain_rowsA, Plain_rowsB, Plain_rowsF, Plain_rowsG, Plain_rowsI, Plain_rowsS, Plain_rowsU, Fin.satC_ret, Fin.satC_br, Fin.satC_need, Fin.satC_again, AllP, and_true, true_and, upd, List.length_nil, List.length_cons, Nat.zero_add, if_true, ncast, Int.ofNat_eq_natCast]
    obtain ⟨i, hi, hj⟩ := i
    refine ⟨?_, ?_, fun h1 => ?_, fun h1 => ⟨?_, ?_, fun h2 => ?_, fun h2 => ?_⟩⟩
    · try simp only [hH, stdH, Nat.le_refl, decide_eq_true_eq, decide_eq_false_iff_not, Bool.not_eq_true', Bool.not_eq_false', peta, ncast, Int.ofNat_eq_natCast, beq_iff_eq, bne_iff_ne, beq_eq_false_iff_ne, bne_eq_false_iff_eq, ne_eq, Classical.not_not, Int.toNat_natCast, vrow_I, Arm.eta2, Fld.eta, Grp.eta]
      intro h
      omega
    · try simp only [hH, stdH, Nat.le_refl, decide_eq_true_eq, decide_eq_false_iff_not, Bool.not_eq_true', Bool.not_eq_false', peta, ncast, Int.ofNat_eq_natCast, beq_iff_eq, bne_iff_ne, beq_eq_false_iff_ne, bne_eq_false_iff_eq, ne_eq, Classical.not_not, Int.toNat_natCast, vrow_I, Arm.eta2, Fld.eta, Grp.eta]
      intro h
      exact ⟨by omega, rfl⟩
    · simp only [hH, stdH, Int.toNat_natCast] at h1
      by_cases q : (i : Int) < l.length
      · rw [decide_eq_true q, cond_true, decide_eq_true_eq] at h1
        refine ⟨⟨i + 1, by omega, fun j hj' => ?_⟩, by simp only; omega, ?_⟩
        · rcases Nat.lt_succ_iff_lt_or_eq.1 hj' with h | rfl
          · exact hj j h
          · exact h1
        · rw [hI]
          (conv in matchSt _ _ _ _ => cbv); simp only [AllG, AllP, and_true, hH, stdH, Nat.le_refl, ncast, Int.ofNat_eq_natCast, vrow_I, Arm.eta2, Fld.eta, Grp.eta]
          rw [w1 (by omega)]
          exact ⟨RowsEq.self okI, rfl⟩
      · rw [decide_eq_false q] at h1
        cases h1
    · try simp only [hH, stdH, Nat.le_refl, decide_eq_true_eq, decide_eq_false_iff_not, Bool.not_eq_true', Bool.not_eq_false', peta, ncast, Int.ofNat_eq_natCast, beq_iff_eq, bne_iff_ne, beq_eq_false_iff_ne, bne_eq_false_iff_eq, ne_eq, Classical.not_not, Int.toNat_natCast, vrow_I, Arm.eta2, Fld.eta, Grp.eta]
      intro h
      omega
    · try simp only [hH, stdH, Nat.le_refl, decide_eq_true_eq, decide_eq_false_iff_not, Bool.not_eq_true', Bool.not_eq_false', peta, ncast, Int.ofNat_eq_natCast, beq_iff_eq, bne_iff_ne, beq_eq_false_iff_ne, bne_eq_false_iff_eq, ne_eq, Classical.not_not, Int.toNat_natCast, vrow_I, Arm.eta2, Fld.eta, Grp.eta]
      intro h
      exact ⟨by omega, rfl⟩
    · simp only [hH, stdH, Int.toNat_natCast] at h2
      by_cases q : (i : Int) < l.length
      · rw [decide_eq_true q, cond_true, beq_iff_eq] at h2
        have hi' : i < l.length := by omega
        have e0 : l.getD i 0 = l[i] := by rw [List.getD_eq_getElem?_getD, List.getElem?_eq_getElem hi', Option.getD_some]
        rw [e0] at h2
        have e : putZ l s = l := by
          rw [putZ_at l i hi hj, List.drop_eq_getElem_cons hi', h2]
          conv => rhs; rw [← List.take_append_drop i l, List.drop_eq_getElem_cons hi', h2]
          congr 1
          exact (if_neg (Int.lt_irrefl _)).trans (if_pos rfl)
        try simp only [hH, stdH, Nat.le_refl, decide_eq_true_eq, decide_eq_false_iff_not, Bool.not_eq_true', Bool.not_eq_false', peta, ncast, Int.ofNat_eq_natCast, beq_iff_eq, bne_iff_ne, beq_eq_false_iff_ne, bne_eq_false_iff_eq, ne_eq, Classical.not_not, Int.toNat_natCast, vrow_I, Arm.eta2, Fld.eta, Grp.eta]
        rw [e]
        exact ⟨RowsEq.self okI, rfl⟩
      · rw [decide_eq_false q] at h2
        cases h2
    · have e : putZ l s = l.take i ++ s :: l.drop i := by
        rw [putZ_at l i hi hj]
        congr 1
        simp only [hH, stdH, Int.toNat_natCast] at h1 h2
        by_cases q : i < l.length
        · rw [decide_eq_true (show (i : Int) < l.length by omega), cond_true] at h1 h2
          rw [decide_eq_false_iff_not] at h1
          rw [beq_eq_false_iff_ne] at h2
          have e0 : l.getD i 0 = l[i] := by rw [List.getD_eq_getElem?_getD, List.getElem?_eq_getElem q, Option.getD_some]
          rw [e0] at h1 h2
          rw [List.drop_eq_getElem_cons q]
          exact (if_neg h1).trans (if_neg h2)
        · rw [List.drop_of_length_le (by omega)]; rfl
      have h5 : hiOf l.length (some (i : Int)) - loOf none = i := by show ((i : Nat) : Int).toNat - 0 = i; omega
      have h6 : hiOf l.length none - loOf (some (i : Int)) = l.length - i := by show l.length - ((i : Nat) : Int).toNat = _; rw [Int.toNat_natCast]
      have h8 : hiOf l.length none = l.length := rfl
      have h9 : loOf none = 0 := rfl
      simp only [hH, stdH]
      rw [e]
      simp only [h5, h6, h8, h9, Int.toNat_natCast]
      have pl := putZ_plain (s := s) hi
      have el : (l.take i ++ s :: l.drop i).length = i + 1 + (l.length - i) := by rw [List.length_append, List.length_cons, List.length_take, List.length_drop]; omega
      have o1 : okB l.length none (some (i : Int)) := ⟨trivial, by show (0 : Int) ≤ (i : Nat); omega, by show 0 ≤ _; omega, by show ((i : Nat) : Int).toNat ≤ l.length; omega⟩
      have o2 : okB l.length (some (i : Int)) none := ⟨by show (0 : Int) ≤ (i : Nat); omega, trivial, by show ((i : Nat) : Int).toNat ≤ l.length; omega, Nat.le_refl _⟩
      (repeat' (with_reducible refine And.intro ?_ ?_)) <;> (first | exact True.intro | exact pl.1 | exact pl.2 | exact o1 | exact o2 | exact fun j _ => rfl | exact el | exact putZ_rows hi | exact Nat.mod_one _ | omega)
noncomputable def e_putZO : Entry := growE 34 1 3 fun H n g a => match a with
  | [.lit (.int .i64 s)] => some (H Nat fun _ => (putZ (Tl rowI n g) s).length, rowsI H fun _ => putZ (Tl rowI n g) s, [H Prop fun _ => Shp rowI n g, H Prop fun _ => (Tl rowI n g).length ≤ 100000])
  | _ => none
theorem eok_putZO : EntryOk Try.prog e_putZO := growE_ok (by unfold isBody; kernel_rfl) (by
  intro n g a m g' ob e hob
  split at e
  · rename_i s
    simp only [Option.some.injEq, Prod.mk.injEq] at e
    obtain ⟨rfl, rfl, rfl⟩ := e
    have hs := hob.1
    have hl : (Tl rowI n g).length = n := Tl_len n g
    refine ⟨rowsI stdH fun _ => Tl rowI n g, fun j hj => ⟨?_, ?_⟩, ?_, fun x hx => ?_, fun j hj => ?_⟩
    · rw [hs.row j hj]; exact ((okI).row (fun _ => Tl rowI n g) j).trans (by rw [Tl_getD hj])
    · exact rows_blx okI _ j
    · have := c_putZO (Tl rowI n g) s hob.2.1
      simp only [stdH, hl] at this ⊢
      exact ConN.args (.cons .rfl (.cons .rfl .nil)) this
    · simp only [List.mem_cons, List.not_mem_nil, or_false] at hx
      rcases hx with rfl
      · exact .lit
    · exact rows_blx okI _ j
  · simp at e)

end Go.Proofs.Ytigkdbhcjjjjkaa.AM

