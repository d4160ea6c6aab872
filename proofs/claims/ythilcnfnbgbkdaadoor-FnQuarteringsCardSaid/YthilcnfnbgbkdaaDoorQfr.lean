import Derived.Test.YthilcnfnbgbkdaaDoorAmT
import Derived.Test.YthilcnfnbgbkdaaDoorInh
set_option linter.unusedVariables false
set_option linter.unusedSimpArgs false
set_option maxRecDepth 100000
set_option maxHeartbeats 4000000
set_option cbv.maxSteps 3000000
namespace Go.Proofs.YthilcnfnbgbkdaaDoor.AM
/- Where quarterings come from: the program's and the reference's; conditions: none. -/
def qfS (f : List Arm) (ds : List Dsc) : Nat → List Int
  | 0 => List.replicate f.length 0
  | k + 1 => qfS f ds k ++ List.replicate ((inh f (ds.take (k + 1))).length - (qfS f ds k).length) ((k + 1 : Nat) : Int)
def isD (x : Arm) (d : Dsc) : Bool := d.hs && d.own.any fun y => decide (y = x)
def frM (f : List Arm) (ds : List Dsc) (x : Arm) : Int := if (f.any fun y => decide (y = x)) = true then 0 else (match ds.findIdx? (isD x) with
  | some k => ((k + 1 : Nat) : Int)
  | none => 0)
theorem Tl_part {α : Type} {D : RowD α} (ok : RowOk D) {L : List α} {i : Nat} (h : i ≤ L.length) : Tl D i (fun j => rowsT D stdH (fun _ => L) (0 + j)) = L.take i := by
  refine List.ext_getElem (by simp [Tl]; omega) fun j h1 h2 => ?_
  have hj : j < L.length := by rw [List.length_take] at h2; omega
  simp only [Tl, List.getElem_map, List.getElem_range, List.getElem_take, Nat.zero_add]
  rw [rowsT, ok.row, ok.of_cells, List.getD_eq_getElem?_getD, List.getElem?_eq_getElem hj, Option.getD_some]
theorem Shp_part {α : Type} {D : RowD α} (ok : RowOk D) {L : List α} (i : Nat) : Shp D i (fun j => rowsT D stdH (fun _ => L) (0 + j)) := ⟨fun j _ => (Shp_rowsT ok (0 + j + 1) (fun _ => L)).row (0 + j) (by omega)⟩
theorem rows_zero (n : Nat) : RowsEq 1 (List.replicate n (0 : Int)).length (rowsI stdH fun _ => List.replicate n 0) n (fun _ => [.lit (.int .i64 0)]) := by
  refine ⟨by simp, fun j hj => ⟨?_, rfl, fun x hx => ?_⟩⟩
  · rw [List.length_replicate] at hj
    simp [rowsI, stdH, List.getD_eq_getElem?_getD, hj]
  · simp [rowsI] at hx; subst hx; exact .lit
theorem frM_at {f : List Arm} {ds : List Dsc} {x : Arm} {k : Nat} (hf : (f.any fun y => decide (y = x)) = false) (hk : k < ds.length) (h : isD x (ds.getD k default) = true) (hj : ∀ j, j < k → isD x (ds.getD j default) = false) : frM f ds x = ((k + 1 : Nat) : Int) := by
  have e : ds.findIdx? (isD x) = some k := by
    rw [List.findIdx?_eq_some_iff_getElem]
    refine ⟨hk, ?_, fun j hjk => ?_⟩
    · rwa [List.getD_eq_getElem?_getD, List.getElem?_eq_getElem hk, Option.getD_some] at h
    · have := hj j hjk
      rw [List.getD_eq_getElem?_getD, List.getElem?_eq_getElem (by omega), Option.getD_some] at this
      rw [this]; decide
  unfold frM
  rw [if_neg (by rw [hf]; decide), e]
theorem frM_no {f : List Arm} {ds : List Dsc} {x : Arm} (hj : ∀ j, j < ds.length → isD x (ds.getD j default) = false) : frM f ds x = 0 := by
  have e : ds.findIdx? (isD x) = none := by
    rw [List.findIdx?_eq_none_iff]
    intro d hd
    obtain ⟨j, h, rfl⟩ := List.getElem_of_mem hd
    have := hj j h
    rwa [List.getD_eq_getElem?_getD, List.getElem?_eq_getElem h, Option.getD_some] at this
  unfold frM
  rw [e]
  split <;> rfl
theorem frM_in {f : List Arm} {ds : List Dsc} {x : Arm} (hf : (f.any fun y => decide (y = x)) = true) : frM f ds x = 0 := if_pos hf
theorem okI2_take {f : List Arm} {ds : List Dsc} (h : okI2 f ds = true) (k : Nat) : okI2 f (ds.take k) = true := by
  unfold okI2 at h ⊢
  simp only [Bool.and_eq_true, decide_eq_true_eq, List.all_eq_true] at h ⊢
  exact ⟨h.1, by rw [List.length_take]; omega, fun d hd => h.2.2 d (List.mem_of_mem_take hd)⟩
theorem okI2_f {f : List Arm} {ds : List Dsc} (h : okI2 f ds = true) : f.length ≤ 12 := by
  unfold okI2 at h
  rw [Bool.and_eq_true] at h
  exact (okQ_len h.1).2
/-- What is merged: the first list, and behind it what is new. -/
theorem mrg_ext (a b : List Arm) : ∃ e, mrg a b = a ++ e ∧ (∀ x ∈ e, x ∈ b ∧ x ∉ a) ∧ ∀ x ∈ b, x ∈ mrg a b ∨ 12 ≤ (mrg a b).length := by
  unfold mrg
  induction b generalizing a with
  | nil => exact ⟨[], by simp, by simp, by simp⟩
  | cons y b ih =>
    rw [List.foldl_cons]
    obtain ⟨e, h1, h2, h3⟩ := ih (mrgS a y)
    by_cases hc : a.length < 12 ∧ a.any (fun z => decide (z = y)) = false
    · have es : mrgS a y = a ++ [y] := if_pos hc
      have hy : y ∉ a := by
        intro hm
        have := List.any_eq_false.1 hc.2 y hm
        simp at this
      rw [es] at h1 h2 h3 ⊢
      refine ⟨y :: e, by rw [h1]; simp, fun x hx => ?_, fun x hx => ?_⟩
      · rcases List.mem_cons.1 hx with rfl | hx
        · exact ⟨List.mem_cons_self, hy⟩
        · have := h2 x hx
          exact ⟨List.mem_cons_of_mem _ this.1, fun hm => this.2 (List.mem_append_left _ hm)⟩
      · rcases List.mem_cons.1 hx with rfl | hx
        · exact .inl (by rw [h1]; simp)
        · exact h3 x hx
    · have es : mrgS a y = a := if_neg hc
      rw [es] at h1 h2 h3 ⊢
      refine ⟨e, h1, fun x hx => ⟨List.mem_cons_of_mem _ (h2 x hx).1, (h2 x hx).2⟩, fun x hx => ?_⟩
      rcases List.mem_cons.1 hx with rfl | hx
      · by_cases h12 : a.length < 12
        · left
          have : a.any (fun z => decide (z = x)) = true := by
            cases ha : a.any (fun z => decide (z = x)) with
            | true => rfl
            | false => exact absurd ⟨h12, ha⟩ hc
          obtain ⟨z, hz, he⟩ := List.any_eq_true.1 this
          rw [decide_eq_true_eq] at he
          subst he
          rw [h1]; exact List.mem_append_left _ hz
        · right
          rw [h1, List.length_append]; omega
      · exact h3 x hx
theorem inh_ext (f : List Arm) (ds : List Dsc) {k : Nat} (hk : k < ds.length) : ∃ e, inh f (ds.take (k + 1)) = inh f (ds.take k) ++ e ∧ (∀ x ∈ e, isD x (ds.getD k default) = true ∧ x ∉ inh f (ds.take k)) ∧ ∀ x, isD x (ds.getD k default) = true → x ∈ inh f (ds.take (k + 1)) ∨ 12 ≤ (inh f (ds.take (k + 1))).length := by
  rw [inh_succ hk]
  cases hh : (ds.getD k default).hs with
  | true =>
    rw [if_pos rfl]
    obtain ⟨e, h1, h2, h3⟩ := mrg_ext (inh f (ds.take k)) (ds.getD k default).own
    refine ⟨e, h1, fun x hx => ⟨?_, (h2 x hx).2⟩, fun x hx => ?_⟩
    · unfold isD
      rw [hh, Bool.true_and]
      exact List.any_eq_true.2 ⟨x, (h2 x hx).1, by simp⟩
    · unfold isD at hx
      rw [hh, Bool.true_and] at hx
      obtain ⟨z, hz, he⟩ := List.any_eq_true.1 hx
      rw [decide_eq_true_eq] at he
      subst he
      exact h3 z hz
  | false =>
    rw [if_neg (by decide)]
    refine ⟨[], by simp, by simp, fun x hx => ?_⟩
    unfold isD at hx
    rw [hh] at hx
    cases hx
theorem inh_pre (f : List Arm) (ds : List Dsc) {i : Nat} : ∀ {k : Nat}, i ≤ k → k ≤ ds.length → ∃ e, inh f (ds.take k) = inh f (ds.take i) ++ e
  | 0, h, _ => ⟨[], by obtain rfl : i = 0 := by omega
                       simp⟩
  | k + 1, h, hk => by
    rcases Nat.lt_or_ge k i with hlt | hge
    · obtain rfl : i = k + 1 := by omega
      exact ⟨[], by simp⟩
    · obtain ⟨e, he⟩ := inh_pre f ds (i := i) hge (by omega)
      obtain ⟨e2, he2, _⟩ := inh_ext f ds (k := k) (by omega)
      exact ⟨e ++ e2, by rw [he2, he, List.append_assoc]⟩
/-- Where quarterings come from: both ways of telling it. -/
theorem qf_eq {f : List Arm} {ds : List Dsc} : ∀ {k : Nat}, k ≤ ds.length → qfS f ds k = (inh f (ds.take k)).map (frM f ds)
  | 0, _ => by
    have : inh f (ds.take 0) = f := by simp [inh]
    rw [this]
    show List.replicate f.length 0 = _
    refine (List.eq_replicate_iff.2 ⟨by simp, fun y hy => ?_⟩).symm
    obtain ⟨x, hx, rfl⟩ := List.mem_map.1 hy
    exact frM_in (List.any_eq_true.2 ⟨x, hx, by simp⟩)
  | k + 1, hk => by
    obtain ⟨e, h1, h2, _⟩ := inh_ext f ds (k := k) (by omega)
    have ih := qf_eq (f := f) (ds := ds) (k := k) (by omega)
    show qfS f ds k ++ List.replicate ((inh f (ds.take (k + 1))).length - (qfS f ds k).length) ((k + 1 : Nat) : Int) = _
    rw [h1, List.map_append, ← ih, List.length_append]
    congr 1
    have hl : (qfS f ds k).length = (inh f (ds.take k)).length := by rw [ih, List.length_map]
    rw [hl, Nat.add_sub_cancel_left]
    refine (List.eq_replicate_iff.2 ⟨by simp, fun y hy => ?_⟩).symm
    obtain ⟨x, hx, rfl⟩ := List.mem_map.1 hy
    obtain ⟨hD, hN⟩ := h2 x hx
    have hpos : 0 < e.length := List.length_pos_of_mem hx
    refine frM_at ?_ (by omega) hD fun j hj => ?_
    · rw [← Bool.not_eq_true]
      intro hf
      obtain ⟨z, hz, he⟩ := List.any_eq_true.1 hf
      rw [decide_eq_true_eq] at he
      subst he
      obtain ⟨e0, he0⟩ := inh_pre f ds (i := 0) (k := k) (by omega) (by omega)
      have : inh f (ds.take 0) = f := by simp [inh]
      rw [this] at he0
      exact hN (by rw [he0]; exact List.mem_append_left _ hz)
    · rw [← Bool.not_eq_true]
      intro hDj
      obtain ⟨_, _, _, h3⟩ := inh_ext f ds (k := j) (by omega)
      obtain ⟨e4, he4⟩ := inh_pre f ds (i := j + 1) (k := k) (by omega) (by omega)
      rcases h3 x hDj with h | h
      · exact hN (by rw [he4]; exact List.mem_append_left _ h)
      · have hfull : 12 ≤ (inh f (ds.take k)).length := by rw [he4, List.length_append]; omega
        have : inh f (ds.take (k + 1)) = inh f (ds.take k) := by
          rw [inh_succ (by omega)]
          split
          · exact mrg_full _ hfull
          · rfl
        rw [this] at h1
        have := congrArg List.length h1
        rw [List.length_append] at this
        omega
theorem TlA_H {H : Hold} (hH : H = stdH) (L : List Arm) : Tl rowA (H Nat fun _ => L.length) (rowsA H fun _ => L) = L := by subst hH; exact Tl_A L
theorem TlE_H {H : Hold} (hH : H = stdH) (L : List Dsc) : Tl rowE (H Nat fun _ => L.length) (rowsE H fun _ => L) = L := by subst hH; exact Tl_E L
theorem TlE_part {H : Hold} (hH : H = stdH) (ds : List Dsc) {i : Nat} (h : i < ds.length) (h2 : ds.length ≤ 1000) : Tl rowE (H Nat fun _ => hiOf (H Nat fun _ => ds.length) (some (H Int fun _ => IntKind.i64.wrap ((H Int fun _ => (i : Int)) + 1))) - loOf none) (fun j => rowsE H (fun _ => ds) (H Nat fun _ => loOf none + j)) = ds.take (i + 1) := by
  subst hH
  have w3 : IntKind.i64.wrap ((i : Int) + 1) = ((i + 1 : Nat) : Int) := by rw [wi] <;> omega
  show Tl rowE (hiOf ds.length (some (IntKind.i64.wrap ((i : Int) + 1))) - loOf none) (fun j => rowsE stdH (fun _ => ds) (loOf none + j)) = _
  rw [w3]
  simp only [hiOf, loOf, Int.toNat_natCast, Nat.sub_zero]
  exact Tl_part okRE (by omega)
theorem RowsEq.eqv {k n : Nat} {f : Nat → List AV} (h1 : ∀ j, (f j).length = k) (h2 : ∀ j, ∀ x ∈ f j, Bl 0 x) : RowsEq k n f n f := ⟨rfl, fun j _ => ⟨rfl, h1 j, h2 j⟩⟩
theorem cnd3 {p : Prop} [Decidable p] {b : Bool} {v : Int} (h : (bif bif decide p then b else false then v == 0 else false) = true) : p ∧ b = true ∧ v = 0 := by
  by_cases hp : p
  · rw [decide_eq_true hp, cond_true] at h
    cases hb : b with
    | false => rw [hb] at h; cases h
    | true => rw [hb, cond_true, beq_iff_eq] at h; exact ⟨hp, rfl, h⟩
  · rw [decide_eq_false hp] at h; cases h
theorem cnd3n {p : Prop} [Decidable p] {b : Bool} {v : Int} (h : (bif bif decide p then b else false then v == 0 else false) = false) : ¬ p ∨ b = false ∨ ¬ v = 0 := by
  by_cases hp : p
  · rw [decide_eq_true hp, cond_true] at h
    cases hb : b with
    | false => exact .inr (.inl rfl)
    | true => rw [hb, cond_true, beq_eq_false_iff_ne] at h; exact .inr (.inr h)
  · exact .inl hp
theorem idxF_nn {α : Type} (p : α → Bool) (l : List α) : decide (0 ≤ idxF p l) = l.any p := by
  have := idxF_lt p l
  by_cases h : idxF p l < 0
  · rw [decide_eq_true h] at this
    rw [decide_eq_false (by omega)]
    cases ha : l.any p with
    | true => rw [ha] at this; cases this
    | false => rfl
  · rw [decide_eq_false (by omega)] at this
    rw [decide_eq_true (show 0 ≤ idxF p l by omega)]
    cases ha : l.any p with
    | true => rfl
    | false => rw [ha] at this; cases this
theorem Own.take {ds : List Dsc} (h : Own ds) (k : Nat) : Own (ds.take k) := ⟨fun d hd => h.le d (List.mem_of_mem_take hd)⟩
theorem qf_len {f : List Arm} {ds : List Dsc} {k : Nat} (h : k ≤ ds.length) : (qfS f ds k).length = (inh f (ds.take k)).length := by rw [qf_eq h, List.length_map]

end Go.Proofs.YthilcnfnbgbkdaaDoor.AM
