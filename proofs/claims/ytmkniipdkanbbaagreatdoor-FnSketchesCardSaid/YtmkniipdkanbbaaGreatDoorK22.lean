/- Lemmas and contracts (Skm Pac); conditions: none. -/
import Derived.Test.YtmkniipdkanbbaaGreatDoorK04
import Derived.Test.YtmkniipdkanbbaaGreatDoorK10
import Derived.Test.YtmkniipdkanbbaaGreatDoorK18
import Derived.Test.YtmkniipdkanbbaaGreatDoorK21
set_option linter.unusedVariables false
set_option linter.unusedSimpArgs false
set_option maxRecDepth 100000
set_option maxHeartbeats 4000000
set_option cbv.maxSteps 3000000
namespace Go.Proofs.YtmkniipdkanbbaaGreatDoor.AM
/- Sketches: the tinctures that their slots stand for, plain; conditions: none. -/
def tinQ (f : Fld) : List Int := if f.d = 0 then [f.p] else [f.p, f.q]
def fstL (l : List Int) : List Int := l.foldl (fun out x => if out.contains x then out else out ++ [x]) []
theorem fstL_take {l : List Int} {i : Nat} (h : i < l.length) : fstL (l.take (i + 1)) = if (fstL (l.take i)).contains (l.getD i 0) then fstL (l.take i) else fstL (l.take i) ++ [l.getD i 0] := by
  unfold fstL
  rw [List.take_succ_eq_append_getElem h, List.foldl_append, List.getD_eq_getElem?_getD, List.getElem?_eq_getElem h]
  rfl
theorem fstL_len : ∀ (l : List Int) (o : List Int), (l.foldl (fun out x => if out.contains x then out else out ++ [x]) o).length ≤ o.length + l.length
  | [], o => Nat.le_refl _
  | x :: l, o => by
    rw [List.foldl_cons, List.length_cons]
    have := fstL_len l (if o.contains x then o else o ++ [x])
    split at this <;> rename_i h
    · rw [if_pos h]; omega
    · rw [if_neg h]; rw [List.length_append] at this; simp only [List.length_cons, List.length_nil] at this; omega
theorem fstL_le (l : List Int) : (fstL l).length ≤ l.length := by
  have := fstL_len l []
  rw [List.length_nil, Nat.zero_add] at this
  exact this
def tVm (f : Fld) (m : List Int) (y : Slo) : Int := if y.m = 5 then 0 else if y.m = 1 then y.n else if y.m = 2 then f.p else if y.m = 3 then (fstL m).getD (y.n - 1).toNat 0 else m.getD (m.length - 1) 0
def gVm (f : Fld) (m : List Int) (y : Slo) : Bool := if y.m = 2 then decide (f.d = 0) else if y.m = 3 then decide (y.n ≤ ((fstL m).length : Nat)) else true
def mI (f : Fld) (S : List Slo) : Nat → List Int
  | 0 => tinQ f
  | i + 1 => if (S.getD i default).m = 5 then mI f S i else mI f S i ++ [tVm f (mI f S i) (S.getD i default)]
def tI (f : Fld) (S : List Slo) (i : Nat) : Int := tVm f (mI f S i) (S.getD i default)
def gI (f : Fld) (S : List Slo) (i : Nat) : Bool := gVm f (mI f S i) (S.getD i default)
def lI (f : Fld) (S : List Slo) (i : Nat) : Int := (mI f S i).getD ((mI f S i).length - 1) 0
def okR (f : Fld) (S : List Slo) : Bool := (List.range S.length).all (gI f S)
def preZ (g : Nat → Int) (n i : Nat) : List Int := (List.range i).map g ++ List.replicate (n - i) 0
theorem preZ_len {g : Nat → Int} {n i : Nat} (h : i ≤ n) : (preZ g n i).length = n := by
  unfold preZ
  rw [List.length_append, List.length_map, List.length_range, List.length_replicate]; omega
theorem preZ_get {g : Nat → Int} {n i j : Nat} : (preZ g n i).getD j 0 = if j < i then g j else 0 := by
  unfold preZ
  rw [List.getD_eq_getElem?_getD]
  by_cases h : j < i
  · rw [if_pos h, List.getElem?_append_left (by rw [List.length_map, List.length_range]; exact h), List.getElem?_map, List.getElem?_range h]; rfl
  · rw [if_neg h, List.getElem?_append_right (by rw [List.length_map, List.length_range]; omega)]
    rw [List.getElem?_replicate]
    split <;> rfl
theorem ext0 {l l' : List Int} (h : l.length = l'.length) (he : ∀ j, j < l.length → l.getD j 0 = l'.getD j 0) : l = l' := by
  refine List.ext_getElem h fun j h1 h2 => ?_
  have := he j h1
  rwa [List.getD_eq_getElem?_getD, List.getD_eq_getElem?_getD, List.getElem?_eq_getElem h1, List.getElem?_eq_getElem h2] at this
theorem getD_set0 (l : List Int) (i j : Nat) (x : Int) : (l.set i x).getD j 0 = if i = j ∧ j < l.length then x else l.getD j 0 := by
  rw [List.getD_eq_getElem?_getD, List.getElem?_set, List.getD_eq_getElem?_getD]
  by_cases h : i = j
  · subst h
    by_cases h2 : i < l.length
    · rw [if_pos rfl, if_pos h2, if_pos ⟨rfl, h2⟩]; rfl
    · rw [if_pos rfl, if_neg h2, if_neg (fun q => h2 q.2), List.getElem?_eq_none (by omega)]
  · rw [if_neg h, if_neg (fun q => h q.1)]
theorem preZ_set {g : Nat → Int} {n i : Nat} (h : i < n) : (preZ g n i).set i (g i) = preZ g n (i + 1) := by
  refine ext0 (by rw [List.length_set, preZ_len (by omega), preZ_len (by omega)]) fun j hj => ?_
  rw [List.length_set, preZ_len (by omega)] at hj
  rw [getD_set0, preZ_get, preZ_get, preZ_len (by omega)]
  by_cases h1 : i = j
  · subst h1
    rw [if_pos ⟨rfl, hj⟩, if_pos (by omega)]
  · rw [if_neg (fun q => h1 q.1)]
    by_cases h2 : j < i
    · rw [if_pos h2, if_pos (by omega)]
    · rw [if_neg h2, if_neg (by omega)]
theorem preZ_skip {g : Nat → Int} {n i : Nat} (h : i < n) (h0 : g i = 0) : preZ g n i = preZ g n (i + 1) := by
  refine ext0 (by rw [preZ_len (by omega), preZ_len (by omega)]) fun j hj => ?_
  rw [preZ_get, preZ_get]
  by_cases h1 : j = i
  · subst h1
    rw [if_neg (by omega), if_pos (by omega), h0]
  · by_cases h2 : j < i
    · rw [if_pos h2, if_pos (by omega)]
    · rw [if_neg h2, if_neg (by omega)]
def nxD (p : Nat → Bool) (n : Nat) (l : List Int) : Nat → List Int
  | 0 => l
  | s + 1 => if p (n - 2 - s) then (nxD p n l s).set (n - 2 - s) ((nxD p n l s).getD (n - 2 - s + 1) 0) else nxD p n l s
theorem nxD_len {p : Nat → Bool} {n : Nat} {l : List Int} : ∀ {s : Nat}, (nxD p n l s).length = l.length
  | 0 => rfl
  | s + 1 => by
    show (if _ then _ else _ : List Int).length = _
    split
    · rw [List.length_set]; exact nxD_len
    · exact nxD_len
def isN (S : List Slo) (i : Nat) : Bool := decide ((S.getD i default).m = 5)
def rdO (f : Fld) (S : List Slo) : List Int := nxD (isN S) S.length (preZ (tI f S) S.length S.length) (S.length - 1)
def rdLa (f : Fld) (S : List Slo) : List Int := preZ (lI f S) S.length S.length
def tnc (x : Int) : Prop := 1 ≤ x ∧ x ≤ 9
theorem mI_pos (f : Fld) (S : List Slo) : ∀ i, 1 ≤ (mI f S i).length
  | 0 => by show 1 ≤ (tinQ f).length; unfold tinQ; split <;> simp
  | i + 1 => by
    show 1 ≤ (if _ then _ else _ : List Int).length
    split
    · exact mI_pos f S i
    · rw [List.length_append]; exact Nat.le_trans (mI_pos f S i) (Nat.le_add_right _ _)
theorem mI_len (f : Fld) (S : List Slo) : ∀ i, (mI f S i).length ≤ i + 2
  | 0 => by show (tinQ f).length ≤ 2; unfold tinQ; split <;> simp
  | i + 1 => by
    have := mI_len f S i
    show (if _ then _ else _ : List Int).length ≤ _
    split
    · omega
    · rw [List.length_append]; simp only [List.length_cons, List.length_nil]; omega
theorem okY_3 {y : Slo} (h : okY y = true) (h3 : y.m = 3) : 1 ≤ y.n ∧ y.n ≤ 3 := by
  unfold okY at h
  rw [if_neg (by omega), if_pos h3] at h
  exact of_decide_eq_true h
theorem okY_m {y : Slo} (h : okY y = true) : y.m = 1 ∨ y.m = 2 ∨ y.m = 3 ∨ y.m = 4 ∨ y.m = 5 := by
  unfold okY inB at h
  by_cases h1 : y.m = 1
  · exact .inl h1
  · rw [if_neg h1] at h
    by_cases h3 : y.m = 3
    · exact .inr (.inr (.inl h3))
    · rw [if_neg h3, Bool.and_eq_true, decide_eq_true_eq] at h
      omega
theorem tI_5 {f : Fld} {S : List Slo} {i : Nat} (h5 : (S.getD i default).m = 5) : tI f S i = 0 := if_pos h5
theorem okR_all {f : Fld} {S : List Slo} : okR f S = true ↔ ∀ j, j < S.length → gI f S j = true := by
  unfold okR
  rw [List.all_eq_true]
  exact ⟨fun h j hj => h j (List.mem_range.2 hj), fun h j hj => h j (List.mem_range.1 hj)⟩
theorem okR_no {f : Fld} {S : List Slo} {i : Nat} (hi : i < S.length) (h : gI f S i = false) : okR f S = false := by
  rw [← Bool.not_eq_true]
  intro q
  have := okR_all.1 q i hi
  rw [h] at this; cases this
theorem rdO_len (f : Fld) (S : List Slo) : (rdO f S).length = S.length := by unfold rdO; rw [nxD_len, preZ_len (Nat.le_refl _)]
end Go.Proofs.YtmkniipdkanbbaaGreatDoor.AM

set_option maxRecDepth 100000
set_option maxHeartbeats 4000000
set_option cbv.maxSteps 3000000
namespace Go.Proofs.YtmkniipdkanbbaaGreatDoor.AM
/- The program's parsers of fields, ordinaries, arms; conditions: none. -/
theorem c_cutB (s p : ByteArray) (h0 : s.size < 4294967281) : Con Tryz.prog 60 [.lit (.string s), .lit (.string p)] [] (.tup [.lit (.string (cutB s p).1), .lit (.string (cutB s p).2.1), .lit (.bool (cutB s p).2.2)]) [] := c_cut s p h0
noncomputable def e_cutB : Entry := pureE 60 fun H a => match a with
  | [.lit (.string s), .lit (.string p)] => some (.tup [.lit (.string (H ByteArray fun _ => ((cutB s p).1))), .lit (.string (H ByteArray fun _ => ((cutB s p).2.1))), .lit (.bool (H Bool fun _ => ((cutB s p).2.2)))], [H Prop fun _ => s.size < 4294967281])
  | _ => none
theorem eok_cutB : EntryOk Tryz.prog e_cutB := pureE_ok (by unfold isBody; kernel_rfl) (by
  intro a r ob e hob
  split at e
  · simp only [zqt] at e
    obtain ⟨rfl, rfl⟩ := e
    obtain ⟨h0, _⟩ := hob
    exact c_cutB _ _ h0
  · simp at e)
theorem wordOf_nat (l : List ByteArray) (i : Nat) : wordOf l ((i : Int) + 1) = l.getD i ByteArray.empty := by
  unfold wordOf
  rw [show ((i : Int) + 1 - 1).toNat = i by omega]
theorem cutLn_y {s : ByteArray} {i : Nat} (hi : i < 4) (h : isPre s (linL.getD i ByteArray.empty ++ spB) = true) (hj : ∀ j, j < i → isPre s (linL.getD j ByteArray.empty ++ spB) = false) : cutLn s = (afterP s (linL.getD i ByteArray.empty ++ spB), (i : Int) + 1) := by
  have e : preI linL s = (i : Nat) := idxF_at ByteArray.empty (l := linL) hi h hj
  unfold cutLn
  rw [e, if_neg (by omega), wordOf_nat]
theorem cutLn_n {s : ByteArray} (hj : ∀ j, j < 4 → isPre s (linL.getD j ByteArray.empty ++ spB) = false) : cutLn s = (s, 0) := by
  have e : preI linL s = -1 := preI_no (l := linL) hj
  unfold cutLn
  rw [e, if_pos (by omega)]
theorem cutLn_sz (s : ByteArray) : (cutLn s).1.size ≤ s.size := by
  unfold cutLn
  split
  · exact Nat.le_refl _
  · exact afterP_sz _ _
theorem getD_20 {l : List ByteArray} (h : ∀ s ∈ l, s.size ≤ 20) (i : Nat) : (l.getD i ByteArray.empty).size ≤ 20 := getD_sz h i
theorem c_cutLine (s : ByteArray)  : ConN Tryz.prog 120 [.lit (.string s)] [] 0 (.tup [.lit (.string (stdH ByteArray fun _ => (cutLn s).1)), .lit (.int .i64 (stdH Int fun _ => (cutLn s).2))]) [] [] := by
  have hB : Base Tryz.prog (tabΓ [e_linWords, e_cutPre]) tab := base_of tabOk (ents_cons eok_linWords <| ents_cons eok_cutPre <| ents_nil)
  refine con_m (N := 28) hB (draw_ok hB mixed) Tryz.func120 rfl rfl (fun H => [.lit (.string s)]) (fun _ => []) 0 (fun H => .tup [.lit (.string (H ByteArray fun _ => (cutLn s).1)), .lit (.int .i64 (H Int fun _ => (cutLn s).2))]) (fun H => []) (fun _ => []) 200 (by simp) (fun x hx => ?_) (by simp [lk]) (by omega) (by simp) ?_
  · simp only [zqu] at hx
    rcases hx with rfl
    · exact .lit
  intro X hX hX0 H hH
  conv in Fin.chk _ _ => cbv
  try simp only [zqs, Plain_rowsC, zqx, AllP, zqw, upd, if_true]
  refine loop_a hB (draw_ok hB mixed) hX hX0 hH false (ι := { i : Nat // i ≤ 4 ∧ ∀ j, j < i → isPre s (linL.getD j ByteArray.empty ++ spB) = false }) 200 (fun i => [.s (H ByteArray fun _ => ⟨⟨[]⟩⟩), .i (H Int fun _ => 0), .i (H Int fun _ => (i.1 : Nat))]) (fun i => 4 - i.1) (⟨0, by omega, fun j h => absurd h (Nat.not_lt_zero j)⟩) ?_ ?_
  · (conv in matchSt _ _ _ _ => cbv); simp only [AllG, AllP, and_true, hH, stdH, zql, ncast, zqe, zqy]
    (repeat' (first | with_reducible exact True.intro | rfl | exact RowsEq.self okS (L := linL) | refine And.intro ?_ ?_ | trivial))
  · intro I hI i
    conv in Fin.chk _ _ => cbv
    try simp only [zqs, Plain_rowsC, zqx, AllP, zqw, upd, if_true]
    obtain ⟨i, hi, hj⟩ := i
    have hl : (linL.length : Int) = 4 := rfl
    have es : (⟨⟨[32]⟩⟩ : ByteArray) = spB := rfl
    have hz := getD_20 (l := linL) (by decide) i
    refine ⟨fun h1 => ⟨?_, ?_, fun h2 => ?_, fun h2 => ?_⟩, fun h1 => ?_⟩
    · simp only [hH, stdH, hl, decide_eq_true_eq] at h1 ⊢
      omega
    · simp only [hH, stdH, Int.toNat_natCast, bszM, List.length_cons, List.length_nil]
      omega
    · simp only [hH, stdH, hl, decide_eq_true_eq] at h1
      simp only [hH, stdH, Int.toNat_natCast, es] at h2 ⊢
      rw [cutLn_y (by omega) h2 hj]
      exact ⟨(wi (by omega) (by omega)).symm, rfl⟩
    · simp only [hH, stdH, hl, decide_eq_true_eq] at h1
      simp only [hH, stdH, Int.toNat_natCast, es] at h2
      refine ⟨⟨i + 1, by omega, fun j hj' => ?_⟩, by simp only; omega, ?_⟩
      · rcases Nat.lt_succ_iff_lt_or_eq.1 hj' with h | rfl
        · exact hj j h
        · exact h2
      · rw [hI]
        (conv in matchSt _ _ _ _ => cbv); simp only [AllG, AllP, and_true, hH, stdH, zql, ncast, zqe, zqy]
        rw [w1 (by omega)]
        (repeat' (first | with_reducible exact True.intro | rfl | exact RowsEq.self okS (L := linL) | refine And.intro ?_ ?_ | trivial))
    · simp only [hH, stdH, hl, decide_eq_false_iff_not] at h1 ⊢
      rw [cutLn_n fun j q => hj j (by omega)]
      exact ⟨rfl, rfl⟩
noncomputable def e_cutLine : Entry := pureE 120 fun H a => match a with
  | [.lit (.string s)] => some (.tup [.lit (.string (H ByteArray fun _ => (cutLn s).1)), .lit (.int .i64 (H Int fun _ => (cutLn s).2))], [])
  | _ => none
theorem eok_cutLine : EntryOk Tryz.prog e_cutLine := pureM_ok (by unfold isBody; kernel_rfl) (by
  intro a r ob e hob
  split at e
  · rename_i s
    simp only [zqt] at e
    obtain ⟨rfl, rfl⟩ := e
    exact ConN.args (.cons .rfl .nil) (c_cutLine s )
  · simp at e)
theorem c_fieldTx (f : Fld)  : ConN Tryz.prog 122 [aT rowF stdH fun _ => f] [] 0 (.tup [.lit (.string (stdH ByteArray fun _ => if okF f then fldT f else ByteArray.empty)), .lit (.bool (stdH Bool fun _ => okF f))]) [] [] := by
  have hB : Base Tryz.prog (tabΓ [e_IsValidField, e_fldText]) tab := base_of tabOk (ents_cons eok_IsValidField <| ents_cons eok_fldText <| ents_nil)
  refine con_m (N := 9) hB (draw_ok hB mixed) Tryz.func122 rfl rfl (fun H => [aT rowF H fun _ => f]) (fun _ => []) 0 (fun H => .tup [.lit (.string (H ByteArray fun _ => if okF f then fldT f else ByteArray.empty)), .lit (.bool (H Bool fun _ => okF f))]) (fun H => []) (fun _ => []) 100 (by simp) (fun x hx => ?_) (by simp [lk]) (by omega) (by simp) ?_
  · simp only [zqu] at hx
    rcases hx with rfl
    · exact aT_bl okRF _ _
  intro X hX hX0 H hH
  conv in Fin.chk _ _ => cbv
  try simp only [zqs, Plain_rowsC, zqx, AllP, zqw, upd, if_true]
  subst hH
  simp only [stdH, Fld.eta]
  cases hg : okF f
  · simp only [Bool.not_false, Bool.false_eq_true, if_false]
    (repeat' (first | with_reducible exact True.intro | rfl | refine And.intro ?_ ?_ | (intro h; first | (cases h; done) | skip) | trivial))
  · simp only [Bool.not_true, if_true]
    (repeat' (first | with_reducible exact True.intro | rfl | exact okF_T hg | refine And.intro ?_ ?_ | (intro h; first | (cases h; done) | skip) | trivial))
noncomputable def e_fieldTx : Entry := pureE 122 fun H a => match a with
  | [.agg [.lit (.int .i64 f0), .lit (.int .i64 f1), .lit (.int .i64 f2), .lit (.int .i64 f3)]] => some (.tup [.lit (.string (H ByteArray fun _ => if okF (⟨f0, f1, f2, f3⟩ : Fld) then fldT (⟨f0, f1, f2, f3⟩ : Fld) else ByteArray.empty)), .lit (.bool (H Bool fun _ => okF (⟨f0, f1, f2, f3⟩ : Fld)))], [])
  | _ => none
theorem eok_fieldTx : EntryOk Tryz.prog e_fieldTx := pureM_ok (by unfold isBody; kernel_rfl) (by
  intro a r ob e hob
  split at e
  · rename_i f0 f1 f2 f3
    simp only [zqt] at e
    obtain ⟨rfl, rfl⟩ := e
    exact ConN.args (.cons .rfl .nil) (c_fieldTx (⟨f0, f1, f2, f3⟩ : Fld) )
  · simp at e)
theorem condF {C : Fld} {s : ByteArray} : (bif !okF C then true else !((if okF C = true then fldT C else ByteArray.empty).toList == s.toList)) = !decide (okF C = true ∧ fldT C = s) := by
  rw [beqT]
  cases h : okF C <;> simp
theorem c_parseF (s : ByteArray) (h0 : s.size ≤ 4000000) : ConN Tryz.prog 67 [.lit (.string s)] [] 0 (.tup [aT rowF stdH fun _ => (pF s).getD zF, .lit (.bool (stdH Bool fun _ => (pF s).isSome))]) [] [] := by
  have hB : Base Tryz.prog (tabΓ [e_divWords, e_cutPre, e_cutLine, e_cutB, e_parseTin, e_fieldTx]) tab := base_of tabOk (ents_cons eok_divWords <| ents_cons eok_cutPre <| ents_cons eok_cutLine <| ents_cons eok_cutB <| ents_cons eok_parseTin <| ents_cons eok_fieldTx <| ents_nil)
  refine con_m (N := 74) hB (draw_ok hB mixed) Tryz.func67 rfl rfl (fun H => [.lit (.string s)]) (fun _ => []) 0 (fun H => .tup [aT rowF H fun _ => (pF s).getD zF, .lit (.bool (H Bool fun _ => (pF s).isSome))]) (fun H => []) (fun _ => []) 400 (by simp) (fun x hx => ?_) (by simp [lk]) (by omega) (by simp) ?_
  · simp only [zqu] at hx
    rcases hx with rfl
    · exact .lit
  intro X hX hX0 H hH
  conv in Fin.chk _ _ => cbv
  try simp only [zqs, Plain_rowsC, zqx, AllP, zqw, upd, if_true]
  refine loop_a hB (draw_ok hB mixed) hX hX0 hH false (ι := { i : Nat // i ≤ 7 ∧ ∀ j, j < i → isPre s (divL.getD j ByteArray.empty ++ spB) = false }) 400 (fun i => [.s (H ByteArray fun _ => s), .i (H Int fun _ => (i.1 : Nat)), .i (H Int fun _ => 0), .i (H Int fun _ => 0), .i (H Int fun _ => 0), .i (H Int fun _ => 0)]) (fun i => 7 - i.1) (⟨0, by omega, fun j h => absurd h (Nat.not_lt_zero j)⟩) ?_ ?_
  · (conv in matchSt _ _ _ _ => cbv); simp only [AllG, AllP, and_true, hH, stdH, zql, ncast, zqe, zqy]
    (repeat' (first | with_reducible exact True.intro | rfl | exact RowsEq.self okS (L := divL) | refine And.intro ?_ ?_ | trivial))
  · intro I hI i
    conv in Fin.chk _ _ => cbv
    try simp only [zqs, Plain_rowsC, zqx, AllP, zqw, upd, if_true]
    obtain ⟨i, hi, hj⟩ := i
    have hl : (divL.length : Int) = 7 := rfl
    have es : (⟨⟨[32]⟩⟩ : ByteArray) = spB := rfl
    have ea : (⟨⟨[32, 97, 110, 100, 32]⟩⟩ : ByteArray) = andB := rfl
    have hz := getD_20 (l := divL) (by decide) i
    have eW : IntKind.i64.wrap ((i : Int) + 1) = (i : Int) + 1 := wi (by omega) (by omega)
    refine ⟨fun h1 => ⟨?_, ?_, fun h2 => ⟨?_, fun h3 => ?_, fun h3 => ?_⟩, fun h2 => ?_⟩, fun h1 => ⟨?_, fun h3 => ?_, fun h3 => ?_⟩⟩
    · simp only [hH, stdH, hl, decide_eq_true_eq] at h1 ⊢
      omega
    · simp only [hH, stdH, Int.toNat_natCast, bszM, List.length_cons, List.length_nil]
      omega
    · simp only [hH, stdH, Int.toNat_natCast, es]
      have := cutLn_sz (afterP s (divL.getD i ByteArray.empty ++ spB))
      have := afterP_sz s (divL.getD i ByteArray.empty ++ spB)
      omega
    all_goals try
      (have hC : candF s = ⟨(i : Int) + 1, (cutLn (afterP s (divL.getD i ByteArray.empty ++ spB))).2, pT (cutB (cutLn (afterP s (divL.getD i ByteArray.empty ++ spB))).1 andB).1, pT (cutB (cutLn (afterP s (divL.getD i ByteArray.empty ++ spB))).1 andB).2.1⟩ := by
        simp only [hH, stdH, hl, decide_eq_true_eq] at h1
        simp only [hH, stdH, Int.toNat_natCast, es] at h2
        have e : preI divL s = (i : Nat) := idxF_at ByteArray.empty (l := divL) (show i < 7 by omega) h2 hj
        unfold candF
        rw [e, if_neg (by omega), wordOf_nat]; rfl)
    · simp only [hH, stdH, Int.toNat_natCast, es, ea, eW] at h3 ⊢
      rw [condF, ← hC, Bool.not_eq_true', decide_eq_false_iff_not] at h3
      rw [pF_cand, if_neg h3]
      exact ⟨rfl, rfl, rfl, rfl, rfl⟩
    · simp only [hH, stdH, Int.toNat_natCast, es, ea, eW] at h3 ⊢
      rw [condF, ← hC, Bool.not_eq_false', decide_eq_true_eq] at h3
      rw [pF_cand, if_pos h3, Option.getD_some, hC]
      exact ⟨rfl, rfl, rfl, rfl, rfl⟩
    · simp only [hH, stdH, hl, decide_eq_true_eq] at h1
      simp only [hH, stdH, Int.toNat_natCast, es] at h2
      refine ⟨⟨i + 1, by omega, fun j hj' => ?_⟩, by simp only; omega, ?_⟩
      · rcases Nat.lt_succ_iff_lt_or_eq.1 hj' with h | rfl
        · exact hj j h
        · exact h2
      · rw [hI]
        (conv in matchSt _ _ _ _ => cbv); simp only [AllG, AllP, and_true, hH, stdH, zql, ncast, zqe, zqy]
        rw [w1 (by omega)]
        (repeat' (first | with_reducible exact True.intro | rfl | exact RowsEq.self okS (L := divL) | refine And.intro ?_ ?_ | trivial))
    · try simp only [hH, stdH, zqz, ne_eq, zqy]
      omega
    all_goals
      (have hC : candF s = ⟨0, 0, pT (cutB s andB).1, pT (cutB s andB).2.1⟩ := by
        simp only [hH, stdH, hl, decide_eq_false_iff_not] at h1
        have e : preI divL s = -1 := preI_no (l := divL) fun j q => hj j (by have : j < 7 := q; omega)
        unfold candF
        rw [e, if_pos (by omega)]; rfl)
    · simp only [hH, stdH, Int.toNat_natCast, es, ea, eW] at h3 ⊢
      rw [condF, ← hC, Bool.not_eq_true', decide_eq_false_iff_not] at h3
      rw [pF_cand, if_neg h3]
      exact ⟨rfl, rfl, rfl, rfl, rfl⟩
    · simp only [hH, stdH, Int.toNat_natCast, es, ea, eW] at h3 ⊢
      rw [condF, ← hC, Bool.not_eq_false', decide_eq_true_eq] at h3
      rw [pF_cand, if_pos h3, Option.getD_some, hC]
      exact ⟨rfl, rfl, rfl, rfl, rfl⟩
noncomputable def e_parseF : Entry := pureE 67 fun H a => match a with
  | [.lit (.string s)] => some (.tup [aT rowF H fun _ => (pF s).getD zF, .lit (.bool (H Bool fun _ => (pF s).isSome))], [H Prop fun _ => s.size ≤ 4000000])
  | _ => none
theorem eok_parseF : EntryOk Tryz.prog e_parseF := pureM_ok (by unfold isBody; kernel_rfl) (by
  intro a r ob e hob
  split at e
  · rename_i s
    simp only [zqt] at e
    obtain ⟨rfl, rfl⟩ := e
    exact ConN.args (.cons .rfl .nil) (c_parseF s hob.1)
  · simp at e)

end Go.Proofs.YtmkniipdkanbbaaGreatDoor.AM

