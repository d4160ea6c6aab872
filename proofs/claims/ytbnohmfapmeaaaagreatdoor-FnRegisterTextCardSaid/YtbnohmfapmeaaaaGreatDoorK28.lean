/- Lemmas and contracts (Num Spl Mot Let Wra Exm Qln); conditions: none. -/
import Derived.Test.YtbnohmfapmeaaaaGreatDoorK03
import Derived.Test.YtbnohmfapmeaaaaGreatDoorK13
import Derived.Test.YtbnohmfapmeaaaaGreatDoorK24
import Derived.Test.YtbnohmfapmeaaaaGreatDoorK27
import Derived.Shelf.Strings.SlTrimAscii
set_option linter.unusedVariables false
set_option linter.unusedSimpArgs false
set_option maxRecDepth 100000
set_option maxHeartbeats 4000000
set_option cbv.maxSteps 3000000
namespace Go.Proofs.YtbnohmfapmeaaaaGreatDoor.AM
/- Numbers as texts; marks of texts; conditions: none. -/
theorem beqT (s t : ByteArray) : (s.toList == t.toList) = decide (s = t) := by
  rw [Bool.eq_iff_iff, beq_iff_eq, decide_eq_true_eq, ByteArray.toList_eq, ByteArray.toList_eq]
  exact ⟨fun h => ByteArray.ext (Array.ext' h), fun h => by rw [h]⟩
theorem TlS' (L : List ByteArray) : Tl rowS L.length (rowsS stdH fun _ => L) = L := Tl_rowsT okS L
theorem ShpS' (n : Nat) (L : List ByteArray) : Shp rowS n (rowsS stdH fun _ => L) := Shp_rowsT okS n (fun _ => L)
end Go.Proofs.YtbnohmfapmeaaaaGreatDoor.AM

set_option linter.unusedVariables false
set_option linter.unusedSimpArgs false
set_option maxRecDepth 100000
set_option maxHeartbeats 4000000
set_option cbv.maxSteps 3000000
namespace Go.Proofs.YtbnohmfapmeaaaaGreatDoor.AM
/- Texts parted at spaces; conditions: none. -/
def spl : List UInt8 → List (List UInt8)
  | [] => [[]]
  | b :: l => if b = 32 then [] :: spl l else match spl l with
    | [] => [[b]]
    | w :: ws => (b :: w) :: ws
theorem spl_cons (b : UInt8) (l : List UInt8) : spl (b :: l) = if b = 32 then [] :: spl l else match spl l with
    | [] => [[b]]
    | w :: ws => (b :: w) :: ws := rfl
theorem spl_ne : ∀ l, spl l ≠ []
  | [] => by simp [spl]
  | b :: l => by unfold spl; split; · simp
                 · split <;> simp
theorem spl_no : ∀ {l : List UInt8}, (∀ b ∈ l, b ≠ 32) → spl l = [l]
  | [], _ => rfl
  | b :: l, h => by
    unfold spl
    rw [if_neg (h b (by simp)), spl_no fun c hc => h c (by simp [hc])]
theorem spl_at : ∀ {l : List UInt8} {i : Nat}, l[i]? = some 32 → (∀ j, j < i → l[j]? ≠ some 32) → spl l = l.take i :: spl (l.drop (i + 1))
  | [], i, h, _ => by simp at h
  | b :: l, 0, h, _ => by
    simp at h; subst h
    rw [spl_cons, if_pos rfl]; rfl
  | b :: l, i + 1, h, hj => by
    have hb : b ≠ 32 := by have := hj 0 (by omega); simpa using this
    have ih := spl_at (l := l) (i := i) (by simpa using h) (fun j q => by have := hj (j + 1) (by omega); simpa using this)
    rw [spl_cons, if_neg hb, ih]
    rfl
theorem index_at : ∀ (l : List UInt8) (i : Nat), l[i]? = some 32 → (∀ j, j < i → l[j]? ≠ some 32) → Lib.index l [32] = (i : Nat)
  | [], i, h, _ => by simp at h
  | b :: l, 0, h, _ => by
    simp at h; subst h
    unfold Lib.index; rfl
  | b :: l, i + 1, h, hj => by
    have hb : b ≠ 32 := by have := hj 0 (by omega); simpa using this
    have ih := index_at l i (by simpa using h) (fun j q => by have := hj (j + 1) (by omega); simpa using this)
    unfold Lib.index
    have e1 : List.isPrefixOf [32] (b :: l) = false := by simp [List.isPrefixOf]; exact fun e => hb e.symm
    rw [e1, ih]
    have e2 : ((i : Int) == -1) = false := by rw [beq_eq_false_iff_ne]; omega
    rw [e2]; rfl
theorem first_32 : ∀ l : List UInt8, (∀ b ∈ l, b ≠ 32) ∨ ∃ i : Nat, l[i]? = some 32 ∧ ∀ j, j < i → l[j]? ≠ some 32
  | [] => .inl (by simp)
  | b :: l => by
    by_cases hb : b = 32
    · exact .inr ⟨0, by simp [hb], by omega⟩
    · rcases first_32 l with h | ⟨i, h1, h2⟩
      · exact .inl (by simp [hb]; exact fun a ha => h a ha)
      · refine .inr ⟨i + 1, by simpa using h1, fun j hj => ?_⟩
        cases j with
        | zero => simpa using hb
        | succ j => simpa using h2 j (by omega)
theorem index_no : ∀ {l : List UInt8}, (∀ b ∈ l, b ≠ 32) → Lib.index l [32] = -1
  | [], _ => rfl
  | b :: l, h => by
    unfold Lib.index
    have hb := h b (by simp)
    have e1 : List.isPrefixOf [32] (b :: l) = false := by simp [List.isPrefixOf]; exact fun e => hb e.symm
    rw [e1, index_no fun c hc => h c (by simp [hc])]
    rfl
def spB : ByteArray := (⟨⟨[32]⟩⟩ : ByteArray)
def ofL (l : List UInt8) : ByteArray := ⟨⟨l⟩⟩
def wordsB (s : ByteArray) : List ByteArray := (spl s.data.toList).map ofL
theorem split_eq : ∀ (n : Nat) (s : ByteArray), s.size ≤ n → Lib.splitB spB 0 (Lib.countB s spB) s = wordsB s := by
  intro n
  induction n with
  | zero =>
    intro s hs
    have e : s.data.toList = [] := List.eq_nil_of_length_eq_zero (by have : s.data.toList.length = s.size := rfl; omega)
    have hm : Lib.indexB s spB = -1 := by show Lib.index s.data.toList [32] = -1; rw [e]; rfl
    rw [Lib.splitB_miss _ _ _ _ hm]
    unfold wordsB
    rw [e]
    show [s] = [ofL []]
    congr 1
    exact ByteArray.ext (Array.ext' e)
  | succ n ih =>
    intro s hs
    rcases first_32 s.data.toList with h | ⟨i, h1, h2⟩
    · have hm : Lib.indexB s spB = -1 := index_no h
      rw [Lib.splitB_miss _ _ _ _ hm]
      unfold wordsB
      rw [spl_no h]
      rfl
    · have hi : Lib.indexB s spB = (i : Nat) := index_at _ _ h1 h2
      have hlt : i < s.size := (List.getElem?_eq_some_iff.1 h1).1
      rw [Lib.countB_hit s spB i (by decide) hi, Nat.add_comm, Lib.splitB_hit _ _ _ _ _ hi, ih _ (by rw [ByteArray.size_extract]; show min s.size s.size - (i + 1) ≤ n; omega)]
      unfold wordsB
      rw [spl_at h1 h2, List.map_cons]
      congr 1
      · apply ByteArray.ext; apply Array.ext'; simp [ofL]
      · congr 2
        show (s.extract (i + 1) s.size).data.toList = _
        have : s.data.toList.length = s.size := rfl
        simp
        rw [List.take_of_length_le (by simp)]
theorem words_len (s : ByteArray) : (wordsB s).length ≤ s.size + 1 := by
  have : ∀ l : List UInt8, (spl l).length ≤ l.length + 1 := fun l => by
    induction l with
    | nil => simp [spl]
    | cons b l ih =>
      unfold spl
      split
      · simp; omega
      · split
        · simp
        · rename_i w ws e; rw [e] at ih; simp at ih ⊢; omega
  unfold wordsB; rw [List.length_map]
  exact this s.data.toList
theorem c_split (s : ByteArray) (h0 : s.size < 4294967281) : Con Tryz.prog 61 [.lit (.string s), .lit (.string spB)] [] (.vec 1 (wordsB s).length (rowsS stdH fun _ => wordsB s)) [] :=
  con_texts (l := [.string s, .string spB]) (by have := words_len s; unfold maxLen; omega) fun w hw => (Tryz.strings_Split_shaped s spB w hw h0 (by decide)).mono fun e w' ⟨h1, h2⟩ => by
    have e1 := Lib.splitB_all spB (by decide) 0 _ s rfl
    rw [split_eq s.size s (Nat.le_refl _)] at h2 e1
    rw [e1]
    exact ⟨h1, h2⟩
noncomputable def e_split : Entry := pureE 61 fun H a => match a with
  | [.lit (.string s), .lit (.string p)] => some (.vec 1 (H Nat fun _ => (wordsB s).length) (rowsS H fun _ => wordsB s), [H Prop fun _ => s.size < 4294967281, H Prop fun _ => p = spB])
  | _ => none
theorem eok_split : EntryOk Tryz.prog e_split := pureE_ok (by unfold isBody; kernel_rfl) (by
  intro a r ob e hob
  split at e
  · simp only [Option.some.injEq, Prod.mk.injEq] at e
    obtain ⟨rfl, rfl⟩ := e
    obtain ⟨h0, h1, _⟩ := hob
    subst h1
    exact c_split _ h0
  · simp at e)
theorem sByte_at {s : ByteArray} {i : Nat} (hi : i < s.size) : ∃ b : UInt8, s.data.toList[i]? = some b ∧ sByte s i = (b.toNat : Nat) := by
  have hl : i < s.data.toList.length := hi
  exact ⟨s.data.toList[i], List.getElem?_eq_getElem hl, by unfold sByte; rw [List.getD_eq_getElem?_getD, List.getElem?_eq_getElem hl]; rfl⟩
end Go.Proofs.YtbnohmfapmeaaaaGreatDoor.AM

set_option linter.unusedVariables false
set_option linter.unusedSimpArgs false
set_option maxRecDepth 100000
set_option maxHeartbeats 4000000
set_option cbv.maxSteps 3000000
namespace Go.Proofs.YtbnohmfapmeaaaaGreatDoor.AM
/- Mottoes; conditions: none. -/
theorem bif_or (a b : Bool) : (bif a then true else b) = (a || b) := by cases a <;> rfl
end Go.Proofs.YtbnohmfapmeaaaaGreatDoor.AM

set_option linter.unusedVariables false
set_option linter.unusedSimpArgs false
set_option maxRecDepth 100000
set_option maxHeartbeats 4000000
set_option cbv.maxSteps 3000000
namespace Go.Proofs.YtbnohmfapmeaaaaGreatDoor.AM
/- Texts parted by the reference; initial letters; conditions: none. -/
theorem ofL_ext {s : ByteArray} {i j : Nat} : ofL ((s.data.toList.drop i).take (j - i)) = s.extract i j := by
  apply ByteArray.ext; apply Array.ext'; simp [ofL]
theorem ofL_end (s : ByteArray) (i : Nat) : ofL (s.data.toList.drop i) = s.extract i s.size := by
  have : s.data.toList.length = s.size := rfl
  rw [← ofL_ext, List.take_of_length_le (by simp)]
theorem bszM (l : List UInt8) : (ByteArray.mk (Array.mk l)).size = l.length := rfl
end Go.Proofs.YtbnohmfapmeaaaaGreatDoor.AM

set_option linter.unusedVariables false
set_option linter.unusedSimpArgs false
set_option maxRecDepth 100000
set_option maxHeartbeats 4000000
set_option cbv.maxSteps 3000000
namespace Go.Proofs.YtbnohmfapmeaaaaGreatDoor.AM
/- Arms wrapped; conditions: none. -/
theorem Tl_S (L : List ByteArray) : Tl rowS L.length (rowsS stdH fun _ => L) = L := Tl_rowsT okS L
theorem Shp_S (n : Nat) (L : List ByteArray) : Shp rowS n (rowsS stdH fun _ => L) := Shp_rowsT okS n (fun _ => L)
end Go.Proofs.YtbnohmfapmeaaaaGreatDoor.AM

set_option linter.unusedVariables false
set_option linter.unusedSimpArgs false
set_option maxRecDepth 100000
set_option maxHeartbeats 4000000
set_option cbv.maxSteps 3000000
namespace Go.Proofs.YtbnohmfapmeaaaaGreatDoor.AM
/- Lists of arms marked, and marks that are held; conditions: none. -/
theorem put2_same (j o : Nat) (cs : List AV) (f : Nat → List AV) : put2 j o cs f j = (match splice (f j) cs o with | some r => r | none => f j) := by unfold put2; rw [show Nat.beq j j = true by simp]; rfl
theorem put2_ne {j q : Nat} (h : q ≠ j) (o : Nat) (cs : List AV) (f : Nat → List AV) : put2 j o cs f q = f q := by unfold put2; rw [show Nat.beq q j = false by rw [← Bool.not_eq_true]; simpa using h]; rfl
theorem put1_same {α : Type} (j : Nat) (row : α) (f : Nat → α) : put1 j row f j = row := by unfold put1; rw [show Nat.beq j j = true by simp]; rfl
theorem put1_ne {α : Type} {j q : Nat} (h : q ≠ j) (row : α) (f : Nat → α) : put1 j row f q = f q := by unfold put1; rw [show Nat.beq q j = false by rw [← Bool.not_eq_true]; simpa using h]; rfl
end Go.Proofs.YtbnohmfapmeaaaaGreatDoor.AM

set_option linter.unusedVariables false
set_option linter.unusedSimpArgs false
set_option maxRecDepth 100000
set_option maxHeartbeats 4000000
set_option cbv.maxSteps 3000000
namespace Go.Proofs.YtbnohmfapmeaaaaGreatDoor.AM
/- Small numbers as texts; lines of quarterings; conditions: none. -/
def numD (i : Nat) : ByteArray := ⟨(Lib.decDigits i).toArray⟩
noncomputable def e_l1NumV : Entry := pureE 134 fun H a => match a with
  | [.lit (.int .i64 _)] => some (.lit (.string ByteArray.empty), [H Prop fun _ => False])
  | _ => none
theorem eok_l1NumV : EntryOk Tryz.prog e_l1NumV := pureE_ok (by unfold isBody; kernel_rfl) (by
  intro a r ob e hob
  split at e
  · simp only [Option.some.injEq, Prod.mk.injEq] at e
    obtain ⟨rfl, rfl⟩ := e
    exact hob.1.elim
  · simp at e)
theorem numD_one {i : Nat} (h : i < 10) : numD i = ⟨⟨[UInt8.ofNat (48 + i)]⟩⟩ := by unfold numD; rw [Lib.decDigits_one h]
theorem numD_step {i : Nat} (h : ¬ i < 10) : numD i = numD (i / 10) ++ ⟨⟨[UInt8.ofNat (48 + i % 10)]⟩⟩ := by
  unfold numD
  rw [Lib.decDigits, dif_neg h]
  apply ByteArray.ext; apply Array.ext'
  simp
theorem dig_at {i : Nat} (h : i < 10) : ((⟨⟨[48, 49, 50, 51, 52, 53, 54, 55, 56, 57]⟩⟩ : ByteArray)).extract i (i + 1) = ⟨⟨[UInt8.ofNat (48 + i)]⟩⟩ := by
  have : ∀ i : Nat, i < 10 → ((⟨⟨[48, 49, 50, 51, 52, 53, 54, 55, 56, 57]⟩⟩ : ByteArray)).extract i (i + 1) = (⟨⟨[UInt8.ofNat (48 + i)]⟩⟩ : ByteArray) := by decide
  exact this i h
theorem numD_sz {i : Nat} (h : i < 100) : (numD i).size ≤ 2 := by
  by_cases h1 : i < 10
  · rw [numD_one h1]; exact Nat.le_succ 1
  · rw [numD_step h1, numD_one (by omega)]; exact Nat.le_refl 2
theorem c_l1NumA (x : Int) (h0 : 0 ≤ x ∧ x ≤ 9) : ConN Tryz.prog 134 [.lit (.int .i64 x)] [] 0 (.lit (.string (stdH ByteArray fun _ => numD (x).toNat))) [] [] := by
  have hB : Base Tryz.prog (tabΓ [e_l1NumV]) tab := base_of tabOk (ents_cons eok_l1NumV <| ents_nil)
  refine con_m (N := 25) hB (draw_ok hB mixed) Tryz.func134 rfl rfl (fun H => [.lit (.int .i64 x)]) (fun _ => []) 0 (fun H => .lit (.string (H ByteArray fun _ => numD (x).toNat))) (fun H => []) (fun _ => []) 200 (by simp) (fun x hx => ?_) (by simp [lk]) (by omega) (by simp) ?_
  · simp only [List.mem_cons, List.not_mem_nil, or_false] at hx
    rcases hx with rfl
    · exact .lit
  intro X hX hX0 H hH
  conv in Fin.chk _ _ => cbv
  try simp only [Plain_rowsA, Plain_rowsB, Plain_rowsC, Plain_rowsF, Plain_rowsG, Plain_rowsI, Plain_rowsS, Plain_rowsU, Fin.satC_ret, Fin.satC_br, Fin.satC_need, Fin.satC_again, AllP, and_true, true_and, upd, List.length_nil, List.length_cons, Nat.zero_add, if_true, ncast, zqe]
  subst hH
  simp only [stdH, decide_eq_true_eq, decide_eq_false_iff_not]
  have e1 : 0 ≤ x ∧ x ≤ 9 → IntKind.i64.wrap (x + 1) = x + 1 := fun h => wi (by omega) (by omega)
  have e2 : (x.tmod 10) = x % 10 := Int.tmod_eq_emod_of_nonneg (by omega)
  have e3 : (x.tdiv 10) = x / 10 := Int.tdiv_eq_ediv_of_nonneg (by omega)
  have e4 : IntKind.i64.wrap (x % 10 + 1) = x % 10 + 1 := wi (by omega) (by omega)
  have e5 : IntKind.i64.wrap (x / 10) = x / 10 := wi (by omega) (by omega)
  have e6 : ((⟨⟨[48, 49, 50, 51, 52, 53, 54, 55, 56, 57]⟩⟩ : ByteArray)).size = 10 := rfl
  have hx : (x % 10).toNat < 10 := by omega
  have e7 : (x % 10 + 1).toNat = (x % 10).toNat + 1 := by omega
  simp only [e2, e3, e4, e5, e6]
  simp only [loOf, hiOf, okB, e7, dig_at hx]
  refine ⟨fun h => ?_, fun h => ⟨fun h2 => ?_, fun h2 => ?_⟩⟩
  · omega
  · rw [e1 (by omega), show (x + 1).toNat = x.toNat + 1 by omega, dig_at (by omega), numD_one (by omega)]
    exact ⟨⟨by omega, by omega, by omega, by omega⟩, rfl⟩
  · omega
noncomputable def e_l1NumA : Entry := pureE 134 fun H a => match a with
  | [.lit (.int .i64 x)] => some (.lit (.string (H ByteArray fun _ => numD (x).toNat)), [H Prop fun _ => 0 ≤ x ∧ x ≤ 9])
  | _ => none
theorem eok_l1NumA : EntryOk Tryz.prog e_l1NumA := pureM_ok (by unfold isBody; kernel_rfl) (by
  intro a r ob e hob
  split at e
  · rename_i x
    simp only [Option.some.injEq, Prod.mk.injEq] at e
    obtain ⟨rfl, rfl⟩ := e
    exact ConN.args (.cons .rfl .nil) (c_l1NumA x hob.1)
  · simp at e)
theorem c_l1NumB (x : Int) (h0 : 0 ≤ x ∧ x ≤ 99) : ConN Tryz.prog 134 [.lit (.int .i64 x)] [] 0 (.lit (.string (stdH ByteArray fun _ => numD (x).toNat))) [] [] := by
  have hB : Base Tryz.prog (tabΓ [e_l1NumA]) tab := base_of tabOk (ents_cons eok_l1NumA <| ents_nil)
  refine con_m (N := 25) hB (draw_ok hB mixed) Tryz.func134 rfl rfl (fun H => [.lit (.int .i64 x)]) (fun _ => []) 0 (fun H => .lit (.string (H ByteArray fun _ => numD (x).toNat))) (fun H => []) (fun _ => []) 200 (by simp) (fun x hx => ?_) (by simp [lk]) (by omega) (by simp) ?_
  · simp only [List.mem_cons, List.not_mem_nil, or_false] at hx
    rcases hx with rfl
    · exact .lit
  intro X hX hX0 H hH
  conv in Fin.chk _ _ => cbv
  try simp only [Plain_rowsA, Plain_rowsB, Plain_rowsC, Plain_rowsF, Plain_rowsG, Plain_rowsI, Plain_rowsS, Plain_rowsU, Fin.satC_ret, Fin.satC_br, Fin.satC_need, Fin.satC_again, AllP, and_true, true_and, upd, List.length_nil, List.length_cons, Nat.zero_add, if_true, ncast, zqe]
  subst hH
  simp only [stdH, decide_eq_true_eq, decide_eq_false_iff_not]
  have e1 : 0 ≤ x ∧ x ≤ 9 → IntKind.i64.wrap (x + 1) = x + 1 := fun h => wi (by omega) (by omega)
  have e2 : (x.tmod 10) = x % 10 := Int.tmod_eq_emod_of_nonneg (by omega)
  have e3 : (x.tdiv 10) = x / 10 := Int.tdiv_eq_ediv_of_nonneg (by omega)
  have e4 : IntKind.i64.wrap (x % 10 + 1) = x % 10 + 1 := wi (by omega) (by omega)
  have e5 : IntKind.i64.wrap (x / 10) = x / 10 := wi (by omega) (by omega)
  have e6 : ((⟨⟨[48, 49, 50, 51, 52, 53, 54, 55, 56, 57]⟩⟩ : ByteArray)).size = 10 := rfl
  have hx : (x % 10).toNat < 10 := by omega
  have e7 : (x % 10 + 1).toNat = (x % 10).toNat + 1 := by omega
  simp only [e2, e3, e4, e5, e6]
  simp only [loOf, hiOf, okB, e7, dig_at hx]
  refine ⟨fun h => ?_, fun h => ⟨fun h2 => ?_, fun h2 => ?_⟩⟩
  · omega
  · rw [e1 (by omega), show (x + 1).toNat = x.toNat + 1 by omega, dig_at (by omega), numD_one (by omega)]
    exact ⟨⟨by omega, by omega, by omega, by omega⟩, rfl⟩
  · have s1 := numD_sz (i := (x / 10).toNat) (by omega)
    refine ⟨by omega, by omega, by omega, by omega, ⟨by omega, by omega, by omega, by omega⟩, ?_, ?_⟩
    · show _ + 1 ≤ _
      omega
    · rw [numD_step (by omega), show (x / 10).toNat = x.toNat / 10 by omega, show (x % 10).toNat = x.toNat % 10 by omega]
noncomputable def e_l1NumB : Entry := pureE 134 fun H a => match a with
  | [.lit (.int .i64 x)] => some (.lit (.string (H ByteArray fun _ => numD (x).toNat)), [H Prop fun _ => 0 ≤ x ∧ x ≤ 99])
  | _ => none
theorem eok_l1NumB : EntryOk Tryz.prog e_l1NumB := pureM_ok (by unfold isBody; kernel_rfl) (by
  intro a r ob e hob
  split at e
  · rename_i x
    simp only [Option.some.injEq, Prod.mk.injEq] at e
    obtain ⟨rfl, rfl⟩ := e
    exact ConN.args (.cons .rfl .nil) (c_l1NumB x hob.1)
  · simp at e)
end Go.Proofs.YtbnohmfapmeaaaaGreatDoor.AM

