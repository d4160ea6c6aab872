/- Lemmas and contracts (Num Spl Mot); conditions: none. -/
import Derived.Test.YtbnohmfapmeaaaaGreatDoorK03
import Derived.Test.YtbnohmfapmeaaaaGreatDoorK10
import Derived.Test.YtbnohmfapmeaaaaGreatDoorK16
import Derived.Shelf.Strings.SlTrimAscii
set_option linter.unusedVariables false
set_option linter.unusedSimpArgs false
set_option maxRecDepth 100000
set_option maxHeartbeats 4000000
set_option cbv.maxSteps 3000000
namespace Go.Proofs.YtbnohmfapmeaaaaGreatDoor.AM
/- Numbers as texts; marks of texts; conditions: none. -/
theorem beqT (s t : ByteArray) : (s.toList == t.toList) = decide (s = t) := by
  rw [Bool.eq_iff_iff, beq_iff_eq, decide_eq_true_eq, ByteArray.toList_eq, ByteArray.toList_eq]
  exact ⟨fun h => ByteArray.ext (Array.ext' h), fun h => by rw [h]⟩
theorem size_byteT (a : Int) : (byteT a).size = 1 := by unfold byteT; rfl
theorem bszN (l : List UInt8) : (ByteArray.mk (Array.mk l)).size = l.length := rfl
def digs : Nat → Nat → ByteArray → ByteArray
  | 0, _, o => o
  | f + 1, k, o => if k = 0 then o else digs f (k / 10) (byteT (48 + (k % 10 : Nat)) ++ o)
theorem digs_fuel : ∀ (f g k : Nat) (o : ByteArray), k ≤ f → k ≤ g → digs f k o = digs g k o := by
  intro f
  induction f with
  | zero => intro g k o h _; obtain rfl : k = 0 := by omega
            cases g <;> simp [digs]
  | succ f ih =>
    intro g k o h1 h2
    by_cases hk : k = 0
    · subst hk; cases g <;> simp [digs]
    · cases g with
      | zero => omega
      | succ g =>
        unfold digs
        rw [if_neg hk, if_neg hk]
        exact ih g (k / 10) _ (by omega) (by omega)
theorem digs_step {k : Nat} {o : ByteArray} (h : k ≠ 0) : digs k k o = digs (k / 10) (k / 10) (byteT (48 + (k % 10 : Nat)) ++ o) := by
  cases k with
  | zero => exact absurd rfl h
  | succ k =>
    conv => lhs; unfold digs
    rw [if_neg h]
    exact digs_fuel _ _ _ _ (by omega) (Nat.le_refl _)
/-- The mark of a number. -/
def markT (k : Int) : ByteArray := if k ≤ 0 then (⟨⟨[109, 48]⟩⟩ : ByteArray) else (⟨⟨[109]⟩⟩ : ByteArray) ++ digs k.toNat k.toNat ByteArray.empty
theorem c_markText (k : Int) (h0 : k ≤ 1000000000) : ConN Tryz.prog 163 [.lit (.int .i64 k)] [] 0 (.lit (.string (stdH ByteArray fun _ => markT k))) [] [] := by
  have hB : Base Tryz.prog (tabΓ []) tab := base_of tabOk (ents_nil)
  refine con_m (N := 20) hB (draw_ok hB mixed) Tryz.func163 rfl rfl (fun H => [.lit (.int .i64 k)]) (fun _ => []) 0 (fun H => .lit (.string (H ByteArray fun _ => markT k))) (fun H => []) (fun _ => []) 200 (by simp) (fun x hx => ?_) (by simp [lk]) (by omega) (by simp) ?_
  · simp only [List.mem_cons, List.not_mem_nil, or_false] at hx
    rcases hx with rfl
    · exact .lit
  intro X hX hX0 H hH
  conv in Fin.chk _ _ => cbv
  try simp only [Plain_rowsA, Plain_rowsB, Plain_rowsF, Plain_rowsG, Plain_rowsI, Plain_rowsS, Plain_rowsU, Fin.satC_ret, Fin.satC_br, Fin.satC_need, Fin.satC_again, AllP, and_true, true_and, upd, List.length_nil, List.length_cons, Nat.zero_add, if_true, ncast, Int.ofNat_eq_natCast]
  refine ⟨fun h => ?_, fun h => ?_⟩
  · simp only [hH, stdH, Nat.le_refl, decide_eq_true_eq, decide_eq_false_iff_not, Bool.not_eq_true', Bool.not_eq_false', peta, ncast, Int.ofNat_eq_natCast, beq_iff_eq, bne_iff_ne, beq_eq_false_iff_ne, bne_eq_false_iff_eq, ne_eq, Classical.not_not, Int.toNat_natCast, vrow_I, Arm.eta2, Fld.eta, Grp.eta] at h ⊢
    unfold markT; rw [if_pos h]
  simp only [hH, stdH, Nat.le_refl, decide_eq_true_eq, decide_eq_false_iff_not, Bool.not_eq_true', Bool.not_eq_false', peta, ncast, Int.ofNat_eq_natCast, beq_iff_eq, bne_iff_ne, beq_eq_false_iff_ne, bne_eq_false_iff_eq, ne_eq, Classical.not_not, Int.toNat_natCast, vrow_I, Arm.eta2, Fld.eta, Grp.eta] at h
  refine loop_a hB (draw_ok hB mixed) hX hX0 hH false (ι := { x : Nat × ByteArray // x.2.size + x.1 ≤ k.toNat ∧ digs k.toNat k.toNat ByteArray.empty = digs x.1 x.1 x.2 }) 200 (fun x => [.i (H Int fun _ => (x.1.1 : Nat)), .s (H ByteArray fun _ => x.1.2)]) (fun x => x.1.1) (⟨(k.toNat, ByteArray.empty), Nat.le_of_eq (Nat.zero_add _), rfl⟩) ?_ ?_
  · (conv in matchSt _ _ _ _ => cbv); simp only [AllG, AllP, and_true, hH, stdH, Nat.le_refl, ncast, Int.ofNat_eq_natCast, vrow_I, Arm.eta2, Fld.eta, Grp.eta]
    (repeat' (first | with_reducible exact True.intro | rfl | omega | refine And.intro ?_ ?_ | trivial))
  · intro I hI i
    conv in Fin.chk _ _ => cbv
    try simp only [Plain_rowsA, Plain_rowsB, Plain_rowsF, Plain_rowsG, Plain_rowsI, Plain_rowsS, Plain_rowsU, Fin.satC_ret, Fin.satC_br, Fin.satC_need, Fin.satC_again, AllP, and_true, true_and, upd, List.length_nil, List.length_cons, Nat.zero_add, if_true, ncast, Int.ofNat_eq_natCast]
    obtain ⟨⟨x, o⟩, hz, hd⟩ := i
    dsimp only at hz hd
    refine ⟨fun h1 => ⟨?_, ?_, ?_, ?_⟩, fun h1 => ⟨?_, ?_⟩⟩
    · try simp only [hH, stdH, Nat.le_refl, decide_eq_true_eq, decide_eq_false_iff_not, Bool.not_eq_true', Bool.not_eq_false', peta, ncast, Int.ofNat_eq_natCast, beq_iff_eq, bne_iff_ne, beq_eq_false_iff_ne, bne_eq_false_iff_eq, ne_eq, Classical.not_not, Int.toNat_natCast, vrow_I, Arm.eta2, Fld.eta, Grp.eta]
      first | trivial | omega
    · try simp only [hH, stdH, Nat.le_refl, decide_eq_true_eq, decide_eq_false_iff_not, Bool.not_eq_true', Bool.not_eq_false', peta, ncast, Int.ofNat_eq_natCast, beq_iff_eq, bne_iff_ne, beq_eq_false_iff_ne, bne_eq_false_iff_eq, ne_eq, Classical.not_not, Int.toNat_natCast, vrow_I, Arm.eta2, Fld.eta, Grp.eta]
      rw [size_byteT]; omega
    · try simp only [hH, stdH, Nat.le_refl, decide_eq_true_eq, decide_eq_false_iff_not, Bool.not_eq_true', Bool.not_eq_false', peta, ncast, Int.ofNat_eq_natCast, beq_iff_eq, bne_iff_ne, beq_eq_false_iff_ne, bne_eq_false_iff_eq, ne_eq, Classical.not_not, Int.toNat_natCast, vrow_I, Arm.eta2, Fld.eta, Grp.eta]
      first | trivial | omega
    · simp only [hH, stdH, Nat.le_refl, decide_eq_true_eq, decide_eq_false_iff_not, Bool.not_eq_true', Bool.not_eq_false', peta, ncast, Int.ofNat_eq_natCast, beq_iff_eq, bne_iff_ne, beq_eq_false_iff_ne, bne_eq_false_iff_eq, ne_eq, Classical.not_not, Int.toNat_natCast, vrow_I, Arm.eta2, Fld.eta, Grp.eta] at h1
      have h1 : 0 < x := by omega
      refine ⟨⟨(x / 10, byteT (48 + (x % 10 : Nat)) ++ o), ?_, ?_⟩, ?_, ?_⟩
      · simp only [ByteArray.size_append, size_byteT]
        omega
      · simp only
        rw [hd, digs_step (by omega)]
      · simp only
        omega
      · rw [hI]
        (conv in matchSt _ _ _ _ => cbv); simp only [AllG, AllP, and_true, hH, stdH, Nat.le_refl, ncast, Int.ofNat_eq_natCast, vrow_I, Arm.eta2, Fld.eta, Grp.eta]
        have e1 : (x : Int).tmod 10 = ((x % 10 : Nat) : Int) := by rw [Int.tmod_eq_emod_of_nonneg (by omega)]; omega
        have e2 : (x : Int).tdiv 10 = ((x / 10 : Nat) : Int) := by rw [Int.tdiv_eq_ediv_of_nonneg (by omega)]; omega
        have e3 : IntKind.i64.wrap ((48 : Int) + ((x % 10 : Nat) : Int)) = 48 + ((x % 10 : Nat) : Int) := wi (by omega) (by omega)
        have e4 : IntKind.u8.wrap ((48 : Int) + ((x % 10 : Nat) : Int)) = 48 + ((x % 10 : Nat) : Int) := by
          have : IntKind.u8.wrap ((48 : Int) + ((x % 10 : Nat) : Int)) = ((48 : Int) + ((x % 10 : Nat) : Int)) % 256 := rfl
          rw [this]; omega
        have e5 : IntKind.i64.wrap (((x / 10 : Nat) : Int)) = ((x / 10 : Nat) : Int) := wi (by omega) (by omega)
        rw [e1, e2, e3, e4, e5]
        (repeat' (first | with_reducible exact True.intro | rfl | refine And.intro ?_ ?_ | trivial))
    · try simp only [hH, stdH, Nat.le_refl, decide_eq_true_eq, decide_eq_false_iff_not, Bool.not_eq_true', Bool.not_eq_false', peta, ncast, Int.ofNat_eq_natCast, beq_iff_eq, bne_iff_ne, beq_eq_false_iff_ne, bne_eq_false_iff_eq, ne_eq, Classical.not_not, Int.toNat_natCast, vrow_I, Arm.eta2, Fld.eta, Grp.eta]
      simp only [bszN, List.length_cons, List.length_nil]; omega
    · simp only [hH, stdH, Nat.le_refl, decide_eq_true_eq, decide_eq_false_iff_not, Bool.not_eq_true', Bool.not_eq_false', peta, ncast, Int.ofNat_eq_natCast, beq_iff_eq, bne_iff_ne, beq_eq_false_iff_ne, bne_eq_false_iff_eq, ne_eq, Classical.not_not, Int.toNat_natCast, vrow_I, Arm.eta2, Fld.eta, Grp.eta] at h1 ⊢
      obtain rfl : x = 0 := by omega
      unfold markT
      rw [if_neg (by omega), hd]
      rfl
noncomputable def e_markText : Entry := pureE 163 fun H a => match a with
  | [.lit (.int .i64 k)] => some (.lit (.string (H ByteArray fun _ => markT k)), [H Prop fun _ => k ≤ 1000000000])
  | _ => none
theorem eok_markText : EntryOk Tryz.prog e_markText := pureM_ok (by unfold isBody; kernel_rfl) (by
  intro a r ob e hob
  split at e
  · rename_i k
    simp only [Option.some.injEq, Prod.mk.injEq] at e
    obtain ⟨rfl, rfl⟩ := e
    exact ConN.args (.cons .rfl .nil) (c_markText k hob.1)
  · simp at e)
theorem TlS' (L : List ByteArray) : Tl rowS L.length (rowsS stdH fun _ => L) = L := Tl_rowsT okS L
theorem ShpS' (n : Nat) (L : List ByteArray) : Shp rowS n (rowsS stdH fun _ => L) := Shp_rowsT okS n (fun _ => L)
end Go.Proofs.YtbnohmfapmeaaaaGreatDoor.AM

set_option linter.unusedVariables false
set_option linter.unusedSimpArgs false
set_option maxRecDepth 100000
set_option maxHeartbeats 4000000
set_option cbv.maxSteps 3000000
namespace Go.Proofs.YtbnohmfapmeaaaaGreatDoor.AM
/- Texts parted at spaces; conditions: none. -/
def spl : List UInt8 → List (List UInt8)
  | [] => [[]]
  | b :: l => if b = 32 then [] :: spl l else match spl l with
    | [] => [[b]]
    | w :: ws => (b :: w) :: ws
theorem spl_cons (b : UInt8) (l : List UInt8) : spl (b :: l) = if b = 32 then [] :: spl l else match spl l with
    | [] => [[b]]
    | w :: ws => (b :: w) :: ws := rfl
theorem spl_ne : ∀ l, spl l ≠ []
  | [] => by simp [spl]
  | b :: l => by unfold spl; split; · simp
                 · split <;> simp
theorem spl_no : ∀ {l : List UInt8}, (∀ b ∈ l, b ≠ 32) → spl l = [l]
  | [], _ => rfl
  | b :: l, h => by
    unfold spl
    rw [if_neg (h b (by simp)), spl_no fun c hc => h c (by simp [hc])]
theorem spl_at : ∀ {l : List UInt8} {i : Nat}, l[i]? = some 32 → (∀ j, j < i → l[j]? ≠ some 32) → spl l = l.take i :: spl (l.drop (i + 1))
  | [], i, h, _ => by simp at h
  | b :: l, 0, h, _ => by
    simp at h; subst h
    rw [spl_cons, if_pos rfl]; rfl
  | b :: l, i + 1, h, hj => by
    have hb : b ≠ 32 := by have := hj 0 (by omega); simpa using this
    have ih := spl_at (l := l) (i := i) (by simpa using h) (fun j q => by have := hj (j + 1) (by omega); simpa using this)
    rw [spl_cons, if_neg hb, ih]
    rfl
theorem index_at : ∀ (l : List UInt8) (i : Nat), l[i]? = some 32 → (∀ j, j < i → l[j]? ≠ some 32) → Lib.index l [32] = (i : Nat)
  | [], i, h, _ => by simp at h
  | b :: l, 0, h, _ => by
    simp at h; subst h
    unfold Lib.index; rfl
  | b :: l, i + 1, h, hj => by
    have hb : b ≠ 32 := by have := hj 0 (by omega); simpa using this
    have ih := index_at l i (by simpa using h) (fun j q => by have := hj (j + 1) (by omega); simpa using this)
    unfold Lib.index
    have e1 : List.isPrefixOf [32] (b :: l) = false := by simp [List.isPrefixOf]; exact fun e => hb e.symm
    rw [e1, ih]
    have e2 : ((i : Int) == -1) = false := by rw [beq_eq_false_iff_ne]; omega
    rw [e2]; rfl
theorem first_32 : ∀ l : List UInt8, (∀ b ∈ l, b ≠ 32) ∨ ∃ i : Nat, l[i]? = some 32 ∧ ∀ j, j < i → l[j]? ≠ some 32
  | [] => .inl (by simp)
  | b :: l => by
    by_cases hb : b = 32
    · exact .inr ⟨0, by simp [hb], by omega⟩
    · rcases first_32 l with h | ⟨i, h1, h2⟩
      · exact .inl (by simp [hb]; exact fun a ha => h a ha)
      · refine .inr ⟨i + 1, by simpa using h1, fun j hj => ?_⟩
        cases j with
        | zero => simpa using hb
        | succ j => simpa using h2 j (by omega)
theorem index_no : ∀ {l : List UInt8}, (∀ b ∈ l, b ≠ 32) → Lib.index l [32] = -1
  | [], _ => rfl
  | b :: l, h => by
    unfold Lib.index
    have hb := h b (by simp)
    have e1 : List.isPrefixOf [32] (b :: l) = false := by simp [List.isPrefixOf]; exact fun e => hb e.symm
    rw [e1, index_no fun c hc => h c (by simp [hc])]
    rfl
def spB : ByteArray := (⟨⟨[32]⟩⟩ : ByteArray)
def ofL (l : List UInt8) : ByteArray := ⟨⟨l⟩⟩
def wordsB (s : ByteArray) : List ByteArray := (spl s.data.toList).map ofL
theorem split_eq : ∀ (n : Nat) (s : ByteArray), s.size ≤ n → Lib.splitB spB 0 (Lib.countB s spB) s = wordsB s := by
  intro n
  induction n with
  | zero =>
    intro s hs
    have e : s.data.toList = [] := List.eq_nil_of_length_eq_zero (by have : s.data.toList.length = s.size := rfl; omega)
    have hm : Lib.indexB s spB = -1 := by show Lib.index s.data.toList [32] = -1; rw [e]; rfl
    rw [Lib.splitB_miss _ _ _ _ hm]
    unfold wordsB
    rw [e]
    show [s] = [ofL []]
    congr 1
    exact ByteArray.ext (Array.ext' e)
  | succ n ih =>
    intro s hs
    rcases first_32 s.data.toList with h | ⟨i, h1, h2⟩
    · have hm : Lib.indexB s spB = -1 := index_no h
      rw [Lib.splitB_miss _ _ _ _ hm]
      unfold wordsB
      rw [spl_no h]
      rfl
    · have hi : Lib.indexB s spB = (i : Nat) := index_at _ _ h1 h2
      have hlt : i < s.size := (List.getElem?_eq_some_iff.1 h1).1
      rw [Lib.countB_hit s spB i (by decide) hi, Nat.add_comm, Lib.splitB_hit _ _ _ _ _ hi, ih _ (by rw [ByteArray.size_extract]; show min s.size s.size - (i + 1) ≤ n; omega)]
      unfold wordsB
      rw [spl_at h1 h2, List.map_cons]
      congr 1
      · apply ByteArray.ext; apply Array.ext'; simp [ofL]
      · congr 2
        show (s.extract (i + 1) s.size).data.toList = _
        have : s.data.toList.length = s.size := rfl
        simp
        rw [List.take_of_length_le (by simp)]
theorem words_len (s : ByteArray) : (wordsB s).length ≤ s.size + 1 := by
  have : ∀ l : List UInt8, (spl l).length ≤ l.length + 1 := fun l => by
    induction l with
    | nil => simp [spl]
    | cons b l ih =>
      unfold spl
      split
      · simp; omega
      · split
        · simp
        · rename_i w ws e; rw [e] at ih; simp at ih ⊢; omega
  unfold wordsB; rw [List.length_map]
  exact this s.data.toList
theorem c_split (s : ByteArray) (h0 : s.size < 4294967281) : Con Tryz.prog 61 [.lit (.string s), .lit (.string spB)] [] (.vec 1 (wordsB s).length (rowsS stdH fun _ => wordsB s)) [] :=
  con_texts (l := [.string s, .string spB]) (by have := words_len s; unfold maxLen; omega) fun w hw => (Tryz.strings_Split_shaped s spB w hw h0 (by decide)).mono fun e w' ⟨h1, h2⟩ => by
    have e1 := Lib.splitB_all spB (by decide) 0 _ s rfl
    rw [split_eq s.size s (Nat.le_refl _)] at h2 e1
    rw [e1]
    exact ⟨h1, h2⟩
noncomputable def e_split : Entry := pureE 61 fun H a => match a with
  | [.lit (.string s), .lit (.string p)] => some (.vec 1 (H Nat fun _ => (wordsB s).length) (rowsS H fun _ => wordsB s), [H Prop fun _ => s.size < 4294967281, H Prop fun _ => p = spB])
  | _ => none
theorem eok_split : EntryOk Tryz.prog e_split := pureE_ok (by unfold isBody; kernel_rfl) (by
  intro a r ob e hob
  split at e
  · simp only [Option.some.injEq, Prod.mk.injEq] at e
    obtain ⟨rfl, rfl⟩ := e
    obtain ⟨h0, h1, _⟩ := hob
    subst h1
    exact c_split _ h0
  · simp at e)
theorem sByte_at {s : ByteArray} {i : Nat} (hi : i < s.size) : ∃ b : UInt8, s.data.toList[i]? = some b ∧ sByte s i = (b.toNat : Nat) := by
  have hl : i < s.data.toList.length := hi
  exact ⟨s.data.toList[i], List.getElem?_eq_getElem hl, by unfold sByte; rw [List.getD_eq_getElem?_getD, List.getElem?_eq_getElem hl]; rfl⟩
theorem sByte_32 {s : ByteArray} {i : Nat} (hi : i < s.size) : sByte s i = 32 ↔ s.data.toList[i]? = some 32 := by
  obtain ⟨b, h1, h2⟩ := sByte_at hi
  rw [h1, h2, Option.some.injEq]
  constructor
  · intro h
    exact UInt8.toNat_inj.1 (by have : (32 : UInt8).toNat = 32 := rfl; omega)
  · intro h; rw [h]; rfl
theorem RowsEq.snocS {L : List ByteArray} {x y : ByteArray} (e : y = x) : RowsEq 1 (L ++ [x]).length (rowsS stdH fun _ => L ++ [x]) (L.length + 1) (app L.length (rowsS stdH fun _ => L) (rowsS stdH fun _ => [y])) := by
  subst e
  exact RowsEq.more okS (Shp_rowsT okS 1 fun _ => [y]) (Tl_rowsT okS [y])

end Go.Proofs.YtbnohmfapmeaaaaGreatDoor.AM

set_option linter.unusedVariables false
set_option linter.unusedSimpArgs false
set_option maxRecDepth 100000
set_option maxHeartbeats 4000000
set_option cbv.maxSteps 3000000
namespace Go.Proofs.YtbnohmfapmeaaaaGreatDoor.AM
/- Mottoes; conditions: none. -/
theorem bif_or (a b : Bool) : (bif a then true else b) = (a || b) := by cases a <;> rfl
end Go.Proofs.YtbnohmfapmeaaaaGreatDoor.AM

