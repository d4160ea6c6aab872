/- Lemmas and contracts (Let Cut Apa Pre Fnd Fdp); conditions: none. -/
import Derived.Test.YtmkniipdkanbbaaGreatDoorK04
import Derived.Test.YtmkniipdkanbbaaGreatDoorK05
import Derived.Test.YtmkniipdkanbbaaGreatDoorK10
import Derived.Test.YtmkniipdkanbbaaGreatDoorK16
set_option linter.unusedVariables false
set_option linter.unusedSimpArgs false
set_option maxRecDepth 100000
set_option maxHeartbeats 4000000
set_option cbv.maxSteps 3000000
namespace Go.Proofs.YtmkniipdkanbbaaGreatDoor.AM
/- Texts parted by the reference; initial letters; conditions: none. -/
theorem bszM (l : List UInt8) : (ByteArray.mk (Array.mk l)).size = l.length := rfl
end Go.Proofs.YtmkniipdkanbbaaGreatDoor.AM

set_option maxRecDepth 100000
set_option maxHeartbeats 4000000
set_option cbv.maxSteps 3000000
namespace Go.Proofs.YtmkniipdkanbbaaGreatDoor.AM
/- Texts cut where a word stands; conditions: none. -/
theorem pre_drop {l p : List UInt8} {i : Nat} : p.isPrefixOf (l.drop i) = true ↔ ∃ r, l.drop i = p ++ r := by
  rw [List.isPrefixOf_iff_prefix]
  exact ⟨fun ⟨r, h⟩ => ⟨r, h.symm⟩, fun ⟨r, h⟩ => ⟨r, h.symm⟩⟩
theorem index_first (p : List UInt8) : ∀ (l : List UInt8) (i : Nat), p.isPrefixOf (l.drop i) = true → i ≤ l.length → (∀ j, j < i → p.isPrefixOf (l.drop j) = false) → Lib.index l p = (i : Nat)
  | l, 0, h, _, _ => by
    cases l with
    | nil => unfold Lib.index; simp at h; simp [h]
    | cons b l => unfold Lib.index; rw [List.drop_zero] at h; rw [h]; rfl
  | [], i + 1, h, hl, hj => by simp at hl
  | b :: l, i + 1, h, hl, hj => by
    have ih := index_first p l i (by simpa using h) (by simpa using hl) (fun j q => by have := hj (j + 1) (by omega); simpa using this)
    have h0 := hj 0 (by omega)
    rw [List.drop_zero] at h0
    unfold Lib.index
    rw [h0, ih]
    have e2 : ((i : Int) == -1) = false := by rw [beq_eq_false_iff_ne]; omega
    rw [e2]; rfl
theorem index_none (p : List UInt8) (hp : p ≠ []) : ∀ (l : List UInt8), (∀ j, j ≤ l.length → p.isPrefixOf (l.drop j) = false) → Lib.index l p = -1
  | [], h => by
    have := h 0 (Nat.zero_le _)
    unfold Lib.index
    cases p with
    | nil => exact absurd rfl hp
    | cons a p => rfl
  | b :: l, h => by
    have ih := index_none p hp l (fun j q => by have := h (j + 1) (by simp; omega); simpa using this)
    have h0 := h 0 (Nat.zero_le _)
    rw [List.drop_zero] at h0
    unfold Lib.index
    rw [h0, ih]; rfl
def cutB (s p : ByteArray) : ByteArray × ByteArray × Bool := (⟨(Lib.cut s.data.toList p.data.toList).1.toArray⟩, ⟨(Lib.cut s.data.toList p.data.toList).2.1.toArray⟩, (Lib.cut s.data.toList p.data.toList).2.2)
def occ (s p : ByteArray) (i : Nat) : Bool := p.data.toList.isPrefixOf (s.data.toList.drop i)
theorem cutB_at {u p v : ByteArray} (h : ∀ i, i < u.size → occ (u ++ (p ++ v)) p i = false) : cutB (u ++ (p ++ v)) p = (u, v, true) := by
  have hl : u.size = u.data.toList.length := rfl
  have e : (u ++ (p ++ v)).data.toList = u.data.toList ++ (p.data.toList ++ v.data.toList) := by simp only [ByteArray.toList_data_append]
  have hi : Lib.index (u ++ (p ++ v)).data.toList p.data.toList = (u.size : Nat) := by
    refine index_first _ _ _ ?_ ?_ (fun j hj => h j hj)
    · rw [e, hl, List.drop_left, List.isPrefixOf_iff_prefix]; exact List.prefix_append _ _
    · rw [e, List.length_append]; omega
  unfold cutB Lib.cut
  rw [hi, if_pos (by omega)]
  simp only [Int.toNat_natCast]
  rw [e, hl, List.take_left, ← List.drop_drop, List.drop_left, List.drop_left]
theorem cutB_no {s p : ByteArray} (hp : p.data.toList ≠ []) (h : ∀ i, i ≤ s.size → occ s p i = false) : cutB s p = (s, ByteArray.empty, false) := by
  have hi : Lib.index s.data.toList p.data.toList = -1 := index_none _ hp _ (fun j hj => h j hj)
  unfold cutB Lib.cut
  rw [hi, if_neg (by omega)]
  rfl
theorem cutB_sz (s p : ByteArray) : (cutB s p).1.size ≤ s.size ∧ (cutB s p).2.1.size ≤ s.size := by
  unfold cutB Lib.cut
  split
  · exact ⟨by show (List.take _ _).length ≤ s.data.toList.length; rw [List.length_take]; omega, by show (List.drop _ _).length ≤ s.data.toList.length; rw [List.length_drop]; omega⟩
  · exact ⟨Nat.le_refl _, Nat.zero_le _⟩
def lacks (s : ByteArray) (b : UInt8) : Bool := s.data.toList.all fun c => c != b
theorem occ_lacks {u p v : ByteArray} {b : UInt8} {r : List UInt8} (hp : p.data.toList = b :: r) (hu : lacks u b = true) {i : Nat} (hi : i < u.size) : occ (u ++ v) p i = false := by
  rw [← Bool.not_eq_true]
  intro h
  unfold occ at h
  rw [pre_drop, ByteArray.toList_data_append] at h
  obtain ⟨q, h⟩ := h
  have hi' : i < u.data.toList.length := hi
  rw [List.drop_append_of_le_length (by omega), List.drop_eq_getElem_cons hi', hp] at h
  have h1 : u.data.toList[i] = b := by simpa using (List.cons.inj h).1
  have := List.all_eq_true.1 hu _ (List.getElem_mem hi')
  rw [h1] at this; simp at this
theorem occ_end {s p : ByteArray} (hp : p.data.toList ≠ []) : occ s p s.size = false := by
  rw [← Bool.not_eq_true]
  intro h
  unfold occ at h
  rw [pre_drop] at h
  obtain ⟨q, h⟩ := h
  have e : s.data.toList.drop s.size = [] := List.drop_eq_nil_iff.2 (Nat.le_refl _)
  rw [e] at h
  cases hq : p.data.toList with
  | nil => exact hp hq
  | cons a l => rw [hq] at h; cases h
theorem cutB_lacks {u p v : ByteArray} {b : UInt8} {r : List UInt8} (hp : p.data.toList = b :: r) (hu : lacks u b = true) : cutB (u ++ (p ++ v)) p = (u, v, true) := cutB_at fun _ hi => occ_lacks hp hu hi
theorem cutB_lacks' {s p : ByteArray} {b : UInt8} {r : List UInt8} (hp : p.data.toList = b :: r) (hu : lacks s b = true) : cutB s p = (s, ByteArray.empty, false) := cutB_no (by rw [hp]; simp) fun i hi => by
  rcases Nat.lt_or_eq_of_le hi with h | rfl
  · have := occ_lacks (v := ByteArray.empty) hp hu h
    rwa [app_empty] at this
  · exact occ_end (by rw [hp]; simp)
def spW (w z : ByteArray) : ByteArray := spB ++ (w ++ (spB ++ z))
theorem spW_l (w z : ByteArray) : (spW w z).data.toList = 32 :: (w.data.toList ++ 32 :: z.data.toList) := by
  unfold spW
  simp only [ByteArray.toList_data_append]; rfl
theorem spl_word {w : ByteArray} (h : nsp w = true) (l : List UInt8) : spl (w.data.toList ++ 32 :: l) = w.data.toList :: spl l := by
  rw [spl_app, spl_no fun b hb => by have := List.all_eq_true.1 h b hb; simpa using this]; rfl
theorem occ_word {s w z : ByteArray} (hw : nsp w = true) {i : Nat} (h : occ s (spW w z) i = true) : w ∈ wordsB s := by
  unfold occ at h
  rw [pre_drop, spW_l] at h
  obtain ⟨q, h⟩ := h
  have e : s.data.toList = s.data.toList.take i ++ 32 :: (w.data.toList ++ 32 :: (z.data.toList ++ q)) := by
    conv => lhs; rw [← List.take_append_drop i s.data.toList, h]
    simp
  unfold wordsB
  rw [e, spl_app, spl_word hw, List.map_append, List.map_cons]
  exact List.mem_append_right _ (List.mem_cons_self)
theorem occ_first {u w z v : ByteArray} (hw : nsp w = true) (hn : w ∉ wordsB u) {i : Nat} (hi : i < u.size) : occ (u ++ (spW w z ++ v)) (spW w z) i = false := by
  rw [← Bool.not_eq_true]
  intro h
  unfold occ at h
  rw [pre_drop, spW_l] at h
  obtain ⟨q, h⟩ := h
  have hi' : i < u.data.toList.length := hi
  simp only [ByteArray.toList_data_append, spW_l] at h
  rw [List.drop_append_of_le_length (by omega), List.drop_eq_getElem_cons hi'] at h
  simp only [List.cons_append, List.append_assoc, List.cons.injEq] at h
  obtain ⟨h1, h2⟩ := h
  have h3 := congrArg spl h2
  rw [spl_app, spl_word hw, spl_word hw] at h3
  have h4 : (spl (u.data.toList.drop (i + 1))).head? = some w.data.toList := by
    cases e : spl (u.data.toList.drop (i + 1)) with
    | nil => exact absurd e (spl_ne _)
    | cons a l => rw [e] at h3; exact congrArg some (List.cons.inj h3).1
  have h5 : u.data.toList = u.data.toList.take i ++ 32 :: u.data.toList.drop (i + 1) := by
    conv => lhs; rw [← List.take_append_drop i u.data.toList, List.drop_eq_getElem_cons hi', h1]
  refine hn ?_
  unfold wordsB
  rw [h5, spl_app, List.map_append]
  refine List.mem_append_right _ ?_
  cases e : spl (u.data.toList.drop (i + 1)) with
  | nil => exact absurd e (spl_ne _)
  | cons a l =>
    rw [e] at h4
    simp at h4
    subst h4
    exact List.mem_cons_self
theorem cutB_word {u w z v : ByteArray} (hw : nsp w = true) (hn : w ∉ wordsB u) : cutB (u ++ (spW w z ++ v)) (spW w z) = (u, v, true) := cutB_at fun _ hi => occ_first hw hn hi
theorem cutB_word' {s w z : ByteArray} (hw : nsp w = true) (hn : w ∉ wordsB s) : cutB s (spW w z) = (s, ByteArray.empty, false) := cutB_no (by rw [spW_l]; simp) fun i _ => by
  rw [← Bool.not_eq_true]; exact fun h => hn (occ_word hw h)
/-! ### Fields -/
theorem lacks_w {l : List ByteArray} {b : UInt8} (h : l.all (fun x => lacks x b) = true) (x : Int) : lacks (wordOf l x) b = true := by
  unfold wordOf
  rw [List.getD_eq_getElem?_getD]
  cases e : l[(x - 1).toNat]? with
  | none => rfl
  | some s => exact List.all_eq_true.1 h s (List.mem_of_getElem? e)
theorem lacks_app {a c : ByteArray} {b : UInt8} (ha : lacks a b = true) (hc : lacks c b = true) : lacks (a ++ c) b = true := by
  unfold lacks at *
  rw [ByteArray.toList_data_append, List.all_append, ha, hc]; rfl



end Go.Proofs.YtmkniipdkanbbaaGreatDoor.AM

set_option linter.unusedVariables false
set_option linter.unusedSimpArgs false
set_option maxRecDepth 100000
set_option maxHeartbeats 4000000
set_option cbv.maxSteps 3000000
namespace Go.Proofs.YtmkniipdkanbbaaGreatDoor.AM
/- Texts of which neither begins with the other; conditions: none. -/
def apart (a b : ByteArray) : Bool := !a.data.toList.isPrefixOf b.data.toList && !b.data.toList.isPrefixOf a.data.toList
theorem apart_ne {a b x y : ByteArray} (h : apart a b = true) : a ++ x ≠ b ++ y := by
  intro e
  have e' : a.data.toList ++ x.data.toList = b.data.toList ++ y.data.toList := by
    rw [← ByteArray.toList_data_append, ← ByteArray.toList_data_append, e]
  unfold apart at h
  simp only [Bool.and_eq_true, Bool.not_eq_true'] at h
  rcases Nat.le_total a.data.toList.length b.data.toList.length with hl | hl
  · have : a.data.toList <+: b.data.toList := List.prefix_of_prefix_length_le (List.prefix_append _ _) (by rw [e']; exact List.prefix_append _ _) hl
    rw [← List.isPrefixOf_iff_prefix, h.1] at this; cases this
  · have : b.data.toList <+: a.data.toList := List.prefix_of_prefix_length_le (List.prefix_append _ _) (by rw [← e']; exact List.prefix_append _ _) hl
    rw [← List.isPrefixOf_iff_prefix, h.2] at this; cases this
end Go.Proofs.YtmkniipdkanbbaaGreatDoor.AM

set_option maxRecDepth 100000
set_option maxHeartbeats 4000000
set_option cbv.maxSteps 3000000
namespace Go.Proofs.YtmkniipdkanbbaaGreatDoor.AM
/- Texts that begin with others; conditions: none. -/
theorem c_cutPre (s p : ByteArray) : Con Tryz.prog 119 [.lit (.string s), .lit (.string p)] [] (.tup [.lit (.string ⟨(Lib.trimPrefix s.data.toList p.data.toList).toArray⟩), .lit (.bool (Lib.hasPrefix s.data.toList p.data.toList))]) [] :=
  con_below (l := [.string s, .string p]) (fun _ => .tup (vs := [_, _]) rfl fun i x v hx hv => by
    rcases i with _ | _ | i <;> simp at hx hv <;> subst hx <;> subst hv
    · exact .lit rfl
    · exact .lit rfl) fun w _ => (Tryz.strings_CutPrefix s p w).mono fun e w' ⟨h1, h2⟩ => ⟨h1, by subst h2; exact .refl _ _⟩
def isPre (s p : ByteArray) : Bool := Lib.hasPrefix s.data.toList p.data.toList
def afterP (s p : ByteArray) : ByteArray := ⟨(Lib.trimPrefix s.data.toList p.data.toList).toArray⟩
noncomputable def e_cutPre : Entry := pureE 119 fun H a => match a with
  | [.lit (.string s), .lit (.string p)] => some (.tup [.lit (.string (H ByteArray fun _ => (afterP s p))), .lit (.bool (H Bool fun _ => (isPre s p)))], [])
  | _ => none
theorem eok_cutPre : EntryOk Tryz.prog e_cutPre := pureE_ok (by unfold isBody; kernel_rfl) (by
  intro a r ob e hob
  split at e
  · simp only [zqt] at e
    obtain ⟨rfl, rfl⟩ := e
    exact c_cutPre _ _
  · simp at e)
theorem afterP_sz (s p : ByteArray) : (afterP s p).size ≤ s.size := by
  unfold afterP Lib.trimPrefix
  show (List.length _) ≤ s.data.toList.length
  split
  · simp
  · exact Nat.le_refl _
theorem isPre_iff {s p : ByteArray} : isPre s p = true ↔ ∃ t, s = p ++ t := by
  unfold isPre Lib.hasPrefix
  rw [List.isPrefixOf_iff_prefix]
  constructor
  · rintro ⟨t, h⟩
    refine ⟨⟨⟨t⟩⟩, ?_⟩
    apply ByteArray.ext; apply Array.ext'
    rw [ByteArray.toList_data_append]; exact h.symm
  · rintro ⟨t, rfl⟩
    rw [ByteArray.toList_data_append]; exact List.prefix_append _ _
theorem isPre_app (p t : ByteArray) : isPre (p ++ t) p = true := isPre_iff.2 ⟨t, rfl⟩
theorem afterP_app (p t : ByteArray) : afterP (p ++ t) p = t := by
  have h := isPre_app p t
  unfold isPre at h
  unfold afterP Lib.trimPrefix
  rw [h, if_pos rfl]
  apply ByteArray.ext; apply Array.ext'
  rw [ByteArray.toList_data_append, List.drop_left]
end Go.Proofs.YtmkniipdkanbbaaGreatDoor.AM

set_option maxRecDepth 100000
set_option maxHeartbeats 4000000
set_option cbv.maxSteps 3000000
namespace Go.Proofs.YtmkniipdkanbbaaGreatDoor.AM
/- What a text stands for: the one thing with that text; conditions: none. -/
open Classical in
noncomputable def findO {α : Type} (ok : α → Bool) (T : α → ByteArray) (s : ByteArray) : Option α := if h : ∃ x, ok x = true ∧ T x = s then some h.choose else none
theorem findO_ok {α : Type} {ok : α → Bool} {T : α → ByteArray} {s : ByteArray} {x : α} (h : findO ok T s = some x) : ok x = true ∧ T x = s := by
  unfold findO at h
  split at h
  · rename_i q
    injection h with h; subst h; exact q.choose_spec
  · cases h
theorem findO_iff {α : Type} {ok : α → Bool} {T : α → ByteArray} (inj : ∀ x y, ok x = true → ok y = true → T x = T y → x = y) {s : ByteArray} {x : α} : findO ok T s = some x ↔ ok x = true ∧ T x = s := by
  refine ⟨findO_ok, fun h => ?_⟩
  have q : ∃ y, ok y = true ∧ T y = s := ⟨x, h⟩
  unfold findO
  rw [dif_pos q]
  exact congrArg some (inj _ _ q.choose_spec.1 h.1 (q.choose_spec.2.trans h.2.symm))
end Go.Proofs.YtmkniipdkanbbaaGreatDoor.AM

set_option maxRecDepth 100000
set_option maxHeartbeats 4000000
set_option cbv.maxSteps 3000000
namespace Go.Proofs.YtmkniipdkanbbaaGreatDoor.AM
/- Fields parsed; conditions: none. -/
def preI (l : List ByteArray) (s : ByteArray) : Int := idxF (fun w => isPre s (w ++ spB)) l
def aparts (l : List ByteArray) : Bool := (List.range l.length).all fun i => (List.range l.length).all fun j => decide (i = j) || apart (l.getD i ByteArray.empty ++ spB) (l.getD j ByteArray.empty ++ spB)
theorem preI_at {l : List ByteArray} (ha : aparts l = true) {x : Int} (h1 : 1 ≤ x) (h2 : x ≤ (l.length : Nat)) (t : ByteArray) : preI l (wordOf l x ++ (spB ++ t)) = x - 1 := by
  have ha' : ∀ i j, i < l.length → j < l.length → i ≠ j → apart (l.getD i ByteArray.empty ++ spB) (l.getD j ByteArray.empty ++ spB) = true := fun i j hi hj e => by
    unfold aparts at ha
    rw [List.all_eq_true] at ha
    have := ha i (List.mem_range.2 hi)
    rw [List.all_eq_true] at this
    have := this j (List.mem_range.2 hj)
    rw [decide_eq_false e] at this
    simpa using this
  unfold preI
  rw [idxF_at ByteArray.empty (i := (x - 1).toNat) (by omega)]
  · omega
  · show isPre _ (wordOf l x ++ spB) = true
    rw [← ByteArray.append_assoc]
    exact isPre_app _ _
  · intro j hj
    rw [← Bool.not_eq_true]
    intro h
    obtain ⟨q, h⟩ := isPre_iff.1 h
    rw [← ByteArray.append_assoc] at h
    exact apart_ne (ha' (x - 1).toNat j (by omega) (by omega) (by omega)) h
theorem preI_no {l : List ByteArray} {s : ByteArray} (h : ∀ i, i < l.length → isPre s (l.getD i ByteArray.empty ++ spB) = false) : preI l s = -1 := idxF_no ByteArray.empty h
def apartL (l : List ByteArray) (p : ByteArray) : Bool := l.all fun w => apart p (w ++ spB)
theorem preI_none {l : List ByteArray} {p t : ByteArray} (h : apartL l p = true) : preI l (p ++ t) = -1 := preI_no fun i hi => by
  rw [← Bool.not_eq_true]
  intro q
  obtain ⟨r, q⟩ := isPre_iff.1 q
  have : l.getD i ByteArray.empty ∈ l := getD_mem hi
  exact apart_ne (List.all_eq_true.1 h _ this) q
theorem preI_short {l : List ByteArray} {s : ByteArray} (h : lacks s 32 = true) : preI l s = -1 := preI_no fun i _ => by
  rw [← Bool.not_eq_true]
  intro q
  obtain ⟨r, rfl⟩ := isPre_iff.1 q
  unfold lacks at h
  rw [ByteArray.toList_data_append, ByteArray.toList_data_append] at h
  have := List.all_eq_true.1 h 32 (by
    refine List.mem_append_left _ (List.mem_append_right _ ?_)
    exact List.mem_cons_self)
  simp at this
def cutLn (s : ByteArray) : ByteArray × Int := if preI linL s < 0 then (s, 0) else (afterP s (wordOf linL (preI linL s + 1) ++ spB), preI linL s + 1)
def andB : ByteArray := (⟨⟨[32, 97, 110, 100, 32]⟩⟩ : ByteArray)
def candF0 (d : Int) (r : ByteArray × Int) : Fld := ⟨d, r.2, pT (cutB r.1 andB).1, pT (cutB r.1 andB).2.1⟩
def candF (s : ByteArray) : Fld := if preI divL s < 0 then candF0 0 (s, 0) else candF0 (preI divL s + 1) (cutLn (afterP s (wordOf divL (preI divL s + 1) ++ spB)))
theorem and_l : andB.data.toList = 32 :: [97, 110, 100, 32] := rfl
theorem pT_e : pT ByteArray.empty = 0 := by decide
theorem okF_b {f : Fld} (h : okF f = true) : (0 ≤ f.d ∧ f.d ≤ 7) ∧ (0 ≤ f.l ∧ f.l ≤ 4) ∧ (1 ≤ f.p ∧ f.p ≤ 9) ∧ (f.d = 0 → f.l = 0 ∧ f.q = 0) ∧ (f.d ≠ 0 → 1 ≤ f.q ∧ f.q ≤ 9) := by
  have hT := okF_T h
  refine ⟨hT.1, hT.2.1, hT.2.2.1, fun hd => ?_, hT.2.2.2⟩
  unfold okF at h
  rw [if_pos hd] at h
  simp only [Bool.and_eq_true, decide_eq_true_eq] at h
  exact h.2
theorem tin_apart_lin (x : Int) (hx : 1 ≤ x ∧ x ≤ 9) : apartL linL (wordOf tinL x ++ spB) = true := by
  have : ∀ i, i < 9 → apartL linL (wordOf tinL ((i + 1 : Nat)) ++ spB) = true := by decide
  have := this (x.toNat - 1) (by omega)
  rwa [show (((x.toNat - 1 + 1 : Nat)) : Int) = x by omega] at this
theorem cutLn_at {l x : Int} (hl : 0 ≤ l ∧ l ≤ 4) (hx : 1 ≤ x ∧ x ≤ 9) (t : ByteArray) : cutLn (if l = 0 then wordOf tinL x ++ (spB ++ t) else wordOf linL l ++ (spB ++ (wordOf tinL x ++ (spB ++ t)))) = (wordOf tinL x ++ (spB ++ t), l) := by
  unfold cutLn
  by_cases h : l = 0
  · rw [if_pos h, ← ByteArray.append_assoc, preI_none (tin_apart_lin x hx), if_pos (by decide), h]
  · rw [if_neg h, preI_at (l := linL) (by decide) (by omega) (show l ≤ ((4 : Nat) : Int) by omega), if_neg (by omega), show l - 1 + 1 = l by omega]
    rw [← ByteArray.append_assoc (a := wordOf linL l), afterP_app]
theorem candF_at {f : Fld} (h : okF f = true) : candF (fldT f) = f := by
  obtain ⟨hd, hl, hp, h0, h1⟩ := okF_b h
  obtain ⟨d, l, p, q⟩ := f
  simp only at hd hl hp h0 h1
  by_cases hz : d = 0
  · obtain ⟨rfl, rfl⟩ := h0 hz
    subst hz
    have e : fldT ⟨0, 0, p, 0⟩ = wordOf tinL p := fldT_y rfl
    rw [e]
    unfold candF
    rw [preI_short (nsp_tin p), if_pos (by decide)]
    unfold candF0
    rw [cutB_lacks' and_l (nsp_tin p)]
    simp only [pT_w hp, pT_e]
  · have hq := h1 hz
    have e : fldT ⟨d, l, p, q⟩ = wordOf divL d ++ (spB ++ (if l = 0 then wordOf tinL p ++ (spB ++ ((⟨⟨[97, 110, 100, 32]⟩⟩ : ByteArray) ++ wordOf tinL q)) else wordOf linL l ++ (spB ++ (wordOf tinL p ++ (spB ++ ((⟨⟨[97, 110, 100, 32]⟩⟩ : ByteArray) ++ wordOf tinL q)))))) := by
      rw [fldT_n hz]
      have ea : (⟨⟨[32, 97, 110, 100, 32]⟩⟩ : ByteArray) ++ wordOf tinL q = spB ++ ((⟨⟨[97, 110, 100, 32]⟩⟩ : ByteArray) ++ wordOf tinL q) := by rw [← ByteArray.append_assoc]; rfl
      have es : (⟨⟨[32]⟩⟩ : ByteArray) = spB := rfl
      show wlT (wordOf divL d) l ++ ((⟨⟨[32]⟩⟩ : ByteArray) ++ (wordOf tinL p ++ ((⟨⟨[32, 97, 110, 100, 32]⟩⟩ : ByteArray) ++ wordOf tinL q))) = _
      rw [ea, es]
      by_cases hl0 : l = 0
      · rw [wlT_y hl0, if_pos hl0]
      · rw [wlT_n hl0, if_neg hl0, es]
        simp only [ByteArray.append_assoc]
    rw [e]
    unfold candF
    rw [preI_at (l := divL) (by decide) (by omega) (show d ≤ ((7 : Nat) : Int) by omega), if_neg (by omega), show d - 1 + 1 = d by omega]
    rw [← ByteArray.append_assoc (a := wordOf divL d), afterP_app, cutLn_at hl hp]
    unfold candF0
    have ea : wordOf tinL p ++ (spB ++ ((⟨⟨[97, 110, 100, 32]⟩⟩ : ByteArray) ++ wordOf tinL q)) = wordOf tinL p ++ (andB ++ wordOf tinL q) := by
      rw [← ByteArray.append_assoc (a := spB)]; rfl
    rw [ea, cutB_lacks and_l (nsp_tin p)]
    simp only [pT_w hp, pT_w hq]
theorem fldT_inj : ∀ f g : Fld, okF f = true → okF g = true → fldT f = fldT g → f = g := fun f g hf hg e => by
  rw [← candF_at hf, e, candF_at hg]
noncomputable def pF (s : ByteArray) : Option Fld := findO okF fldT s
theorem pF_iff {s : ByteArray} {f : Fld} : pF s = some f ↔ okF f = true ∧ fldT f = s := findO_iff fldT_inj
def zF : Fld := ⟨0, 0, 0, 0⟩
theorem pF_cand (s : ByteArray) : pF s = if okF (candF s) = true ∧ fldT (candF s) = s then some (candF s) else none := by
  by_cases h : okF (candF s) = true ∧ fldT (candF s) = s
  · rw [if_pos h]; exact pF_iff.2 h
  · rw [if_neg h]
    cases e : pF s with
    | none => rfl
    | some f =>
      have hf := pF_iff.1 e
      have hc : candF s = f := by rw [← hf.2]; exact candF_at hf.1
      exact absurd (by rw [hc]; exact hf) h

end Go.Proofs.YtmkniipdkanbbaaGreatDoor.AM

