/- Lemmas and contracts (Cut Spg Ltx Ito Ato Pre); conditions: none. -/
import Derived.Test.YtbnohmfapmeaaaaGreatDoorK03
import Derived.Test.YtbnohmfapmeaaaaGreatDoorK12
import Derived.Test.YtbnohmfapmeaaaaGreatDoorK22
import Derived.Test.YtbnohmfapmeaaaaGreatDoorK24
import Derived.Test.YtbnohmfapmeaaaaGreatDoorK26
import Derived.Test.YtbnohmfapmeaaaaGreatDoorK27
import Derived.Test.YtbnohmfapmeaaaaGreatDoorK28
import Derived.Test.YtbnohmfapmeaaaaGreatDoorK29
set_option linter.unusedVariables false
set_option linter.unusedSimpArgs false
set_option maxRecDepth 100000
set_option maxHeartbeats 4000000
set_option cbv.maxSteps 3000000
namespace Go.Proofs.YtbnohmfapmeaaaaGreatDoor.AM
/- Texts cut where a word stands; conditions: none. -/
theorem pre_drop {l p : List UInt8} {i : Nat} : p.isPrefixOf (l.drop i) = true ↔ ∃ r, l.drop i = p ++ r := by
  rw [List.isPrefixOf_iff_prefix]
  exact ⟨fun ⟨r, h⟩ => ⟨r, h.symm⟩, fun ⟨r, h⟩ => ⟨r, h.symm⟩⟩
theorem index_first (p : List UInt8) : ∀ (l : List UInt8) (i : Nat), p.isPrefixOf (l.drop i) = true → i ≤ l.length → (∀ j, j < i → p.isPrefixOf (l.drop j) = false) → Lib.index l p = (i : Nat)
  | l, 0, h, _, _ => by
    cases l with
    | nil => unfold Lib.index; simp at h; simp [h]
    | cons b l => unfold Lib.index; rw [List.drop_zero] at h; rw [h]; rfl
  | [], i + 1, h, hl, hj => by simp at hl
  | b :: l, i + 1, h, hl, hj => by
    have ih := index_first p l i (by simpa using h) (by simpa using hl) (fun j q => by have := hj (j + 1) (by omega); simpa using this)
    have h0 := hj 0 (by omega)
    rw [List.drop_zero] at h0
    unfold Lib.index
    rw [h0, ih]
    have e2 : ((i : Int) == -1) = false := by rw [beq_eq_false_iff_ne]; omega
    rw [e2]; rfl
theorem index_none (p : List UInt8) (hp : p ≠ []) : ∀ (l : List UInt8), (∀ j, j ≤ l.length → p.isPrefixOf (l.drop j) = false) → Lib.index l p = -1
  | [], h => by
    have := h 0 (Nat.zero_le _)
    unfold Lib.index
    cases p with
    | nil => exact absurd rfl hp
    | cons a p => rfl
  | b :: l, h => by
    have ih := index_none p hp l (fun j q => by have := h (j + 1) (by simp; omega); simpa using this)
    have h0 := h 0 (Nat.zero_le _)
    rw [List.drop_zero] at h0
    unfold Lib.index
    rw [h0, ih]; rfl
def cutB (s p : ByteArray) : ByteArray × ByteArray × Bool := (⟨(Lib.cut s.data.toList p.data.toList).1.toArray⟩, ⟨(Lib.cut s.data.toList p.data.toList).2.1.toArray⟩, (Lib.cut s.data.toList p.data.toList).2.2)
def occ (s p : ByteArray) (i : Nat) : Bool := p.data.toList.isPrefixOf (s.data.toList.drop i)
theorem cutB_at {u p v : ByteArray} (h : ∀ i, i < u.size → occ (u ++ (p ++ v)) p i = false) : cutB (u ++ (p ++ v)) p = (u, v, true) := by
  have hl : u.size = u.data.toList.length := rfl
  have e : (u ++ (p ++ v)).data.toList = u.data.toList ++ (p.data.toList ++ v.data.toList) := by simp only [ByteArray.toList_data_append]
  have hi : Lib.index (u ++ (p ++ v)).data.toList p.data.toList = (u.size : Nat) := by
    refine index_first _ _ _ ?_ ?_ (fun j hj => h j hj)
    · rw [e, hl, List.drop_left, List.isPrefixOf_iff_prefix]; exact List.prefix_append _ _
    · rw [e, List.length_append]; omega
  unfold cutB Lib.cut
  rw [hi, if_pos (by omega)]
  simp only [Int.toNat_natCast]
  rw [e, hl, List.take_left, ← List.drop_drop, List.drop_left, List.drop_left]
theorem cutB_no {s p : ByteArray} (hp : p.data.toList ≠ []) (h : ∀ i, i ≤ s.size → occ s p i = false) : cutB s p = (s, ByteArray.empty, false) := by
  have hi : Lib.index s.data.toList p.data.toList = -1 := index_none _ hp _ (fun j hj => h j hj)
  unfold cutB Lib.cut
  rw [hi, if_neg (by omega)]
  rfl
theorem cutB_sz (s p : ByteArray) : (cutB s p).1.size ≤ s.size ∧ (cutB s p).2.1.size ≤ s.size := by
  unfold cutB Lib.cut
  split
  · exact ⟨by show (List.take _ _).length ≤ s.data.toList.length; rw [List.length_take]; omega, by show (List.drop _ _).length ≤ s.data.toList.length; rw [List.length_drop]; omega⟩
  · exact ⟨Nat.le_refl _, Nat.zero_le _⟩
def lacks (s : ByteArray) (b : UInt8) : Bool := s.data.toList.all fun c => c != b
theorem occ_lacks {u p v : ByteArray} {b : UInt8} {r : List UInt8} (hp : p.data.toList = b :: r) (hu : lacks u b = true) {i : Nat} (hi : i < u.size) : occ (u ++ v) p i = false := by
  rw [← Bool.not_eq_true]
  intro h
  unfold occ at h
  rw [pre_drop, ByteArray.toList_data_append] at h
  obtain ⟨q, h⟩ := h
  have hi' : i < u.data.toList.length := hi
  rw [List.drop_append_of_le_length (by omega), List.drop_eq_getElem_cons hi', hp] at h
  have h1 : u.data.toList[i] = b := by simpa using (List.cons.inj h).1
  have := List.all_eq_true.1 hu _ (List.getElem_mem hi')
  rw [h1] at this; simp at this
theorem occ_end {s p : ByteArray} (hp : p.data.toList ≠ []) : occ s p s.size = false := by
  rw [← Bool.not_eq_true]
  intro h
  unfold occ at h
  rw [pre_drop] at h
  obtain ⟨q, h⟩ := h
  have e : s.data.toList.drop s.size = [] := List.drop_eq_nil_iff.2 (Nat.le_refl _)
  rw [e] at h
  cases hq : p.data.toList with
  | nil => exact hp hq
  | cons a l => rw [hq] at h; cases h
theorem cutB_lacks {u p v : ByteArray} {b : UInt8} {r : List UInt8} (hp : p.data.toList = b :: r) (hu : lacks u b = true) : cutB (u ++ (p ++ v)) p = (u, v, true) := cutB_at fun _ hi => occ_lacks hp hu hi
theorem cutB_lacks' {s p : ByteArray} {b : UInt8} {r : List UInt8} (hp : p.data.toList = b :: r) (hu : lacks s b = true) : cutB s p = (s, ByteArray.empty, false) := cutB_no (by rw [hp]; simp) fun i hi => by
  rcases Nat.lt_or_eq_of_le hi with h | rfl
  · have := occ_lacks (v := ByteArray.empty) hp hu h
    rwa [app_empty] at this
  · exact occ_end (by rw [hp]; simp)
def spW (w z : ByteArray) : ByteArray := spB ++ (w ++ (spB ++ z))
theorem spW_l (w z : ByteArray) : (spW w z).data.toList = 32 :: (w.data.toList ++ 32 :: z.data.toList) := by
  unfold spW
  simp only [ByteArray.toList_data_append]; rfl
theorem spl_word {w : ByteArray} (h : nsp w = true) (l : List UInt8) : spl (w.data.toList ++ 32 :: l) = w.data.toList :: spl l := by
  rw [spl_app, spl_no fun b hb => by have := List.all_eq_true.1 h b hb; simpa using this]; rfl
theorem occ_word {s w z : ByteArray} (hw : nsp w = true) {i : Nat} (h : occ s (spW w z) i = true) : w ∈ wordsB s := by
  unfold occ at h
  rw [pre_drop, spW_l] at h
  obtain ⟨q, h⟩ := h
  have e : s.data.toList = s.data.toList.take i ++ 32 :: (w.data.toList ++ 32 :: (z.data.toList ++ q)) := by
    conv => lhs; rw [← List.take_append_drop i s.data.toList, h]
    simp
  unfold wordsB
  rw [e, spl_app, spl_word hw, List.map_append, List.map_cons]
  exact List.mem_append_right _ (List.mem_cons_self)
theorem occ_first {u w z v : ByteArray} (hw : nsp w = true) (hn : w ∉ wordsB u) {i : Nat} (hi : i < u.size) : occ (u ++ (spW w z ++ v)) (spW w z) i = false := by
  rw [← Bool.not_eq_true]
  intro h
  unfold occ at h
  rw [pre_drop, spW_l] at h
  obtain ⟨q, h⟩ := h
  have hi' : i < u.data.toList.length := hi
  simp only [ByteArray.toList_data_append, spW_l] at h
  rw [List.drop_append_of_le_length (by omega), List.drop_eq_getElem_cons hi'] at h
  simp only [List.cons_append, List.append_assoc, List.cons.injEq] at h
  obtain ⟨h1, h2⟩ := h
  have h3 := congrArg spl h2
  rw [spl_app, spl_word hw, spl_word hw] at h3
  have h4 : (spl (u.data.toList.drop (i + 1))).head? = some w.data.toList := by
    cases e : spl (u.data.toList.drop (i + 1)) with
    | nil => exact absurd e (spl_ne _)
    | cons a l => rw [e] at h3; exact congrArg some (List.cons.inj h3).1
  have h5 : u.data.toList = u.data.toList.take i ++ 32 :: u.data.toList.drop (i + 1) := by
    conv => lhs; rw [← List.take_append_drop i u.data.toList, List.drop_eq_getElem_cons hi', h1]
  refine hn ?_
  unfold wordsB
  rw [h5, spl_app, List.map_append]
  refine List.mem_append_right _ ?_
  cases e : spl (u.data.toList.drop (i + 1)) with
  | nil => exact absurd e (spl_ne _)
  | cons a l =>
    rw [e] at h4
    simp at h4
    subst h4
    exact List.mem_cons_self
theorem cutB_word {u w z v : ByteArray} (hw : nsp w = true) (hn : w ∉ wordsB u) : cutB (u ++ (spW w z ++ v)) (spW w z) = (u, v, true) := cutB_at fun _ hi => occ_first hw hn hi
theorem cutB_word' {s w z : ByteArray} (hw : nsp w = true) (hn : w ∉ wordsB s) : cutB s (spW w z) = (s, ByteArray.empty, false) := cutB_no (by rw [spW_l]; simp) fun i _ => by
  rw [← Bool.not_eq_true]; exact fun h => hn (occ_word hw h)
/-! ### Fields -/
theorem lacks_w {l : List ByteArray} {b : UInt8} (h : l.all (fun x => lacks x b) = true) (x : Int) : lacks (wordOf l x) b = true := by
  unfold wordOf
  rw [List.getD_eq_getElem?_getD]
  cases e : l[(x - 1).toNat]? with
  | none => rfl
  | some s => exact List.all_eq_true.1 h s (List.mem_of_getElem? e)
theorem lacks_app {a c : ByteArray} {b : UInt8} (ha : lacks a b = true) (hc : lacks c b = true) : lacks (a ++ c) b = true := by
  unfold lacks at *
  rw [ByteArray.toList_data_append, List.all_append, ha, hc]; rfl



end Go.Proofs.YtbnohmfapmeaaaaGreatDoor.AM

set_option linter.unusedVariables false
set_option linter.unusedSimpArgs false
set_option maxRecDepth 100000
set_option maxHeartbeats 4000000
set_option cbv.maxSteps 3000000
namespace Go.Proofs.YtbnohmfapmeaaaaGreatDoor.AM
/- Texts parted at any text; conditions: none. -/
theorem cutB_miss {s p : ByteArray} (h : Lib.indexB s p = -1) : cutB s p = (s, ByteArray.empty, false) := by
  have hi : Lib.index s.data.toList p.data.toList = -1 := h
  unfold cutB Lib.cut
  rw [hi, if_neg (by omega)]
  rfl
theorem cutB_idx {s p : ByteArray} {i : Nat} (h : Lib.indexB s p = (i : Nat)) : cutB s p = (s.extract 0 i, s.extract (i + p.size) s.size, true) := by
  have hi : Lib.index s.data.toList p.data.toList = (i : Nat) := h
  unfold cutB Lib.cut
  rw [hi, if_pos (by omega)]
  simp only [Int.toNat_natCast]
  refine Prod.ext ?_ (Prod.ext ?_ rfl)
  · show ofL (s.data.toList.take i) = _
    rw [← ofL_ext, List.drop_zero, Nat.sub_zero]
  · exact ofL_end s (i + p.size)
def pcsN (p : ByteArray) : Nat → ByteArray → List ByteArray
  | 0, s => [s]
  | n + 1, s => if (cutB s p).2.2 = true then (cutB s p).1 :: pcsN p n (cutB s p).2.1 else [s]
theorem pcsN_s (p : ByteArray) (n : Nat) (s : ByteArray) : pcsN p (n + 1) s = if (cutB s p).2.2 = true then (cutB s p).1 :: pcsN p n (cutB s p).2.1 else [s] := rfl
def pcs (p s : ByteArray) : List ByteArray := pcsN p s.size s
theorem pcsN_len (p : ByteArray) : ∀ n s, (pcsN p n s).length ≤ n + 1 ∧ 1 ≤ (pcsN p n s).length
  | 0, s => ⟨Nat.le_refl 1, Nat.le_refl 1⟩
  | n + 1, s => by
    have ih := pcsN_len p n (cutB s p).2.1
    unfold pcsN
    split
    · rw [List.length_cons]; omega
    · exact ⟨by rw [List.length_singleton]; omega, Nat.le_refl 1⟩
theorem pcs_len (p s : ByteArray) : (pcs p s).length ≤ s.size + 1 ∧ 1 ≤ (pcs p s).length := pcsN_len p s.size s
theorem pcsN_sz (p : ByteArray) : ∀ n s, ∀ x ∈ pcsN p n s, x.size ≤ s.size
  | 0, s, x, h => by rw [show pcsN p 0 s = [s] from rfl, List.mem_singleton] at h; rw [h]; exact Nat.le_refl _
  | n + 1, s, x, h => by
    have hc := cutB_sz s p
    unfold pcsN at h
    split at h
    · rcases List.mem_cons.1 h with h | h
      · rw [h]; exact hc.1
      · exact Nat.le_trans (pcsN_sz p n _ x h) hc.2
    · rw [List.mem_singleton] at h; rw [h]; exact Nat.le_refl _
theorem pcs_sz {p s x : ByteArray} (h : x ∈ pcs p s) : x.size ≤ s.size := pcsN_sz p _ s x h
theorem pcs_eq {p : ByteArray} (hp : 1 ≤ p.size) : ∀ n s, s.size ≤ n → Lib.splitB p 0 (Lib.countB s p) s = pcsN p n s
  | 0, s, hs => by
    rcases Lib.indexB_cases s p with h | ⟨i, h, hr⟩
    · rw [Lib.splitB_miss _ _ _ _ h]; rfl
    · omega
  | n + 1, s, hs => by
    rcases Lib.indexB_cases s p with h | ⟨i, h, hr⟩
    · rw [Lib.splitB_miss _ _ _ _ h]
      rw [pcsN_s, cutB_miss h, if_neg (fun q => by cases q)]
    · rw [Lib.countB_hit s p i hp h, Nat.add_comm, Lib.splitB_hit _ _ _ _ _ h, Nat.add_zero, pcs_eq hp n _ (by rw [ByteArray.size_extract]; omega)]
      rw [pcsN_s, cutB_idx h, if_pos rfl]
theorem c_splitG (s p : ByteArray) (h0 : s.size < 4294967281) (h1 : 1 ≤ p.size) : Con Tryz.prog 61 [.lit (.string s), .lit (.string p)] [] (.vec 1 (pcs p s).length (rowsS stdH fun _ => pcs p s)) [] :=
  con_texts (l := [.string s, .string p]) (by have := pcs_len p s; unfold maxLen; omega) fun w hw => (Tryz.strings_Split_shaped s p w hw h0 h1).mono fun e w' ⟨g1, g2⟩ => by
    have e1 := Lib.splitB_all p h1 0 _ s rfl
    rw [pcs_eq h1 s.size s (Nat.le_refl _)] at g2 e1
    unfold pcs
    rw [e1]
    exact ⟨g1, g2⟩
noncomputable def e_splitG : Entry := pureE 61 fun H a => match a with
  | [.lit (.string s), .lit (.string p)] => some (.vec 1 (H Nat fun _ => (pcs p s).length) (rowsS H fun _ => pcs p s), [H Prop fun _ => s.size < 4294967281, H Prop fun _ => 1 ≤ p.size])
  | _ => none
theorem eok_splitG : EntryOk Tryz.prog e_splitG := pureE_ok (by unfold isBody; kernel_rfl) (by
  intro a r ob e hob
  split at e
  · simp only [Option.some.injEq, Prod.mk.injEq] at e
    obtain ⟨rfl, rfl⟩ := e
    obtain ⟨h0, h1, _⟩ := hob
    exact c_splitG _ _ h0 h1
  · simp at e)
/-! ### Pieces joined and parted again -/
theorem jnB_cons (x y : ByteArray) (L : List ByteArray) (p : ByteArray) : jnB (x :: y :: L) p = x ++ (p ++ jnB (y :: L) p) := by
  apply ByteArray.ext; apply Array.ext'
  unfold jnB
  rw [List.map_cons, List.map_cons, Lib.join_cons, Lib.join_cons]
  simp [Lib.joinTail]
theorem pcsN_jn {p : ByteArray} {b : UInt8} {r : List UInt8} (hp : p.data.toList = b :: r) : ∀ (L : List ByteArray) (n : Nat), L ≠ [] → L.length ≤ n + 1 → (∀ x ∈ L, lacks x b = true) → pcsN p n (jnB L p) = L
  | [], _, h, _, _ => absurd rfl h
  | [x], n, _, _, hl => by
    rw [jnB_one]
    cases n with
    | zero => rfl
    | succ n =>
      rw [pcsN_s, cutB_lacks' hp (hl x List.mem_cons_self), if_neg (fun q => by cases q)]
  | x :: y :: L, n, _, hn, hl => by
    rw [List.length_cons, List.length_cons] at hn
    obtain ⟨m, rfl⟩ : ∃ m, n = m + 1 := ⟨n - 1, by omega⟩
    rw [jnB_cons, pcsN_s, cutB_lacks hp (hl x List.mem_cons_self), if_pos rfl]
    dsimp only
    rw [pcsN_jn hp (y :: L) m (by simp) (by rw [List.length_cons]; omega) fun z hz => hl z (List.mem_cons_of_mem _ hz)]
theorem jnB_ge (p : ByteArray) (hp : 1 ≤ p.size) : ∀ L : List ByteArray, L.length ≤ (jnB L p).size + 1
  | [] => Nat.zero_le _
  | [x] => by rw [List.length_singleton]; omega
  | x :: y :: L => by
    have ih := jnB_ge p hp (y :: L)
    rw [jnB_cons, ByteArray.size_append, ByteArray.size_append, List.length_cons]
    omega
theorem pcs_jn {p : ByteArray} {b : UInt8} {r : List UInt8} (hp : p.data.toList = b :: r) {L : List ByteArray} (h : L ≠ []) (hl : ∀ x ∈ L, lacks x b = true) : pcs p (jnB L p) = L :=
  pcsN_jn hp L _ h (jnB_ge p (by have : p.size = p.data.toList.length := rfl; rw [hp] at this; rw [this, List.length_cons]; omega) L) hl

end Go.Proofs.YtbnohmfapmeaaaaGreatDoor.AM

set_option linter.unusedVariables false
set_option linter.unusedSimpArgs false
set_option maxRecDepth 100000
set_option maxHeartbeats 4000000
set_option cbv.maxSteps 3000000
namespace Go.Proofs.YtbnohmfapmeaaaaGreatDoor.AM
/- Bytes that the texts of arms lack; conditions: none. -/
def lkB (b : UInt8) : Bool := (tinL ++ (divL ++ (linL ++ (ordL ++ (kndL ++ (cntL ++ ([(⟨⟨[114, 97, 109, 112, 97, 110, 116]⟩⟩ : ByteArray), (⟨⟨[112, 97, 115, 115, 97, 110, 116]⟩⟩ : ByteArray), (⟨⟨[100, 105, 115, 112, 108, 97, 121, 101, 100]⟩⟩ : ByteArray), (⟨⟨[114, 105, 115, 105, 110, 103]⟩⟩ : ByteArray), (⟨⟨[115, 119, 105, 109, 109, 105, 110, 103]⟩⟩ : ByteArray), (⟨⟨[117, 112, 114, 105, 103, 104, 116]⟩⟩ : ByteArray)] ++ [(⟨⟨[]⟩⟩ : ByteArray), (⟨⟨[97, 110]⟩⟩ : ByteArray), (⟨⟨[115]⟩⟩ : ByteArray), (⟨⟨[32]⟩⟩ : ByteArray), (⟨⟨[97, 32]⟩⟩ : ByteArray), (⟨⟨[32, 97, 110, 100, 32]⟩⟩ : ByteArray), (⟨⟨[44, 32]⟩⟩ : ByteArray), (⟨⟨[32, 99, 104, 97, 114, 103, 101, 100, 32, 119, 105, 116, 104, 32]⟩⟩ : ByteArray), (⟨⟨[32, 97, 98, 111, 118, 101, 32]⟩⟩ : ByteArray), (⟨⟨[32, 98, 101, 116, 119, 101, 101, 110, 32]⟩⟩ : ByteArray)]))))))).all fun x => lacks x b
theorem lkB_in {b : UInt8} (h : lkB b = true) : tinL.all (fun x => lacks x b) = true ∧ divL.all (fun x => lacks x b) = true ∧ linL.all (fun x => lacks x b) = true ∧ ordL.all (fun x => lacks x b) = true ∧ kndL.all (fun x => lacks x b) = true ∧ cntL.all (fun x => lacks x b) = true ∧ ([(⟨⟨[114, 97, 109, 112, 97, 110, 116]⟩⟩ : ByteArray), (⟨⟨[112, 97, 115, 115, 97, 110, 116]⟩⟩ : ByteArray), (⟨⟨[100, 105, 115, 112, 108, 97, 121, 101, 100]⟩⟩ : ByteArray), (⟨⟨[114, 105, 115, 105, 110, 103]⟩⟩ : ByteArray), (⟨⟨[115, 119, 105, 109, 109, 105, 110, 103]⟩⟩ : ByteArray), (⟨⟨[117, 112, 114, 105, 103, 104, 116]⟩⟩ : ByteArray)]).all (fun x => lacks x b) = true ∧ ([(⟨⟨[]⟩⟩ : ByteArray), (⟨⟨[97, 110]⟩⟩ : ByteArray), (⟨⟨[115]⟩⟩ : ByteArray), (⟨⟨[32]⟩⟩ : ByteArray), (⟨⟨[97, 32]⟩⟩ : ByteArray), (⟨⟨[32, 97, 110, 100, 32]⟩⟩ : ByteArray), (⟨⟨[44, 32]⟩⟩ : ByteArray), (⟨⟨[32, 99, 104, 97, 114, 103, 101, 100, 32, 119, 105, 116, 104, 32]⟩⟩ : ByteArray), (⟨⟨[32, 97, 98, 111, 118, 101, 32]⟩⟩ : ByteArray), (⟨⟨[32, 98, 101, 116, 119, 101, 101, 110, 32]⟩⟩ : ByteArray)]).all (fun x => lacks x b) = true := by
  unfold lkB at h
  simpa only [List.all_append, Bool.and_eq_true] using h
theorem lkB_c {b : UInt8} (h : lkB b = true) {x : ByteArray} (hx : x ∈ [(⟨⟨[]⟩⟩ : ByteArray), (⟨⟨[97, 110]⟩⟩ : ByteArray), (⟨⟨[115]⟩⟩ : ByteArray), (⟨⟨[32]⟩⟩ : ByteArray), (⟨⟨[97, 32]⟩⟩ : ByteArray), (⟨⟨[32, 97, 110, 100, 32]⟩⟩ : ByteArray), (⟨⟨[44, 32]⟩⟩ : ByteArray), (⟨⟨[32, 99, 104, 97, 114, 103, 101, 100, 32, 119, 105, 116, 104, 32]⟩⟩ : ByteArray), (⟨⟨[32, 97, 98, 111, 118, 101, 32]⟩⟩ : ByteArray), (⟨⟨[32, 98, 101, 116, 119, 101, 101, 110, 32]⟩⟩ : ByteArray)]) : lacks x b = true := List.all_eq_true.1 (lkB_in h).2.2.2.2.2.2.2 x hx
theorem wl_lacks {b : UInt8} (h : lkB b = true) {t : ByteArray} (ht : lacks t b = true) (l : Int) : lacks (wlT t l) b = true := by
  unfold wlT
  split
  · exact ht
  · exact lacks_app ht (lacks_app (lkB_c h (by simp)) (lacks_w (lkB_in h).2.2.1 _))
theorem fld_lacksB {b : UInt8} (h : lkB b = true) (f : Fld) : lacks (fldT f) b = true := by
  unfold fldT
  split
  · exact lacks_w (lkB_in h).1 _
  · exact lacks_app (wl_lacks h (lacks_w (lkB_in h).2.1 _) _) (lacks_app (lkB_c h (by simp)) (lacks_app (lacks_w (lkB_in h).1 _) (lacks_app (lkB_c h (by simp)) (lacks_w (lkB_in h).1 _))))
theorem att_lacksB {b : UInt8} (h : lkB b = true) (k x : Int) : lacks (wordOf (attL k) x) b = true := by
  have h7 := (lkB_in h).2.2.2.2.2.2.1
  refine lacks_w ?_ x
  simp only [List.all_cons, List.all_nil, Bool.and_true, Bool.and_eq_true] at h7
  obtain ⟨a1, a2, a3, a4, a5, a6⟩ := h7
  unfold attL
  split
  · simp only [List.all_cons, List.all_nil, a1, a2, Bool.and_self]
  · split
    · simp only [List.all_cons, List.all_nil, a3, a4, Bool.and_self]
    · split
      · simp only [List.all_cons, List.all_nil, a5, a6, Bool.and_self]
      · rfl
theorem grp_lacksB {b : UInt8} (h : lkB b = true) (g : Grp) : lacks (grpT g) b = true := by
  have hs : lacks (⟨⟨[32]⟩⟩ : ByteArray) b = true := lkB_c h (by simp)
  have h1 : lacks (cntT g.c g.k) b = true := by
    unfold cntT
    split
    · exact lkB_c h (by simp)
    · exact lacks_w (lkB_in h).2.2.2.2.2.1 _
  have h2 : lacks (kndT g.k g.c) b = true := by
    unfold kndT
    split
    · exact lacks_app (lacks_w (lkB_in h).2.2.2.2.1 _) (lkB_c h (by simp))
    · exact lacks_w (lkB_in h).2.2.2.2.1 _
  have h3 : lacks (attT g) b = true := by
    unfold attT
    split
    · exact lacks_app hs (att_lacksB h _ _)
    · exact lkB_c h (x := ByteArray.empty) List.mem_cons_self
  unfold grpT
  exact lacks_app h1 (lacks_app hs (lacks_app h2 (lacks_app h3 (lacks_app hs (lacks_w (lkB_in h).1 _)))))
theorem ord_lacksB {b : UInt8} (h : lkB b = true) (o l : Int) : lacks (ordS o l) b = true := by
  unfold ordS
  exact wl_lacks h (lacks_app (lkB_c h (by simp)) (lacks_w (lkB_in h).2.2.2.1 _)) _
theorem armT_lacks {b : UInt8} (h : lkB b = true) (a : Arm) : lacks (armT a) b = true := by
  have he : lacks ByteArray.empty b = true := lkB_c h List.mem_cons_self
  have hf := fld_lacksB h a.f
  have hn := grp_lacksB h a.n
  have hr := grp_lacksB h a.r
  have ho : lacks (ordS a.o a.l ++ ((⟨⟨[32]⟩⟩ : ByteArray) ++ wordOf tinL a.t)) b = true := lacks_app (ord_lacksB h _ _) (lacks_app (lkB_c h (by simp)) (lacks_w (lkB_in h).1 _))
  have hp : lacks (pcsA a).f b = true ∧ lacks (pcsA a).o b = true ∧ lacks (pcsA a).n b = true ∧ lacks (pcsA a).r b = true := by
    have orL : ∀ (c : Bool) (t : ByteArray), lacks t b = true → lacks (orE c t) b = true := fun c t ht => by
      unfold orE
      cases c
      · exact ht
      · exact he
    exact ⟨hf, orL _ _ ho, orL _ _ hn, orL _ _ hr⟩
  obtain ⟨p1, p2, p3, p4⟩ := hp
  have c1 : lacks (⟨⟨[44, 32]⟩⟩ : ByteArray) b = true := lkB_c h (by simp)
  have c2 : lacks (⟨⟨[32, 99, 104, 97, 114, 103, 101, 100, 32, 119, 105, 116, 104, 32]⟩⟩ : ByteArray) b = true := lkB_c h (by simp)
  have c3 : lacks (⟨⟨[32, 97, 98, 111, 118, 101, 32]⟩⟩ : ByteArray) b = true := lkB_c h (by simp)
  have c4 : lacks (⟨⟨[32, 98, 101, 116, 119, 101, 101, 110, 32]⟩⟩ : ByteArray) b = true := lkB_c h (by simp)
  unfold armT jnT
  split
  · split
    · exact p1
    · exact lacks_app p1 (lacks_app c1 p4)
  · refine lacks_app p1 (lacks_app c1 (lacks_app p2 (lacks_app ?_ ?_)))
    · split
      · exact he
      · exact lacks_app c2 p3
    · split
      · exact he
      · refine lacks_app ?_ p4
        split
        · exact c3
        · exact c4

end Go.Proofs.YtbnohmfapmeaaaaGreatDoor.AM

set_option linter.unusedVariables false
set_option linter.unusedSimpArgs false
set_option maxRecDepth 100000
set_option maxHeartbeats 4000000
set_option cbv.maxSteps 3000000
namespace Go.Proofs.YtbnohmfapmeaaaaGreatDoor.AM
/- Numbers of up to four digits as texts; conditions: none. -/
theorem itoa_pos {x : Int} (h : 0 ≤ x) : Lib.itoa x = Lib.decDigits x.toNat := by
  unfold Lib.itoa
  rw [if_neg (by omega)]
theorem c_itoaN (x : Int) (h : 0 ≤ x ∧ x ≤ 1000000) : Con Tryz.prog 71 [.lit (.int .i64 x)] [] (.lit (.string (numD x.toNat))) [] :=
  con_belowG (l := [.int .i64 x]) (fun _ => .lit rfl) fun w ow hg => by
    have := Tryz.strconv_Itoa x (by omega) (by omega) w (hg.var.tab _ (List.mem_cons_self))
    refine this.mono fun e w' ⟨h1, k, os, h2⟩ => ⟨by rw [h1, itoa_pos h.1]; rfl, ?_⟩
    subst h2
    refine ⟨rfl, rfl, rfl, ?_, fun q hq => ?_⟩
    · show _ ≤ (w.heap ++ _).size
      rw [Array.size_append]; exact Nat.le_add_right _ _
    · show (w.heap ++ _)[q]? = _
      rw [Array.getElem?_append_left hq]
noncomputable def e_itoaN : Entry := pureE 71 fun H a => match a with
  | [.lit (.int .i64 x)] => some (.lit (.string (H ByteArray fun _ => (numD (x).toNat))), [H Prop fun _ => 0 ≤ x ∧ x ≤ 1000000])
  | _ => none
theorem eok_itoaN : EntryOk Tryz.prog e_itoaN := pureE_ok (by unfold isBody; kernel_rfl) (by
  intro a r ob e hob
  split at e
  · simp only [Option.some.injEq, Prod.mk.injEq] at e
    obtain ⟨rfl, rfl⟩ := e
    obtain ⟨h0, _⟩ := hob
    exact c_itoaN _ h0
  · simp at e)
theorem numD_sz3 {i : Nat} (h : i < 1000) : (numD i).size ≤ 3 := by
  by_cases h1 : i < 100
  · exact Nat.le_trans (numD_sz h1) (by omega)
  · rw [numD_step (by omega), ByteArray.size_append]
    exact Nat.add_le_add_right (numD_sz (i := i / 10) (by omega)) 1
theorem numD_sz4 {i : Nat} (h : i < 10000) : (numD i).size ≤ 4 := by
  by_cases h1 : i < 1000
  · exact Nat.le_trans (numD_sz3 h1) (by omega)
  · rw [numD_step (by omega), ByteArray.size_append]
    exact Nat.add_le_add_right (numD_sz3 (i := i / 10) (by omega)) 1
theorem c_l1NumC (x : Int) (h0 : 0 ≤ x ∧ x ≤ 999) : ConN Tryz.prog 134 [.lit (.int .i64 x)] [] 0 (.lit (.string (stdH ByteArray fun _ => numD (x).toNat))) [] [] := by
  have hB : Base Tryz.prog (tabΓ [e_l1NumB]) tab := base_of tabOk (ents_cons eok_l1NumB <| ents_nil)
  refine con_m (N := 25) hB (draw_ok hB mixed) Tryz.func134 rfl rfl (fun H => [.lit (.int .i64 x)]) (fun _ => []) 0 (fun H => .lit (.string (H ByteArray fun _ => numD (x).toNat))) (fun H => []) (fun _ => []) 200 (by simp) (fun x hx => ?_) (by simp [lk]) (by omega) (by simp) ?_
  · simp only [List.mem_cons, List.not_mem_nil, or_false] at hx
    rcases hx with rfl
    · exact .lit
  intro X hX hX0 H hH
  conv in Fin.chk _ _ => cbv
  try simp only [Plain_rowsA, Plain_rowsB, Plain_rowsC, Plain_rowsF, Plain_rowsG, Plain_rowsI, Plain_rowsS, Plain_rowsU, Fin.satC_ret, Fin.satC_br, Fin.satC_need, Fin.satC_again, AllP, and_true, true_and, upd, List.length_nil, List.length_cons, Nat.zero_add, if_true, ncast, zqe]
  subst hH
  simp only [stdH, decide_eq_true_eq, decide_eq_false_iff_not]
  have e1 : 0 ≤ x ∧ x ≤ 9 → IntKind.i64.wrap (x + 1) = x + 1 := fun h => wi (by omega) (by omega)
  have e2 : (x.tmod 10) = x % 10 := Int.tmod_eq_emod_of_nonneg (by omega)
  have e3 : (x.tdiv 10) = x / 10 := Int.tdiv_eq_ediv_of_nonneg (by omega)
  have e4 : IntKind.i64.wrap (x % 10 + 1) = x % 10 + 1 := wi (by omega) (by omega)
  have e5 : IntKind.i64.wrap (x / 10) = x / 10 := wi (by omega) (by omega)
  have e6 : ((⟨⟨[48, 49, 50, 51, 52, 53, 54, 55, 56, 57]⟩⟩ : ByteArray)).size = 10 := rfl
  have hx : (x % 10).toNat < 10 := by omega
  have e7 : (x % 10 + 1).toNat = (x % 10).toNat + 1 := by omega
  simp only [e2, e3, e4, e5, e6]
  simp only [loOf, hiOf, okB, e7, dig_at hx]
  refine ⟨fun h => ?_, fun h => ⟨fun h2 => ?_, fun h2 => ?_⟩⟩
  · omega
  · rw [e1 (by omega), show (x + 1).toNat = x.toNat + 1 by omega, dig_at (by omega), numD_one (by omega)]
    exact ⟨⟨by omega, by omega, by omega, by omega⟩, rfl⟩
  · have s1 := numD_sz (i := (x / 10).toNat) (by omega)
    refine ⟨by omega, by omega, by omega, by omega, ⟨by omega, by omega, by omega, by omega⟩, ?_, ?_⟩
    · show _ + 1 ≤ _
      omega
    · rw [numD_step (by omega), show (x / 10).toNat = x.toNat / 10 by omega, show (x % 10).toNat = x.toNat % 10 by omega]
noncomputable def e_l1NumC : Entry := pureE 134 fun H a => match a with
  | [.lit (.int .i64 x)] => some (.lit (.string (H ByteArray fun _ => numD (x).toNat)), [H Prop fun _ => 0 ≤ x ∧ x ≤ 999])
  | _ => none
theorem eok_l1NumC : EntryOk Tryz.prog e_l1NumC := pureM_ok (by unfold isBody; kernel_rfl) (by
  intro a r ob e hob
  split at e
  · rename_i x
    simp only [Option.some.injEq, Prod.mk.injEq] at e
    obtain ⟨rfl, rfl⟩ := e
    exact ConN.args (.cons .rfl .nil) (c_l1NumC x hob.1)
  · simp at e)
theorem c_l1NumD (x : Int) (h0 : 0 ≤ x ∧ x ≤ 9999) : ConN Tryz.prog 134 [.lit (.int .i64 x)] [] 0 (.lit (.string (stdH ByteArray fun _ => numD (x).toNat))) [] [] := by
  have hB : Base Tryz.prog (tabΓ [e_l1NumC]) tab := base_of tabOk (ents_cons eok_l1NumC <| ents_nil)
  refine con_m (N := 25) hB (draw_ok hB mixed) Tryz.func134 rfl rfl (fun H => [.lit (.int .i64 x)]) (fun _ => []) 0 (fun H => .lit (.string (H ByteArray fun _ => numD (x).toNat))) (fun H => []) (fun _ => []) 200 (by simp) (fun x hx => ?_) (by simp [lk]) (by omega) (by simp) ?_
  · simp only [List.mem_cons, List.not_mem_nil, or_false] at hx
    rcases hx with rfl
    · exact .lit
  intro X hX hX0 H hH
  conv in Fin.chk _ _ => cbv
  try simp only [Plain_rowsA, Plain_rowsB, Plain_rowsC, Plain_rowsF, Plain_rowsG, Plain_rowsI, Plain_rowsS, Plain_rowsU, Fin.satC_ret, Fin.satC_br, Fin.satC_need, Fin.satC_again, AllP, and_true, true_and, upd, List.length_nil, List.length_cons, Nat.zero_add, if_true, ncast, zqe]
  subst hH
  simp only [stdH, decide_eq_true_eq, decide_eq_false_iff_not]
  have e1 : 0 ≤ x ∧ x ≤ 9 → IntKind.i64.wrap (x + 1) = x + 1 := fun h => wi (by omega) (by omega)
  have e2 : (x.tmod 10) = x % 10 := Int.tmod_eq_emod_of_nonneg (by omega)
  have e3 : (x.tdiv 10) = x / 10 := Int.tdiv_eq_ediv_of_nonneg (by omega)
  have e4 : IntKind.i64.wrap (x % 10 + 1) = x % 10 + 1 := wi (by omega) (by omega)
  have e5 : IntKind.i64.wrap (x / 10) = x / 10 := wi (by omega) (by omega)
  have e6 : ((⟨⟨[48, 49, 50, 51, 52, 53, 54, 55, 56, 57]⟩⟩ : ByteArray)).size = 10 := rfl
  have hx : (x % 10).toNat < 10 := by omega
  have e7 : (x % 10 + 1).toNat = (x % 10).toNat + 1 := by omega
  simp only [e2, e3, e4, e5, e6]
  simp only [loOf, hiOf, okB, e7, dig_at hx]
  refine ⟨fun h => ?_, fun h => ⟨fun h2 => ?_, fun h2 => ?_⟩⟩
  · omega
  · rw [e1 (by omega), show (x + 1).toNat = x.toNat + 1 by omega, dig_at (by omega), numD_one (by omega)]
    exact ⟨⟨by omega, by omega, by omega, by omega⟩, rfl⟩
  · have s1 := numD_sz3 (i := (x / 10).toNat) (by omega)
    refine ⟨by omega, by omega, by omega, by omega, ⟨by omega, by omega, by omega, by omega⟩, ?_, ?_⟩
    · show _ + 1 ≤ _
      omega
    · rw [numD_step (by omega), show (x / 10).toNat = x.toNat / 10 by omega, show (x % 10).toNat = x.toNat % 10 by omega]
noncomputable def e_l1NumD : Entry := pureE 134 fun H a => match a with
  | [.lit (.int .i64 x)] => some (.lit (.string (H ByteArray fun _ => numD (x).toNat)), [H Prop fun _ => 0 ≤ x ∧ x ≤ 9999])
  | _ => none
theorem eok_l1NumD : EntryOk Tryz.prog e_l1NumD := pureM_ok (by unfold isBody; kernel_rfl) (by
  intro a r ob e hob
  split at e
  · rename_i x
    simp only [Option.some.injEq, Prod.mk.injEq] at e
    obtain ⟨rfl, rfl⟩ := e
    exact ConN.args (.cons .rfl .nil) (c_l1NumD x hob.1)
  · simp at e)

end Go.Proofs.YtbnohmfapmeaaaaGreatDoor.AM

set_option linter.unusedVariables false
set_option linter.unusedSimpArgs false
set_option maxRecDepth 100000
set_option maxHeartbeats 4000000
set_option cbv.maxSteps 3000000
namespace Go.Proofs.YtbnohmfapmeaaaaGreatDoor.AM
/- Numbers out of texts, by the library; conditions: none. -/
def atV (s : ByteArray) : Int := match Lib.atoiAll s.data.toList with
  | .ok v => v
  | .range => Lib.atoiSat s.data.toList
  | _ => 0
def atO (s : ByteArray) : Bool := match Lib.atoiAll s.data.toList with
  | .ok _ => true
  | _ => false
theorem rel_at {C : Cx} {n : Int} {b : Bool} {v : Value} (h0 : v.oneCell' = true) (h1 : b = true → v = .nilIface) (h2 : b = false → ∃ te pe, v = .iface te pe) : Rel C (.tup [.lit (.int .i64 n), .er b]) (.tuple #[.int .i64 n, v]) :=
  .tup (vs := [.int .i64 n, v]) rfl fun i x u hx hu => by
    rcases i with _ | _ | i <;> simp at hx hu <;> subst hx <;> subst hu
    · exact .lit rfl
    · exact .er h0 h1 h2
theorem err_cell {w : World} {ow : Nat → Prop} (hg : Glo w ow) {n : String} (hn : n ∈ LDE) {g : Nat} (h : PG.globalNamed n = some g) : ∃ ev, w.cell? ⟨g, 0, none⟩ = some ev ∧ isErr ev := by
  obtain ⟨ev, h1, h2⟩ := hg.var.err n hn
  exact ⟨ev, by simpa using World.var?_cell h h1 0, h2⟩
theorem con_at {f : FuncId} {s : ByteArray} {n : Int} {b : Bool} (h : ∀ (w : World) (ow : Nat → Prop), Glo w ow → Calls Tryz.prog f #[.string s] w fun e w' => ∃ v, e = .returned (.tuple #[.int .i64 n, v]) ∧ (v.oneCell' = true ∧ (b = true → v = .nilIface) ∧ (b = false → ∃ te pe, v = .iface te pe)) ∧ RowKit.Below w.heap.size w w') : Con Tryz.prog f [.lit (.string s)] [] (.tup [.lit (.int .i64 n), .er b]) [] := by
  intro C vs hl _ _ hg
  rw [LRel.lits (l := [.string s]) hl]
  refine (h C.w _ hg).mono fun e w' ⟨v, he, ⟨h0, h1, h2⟩, hw⟩ => ⟨_, he, ⟨C.β, C.ok, C.ow, w'⟩, rfl, ⟨⟨hw.os, hw.tape, hw.output, hw.size, fun k hk _ => hw.block k hk, fun k c T hc => ⟨c, ?_, rfl⟩⟩, by simp, fun _ _ => rfl, fun _ h => h, fun _ h => .inl h⟩, by simp <;> omega, by simp <;> omega, by simp <;> omega, by simp <;> omega, fun y hy => ?_, by simp [named], by simp⟩
  · show w'.heap[k]? = _
    rw [hw.block k (Array.getElem?_eq_some_iff.1 hc).1]; exact hc
  · injection hy with hy
    subst hy
    exact rel_at h0 h1 h2
theorem c_atoi (s : ByteArray) (h : s.size ≤ 281474976710656) : Con Tryz.prog 63 [.lit (.string s)] [] (.tup [.lit (.int .i64 (atV s)), .er (atO s)]) [] :=
  con_at fun w ow hg => by
    cases e : Lib.atoiAll s.data.toList with
    | ok v =>
      have e1 : atV s = v := by unfold atV; rw [e]
      have e2 : atO s = true := by unfold atO; rw [e]
      rw [e1, e2]
      refine (Tryz.strconv_Atoi_ok s (by omega) v e w).mono fun x w' ⟨h1, h2⟩ => ⟨_, h1, ⟨rfl, fun _ => rfl, fun q => by cases q⟩, ?_⟩
      rcases h2 with rfl | ⟨t, rfl⟩
      · exact .refl _ _
      · exact Lib.bytesWorld_below _ _ _
    | range =>
      have e1 : atV s = Lib.atoiSat s.data.toList := by unfold atV; rw [e]
      have e2 : atO s = false := by unfold atO; rw [e]
      rw [e1, e2]
      obtain ⟨ev, h1, h2⟩ := err_cell hg (n := "strconv.ErrRange") (by simp [LDE]) (g := 2) (by kernel_rfl)
      refine (Tryz.strconv_Atoi_range s h e ev w h1 h2).mono fun x w' ⟨N, h3, _, _, h4⟩ => ⟨_, h3, ⟨rfl, (fun q => by cases q), fun _ => ⟨_, _, rfl⟩⟩, h4⟩
    | _ =>
      have e1 : atV s = 0 := by unfold atV; rw [e]
      have e2 : atO s = false := by unfold atO; rw [e]
      rw [e1, e2]
      obtain ⟨ev, h1, h2⟩ := err_cell hg (n := "strconv.ErrSyntax") (by simp [LDE]) (g := 1) (by kernel_rfl)
      refine ((Any.strconv_Atoi_syntax Tryz.laysC172) s h e ev w h1 h2).mono fun x w' ⟨N, h3, _, _, h4⟩ => ⟨_, h3, ⟨rfl, (fun q => by cases q), fun _ => ⟨_, _, rfl⟩⟩, h4⟩
noncomputable def e_atoi : Entry := pureE 63 fun H a => match a with
  | [.lit (.string s)] => some (.tup [.lit (.int .i64 (H Int fun _ => atV s)), .er (H Bool fun _ => atO s)], [H Prop fun _ => s.size ≤ 281474976710656])
  | _ => none
theorem eok_atoi : EntryOk Tryz.prog e_atoi := pureE_ok (by unfold isBody; kernel_rfl) (by
  intro a r ob e hob
  split at e
  · simp only [Option.some.injEq, Prod.mk.injEq] at e
    obtain ⟨rfl, rfl⟩ := e
    exact c_atoi _ hob.1
  · simp at e)
/-! ### Numerals -/
theorem decFrom_snoc (b : UInt8) : ∀ (l : List UInt8) (acc : Nat), Lib.decFrom acc (l ++ [b]) = (Lib.decFrom acc l).bind fun n => (Lib.digitVal b).map fun d => n * 10 + d
  | [], acc => by
    simp only [List.nil_append, Lib.decFrom, Option.bind_some]
    cases Lib.digitVal b <;> rfl
  | c :: l, acc => by
    simp only [List.cons_append, Lib.decFrom]
    cases Lib.digitVal c with
    | none => rfl
    | some d => exact decFrom_snoc b l _
theorem digitVal_of {d : Nat} (h : d < 10) : Lib.digitVal (UInt8.ofNat (48 + d)) = some d := by
  have : ∀ d : Nat, d < 10 → Lib.digitVal (UInt8.ofNat (48 + d)) = some d := by decide
  exact this d h
theorem numD_l1 {i : Nat} (h : i < 10) : (numD i).data.toList = [UInt8.ofNat (48 + i)] := by rw [numD_one h]
theorem numD_ls {i : Nat} (h : ¬ i < 10) : (numD i).data.toList = (numD (i / 10)).data.toList ++ [UInt8.ofNat (48 + i % 10)] := by
  rw [numD_step h, ByteArray.toList_data_append]
theorem numD_dec (i : Nat) : Lib.decFrom 0 (numD i).data.toList = some i := by
  induction i using Nat.strongRecOn with
  | _ i ih =>
    by_cases h : i < 10
    · rw [numD_l1 h]
      simp only [Lib.decFrom, digitVal_of h]
      simp
    · rw [numD_ls h, decFrom_snoc, ih (i / 10) (by omega), digitVal_of (by omega)]
      simp only [Option.bind_some, Option.map_some, Option.some.injEq]
      omega
theorem numD_head (i : Nat) : ∃ (d : Nat) (r : List UInt8), d < 10 ∧ (numD i).data.toList = UInt8.ofNat (48 + d) :: r := by
  induction i using Nat.strongRecOn with
  | _ i ih =>
    by_cases h : i < 10
    · exact ⟨i, [], h, numD_l1 h⟩
    · obtain ⟨d, r, h1, h2⟩ := ih (i / 10) (by omega)
      exact ⟨d, r ++ [UInt8.ofNat (48 + i % 10)], h1, by rw [numD_ls h, h2]; rfl⟩
theorem dig_ne {d : Nat} (h : d < 10) : (UInt8.ofNat (48 + d) == 45) = false ∧ (UInt8.ofNat (48 + d) == 43) = false := by
  have : ∀ d : Nat, d < 10 → (UInt8.ofNat (48 + d) == 45) = false ∧ (UInt8.ofNat (48 + d) == 43) = false := by decide
  exact this d h
theorem numD_atoi {i : Nat} (h : i < 10000) : Lib.atoiAll (numD i).data.toList = .ok i := by
  have hz : (numD i).data.toList.length ≤ 18 := by
    have : (numD i).size = (numD i).data.toList.length := rfl
    have := numD_sz4 h
    omega
  rw [Lib.atoiAll_short _ hz]
  obtain ⟨d, r, h1, h2⟩ := numD_head i
  have hd := numD_dec i
  rw [h2] at hd ⊢
  obtain ⟨e1, e2⟩ := dig_ne h1
  simp only [Lib.atoi, e1, e2, Bool.false_eq_true, if_false, Lib.decNat, List.isEmpty_cons, hd]
  rfl
theorem atV_num {i : Nat} (h : i < 10000) : atV (numD i) = i := by unfold atV; rw [numD_atoi h]
theorem numD_lacks {b : UInt8} (hb : ∀ d : Nat, d < 10 → UInt8.ofNat (48 + d) ≠ b) (i : Nat) : lacks (numD i) b = true := by
  induction i using Nat.strongRecOn with
  | _ i ih =>
    unfold lacks at *
    by_cases h : i < 10
    · rw [numD_l1 h]
      simpa using hb i h
    · rw [numD_ls h, List.all_append, ih (i / 10) (by omega)]
      simpa using hb (i % 10) (by omega)

end Go.Proofs.YtbnohmfapmeaaaaGreatDoor.AM

set_option linter.unusedVariables false
set_option linter.unusedSimpArgs false
set_option maxRecDepth 100000
set_option maxHeartbeats 4000000
set_option cbv.maxSteps 3000000
namespace Go.Proofs.YtbnohmfapmeaaaaGreatDoor.AM
/- Texts that begin with others; conditions: none. -/
theorem c_cutPre (s p : ByteArray) : Con Tryz.prog 59 [.lit (.string s), .lit (.string p)] [] (.tup [.lit (.string ⟨(Lib.trimPrefix s.data.toList p.data.toList).toArray⟩), .lit (.bool (Lib.hasPrefix s.data.toList p.data.toList))]) [] :=
  con_below (l := [.string s, .string p]) (fun _ => .tup (vs := [_, _]) rfl fun i x v hx hv => by
    rcases i with _ | _ | i <;> simp at hx hv <;> subst hx <;> subst hv
    · exact .lit rfl
    · exact .lit rfl) fun w _ => (Tryz.strings_CutPrefix s p w).mono fun e w' ⟨h1, h2⟩ => ⟨h1, by subst h2; exact .refl _ _⟩
def isPre (s p : ByteArray) : Bool := Lib.hasPrefix s.data.toList p.data.toList
def afterP (s p : ByteArray) : ByteArray := ⟨(Lib.trimPrefix s.data.toList p.data.toList).toArray⟩
noncomputable def e_cutPre : Entry := pureE 59 fun H a => match a with
  | [.lit (.string s), .lit (.string p)] => some (.tup [.lit (.string (H ByteArray fun _ => (afterP s p))), .lit (.bool (H Bool fun _ => (isPre s p)))], [])
  | _ => none
theorem eok_cutPre : EntryOk Tryz.prog e_cutPre := pureE_ok (by unfold isBody; kernel_rfl) (by
  intro a r ob e hob
  split at e
  · simp only [Option.some.injEq, Prod.mk.injEq] at e
    obtain ⟨rfl, rfl⟩ := e
    exact c_cutPre _ _
  · simp at e)
theorem afterP_sz (s p : ByteArray) : (afterP s p).size ≤ s.size := by
  unfold afterP Lib.trimPrefix
  show (List.length _) ≤ s.data.toList.length
  split
  · simp
  · exact Nat.le_refl _
theorem isPre_iff {s p : ByteArray} : isPre s p = true ↔ ∃ t, s = p ++ t := by
  unfold isPre Lib.hasPrefix
  rw [List.isPrefixOf_iff_prefix]
  constructor
  · rintro ⟨t, h⟩
    refine ⟨⟨⟨t⟩⟩, ?_⟩
    apply ByteArray.ext; apply Array.ext'
    rw [ByteArray.toList_data_append]; exact h.symm
  · rintro ⟨t, rfl⟩
    rw [ByteArray.toList_data_append]; exact List.prefix_append _ _
theorem isPre_app (p t : ByteArray) : isPre (p ++ t) p = true := isPre_iff.2 ⟨t, rfl⟩
theorem afterP_app (p t : ByteArray) : afterP (p ++ t) p = t := by
  have h := isPre_app p t
  unfold isPre at h
  unfold afterP Lib.trimPrefix
  rw [h, if_pos rfl]
  apply ByteArray.ext; apply Array.ext'
  rw [ByteArray.toList_data_append, List.drop_left]
end Go.Proofs.YtbnohmfapmeaaaaGreatDoor.AM

