import Derived.Test.YtgjjedpoclhkfaaDoorAmT
import Derived.Test.YtgjjedpoclhkfaaDoorLst
set_option linter.unusedVariables false
set_option linter.unusedSimpArgs false
set_option maxRecDepth 100000
set_option maxHeartbeats 4000000
set_option cbv.maxSteps 3000000
namespace Go.Proofs.YtgjjedpoclhkfaaDoor.AM
/- Numbers as texts; marks of texts; conditions: none. -/
theorem beqT (s t : ByteArray) : (s.toList == t.toList) = decide (s = t) := by
  rw [Bool.eq_iff_iff, beq_iff_eq, decide_eq_true_eq, ByteArray.toList_eq, ByteArray.toList_eq]
  exact ⟨fun h => ByteArray.ext (Array.ext' h), fun h => by rw [h]⟩
theorem size_byteT (a : Int) : (byteT a).size = 1 := by unfold byteT; rfl
theorem bszN (l : List UInt8) : (ByteArray.mk (Array.mk l)).size = l.length := rfl
def digs : Nat → Nat → ByteArray → ByteArray
  | 0, _, o => o
  | f + 1, k, o => if k = 0 then o else digs f (k / 10) (byteT (48 + (k % 10 : Nat)) ++ o)
theorem digs_fuel : ∀ (f g k : Nat) (o : ByteArray), k ≤ f → k ≤ g → digs f k o = digs g k o := by
  intro f
  induction f with
  | zero => intro g k o h _; obtain rfl : k = 0 := by omega
            cases g <;> simp [digs]
  | succ f ih =>
    intro g k o h1 h2
    by_cases hk : k = 0
    · subst hk; cases g <;> simp [digs]
    · cases g with
      | zero => omega
      | succ g =>
        unfold digs
        rw [if_neg hk, if_neg hk]
        exact ih g (k / 10) _ (by omega) (by omega)
theorem digs_step {k : Nat} {o : ByteArray} (h : k ≠ 0) : digs k k o = digs (k / 10) (k / 10) (byteT (48 + (k % 10 : Nat)) ++ o) := by
  cases k with
  | zero => exact absurd rfl h
  | succ k =>
    conv => lhs; unfold digs
    rw [if_neg h]
    exact digs_fuel _ _ _ _ (by omega) (Nat.le_refl _)
/-- The mark of a number. -/
def markT (k : Int) : ByteArray := if k ≤ 0 then (⟨⟨[109, 48]⟩⟩ : ByteArray) else (⟨⟨[109]⟩⟩ : ByteArray) ++ digs k.toNat k.toNat ByteArray.empty
theorem markT_sz (k : Int) : (markT k).size ≤ k.toNat + 2 := by
  have : ∀ (f k : Nat) (o : ByteArray), (digs f k o).size ≤ o.size + k := by
    intro f
    induction f with
    | zero => intro k o; simp [digs]
    | succ f ih =>
      intro k o
      unfold digs
      split
      · omega
      · refine Nat.le_trans (ih _ _) ?_
        rw [ByteArray.size_append, size_byteT]; omega
  have h := this k.toNat k.toNat ByteArray.empty
  have e : ByteArray.empty.size = 0 := rfl
  unfold markT
  split
  · show 2 ≤ _; omega
  · rw [ByteArray.size_append]
    have : ((⟨⟨[109]⟩⟩ : ByteArray)).size = 1 := rfl
    omega
theorem TlS' (L : List ByteArray) : Tl rowS L.length (rowsS stdH fun _ => L) = L := Tl_rowsT okS L
theorem ShpS' (n : Nat) (L : List ByteArray) : Shp rowS n (rowsS stdH fun _ => L) := Shp_rowsT okS n (fun _ => L)
/-- Marks. -/
def mkS (n : Nat) (k : Int) : List ByteArray := (List.range n).map fun i => markT (k + (i : Nat))
theorem mkS_len (n : Nat) (k : Int) : (mkS n k).length = n := by simp [mkS]
theorem mkS_getD {n i : Nat} {k : Int} (h : i < n) : (mkS n k).getD i ByteArray.empty = markT (k + (i : Nat)) := by simp [mkS, List.getD_eq_getElem?_getD, h]
theorem mkS_succ (n : Nat) (k : Int) : mkS (n + 1) k = mkS n k ++ [markT (k + (n : Nat))] := by simp [mkS, List.range_succ]
theorem mkS_set {l : List ByteArray} {i : Nat} {k : Int} (h : i < l.length) : (mkS i k ++ l.drop i).set i (markT (k + (i : Nat))) = mkS (i + 1) k ++ l.drop (i + 1) := by
  rw [List.set_append_right _ _ (by rw [mkS_len]; omega), mkS_len, Nat.sub_self, List.drop_eq_getElem_cons h, List.set_cons_zero, mkS_succ, List.append_assoc]
  rfl
theorem RowsEq.setS {L M : List ByteArray} {i : Nat} {x y : ByteArray} (e : y = x) (h : L.set i x = M) : RowsEq 1 M.length (rowsS stdH fun _ => M) L.length (put1 i [.lit (.string y)] (rowsS stdH fun _ => L)) := by
  subst e
  subst h
  exact RowsEq.ofT okS rfl (Shp_put1 (Shp_rowsT (D := rowS) okS L.length fun _ => L) rfl) (by rw [Tl_put1]; exact congrArg (fun l => List.set l i y) (Tl_rowsT okS L).symm)
theorem list_extS {a b : List ByteArray} (h : a.length = b.length) (hj : ∀ j, j < a.length → a.getD j ByteArray.empty = b.getD j ByteArray.empty) : a = b := by
  refine List.ext_getElem h fun j h2 h3 => ?_
  have := hj j h2
  simpa [List.getD_eq_getElem?_getD, h2, h3] using this
theorem sts_len (n : Nat) (k : Int) : Tl rowS n (rowsS stdH fun _ => mkS n k) = mkS n k := by
  have := Tl_rowsT okS (mkS n k)
  rw [mkS_len] at this
  exact this

end Go.Proofs.YtgjjedpoclhkfaaDoor.AM
