import Derived.Test.YtgjjedpoclhkfaaDoorAmT
import Derived.Test.YtgjjedpoclhkfaaDoorSpl
import Derived.Test.YtgjjedpoclhkfaaDoorLet
import Derived.Test.YtgjjedpoclhkfaaDoorNum
set_option linter.unusedVariables false
set_option linter.unusedSimpArgs false
set_option maxRecDepth 100000
set_option maxHeartbeats 4000000
set_option cbv.maxSteps 3000000
namespace Go.Proofs.YtgjjedpoclhkfaaDoor.AM
/- Texts divided into lines; conditions: none. -/
/-- Lines: those that are done, and the one that is being filled; words still to come. -/
def wrap2 (width : Int) (d : List ByteArray) (n : ByteArray) : List ByteArray → List ByteArray
  | [] => d ++ [n]
  | w :: ws => if (n.size : Int) + 1 + (w.size : Int) ≤ width then wrap2 width d (n ++ (spB ++ w)) ws else wrap2 width (d ++ [n]) w ws
def wrapL (width : Int) : List ByteArray → List ByteArray
  | [] => []
  | w :: ws => wrap2 width [] w ws
def wrapT (s : ByteArray) (width : Int) : List ByteArray := wrapL width (wordsB s)
theorem wrap2_y {width : Int} {d : List ByteArray} {n w : ByteArray} {ws : List ByteArray} (h : (n.size : Int) + 1 + (w.size : Int) ≤ width) : wrap2 width d n (w :: ws) = wrap2 width d (n ++ (spB ++ w)) ws := by
  conv => lhs; unfold wrap2
  rw [if_pos h]
theorem wrap2_n {width : Int} {d : List ByteArray} {n w : ByteArray} {ws : List ByteArray} (h : ¬ (n.size : Int) + 1 + (w.size : Int) ≤ width) : wrap2 width d n (w :: ws) = wrap2 width (d ++ [n]) w ws := by
  conv => lhs; unfold wrap2
  rw [if_neg h]
theorem dropW {s : ByteArray} {i : Nat} (h : i < (wordsB s).length) : (wordsB s).drop i = (wordsB s).getD i ByteArray.empty :: (wordsB s).drop (i + 1) := by
  rw [List.drop_eq_getElem_cons h, List.getD_eq_getElem?_getD, List.getElem?_eq_getElem h]; rfl
theorem words_pos (s : ByteArray) : 0 < (wordsB s).length := by
  unfold wordsB
  rw [List.length_map]
  exact List.length_pos_iff.2 (spl_ne _)
theorem set_last {d : List ByteArray} {n m : ByteArray} : (d ++ [n]).set d.length m = d ++ [m] := by
  rw [List.set_append_right _ _ (Nat.le_refl _), Nat.sub_self]; rfl
theorem getD_last {d : List ByteArray} {n m : ByteArray} : (d ++ [n]).getD d.length m = n := by
  rw [List.getD_eq_getElem?_getD, List.getElem?_append_right (Nat.le_refl _), Nat.sub_self]; rfl
theorem wrapT_0 (s : ByteArray) (width : Int) : wrapT s width = wrap2 width [] ((wordsB s).getD 0 ByteArray.empty) ((wordsB s).drop 1) := by
  have h := dropW (s := s) (i := 0) (words_pos s)
  rw [List.drop_zero] at h
  unfold wrapT
  conv => lhs; rw [h]
  rfl
theorem wrapT_end {s : ByteArray} {width : Int} {d : List ByteArray} {n : ByteArray} (h : wrapT s width = wrap2 width d n ((wordsB s).drop (wordsB s).length)) : wrapT s width = d ++ [n] := by
  rw [h, List.drop_length]; rfl
theorem len_last {d : List ByteArray} {n : ByteArray} (h : d.length ≤ 100000) : IntKind.i64.wrap (((d ++ [n]).length : Nat) - 1 : Int) = (d.length : Nat) := by
  rw [List.length_append, List.length_singleton, wi (by omega) (by omega)]; omega

end Go.Proofs.YtgjjedpoclhkfaaDoor.AM
