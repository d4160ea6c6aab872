import Derived.Test.YtoommgpcmgnpaaaAmT
import Derived.Test.YtoommgpcmgnpaaaLst
set_option linter.unusedVariables false
set_option linter.unusedSimpArgs false
set_option maxRecDepth 100000
set_option maxHeartbeats 4000000
set_option cbv.maxSteps 3000000
namespace Go.Proofs.Ytoommgpcmgnpaaa.AM
/- Copies, comparisons and marks of lists of arms; conditions: none. -/
theorem list_ext_getD {α : Type} {a b : List α} (d : α) (h : a.length = b.length) (hj : ∀ j, j < a.length → a.getD j d = b.getD j d) : a = b := by
  refine List.ext_getElem h fun j h2 h3 => ?_
  have := hj j h2
  simpa [List.getD_eq_getElem?_getD, h2, h3] using this
theorem RowsEq.zeros (n : Nat) {f : Nat → List AV} (hf : ∀ j, f j = rowA.cells stdH fun _ => default) : RowsEq 15 (List.replicate n (default : Arm)).length (rowsA stdH fun _ => List.replicate n default) n f :=
  .ofT okRA rfl ⟨fun j _ => by rw [hf j]; rfl⟩ (by
    refine List.ext_getElem (by simp [Tl]) fun i h1 h2 => ?_
    simp only [Tl, List.getElem_map, List.getElem_range, List.getElem_replicate, hf]; rfl)
theorem set_take {α : Type} {a : List α} {d : α} {i : Nat} (h : i < a.length) : (a.take i ++ List.replicate (a.length - i) d).set i (a.getD i d) = a.take (i + 1) ++ List.replicate (a.length - (i + 1)) d := by
  have e : a.length - i = (a.length - (i + 1)) + 1 := by omega
  rw [e, List.replicate_succ, List.set_append_right _ _ (by simp; omega), List.take_succ_eq_append_getElem h, List.append_assoc]
  simp [List.getD_eq_getElem?_getD, h, Nat.min_eq_left (Nat.le_of_lt h)]
theorem RowsEq.put {D : RowD Arm} (ok : RowOk D) {L : List Arm} {j : Nat} {x : Arm} {M : List Arm} (e : L.set j x = M) : RowsEq D.k M.length (rowsT D stdH fun _ => M) L.length (put1 j (D.cells stdH fun _ => x) (rowsT D stdH fun _ => L)) :=
  .ofT ok rfl (Shp_put1 (Shp_rowsT ok _ _) (by rw [ok.of_cells])) (by rw [Tl_put1, Tl_rowsT ok, ok.of_cells, e])

end Go.Proofs.Ytoommgpcmgnpaaa.AM
