import Derived.Test.YtfamdalilcbloaaAmT
import Derived.Test.YtfamdalilcbloaaQtr
import Derived.Test.YtfamdalilcbloaaDel
set_option linter.unusedVariables false
set_option linter.unusedSimpArgs false
set_option maxRecDepth 100000
set_option maxHeartbeats 4000000
set_option cbv.maxSteps 3000000
namespace Go.Proofs.Ytfamdalilcbloaa.AM
/- Arms left out of a list: plain facts; conditions: none. -/
def okL2 (l : List Arm) (i : Int) : Bool := okQ l && inB i 1 ((l.length : Nat) - 1)
def lvo (l : List Arm) (i : Int) : List Arm := l.take i.toNat ++ l.drop (i.toNat + 1)
theorem inB_iff {x a b : Int} : inB x a b = true ↔ a ≤ x ∧ x ≤ b := by unfold inB; rw [decide_eq_true_eq]
theorem okL2_in {l : List Arm} {i : Int} (h : okL2 l i = true) : okQ l = true ∧ inB i 1 ((l.length : Nat) - 1) = true ∧ 1 ≤ i ∧ i < (l.length : Nat) := by
  unfold okL2 at h
  rw [Bool.and_eq_true] at h
  have := inB_iff.1 h.2
  exact ⟨h.1, h.2, by omega, by omega⟩
theorem lvo_len {l : List Arm} {i : Int} (h : okL2 l i = true) : (lvo l i).length = l.length - 1 := by
  have := okL2_in h
  unfold lvo
  rw [List.length_append, List.length_take, List.length_drop]
  omega
theorem Tl_del {α : Type} {D : RowD α} {L : List α} (ok : RowOk D) {a : Nat} (h : a < L.length) : Tl D (L.length - 1) (delR a (rowsT D stdH fun _ => L)) = L.take a ++ L.drop (a + 1) := by
  refine List.ext_getElem (by simp [Tl]; omega) fun j h1 h2 => ?_
  have hj : j < L.length - 1 := by simpa [Tl] using h1
  simp only [Tl, List.getElem_map, List.getElem_range]
  by_cases hja : j < a
  · rw [delR_lt hja, rowsT, ok.row, ok.of_cells, List.getElem_append_left (by rw [List.length_take]; omega), List.getElem_take, List.getD_eq_getElem?_getD, List.getElem?_eq_getElem (by omega), Option.getD_some]
  · rw [delR_ge (by omega), rowsT, ok.row, ok.of_cells, List.getElem_append_right (by rw [List.length_take]; omega), List.getElem_drop, List.getD_eq_getElem?_getD, List.getElem?_eq_getElem (by omega), Option.getD_some]
    congr 1
    rw [List.length_take]; omega
theorem Shp_del {α : Type} {D : RowD α} {L : List α} (ok : RowOk D) (a n : Nat) : Shp D n (delR a (rowsT D stdH fun _ => L)) := ⟨fun j _ => by
  unfold delR
  cases Nat.blt j a with
  | true => exact (Shp_rowsT ok (j + 1) (fun _ => L)).row j (by omega)
  | false => exact (Shp_rowsT ok (j + 2) (fun _ => L)).row (j + 1) (by omega)⟩
theorem rows_del {L : List Arm} {i : Int} (h : okL2 L i = true) : RowsEq 15 (lvo L i).length (rowsA stdH fun _ => lvo L i) (L.length - 1) (delR i.toNat (rowsA stdH fun _ => L)) :=
  .ofT okRA rfl (Shp_del okRA _ _) (by
    have := okL2_in h
    exact (Tl_del okRA (by omega)).symm)
theorem wl1 {n : Nat} (h : n ≤ 1048576) : IntKind.i64.wrap ((n : Int) - 1) = (n : Int) - 1 := wi (by omega) (by omega)
theorem lv_cond (l : List Arm) (i : Int) (h : l.length ≤ 1048576) : (bif !okQ l then true else !inB i 1 (IntKind.i64.wrap ((l.length : Int) - 1))) = !okL2 l i := by
  rw [wl1 h]
  unfold okL2
  cases okQ l <;> cases inB i 1 ((l.length : Nat) - 1) <;> rfl
theorem RowsEq.parts {L : List Arm} {a : Nat} (h : a < L.length) : RowsEq 15 (L.take a ++ L.drop (a + 1)).length (rowsA stdH fun _ => L.take a ++ L.drop (a + 1)) (a + (L.length - (a + 1))) (app a (fun j => rowsA stdH (fun _ => L) (0 + j)) fun j => rowsA stdH (fun _ => L) (a + 1 + j)) := by
  refine .ofT okRA rfl (Shp_app ⟨fun j hj => (Shp_A (0 + j + 1) L).row (0 + j) (by omega)⟩ ⟨fun j hj => (Shp_A (a + 1 + j + 1) L).row (a + 1 + j) (by omega)⟩) ?_
  rw [Tl_app]
  congr 1
  · refine List.ext_getElem (by simp [Tl]; omega) fun j h1 h2 => ?_
    have hj : j < L.length := by rw [List.length_take] at h1; omega
    simp only [Tl, List.getElem_map, List.getElem_range, List.getElem_take, Nat.zero_add]
    have := okRA.of_cells (L.getD j default)
    rw [show rowsA stdH (fun _ => L) j = rowA.cells stdH fun _ => L.getD j default from rfl, this, List.getD_eq_getElem?_getD, List.getElem?_eq_getElem hj, Option.getD_some]
  · refine List.ext_getElem (by simp [Tl]) fun j h1 h2 => ?_
    have hj : a + 1 + j < L.length := by rw [List.length_drop] at h1; omega
    simp only [Tl, List.getElem_map, List.getElem_range, List.getElem_drop]
    have := okRA.of_cells (L.getD (a + 1 + j) default)
    rw [show rowsA stdH (fun _ => L) (a + 1 + j) = rowA.cells stdH fun _ => L.getD (a + 1 + j) default from rfl, this, List.getD_eq_getElem?_getD, List.getElem?_eq_getElem hj, Option.getD_some]

end Go.Proofs.Ytfamdalilcbloaa.AM
