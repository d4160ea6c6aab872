import Derived.Test.YtoommgpcmgnpaaaDif
import Derived.Test.YtoommgpcmgnpaaaDrA
set_option linter.unusedVariables false
set_option linter.unusedSimpArgs false
set_option maxRecDepth 100000
set_option maxHeartbeats 4000000
set_option cbv.maxSteps 3000000
namespace Go.Proofs.Ytoommgpcmgnpaaa.AM
/- The kinds of differences; arms like others are drawn; conditions: none. -/
def nt (b : Bool) (k : Int) (l : List Int) : List Int := bif b then l ++ [k] else l
def lst (n : Nat) (f : Nat → List AV) : List Int := (List.range n).map (ints f)
theorem lst_len (n : Nat) (f : Nat → List AV) : (lst n f).length = n := by simp [lst]
theorem lst_get (n : Nat) (f : Nat → List AV) : ∀ j, j < n → lget (lst n f) j = ints f j := fun j hj => by simp [lget, lst, hj]
theorem lst_vrow (l : List Int) : lst l.length (vrow (lget l)) = l := by
  refine List.ext_getElem (by simp [lst]) fun i h1 h2 => ?_
  simp only [lst, List.getElem_map, List.getElem_range]
  show lget l i = _
  simp [lget, List.getElem?_eq_getElem h2]
theorem lst_gro {n : Nat} {f : Nat → List AV} (h : ∀ j, j < n → f j = vrow (ints f) j) : Gro n f (lst n f) := ⟨(lst_len n f).symm, fun j hj => by
  rw [lst_len] at hj
  rw [h j hj]
  unfold vrow
  rw [lst_get n f j hj]⟩
def pi2' (i j k : Nat) : Nat := if k = 0 then i else j
end Go.Proofs.Ytoommgpcmgnpaaa.AM
