import Derived.Test.YthilcnfnbgbkdaaDoorAmT
import Derived.Test.YthilcnfnbgbkdaaDoorDqu
import Derived.Test.YthilcnfnbgbkdaaDoorShv
set_option linter.unusedVariables false
set_option linter.unusedSimpArgs false
set_option maxRecDepth 100000
set_option maxHeartbeats 4000000
set_option cbv.maxSteps 3000000
namespace Go.Proofs.YthilcnfnbgbkdaaDoor.AM
/- Quarterings inherited: the program's and the reference's; conditions: none. -/
def inh (f : List Arm) (ds : List Dsc) : List Arm := ds.foldl (fun o d => if d.hs = true then mrg o d.own else o) f
def okI2 (f : List Arm) (ds : List Dsc) : Bool := okQ f && (decide (ds.length ≤ 8) && ds.all fun d => okQ d.own)
theorem inh_succ {f : List Arm} {ds : List Dsc} {i : Nat} (h : i < ds.length) : inh f (ds.take (i + 1)) = if (ds.getD i default).hs = true then mrg (inh f (ds.take i)) (ds.getD i default).own else inh f (ds.take i) := by
  unfold inh
  rw [foldl_snoc (d := default) h]
theorem mrg_le {a b : List Arm} (h : a.length ≤ 12) : (mrg a b).length ≤ 12 := by
  unfold mrg
  induction b generalizing a with
  | nil => exact h
  | cons x b ih =>
    rw [List.foldl_cons]
    refine ih ?_
    unfold mrgS
    split
    · rename_i hc
      rw [List.length_append, List.length_singleton]; omega
    · exact h
theorem inh_le {f : List Arm} {ds : List Dsc} (h : f.length ≤ 12) : (inh f ds).length ≤ 12 := by
  unfold inh
  induction ds generalizing f with
  | nil => exact h
  | cons d ds ih =>
    rw [List.foldl_cons]
    refine ih ?_
    split
    · exact mrg_le h
    · exact h
structure Own (ds : List Dsc) : Prop where
  le : ∀ d ∈ ds, d.own.length ≤ 1000
theorem Own.at {ds : List Dsc} (h : Own ds) (i : Nat) : (ds.getD i default).own.length ≤ 1000 := by
  rw [List.getD_eq_getElem?_getD]
  cases e : ds[i]? with
  | none => exact Nat.zero_le _
  | some d => exact h.le d (List.mem_of_getElem? e)
theorem okI2_at {f : List Arm} {ds : List Dsc} {i : Nat} (h : i < ds.length) (e : okQ (ds.getD i default).own = false) : okI2 f ds = false := by
  have : (ds.all fun d => okQ d.own) = false := by
    rw [List.all_eq_false]
    exact ⟨_, getDm (d := default) h, by rw [e]; decide⟩
  unfold okI2
  rw [this]; simp
theorem okI2_all {f : List Arm} {ds : List Dsc} (hf : okQ f = true) (hl : ds.length ≤ 8) (h : ∀ j, j < ds.length → okQ (ds.getD j default).own = true) : okI2 f ds = true := by
  unfold okI2
  rw [hf, decide_eq_true hl]
  simp only [Bool.true_and, List.all_eq_true]
  intro d hd
  obtain ⟨j, hj, rfl⟩ := List.getElem_of_mem hd
  have := h j hj
  rwa [List.getD_eq_getElem?_getD, List.getElem?_eq_getElem hj, Option.getD_some] at this
theorem okI2_cond {f : List Arm} {ds : List Dsc} (h : (bif !okQ f then true else decide ((8 : Int) < (ds.length : Nat))) = false) : okQ f = true ∧ ds.length ≤ 8 := by
  cases hq : okQ f with
  | false => rw [hq] at h; cases h
  | true =>
    rw [hq] at h
    have h : decide ((8 : Int) < (ds.length : Nat)) = false := h
    rw [decide_eq_false_iff_not] at h
    exact ⟨rfl, by omega⟩
theorem okI2_no {f : List Arm} {ds : List Dsc} (h : (bif !okQ f then true else decide ((8 : Int) < (ds.length : Nat))) = true) : okI2 f ds = false := by
  unfold okI2
  cases hq : okQ f with
  | false => rfl
  | true =>
    rw [hq] at h
    have h : decide ((8 : Int) < (ds.length : Nat)) = true := h
    rw [decide_eq_true_eq] at h
    rw [decide_eq_false (by omega)]; rfl

end Go.Proofs.YthilcnfnbgbkdaaDoor.AM
