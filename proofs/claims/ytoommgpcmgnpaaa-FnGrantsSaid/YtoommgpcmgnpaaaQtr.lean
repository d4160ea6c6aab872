import Derived.Test.YtoommgpcmgnpaaaAmT
import Derived.Test.YtoommgpcmgnpaaaExa
import Derived.Test.YtoommgpcmgnpaaaIdx
set_option linter.unusedVariables false
set_option linter.unusedSimpArgs false
set_option maxRecDepth 100000
set_option maxHeartbeats 4000000
set_option cbv.maxSteps 3000000
namespace Go.Proofs.Ytoommgpcmgnpaaa.AM
/- Quarterings: where arms stand in a list, valid ones, merged ones; conditions: none. -/
theorem eqAC (a b : Arm) : decide (b = a) = allT [fun _ => a.f.d == b.f.d, fun _ => a.f.l == b.f.l, fun _ => a.f.p == b.f.p, fun _ => a.f.q == b.f.q, fun _ => a.o == b.o, fun _ => a.l == b.l, fun _ => a.t == b.t, fun _ => a.n.c == b.n.c, fun _ => a.n.k == b.n.k, fun _ => a.n.a == b.n.a, fun _ => a.n.t == b.n.t, fun _ => a.r.c == b.r.c, fun _ => a.r.k == b.r.k, fun _ => a.r.a == b.r.a, fun _ => a.r.t == b.r.t] := by
  rw [eqAE]; simp [eq_comm]
def noDup (l : List Arm) : Bool := (List.range l.length).all fun i => decide (idxF (fun y => decide (y = l.getD i default)) l = (i : Nat))
def okQ (l : List Arm) : Bool := noDup l && (decide (1 ≤ l.length) && decide (l.length ≤ 12) && !l.any (fun y => !okA y))
theorem noDup_at {l : List Arm} {i : Nat} (h : i < l.length) (e : ¬ idxF (fun y => decide (y = l.getD i default)) l = (i : Nat)) : noDup l = false := by
  rw [← Bool.not_eq_true]; unfold noDup; rw [List.all_eq_true]
  intro q
  exact e (of_decide_eq_true (q i (List.mem_range.2 h)))
theorem noDup_all {l : List Arm} (h : ∀ i, i < l.length → idxF (fun y => decide (y = l.getD i default)) l = (i : Nat)) : noDup l = true := by
  unfold noDup; rw [List.all_eq_true]
  exact fun i hi => decide_eq_true (h i (List.mem_range.1 hi))
theorem okQ_at {l : List Arm} {i : Nat} (h : i < l.length) (e : ¬ idxF (fun y => decide (y = l.getD i default)) l = (i : Nat)) : okQ l = false := by unfold okQ; rw [noDup_at h e]; rfl
theorem okQ_bad {l : List Arm} {i : Nat} (h : i < l.length) (e : okA (l.getD i default) = false) : okQ l = false := by
  have : l.any (fun y => !okA y) = true := List.any_eq_true.2 ⟨_, getD_mem h, by rw [e]; rfl⟩
  unfold okQ; rw [this]; simp
theorem okQ_len {l : List Arm} (h : okQ l = true) : 1 ≤ l.length ∧ l.length ≤ 12 := by
  unfold okQ at h; simp only [Bool.and_eq_true, decide_eq_true_eq] at h; exact ⟨h.2.1.1, h.2.1.2⟩
def mrgS (out : List Arm) (x : Arm) : List Arm := if out.length < 12 ∧ out.any (fun y => decide (y = x)) = false then out ++ [x] else out
def mrg (a b : List Arm) : List Arm := b.foldl mrgS a
theorem foldl_snoc {α β : Type} {f : β → α → β} {l : List α} {i : Nat} {x : β} {d : α} (h : i < l.length) : (l.take (i + 1)).foldl f x = f ((l.take i).foldl f x) (l.getD i d) := by
  rw [List.take_succ_eq_append_getElem h, List.foldl_append, List.getD_eq_getElem?_getD, List.getElem?_eq_getElem h]
  rfl
theorem mrg_len (a b : List Arm) : (mrg a b).length ≤ a.length + b.length := by
  unfold mrg
  induction b generalizing a with
  | nil => simp
  | cons x b ih =>
    rw [List.foldl_cons]
    refine Nat.le_trans (ih _) ?_
    unfold mrgS
    split <;> simp <;> omega
theorem mrg_full {a : List Arm} (b : List Arm) (h : 12 ≤ a.length) : mrg a b = a := by
  unfold mrg
  induction b with
  | nil => rfl
  | cons x b ih => rw [List.foldl_cons, show mrgS a x = a by unfold mrgS; rw [if_neg (by omega)], ih]
theorem mrg_take (a b : List Arm) (i : Nat) : mrg a b = mrg (mrg a (b.take i)) (b.drop i) := by
  unfold mrg; rw [← List.foldl_append, List.take_append_drop]
theorem app0 (a : List Arm) : RowsEq 15 a.length (rowsA stdH fun _ => a) a.length (app 0 (rowsOf 15 []) (rowsA stdH fun _ => a)) := by
  have e : app 0 (rowsOf 15 []) (rowsA stdH fun _ => a) = rowsA stdH fun _ => a := by
    funext j; rw [app_ge (Nat.zero_le _)]; rfl
  rw [e]; exact .self okRA
theorem mrg_c {L : List Arm} {x : Arm} (h : (bif decide ((L.length : Int) < 12) then !L.any (fun y => decide (y = x)) else false) = true) : L.length < 12 ∧ L.any (fun y => decide (y = x)) = false := by
  cases h1 : L.any (fun y => decide (y = x)) <;> by_cases h2 : (L.length : Int) < 12 <;> simp [h1, h2] at h ⊢ <;> omega
theorem mrg_n {L : List Arm} {x : Arm} (h : (bif decide ((L.length : Int) < 12) then !L.any (fun y => decide (y = x)) else false) = false) : ¬ (L.length < 12 ∧ L.any (fun y => decide (y = x)) = false) := by
  rintro ⟨h1, h2⟩
  rw [decide_eq_true (by omega), h2] at h; cases h
theorem mrg_w {L : List Arm} {i n : Nat} (h : (bif decide ((i : Int) < (n : Int)) then decide ((L.length : Int) < 12) else false) = true) : i < n ∧ L.length < 12 := by
  by_cases h1 : (i : Int) < (n : Int)
  · rw [decide_eq_true h1] at h; have h : decide ((L.length : Int) < 12) = true := h; simp at h; omega
  · rw [decide_eq_false h1] at h; cases h
theorem mrg_x {L : List Arm} {i n : Nat} (h : (bif decide ((i : Int) < (n : Int)) then decide ((L.length : Int) < 12) else false) = false) : n ≤ i ∨ 12 ≤ L.length := by
  by_cases h1 : (i : Int) < (n : Int)
  · rw [decide_eq_true h1] at h; have h : decide ((L.length : Int) < 12) = false := h; simp at h; omega
  · omega

end Go.Proofs.Ytoommgpcmgnpaaa.AM
