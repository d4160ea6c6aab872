/- Contracts and lemmas (MemA) for the laws of this seat: what the Go functions named here return, for all arguments that each theorem states; no further conditions. -/
import Derived.Test.YtbljimjanoondaaData
import Derived.Test.YtbljimjanoondaaEq
import Derived.Test.YtbljimjanoondaaM1
import Derived.Test.YtbljimjanoondaaMem
import Derived.Test.YtbljimjanoondaaOpen
import Derived.Test.YtbljimjanoondaaUp
import Derived.Test.YtbljimjanoondaaWa
import Derived.Test.YtbljimjanoondaaWb
import Derived.Test.YtbljimjanoondaaRows
import Derived.WalkKit
import Derived.ProofKit
import Derived.OpenShut
import Derived.WalkLawsBesides
import Derived.Lib.Hide
import Derived.Deep.QuietTactic
import Derived.BigQuiet
import Derived.Deep.Light
import Derived.Handy
namespace Go.Proofs.Ytbljimjanoondaa
set_option maxRecDepth 100000
open Go.ChangeShapes Go.WideShapes Go.ChangeAt Go.RowKit
set_option linter.unusedVariables false
set_option linter.unusedSimpArgs false

theorem infoA : (Try.prog.info? 44).map (·.size) = some 15 := by kernel_rfl

theorem arms_cells {w : World} {b o : Nat} {A : Arms} (h : w.rangeAt b o A.cells) : w.cell? ⟨b, o, none⟩ = some (.int .i64 A.fd) ∧ ∀ j, j < 15 → w.cell? ⟨b, o + j, none⟩ = A.arr[j]? := by
  have key : ∀ j, j < 15 → w.cell? ⟨b, o + j, none⟩ = A.arr[j]? := fun j hj => by
    have hj' : j < A.cells.length := hj
    rw [h j _ (List.getElem?_eq_getElem hj'), ← List.getElem?_eq_getElem hj']
    exact Array.getElem?_toList
  exact ⟨by have := key 0 (by omega); simpa using this, key⟩
theorem int_cell {w : World} {b o : Nat} {k : IntKind} {x : Int} (h : w.rangeAt b o [.int k x]) : w.cell? ⟨b, o, none⟩ = some (.int k x) := by simpa using h 0 _ rfl

/-- The index of the first occurrence, or -1. -/
def findA (l : List Arms) (a : Arms) : Int := if a ∈ l then (l.idxOf a : Nat) else -1
theorem findA_hit {l : List Arms} {a : Arms} {k : Nat} (h : l[k]? = some a) (hn : a ∉ l.take k) : findA l a = k := by
  have hm : a ∈ l := List.mem_iff_getElem?.2 ⟨k, h⟩
  unfold findA
  rw [if_pos hm]
  congr 1
  obtain ⟨hk, he⟩ := List.getElem?_eq_some_iff.1 h
  have hsplit : l = l.take k ++ a :: l.drop (k + 1) := by
    rw [← he, List.getElem_cons_drop, List.take_append_drop]
  rw [hsplit, List.idxOf_append, if_neg hn]
  simp [List.length_take, Nat.min_eq_left (Nat.le_of_lt hk)]
theorem findA_miss {l : List Arms} {a : Arms} (h : a ∉ l) : findA l a = -1 := if_neg h
theorem not_mem_take {l : List Arms} {a b : Arms} {k : Nat} (h : l[k]? = some b) (hn : a ∉ l.take k) (hne : b ≠ a) : a ∉ l.take (k + 1) := by
  rw [List.take_add_one, h]
  simp only [Option.toList_some, List.mem_append, List.mem_singleton, not_or]
  exact ⟨hn, fun e => hne e.symm⟩

set_option maxHeartbeats 1000000 in
theorem c_l21Find (A : Option Addr) (cap : Nat) (l : List Arms) (X : Arms) (w : World) (hr : Rd w 15 Arms.cells A cap l) :
    Calls Try.prog 53 #[.slice A l.length cap, .agg X.arr] w fun e w' => e = .returned (.int .i64 (findA l X)) ∧ Up w w' := by
  have hmax : l.length ≤ 9223372036854775807 := by have h1 := hr.le; have h2 := hr.max; unfold maxLen at h2; omega
  go_enter Try.func53, Try.ntmps53
  go_wp2
  go_loopw [5] (fun i wr => ∃ k : Nat, k ≤ l.length ∧ i = .int .i64 k ∧ Up (w.alloc (.cells X.arr 44)) wr ∧ X ∉ l.take k) (fun i _ => l.length - (intOf i).toNat)
  case atStart => exact ⟨0, by omega, rfl, Up.refl _, by simp⟩
  case round =>
    obtain ⟨k, hk, rfl, hup, hnot⟩ := hrel
    have h1 := hup.box
    by_cases hlt : k < l.length
    · obtain ⟨Y, b, o, hY, rfl, hra⟩ := (hr.up ((Up.refl w).alloc _ |>.trans hup)).get hlt
      have hE := run_eqA
      have hbox := box_range hup
      have HY := Lib.hid hY
      clear hY
      have hcap : l.length ≤ cap := hr.le
      by_cases hXY : Y = X
      · have HXY := Lib.hid hXY
        have hd : decide (Y = X) = true := by simpa using hXY
        clear hXY
        go_wp2
        (refine wp_region_quiet_lit (by kernel_rfl) (by kernel_rfl) ?_; (repeat (first | (refine wpQuiet_load_agg 44 _ rfl rfl _ _ rfl Y.arr _ (rangeAt_drewN hra) Try.underlying44 rfl infoA ?_; simp only [Act.put, List.setIfInBounds_toArray, List.set_cons_succ, List.set_cons_zero]) | (refine wpQuiet_load_agg 44 _ rfl rfl _ _ rfl X.arr _ (rangeAt_drewN hbox) Try.underlying44 rfl infoA ?_; simp only [Act.put, List.setIfInBounds_toArray, List.set_cons_succ, List.set_cons_zero]) | go_big_quiet_step (fail))); refine wpQuiet_nil ?_; intro _ hw'; obtain ⟨nq, hw''⟩ := hw'; subst hw'')
        go_wp2
        go_ret
        exact ⟨ret_int (findA_hit (by rw [HY.out, HXY.out]) hnot).symm, by (repeat (first | (with_reducible exact Up.refl _) | (with_reducible assumption) | (with_reducible refine Up.alloc ?_ _) | (with_reducible refine Up.drew ?_) | (with_reducible refine Up.drewN ?_ _) | (with_reducible refine Up.store ?_ ?_ _) | (with_reducible refine Up.trans ?_ (by assumption)) | (exact Nat.le_refl _) | (exact Nat.le_add_right _ _) | (go_light; omega)))⟩
      · have hd : decide (Y = X) = false := by simpa using hXY
        have HXY := Lib.hid hXY
        clear hXY
        go_wp2
        (refine wp_region_quiet_lit (by kernel_rfl) (by kernel_rfl) ?_; (repeat (first | (refine wpQuiet_load_agg 44 _ rfl rfl _ _ rfl Y.arr _ (rangeAt_drewN hra) Try.underlying44 rfl infoA ?_; simp only [Act.put, List.setIfInBounds_toArray, List.set_cons_succ, List.set_cons_zero]) | (refine wpQuiet_load_agg 44 _ rfl rfl _ _ rfl X.arr _ (rangeAt_drewN hbox) Try.underlying44 rfl infoA ?_; simp only [Act.put, List.setIfInBounds_toArray, List.set_cons_succ, List.set_cons_zero]) | go_big_quiet_step (fail))); refine wpQuiet_nil ?_; intro _ hw'; obtain ⟨nq, hw''⟩ := hw'; subst hw'')
        go_wp2
        go_roundw
        case rel => exact ⟨k + 1, by omega, by go_num, hup.drewN _, not_mem_take HY.out hnot HXY.out⟩
        case measure => simp [intOf]; omega
    · go_wp2
      go_ret
      exact ⟨ret_int (findA_miss (by rwa [List.take_of_length_le (by omega)] at hnot)).symm, by (repeat (first | (with_reducible exact Up.refl _) | (with_reducible assumption) | (with_reducible refine Up.alloc ?_ _) | (with_reducible refine Up.drew ?_) | (with_reducible refine Up.drewN ?_ _) | (with_reducible refine Up.store ?_ ?_ _) | (with_reducible refine Up.trans ?_ (by assumption)) | (exact Nat.le_refl _) | (exact Nat.le_add_right _ _) | (go_light; omega)))⟩

set_option maxHeartbeats 1000000 in
theorem c_IndexA (A : Option Addr) (cap : Nat) (l : List Arms) (X : Arms) (w : World) (hr : Rd w 15 Arms.cells A cap l) :
    Calls Try.prog 41 #[.slice A l.length cap, .agg X.arr] w fun e w' => e = .returned (.int .i64 (findA l X)) ∧ Up w w' := by
  have hmax : l.length ≤ 9223372036854775807 := by have h1 := hr.le; have h2 := hr.max; unfold maxLen at h2; omega
  go_enter Try.func41, Try.ntmps41
  go_wp2
  go_loopw [8] (fun i wr => ∃ k : Nat, k ≤ l.length ∧ i = .int .i64 k ∧ Up (w.alloc (.cells X.arr 44)) wr ∧ X ∉ l.take k) (fun i _ => l.length - (intOf i).toNat)
  case atStart => exact ⟨0, by omega, rfl, Up.refl _, by simp⟩
  case round =>
    obtain ⟨k, hk, rfl, hup, hnot⟩ := hrel
    by_cases hlt : k < l.length
    · obtain ⟨Y, b, o, hY, rfl, hra⟩ := (hr.up ((Up.refl w).alloc _ |>.trans hup)).get hlt
      have hE := run_eqA
      have hbox := box_range hup
      have HY := Lib.hid hY
      clear hY
      have hcap : l.length ≤ cap := hr.le
      by_cases hXY : X = Y
      · have HXY := Lib.hid hXY
        have hd : decide (X = Y) = true := by simpa using hXY
        clear hXY
        go_wp2
        (refine wp_region_quiet_lit (by kernel_rfl) (by kernel_rfl) ?_; (repeat (first | (refine wpQuiet_load_agg 44 _ rfl rfl _ _ rfl Y.arr _ (rangeAt_drewN hra) Try.underlying44 rfl infoA ?_; simp only [Act.put, List.setIfInBounds_toArray, List.set_cons_succ, List.set_cons_zero]) | (refine wpQuiet_load_agg 44 _ rfl rfl _ _ rfl X.arr _ (rangeAt_drewN hbox) Try.underlying44 rfl infoA ?_; simp only [Act.put, List.setIfInBounds_toArray, List.set_cons_succ, List.set_cons_zero]) | go_big_quiet_step (fail))); refine wpQuiet_nil ?_; intro _ hw'; obtain ⟨nq, hw''⟩ := hw'; subst hw'')
        go_wp2
        go_ret
        exact ⟨ret_int (findA_hit (by rw [HY.out, HXY.out]) hnot).symm, by (repeat (first | (with_reducible exact Up.refl _) | (with_reducible assumption) | (with_reducible refine Up.alloc ?_ _) | (with_reducible refine Up.drew ?_) | (with_reducible refine Up.drewN ?_ _) | (with_reducible refine Up.store ?_ ?_ _) | (with_reducible refine Up.trans ?_ (by assumption)) | (exact Nat.le_refl _) | (exact Nat.le_add_right _ _) | (go_light; omega)))⟩
      · have hd : decide (X = Y) = false := by simpa using hXY
        have HXY := Lib.hid hXY
        clear hXY
        go_wp2
        (refine wp_region_quiet_lit (by kernel_rfl) (by kernel_rfl) ?_; (repeat (first | (refine wpQuiet_load_agg 44 _ rfl rfl _ _ rfl Y.arr _ (rangeAt_drewN hra) Try.underlying44 rfl infoA ?_; simp only [Act.put, List.setIfInBounds_toArray, List.set_cons_succ, List.set_cons_zero]) | (refine wpQuiet_load_agg 44 _ rfl rfl _ _ rfl X.arr _ (rangeAt_drewN hbox) Try.underlying44 rfl infoA ?_; simp only [Act.put, List.setIfInBounds_toArray, List.set_cons_succ, List.set_cons_zero]) | go_big_quiet_step (fail))); refine wpQuiet_nil ?_; intro _ hw'; obtain ⟨nq, hw''⟩ := hw'; subst hw'')
        go_wp2
        go_roundw
        case rel => exact ⟨k + 1, by omega, by go_num, hup.drewN _, not_mem_take HY.out hnot (fun e => HXY.out e.symm)⟩
        case measure => simp [intOf]; omega
    · go_wp2
      go_ret
      exact ⟨ret_int (findA_miss (by rwa [List.take_of_length_le (by omega)] at hnot)).symm, by (repeat (first | (with_reducible exact Up.refl _) | (with_reducible assumption) | (with_reducible refine Up.alloc ?_ _) | (with_reducible refine Up.drew ?_) | (with_reducible refine Up.drewN ?_ _) | (with_reducible refine Up.store ?_ ?_ _) | (with_reducible refine Up.trans ?_ (by assumption)) | (exact Nat.le_refl _) | (exact Nat.le_add_right _ _) | (go_light; omega)))⟩

theorem findA_nonneg {l : List Arms} {X : Arms} : decide (0 ≤ findA l X) = decide (X ∈ l) := by
  unfold findA; split <;> simp [*]
theorem c_ContainsA (A : Option Addr) (cap : Nat) (l : List Arms) (X : Arms) (w : World) (hr : Rd w 15 Arms.cells A cap l) :
    Calls Try.prog 56 #[.slice A l.length cap, .agg X.arr] w fun e w' => e = .returned (.bool (decide (X ∈ l))) ∧ Up w w' := by
  have hb := box_range (Up.refl (w.alloc (.cells X.arr 44)))
  have hr' := hr.up ((Up.refl w).alloc (.cells X.arr 44))
  go_enter Try.func56, Try.ntmps56
  go_wp2_with (first | (go_at_call 41; refine (c_IndexA _ _ _ _ _ hr').mono ?_; rintro e w1 ⟨rfl, hb1⟩; obtain ⟨hc1, hf1, hz1⟩ := hb1.use (N := w.heap.size + 0) (by first | (simp; done) | omega | (simp; omega))) | (refine wpList_load_agg 44 _ rfl rfl _ _ rfl X.arr _ hb Try.underlying44 rfl infoA ?_))
  go_ret
  exact ⟨ret_bool findA_nonneg, by (repeat (first | (with_reducible exact Up.refl _) | (with_reducible assumption) | (with_reducible refine Up.alloc ?_ _) | (with_reducible refine Up.drew ?_) | (with_reducible refine Up.drewN ?_ _) | (with_reducible refine Up.store ?_ ?_ _) | (with_reducible refine Up.trans ?_ (by assumption)) | (exact Nat.le_refl _) | (exact Nat.le_add_right _ _) | (go_light; omega)))⟩

/-- No arms occur twice. -/
def dist (l : List Arms) : Bool := (List.range l.length).all fun i => decide (findA l (l.getD i default) = i)
def goodQ (l : List Arms) : Bool := inB l.length 1 12 && l.all goodA && dist l
theorem dist_iff {l : List Arms} : dist l = true ↔ ∀ (i : Nat) (a : Arms), l[i]? = some a → findA l a = i := by
  unfold dist
  rw [List.all_eq_true]
  constructor
  · intro h i a hi
    have hlt := (List.getElem?_eq_some_iff.1 hi).1
    have := h i (List.mem_range.2 hlt)
    simp only [List.getD_eq_getElem?_getD, hi, Option.getD_some, decide_eq_true_eq] at this
    exact this
  · intro h i hi
    have hlt := List.mem_range.1 hi
    simp only [List.getD_eq_getElem?_getD, List.getElem?_eq_getElem hlt, Option.getD_some, decide_eq_true_eq]
    exact h i _ (List.getElem?_eq_getElem hlt)
theorem dist_not {l : List Arms} {i : Nat} {a : Arms} (hi : l[i]? = some a) (hne : findA l a ≠ i) : dist l = false := by
  rw [Bool.eq_false_iff]; intro h; exact hne (dist_iff.1 h i a hi)
theorem all_not {l : List Arms} {p : Arms → Bool} {i : Nat} {a : Arms} (hi : l[i]? = some a) (hp : p a = false) : l.all p = false := by
  rw [Bool.eq_false_iff]; intro h
  have := List.all_eq_true.1 h a (List.mem_iff_getElem?.2 ⟨i, hi⟩)
  rw [hp] at this; cases this
theorem all_iff {l : List Arms} {p : Arms → Bool} : l.all p = true ↔ ∀ (i : Nat) (a : Arms), l[i]? = some a → p a = true := by
  rw [List.all_eq_true]
  constructor
  · intro h i a hi; exact h a (List.mem_iff_getElem?.2 ⟨i, hi⟩)
  · intro h a ha; obtain ⟨i, hi⟩ := List.mem_iff_getElem?.1 ha; exact h i a hi
theorem goodQ_nonneg {l : List Arms} (h : goodQ l = true) : 1 ≤ l.length ∧ l.length ≤ 12 := by
  unfold goodQ at h; simp only [Bool.and_eq_true] at h; have := inB_true h.1.1; omega

set_option maxHeartbeats 1000000 in
theorem c_l21Good (A : Option Addr) (cap : Nat) (l : List Arms) (w : World) (hr : Rd w 15 Arms.cells A cap l) :
    Calls Try.prog 40 #[.slice A l.length cap] w fun e w' => e = .returned (.bool (goodQ l)) ∧ Up w w' := by
  have hmax : l.length ≤ 9223372036854775807 := by have h1 := hr.le; have h2 := hr.max; unfold maxLen at h2; omega
  go_enter Try.func40, Try.ntmps40
  go_wp2
  go_loopw [3] (fun i wr => ∃ k : Nat, k ≤ l.length ∧ i = .int .i64 k ∧ Up w wr ∧ Hid (∀ (i : Nat) (a : Arms), i < k → l[i]? = some a → goodA a = true ∧ findA l a = i)) (fun i _ => l.length - (intOf i).toNat)
  case atStart => exact ⟨0, by omega, rfl, Up.refl _, by intro i a h; exact absurd h (Nat.not_lt_zero _)⟩
  case round =>
    obtain ⟨k, hk, rfl, hup, hall⟩ := hrel
    by_cases hlt : k < l.length
    · obtain ⟨Y, b, o, hY, rfl, hra⟩ := (hr.up hup).get hlt
      have HY := Lib.hid hY
      clear hY
      have hcap : l.length ≤ cap := hr.le
      cases hg : goodA Y with
      | false =>
        have HG := Lib.hid hg
        go_wp2_with (first | (refine wpList_load_agg 44 _ rfl rfl _ _ rfl Y.arr _ (rangeAt_up hra (by (repeat (first | (with_reducible exact Up.refl _) | (with_reducible assumption) | (with_reducible refine Up.alloc ?_ _) | (with_reducible refine Up.drew ?_) | (with_reducible refine Up.drewN ?_ _) | (with_reducible refine Up.store ?_ ?_ _) | (with_reducible refine Up.trans ?_ (by assumption)) | (exact Nat.le_refl _) | (exact Nat.le_add_right _ _) | (go_light; omega))))) Try.underlying44 rfl infoA ?_) | (go_at_call 45; refine (c_l5Good _ _).mono ?_; rintro e w1 ⟨rfl, hb1⟩))
        go_ret
        exact ⟨ret_bool (by unfold goodQ; rw [all_not HY.out HG.out]; simp), by (repeat (first | (with_reducible exact Up.refl _) | (with_reducible assumption) | (with_reducible refine Up.alloc ?_ _) | (with_reducible refine Up.drew ?_) | (with_reducible refine Up.drewN ?_ _) | (with_reducible refine Up.store ?_ ?_ _) | (with_reducible refine Up.trans ?_ (by assumption)) | (exact Nat.le_refl _) | (exact Nat.le_add_right _ _) | (go_light; omega)))⟩
      | true =>
        have HG := Lib.hid hg
        by_cases hf : findA l Y = k
        · have HF := Lib.hid hf
          have hf1 : (findA l Y != (k : Int)) = false := by simpa using hf
          clear hf
          go_wp2_with (first | (refine wpList_load_agg 44 _ rfl rfl _ _ rfl Y.arr _ (rangeAt_up hra (by (repeat (first | (with_reducible exact Up.refl _) | (with_reducible assumption) | (with_reducible refine Up.alloc ?_ _) | (with_reducible refine Up.drew ?_) | (with_reducible refine Up.drewN ?_ _) | (with_reducible refine Up.store ?_ ?_ _) | (with_reducible refine Up.trans ?_ (by assumption)) | (exact Nat.le_refl _) | (exact Nat.le_add_right _ _) | (go_light; omega))))) Try.underlying44 rfl infoA ?_) | (go_at_call 45; refine (c_l5Good _ _).mono ?_; rintro e w1 ⟨rfl, hb1⟩) | (go_at_call 53; refine (c_l21Find _ _ _ _ _ (hr.up (by (repeat (first | (with_reducible exact Up.refl _) | (with_reducible assumption) | (with_reducible refine Up.alloc ?_ _) | (with_reducible refine Up.drew ?_) | (with_reducible refine Up.drewN ?_ _) | (with_reducible refine Up.store ?_ ?_ _) | (with_reducible refine Up.trans ?_ (by assumption)) | (exact Nat.le_refl _) | (exact Nat.le_add_right _ _) | (go_light; omega)))))).mono ?_; rintro e w1 ⟨rfl, hb1⟩))
          go_roundw
          case rel => exact ⟨k + 1, by omega, by go_num, by (repeat (first | (with_reducible exact Up.refl _) | (with_reducible assumption) | (with_reducible refine Up.alloc ?_ _) | (with_reducible refine Up.drew ?_) | (with_reducible refine Up.drewN ?_ _) | (with_reducible refine Up.store ?_ ?_ _) | (with_reducible refine Up.trans ?_ (by assumption)) | (exact Nat.le_refl _) | (exact Nat.le_add_right _ _) | (go_light; omega))), by
            intro i a hi ha
            rcases Nat.lt_succ_iff_lt_or_eq.1 hi with h | rfl
            · exact hall.out i a h ha
            · rw [HY.out] at ha; obtain rfl := Option.some.inj ha; exact ⟨HG.out, HF.out⟩⟩
          case measure => simp [intOf]; omega
        · have HF := Lib.hid hf
          have hf1 : (findA l Y != (k : Int)) = true := by simpa using hf
          clear hf
          go_wp2_with (first | (refine wpList_load_agg 44 _ rfl rfl _ _ rfl Y.arr _ (rangeAt_up hra (by (repeat (first | (with_reducible exact Up.refl _) | (with_reducible assumption) | (with_reducible refine Up.alloc ?_ _) | (with_reducible refine Up.drew ?_) | (with_reducible refine Up.drewN ?_ _) | (with_reducible refine Up.store ?_ ?_ _) | (with_reducible refine Up.trans ?_ (by assumption)) | (exact Nat.le_refl _) | (exact Nat.le_add_right _ _) | (go_light; omega))))) Try.underlying44 rfl infoA ?_) | (go_at_call 45; refine (c_l5Good _ _).mono ?_; rintro e w1 ⟨rfl, hb1⟩) | (go_at_call 53; refine (c_l21Find _ _ _ _ _ (hr.up (by (repeat (first | (with_reducible exact Up.refl _) | (with_reducible assumption) | (with_reducible refine Up.alloc ?_ _) | (with_reducible refine Up.drew ?_) | (with_reducible refine Up.drewN ?_ _) | (with_reducible refine Up.store ?_ ?_ _) | (with_reducible refine Up.trans ?_ (by assumption)) | (exact Nat.le_refl _) | (exact Nat.le_add_right _ _) | (go_light; omega)))))).mono ?_; rintro e w1 ⟨rfl, hb1⟩))
          go_ret
          exact ⟨ret_bool (by unfold goodQ; rw [dist_not HY.out HF.out]; simp), by (repeat (first | (with_reducible exact Up.refl _) | (with_reducible assumption) | (with_reducible refine Up.alloc ?_ _) | (with_reducible refine Up.drew ?_) | (with_reducible refine Up.drewN ?_ _) | (with_reducible refine Up.store ?_ ?_ _) | (with_reducible refine Up.trans ?_ (by assumption)) | (exact Nat.le_refl _) | (exact Nat.le_add_right _ _) | (go_light; omega)))⟩
    · go_wp2_with (first | (go_at_call 57; refine (c_l1In _ _ _ _).mono ?_; rintro e w' ⟨rfl, rfl⟩))
      go_ret
      have hdist : dist l = true := dist_iff.2 fun i a hi => (hall.out i a (by have := (List.getElem?_eq_some_iff.1 hi).1; omega) hi).2
      have hgood : l.all goodA = true := all_iff.2 fun i a hi => (hall.out i a (by have := (List.getElem?_eq_some_iff.1 hi).1; omega) hi).1
      exact ⟨ret_bool (by unfold goodQ; rw [hdist, hgood]; simp), by (repeat (first | (with_reducible exact Up.refl _) | (with_reducible assumption) | (with_reducible refine Up.alloc ?_ _) | (with_reducible refine Up.drew ?_) | (with_reducible refine Up.drewN ?_ _) | (with_reducible refine Up.store ?_ ?_ _) | (with_reducible refine Up.trans ?_ (by assumption)) | (exact Nat.le_refl _) | (exact Nat.le_add_right _ _) | (go_light; omega)))⟩

end Go.Proofs.Ytbljimjanoondaa
