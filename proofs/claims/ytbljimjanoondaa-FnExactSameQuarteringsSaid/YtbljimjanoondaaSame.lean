/- Contracts and lemmas (Same) for the laws of this seat: what the Go functions named here return, for all arguments that each theorem states; no further conditions. -/
import Derived.Test.YtbljimjanoondaaData
import Derived.Test.YtbljimjanoondaaEq
import Derived.Test.YtbljimjanoondaaMem
import Derived.Test.YtbljimjanoondaaMemA
import Derived.Test.YtbljimjanoondaaMemB
import Derived.Test.YtbljimjanoondaaOpen
import Derived.Test.YtbljimjanoondaaUp
import Derived.Test.YtbljimjanoondaaWq
import Derived.Test.YtbljimjanoondaaRows
import Derived.WalkKit
import Derived.ProofKit
import Derived.OpenShut
import Derived.WalkLawsBesides
import Derived.Lib.Hide
import Derived.Deep.QuietTactic
import Derived.BigQuiet
import Derived.Deep.Light
import Derived.Handy
namespace Go.Proofs.Ytbljimjanoondaa
set_option maxRecDepth 100000
open Go.ChangeShapes Go.WideShapes Go.ChangeAt Go.RowKit
set_option linter.unusedVariables false
set_option linter.unusedSimpArgs false

def sameB (a b : List Arms) : Bool := decide (a.length = b.length) && a.all fun X => decide (X ∈ b)
theorem findA_in {l : List Arms} {X : Arms} (h : X ∈ l) : 0 ≤ findA l X := by unfold findA; rw [if_pos h]; omega
theorem findA_out {l : List Arms} {X : Arms} (h : X ∉ l) : findA l X = -1 := if_neg h
theorem all_false {l : List Arms} {p : Arms → Bool} {k : Nat} {Y : Arms} (h : l[k]? = some Y) (hp : p Y = false) : l.all p = false := by
  rw [List.all_eq_false]; exact ⟨Y, List.mem_iff_getElem?.2 ⟨k, h⟩, by simp [hp]⟩

set_option maxHeartbeats 2000000 in
theorem c_sSame_yes (A B : Option Addr) (ca cb : Nat) (la lb : List Arms) (ha : goodQ la = true) (hb : goodQ lb = true) (w : World) (hr : Rd w 15 Arms.cells A ca la) (hs : Rd w 15 Arms.cells B cb lb) :
    Calls Try.prog 20 #[.slice A la.length ca, .slice B lb.length cb] w fun e w' => e = .returned (.tuple #[.bool (sameB la lb), .bool true]) ∧ Up w w' := by
  have hmax : la.length ≤ 9223372036854775807 := by have h1 := hr.le; have h2 := hr.max; unfold maxLen at h2; omega
  have hmaxb : lb.length ≤ 9223372036854775807 := by have h1 := hs.le; have h2 := hs.max; unfold maxLen at h2; omega
  go_enter Try.func20, Try.ntmps20
  go_wp2_with fail
  (with_reducible refine (c_l21Good _ _ la _ (hr.up (by (repeat (first | (with_reducible exact Up.refl _) | (with_reducible assumption) | (with_reducible refine Up.alloc ?_ _) | (with_reducible refine Up.drew ?_) | (with_reducible refine Up.drewN ?_ _) | (with_reducible refine Up.store ?_ ?_ _) | (with_reducible refine Up.trans ?_ (by assumption)) | (exact Nat.le_refl _) | (exact Nat.le_add_right _ _) | (go_light; omega)))))).mono ?_); rintro e w0 ⟨rfl, hb0⟩
  go_wp2_with fail
  (with_reducible refine (c_l21Good _ _ lb _ (hs.up (by (repeat (first | (with_reducible exact Up.refl _) | (with_reducible assumption) | (with_reducible refine Up.alloc ?_ _) | (with_reducible refine Up.drew ?_) | (with_reducible refine Up.drewN ?_ _) | (with_reducible refine Up.store ?_ ?_ _) | (with_reducible refine Up.trans ?_ (by assumption)) | (exact Nat.le_refl _) | (exact Nat.le_add_right _ _) | (go_light; omega)))))).mono ?_); rintro e w1 ⟨rfl, hb1⟩
  go_wp2_with fail
  have hup0 : Up w w1 := by (repeat (first | (with_reducible exact Up.refl _) | (with_reducible assumption) | (with_reducible refine Up.alloc ?_ _) | (with_reducible refine Up.drew ?_) | (with_reducible refine Up.drewN ?_ _) | (with_reducible refine Up.store ?_ ?_ _) | (with_reducible refine Up.trans ?_ (by assumption)) | (exact Nat.le_refl _) | (exact Nat.le_add_right _ _) | (go_light; omega)))
  go_loopw [6] (fun i wr => ∃ k : Nat, k ≤ la.length ∧ i = .int .i64 k ∧ Up w1 wr ∧ Hid (∀ (i : Nat) (X : Arms), i < k → la[i]? = some X → X ∈ lb)) (fun i _ => la.length - (intOf i).toNat)
  case atStart => exact ⟨0, by omega, rfl, Up.refl _, Lib.hid (fun i X hi => absurd hi (by omega))⟩
  case round =>
    obtain ⟨k, hk, rfl, hup, hall⟩ := hrel
    by_cases hlt : k < la.length
    · obtain ⟨Y, b, o, hY, rfl, hra⟩ := (hr.up (hup0.trans hup)).get hlt
      have HY := Lib.hid hY
      clear hY
      have hcap : la.length ≤ ca := hr.le
      by_cases hm : Y ∈ lb
      · have hf := findA_in hm
        have HM := Lib.hid hm
        clear hm
        go_wp2_with (refine wpList_load_agg 44 _ rfl rfl _ _ rfl Y.arr _ (rangeAt_up hra (by (repeat (first | (with_reducible exact Up.refl _) | (with_reducible assumption) | (with_reducible refine Up.alloc ?_ _) | (with_reducible refine Up.drew ?_) | (with_reducible refine Up.drewN ?_ _) | (with_reducible refine Up.store ?_ ?_ _) | (with_reducible refine Up.trans ?_ (by assumption)) | (exact Nat.le_refl _) | (exact Nat.le_add_right _ _) | (go_light; omega))))) Try.underlying44 rfl infoA ?_)
        (with_reducible refine (c_l21Find _ _ lb Y _ (hs.up (by (repeat (first | (with_reducible exact Up.refl _) | (with_reducible assumption) | (with_reducible refine Up.alloc ?_ _) | (with_reducible refine Up.drew ?_) | (with_reducible refine Up.drewN ?_ _) | (with_reducible refine Up.store ?_ ?_ _) | (with_reducible refine Up.trans ?_ (by assumption)) | (exact Nat.le_refl _) | (exact Nat.le_add_right _ _) | (go_light; omega)))))).mono ?_); rintro e w2 ⟨rfl, hb2⟩
        go_wp2_with fail
        refine ⟨⟨k + 1, by omega, rfl, by (repeat (first | (with_reducible exact Up.refl _) | (with_reducible assumption) | (with_reducible refine Up.alloc ?_ _) | (with_reducible refine Up.drew ?_) | (with_reducible refine Up.drewN ?_ _) | (with_reducible refine Up.store ?_ ?_ _) | (with_reducible refine Up.trans ?_ (by assumption)) | (exact Nat.le_refl _) | (exact Nat.le_add_right _ _) | (go_light; omega))), Lib.hid ?_⟩, by simp [intOf]; omega⟩
        intro i X hi hX
        by_cases hik : i < k
        · exact hall.out i X hik hX
        · have : i = k := by omega
          subst this
          rw [HY.out] at hX; injection hX with hX; subst hX; exact HM.out
      · have hf := findA_out hm
        have HM := Lib.hid hm
        clear hm
        go_wp2_with (refine wpList_load_agg 44 _ rfl rfl _ _ rfl Y.arr _ (rangeAt_up hra (by (repeat (first | (with_reducible exact Up.refl _) | (with_reducible assumption) | (with_reducible refine Up.alloc ?_ _) | (with_reducible refine Up.drew ?_) | (with_reducible refine Up.drewN ?_ _) | (with_reducible refine Up.store ?_ ?_ _) | (with_reducible refine Up.trans ?_ (by assumption)) | (exact Nat.le_refl _) | (exact Nat.le_add_right _ _) | (go_light; omega))))) Try.underlying44 rfl infoA ?_)
        (with_reducible refine (c_l21Find _ _ lb Y _ (hs.up (by (repeat (first | (with_reducible exact Up.refl _) | (with_reducible assumption) | (with_reducible refine Up.alloc ?_ _) | (with_reducible refine Up.drew ?_) | (with_reducible refine Up.drewN ?_ _) | (with_reducible refine Up.store ?_ ?_ _) | (with_reducible refine Up.trans ?_ (by assumption)) | (exact Nat.le_refl _) | (exact Nat.le_add_right _ _) | (go_light; omega)))))).mono ?_); rintro e w2 ⟨rfl, hb2⟩
        go_wp2_with fail
        go_ret2
        have : sameB la lb = false := by unfold sameB; rw [all_false HY.out (by simpa using HM.out), Bool.and_false]
        exact ⟨by rw [this]; rfl, by (repeat (first | (with_reducible exact Up.refl _) | (with_reducible assumption) | (with_reducible refine Up.alloc ?_ _) | (with_reducible refine Up.drew ?_) | (with_reducible refine Up.drewN ?_ _) | (with_reducible refine Up.store ?_ ?_ _) | (with_reducible refine Up.trans ?_ (by assumption)) | (exact Nat.le_refl _) | (exact Nat.le_add_right _ _) | (go_light; omega)))⟩
    · go_wp2
      go_ret2
      have hal : (la.all fun X => decide (X ∈ lb)) = true := by
        rw [List.all_eq_true]
        intro X hX
        obtain ⟨i, hi⟩ := List.mem_iff_getElem?.1 hX
        have := (List.getElem?_eq_some_iff.1 hi).1
        simpa using hall.out i X (by omega) hi
      refine ⟨?_, by (repeat (first | (with_reducible exact Up.refl _) | (with_reducible assumption) | (with_reducible refine Up.alloc ?_ _) | (with_reducible refine Up.drew ?_) | (with_reducible refine Up.drewN ?_ _) | (with_reducible refine Up.store ?_ ?_ _) | (with_reducible refine Up.trans ?_ (by assumption)) | (exact Nat.le_refl _) | (exact Nat.le_add_right _ _) | (go_light; omega)))⟩
      have : sameB la lb = decide (la.length = lb.length) := by unfold sameB; rw [hal, Bool.and_true]
      rw [this]
      have he : ((la.length : Int) == (lb.length : Int)) = decide (la.length = lb.length) := by rw [Bool.eq_iff_iff, beq_iff_eq, decide_eq_true_iff]; omega
      rw [← he]
      rfl

end Go.Proofs.Ytbljimjanoondaa
