/- Contracts and lemmas (MemB) for the laws of this seat: what the Go functions named here return, for all arguments that each theorem states; no further conditions. -/
import Derived.Test.YtbljimjanoondaaData
import Derived.Test.YtbljimjanoondaaM1
import Derived.Test.YtbljimjanoondaaMem
import Derived.Test.YtbljimjanoondaaMemA
import Derived.Test.YtbljimjanoondaaOpen
import Derived.Test.YtbljimjanoondaaUp
import Derived.Test.YtbljimjanoondaaWd
import Derived.Test.YtbljimjanoondaaRows
import Derived.WalkKit
import Derived.ProofKit
import Derived.OpenShut
import Derived.WalkLawsBesides
import Derived.Lib.Hide
import Derived.Deep.QuietTactic
import Derived.BigQuiet
import Derived.Deep.Light
import Derived.Handy
namespace Go.Proofs.Ytbljimjanoondaa
set_option maxRecDepth 100000
open Go.ChangeShapes Go.WideShapes Go.ChangeAt Go.RowKit
set_option linter.unusedVariables false
set_option linter.unusedSimpArgs false

/-- The index of the first arms of which p holds, or -1. -/
def idxP (p : Arms → Bool) (l : List Arms) : Int := match l.findIdx? p with | some i => (i : Int) | none => -1
theorem idxP_hit {p : Arms → Bool} {l : List Arms} {k : Nat} {a : Arms} (h : l[k]? = some a) (hp : p a = true) (hn : ∀ (i : Nat) (b : Arms), i < k → l[i]? = some b → p b = false) : idxP p l = k := by
  have : l.findIdx? p = some k := by
    rw [List.findIdx?_eq_some_iff_getElem]
    obtain ⟨hk, he⟩ := List.getElem?_eq_some_iff.1 h
    exact ⟨hk, by rw [he]; exact hp, fun j hj => by have := hn j _ hj (List.getElem?_eq_getElem (by omega)); simp [this]⟩
  unfold idxP; rw [this]
theorem idxP_miss {p : Arms → Bool} {l : List Arms} (hn : ∀ (i : Nat) (b : Arms), l[i]? = some b → p b = false) : idxP p l = -1 := by
  have : l.findIdx? p = none := by
    rw [List.findIdx?_eq_none_iff]
    intro x hx; obtain ⟨i, hi⟩ := List.mem_iff_getElem?.1 hx; exact hn i x hi
  unfold idxP; rw [this]
theorem idxP_any (p : Arms → Bool) (l : List Arms) : decide (0 ≤ idxP p l) = l.any p := by
  by_cases h : ∃ a ∈ l, p a = true
  · have h1 : l.any p = true := List.any_eq_true.2 h
    rw [h1]
    have : l.findIdx? p ≠ none := by
      intro hn; rw [List.findIdx?_eq_none_iff] at hn; obtain ⟨a, ha, hp⟩ := h; rw [hn a ha] at hp; cases hp
    obtain ⟨i, hi⟩ := Option.ne_none_iff_exists'.1 this
    unfold idxP; rw [hi]; simp
  · have h1 : l.any p = false := by rw [Bool.eq_false_iff]; intro hh; exact h (List.any_eq_true.1 hh)
    rw [h1, idxP_miss (fun i b hb => by rw [Bool.eq_false_iff]; intro hp; exact h ⟨b, List.mem_iff_getElem?.2 ⟨i, hb⟩, hp⟩)]; rfl

/-- What a function value is asked of each element; S: what it needs of the world. -/
def AskA (f : Nat) (caps : Array Value) (p : Arms → Bool) (S : World → Prop) : Prop :=
  ∃ fn : Func, Try.prog.funcs[f]? = some fn ∧ (fn.name == "runtime.NumGoroutine") = false ∧ fn.body.isNone = false ∧ (∀ w w', S w → Up w w' → S w') ∧
    ∀ (X : Arms) (w : World), S w → Calls Try.prog f (#[.agg X.arr] ++ caps) w fun e w' => e = .returned (.bool (p X)) ∧ Up w w'
set_option maxHeartbeats 1000000 in
theorem c_IndexFuncA (A : Option Addr) (cap : Nat) (l : List Arms) (f : Nat) (p : Arms → Bool) (S : World → Prop) (hf : AskA f #[] p S) (w : World) (hS : S w) (hr : Rd w 15 Arms.cells A cap l) :
    Calls Try.prog 83 #[.slice A l.length cap, .func (.func f) #[] #[]] w fun e w' => e = .returned (.int .i64 (idxP p l)) ∧ Up w w' := by
  have hmax : l.length ≤ 9223372036854775807 := by have h1 := hr.le; have h2 := hr.max; unfold maxLen at h2; omega
  obtain ⟨fn, hf1, hf2, hf3, hst, hask⟩ := hf
  have hcf := run_callFunc_go hf1 hf2 hf3
  clear hf1 hf2 hf3
  have HS := Lib.hid hS
  have HST := Lib.hid hst
  have HASK := Lib.hid hask
  clear hS hst hask
  go_enter Try.func83, Try.ntmps83
  go_wp2
  go_loopw [8] (fun i wr => ∃ k : Nat, k ≤ l.length ∧ i = .int .i64 k ∧ Up w wr ∧ Hid (∀ (i : Nat) (b : Arms), i < k → l[i]? = some b → p b = false)) (fun i _ => l.length - (intOf i).toNat)
  case atStart => exact ⟨0, by omega, rfl, Up.refl _, by intro i a h; exact absurd h (Nat.not_lt_zero _)⟩
  case round =>
    obtain ⟨k, hk, rfl, hup, hnot⟩ := hrel
    by_cases hlt : k < l.length
    · obtain ⟨Y, b, o, hY, rfl, hra⟩ := (hr.up hup).get hlt
      have HY := Lib.hid hY
      clear hY
      have hcap : l.length ≤ cap := hr.le
      cases hp : p Y with
      | true =>
        have HP := Lib.hid hp
        go_wp2_with (first | (refine wpList_load_agg 44 _ rfl rfl _ _ rfl Y.arr _ (rangeAt_up hra (by (repeat (first | (with_reducible exact Up.refl _) | (with_reducible assumption) | (with_reducible refine Up.alloc ?_ _) | (with_reducible refine Up.drew ?_) | (with_reducible refine Up.drewN ?_ _) | (with_reducible refine Up.store ?_ ?_ _) | (with_reducible refine Up.trans ?_ (by assumption)) | (exact Nat.le_refl _) | (exact Nat.le_add_right _ _) | (go_light; omega))))) Try.underlying44 rfl infoA ?_) | (refine (HASK.out Y _ (HST.out _ _ HS.out (by (repeat (first | (with_reducible exact Up.refl _) | (with_reducible assumption) | (with_reducible refine Up.alloc ?_ _) | (with_reducible refine Up.drew ?_) | (with_reducible refine Up.drewN ?_ _) | (with_reducible refine Up.store ?_ ?_ _) | (with_reducible refine Up.trans ?_ (by assumption)) | (exact Nat.le_refl _) | (exact Nat.le_add_right _ _) | (go_light; omega)))))).mono ?_; rintro e w1 ⟨rfl, hb1⟩))
        go_ret
        exact ⟨ret_int (idxP_hit HY.out HP.out hnot.out).symm, by (repeat (first | (with_reducible exact Up.refl _) | (with_reducible assumption) | (with_reducible refine Up.alloc ?_ _) | (with_reducible refine Up.drew ?_) | (with_reducible refine Up.drewN ?_ _) | (with_reducible refine Up.store ?_ ?_ _) | (with_reducible refine Up.trans ?_ (by assumption)) | (exact Nat.le_refl _) | (exact Nat.le_add_right _ _) | (go_light; omega)))⟩
      | false =>
        have HP := Lib.hid hp
        go_wp2_with (first | (refine wpList_load_agg 44 _ rfl rfl _ _ rfl Y.arr _ (rangeAt_up hra (by (repeat (first | (with_reducible exact Up.refl _) | (with_reducible assumption) | (with_reducible refine Up.alloc ?_ _) | (with_reducible refine Up.drew ?_) | (with_reducible refine Up.drewN ?_ _) | (with_reducible refine Up.store ?_ ?_ _) | (with_reducible refine Up.trans ?_ (by assumption)) | (exact Nat.le_refl _) | (exact Nat.le_add_right _ _) | (go_light; omega))))) Try.underlying44 rfl infoA ?_) | (refine (HASK.out Y _ (HST.out _ _ HS.out (by (repeat (first | (with_reducible exact Up.refl _) | (with_reducible assumption) | (with_reducible refine Up.alloc ?_ _) | (with_reducible refine Up.drew ?_) | (with_reducible refine Up.drewN ?_ _) | (with_reducible refine Up.store ?_ ?_ _) | (with_reducible refine Up.trans ?_ (by assumption)) | (exact Nat.le_refl _) | (exact Nat.le_add_right _ _) | (go_light; omega)))))).mono ?_; rintro e w1 ⟨rfl, hb1⟩))
        go_roundw
        case rel => exact ⟨k + 1, by omega, by go_num, by (repeat (first | (with_reducible exact Up.refl _) | (with_reducible assumption) | (with_reducible refine Up.alloc ?_ _) | (with_reducible refine Up.drew ?_) | (with_reducible refine Up.drewN ?_ _) | (with_reducible refine Up.store ?_ ?_ _) | (with_reducible refine Up.trans ?_ (by assumption)) | (exact Nat.le_refl _) | (exact Nat.le_add_right _ _) | (go_light; omega))), by
          intro i a hi ha
          rcases Nat.lt_succ_iff_lt_or_eq.1 hi with h | rfl
          · exact hnot.out i a h ha
          · rw [HY.out] at ha; obtain rfl := Option.some.inj ha; exact HP.out⟩
        case measure => simp [intOf]; omega
    · go_wp2
      go_ret
      exact ⟨ret_int (idxP_miss (fun i b hb => hnot.out i b (by have := (List.getElem?_eq_some_iff.1 hb).1; omega) hb)).symm, by (repeat (first | (with_reducible exact Up.refl _) | (with_reducible assumption) | (with_reducible refine Up.alloc ?_ _) | (with_reducible refine Up.drew ?_) | (with_reducible refine Up.drewN ?_ _) | (with_reducible refine Up.store ?_ ?_ _) | (with_reducible refine Up.trans ?_ (by assumption)) | (exact Nat.le_refl _) | (exact Nat.le_add_right _ _) | (go_light; omega)))⟩
theorem c_ContainsFuncA (A : Option Addr) (cap : Nat) (l : List Arms) (f : Nat) (p : Arms → Bool) (S : World → Prop) (hf : AskA f #[] p S) (w : World) (hS : S w) (hr : Rd w 15 Arms.cells A cap l) :
    Calls Try.prog 54 #[.slice A l.length cap, .func (.func f) #[] #[]] w fun e w' => e = .returned (.bool (l.any p)) ∧ Up w w' := by
  have HF := Lib.hid hf
  have HS := Lib.hid hS
  clear hf hS
  go_enter Try.func54, Try.ntmps54
  go_wp2_with (go_at_call 83; refine (c_IndexFuncA _ _ _ _ _ _ HF.out _ HS.out hr).mono ?_; rintro e w1 ⟨rfl, hb1⟩)
  go_ret
  exact ⟨ret_bool (idxP_any p l), by (repeat (first | (with_reducible exact Up.refl _) | (with_reducible assumption) | (with_reducible refine Up.alloc ?_ _) | (with_reducible refine Up.drew ?_) | (with_reducible refine Up.drewN ?_ _) | (with_reducible refine Up.store ?_ ?_ _) | (with_reducible refine Up.trans ?_ (by assumption)) | (exact Nat.le_refl _) | (exact Nat.le_add_right _ _) | (go_light; omega)))⟩

set_option maxHeartbeats 1000000 in
theorem c_IndexFuncA1 (A : Option Addr) (cap : Nat) (l : List Arms) (f : Nat) (c : Value) (p : Arms → Bool) (S : World → Prop) (hf : AskA f #[c] p S) (w : World) (hS : S w) (hr : Rd w 15 Arms.cells A cap l) :
    Calls Try.prog 83 #[.slice A l.length cap, .func (.func f) #[] #[c]] w fun e w' => e = .returned (.int .i64 (idxP p l)) ∧ Up w w' := by
  have hmax : l.length ≤ 9223372036854775807 := by have h1 := hr.le; have h2 := hr.max; unfold maxLen at h2; omega
  obtain ⟨fn, hf1, hf2, hf3, hst, hask⟩ := hf
  have hcf := run_callFunc_go hf1 hf2 hf3
  clear hf1 hf2 hf3
  have HS := Lib.hid hS
  have HST := Lib.hid hst
  have HASK := Lib.hid hask
  clear hS hst hask
  go_enter Try.func83, Try.ntmps83
  go_wp2
  go_loopw [8] (fun i wr => ∃ k : Nat, k ≤ l.length ∧ i = .int .i64 k ∧ Up w wr ∧ Hid (∀ (i : Nat) (b : Arms), i < k → l[i]? = some b → p b = false)) (fun i _ => l.length - (intOf i).toNat)
  case atStart => exact ⟨0, by omega, rfl, Up.refl _, by intro i a h; exact absurd h (Nat.not_lt_zero _)⟩
  case round =>
    obtain ⟨k, hk, rfl, hup, hnot⟩ := hrel
    by_cases hlt : k < l.length
    · obtain ⟨Y, b, o, hY, rfl, hra⟩ := (hr.up hup).get hlt
      have HY := Lib.hid hY
      clear hY
      have hcap : l.length ≤ cap := hr.le
      cases hp : p Y with
      | true =>
        have HP := Lib.hid hp
        go_wp2_with (first | (refine wpList_load_agg 44 _ rfl rfl _ _ rfl Y.arr _ (rangeAt_up hra (by (repeat (first | (with_reducible exact Up.refl _) | (with_reducible assumption) | (with_reducible refine Up.alloc ?_ _) | (with_reducible refine Up.drew ?_) | (with_reducible refine Up.drewN ?_ _) | (with_reducible refine Up.store ?_ ?_ _) | (with_reducible refine Up.trans ?_ (by assumption)) | (exact Nat.le_refl _) | (exact Nat.le_add_right _ _) | (go_light; omega))))) Try.underlying44 rfl infoA ?_) | (refine (HASK.out Y _ (HST.out _ _ HS.out (by (repeat (first | (with_reducible exact Up.refl _) | (with_reducible assumption) | (with_reducible refine Up.alloc ?_ _) | (with_reducible refine Up.drew ?_) | (with_reducible refine Up.drewN ?_ _) | (with_reducible refine Up.store ?_ ?_ _) | (with_reducible refine Up.trans ?_ (by assumption)) | (exact Nat.le_refl _) | (exact Nat.le_add_right _ _) | (go_light; omega)))))).mono ?_; rintro e w1 ⟨rfl, hb1⟩))
        go_ret
        exact ⟨ret_int (idxP_hit HY.out HP.out hnot.out).symm, by (repeat (first | (with_reducible exact Up.refl _) | (with_reducible assumption) | (with_reducible refine Up.alloc ?_ _) | (with_reducible refine Up.drew ?_) | (with_reducible refine Up.drewN ?_ _) | (with_reducible refine Up.store ?_ ?_ _) | (with_reducible refine Up.trans ?_ (by assumption)) | (exact Nat.le_refl _) | (exact Nat.le_add_right _ _) | (go_light; omega)))⟩
      | false =>
        have HP := Lib.hid hp
        go_wp2_with (first | (refine wpList_load_agg 44 _ rfl rfl _ _ rfl Y.arr _ (rangeAt_up hra (by (repeat (first | (with_reducible exact Up.refl _) | (with_reducible assumption) | (with_reducible refine Up.alloc ?_ _) | (with_reducible refine Up.drew ?_) | (with_reducible refine Up.drewN ?_ _) | (with_reducible refine Up.store ?_ ?_ _) | (with_reducible refine Up.trans ?_ (by assumption)) | (exact Nat.le_refl _) | (exact Nat.le_add_right _ _) | (go_light; omega))))) Try.underlying44 rfl infoA ?_) | (refine (HASK.out Y _ (HST.out _ _ HS.out (by (repeat (first | (with_reducible exact Up.refl _) | (with_reducible assumption) | (with_reducible refine Up.alloc ?_ _) | (with_reducible refine Up.drew ?_) | (with_reducible refine Up.drewN ?_ _) | (with_reducible refine Up.store ?_ ?_ _) | (with_reducible refine Up.trans ?_ (by assumption)) | (exact Nat.le_refl _) | (exact Nat.le_add_right _ _) | (go_light; omega)))))).mono ?_; rintro e w1 ⟨rfl, hb1⟩))
        go_roundw
        case rel => exact ⟨k + 1, by omega, by go_num, by (repeat (first | (with_reducible exact Up.refl _) | (with_reducible assumption) | (with_reducible refine Up.alloc ?_ _) | (with_reducible refine Up.drew ?_) | (with_reducible refine Up.drewN ?_ _) | (with_reducible refine Up.store ?_ ?_ _) | (with_reducible refine Up.trans ?_ (by assumption)) | (exact Nat.le_refl _) | (exact Nat.le_add_right _ _) | (go_light; omega))), by
          intro i a hi ha
          rcases Nat.lt_succ_iff_lt_or_eq.1 hi with h | rfl
          · exact hnot.out i a h ha
          · rw [HY.out] at ha; obtain rfl := Option.some.inj ha; exact HP.out⟩
        case measure => simp [intOf]; omega
    · go_wp2
      go_ret
      exact ⟨ret_int (idxP_miss (fun i b hb => hnot.out i b (by have := (List.getElem?_eq_some_iff.1 hb).1; omega) hb)).symm, by (repeat (first | (with_reducible exact Up.refl _) | (with_reducible assumption) | (with_reducible refine Up.alloc ?_ _) | (with_reducible refine Up.drew ?_) | (with_reducible refine Up.drewN ?_ _) | (with_reducible refine Up.store ?_ ?_ _) | (with_reducible refine Up.trans ?_ (by assumption)) | (exact Nat.le_refl _) | (exact Nat.le_add_right _ _) | (go_light; omega)))⟩
theorem c_ContainsFuncA1 (A : Option Addr) (cap : Nat) (l : List Arms) (f : Nat) (c : Value) (p : Arms → Bool) (S : World → Prop) (hf : AskA f #[c] p S) (w : World) (hS : S w) (hr : Rd w 15 Arms.cells A cap l) :
    Calls Try.prog 54 #[.slice A l.length cap, .func (.func f) #[] #[c]] w fun e w' => e = .returned (.bool (l.any p)) ∧ Up w w' := by
  have HF := Lib.hid hf
  have HS := Lib.hid hS
  clear hf hS
  go_enter Try.func54, Try.ntmps54
  go_wp2_with (go_at_call 83; refine (c_IndexFuncA1 _ _ _ _ _ _ _ HF.out _ HS.out hr).mono ?_; rintro e w1 ⟨rfl, hb1⟩)
  go_ret
  exact ⟨ret_bool (idxP_any p l), by (repeat (first | (with_reducible exact Up.refl _) | (with_reducible assumption) | (with_reducible refine Up.alloc ?_ _) | (with_reducible refine Up.drew ?_) | (with_reducible refine Up.drewN ?_ _) | (with_reducible refine Up.store ?_ ?_ _) | (with_reducible refine Up.trans ?_ (by assumption)) | (exact Nat.le_refl _) | (exact Nat.le_add_right _ _) | (go_light; omega)))⟩

theorem c_areArms1 (X : Arms) (w : World) : Calls Try.prog 64 #[.agg X.arr] w fun e w' => e = .returned (.bool (!goodA X)) ∧ Up w w' := by
  have hb := box_range (Up.refl (w.alloc (.cells X.arr 44)))
  go_enter Try.func64, Try.ntmps64
  go_wp2_with (first | (refine wpList_load_agg 44 _ rfl rfl _ _ rfl X.arr _ hb Try.underlying44 rfl infoA ?_) | (go_at_call 51; refine (c_IsValidArms _ _).mono ?_; rintro e w1 ⟨rfl, hb1⟩))
  go_ret
  exact ⟨rfl, by (repeat (first | (with_reducible exact Up.refl _) | (with_reducible assumption) | (with_reducible refine Up.alloc ?_ _) | (with_reducible refine Up.drew ?_) | (with_reducible refine Up.drewN ?_ _) | (with_reducible refine Up.store ?_ ?_ _) | (with_reducible refine Up.trans ?_ (by assumption)) | (exact Nat.le_refl _) | (exact Nat.le_add_right _ _) | (go_light; omega)))⟩
theorem ask_areArms1 : AskA 64 #[] (fun X => !goodA X) (fun _ => True) :=
  ⟨Try.f64, Try.func64, by kernel_rfl, by kernel_rfl, fun _ _ h _ => h, fun X w _ => c_areArms1 X w⟩
theorem any_not_all (l : List Arms) (p : Arms → Bool) : (!l.any fun X => !p X) = l.all p := by
  induction l with
  | nil => rfl
  | cons a r ih => simp only [List.any_cons, List.all_cons, ← ih]; cases p a <;> simp
theorem c_areArms (A : Option Addr) (cap : Nat) (l : List Arms) (m : Int) (w : World) (hr : Rd w 15 Arms.cells A cap l) :
    Calls Try.prog 42 #[.slice A l.length cap, .int .i64 m] w fun e w' => e = .returned (.bool (decide ((l.length : Int) ≤ m) && l.all goodA)) ∧ Up w w' := by
  by_cases hm : (l.length : Int) ≤ m
  · go_enter Try.func42, Try.ntmps42
    go_wp2_with (go_at_call 54; refine (c_ContainsFuncA _ _ _ _ _ _ ask_areArms1 _ trivial hr).mono ?_; rintro e w1 ⟨rfl, hb1⟩)
    go_ret
    exact ⟨ret_bool (by rw [any_not_all]; simp [hm]), by (repeat (first | (with_reducible exact Up.refl _) | (with_reducible assumption) | (with_reducible refine Up.alloc ?_ _) | (with_reducible refine Up.drew ?_) | (with_reducible refine Up.drewN ?_ _) | (with_reducible refine Up.store ?_ ?_ _) | (with_reducible refine Up.trans ?_ (by assumption)) | (exact Nat.le_refl _) | (exact Nat.le_add_right _ _) | (go_light; omega)))⟩
  · have hd : decide ((l.length : Int) ≤ m) = false := by simpa using hm
    go_enter Try.func42, Try.ntmps42
    go_wp2_with fail
    go_ret
    exact ⟨ret_bool (by simp [hm]), by (repeat (first | (with_reducible exact Up.refl _) | (with_reducible assumption) | (with_reducible refine Up.alloc ?_ _) | (with_reducible refine Up.drew ?_) | (with_reducible refine Up.drewN ?_ _) | (with_reducible refine Up.store ?_ ?_ _) | (with_reducible refine Up.trans ?_ (by assumption)) | (exact Nat.le_refl _) | (exact Nat.le_add_right _ _) | (go_light; omega)))⟩

set_option maxHeartbeats 1000000 in
theorem c_IsValidQuarterings (A : Option Addr) (cap : Nat) (l : List Arms) (w : World) (hr : Rd w 15 Arms.cells A cap l) :
    Calls Try.prog 14 #[.slice A l.length cap] w fun e w' => e = .returned (.bool (goodQ l)) ∧ Up w w' := by
  have hmax : l.length ≤ 9223372036854775807 := by have h1 := hr.le; have h2 := hr.max; unfold maxLen at h2; omega
  go_enter Try.func14, Try.ntmps14
  go_wp2
  go_loopw [7] (fun i wr => ∃ k : Nat, k ≤ l.length ∧ i = .int .i64 k ∧ Up w wr ∧ Hid (∀ (i : Nat) (a : Arms), i < k → l[i]? = some a → findA l a = i)) (fun i _ => l.length - (intOf i).toNat)
  case atStart => exact ⟨0, by omega, rfl, Up.refl _, by intro i a h; exact absurd h (Nat.not_lt_zero _)⟩
  case round =>
    obtain ⟨k, hk, rfl, hup, hall⟩ := hrel
    by_cases hlt : k < l.length
    · obtain ⟨Y, b, o, hY, rfl, hra⟩ := (hr.up hup).get hlt
      have HY := Lib.hid hY
      clear hY
      have hcap : l.length ≤ cap := hr.le
      by_cases hf : findA l Y = k
      · have HF := Lib.hid hf
        have hf1 : (findA l Y != (k : Int)) = false := by simpa using hf
        clear hf
        go_wp2_with (first | (refine wpList_load_agg 44 _ rfl rfl _ _ rfl Y.arr _ (rangeAt_up hra (by (repeat (first | (with_reducible exact Up.refl _) | (with_reducible assumption) | (with_reducible refine Up.alloc ?_ _) | (with_reducible refine Up.drew ?_) | (with_reducible refine Up.drewN ?_ _) | (with_reducible refine Up.store ?_ ?_ _) | (with_reducible refine Up.trans ?_ (by assumption)) | (exact Nat.le_refl _) | (exact Nat.le_add_right _ _) | (go_light; omega))))) Try.underlying44 rfl infoA ?_) | (refine wpList_load_agg 44 _ rfl rfl _ _ rfl Y.arr _ (box_range (w := wr) (t := 44) (by (repeat (first | (with_reducible exact Up.refl _) | (with_reducible assumption) | (with_reducible refine Up.alloc ?_ _) | (with_reducible refine Up.drew ?_) | (with_reducible refine Up.drewN ?_ _) | (with_reducible refine Up.store ?_ ?_ _) | (with_reducible refine Up.trans ?_ (by assumption)) | (exact Nat.le_refl _) | (exact Nat.le_add_right _ _) | (go_light; omega))))) Try.underlying44 rfl infoA ?_) | (refine wpList_store_new 44 _ _ rfl rfl rfl Y.arr rfl _ _ infoA rfl (Arms.one _) ?_) | (go_at_call 41; refine (c_IndexA _ _ _ _ _ (hr.up (by (repeat (first | (with_reducible exact Up.refl _) | (with_reducible assumption) | (with_reducible refine Up.alloc ?_ _) | (with_reducible refine Up.drew ?_) | (with_reducible refine Up.drewN ?_ _) | (with_reducible refine Up.store ?_ ?_ _) | (with_reducible refine Up.trans ?_ (by assumption)) | (exact Nat.le_refl _) | (exact Nat.le_add_right _ _) | (go_light; omega)))))).mono ?_; rintro e w1 ⟨rfl, hb1⟩))
        go_roundw
        case rel => exact ⟨k + 1, by omega, by go_num, by (repeat (first | (with_reducible exact Up.refl _) | (with_reducible assumption) | (with_reducible refine Up.alloc ?_ _) | (with_reducible refine Up.drew ?_) | (with_reducible refine Up.drewN ?_ _) | (with_reducible refine Up.store ?_ ?_ _) | (with_reducible refine Up.trans ?_ (by assumption)) | (exact Nat.le_refl _) | (exact Nat.le_add_right _ _) | (go_light; omega))), by
          intro i a hi ha
          rcases Nat.lt_succ_iff_lt_or_eq.1 hi with h | rfl
          · exact hall.out i a h ha
          · rw [HY.out] at ha; obtain rfl := Option.some.inj ha; exact HF.out⟩
        case measure => simp [intOf]; omega
      · have HF := Lib.hid hf
        have hf1 : (findA l Y != (k : Int)) = true := by simpa using hf
        clear hf
        go_wp2_with (first | (refine wpList_load_agg 44 _ rfl rfl _ _ rfl Y.arr _ (rangeAt_up hra (by (repeat (first | (with_reducible exact Up.refl _) | (with_reducible assumption) | (with_reducible refine Up.alloc ?_ _) | (with_reducible refine Up.drew ?_) | (with_reducible refine Up.drewN ?_ _) | (with_reducible refine Up.store ?_ ?_ _) | (with_reducible refine Up.trans ?_ (by assumption)) | (exact Nat.le_refl _) | (exact Nat.le_add_right _ _) | (go_light; omega))))) Try.underlying44 rfl infoA ?_) | (refine wpList_load_agg 44 _ rfl rfl _ _ rfl Y.arr _ (box_range (w := wr) (t := 44) (by (repeat (first | (with_reducible exact Up.refl _) | (with_reducible assumption) | (with_reducible refine Up.alloc ?_ _) | (with_reducible refine Up.drew ?_) | (with_reducible refine Up.drewN ?_ _) | (with_reducible refine Up.store ?_ ?_ _) | (with_reducible refine Up.trans ?_ (by assumption)) | (exact Nat.le_refl _) | (exact Nat.le_add_right _ _) | (go_light; omega))))) Try.underlying44 rfl infoA ?_) | (refine wpList_store_new 44 _ _ rfl rfl rfl Y.arr rfl _ _ infoA rfl (Arms.one _) ?_) | (go_at_call 41; refine (c_IndexA _ _ _ _ _ (hr.up (by (repeat (first | (with_reducible exact Up.refl _) | (with_reducible assumption) | (with_reducible refine Up.alloc ?_ _) | (with_reducible refine Up.drew ?_) | (with_reducible refine Up.drewN ?_ _) | (with_reducible refine Up.store ?_ ?_ _) | (with_reducible refine Up.trans ?_ (by assumption)) | (exact Nat.le_refl _) | (exact Nat.le_add_right _ _) | (go_light; omega)))))).mono ?_; rintro e w1 ⟨rfl, hb1⟩))
        go_ret
        exact ⟨ret_bool (by unfold goodQ; rw [dist_not HY.out HF.out]; simp), by (repeat (first | (with_reducible exact Up.refl _) | (with_reducible assumption) | (with_reducible refine Up.alloc ?_ _) | (with_reducible refine Up.drew ?_) | (with_reducible refine Up.drewN ?_ _) | (with_reducible refine Up.store ?_ ?_ _) | (with_reducible refine Up.trans ?_ (by assumption)) | (exact Nat.le_refl _) | (exact Nat.le_add_right _ _) | (go_light; omega)))⟩
    · have hdist : dist l = true := dist_iff.2 fun i a hi => hall.out i a (by have := (List.getElem?_eq_some_iff.1 hi).1; omega) hi
      have HD := Lib.hid hdist
      clear hdist
      by_cases h0 : l = []
      · subst h0
        go_wp2_with fail
        go_ret
        exact ⟨rfl, by (repeat (first | (with_reducible exact Up.refl _) | (with_reducible assumption) | (with_reducible refine Up.alloc ?_ _) | (with_reducible refine Up.drew ?_) | (with_reducible refine Up.drewN ?_ _) | (with_reducible refine Up.store ?_ ?_ _) | (with_reducible refine Up.trans ?_ (by assumption)) | (exact Nat.le_refl _) | (exact Nat.le_add_right _ _) | (go_light; omega)))⟩
      · have hpos : 1 ≤ l.length := by rcases Nat.eq_zero_or_pos l.length with h | h; exact absurd (List.eq_nil_of_length_eq_zero h) h0; exact h
        have HP := Lib.hid hpos
        clear hpos
        go_wp2_with (go_at_call 42; refine (c_areArms _ _ _ _ _ (hr.up (by (repeat (first | (with_reducible exact Up.refl _) | (with_reducible assumption) | (with_reducible refine Up.alloc ?_ _) | (with_reducible refine Up.drew ?_) | (with_reducible refine Up.drewN ?_ _) | (with_reducible refine Up.store ?_ ?_ _) | (with_reducible refine Up.trans ?_ (by assumption)) | (exact Nat.le_refl _) | (exact Nat.le_add_right _ _) | (go_light; omega)))))).mono ?_; rintro e w1 ⟨rfl, hb1⟩)
        go_ret
        exact ⟨ret_bool (by have := HP.out; unfold goodQ; rw [HD.out, Bool.and_true]; congr 1; unfold inB; rw [decide_eq_decide]; omega), by (repeat (first | (with_reducible exact Up.refl _) | (with_reducible assumption) | (with_reducible refine Up.alloc ?_ _) | (with_reducible refine Up.drew ?_) | (with_reducible refine Up.drewN ?_ _) | (with_reducible refine Up.store ?_ ?_ _) | (with_reducible refine Up.trans ?_ (by assumption)) | (exact Nat.le_refl _) | (exact Nat.le_add_right _ _) | (go_light; omega)))⟩

end Go.Proofs.Ytbljimjanoondaa
