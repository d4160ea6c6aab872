/- Contracts and lemmas (Gd) for the laws of this seat: what the Go functions named here return, for all arguments that each theorem states; no further conditions. -/
import Derived.Test.YtnniiphfbjbjdaaData
import Derived.Test.YtnniiphfbjbjdaaEq
import Derived.Test.YtnniiphfbjbjdaaUp
import Derived.Test.YtnniiphfbjbjdaaWb
import Derived.Test.YtnniiphfbjbjdaaRows
import Derived.WalkKit
import Derived.ProofKit
import Derived.OpenShut
import Derived.WalkLawsBesides
import Derived.Lib.Hide
import Derived.Deep.QuietTactic
import Derived.BigQuiet
import Derived.Deep.Light
import Derived.Handy
namespace Go.Proofs.Ytnniiphfbjbjdaa
set_option maxRecDepth 100000
open Go.ChangeShapes Go.WideShapes Go.ChangeAt Go.RowKit
set_option linter.unusedVariables false
set_option linter.unusedSimpArgs false

@[simp, go_sem] theorem egG : Try.prog.eqGuardType Try.prog.depth 25 = false := by kernel_rfl
set_option maxRecDepth 100000 in
theorem run_eqG (c k a t c' k' a' t' : Int) (w : World) : (binOp .eql 25 (.agg #[.int .i64 c, .int .i64 k, .int .i64 a, .int .i64 t]) (.agg #[.int .i64 c', .int .i64 k', .int .i64 a', .int .i64 t'])).run Try.prog w = .ok (.bool (decide (c = c' ∧ k = k' ∧ a = a' ∧ t = t'))) w := by
  obtain ⟨R, hR⟩ : ∃ R, R = decide (c = c' ∧ k = k' ∧ a = a' ∧ t = t') := ⟨_, rfl⟩
  rw [← hR]
  have HR := Lib.hid hR
  clear hR
  simp [go_sem]
  rw [HR.out]
  refine @ite_dec _ _ _ _ _ (fun b => Result.ok (Value.bool b) w) _ ?_
  refine @ite_dec _ _ _ _ _ (fun b => Result.ok (Value.bool b) w) _ ?_
  refine @ite_dec _ _ _ _ _ (fun b => Result.ok (Value.bool b) w) _ ?_
  exact @ite_last _ _ _ (fun b => Result.ok (Value.bool b) w)

def nb (b : Bool) : Int := if b then 1 else 0
theorem nb_bd (b : Bool) : 0 ≤ nb b ∧ nb b ≤ 1 := by cases b <;> simp [nb]
theorem c_number (b : Bool) (w : World) : Calls Try.prog 130 #[.bool b] w fun e w' => e = .returned (.int .i64 (nb b)) ∧ w = w' := by
  cases b
  all_goals
    go_enter Try.func130, Try.ntmps130
    go_wp2
    go_ret
    exact ⟨rfl, rfl⟩

def sameG (c k a t c' k' a' t' : Int) : Bool := decide (c = c' ∧ k = k' ∧ a = a' ∧ t = t')
/-- The number of differences of two groups. -/
def gdiff (c k a t c' k' a' t' : Int) : Int :=
  if sameG c k a t c' k' a' t' then 0 else if noneG c k a t || noneG c' k' a' t' then 2 else nb (c != c') + nb (t != t') + (if k != k' then 2 else nb (a != a'))
theorem gdiff_comm (c k a t c' k' a' t' : Int) : gdiff c k a t c' k' a' t' = gdiff c' k' a' t' c k a t := by
  have e1 : sameG c k a t c' k' a' t' = sameG c' k' a' t' c k a t := by unfold sameG; rw [decide_eq_decide]; omega
  have f (x y : Int) : (x != y) = (y != x) := bne_comm
  unfold gdiff
  rw [e1, Bool.or_comm, f c c', f t t', f k k', f a a']
theorem gdiff_zero {c k a t c' k' a' t' : Int} (h : okG c k a t = true) (h' : okG c' k' a' t' = true) : (gdiff c k a t c' k' a' t' == 0) = sameG c k a t c' k' a' t' := by
  unfold gdiff
  cases hs : sameG c k a t c' k' a' t' with
  | true => simp
  | false =>
    simp only [Bool.false_eq_true, if_false]
    cases hn : noneG c k a t || noneG c' k' a' t' with
    | true => simp
    | false =>
      simp only [Bool.false_eq_true, if_false]
      have b1 := nb_bd (c != c')
      have b2 := nb_bd (t != t')
      have b3 := nb_bd (a != a')
      by_cases hk : k = k'
      · subst hk
        have : ¬ (nb (c != c') + nb (t != t') + (if (k != k) = true then 2 else nb (a != a')) = 0) := by
          intro h0
          simp only [bne_self_eq_false, Bool.false_eq_true, if_false] at h0
          have z1 : nb (c != c') = 0 := by omega
          have z2 : nb (t != t') = 0 := by omega
          have z3 : nb (a != a') = 0 := by omega
          have y1 : c = c' := by simpa [nb] using z1
          have y2 : t = t' := by simpa [nb] using z2
          have y3 : a = a' := by simpa [nb] using z3
          subst y1; subst y2; subst y3
          simp [sameG] at hs
        simpa using this
      · have hk' : (k != k') = true := by simpa using hk
        rw [hk']
        simp
        omega
theorem gdiff_bd (c k a t c' k' a' t' : Int) : 0 ≤ gdiff c k a t c' k' a' t' ∧ gdiff c k a t c' k' a' t' ≤ 4 := by
  have b1 := nb_bd (c != c')
  have b2 := nb_bd (t != t')
  have b3 := nb_bd (a != a')
  unfold gdiff
  split
  · omega
  · split
    · omega
    · split <;> omega

set_option maxHeartbeats 4000000 in
theorem c_groupDifferences (c k a t c' k' a' t' : Int) (w : World) : Calls Try.prog 120 #[.agg #[.int .i64 c, .int .i64 k, .int .i64 a, .int .i64 t], .agg #[.int .i64 c', .int .i64 k', .int .i64 a', .int .i64 t']] w fun e w' => e = .returned (.int .i64 (gdiff c k a t c' k' a' t')) ∧ Up w w' := by
  have hE := run_eqG
  cases hs : decide (c = c' ∧ k = k' ∧ a = a' ∧ t = t') with
  | true =>
    go_enter Try.func120, Try.ntmps120
    go_wp2_with fail
    go_ret
    exact ⟨ret_int (by unfold gdiff; rw [if_pos (show sameG c k a t c' k' a' t' = true from hs)]), by (repeat (first | (with_reducible exact Up.refl _) | (with_reducible assumption) | (with_reducible refine Up.alloc ?_ _) | (with_reducible refine Up.drew ?_) | (with_reducible refine Up.drewN ?_ _) | (with_reducible refine Up.store ?_ ?_ _) | (with_reducible refine Up.trans ?_ (by assumption)) | (exact Nat.le_refl _) | (exact Nat.le_add_right _ _) | (go_light; omega)))⟩
  | false =>
    cases h1 : decide (c = 0 ∧ k = 0 ∧ a = 0 ∧ t = 0) with
    | true =>
      have hg : gdiff c k a t c' k' a' t' = 2 := by
        unfold gdiff; rw [if_neg (by unfold sameG; rw [hs]; simp), if_pos (by unfold noneG; rw [h1]; rfl)]
      have HG := Lib.hid hg
      clear hg
      go_enter Try.func120, Try.ntmps120
      go_wp2_with fail
      go_ret
      exact ⟨ret_int HG.out.symm, by (repeat (first | (with_reducible exact Up.refl _) | (with_reducible assumption) | (with_reducible refine Up.alloc ?_ _) | (with_reducible refine Up.drew ?_) | (with_reducible refine Up.drewN ?_ _) | (with_reducible refine Up.store ?_ ?_ _) | (with_reducible refine Up.trans ?_ (by assumption)) | (exact Nat.le_refl _) | (exact Nat.le_add_right _ _) | (go_light; omega)))⟩
    | false =>
      cases h2 : decide (c' = 0 ∧ k' = 0 ∧ a' = 0 ∧ t' = 0) with
      | true =>
        have hg : gdiff c k a t c' k' a' t' = 2 := by
          unfold gdiff; rw [if_neg (by unfold sameG; rw [hs]; simp), if_pos (by unfold noneG; rw [h2]; simp)]
        have HG := Lib.hid hg
        clear hg
        go_enter Try.func120, Try.ntmps120
        go_wp2_with fail
        go_ret
        exact ⟨ret_int HG.out.symm, by (repeat (first | (with_reducible exact Up.refl _) | (with_reducible assumption) | (with_reducible refine Up.alloc ?_ _) | (with_reducible refine Up.drew ?_) | (with_reducible refine Up.drewN ?_ _) | (with_reducible refine Up.store ?_ ?_ _) | (with_reducible refine Up.trans ?_ (by assumption)) | (exact Nat.le_refl _) | (exact Nat.le_add_right _ _) | (go_light; omega)))⟩
      | false =>
        have hg : gdiff c k a t c' k' a' t' = nb (c != c') + nb (t != t') + (if k != k' then 2 else nb (a != a')) := by
          unfold gdiff; rw [if_neg (by unfold sameG; rw [hs]; simp), if_neg (by unfold noneG; rw [h1, h2]; simp)]
        have HG := Lib.hid hg
        clear hg
        have b1 := nb_bd (c != c')
        have b2 := nb_bd (t != t')
        have b3 := nb_bd (a != a')
        obtain ⟨b1a, b1b⟩ := b1
        obtain ⟨b2a, b2b⟩ := b2
        obtain ⟨b3a, b3b⟩ := b3
        cases hk : (k != k') with
        | true =>
          go_enter Try.func120, Try.ntmps120
          go_wp2_with fail
          go_quiet ((go_at_call 130; exact Calls.quiet_of_same ((c_number _ _).mono fun e w' h => ⟨h.1, h.2.symm⟩)))
          go_wp2_with fail
          go_ret
          exact ⟨ret_int (by rw [HG.out, hk, if_pos rfl]), by (repeat (first | (with_reducible exact Up.refl _) | (with_reducible assumption) | (with_reducible refine Up.alloc ?_ _) | (with_reducible refine Up.drew ?_) | (with_reducible refine Up.drewN ?_ _) | (with_reducible refine Up.store ?_ ?_ _) | (with_reducible refine Up.trans ?_ (by assumption)) | (exact Nat.le_refl _) | (exact Nat.le_add_right _ _) | (go_light; omega)))⟩
        | false =>
          go_enter Try.func120, Try.ntmps120
          go_wp2_with fail
          go_quiet ((go_at_call 130; exact Calls.quiet_of_same ((c_number _ _).mono fun e w' h => ⟨h.1, h.2.symm⟩)))
          go_wp2_with (go_at_call 130; refine (c_number _ _).mono ?_; rintro e w' ⟨rfl, rfl⟩)
          go_ret
          exact ⟨ret_int (by rw [HG.out, hk, if_neg (by simp)]), by (repeat (first | (with_reducible exact Up.refl _) | (with_reducible assumption) | (with_reducible refine Up.alloc ?_ _) | (with_reducible refine Up.drew ?_) | (with_reducible refine Up.drewN ?_ _) | (with_reducible refine Up.store ?_ ?_ _) | (with_reducible refine Up.trans ?_ (by assumption)) | (exact Nat.le_refl _) | (exact Nat.le_add_right _ _) | (go_light; omega)))⟩

end Go.Proofs.Ytnniiphfbjbjdaa
