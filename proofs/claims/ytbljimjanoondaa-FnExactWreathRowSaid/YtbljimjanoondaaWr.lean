/- Contracts and lemmas (Wr) for the laws of this seat: what the Go functions named here return, for all arguments that each theorem states; no further conditions. -/
import Derived.Test.YtbljimjanoondaaData
import Derived.Test.YtbljimjanoondaaInts
import Derived.Test.YtbljimjanoondaaMem
import Derived.Test.YtbljimjanoondaaMemA
import Derived.Test.YtbljimjanoondaaOpen
import Derived.Test.YtbljimjanoondaaTinc
import Derived.Test.YtbljimjanoondaaTincI
import Derived.Test.YtbljimjanoondaaTincS
import Derived.Test.YtbljimjanoondaaUp
import Derived.Test.YtbljimjanoondaaWb
import Derived.Test.YtbljimjanoondaaWd
import Derived.Test.YtbljimjanoondaaRows
import Derived.WalkKit
import Derived.ProofKit
import Derived.OpenShut
import Derived.WalkLawsBesides
import Derived.Lib.Hide
import Derived.Deep.QuietTactic
import Derived.BigQuiet
import Derived.Deep.Light
import Derived.Handy
namespace Go.Proofs.Ytbljimjanoondaa
set_option maxRecDepth 100000
open Go.ChangeShapes Go.WideShapes Go.ChangeAt Go.RowKit
set_option linter.unusedVariables false
set_option linter.unusedSimpArgs false

def cls (x : Int) : Int := if x ≤ 2 then 1 else if x ≤ 7 then 2 else 3
def stepM (m x : Int) : Int := if cls x = 1 ∧ m = 0 then x else m
def stepC (c x : Int) : Int := if cls x = 2 ∧ c = 0 then x else c
def wM (l : List Int) : Int := l.foldl stepM 0
def wC (l : List Int) : Int := l.foldl stepC 0
def outM (l : List Int) : Int := if wM l = 0 then 2 else wM l
def outC (l : List Int) : Int := if wC l = 0 then 5 else wC l
theorem wM_take {l : List Int} {k : Nat} {y : Int} (h : l[k]? = some y) : wM (l.take (k + 1)) = stepM (wM (l.take k)) y := by
  unfold wM; rw [List.take_add_one, h, List.foldl_append]; rfl
theorem wC_take {l : List Int} {k : Nat} {y : Int} (h : l[k]? = some y) : wC (l.take (k + 1)) = stepC (wC (l.take k)) y := by
  unfold wC; rw [List.take_add_one, h, List.foldl_append]; rfl

theorem c_l2Class (x n : Int) (h : cls x = n) (w : World) : Calls Try.prog 74 #[.int .i64 x] w fun e w' => e = .returned (.int .i64 n) ∧ w' = w := by
  subst h
  go_enter Try.func74, Try.ntmps74
  go_wp2
  all_goals go_ret
  all_goals exact ⟨ret_int (by unfold cls; split <;> (try split) <;> first | rfl | omega), rfl⟩

theorem c_class (x n : Int) (h : cls x = n) (w : World) : Calls Try.prog 82 #[.int .i64 x] w fun e w' => e = .returned (.int .i64 n) ∧ w' = w := by
  subst h
  go_enter Try.func82, Try.ntmps82
  go_wp2
  all_goals go_ret
  all_goals exact ⟨ret_int (by unfold cls; split <;> (try split) <;> first | rfl | omega), rfl⟩
theorem cls_cases (x : Int) : cls x = 1 ∨ cls x = 2 ∨ cls x = 3 := by unfold cls; split; simp; split <;> simp

set_option maxHeartbeats 4000000 in
theorem c_l22Wreath (A : Arms) (w : World) : Calls Try.prog 46 #[.agg A.arr] w fun e w' => e = .returned (.tuple #[.int .i64 (outM (tincS A)), .int .i64 (outC (tincS A))]) ∧ Up w w' := by
  generalize hT : tincS A = T
  go_enter Try.func46, Try.ntmps46
  go_wp2_with (first | (refine wpList_load_agg 44 _ rfl rfl _ _ rfl A.arr _ (box_range (w := w) (t := 44) (by (repeat (first | (with_reducible exact Up.refl _) | (with_reducible assumption) | (with_reducible refine Up.alloc ?_ _) | (with_reducible refine Up.drew ?_) | (with_reducible refine Up.drewN ?_ _) | (with_reducible refine Up.store ?_ ?_ _) | (with_reducible refine Up.trans ?_ (by assumption)) | (exact Nat.le_refl _) | (exact Nat.le_add_right _ _) | (go_light; omega))))) Try.underlying44 rfl infoA ?_) | (go_at_call 73; refine (hT ▸ c_l5Tinctures A _).mono ?_; rintro e w1 ⟨A1, c1, rfl, ho1, hb1⟩))
  have hrd : Rd w1 1 encI A1 c1 T := ho1.rd encI_len
  have hmax : T.length ≤ 9223372036854775807 := by have h1 := hrd.le; have h2 := hrd.max; unfold maxLen at h2; omega
  have hup0 : Up w w1 := by (repeat (first | (with_reducible exact Up.refl _) | (with_reducible assumption) | (with_reducible refine Up.alloc ?_ _) | (with_reducible refine Up.drew ?_) | (with_reducible refine Up.drewN ?_ _) | (with_reducible refine Up.store ?_ ?_ _) | (with_reducible refine Up.trans ?_ (by assumption)) | (exact Nat.le_refl _) | (exact Nat.le_add_right _ _) | (go_light; omega)))
  go_loopw [4, 5, 7] (fun s t i wr => ∃ (k : Nat) (m c : Int), k ≤ T.length ∧ i = .int .i64 k ∧ s = .int .i64 m ∧ t = .int .i64 c ∧ m = wM (T.take k) ∧ c = wC (T.take k) ∧ Up w1 wr) (fun _ _ i _ => T.length - (intOf i).toNat)
  case atStart => exact ⟨0, 0, 0, by omega, rfl, rfl, rfl, rfl, rfl, Up.refl _⟩
  case round =>
    obtain ⟨k, m, c, hk, rfl, rfl, rfl, hm, hc, hup⟩ := hrel
    have HM := Lib.hid hm
    have HC := Lib.hid hc
    clear hm hc
    by_cases hlt : k < T.length
    · obtain ⟨y, b, o, hy, rfl, hcell⟩ := (hrd.up hup).getI hlt
      have hcap : T.length ≤ c1 := hrd.le
      have HY := Lib.hid hy
      clear hy
      rcases cls_cases y with hy | hy | hy
      · by_cases hm0 : m = 0
        · have hs1 : stepM m y = y := if_pos ⟨hy, hm0⟩
          have hs2 : stepC c y = c := if_neg (by rw [hy]; omega)
          have HS1 := Lib.hid hs1; have HS2 := Lib.hid hs2; clear hs1 hs2
          go_wp2_with (go_at_call 74; refine (c_l2Class _ _ hy _).mono ?_; rintro e w' ⟨rfl, rfl⟩)
          exact ⟨⟨k + 1, y, c, by omega, rfl, rfl, rfl, by rw [wM_take HY.out, ← HM.out, HS1.out], by rw [wC_take HY.out, ← HC.out, HS2.out], hup⟩, by simp [intOf]; omega⟩
        · have hs1 : stepM m y = m := if_neg (by simp [hm0])
          have hs2 : stepC c y = c := if_neg (by rw [hy]; omega)
          have HS1 := Lib.hid hs1; have HS2 := Lib.hid hs2; clear hs1 hs2
          go_wp2_with (go_at_call 74; refine (c_l2Class _ _ hy _).mono ?_; rintro e w' ⟨rfl, rfl⟩)
          exact ⟨⟨k + 1, m, c, by omega, rfl, rfl, rfl, by rw [wM_take HY.out, ← HM.out, HS1.out], by rw [wC_take HY.out, ← HC.out, HS2.out], hup⟩, by simp [intOf]; omega⟩
      · by_cases hc0 : c = 0
        · have hs1 : stepM m y = m := if_neg (by rw [hy]; omega)
          have hs2 : stepC c y = y := if_pos ⟨hy, hc0⟩
          have HS1 := Lib.hid hs1; have HS2 := Lib.hid hs2; clear hs1 hs2
          go_wp2_with (go_at_call 74; refine (c_l2Class _ _ hy _).mono ?_; rintro e w' ⟨rfl, rfl⟩)
          exact ⟨⟨k + 1, m, y, by omega, rfl, rfl, rfl, by rw [wM_take HY.out, ← HM.out, HS1.out], by rw [wC_take HY.out, ← HC.out, HS2.out], hup⟩, by simp [intOf]; omega⟩
        · have hs1 : stepM m y = m := if_neg (by rw [hy]; omega)
          have hs2 : stepC c y = c := if_neg (by simp [hc0])
          have HS1 := Lib.hid hs1; have HS2 := Lib.hid hs2; clear hs1 hs2
          go_wp2_with (go_at_call 74; refine (c_l2Class _ _ hy _).mono ?_; rintro e w' ⟨rfl, rfl⟩)
          exact ⟨⟨k + 1, m, c, by omega, rfl, rfl, rfl, by rw [wM_take HY.out, ← HM.out, HS1.out], by rw [wC_take HY.out, ← HC.out, HS2.out], hup⟩, by simp [intOf]; omega⟩
      · have hs1 : stepM m y = m := if_neg (by rw [hy]; omega)
        have hs2 : stepC c y = c := if_neg (by rw [hy]; omega)
        have HS1 := Lib.hid hs1; have HS2 := Lib.hid hs2; clear hs1 hs2
        go_wp2_with (go_at_call 74; refine (c_l2Class _ _ hy _).mono ?_; rintro e w' ⟨rfl, rfl⟩)
        exact ⟨⟨k + 1, m, c, by omega, rfl, rfl, rfl, by rw [wM_take HY.out, ← HM.out, HS1.out], by rw [wC_take HY.out, ← HC.out, HS2.out], hup⟩, by simp [intOf]; omega⟩
    · have hkl : T.take k = T := List.take_of_length_le (by omega)
      have hM : wM T = m := by rw [HM.out, hkl]
      have hC : wC T = c := by rw [HC.out, hkl]
      clear hkl
      have HMM := Lib.hid hM; have HCC := Lib.hid hC; clear hM hC
      by_cases hm0 : m = 0 <;> by_cases hc0 : c = 0
      all_goals go_wp2
      all_goals go_ret2
      all_goals exact ⟨by simp [outM, outC, HMM.out, HCC.out, hm0, hc0], by (repeat (first | (with_reducible exact Up.refl _) | (with_reducible assumption) | (with_reducible refine Up.alloc ?_ _) | (with_reducible refine Up.drew ?_) | (with_reducible refine Up.drewN ?_ _) | (with_reducible refine Up.store ?_ ?_ _) | (with_reducible refine Up.trans ?_ (by assumption)) | (exact Nat.le_refl _) | (exact Nat.le_add_right _ _) | (go_light; omega)))⟩

set_option maxHeartbeats 4000000 in
theorem c_wreath (A : Arms) (w : World) : Calls Try.prog 52 #[.agg A.arr] w fun e w' => e = .returned (.tuple #[.int .i64 (outM (tinc A)), .int .i64 (outC (tinc A))]) ∧ Up w w' := by
  generalize hT : tinc A = T
  go_enter Try.func52, Try.ntmps52
  go_wp2_with (first | (refine wpList_load_agg 44 _ rfl rfl _ _ rfl A.arr _ (box_range (w := w) (t := 44) (by (repeat (first | (with_reducible exact Up.refl _) | (with_reducible assumption) | (with_reducible refine Up.alloc ?_ _) | (with_reducible refine Up.drew ?_) | (with_reducible refine Up.drewN ?_ _) | (with_reducible refine Up.store ?_ ?_ _) | (with_reducible refine Up.trans ?_ (by assumption)) | (exact Nat.le_refl _) | (exact Nat.le_add_right _ _) | (go_light; omega))))) Try.underlying44 rfl infoA ?_) | (go_at_call 81; refine (hT ▸ c_aTinctures A _).mono ?_; rintro e w1 ⟨A1, c1, rfl, ho1, hb1⟩))
  have hrd : Rd w1 1 encI A1 c1 T := ho1.rd encI_len
  have hmax : T.length ≤ 9223372036854775807 := by have h1 := hrd.le; have h2 := hrd.max; unfold maxLen at h2; omega
  have hup0 : Up w w1 := by (repeat (first | (with_reducible exact Up.refl _) | (with_reducible assumption) | (with_reducible refine Up.alloc ?_ _) | (with_reducible refine Up.drew ?_) | (with_reducible refine Up.drewN ?_ _) | (with_reducible refine Up.store ?_ ?_ _) | (with_reducible refine Up.trans ?_ (by assumption)) | (exact Nat.le_refl _) | (exact Nat.le_add_right _ _) | (go_light; omega)))
  go_loopw [4, 5, 11] (fun s t i wr => ∃ (k : Nat) (m c : Int), k ≤ T.length ∧ i = .int .i64 k ∧ s = .int .i64 m ∧ t = .int .i64 c ∧ m = wM (T.take k) ∧ c = wC (T.take k) ∧ Up w1 wr) (fun _ _ i _ => T.length - (intOf i).toNat)
  case atStart => exact ⟨0, 0, 0, by omega, rfl, rfl, rfl, rfl, rfl, Up.refl _⟩
  case round =>
    obtain ⟨k, m, c, hk, rfl, rfl, rfl, hm, hc, hup⟩ := hrel
    have HM := Lib.hid hm
    have HC := Lib.hid hc
    clear hm hc
    by_cases hlt : k < T.length
    · obtain ⟨y, b, o, hy, rfl, hcell⟩ := (hrd.up hup).getI hlt
      have hcap : T.length ≤ c1 := hrd.le
      have HY := Lib.hid hy
      clear hy
      rcases cls_cases y with hy | hy | hy
      · by_cases hm0 : m = 0
        · have hs1 : stepM m y = y := if_pos ⟨hy, hm0⟩
          have hs2 : stepC c y = c := if_neg (by rw [hy]; omega)
          have HS1 := Lib.hid hs1; have HS2 := Lib.hid hs2; clear hs1 hs2
          go_wp2_with (go_at_call 82; refine (c_class _ _ hy _).mono ?_; rintro e w' ⟨rfl, rfl⟩)
          exact ⟨⟨k + 1, y, c, by omega, rfl, rfl, rfl, by rw [wM_take HY.out, ← HM.out, HS1.out], by rw [wC_take HY.out, ← HC.out, HS2.out], hup⟩, by simp [intOf]; omega⟩
        · have hs1 : stepM m y = m := if_neg (by simp [hm0])
          have hs2 : stepC c y = c := if_neg (by rw [hy]; omega)
          have HS1 := Lib.hid hs1; have HS2 := Lib.hid hs2; clear hs1 hs2
          go_wp2_with (go_at_call 82; refine (c_class _ _ hy _).mono ?_; rintro e w' ⟨rfl, rfl⟩)
          exact ⟨⟨k + 1, m, c, by omega, rfl, rfl, rfl, by rw [wM_take HY.out, ← HM.out, HS1.out], by rw [wC_take HY.out, ← HC.out, HS2.out], hup⟩, by simp [intOf]; omega⟩
      · by_cases hc0 : c = 0
        · have hs1 : stepM m y = m := if_neg (by rw [hy]; omega)
          have hs2 : stepC c y = y := if_pos ⟨hy, hc0⟩
          have HS1 := Lib.hid hs1; have HS2 := Lib.hid hs2; clear hs1 hs2
          go_wp2_with (go_at_call 82; refine (c_class _ _ hy _).mono ?_; rintro e w' ⟨rfl, rfl⟩)
          exact ⟨⟨k + 1, m, y, by omega, rfl, rfl, rfl, by rw [wM_take HY.out, ← HM.out, HS1.out], by rw [wC_take HY.out, ← HC.out, HS2.out], hup⟩, by simp [intOf]; omega⟩
        · have hs1 : stepM m y = m := if_neg (by rw [hy]; omega)
          have hs2 : stepC c y = c := if_neg (by simp [hc0])
          have HS1 := Lib.hid hs1; have HS2 := Lib.hid hs2; clear hs1 hs2
          go_wp2_with (go_at_call 82; refine (c_class _ _ hy _).mono ?_; rintro e w' ⟨rfl, rfl⟩)
          exact ⟨⟨k + 1, m, c, by omega, rfl, rfl, rfl, by rw [wM_take HY.out, ← HM.out, HS1.out], by rw [wC_take HY.out, ← HC.out, HS2.out], hup⟩, by simp [intOf]; omega⟩
      · have hs1 : stepM m y = m := if_neg (by rw [hy]; omega)
        have hs2 : stepC c y = c := if_neg (by rw [hy]; omega)
        have HS1 := Lib.hid hs1; have HS2 := Lib.hid hs2; clear hs1 hs2
        go_wp2_with (go_at_call 82; refine (c_class _ _ hy _).mono ?_; rintro e w' ⟨rfl, rfl⟩)
        exact ⟨⟨k + 1, m, c, by omega, rfl, rfl, rfl, by rw [wM_take HY.out, ← HM.out, HS1.out], by rw [wC_take HY.out, ← HC.out, HS2.out], hup⟩, by simp [intOf]; omega⟩
    · have hkl : T.take k = T := List.take_of_length_le (by omega)
      have hM : wM T = m := by rw [HM.out, hkl]
      have hC : wC T = c := by rw [HC.out, hkl]
      clear hkl
      have HMM := Lib.hid hM; have HCC := Lib.hid hC; clear hM hC
      by_cases hm0 : m = 0 <;> by_cases hc0 : c = 0
      all_goals go_wp2
      all_goals go_ret2
      all_goals exact ⟨by simp [outM, outC, HMM.out, HCC.out, hm0, hc0], by (repeat (first | (with_reducible exact Up.refl _) | (with_reducible assumption) | (with_reducible refine Up.alloc ?_ _) | (with_reducible refine Up.drew ?_) | (with_reducible refine Up.drewN ?_ _) | (with_reducible refine Up.store ?_ ?_ _) | (with_reducible refine Up.trans ?_ (by assumption)) | (exact Nat.le_refl _) | (exact Nat.le_add_right _ _) | (go_light; omega)))⟩

end Go.Proofs.Ytbljimjanoondaa
