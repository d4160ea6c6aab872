/- Contracts and lemmas (Wg) for the laws of this seat: what the Go functions named here return, for all arguments that each theorem states; no further conditions. -/
import Derived.Test.YtojnomplchlcdaaM1
import Derived.Test.YtojnomplchlcdaaM2
import Derived.Test.YtojnomplchlcdaaWa
import Derived.Test.YtojnomplchlcdaaRows
import Derived.Deep.LoopGhost
import Derived.WalkKit
import Derived.ProofKit
import Derived.OpenShut
import Derived.WalkLawsBesides
import Derived.Lib.Hide
import Derived.Deep.QuietTactic
import Derived.BigQuiet
import Derived.Deep.Light
namespace Go.Proofs.Ytojnomplchlcdaa
open Go.ChangeShapes Go.WideShapes Go.ChangeAt Go.RowKit
set_option linter.unusedVariables false
set_option linter.unusedSimpArgs false

set_option maxHeartbeats 1000000 in
theorem c_l21Grid (n : Int) (h1 : 1 ≤ n) (h2 : n ≤ 12) (w : World) : Calls Try.prog 27 #[.int .i64 n] w fun e w' => e = .returned (.tuple #[.int .i64 (gGrid n).1, .int .i64 (gGrid n).2]) ∧ w = w' := by
  go_enter Try.func27, Try.ntmps27
  go_wp2
  go_loop [4, 5, 6] (fun best long rows => ∃ (s : Int × Int) (r : Int) (k : Nat), best = .int .i64 s.1 ∧ long = .int .i64 s.2 ∧ rows = .int .i64 r ∧ 1 ≤ r ∧ r + k = 5 ∧ (0 ≤ s.1 ∧ s.1 ≤ 12) ∧ (0 ≤ s.2 ∧ s.2 ≤ 14) ∧ Hid (gOut n 4 k r s = gGrid n)) (fun _ _ r => (5 - intOf r).toNat)
  case atStart => exact ⟨(0, 0), 1, 4, rfl, rfl, rfl, by omega, by omega, by simp, by simp, rfl⟩
  case round =>
    obtain ⟨⟨best, long⟩, r, k, rfl, rfl, rfl, hr, hk, hb, hl, HG⟩ := hrel
    dsimp only at hb hl
    cases k with
    | zero =>
      have hr5 : ¬ r ≤ 4 := by omega
      go_wp2
      go_ret2
      have := HG.out
      simp only [gOut] at this
      exact ⟨by rw [← this]; rfl, rfl⟩
    | succ k =>
      have hr4 : r ≤ 4 := by omega
      go_wp2
      go_loop [4, 5, 7] (fun best long p => ∃ (s : Int × Int) (q : Int) (j : Nat), best = .int .i64 s.1 ∧ long = .int .i64 s.2 ∧ p = .int .i64 q ∧ r ≤ q ∧ q + j = r + 3 ∧ (0 ≤ s.1 ∧ s.1 ≤ 12) ∧ (0 ≤ s.2 ∧ s.2 ≤ 14) ∧ Hid (gOut n 4 k (r + 1) (gIn n r j q s) = gGrid n)) (fun _ _ p => (r + 3 - intOf p).toNat)
      case atStart => exact ⟨(best, long), r, 3, rfl, rfl, rfl, by omega, by omega, hb, hl, HG⟩
      case round =>
        obtain ⟨⟨best, long⟩, q, j, rfl, rfl, rfl, hq, hj, hb, hl, HG⟩ := hrel
        dsimp only at hb hl
        cases j with
        | zero =>
          have hq3 : ¬ q ≤ r + 2 := by omega
          go_wp2
          go_round
          case rel => exact ⟨(best, long), r + 1, k, rfl, rfl, rfl, by omega, by omega, hb, hl, HG⟩
          case measure => simp [intOf]; omega
        | succ j =>
          have hq3 : q ≤ r + 2 := by omega
          have m1 := mul_bd (A := 4) (B := 6) (show 0 ≤ r by omega) (by omega) (show 0 ≤ q by omega) (by omega)
          have m2 := mul_bd (A := 12) (B := 14) hb.1 hb.2 hl.1 hl.2
          obtain ⟨m1a, m1b⟩ := m1
          obtain ⟨m2a, m2b⟩ := m2
          by_cases hc : n ≤ r * q ∧ (best = 0 ∨ r * q < best * long)
          · have hs : gStep n r q (best, long) = (r, q) := if_pos hc
            have HS := Lib.hid hs
            clear hs
            obtain ⟨hc1, hc2⟩ := hc
            by_cases hb0 : best = 0
            · subst hb0
              go_wp2
              go_round
              case rel => exact ⟨(r, q), q + 1, j, rfl, rfl, rfl, by omega, by omega, ⟨by omega, by omega⟩, ⟨by omega, by omega⟩, by have := HG.out; simp only [gIn, HS.out] at this; exact this⟩
              case measure => simp [intOf]; omega
            · have hc3 : r * q < best * long := by rcases hc2 with h | h; exact absurd h hb0; exact h
              have hb1 : (best == 0) = false := by simpa using hb0
              clear hc2
              go_wp2
              go_round
              case rel => exact ⟨(r, q), q + 1, j, rfl, rfl, rfl, by omega, by omega, ⟨by omega, by omega⟩, ⟨by omega, by omega⟩, by have := HG.out; simp only [gIn, HS.out] at this; exact this⟩
              case measure => simp [intOf]; omega
          · have hs : gStep n r q (best, long) = (best, long) := if_neg hc
            have HS := Lib.hid hs
            clear hs
            have HC := Lib.hid hc
            clear hc
            by_cases hc1 : n ≤ r * q
            · have hb1 : (best == 0) = false := by have := HC.out; simp; intro h; exact this ⟨hc1, .inl h⟩
              have hc3 : ¬ r * q < best * long := fun h => HC.out ⟨hc1, .inr h⟩
              go_wp2
              go_round
              case rel => exact ⟨(best, long), q + 1, j, rfl, rfl, rfl, by omega, by omega, hb, hl, by have := HG.out; simp only [gIn, HS.out] at this; exact this⟩
              case measure => simp [intOf]; omega
            · go_wp2
              go_round
              case rel => exact ⟨(best, long), q + 1, j, rfl, rfl, rfl, by omega, by omega, hb, hl, by have := HG.out; simp only [gIn, HS.out] at this; exact this⟩
              case measure => simp [intOf]; omega

set_option maxHeartbeats 1000000 in
theorem c_GridOf_yes (n : Int) (h : inB n 1 12 = true) (w : World) : Calls Try.prog 13 #[.int .i64 n] w fun e w' => e = .returned (.tuple #[.int .i64 (gGrid n).1, .int .i64 (gGrid n).2, .bool true]) ∧ w = w' := by
  have h12 := inB_true h
  obtain ⟨h1, h2⟩ := h12
  have HT := Lib.hid (grid_same h1 h2)
  go_enter Try.func13, Try.ntmps13
  go_wp2_with (go_at_call 28; refine (c_inside _ _ _ _).mono ?_; rintro e w' ⟨rfl, rfl⟩)
  go_loop [5, 6, 7] (fun best long rows => ∃ (s : Int × Int) (r : Int) (k : Nat), best = .int .i64 s.1 ∧ long = .int .i64 s.2 ∧ rows = .int .i64 r ∧ 1 ≤ r ∧ r + k = n + 1 ∧ (0 ≤ s.1 ∧ s.1 ≤ 12) ∧ (0 ≤ s.2 ∧ s.2 ≤ 14) ∧ Hid (gOut n n k r s = gGrid n)) (fun _ _ r => (n + 1 - intOf r).toNat)
  case atStart => exact ⟨(0, 0), 1, n.toNat, rfl, rfl, rfl, by omega, by omega, by simp, by simp, HT.out⟩
  case round =>
    obtain ⟨⟨best, long⟩, r, k, rfl, rfl, rfl, hr, hk, hb, hl, HG⟩ := hrel
    dsimp only at hb hl
    cases k with
    | zero =>
      have hr5 : ¬ r ≤ n := by omega
      go_wp2
      go_ret3
      have := HG.out
      simp only [gOut] at this
      exact ⟨by rw [← this]; rfl, rfl⟩
    | succ k =>
      have hr4 : r ≤ n := by omega
      go_wp2
      go_loop [5, 6, 8] (fun best long p => ∃ (s : Int × Int) (q : Int) (j : Nat), best = .int .i64 s.1 ∧ long = .int .i64 s.2 ∧ p = .int .i64 q ∧ r ≤ q ∧ q + j = r + 3 ∧ (0 ≤ s.1 ∧ s.1 ≤ 12) ∧ (0 ≤ s.2 ∧ s.2 ≤ 14) ∧ Hid (gOut n n k (r + 1) (gIn n r j q s) = gGrid n)) (fun _ _ p => (r + 3 - intOf p).toNat)
      case atStart => exact ⟨(best, long), r, 3, rfl, rfl, rfl, by omega, by omega, hb, hl, HG⟩
      case round =>
        obtain ⟨⟨best, long⟩, q, j, rfl, rfl, rfl, hq, hj, hb, hl, HG⟩ := hrel
        dsimp only at hb hl
        cases j with
        | zero =>
          have hq3 : ¬ q ≤ r + 2 := by omega
          go_wp2
          go_round
          case rel => exact ⟨(best, long), r + 1, k, rfl, rfl, rfl, by omega, by omega, hb, hl, HG⟩
          case measure => simp [intOf]; omega
        | succ j =>
          have hq3 : q ≤ r + 2 := by omega
          have m1 := mul_bd (A := 12) (B := 14) (show 0 ≤ r by omega) (by omega) (show 0 ≤ q by omega) (by omega)
          have m2 := mul_bd (A := 12) (B := 14) hb.1 hb.2 hl.1 hl.2
          obtain ⟨m1a, m1b⟩ := m1
          obtain ⟨m2a, m2b⟩ := m2
          by_cases hc : n ≤ r * q ∧ (best = 0 ∨ r * q < best * long)
          · have hs : gStep n r q (best, long) = (r, q) := if_pos hc
            have HS := Lib.hid hs
            clear hs
            obtain ⟨hc1, hc2⟩ := hc
            by_cases hb0 : best = 0
            · subst hb0
              go_wp2
              go_round
              case rel => exact ⟨(r, q), q + 1, j, rfl, rfl, rfl, by omega, by omega, ⟨by omega, by omega⟩, ⟨by omega, by omega⟩, by have := HG.out; simp only [gIn, HS.out] at this; exact this⟩
              case measure => simp [intOf]; omega
            · have hc3 : r * q < best * long := by rcases hc2 with h | h; exact absurd h hb0; exact h
              have hb1 : (best == 0) = false := by simpa using hb0
              clear hc2
              go_wp2
              go_round
              case rel => exact ⟨(r, q), q + 1, j, rfl, rfl, rfl, by omega, by omega, ⟨by omega, by omega⟩, ⟨by omega, by omega⟩, by have := HG.out; simp only [gIn, HS.out] at this; exact this⟩
              case measure => simp [intOf]; omega
          · have hs : gStep n r q (best, long) = (best, long) := if_neg hc
            have HS := Lib.hid hs
            clear hs
            have HC := Lib.hid hc
            clear hc
            by_cases hc1 : n ≤ r * q
            · have hb1 : (best == 0) = false := by have := HC.out; simp; intro h; exact this ⟨hc1, .inl h⟩
              have hc3 : ¬ r * q < best * long := fun h => HC.out ⟨hc1, .inr h⟩
              go_wp2
              go_round
              case rel => exact ⟨(best, long), q + 1, j, rfl, rfl, rfl, by omega, by omega, hb, hl, by have := HG.out; simp only [gIn, HS.out] at this; exact this⟩
              case measure => simp [intOf]; omega
            · go_wp2
              go_round
              case rel => exact ⟨(best, long), q + 1, j, rfl, rfl, rfl, by omega, by omega, hb, hl, by have := HG.out; simp only [gIn, HS.out] at this; exact this⟩
              case measure => simp [intOf]; omega

theorem c_GridOf_no (n : Int) (h : inB n 1 12 = false) (w : World) : Calls Try.prog 13 #[.int .i64 n] w fun e w' => e = .returned (.tuple #[.int .i64 0, .int .i64 0, .bool false]) ∧ w = w' := by
  go_enter Try.func13, Try.ntmps13
  go_wp2_with (go_at_call 28; refine (c_inside _ _ _ _).mono ?_; rintro e w' ⟨rfl, rfl⟩)
  go_ret3
  exact ⟨rfl, rfl⟩
theorem c_sGridOf_no (n : Int) (h : inB n 1 12 = false) (w : World) : Calls Try.prog 12 #[.int .i64 n] w fun e w' => e = .returned (.tuple #[.int .i64 0, .int .i64 0, .bool false]) ∧ w = w' := by
  go_enter Try.func12, Try.ntmps12
  go_wp2_with (go_at_call 26; refine (c_l1In _ _ _ _).mono ?_; rintro e w' ⟨rfl, rfl⟩)
  go_ret3
  exact ⟨rfl, rfl⟩
theorem c_sGridOf_yes (n : Int) (h : inB n 1 12 = true) (w : World) : Calls Try.prog 12 #[.int .i64 n] w fun e w' => e = .returned (.tuple #[.int .i64 (gGrid n).1, .int .i64 (gGrid n).2, .bool true]) ∧ w = w' := by
  have h12 := inB_true h
  go_enter Try.func12, Try.ntmps12
  go_wp2_with (first | (go_at_call 26; refine (c_l1In _ _ _ _).mono ?_; rintro e w' ⟨rfl, rfl⟩) | (go_at_call 27; refine (c_l21Grid _ h12.1 h12.2 _).mono ?_; rintro e w' ⟨rfl, rfl⟩))
  go_ret3
  exact ⟨rfl, rfl⟩

end Go.Proofs.Ytojnomplchlcdaa
