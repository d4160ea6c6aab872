/- Contracts and lemmas (DrP) for the laws of this seat: what the Go functions named here return, for all arguments that each theorem states; no further conditions. -/
import Derived.Test.YtnniiphfbjbjdaaCur
import Derived.Test.YtnniiphfbjbjdaaData
import Derived.Test.YtnniiphfbjbjdaaInts
import Derived.Test.YtnniiphfbjbjdaaMem
import Derived.Test.YtnniiphfbjbjdaaOpen
import Derived.Test.YtnniiphfbjbjdaaUp
import Derived.Test.YtnniiphfbjbjdaaRows
import Derived.WalkKit
import Derived.ProofKit
import Derived.OpenShut
import Derived.WalkLawsBesides
import Derived.Lib.Hide
import Derived.Deep.QuietTactic
import Derived.BigQuiet
import Derived.Deep.Light
import Derived.Handy
namespace Go.Proofs.Ytnniiphfbjbjdaa
set_option maxRecDepth 100000
open Go.ChangeShapes Go.WideShapes Go.ChangeAt Go.RowKit
set_option linter.unusedVariables false
set_option linter.unusedSimpArgs false

theorem I64.mk {x : Int} (h1 : -9223372036854775808 ≤ x) (h2 : x ≤ 9223372036854775807) : I64 x := ⟨h1, h2⟩

theorem and255 (x : Int) : 0 ≤ wrap64 (bits BinOp.and IntKind.u64 x 255) ∧ wrap64 (bits BinOp.and IntKind.u64 x 255) ≤ 255 := by
  have hx : (BitVec.ofInt 64 x).toNat &&& 255 ≤ 255 := Nat.and_le_right
  have h2 : (BitVec.ofInt 64 255).toNat = 255 := rfl
  have h : bits BinOp.and IntKind.u64 x 255 = (((BitVec.ofInt 64 x).toNat &&& 255 : Nat) : Int) := by
    show IntKind.u64.wrap ((BitVec.ofInt 64 x &&& BitVec.ofInt 64 255).toNat : Int) = _
    rw [BitVec.toNat_and, h2, IntKind.wrap_u64]
    omega
  rw [h, IntWalk.wrap64_in _ (by omega)]
  omega
set_option maxHeartbeats 1000000 in
theorem c_next (b k : Nat) (w : World) (h : Cur w b (k + 1)) : Calls Try.prog 206 #[.pointer (some ⟨b, 0, none⟩)] w (DrI b k w (fun x => 0 ≤ x ∧ x ≤ 255)) := by
  obtain ⟨A, n, cap, p, seed, h1, h2, h3, h4, h5⟩ := h
  have hc := fun o => cell_of_row w b o _ _ (0, 0) h1
  have hc0 : w.cell? ⟨b, 0, none⟩ = some (.slice A n cap) := hc 0
  have hc1 : w.cell? ⟨b, 1, none⟩ = some (.int .i64 p) := hc 1
  have hc2 : w.cell? ⟨b, 2, none⟩ = some (.int .u64 seed) := hc 2
  have hf1 : w.frozen? ⟨b, 1, none⟩ = false := frozen_of_row w b 1 _ _ h1
  have hf2 : w.frozen? ⟨b, 2, none⟩ = false := frozen_of_row w b 2 _ _ h1
  have H1 := Lib.hid h1
  have H5 := Lib.hid h5
  clear hc h1
  by_cases hlt : p < n
  · obtain ⟨g, o, x, rfl, hg, hx, hcell⟩ := h5 p hlt
    obtain ⟨hx0, hx1⟩ := hx
    clear h5
    go_enter Try.func206, Try.ntmps206
    go_wp2
    (refine wp_region_quiet_lit (by kernel_rfl) (by kernel_rfl) ?_; (repeat (first |  go_big_quiet_step (fail))); refine wpQuiet_nil ?_; intro _ hw'; obtain ⟨nq, hw''⟩ := hw'; subst hw'')
    go_wp2
    (refine wp_region_quiet_lit (by kernel_rfl) (by kernel_rfl) ?_; (repeat (first |  go_big_quiet_step (fail))); refine wpQuiet_nil ?_; intro _ hw'; obtain ⟨nq, hw''⟩ := hw'; subst hw'')
    go_wp2
    (refine wp_region_quiet_lit (by kernel_rfl) (by kernel_rfl) ?_; (repeat (first |  go_big_quiet_step (fail))); refine wpQuiet_nil ?_; intro _ hw'; obtain ⟨nq, hw''⟩ := hw'; subst hw'')
    go_wp2
    go_ret
    exact ⟨x, ⟨hx0, hx1⟩, rfl, by (repeat (first | (with_reducible exact Turn.refl _ _) | (with_reducible assumption) | (with_reducible refine Turn.alloc ?_ _) | (with_reducible refine Turn.drew ?_) | (with_reducible refine Turn.drewN ?_ _) | (with_reducible refine Turn.set ?_ _ _) | (with_reducible refine Turn.store ?_ ?_ _) | (with_reducible refine Turn.trans ?_ (by assumption)) | (with_reducible refine Turn.next ?_ (by assumption)) | (exact Nat.le_refl _) | (exact Nat.le_add_right _ _) | (go_light; omega))), ⟨_, n, cap, p + 1, _, (heap_setCell_same _ b 2 _ _ _ (heap_setCell_same _ b 1 _ _ _ H1.out)), h2, h3, by omega, H5.out.turn (by (repeat (first | (with_reducible exact Turn.refl _ _) | (with_reducible assumption) | (with_reducible refine Turn.alloc ?_ _) | (with_reducible refine Turn.drew ?_) | (with_reducible refine Turn.drewN ?_ _) | (with_reducible refine Turn.set ?_ _ _) | (with_reducible refine Turn.store ?_ ?_ _) | (with_reducible refine Turn.trans ?_ (by assumption)) | (with_reducible refine Turn.next ?_ (by assumption)) | (exact Nat.le_refl _) | (exact Nat.le_add_right _ _) | (go_light; omega))))⟩⟩
  · clear h5
    go_enter Try.func206, Try.ntmps206
    go_wp2
    (refine wp_region_quiet_lit (by kernel_rfl) (by kernel_rfl) ?_; (repeat (first |  go_big_quiet_step (fail))); refine wpQuiet_nil ?_; intro _ hw'; obtain ⟨nq, hw''⟩ := hw'; subst hw'')
    go_wp2
    (refine wp_region_quiet_lit (by kernel_rfl) (by kernel_rfl) ?_; (repeat (first |  go_big_quiet_step (fail))); refine wpQuiet_nil ?_; intro _ hw'; obtain ⟨nq, hw''⟩ := hw'; subst hw'')
    go_wp2
    go_ret
    exact ⟨wrap64 (bits BinOp.and IntKind.u64 _ 255), and255 _, rfl, by (repeat (first | (with_reducible exact Turn.refl _ _) | (with_reducible assumption) | (with_reducible refine Turn.alloc ?_ _) | (with_reducible refine Turn.drew ?_) | (with_reducible refine Turn.drewN ?_ _) | (with_reducible refine Turn.set ?_ _ _) | (with_reducible refine Turn.store ?_ ?_ _) | (with_reducible refine Turn.trans ?_ (by assumption)) | (with_reducible refine Turn.next ?_ (by assumption)) | (exact Nat.le_refl _) | (exact Nat.le_add_right _ _) | (go_light; omega))), ⟨_, n, cap, p + 1, _, (heap_setCell_same _ b 2 _ _ _ (heap_setCell_same _ b 1 _ _ _ H1.out)), h2, h3, by omega, H5.out.turn (by (repeat (first | (with_reducible exact Turn.refl _ _) | (with_reducible assumption) | (with_reducible refine Turn.alloc ?_ _) | (with_reducible refine Turn.drew ?_) | (with_reducible refine Turn.drewN ?_ _) | (with_reducible refine Turn.set ?_ _ _) | (with_reducible refine Turn.store ?_ ?_ _) | (with_reducible refine Turn.trans ?_ (by assumption)) | (with_reducible refine Turn.next ?_ (by assumption)) | (exact Nat.le_refl _) | (exact Nat.le_add_right _ _) | (go_light; omega))))⟩⟩

set_option maxHeartbeats 1000000 in
theorem c_pick (b k : Nat) (n : Int) (w : World) (h : Cur w b (k + 2)) (hn : I64 n) : Calls Try.prog 117 #[.pointer (some ⟨b, 0, none⟩), .int .i64 n] w (DrI b k w (fun x => 0 ≤ x ∧ (x < n ∨ n ≤ 1 ∧ x = 0))) := by
  obtain ⟨hn1, hn2⟩ := hn
  by_cases h1 : n ≤ 1
  · go_enter Try.func117, Try.ntmps117
    go_wp2
    go_ret
    exact ⟨0, ⟨by omega, .inr ⟨h1, rfl⟩⟩, rfl, Turn.refl _ _, h.less (by omega)⟩
  · by_cases h2 : 200 < n
    · go_enter Try.func117, Try.ntmps117
      go_wp2_with fail; (with_reducible refine Calls.mono (c_next b (k + 1) _ h) ?_); rintro e w1 ⟨x1, ⟨hx1, hy1⟩, rfl, ht1, hc1⟩; have hz1 := ht1.size; (try simp only [World.size_alloc, World.size_setCell, World.size_drew] at hz1)
      go_wp2_with fail; (with_reducible refine Calls.mono (c_next b k _ hc1) ?_); rintro e w2 ⟨x2, ⟨hx2, hy2⟩, rfl, ht2, hc2⟩; have hz2 := ht2.size; (try simp only [World.size_alloc, World.size_setCell, World.size_drew] at hz2)
      go_wp2
      go_ret
      refine ⟨_, ?_, rfl, by (repeat (first | (with_reducible exact Turn.refl _ _) | (with_reducible assumption) | (with_reducible refine Turn.alloc ?_ _) | (with_reducible refine Turn.drew ?_) | (with_reducible refine Turn.drewN ?_ _) | (with_reducible refine Turn.set ?_ _ _) | (with_reducible refine Turn.store ?_ ?_ _) | (with_reducible refine Turn.trans ?_ (by assumption)) | (with_reducible refine Turn.next ?_ (by assumption)) | (exact Nat.le_refl _) | (exact Nat.le_add_right _ _) | (go_light; omega))), hc2⟩
      have := Int.emod_lt_of_pos (x1 * 256 + x2) (show 0 < n by omega)
      have := Int.emod_nonneg (x1 * 256 + x2) (show n ≠ 0 by omega)
      omega
    · go_enter Try.func117, Try.ntmps117
      go_wp2_with fail; (with_reducible refine Calls.mono (c_next b (k + 1) _ h) ?_); rintro e w1 ⟨x1, ⟨hx1, hy1⟩, rfl, ht1, hc1⟩; have hz1 := ht1.size; (try simp only [World.size_alloc, World.size_setCell, World.size_drew] at hz1)
      go_wp2
      go_ret
      refine ⟨_, ?_, rfl, by (repeat (first | (with_reducible exact Turn.refl _ _) | (with_reducible assumption) | (with_reducible refine Turn.alloc ?_ _) | (with_reducible refine Turn.drew ?_) | (with_reducible refine Turn.drewN ?_ _) | (with_reducible refine Turn.set ?_ _ _) | (with_reducible refine Turn.store ?_ ?_ _) | (with_reducible refine Turn.trans ?_ (by assumption)) | (with_reducible refine Turn.next ?_ (by assumption)) | (exact Nat.le_refl _) | (exact Nat.le_add_right _ _) | (go_light; omega))), hc1.less (by omega)⟩
      have := Int.emod_lt_of_pos x1 (show 0 < n by omega)
      have := Int.emod_nonneg x1 (show n ≠ 0 by omega)
      omega

theorem c_one (b k : Nat) (n : Int) (w : World) (h : Cur w b (k + 2)) (hn : I64 n) : Calls Try.prog 132 #[.pointer (some ⟨b, 0, none⟩), .int .i64 n] w (DrB b k w) := by
  go_enter Try.func132, Try.ntmps132
  go_wp2_with fail; (with_reducible refine Calls.mono (c_pick b k n _ h hn) ?_); rintro e w1 ⟨x, hx, rfl, ht1, hc1⟩; have hz1 := ht1.size; (try simp only [World.size_alloc, World.size_setCell, World.size_drew] at hz1)
  go_wp2_with fail
  go_ret
  exact ⟨_, rfl, ht1, hc1⟩

theorem c_tincture (b k : Nat) (w : World) (h : Cur w b (k + 2)) : Calls Try.prog 118 #[.pointer (some ⟨b, 0, none⟩)] w (DrI b k w (fun x => 1 ≤ x ∧ x ≤ 9)) := by
  go_enter Try.func118, Try.ntmps118
  go_wp2_with fail; (with_reducible refine Calls.mono (c_pick b k 9 _ h (I64.mk (by decide) (by decide))) ?_); rintro e w1 ⟨x, ⟨hx1, hx2⟩, rfl, ht1, hc1⟩; have hz1 := ht1.size; (try simp only [World.size_alloc, World.size_setCell, World.size_drew] at hz1)
  go_wp2_with fail
  go_ret
  exact ⟨1 + x, by omega, rfl, ht1, hc1⟩

/-- One number of a list. -/
theorem c_among (b k : Nat) (A : Option Addr) (cap : Nat) (l : List Int) (w : World) (h : Cur w b (k + 2)) (hr : Rd w 1 encI A cap l) (hA : ∀ a, A = some a → a.block ≠ b) (h0 : 1 ≤ l.length) (hl : l.length ≤ 1000) :
    Calls Try.prog 154 #[.pointer (some ⟨b, 0, none⟩), .slice A l.length cap] w (DrI b k w (fun x => x ∈ l)) := by
  have hcap : l.length ≤ cap := hr.le
  go_enter Try.func154, Try.ntmps154
  go_wp2_with fail; (with_reducible refine Calls.mono (c_pick b k l.length _ h (I64.mk (by omega) (by omega))) ?_); rintro e w1 ⟨x, ⟨hx1, hx2⟩, rfl, ht1, hc1⟩; have hz1 := ht1.size; (try simp only [World.size_alloc, World.size_setCell, World.size_drew] at hz1)
  obtain ⟨i, rfl⟩ := Int.eq_ofNat_of_zero_le hx1
  have hi : i < l.length := by omega
  obtain ⟨y, g, o, hy, rfl, hcell⟩ := (hr.turn ht1 hA).getI hi
  have HY := Lib.hid hy
  clear hy hr hA
  go_wp2_with fail
  go_ret
  exact ⟨y, List.mem_of_getElem? HY.out, rfl, ht1, hc1⟩

/-- The code of a draw. -/
def isCode (w : World) (A : Option Addr) (cap : Nat) (l : List Int) : Prop := Rd w 1 encU8 A cap l ∧ ∀ x ∈ l, isU8 x
theorem Cur.new {w w' : World} {A : Option Addr} {cap : Nat} {l : List Int} (h : Rd w 1 encU8 A cap l) (hg : ∀ x ∈ l, isU8 x) (hu : Up w w') {b : Nat} (hb : w.heap.size ≤ b) (hc : w'.heap[b]? = some (.cells #[.slice A l.length cap, .int .i64 0, .int .u64 0] 129 (0, 0))) (k : Nat) (hk : k ≤ 4611686018427387904) : Cur w' b k := by
  have h1 := h.le
  have h2 := h.max
  unfold maxLen at h2
  refine ⟨A, l.length, cap, 0, 0, hc, h1, by omega, by omega, fun i hi => ?_⟩
  obtain ⟨x, g, o, hx, hA, hr⟩ := h.get hi
  have hcell := hr 0 _ rfl
  simp only [Nat.mul_one, Nat.add_zero] at hcell
  exact ⟨g, o, x, hA, Nat.lt_of_lt_of_le (World.block_lt_of_cell? w _ hcell) hb, hg x (List.mem_of_getElem? hx), hu.cell hcell⟩

end Go.Proofs.Ytnniiphfbjbjdaa
