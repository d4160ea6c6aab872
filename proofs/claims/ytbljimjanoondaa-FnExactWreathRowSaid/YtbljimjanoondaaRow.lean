/- Contracts and lemmas (Row) for the laws of this seat: what the Go functions named here return, for all arguments that each theorem states; no further conditions. -/
import Derived.Test.YtbljimjanoondaaData
import Derived.Test.YtbljimjanoondaaIntL
import Derived.Test.YtbljimjanoondaaInts
import Derived.Test.YtbljimjanoondaaM1
import Derived.Test.YtbljimjanoondaaMem
import Derived.Test.YtbljimjanoondaaMemA
import Derived.Test.YtbljimjanoondaaTinc
import Derived.Test.YtbljimjanoondaaTincI
import Derived.Test.YtbljimjanoondaaTincS
import Derived.Test.YtbljimjanoondaaUp
import Derived.Test.YtbljimjanoondaaWa
import Derived.Test.YtbljimjanoondaaWb
import Derived.Test.YtbljimjanoondaaWd
import Derived.Test.YtbljimjanoondaaWr
import Derived.Test.YtbljimjanoondaaWrOf
import Derived.Test.YtbljimjanoondaaRows
import Derived.WalkKit
import Derived.ProofKit
import Derived.OpenShut
import Derived.WalkLawsBesides
import Derived.Lib.Hide
import Derived.Deep.QuietTactic
import Derived.BigQuiet
import Derived.Deep.Light
import Derived.Handy
namespace Go.Proofs.Ytbljimjanoondaa
set_option maxRecDepth 100000
open Go.ChangeShapes Go.WideShapes Go.ChangeAt Go.RowKit
set_option linter.unusedVariables false
set_option linter.unusedSimpArgs false

def rowOf (M C : Int) (n : Nat) : List Int := (List.range n).map fun i => if i % 2 = 0 then M else C
theorem rowOf_len (M C : Int) (n : Nat) : (rowOf M C n).length = n := by simp [rowOf]
theorem rowOf_even (M C : Int) {n : Nat} (h : n % 2 = 0) : rowOf M C (n + 1) = rowOf M C n ++ [M] := by simp [rowOf, List.range_succ, h]
theorem rowOf_odd (M C : Int) {n : Nat} (h : ¬ n % 2 = 0) : rowOf M C (n + 1) = rowOf M C n ++ [C] := by simp [rowOf, List.range_succ, h]
theorem tmod_even {k : Nat} (h : k % 2 = 0) : (k : Int).tmod 2 = 0 := by rw [Int.tmod_eq_emod_of_nonneg (by omega)]; omega
theorem tmod_odd {k : Nat} (h : ¬ k % 2 = 0) : (k : Int).tmod 2 = 1 := by rw [Int.tmod_eq_emod_of_nonneg (by omega)]; omega
def RetIB (w : World) (l : List Int) (b : Bool) : Ending → World → Prop := fun e w' => ∃ A cap, e = .returned (.tuple #[.slice A l.length cap, .bool b]) ∧ Own w' w.heap.size 3 1 encI A cap l ∧ Up w w'
theorem RetIB.of {w w' : World} {b : Bool} {A : Option Addr} {n cap : Nat} {l l' : List Int} (B : Nat) (ho : Own w' B 3 1 encI A cap l) (hB : w.heap.size ≤ B) (hu : Up w w') (hl : l = l') (hn : n = l.length) : RetIB w l' b (.returned (.tuple #[.slice A n cap, .bool b])) w' := by
  subst hl; subst hn
  exact ⟨A, cap, rfl, ho.mono hB, hu⟩
theorem empty_up {w w1 : World} {o : Obj} (h : Up ((w.alloc o).alloc (.cells #[] 3)) w1) : Own w1 (w.heap.size + 1) 3 1 encI (some ⟨w.heap.size + 1, 0, none⟩) 0 [] := by
  have := (Own.empty (w.alloc o) (w.heap.size + 1) 3 1 encI (by simp)).up h
  rwa [World.size_alloc] at this

set_option maxHeartbeats 2000000 in
theorem c_sWreathRow_yes (A : Arms) (n : Nat) (h : goodA A = true) (hn : inB (n : Int) 1 20 = true) (w : World) : Calls Try.prog 22 #[.agg A.arr, .int .i64 n] w (RetIB w (rowOf (outM (tinc A)) (outC (tinc A)) n) true) := by
  have hT := tincS_eq h
  have hn2 : n ≤ 20 := by have := inB_true hn; omega
  generalize hM : outM (tinc A) = M
  generalize hC : outC (tinc A) = C
  have hw : ∀ w0, Calls Try.prog 46 #[.agg A.arr] w0 fun e w' => e = .returned (.tuple #[.int .i64 M, .int .i64 C]) ∧ Up w0 w' := fun w0 => by
    have := c_l22Wreath A w0
    rwa [hT, hM, hC] at this
  have HW := Lib.hid hw
  clear hM hC hw hT
  go_enter Try.func22, Try.ntmps22
  go_wp2_with (first | (refine wpList_load_agg 44 _ rfl rfl _ _ rfl A.arr _ (box_range (w := w) (t := 44) (by (repeat (first | (with_reducible exact Up.refl _) | (with_reducible assumption) | (with_reducible refine Up.alloc ?_ _) | (with_reducible refine Up.drew ?_) | (with_reducible refine Up.drewN ?_ _) | (with_reducible refine Up.store ?_ ?_ _) | (with_reducible refine Up.trans ?_ (by assumption)) | (exact Nat.le_refl _) | (exact Nat.le_add_right _ _) | (go_light; omega))))) Try.underlying44 rfl infoA ?_) | (go_at_call 45; refine (c_l5Good _ _).mono ?_; rintro e w1 ⟨rfl, hb1⟩; obtain ⟨hc1, hf1, hz1⟩ := hb1.use (N := w.heap.size + 2) (by first | (simp; done) | omega | (simp; omega)); have hy0 : w.heap.size < w1.heap.size := Nat.lt_of_lt_of_le (Nat.lt_add_of_pos_right (by decide)) hz1; have hy1 : w.heap.size + 1 < w1.heap.size := Nat.lt_of_lt_of_le (Nat.add_lt_add_left (by decide : 1 < 2) _) hz1) | (go_at_call 57; refine (c_l1In _ _ _ _).mono ?_; rintro e w' ⟨rfl, rfl⟩) | (go_at_call 46; refine (HW.out _).mono ?_; rintro e w1 ⟨rfl, hb1⟩; obtain ⟨hc1, hf1, hz1⟩ := hb1.use (N := w.heap.size + 2) (by first | (simp; done) | omega | (simp; omega)); have hy0 : w.heap.size < w1.heap.size := Nat.lt_of_lt_of_le (Nat.lt_add_of_pos_right (by decide)) hz1; have hy1 : w.heap.size + 1 < w1.heap.size := Nat.lt_of_lt_of_le (Nat.add_lt_add_left (by decide : 1 < 2) _) hz1))
  go_loopw [6, 9] (fun s i wr => ∃ (k : Nat) (A' : Option Addr) (c' : Nat) (L : List Int), k ≤ n ∧ L = rowOf M C k ∧ i = .int .i64 k ∧ s = .slice A' L.length c' ∧ Own wr (w.heap.size + 1) 3 1 encI A' c' L ∧ Up (w.alloc (.cells A.arr 44)) wr) (fun _ i _ => n - (intOf i).toNat)
  case atStart => exact ⟨0, _, _, [], by omega, rfl, rfl, rfl, empty_up (w := w) (o := .cells A.arr 44) (by (repeat (first | (with_reducible exact Up.refl _) | (with_reducible assumption) | (with_reducible refine Up.alloc ?_ _) | (with_reducible refine Up.drew ?_) | (with_reducible refine Up.drewN ?_ _) | (with_reducible refine Up.store ?_ ?_ _) | (with_reducible refine Up.trans ?_ (by assumption)) | (exact Nat.le_refl _) | (exact Nat.le_add_right _ _) | (go_light; omega)))), by (repeat (first | (with_reducible exact Up.refl _) | (with_reducible assumption) | (with_reducible refine Up.alloc ?_ _) | (with_reducible refine Up.drew ?_) | (with_reducible refine Up.drewN ?_ _) | (with_reducible refine Up.store ?_ ?_ _) | (with_reducible refine Up.trans ?_ (by assumption)) | (exact Nat.le_refl _) | (exact Nat.le_add_right _ _) | (go_light; omega)))⟩
  case round =>
    obtain ⟨k, A', c', L, hk, hL, rfl, rfl, hown, hup⟩ := hrel
    have hl : L.length ≤ 20 := by rw [hL, rowOf_len]; omega
    have hzr : w.heap.size + 1 ≤ wr.heap.size := by simpa using hup.size
    have HL := Lib.hid hL
    clear hL
    by_cases hlt : k < n
    · by_cases he : k % 2 = 0
      · have hm := tmod_even he
        have HE := Lib.hid he
        clear he
        go_wp2_with ((refine wpList_appI rfl _ _ rfl _ _ _ _ _ ?hn rfl (Own.up (by assumption) (by (repeat (first | (with_reducible exact Up.refl _) | (with_reducible assumption) | (with_reducible refine Up.alloc ?_ _) | (with_reducible refine Up.drew ?_) | (with_reducible refine Up.drewN ?_ _) | (with_reducible refine Up.store ?_ ?_ _) | (with_reducible refine Up.trans ?_ (by assumption)) | (exact Nat.le_refl _) | (exact Nat.le_add_right _ _) | (go_light; omega))))) rfl (w.alloc _) (by (repeat (first | (with_reducible exact Up.refl _) | (with_reducible assumption) | (with_reducible refine Up.alloc ?_ _) | (with_reducible refine Up.drew ?_) | (with_reducible refine Up.drewN ?_ _) | (with_reducible refine Up.store ?_ ?_ _) | (with_reducible refine Up.trans ?_ (by assumption)) | (exact Nat.le_refl _) | (exact Nat.le_add_right _ _) | (go_light; omega)))) ?hB ?hB1 ?hlen ?_; (case hn => (first | rfl | (simp; done))); (case hB => first | (simp; done) | omega | (simp; omega)); (case hB1 => first | (simp; done) | omega | (simp; omega)); (case hlen => (first | omega | (simp; omega))); intro A1 c1 w1 ho1 hb1 hg1 ha1; obtain ⟨hc1, hf1, hz1⟩ := hb1.use (N := w.heap.size + 1) (by first | (simp; done) | omega | (simp; omega))))
        exact ⟨⟨k + 1, A1, c1, L ++ [M], by omega, by rw [HL.out, rowOf_even _ _ HE.out], rfl, by simp, ho1, hb1⟩, by simp [intOf]; omega⟩
      · have hm := tmod_odd he
        have HE := Lib.hid he
        clear he
        go_wp2_with ((refine wpList_appI rfl _ _ rfl _ _ _ _ _ ?hn rfl (Own.up (by assumption) (by (repeat (first | (with_reducible exact Up.refl _) | (with_reducible assumption) | (with_reducible refine Up.alloc ?_ _) | (with_reducible refine Up.drew ?_) | (with_reducible refine Up.drewN ?_ _) | (with_reducible refine Up.store ?_ ?_ _) | (with_reducible refine Up.trans ?_ (by assumption)) | (exact Nat.le_refl _) | (exact Nat.le_add_right _ _) | (go_light; omega))))) rfl (w.alloc _) (by (repeat (first | (with_reducible exact Up.refl _) | (with_reducible assumption) | (with_reducible refine Up.alloc ?_ _) | (with_reducible refine Up.drew ?_) | (with_reducible refine Up.drewN ?_ _) | (with_reducible refine Up.store ?_ ?_ _) | (with_reducible refine Up.trans ?_ (by assumption)) | (exact Nat.le_refl _) | (exact Nat.le_add_right _ _) | (go_light; omega)))) ?hB ?hB1 ?hlen ?_; (case hn => (first | rfl | (simp; done))); (case hB => first | (simp; done) | omega | (simp; omega)); (case hB1 => first | (simp; done) | omega | (simp; omega)); (case hlen => (first | omega | (simp; omega))); intro A1 c1 w1 ho1 hb1 hg1 ha1; obtain ⟨hc1, hf1, hz1⟩ := hb1.use (N := w.heap.size + 1) (by first | (simp; done) | omega | (simp; omega))))
        exact ⟨⟨k + 1, A1, c1, L ++ [C], by omega, by rw [HL.out, rowOf_odd _ _ HE.out], rfl, by simp, ho1, hb1⟩, by simp [intOf]; omega⟩
    · go_wp2
      go_ret2
      refine RetIB.of _ hown (by first | (simp; done) | omega | (simp; omega)) (by (repeat (first | (with_reducible exact Up.refl _) | (with_reducible assumption) | (with_reducible refine Up.alloc ?_ _) | (with_reducible refine Up.drew ?_) | (with_reducible refine Up.drewN ?_ _) | (with_reducible refine Up.store ?_ ?_ _) | (with_reducible refine Up.trans ?_ (by assumption)) | (exact Nat.le_refl _) | (exact Nat.le_add_right _ _) | (go_light; omega)))) ?_ rfl
      rw [HL.out, show k = n by omega]

set_option maxHeartbeats 2000000 in
theorem c_sWreathRow_no (A : Arms) (n : Int) (h : (goodA A && inB n 1 20) = false) (w : World) : Calls Try.prog 22 #[.agg A.arr, .int .i64 n] w (RetIB w [] false) := by
  cases hA : goodA A
  · clear h
    go_enter Try.func22, Try.ntmps22
    go_wp2_with (first | (refine wpList_load_agg 44 _ rfl rfl _ _ rfl A.arr _ (box_range (w := w) (t := 44) (by (repeat (first | (with_reducible exact Up.refl _) | (with_reducible assumption) | (with_reducible refine Up.alloc ?_ _) | (with_reducible refine Up.drew ?_) | (with_reducible refine Up.drewN ?_ _) | (with_reducible refine Up.store ?_ ?_ _) | (with_reducible refine Up.trans ?_ (by assumption)) | (exact Nat.le_refl _) | (exact Nat.le_add_right _ _) | (go_light; omega))))) Try.underlying44 rfl infoA ?_) | (go_at_call 45; refine (c_l5Good _ _).mono ?_; rintro e w1 ⟨rfl, hb1⟩; obtain ⟨hc1, hf1, hz1⟩ := hb1.use (N := w.heap.size + 2) (by first | (simp; done) | omega | (simp; omega)); have hy0 : w.heap.size < w1.heap.size := Nat.lt_of_lt_of_le (Nat.lt_add_of_pos_right (by decide)) hz1; have hy1 : w.heap.size + 1 < w1.heap.size := Nat.lt_of_lt_of_le (Nat.add_lt_add_left (by decide : 1 < 2) _) hz1) | (go_at_call 57; refine (c_l1In _ _ _ _).mono ?_; rintro e w' ⟨rfl, rfl⟩))
    go_ret2
    exact RetIB.of (w.heap.size + 1) (empty_up (w := w) (o := .cells A.arr 44) (by (repeat (first | (with_reducible exact Up.refl _) | (with_reducible assumption) | (with_reducible refine Up.alloc ?_ _) | (with_reducible refine Up.drew ?_) | (with_reducible refine Up.drewN ?_ _) | (with_reducible refine Up.store ?_ ?_ _) | (with_reducible refine Up.trans ?_ (by assumption)) | (exact Nat.le_refl _) | (exact Nat.le_add_right _ _) | (go_light; omega))))) (by first | (simp; done) | omega | (simp; omega)) (by (repeat (first | (with_reducible exact Up.refl _) | (with_reducible assumption) | (with_reducible refine Up.alloc ?_ _) | (with_reducible refine Up.drew ?_) | (with_reducible refine Up.drewN ?_ _) | (with_reducible refine Up.store ?_ ?_ _) | (with_reducible refine Up.trans ?_ (by assumption)) | (exact Nat.le_refl _) | (exact Nat.le_add_right _ _) | (go_light; omega)))) rfl rfl
  · have hn : inB n 1 20 = false := by simpa [hA] using h
    clear h
    go_enter Try.func22, Try.ntmps22
    go_wp2_with (first | (refine wpList_load_agg 44 _ rfl rfl _ _ rfl A.arr _ (box_range (w := w) (t := 44) (by (repeat (first | (with_reducible exact Up.refl _) | (with_reducible assumption) | (with_reducible refine Up.alloc ?_ _) | (with_reducible refine Up.drew ?_) | (with_reducible refine Up.drewN ?_ _) | (with_reducible refine Up.store ?_ ?_ _) | (with_reducible refine Up.trans ?_ (by assumption)) | (exact Nat.le_refl _) | (exact Nat.le_add_right _ _) | (go_light; omega))))) Try.underlying44 rfl infoA ?_) | (go_at_call 45; refine (c_l5Good _ _).mono ?_; rintro e w1 ⟨rfl, hb1⟩; obtain ⟨hc1, hf1, hz1⟩ := hb1.use (N := w.heap.size + 2) (by first | (simp; done) | omega | (simp; omega)); have hy0 : w.heap.size < w1.heap.size := Nat.lt_of_lt_of_le (Nat.lt_add_of_pos_right (by decide)) hz1; have hy1 : w.heap.size + 1 < w1.heap.size := Nat.lt_of_lt_of_le (Nat.add_lt_add_left (by decide : 1 < 2) _) hz1) | (go_at_call 57; refine (c_l1In _ _ _ _).mono ?_; rintro e w' ⟨rfl, rfl⟩))
    go_ret2
    exact RetIB.of (w.heap.size + 1) (empty_up (w := w) (o := .cells A.arr 44) (by (repeat (first | (with_reducible exact Up.refl _) | (with_reducible assumption) | (with_reducible refine Up.alloc ?_ _) | (with_reducible refine Up.drew ?_) | (with_reducible refine Up.drewN ?_ _) | (with_reducible refine Up.store ?_ ?_ _) | (with_reducible refine Up.trans ?_ (by assumption)) | (exact Nat.le_refl _) | (exact Nat.le_add_right _ _) | (go_light; omega))))) (by first | (simp; done) | omega | (simp; omega)) (by (repeat (first | (with_reducible exact Up.refl _) | (with_reducible assumption) | (with_reducible refine Up.alloc ?_ _) | (with_reducible refine Up.drew ?_) | (with_reducible refine Up.drewN ?_ _) | (with_reducible refine Up.store ?_ ?_ _) | (with_reducible refine Up.trans ?_ (by assumption)) | (exact Nat.le_refl _) | (exact Nat.le_add_right _ _) | (go_light; omega)))) rfl rfl

set_option maxHeartbeats 2000000 in
theorem c_WreathRow_yes (A : Arms) (n : Nat) (h : goodA A = true) (hn : inB (n : Int) 1 20 = true) (w : World) : Calls Try.prog 23 #[.agg A.arr, .int .i64 n] w (RetIB w (rowOf (outM (tinc A)) (outC (tinc A)) n) true) := by
  have hn2 : n ≤ 20 := by have := inB_true hn; omega
  have hw := c_WreathOf_yes A h
  generalize outM (tinc A) = M at *
  generalize outC (tinc A) = C at *
  have HW := Lib.hid hw
  clear hw
  go_enter Try.func23, Try.ntmps23
  go_wp2_with (first | (refine wpList_load_agg 44 _ rfl rfl _ _ rfl A.arr _ (box_range (w := w) (t := 44) (by (repeat (first | (with_reducible exact Up.refl _) | (with_reducible assumption) | (with_reducible refine Up.alloc ?_ _) | (with_reducible refine Up.drew ?_) | (with_reducible refine Up.drewN ?_ _) | (with_reducible refine Up.store ?_ ?_ _) | (with_reducible refine Up.trans ?_ (by assumption)) | (exact Nat.le_refl _) | (exact Nat.le_add_right _ _) | (go_light; omega))))) Try.underlying44 rfl infoA ?_) | (go_at_call 39; refine (HW.out _).mono ?_; rintro e w1 ⟨rfl, hb1⟩; obtain ⟨hc1, hf1, hz1⟩ := hb1.use (N := w.heap.size + 1) (by first | (simp; done) | omega | (simp; omega)); have hy0 : w.heap.size < w1.heap.size := Nat.lt_of_lt_of_le (Nat.lt_add_of_pos_right (by decide)) hz1) | (go_at_call 58; refine (c_inside _ _ _ _).mono ?_; rintro e w' ⟨rfl, rfl⟩))
  go_loopw [9, 26] (fun s i wr => ∃ (k : Nat) (A' : Option Addr) (c' : Nat) (L : List Int), k ≤ n ∧ L = rowOf M C k ∧ i = .int .i64 k ∧ s = .slice A' L.length c' ∧ Own wr (w.heap.size + 1) 3 1 encI A' c' L ∧ Up (w.alloc (.cells A.arr 44)) wr) (fun _ i _ => n - (intOf i).toNat)
  case atStart => exact ⟨0, _, _, [], by omega, rfl, rfl, rfl, Own.empty w1 (w.heap.size + 1) 3 1 encI (by first | (simp; done) | omega | (simp; omega)), by (repeat (first | (with_reducible exact Up.refl _) | (with_reducible assumption) | (with_reducible refine Up.alloc ?_ _) | (with_reducible refine Up.drew ?_) | (with_reducible refine Up.drewN ?_ _) | (with_reducible refine Up.store ?_ ?_ _) | (with_reducible refine Up.trans ?_ (by assumption)) | (exact Nat.le_refl _) | (exact Nat.le_add_right _ _) | (go_light; omega)))⟩
  case round =>
    obtain ⟨k, A', c', L, hk, hL, rfl, rfl, hown, hup⟩ := hrel
    have hl : L.length ≤ 20 := by rw [hL, rowOf_len]; omega
    have hzr : w.heap.size + 1 ≤ wr.heap.size := by simpa using hup.size
    have HL := Lib.hid hL
    clear hL
    by_cases hlt : k < n
    · by_cases he : k % 2 = 0
      · have hm := tmod_even he
        have HE := Lib.hid he
        clear he
        go_wp2_with ((refine wpList_appI rfl _ _ rfl _ _ _ _ _ ?hn rfl (Own.up (by assumption) (by (repeat (first | (with_reducible exact Up.refl _) | (with_reducible assumption) | (with_reducible refine Up.alloc ?_ _) | (with_reducible refine Up.drew ?_) | (with_reducible refine Up.drewN ?_ _) | (with_reducible refine Up.store ?_ ?_ _) | (with_reducible refine Up.trans ?_ (by assumption)) | (exact Nat.le_refl _) | (exact Nat.le_add_right _ _) | (go_light; omega))))) rfl (w.alloc _) (by (repeat (first | (with_reducible exact Up.refl _) | (with_reducible assumption) | (with_reducible refine Up.alloc ?_ _) | (with_reducible refine Up.drew ?_) | (with_reducible refine Up.drewN ?_ _) | (with_reducible refine Up.store ?_ ?_ _) | (with_reducible refine Up.trans ?_ (by assumption)) | (exact Nat.le_refl _) | (exact Nat.le_add_right _ _) | (go_light; omega)))) ?hB ?hB1 ?hlen ?_; (case hn => (first | rfl | (simp; done))); (case hB => first | (simp; done) | omega | (simp; omega)); (case hB1 => first | (simp; done) | omega | (simp; omega)); (case hlen => (first | omega | (simp; omega))); intro A1 c1 w1 ho1 hb1 hg1 ha1; obtain ⟨hc1, hf1, hz1⟩ := hb1.use (N := w.heap.size + 1) (by first | (simp; done) | omega | (simp; omega))))
        exact ⟨⟨k + 1, A1, c1, L ++ [M], by omega, by rw [HL.out, rowOf_even _ _ HE.out], rfl, by simp, ho1, hb1⟩, by simp [intOf]; omega⟩
      · have hm := tmod_odd he
        have HE := Lib.hid he
        clear he
        go_wp2_with ((refine wpList_appI rfl _ _ rfl _ _ _ _ _ ?hn rfl (Own.up (by assumption) (by (repeat (first | (with_reducible exact Up.refl _) | (with_reducible assumption) | (with_reducible refine Up.alloc ?_ _) | (with_reducible refine Up.drew ?_) | (with_reducible refine Up.drewN ?_ _) | (with_reducible refine Up.store ?_ ?_ _) | (with_reducible refine Up.trans ?_ (by assumption)) | (exact Nat.le_refl _) | (exact Nat.le_add_right _ _) | (go_light; omega))))) rfl (w.alloc _) (by (repeat (first | (with_reducible exact Up.refl _) | (with_reducible assumption) | (with_reducible refine Up.alloc ?_ _) | (with_reducible refine Up.drew ?_) | (with_reducible refine Up.drewN ?_ _) | (with_reducible refine Up.store ?_ ?_ _) | (with_reducible refine Up.trans ?_ (by assumption)) | (exact Nat.le_refl _) | (exact Nat.le_add_right _ _) | (go_light; omega)))) ?hB ?hB1 ?hlen ?_; (case hn => (first | rfl | (simp; done))); (case hB => first | (simp; done) | omega | (simp; omega)); (case hB1 => first | (simp; done) | omega | (simp; omega)); (case hlen => (first | omega | (simp; omega))); intro A1 c1 w1 ho1 hb1 hg1 ha1; obtain ⟨hc1, hf1, hz1⟩ := hb1.use (N := w.heap.size + 1) (by first | (simp; done) | omega | (simp; omega))))
        exact ⟨⟨k + 1, A1, c1, L ++ [C], by omega, by rw [HL.out, rowOf_odd _ _ HE.out], rfl, by simp, ho1, hb1⟩, by simp [intOf]; omega⟩
    · go_wp2
      go_ret2
      refine RetIB.of _ hown (by first | (simp; done) | omega | (simp; omega)) (by (repeat (first | (with_reducible exact Up.refl _) | (with_reducible assumption) | (with_reducible refine Up.alloc ?_ _) | (with_reducible refine Up.drew ?_) | (with_reducible refine Up.drewN ?_ _) | (with_reducible refine Up.store ?_ ?_ _) | (with_reducible refine Up.trans ?_ (by assumption)) | (exact Nat.le_refl _) | (exact Nat.le_add_right _ _) | (go_light; omega)))) ?_ rfl
      rw [HL.out, show k = n by omega]

set_option maxHeartbeats 2000000 in
theorem c_WreathRow_no (A : Arms) (n : Int) (h : (goodA A && inB n 1 20) = false) (w : World) : Calls Try.prog 23 #[.agg A.arr, .int .i64 n] w (RetIB w [] false) := by
  cases hA : goodA A
  · clear h
    have hw := c_WreathOf_no A hA
    have HW := Lib.hid hw
    clear hw
    go_enter Try.func23, Try.ntmps23
    go_wp2_with (first | (refine wpList_load_agg 44 _ rfl rfl _ _ rfl A.arr _ (box_range (w := w) (t := 44) (by (repeat (first | (with_reducible exact Up.refl _) | (with_reducible assumption) | (with_reducible refine Up.alloc ?_ _) | (with_reducible refine Up.drew ?_) | (with_reducible refine Up.drewN ?_ _) | (with_reducible refine Up.store ?_ ?_ _) | (with_reducible refine Up.trans ?_ (by assumption)) | (exact Nat.le_refl _) | (exact Nat.le_add_right _ _) | (go_light; omega))))) Try.underlying44 rfl infoA ?_) | (go_at_call 39; refine (HW.out _).mono ?_; rintro e w1 ⟨rfl, hb1⟩; obtain ⟨hc1, hf1, hz1⟩ := hb1.use (N := w.heap.size + 1) (by first | (simp; done) | omega | (simp; omega)); have hy0 : w.heap.size < w1.heap.size := Nat.lt_of_lt_of_le (Nat.lt_add_of_pos_right (by decide)) hz1) | (go_at_call 58; refine (c_inside _ _ _ _).mono ?_; rintro e w' ⟨rfl, rfl⟩))
    go_ret2
    exact RetIB.of w.heap.size (Own.nil_ _ _ _ _ _) (Nat.le_refl _) (by (repeat (first | (with_reducible exact Up.refl _) | (with_reducible assumption) | (with_reducible refine Up.alloc ?_ _) | (with_reducible refine Up.drew ?_) | (with_reducible refine Up.drewN ?_ _) | (with_reducible refine Up.store ?_ ?_ _) | (with_reducible refine Up.trans ?_ (by assumption)) | (exact Nat.le_refl _) | (exact Nat.le_add_right _ _) | (go_light; omega)))) rfl rfl
  · have hn : inB n 1 20 = false := by simpa [hA] using h
    clear h
    have hw := c_WreathOf_yes A hA
    generalize outM (tinc A) = M at *
    generalize outC (tinc A) = C at *
    have HW := Lib.hid hw
    clear hw
    go_enter Try.func23, Try.ntmps23
    go_wp2_with (first | (refine wpList_load_agg 44 _ rfl rfl _ _ rfl A.arr _ (box_range (w := w) (t := 44) (by (repeat (first | (with_reducible exact Up.refl _) | (with_reducible assumption) | (with_reducible refine Up.alloc ?_ _) | (with_reducible refine Up.drew ?_) | (with_reducible refine Up.drewN ?_ _) | (with_reducible refine Up.store ?_ ?_ _) | (with_reducible refine Up.trans ?_ (by assumption)) | (exact Nat.le_refl _) | (exact Nat.le_add_right _ _) | (go_light; omega))))) Try.underlying44 rfl infoA ?_) | (go_at_call 39; refine (HW.out _).mono ?_; rintro e w1 ⟨rfl, hb1⟩; obtain ⟨hc1, hf1, hz1⟩ := hb1.use (N := w.heap.size + 1) (by first | (simp; done) | omega | (simp; omega)); have hy0 : w.heap.size < w1.heap.size := Nat.lt_of_lt_of_le (Nat.lt_add_of_pos_right (by decide)) hz1) | (go_at_call 58; refine (c_inside _ _ _ _).mono ?_; rintro e w' ⟨rfl, rfl⟩))
    go_ret2
    exact RetIB.of w.heap.size (Own.nil_ _ _ _ _ _) (Nat.le_refl _) (by (repeat (first | (with_reducible exact Up.refl _) | (with_reducible assumption) | (with_reducible refine Up.alloc ?_ _) | (with_reducible refine Up.drew ?_) | (with_reducible refine Up.drewN ?_ _) | (with_reducible refine Up.store ?_ ?_ _) | (with_reducible refine Up.trans ?_ (by assumption)) | (exact Nat.le_refl _) | (exact Nat.le_add_right _ _) | (go_light; omega)))) rfl rfl

end Go.Proofs.Ytbljimjanoondaa
