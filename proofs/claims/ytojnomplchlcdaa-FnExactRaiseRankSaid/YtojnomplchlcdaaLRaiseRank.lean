/- Contracts and lemmas (LRaiseRank) for the laws of this seat: what the Go functions named here return, for all arguments that each theorem states; no further conditions. -/
import Derived.Test.YtojnomplchlcdaaM1
import Derived.Test.YtojnomplchlcdaaOpen
import Derived.Test.YtojnomplchlcdaaUp
import Derived.Test.YtojnomplchlcdaaWc
import Derived.Test.YtojnomplchlcdaaRows
import Derived.WalkKit
import Derived.ProofKit
import Derived.OpenShut
import Derived.WalkLawsBesides
import Derived.Lib.Hide
import Derived.Deep.QuietTactic
import Derived.BigQuiet
import Derived.Deep.Light
namespace Go.Proofs.Ytojnomplchlcdaa
open Go.ChangeShapes Go.WideShapes Go.ChangeAt Go.RowKit
set_option linter.unusedVariables false
set_option linter.unusedSimpArgs false

set_option maxHeartbeats 1000000 in
theorem w_RaiseRank (k a t r : Int) (hi : ∀ x ∈ [k, a, t, r], I64 x) (s : Int) (hs : I64 s) (w : World) : Calls Try.prog 7 #[.agg #[.int .i64 k, .int .i64 a, .int .i64 t, .int .i64 r], .int .i64 s] w fun e w' => e = .returned (.bool true) ∧ Up w w' := by
  have hr : I64 r := hi r (by simp)
  have HR := Lib.hid hr
  have HS := Lib.hid hs
  clear hi hr hs
  cases h : goodC k a t r && inB (r + s) 1 5 with
  | false =>
    have H := Lib.hid h
    clear h
    go_enter Try.func7, Try.ntmps7
    go_wp2_with fail; (with_reducible refine (c_toCrest _ _ _ _ _).mono ?_); rintro e w1 ⟨rfl, hb1⟩; have hz1 := hb1.size; (try simp only [World.size_alloc] at hz1); have hx1_0 := hb1.at_ (b := w.heap.size) (by go_light; (try simp); (try omega)); have hy1_0 : w.heap.size < w1.heap.size := (by go_light; omega)
    go_wp2_with fail; (with_reducible refine (c_sRaiseRank_no _ _ _ _ _ HR.out HS.out H.out _).mono ?_); rintro e w2 ⟨rfl, hb2⟩; have hz2 := hb2.size; (try simp only [World.size_alloc] at hz2); have hx2_0 := hb2.at_ (b := w.heap.size) (by go_light; (try simp); (try omega)); have hy2_0 : w.heap.size < w2.heap.size := (by go_light; omega)
    go_wp2_with fail; (with_reducible refine (c_toCrest _ _ _ _ _).mono ?_); rintro e w3 ⟨rfl, hb3⟩; have hz3 := hb3.size; (try simp only [World.size_alloc] at hz3); have hx3_0 := hb3.at_ (b := w.heap.size) (by go_light; (try simp); (try omega)); have hy3_0 : w.heap.size < w3.heap.size := (by go_light; omega); have hx3_1 := hb3.at_ (b := w2.heap.size) (by go_light; (try simp); (try omega)); have hy3_1 : w2.heap.size < w3.heap.size := (by go_light; omega)
    go_wp2_with fail; (with_reducible refine (c_RaiseRank_no _ _ _ _ _ HR.out HS.out H.out _).mono ?_); rintro e w4 ⟨rfl, hb4⟩; have hz4 := hb4.size; (try simp only [World.size_alloc] at hz4); have hx4_0 := hb4.at_ (b := w.heap.size) (by go_light; (try simp); (try omega)); have hy4_0 : w.heap.size < w4.heap.size := (by go_light; omega); have hx4_1 := hb4.at_ (b := w2.heap.size) (by go_light; (try simp); (try omega)); have hy4_1 : w2.heap.size < w4.heap.size := (by go_light; omega)
    go_wp2_with fail; (with_reducible refine (c_eqCrest _ _ _ _ _ _ _ _ _).mono ?_); rintro e w5 ⟨rfl, hb5⟩; have hz5 := hb5.size; (try simp only [World.size_alloc] at hz5); have hx5_0 := hb5.at_ (b := w.heap.size) (by go_light; (try simp); (try omega)); have hy5_0 : w.heap.size < w5.heap.size := (by go_light; omega)
    go_wp2_with fail
    go_ret
    exact ⟨rfl, by (repeat (first | (with_reducible exact Up.refl _) | (with_reducible assumption) | (with_reducible refine Up.alloc ?_ _) | (with_reducible refine Up.drew ?_) | (with_reducible refine Up.store ?_ ?_ _) | (with_reducible refine Up.trans ?_ (by assumption)) | (exact Nat.le_refl _) | (exact Nat.le_add_right _ _) | (go_light; omega)))⟩
  | true =>
    obtain ⟨h1, h2⟩ : goodC k a t r = true ∧ inB (r + s) 1 5 = true := by simpa using h
    have H1 := Lib.hid h1
    have H2 := Lib.hid h2
    clear h h1 h2
    go_enter Try.func7, Try.ntmps7
    go_wp2_with fail; (with_reducible refine (c_toCrest _ _ _ _ _).mono ?_); rintro e w1 ⟨rfl, hb1⟩; have hz1 := hb1.size; (try simp only [World.size_alloc] at hz1); have hx1_0 := hb1.at_ (b := w.heap.size) (by go_light; (try simp); (try omega)); have hy1_0 : w.heap.size < w1.heap.size := (by go_light; omega)
    go_wp2_with fail; (with_reducible refine (c_sRaiseRank_yes _ _ _ _ _ H1.out H2.out _).mono ?_); rintro e w2 ⟨rfl, hb2⟩; have hz2 := hb2.size; (try simp only [World.size_alloc] at hz2); have hx2_0 := hb2.at_ (b := w.heap.size) (by go_light; (try simp); (try omega)); have hy2_0 : w.heap.size < w2.heap.size := (by go_light; omega)
    go_wp2_with fail; (with_reducible refine (c_toCrest _ _ _ _ _).mono ?_); rintro e w3 ⟨rfl, hb3⟩; have hz3 := hb3.size; (try simp only [World.size_alloc] at hz3); have hx3_0 := hb3.at_ (b := w.heap.size) (by go_light; (try simp); (try omega)); have hy3_0 : w.heap.size < w3.heap.size := (by go_light; omega); have hx3_1 := hb3.at_ (b := w2.heap.size) (by go_light; (try simp); (try omega)); have hy3_1 : w2.heap.size < w3.heap.size := (by go_light; omega)
    go_wp2_with fail; (with_reducible refine (c_RaiseRank_yes _ _ _ _ _ H1.out H2.out _).mono ?_); rintro e w4 ⟨rfl, hb4⟩; have hz4 := hb4.size; (try simp only [World.size_alloc] at hz4); have hx4_0 := hb4.at_ (b := w.heap.size) (by go_light; (try simp); (try omega)); have hy4_0 : w.heap.size < w4.heap.size := (by go_light; omega); have hx4_1 := hb4.at_ (b := w2.heap.size) (by go_light; (try simp); (try omega)); have hy4_1 : w2.heap.size < w4.heap.size := (by go_light; omega)
    go_wp2_with fail; (with_reducible refine (c_eqCrest _ _ _ _ _ _ _ _ _).mono ?_); rintro e w5 ⟨rfl, hb5⟩; have hz5 := hb5.size; (try simp only [World.size_alloc] at hz5); have hx5_0 := hb5.at_ (b := w.heap.size) (by go_light; (try simp); (try omega)); have hy5_0 : w.heap.size < w5.heap.size := (by go_light; omega)
    go_wp2_with fail
    go_ret
    exact ⟨rfl, by (repeat (first | (with_reducible exact Up.refl _) | (with_reducible assumption) | (with_reducible refine Up.alloc ?_ _) | (with_reducible refine Up.drew ?_) | (with_reducible refine Up.store ?_ ?_ _) | (with_reducible refine Up.trans ?_ (by assumption)) | (exact Nat.le_refl _) | (exact Nat.le_add_right _ _) | (go_light; omega)))⟩

end Go.Proofs.Ytojnomplchlcdaa
