/- Contracts and lemmas (LGroupDifferences) for the laws of this seat: what the Go functions named here return, for all arguments that each theorem states; no further conditions. -/
import Derived.Test.YtnniiphfbjbjdaaData
import Derived.Test.YtnniiphfbjbjdaaDrGD
import Derived.Test.YtnniiphfbjbjdaaGd
import Derived.Test.YtnniiphfbjbjdaaGs
import Derived.Test.YtnniiphfbjbjdaaOpen
import Derived.Test.YtnniiphfbjbjdaaUp
import Derived.Test.YtnniiphfbjbjdaaVb
import Derived.Test.YtnniiphfbjbjdaaRows
import Derived.WalkKit
import Derived.ProofKit
import Derived.OpenShut
import Derived.WalkLawsBesides
import Derived.Lib.Hide
import Derived.Deep.QuietTactic
import Derived.BigQuiet
import Derived.Deep.Light
import Derived.Handy
namespace Go.Proofs.Ytnniiphfbjbjdaa
set_option maxRecDepth 100000
open Go.ChangeShapes Go.WideShapes Go.ChangeAt Go.RowKit
set_option linter.unusedVariables false
set_option linter.unusedSimpArgs false

set_option maxHeartbeats 4000000 in
theorem w_GroupDifferences (w : World) (A : Option Addr) (cap : Nat) (l : List Int) (hr : Rd w 1 encU8 A cap l) (hg : ∀ x ∈ l, isU8 x) :
    Calls Try.prog 3 #[.slice A l.length cap] w fun e w' => e = .returned (.bool true) ∧ Up w w' := by
  have hmax : l.length ≤ 9223372036854775807 := by have h1 := hr.le; have h2 := hr.max; unfold maxLen at h2; omega
  have hE := run_eqG
  cases hb : decide (65536 < (l.length : Int)) with
  | true =>
    go_enter Try.func3, Try.ntmps3
    go_wp2_with (go_at_call 15; refine (c_vBig _ _ _ _ hmax).mono ?_; rintro e w' ⟨rfl, rfl⟩)
    go_ret
    exact ⟨rfl, by (repeat (first | (with_reducible exact Up.refl _) | (with_reducible assumption) | (with_reducible refine Up.alloc ?_ _) | (with_reducible refine Up.drew ?_) | (with_reducible refine Up.drewN ?_ _) | (with_reducible refine Up.store ?_ ?_ _) | (with_reducible refine Up.trans ?_ (by assumption)) | (exact Nat.le_refl _) | (exact Nat.le_add_right _ _) | (go_light; omega)))⟩
  | false =>
    go_enter Try.func3, Try.ntmps3
    go_wp2_with (go_at_call 15; refine (c_vBig _ _ _ _ hmax).mono ?_; rintro e w' ⟨rfl, rfl⟩)
    (with_reducible refine Calls.mono (c_DrawGroupDifferences _ _ _ _ hr hg) ?_); rintro e w1 ⟨c, k, a, t, c', k', a', t', rfl, hu1⟩
    cases ho : okG c k a t && okG c' k' a' t' with
    | false =>
      have ho' : (okG c' k' a' t' && okG c k a t) = false := by rw [Bool.and_comm]; exact ho
      have HO := Lib.hid ho
      have HO' := Lib.hid ho'
      clear ho ho'
      go_wp2_with fail; (with_reducible refine (c_GroupDifferences_no c k a t c' k' a' t' HO.out _).mono ?_); rintro e w2 ⟨rfl, hb2⟩; have hz2 := hb2.size; (try simp only [World.size_alloc] at hz2); have hx2_0 := hb2.at_ (b := w1.heap.size) (by go_light; (try simp); (try omega)); have hy2_0 : w1.heap.size < w2.heap.size := (by go_light; omega); have hx2_1 := hb2.at_ (b := w1.heap.size + 1) (by go_light; (try simp); (try omega)); have hy2_1 : w1.heap.size + 1 < w2.heap.size := (by go_light; omega)
      go_wp2_with fail; (with_reducible refine (c_GroupDifferences_no c' k' a' t' c k a t HO'.out _).mono ?_); rintro e w3 ⟨rfl, hb3⟩; have hz3 := hb3.size; (try simp only [World.size_alloc] at hz3); have hx3_0 := hb3.at_ (b := w1.heap.size) (by go_light; (try simp); (try omega)); have hy3_0 : w1.heap.size < w3.heap.size := (by go_light; omega); have hx3_1 := hb3.at_ (b := w1.heap.size + 1) (by go_light; (try simp); (try omega)); have hy3_1 : w1.heap.size + 1 < w3.heap.size := (by go_light; omega)
      go_wp2_with fail; (with_reducible refine (c_sGroupDifferences_no c k a t c' k' a' t' HO.out _).mono ?_); rintro e w4 ⟨rfl, hb4⟩; have hz4 := hb4.size; (try simp only [World.size_alloc] at hz4); have hx4_0 := hb4.at_ (b := w1.heap.size) (by go_light; (try simp); (try omega)); have hy4_0 : w1.heap.size < w4.heap.size := (by go_light; omega); have hx4_1 := hb4.at_ (b := w1.heap.size + 1) (by go_light; (try simp); (try omega)); have hy4_1 : w1.heap.size + 1 < w4.heap.size := (by go_light; omega)
      go_wp2_with fail
      go_ret
      exact ⟨rfl, by (repeat (first | (with_reducible exact Up.refl _) | (with_reducible assumption) | (with_reducible refine Up.alloc ?_ _) | (with_reducible refine Up.drew ?_) | (with_reducible refine Up.drewN ?_ _) | (with_reducible refine Up.store ?_ ?_ _) | (with_reducible refine Up.trans ?_ (by assumption)) | (exact Nat.le_refl _) | (exact Nat.le_add_right _ _) | (go_light; omega)))⟩
    | true =>
      obtain ⟨o1, o2⟩ : okG c k a t = true ∧ okG c' k' a' t' = true := by simpa using ho
      have hz := gdiff_zero o1 o2
      unfold sameG at hz
      have C1 := fun w => c_GroupDifferences_yes c k a t c' k' a' t' o1 o2 w
      have C2 := fun w => c_GroupDifferences_yes c' k' a' t' c k a t o2 o1 w
      have C3 := fun w => c_sGroupDifferences_yes c k a t c' k' a' t' o1 o2 w
      simp only [gdiff_comm c' k' a' t' c k a t] at C2
      generalize gdiff c k a t c' k' a' t' = n at hz C1 C2 C3
      have H1 := Lib.hid C1
      have H2 := Lib.hid C2
      have H3 := Lib.hid C3
      clear C1 C2 C3 ho o1 o2
      go_wp2_with fail; (with_reducible refine (H1.out _).mono ?_); rintro e w2 ⟨rfl, hb2⟩; have hz2 := hb2.size; (try simp only [World.size_alloc] at hz2); have hx2_0 := hb2.at_ (b := w1.heap.size) (by go_light; (try simp); (try omega)); have hy2_0 : w1.heap.size < w2.heap.size := (by go_light; omega); have hx2_1 := hb2.at_ (b := w1.heap.size + 1) (by go_light; (try simp); (try omega)); have hy2_1 : w1.heap.size + 1 < w2.heap.size := (by go_light; omega)
      go_wp2_with fail; (with_reducible refine (H2.out _).mono ?_); rintro e w3 ⟨rfl, hb3⟩; have hz3 := hb3.size; (try simp only [World.size_alloc] at hz3); have hx3_0 := hb3.at_ (b := w1.heap.size) (by go_light; (try simp); (try omega)); have hy3_0 : w1.heap.size < w3.heap.size := (by go_light; omega); have hx3_1 := hb3.at_ (b := w1.heap.size + 1) (by go_light; (try simp); (try omega)); have hy3_1 : w1.heap.size + 1 < w3.heap.size := (by go_light; omega)
      go_wp2_with fail; (with_reducible refine (H3.out _).mono ?_); rintro e w4 ⟨rfl, hb4⟩; have hz4 := hb4.size; (try simp only [World.size_alloc] at hz4); have hx4_0 := hb4.at_ (b := w1.heap.size) (by go_light; (try simp); (try omega)); have hy4_0 : w1.heap.size < w4.heap.size := (by go_light; omega); have hx4_1 := hb4.at_ (b := w1.heap.size + 1) (by go_light; (try simp); (try omega)); have hy4_1 : w1.heap.size + 1 < w4.heap.size := (by go_light; omega)
      go_wp2_with fail
      go_ret
      exact ⟨ret_bool (by simp), by (repeat (first | (with_reducible exact Up.refl _) | (with_reducible assumption) | (with_reducible refine Up.alloc ?_ _) | (with_reducible refine Up.drew ?_) | (with_reducible refine Up.drewN ?_ _) | (with_reducible refine Up.store ?_ ?_ _) | (with_reducible refine Up.trans ?_ (by assumption)) | (exact Nat.le_refl _) | (exact Nat.le_add_right _ _) | (go_light; omega)))⟩

end Go.Proofs.Ytnniiphfbjbjdaa
