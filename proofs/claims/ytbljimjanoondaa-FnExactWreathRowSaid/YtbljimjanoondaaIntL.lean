/- Contracts and lemmas (IntL) for the laws of this seat: what the Go functions named here return, for all arguments that each theorem states; no further conditions. -/
import Derived.Test.YtbljimjanoondaaInts
import Derived.Test.YtbljimjanoondaaMem
import Derived.Test.YtbljimjanoondaaOpen
import Derived.Test.YtbljimjanoondaaUp
import Derived.Test.YtbljimjanoondaaRows
import Derived.WalkKit
import Derived.ProofKit
import Derived.OpenShut
import Derived.WalkLawsBesides
import Derived.Lib.Hide
import Derived.Deep.QuietTactic
import Derived.BigQuiet
import Derived.Deep.Light
import Derived.Handy
namespace Go.Proofs.Ytbljimjanoondaa
set_option maxRecDepth 100000
open Go.ChangeShapes Go.WideShapes Go.ChangeAt Go.RowKit
set_option linter.unusedVariables false
set_option linter.unusedSimpArgs false

def marks (k : Int) (n : Nat) : List Int := (List.range n).map fun i => k + (i : Nat)
theorem marks_len (k : Int) (n : Nat) : (marks k n).length = n := by simp [marks]
theorem marks_succ (k : Int) (n : Nat) : marks k (n + 1) = marks k n ++ [k + n] := by simp [marks, List.range_succ]
theorem marks_get (k : Int) {n j : Nat} (h : j < n) : (marks k n)[j]? = some (k + j) := by simp [marks, h]
theorem marks_set (k : Int) (l : List Int) {j : Nat} (h : j < l.length) : (marks k j ++ l.drop j).set j (k + j) = marks k (j + 1) ++ l.drop (j + 1) := by
  rw [List.set_append, if_neg (by rw [marks_len]; omega), marks_len, Nat.sub_self, marks_succ, List.append_assoc]
  congr 1
  rw [List.drop_eq_getElem_cons h]
  rfl
theorem marks_fill_len (k : Int) (l : List Int) {j : Nat} (h : j ≤ l.length) : (marks k j ++ l.drop j).length = l.length := by
  rw [List.length_append, marks_len, List.length_drop]; omega

set_option maxHeartbeats 1000000 in
theorem c_eqIntS (A B : Option Addr) (ca cb : Nat) (l : List Int) (w : World) (hr : Rd w 1 encI A ca l) (hs : Rd w 1 encI B cb l) :
    Calls Try.prog 24 #[.slice A l.length ca, .slice B l.length cb] w fun e w' => e = .returned (.bool true) ∧ Up w w' := by
  have hmax : l.length ≤ 9223372036854775807 := by have h1 := hr.le; have h2 := hr.max; unfold maxLen at h2; omega
  go_enter Try.func24, Try.ntmps24
  go_wp2
  go_loopw [5] (fun i wr => ∃ k : Nat, k ≤ l.length ∧ i = .int .i64 k ∧ Up w wr) (fun i _ => l.length - (intOf i).toNat)
  case atStart => exact ⟨0, by omega, rfl, Up.refl w⟩
  case round =>
    obtain ⟨k, hk, rfl, hup⟩ := hrel
    by_cases hlt : k < l.length
    · obtain ⟨y, b, o, hY, rfl, hra⟩ := (hr.up hup).getI hlt
      obtain ⟨y', b', o', hY', rfl, hra'⟩ := (hs.up hup).getI hlt
      have hYY : y' = y := by rw [hY] at hY'; injection hY' with h; exact h.symm
      subst hYY
      have HY := Lib.hid hY
      clear hY hY'
      have hcap : l.length ≤ ca := hr.le
      have hcap' : l.length ≤ cb := hs.le
      go_wp2
      (refine wp_region_quiet_lit (by kernel_rfl) (by kernel_rfl) ?_; (repeat (first |  go_big_quiet_step (fail))); refine wpQuiet_nil ?_; intro _ hw'; obtain ⟨nq, hw''⟩ := hw'; subst hw'')
      go_wp2
      exact ⟨⟨k + 1, by omega, rfl, by (repeat (first | (with_reducible exact Up.refl _) | (with_reducible assumption) | (with_reducible refine Up.alloc ?_ _) | (with_reducible refine Up.drew ?_) | (with_reducible refine Up.drewN ?_ _) | (with_reducible refine Up.store ?_ ?_ _) | (with_reducible refine Up.trans ?_ (by assumption)) | (exact Nat.le_refl _) | (exact Nat.le_add_right _ _) | (go_light; omega)))⟩, by simp [intOf]; omega⟩
    · go_wp2
      go_ret
      exact ⟨rfl, hup⟩

set_option maxHeartbeats 1000000 in
theorem c_markIntS (A : Option Addr) (cap : Nat) (l : List Int) (k0 : Int) (W w : World) (B : Nat) (hown : Own w B 3 1 encI A cap l) (hu : Up W w) (hB : W.heap.size ≤ B) (hk0 : 0 ≤ k0 ∧ k0 ≤ 1099511627776) (hl : l.length ≤ 1099511627776) :
    Calls Try.prog 25 #[.slice A l.length cap, .int .i64 k0] w fun e w' => e = .returned (.int .i64 (k0 + l.length)) ∧ Own w' B 3 1 encI A cap (marks k0 l.length) ∧ Up W w' := by
  go_enter Try.func25, Try.ntmps25
  go_wp2
  go_loopw [1, 5] (fun q i wr => ∃ k : Nat, k ≤ l.length ∧ i = .int .i64 k ∧ q = .int .i64 (k0 + k) ∧ Own wr B 3 1 encI A cap (marks k0 k ++ l.drop k) ∧ Up W wr) (fun _ i _ => l.length - (intOf i).toNat)
  case atStart => exact ⟨0, by omega, rfl, by simp, by simpa [marks] using hown, hu⟩
  case round =>
    obtain ⟨k, hk, rfl, rfl, ho, hup⟩ := hrel
    have hlen := marks_fill_len k0 l hk
    by_cases hlt : k < l.length
    · obtain ⟨g, rfl, hg1, hg2⟩ : ∃ g, A = some ⟨g, 0, none⟩ ∧ B ≤ g ∧ g < wr.heap.size := by
        rcases ho.cases with ⟨_, _, h3⟩ | h
        · rw [h3] at hlen; simp at hlen; omega
        · exact h
      have hcap : l.length ≤ cap := by have := (ho.rd encI_len).le; omega
      have HLEN := Lib.hid hlen
      clear hlen
      go_wp2_with (refine wpList_store_own 3 _ _ rfl rfl g _ rfl _ rfl encI_len (ho.up (by (repeat (first | (with_reducible exact Up.refl _) | (with_reducible assumption) | (with_reducible refine Up.alloc ?_ _) | (with_reducible refine Up.drew ?_) | (with_reducible refine Up.drewN ?_ _) | (with_reducible refine Up.store ?_ ?_ _) | (with_reducible refine Up.trans ?_ (by assumption)) | (exact Nat.le_refl _) | (exact Nat.le_add_right _ _) | (go_light; omega))))) (i := k) (by have := HLEN.out; omega) (by omega) (k0 + k) rfl infoI (encI_one _) ?_; intro w2 hown2 hg3)
      exact ⟨⟨k + 1, by omega, rfl, by simp; omega, by rw [← marks_set k0 l hlt]; exact hown2, Up.grown hup hg3 (by simp; omega)⟩, by simp [intOf]; omega⟩
    · go_wp2
      go_ret
      have hkl : k = l.length := by omega
      subst hkl
      exact ⟨rfl, by simpa using ho, hup⟩

set_option maxHeartbeats 1000000 in
theorem c_heldIntS (A : Option Addr) (cap n : Nat) (k0 : Int) (w : World) (hr : Rd w 1 encI A cap (marks k0 n)) (hk0 : 0 ≤ k0 ∧ k0 ≤ 1099511627776) (hl : n ≤ 1099511627776) :
    Calls Try.prog 26 #[.slice A n cap, .int .i64 k0] w fun e w' => e = .returned (.int .i64 (k0 + n)) ∧ Up w w' := by
  have hcap : n ≤ cap := by have := hr.le; rw [marks_len] at this; exact this
  go_enter Try.func26, Try.ntmps26
  go_wp2
  go_loopw [1, 5] (fun q i wr => ∃ k : Nat, k ≤ n ∧ i = .int .i64 k ∧ q = .int .i64 (k0 + k) ∧ Up w wr) (fun _ i _ => n - (intOf i).toNat)
  case atStart => exact ⟨0, by omega, rfl, by simp, Up.refl w⟩
  case round =>
    obtain ⟨k, hk, rfl, rfl, hup⟩ := hrel
    by_cases hlt : k < n
    · obtain ⟨y, b, o, hY, rfl, hra⟩ := (hr.up hup).getI (i := k) (by rw [marks_len]; exact hlt)
      have hy : y = k0 + k := by rw [marks_get k0 hlt] at hY; injection hY with h; exact h.symm
      subst hy
      clear hY
      go_wp2
      exact ⟨⟨k + 1, by omega, rfl, by simp; omega, by (repeat (first | (with_reducible exact Up.refl _) | (with_reducible assumption) | (with_reducible refine Up.alloc ?_ _) | (with_reducible refine Up.drew ?_) | (with_reducible refine Up.drewN ?_ _) | (with_reducible refine Up.store ?_ ?_ _) | (with_reducible refine Up.trans ?_ (by assumption)) | (exact Nat.le_refl _) | (exact Nat.le_add_right _ _) | (go_light; omega)))⟩, by simp [intOf]; omega⟩
    · go_wp2
      go_ret
      have hkl : k = n := by omega
      subst hkl
      exact ⟨rfl, hup⟩

end Go.Proofs.Ytbljimjanoondaa
