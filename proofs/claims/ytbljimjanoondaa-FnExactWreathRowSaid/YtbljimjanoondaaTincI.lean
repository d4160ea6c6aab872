/- Contracts and lemmas (TincI) for the laws of this seat: what the Go functions named here return, for all arguments that each theorem states; no further conditions. -/
import Derived.Test.YtbljimjanoondaaData
import Derived.Test.YtbljimjanoondaaInts
import Derived.Test.YtbljimjanoondaaMem
import Derived.Test.YtbljimjanoondaaOpen
import Derived.Test.YtbljimjanoondaaTinc
import Derived.Test.YtbljimjanoondaaUp
import Derived.Test.YtbljimjanoondaaWb
import Derived.Test.YtbljimjanoondaaRows
import Derived.WalkKit
import Derived.ProofKit
import Derived.OpenShut
import Derived.WalkLawsBesides
import Derived.Lib.Hide
import Derived.Deep.QuietTactic
import Derived.BigQuiet
import Derived.Deep.Light
import Derived.Handy
namespace Go.Proofs.Ytbljimjanoondaa
set_option maxRecDepth 100000
open Go.ChangeShapes Go.WideShapes Go.ChangeAt Go.RowKit
set_option linter.unusedVariables false
set_option linter.unusedSimpArgs false

def some3 (l : List Int) : List Int := l.filter (· ≠ 0)
theorem tinc_eq (A : Arms) : tinc A = fieldTinc A.fd A.ff A.fs ++ some3 [A.t, A.t1, A.t2] := by
  unfold tinc opt some3
  by_cases h1 : A.t = 0 <;> by_cases h2 : A.t1 = 0 <;> by_cases h3 : A.t2 = 0 <;> simp [h1, h2, h3]
theorem some3_take {l : List Int} {k : Nat} {y : Int} (h : l[k]? = some y) : some3 (l.take (k + 1)) = some3 (l.take k) ++ (if y = 0 then [] else [y]) := by
  rw [List.take_add_one, h]
  unfold some3
  rw [List.filter_append]
  by_cases hy : y = 0 <;> simp [hy]
theorem some3_len (l : List Int) (k : Nat) : (some3 (l.take k)).length ≤ l.length := by
  unfold some3
  exact Nat.le_trans (List.length_filter_le _ _) (by simp; omega)
set_option maxHeartbeats 2000000 in
theorem c_aTinctures (A : Arms) (w : World) : Calls Try.prog 81 #[.agg A.arr] w (RetI w (tinc A)) := by
  have hlen := fieldTinc_len A.fd A.ff A.fs
  rw [tinc_eq]
  go_enter Try.func81, Try.ntmps81
  go_wp2_with ((go_at_call 91; refine (c_fTinctures _ _ _ _ _).mono ?_; rintro e w1 ⟨A1, c1, rfl, ho1, hb1⟩; obtain ⟨hc1, hf1, hz1⟩ := hb1.use (N := w.heap.size + 1) (by first | (simp; done) | omega | (simp; omega))))
  go_loopw [3, 19] (fun s i wr => ∃ (k : Nat) (A' : Option Addr) (c' : Nat) (L : List Int), k ≤ 3 ∧ L = fieldTinc A.fd A.ff A.fs ++ some3 ([A.t, A.t1, A.t2].take k) ∧ i = .int .i64 k ∧ s = .slice A' L.length c' ∧ Own wr (w.heap.size + 1) 3 1 encI A' c' L ∧ Up (w.alloc (.cells A.arr 44)) wr ∧
    Rd wr 1 encI (some ⟨w1.heap.size, 0, none⟩) 3 [A.t, A.t1, A.t2] ∧ (∀ a, A' = some a → a.block ≠ w1.heap.size)) (fun _ i _ => 3 - (intOf i).toNat)
  case atStart =>
    refine ⟨0, A1, c1, fieldTinc A.fd A.ff A.fs, by omega, by simp [some3], rfl, rfl, (ho1.mono (by simp)).up (by (repeat (first | (with_reducible exact Up.refl _) | (with_reducible assumption) | (with_reducible refine Up.alloc ?_ _) | (with_reducible refine Up.drew ?_) | (with_reducible refine Up.drewN ?_ _) | (with_reducible refine Up.store ?_ ?_ _) | (with_reducible refine Up.trans ?_ (by assumption)) | (exact Nat.le_refl _) | (exact Nat.le_add_right _ _) | (go_light; omega)))), by (repeat (first | (with_reducible exact Up.refl _) | (with_reducible assumption) | (with_reducible refine Up.alloc ?_ _) | (with_reducible refine Up.drew ?_) | (with_reducible refine Up.drewN ?_ _) | (with_reducible refine Up.store ?_ ?_ _) | (with_reducible refine Up.trans ?_ (by assumption)) | (exact Nat.le_refl _) | (exact Nat.le_add_right _ _) | (go_light; omega))), ?_, ?_⟩
    · refine ⟨by show 3 ≤ 3; decide, by decide, fun _ => ⟨_, _, rfl, fun i a hi => ?_⟩⟩
      intro j v hj
      match i, hi with
      | 0, hi => simp at hi; subst hi; cases j with | zero => (simp [encI] at hj; subst hj; simp) | succ j => simp [encI] at hj
      | 1, hi => simp at hi; subst hi; cases j with | zero => (simp [encI] at hj; subst hj; simp) | succ j => simp [encI] at hj
      | 2, hi => simp at hi; subst hi; cases j with | zero => (simp [encI] at hj; subst hj; simp) | succ j => simp [encI] at hj
      | i + 3, hi => simp at hi
    · intro a ha
      rcases ho1.cases with ⟨h, _⟩ | ⟨g, h, _, hg⟩
      · rw [h] at ha; cases ha
      · rw [h] at ha; injection ha with ha; subst ha; exact Nat.ne_of_lt hg
  case round =>
    obtain ⟨k, A', c', L, hk, hL, rfl, rfl, hown, hup, hrd, hne⟩ := hrel
    have hl3 : L.length ≤ 5 := by
      have := some3_len [A.t, A.t1, A.t2] k
      rw [hL, List.length_append]
      simp only [List.length_cons, List.length_nil] at this
      omega
    have HL := Lib.hid hL
    clear hL
    by_cases hlt : k < 3
    · obtain ⟨y, b, o, hy, hbo, hcell⟩ := hrd.getI (i := k) hlt
      injection hbo with hbo
      injection hbo with hb ho
      subst hb; subst ho
      rw [Nat.zero_add] at hcell
      have hzr : w.heap.size + 1 ≤ wr.heap.size := by simpa using hup.size
      have hgr : w1.heap.size < wr.heap.size := World.block_lt_of_cell? wr _ hcell
      have HY := Lib.hid hy
      have HRD := Lib.hid hrd
      have HNE := Lib.hid hne
      clear hy hrd hne
      by_cases hy0 : y = 0
      · go_wp2
        refine ⟨⟨k + 1, A', c', L, by omega, ?_, rfl, rfl, hown, hup, HRD.out, HNE.out⟩, by simp [intOf]; omega⟩
        rw [HL.out, some3_take HY.out, if_pos hy0, List.append_nil]
      · go_wp2_with ((refine wpList_appI rfl _ _ rfl _ _ _ _ _ ?hn rfl (Own.up (by assumption) (by (repeat (first | (with_reducible exact Up.refl _) | (with_reducible assumption) | (with_reducible refine Up.alloc ?_ _) | (with_reducible refine Up.drew ?_) | (with_reducible refine Up.drewN ?_ _) | (with_reducible refine Up.store ?_ ?_ _) | (with_reducible refine Up.trans ?_ (by assumption)) | (exact Nat.le_refl _) | (exact Nat.le_add_right _ _) | (go_light; omega))))) rfl (w.alloc _) (by (repeat (first | (with_reducible exact Up.refl _) | (with_reducible assumption) | (with_reducible refine Up.alloc ?_ _) | (with_reducible refine Up.drew ?_) | (with_reducible refine Up.drewN ?_ _) | (with_reducible refine Up.store ?_ ?_ _) | (with_reducible refine Up.trans ?_ (by assumption)) | (exact Nat.le_refl _) | (exact Nat.le_add_right _ _) | (go_light; omega)))) ?hB ?hB1 ?hlen ?_; (case hn => (first | rfl | (simp; done))); (case hB => first | (simp; done) | omega | (simp; omega)); (case hB1 => first | (simp; done) | omega | (simp; omega)); (case hlen => (first | omega | (simp; omega))); intro A1 c1 w1 ho1 hb1 hg1 ha1; obtain ⟨hc1, hf1, hz1⟩ := hb1.use (N := w.heap.size + 1) (by first | (simp; done) | omega | (simp; omega))))
        refine ⟨⟨k + 1, A1, c1, L ++ [y], by omega, ?_, rfl, by simp, ho1, hb1, ?_, ?_⟩, by simp [intOf]; omega⟩
        · rw [HL.out, some3_take HY.out, if_neg hy0, List.append_assoc]
        · refine ⟨HRD.out.le, HRD.out.max, fun hn => ?_⟩
          obtain ⟨b, o, hbo, hc⟩ := HRD.out.cells hn
          injection hbo with hbo; injection hbo with hb1' ho1'
          subst hb1'; subst ho1'
          refine ⟨_, _, rfl, fun i a hi j v hj => ?_⟩
          rw [far_cells hg1 (by simp; omega) ?_]
          · exact rangeAt_up (hc i a hi) ((Up.refl _).alloc _) j v hj
          · intro hh
            cases A' with
            | none => simp [Value.ownBlock] at hh
            | some a' => exact HNE.out a' rfl (by simp [Value.ownBlock] at hh; exact hh.symm)
        · intro a ha
          rcases ha1 with h | h
          · exact HNE.out a (by rw [← h]; exact ha)
          · rw [h] at ha; injection ha with ha; subst ha; simp only []; omega
    · go_wp2
      go_ret
      refine RetI.of _ hown (by first | (simp; done) | omega | (simp; omega)) (by (repeat (first | (with_reducible exact Up.refl _) | (with_reducible assumption) | (with_reducible refine Up.alloc ?_ _) | (with_reducible refine Up.drew ?_) | (with_reducible refine Up.drewN ?_ _) | (with_reducible refine Up.store ?_ ?_ _) | (with_reducible refine Up.trans ?_ (by assumption)) | (exact Nat.le_refl _) | (exact Nat.le_add_right _ _) | (go_light; omega)))) ?_ (by first | rfl | (simp; done))
      have : k = 3 := by omega
      subst this
      rw [HL.out]; rfl

end Go.Proofs.Ytbljimjanoondaa
