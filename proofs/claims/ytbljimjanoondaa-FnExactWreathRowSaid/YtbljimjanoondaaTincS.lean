/- Contracts and lemmas (TincS) for the laws of this seat: what the Go functions named here return, for all arguments that each theorem states; no further conditions. -/
import Derived.Test.YtbljimjanoondaaData
import Derived.Test.YtbljimjanoondaaInts
import Derived.Test.YtbljimjanoondaaMem
import Derived.Test.YtbljimjanoondaaTinc
import Derived.Test.YtbljimjanoondaaWb
import Derived.Test.YtbljimjanoondaaRows
import Derived.WalkKit
import Derived.ProofKit
import Derived.OpenShut
import Derived.WalkLawsBesides
import Derived.Lib.Hide
import Derived.Deep.QuietTactic
import Derived.BigQuiet
import Derived.Deep.Light
import Derived.Handy
namespace Go.Proofs.Ytbljimjanoondaa
set_option maxRecDepth 100000
open Go.ChangeShapes Go.WideShapes Go.ChangeAt Go.RowKit
set_option linter.unusedVariables false
set_option linter.unusedSimpArgs false

set_option maxHeartbeats 4000000 in
theorem c_l5Tinctures (A : Arms) (w : World) : Calls Try.prog 73 #[.agg A.arr] w (RetI w (tincS A)) := by
  have hlen := fieldTinc_len A.fd A.ff A.fs
  go_enter Try.func73, Try.ntmps73
  go_wp2_with (first | (go_at_call 86; refine (c_l3Tinctures _ _ _ _ _).mono ?_; rintro e w1 ⟨A1, c1, rfl, ho1, hb1⟩; obtain ⟨hc1, hf1, hz1⟩ := hb1.use (N := w.heap.size + 1) (by first | (simp; done) | omega | (simp; omega))) | (go_at_call 47; refine (c_l4None _ _ _ _ _).mono ?_; rintro e w1 ⟨rfl, hb1⟩; obtain ⟨hc1, hf1, hz1⟩ := hb1.use (N := w.heap.size + 1) (by first | (simp; done) | omega | (simp; omega)); have hy0 : w.heap.size < w1.heap.size := Nat.lt_of_lt_of_le (Nat.lt_add_of_pos_right (by decide)) hz1) | (refine wpList_appI rfl _ _ rfl _ _ _ _ _ ?hn rfl (Own.up (by assumption) (by (repeat (first | (with_reducible exact Up.refl _) | (with_reducible assumption) | (with_reducible refine Up.alloc ?_ _) | (with_reducible refine Up.drew ?_) | (with_reducible refine Up.drewN ?_ _) | (with_reducible refine Up.store ?_ ?_ _) | (with_reducible refine Up.trans ?_ (by assumption)) | (exact Nat.le_refl _) | (exact Nat.le_add_right _ _) | (go_light; omega))))) rfl (w.alloc _) (by (repeat (first | (with_reducible exact Up.refl _) | (with_reducible assumption) | (with_reducible refine Up.alloc ?_ _) | (with_reducible refine Up.drew ?_) | (with_reducible refine Up.drewN ?_ _) | (with_reducible refine Up.store ?_ ?_ _) | (with_reducible refine Up.trans ?_ (by assumption)) | (exact Nat.le_refl _) | (exact Nat.le_add_right _ _) | (go_light; omega)))) ?hB ?hB1 ?hlen ?_; (case hn => (first | rfl | (simp; done))); (case hB => first | (simp; done) | omega | (simp; omega)); (case hB1 => first | (simp; done) | omega | (simp; omega)); (case hlen => (first | omega | (simp; omega))); intro A1 c1 w1 ho1 hb1 hg1 ha1; obtain ⟨hc1, hf1, hz1⟩ := hb1.use (N := w.heap.size + 1) (by first | (simp; done) | omega | (simp; omega))))
  all_goals go_ret
  all_goals (refine RetI.of _ (Own.up ho1 (by (repeat (first | (with_reducible exact Up.refl _) | (with_reducible assumption) | (with_reducible refine Up.alloc ?_ _) | (with_reducible refine Up.drew ?_) | (with_reducible refine Up.drewN ?_ _) | (with_reducible refine Up.store ?_ ?_ _) | (with_reducible refine Up.trans ?_ (by assumption)) | (exact Nat.le_refl _) | (exact Nat.le_add_right _ _) | (go_light; omega))))) (by first | (simp; done) | omega | (simp; omega)) (by (repeat (first | (with_reducible exact Up.refl _) | (with_reducible assumption) | (with_reducible refine Up.alloc ?_ _) | (with_reducible refine Up.drew ?_) | (with_reducible refine Up.drewN ?_ _) | (with_reducible refine Up.store ?_ ?_ _) | (with_reducible refine Up.trans ?_ (by assumption)) | (exact Nat.le_refl _) | (exact Nat.le_add_right _ _) | (go_light; omega)))) ?_ (by first | rfl | (simp; done)))
  all_goals (go_light; simp_all [tincS, opt])

end Go.Proofs.Ytbljimjanoondaa
