/- Contracts and lemmas (Gs) for the laws of this seat: what the Go functions named here return, for all arguments that each theorem states; no further conditions. -/
import Derived.Test.YtnniiphfbjbjdaaData
import Derived.Test.YtnniiphfbjbjdaaGd
import Derived.Test.YtnniiphfbjbjdaaMem
import Derived.Test.YtnniiphfbjbjdaaQUp
import Derived.Test.YtnniiphfbjbjdaaUp
import Derived.Test.YtnniiphfbjbjdaaWb
import Derived.Test.YtnniiphfbjbjdaaRows
import Derived.WalkKit
import Derived.ProofKit
import Derived.OpenShut
import Derived.WalkLawsBesides
import Derived.Lib.Hide
import Derived.Deep.QuietTactic
import Derived.BigQuiet
import Derived.Deep.Light
import Derived.Handy
namespace Go.Proofs.Ytnniiphfbjbjdaa
set_option maxRecDepth 100000
open Go.ChangeShapes Go.WideShapes Go.ChangeAt Go.RowKit
set_option linter.unusedVariables false
set_option linter.unusedSimpArgs false

set_option maxHeartbeats 1000000 in
theorem c_GroupDifferences_no (c k a t c' k' a' t' : Int) (h : (okG c k a t && okG c' k' a' t') = false) (w : World) : Calls Try.prog 17 #[.agg #[.int .i64 c, .int .i64 k, .int .i64 a, .int .i64 t], .agg #[.int .i64 c', .int .i64 k', .int .i64 a', .int .i64 t']] w fun e w' => e = .returned (.tuple #[.int .i64 0, .bool false]) ∧ Up w w' := by
  cases h1 : okG c k a t with
  | false =>
    go_enter Try.func17, Try.ntmps17
    go_wp2_with (go_at_call 119; refine (c_isGroup _ _ _ _ _).mono ?_; rintro e w1 ⟨rfl, hb1⟩; obtain ⟨hc1, hf1, hz1⟩ := hb1.use (N := w.heap.size + 2) (by first | (simp; done) | omega | (simp; omega)); have hy0 : w.heap.size < w1.heap.size := Nat.lt_of_lt_of_le (Nat.lt_add_of_pos_right (by decide)) hz1; have hy1 : w.heap.size + 1 < w1.heap.size := Nat.lt_of_lt_of_le (Nat.add_lt_add_left (by decide : 1 < 2) _) hz1)
    go_ret2
    exact ⟨rfl, by (repeat (first | (with_reducible exact Up.refl _) | (with_reducible assumption) | (with_reducible refine Up.alloc ?_ _) | (with_reducible refine Up.drew ?_) | (with_reducible refine Up.drewN ?_ _) | (with_reducible refine Up.store ?_ ?_ _) | (with_reducible refine Up.trans ?_ (by assumption)) | (exact Nat.le_refl _) | (exact Nat.le_add_right _ _) | (go_light; omega)))⟩
  | true =>
    have h2 : okG c' k' a' t' = false := by simpa [h1] using h
    clear h
    go_enter Try.func17, Try.ntmps17
    go_wp2_with (go_at_call 119; refine (c_isGroup _ _ _ _ _).mono ?_; rintro e w1 ⟨rfl, hb1⟩; obtain ⟨hc1, hf1, hz1⟩ := hb1.use (N := w.heap.size + 2) (by first | (simp; done) | omega | (simp; omega)); have hy0 : w.heap.size < w1.heap.size := Nat.lt_of_lt_of_le (Nat.lt_add_of_pos_right (by decide)) hz1; have hy1 : w.heap.size + 1 < w1.heap.size := Nat.lt_of_lt_of_le (Nat.add_lt_add_left (by decide : 1 < 2) _) hz1)
    go_ret2
    exact ⟨rfl, by (repeat (first | (with_reducible exact Up.refl _) | (with_reducible assumption) | (with_reducible refine Up.alloc ?_ _) | (with_reducible refine Up.drew ?_) | (with_reducible refine Up.drewN ?_ _) | (with_reducible refine Up.store ?_ ?_ _) | (with_reducible refine Up.trans ?_ (by assumption)) | (exact Nat.le_refl _) | (exact Nat.le_add_right _ _) | (go_light; omega)))⟩
set_option maxHeartbeats 1000000 in
theorem c_GroupDifferences_yes (c k a t c' k' a' t' : Int) (h : okG c k a t = true) (h' : okG c' k' a' t' = true) (w : World) : Calls Try.prog 17 #[.agg #[.int .i64 c, .int .i64 k, .int .i64 a, .int .i64 t], .agg #[.int .i64 c', .int .i64 k', .int .i64 a', .int .i64 t']] w fun e w' => e = .returned (.tuple #[.int .i64 (gdiff c k a t c' k' a' t'), .bool true]) ∧ Up w w' := by
  go_enter Try.func17, Try.ntmps17
  go_wp2_with (first | (go_at_call 119; refine (c_isGroup _ _ _ _ _).mono ?_; rintro e w1 ⟨rfl, hb1⟩; obtain ⟨hc1, hf1, hz1⟩ := hb1.use (N := w.heap.size + 2) (by first | (simp; done) | omega | (simp; omega)); have hy0 : w.heap.size < w1.heap.size := Nat.lt_of_lt_of_le (Nat.lt_add_of_pos_right (by decide)) hz1; have hy1 : w.heap.size + 1 < w1.heap.size := Nat.lt_of_lt_of_le (Nat.add_lt_add_left (by decide : 1 < 2) _) hz1) | (go_at_call 120; refine (c_groupDifferences _ _ _ _ _ _ _ _ _).mono ?_; rintro e w1 ⟨rfl, hb1⟩; obtain ⟨hc1, hf1, hz1⟩ := hb1.use (N := w.heap.size + 2) (by first | (simp; done) | omega | (simp; omega)); have hy0 : w.heap.size < w1.heap.size := Nat.lt_of_lt_of_le (Nat.lt_add_of_pos_right (by decide)) hz1; have hy1 : w.heap.size + 1 < w1.heap.size := Nat.lt_of_lt_of_le (Nat.add_lt_add_left (by decide : 1 < 2) _) hz1))
  go_ret2
  exact ⟨rfl, by (repeat (first | (with_reducible exact Up.refl _) | (with_reducible assumption) | (with_reducible refine Up.alloc ?_ _) | (with_reducible refine Up.drew ?_) | (with_reducible refine Up.drewN ?_ _) | (with_reducible refine Up.store ?_ ?_ _) | (with_reducible refine Up.trans ?_ (by assumption)) | (exact Nat.le_refl _) | (exact Nat.le_add_right _ _) | (go_light; omega)))⟩

theorem wpQuiet_runU {P : Program} {ops : Array Oper} {C : World → Prop} {Q : Act → Prop} {a : Act} {o : Oper} {rest : List Oper} {v : Value} (hw : Region.wanted o (yielded ops a.tmps) = true) (hrun : ∀ w, (execOp a.eval o).run P w = .ok (.value v) w)
    (h : wpQuiet P ops C Q rest (a.put o.dst v)) : wpQuiet P ops C Q (o :: rest) a :=
  BigFrame.wpQuiet_want hw fun K hK => ⟨v, fun w hCw => by unfold Oper.quietAt; rw [hrun]; exact ⟨rfl, rfl⟩, hK _ h⟩

theorem c_l4None_is (c k a t : Int) (b : Bool) (h : noneG c k a t = b) (w : World) : Calls Try.prog 121 #[.agg #[.int .i64 c, .int .i64 k, .int .i64 a, .int .i64 t]] w fun e w' => e = .returned (.bool b) ∧ Up w w' := by
  subst h; exact c_l4None c k a t w
theorem sameG_none {c k a t c' k' a' t' : Int} (h : noneG c k a t ≠ noneG c' k' a' t') : gdiff c k a t c' k' a' t' = 2 := by
  have hs : sameG c k a t c' k' a' t' = false := by
    rw [Bool.eq_false_iff]; intro hs
    simp only [sameG, decide_eq_true_eq] at hs
    obtain ⟨rfl, rfl, rfl, rfl⟩ := hs
    exact h rfl
  unfold gdiff
  rw [if_neg (by rw [hs]; simp), if_pos]
  cases h1 : noneG c k a t <;> cases h2 : noneG c' k' a' t' <;> simp_all
theorem gdiff_sum {c k a t c' k' a' t' : Int} (h : noneG c k a t = noneG c' k' a' t') : gdiff c k a t c' k' a' t' = nb (c != c') + nb (t != t') + (if k != k' then 2 else nb (a != a')) := by
  unfold gdiff
  by_cases hs : sameG c k a t c' k' a' t' = true
  · rw [if_pos hs]
    simp only [sameG, decide_eq_true_eq] at hs
    obtain ⟨rfl, rfl, rfl, rfl⟩ := hs
    simp [nb]
  · rw [if_neg hs]
    cases h1 : noneG c k a t with
    | false => rw [if_neg (by rw [← h, h1]; simp)]
    | true =>
      exfalso
      rw [h1] at h
      simp only [noneG, decide_eq_true_eq] at h1
      have h2 := h.symm
      simp only [noneG, decide_eq_true_eq] at h2
      apply hs
      simp only [sameG, decide_eq_true_eq]
      omega
set_option maxHeartbeats 4000000 in
theorem c_l4Differences (c k a t c' k' a' t' : Int) (w : World) : Calls Try.prog 123 #[.agg #[.int .i64 c, .int .i64 k, .int .i64 a, .int .i64 t], .agg #[.int .i64 c', .int .i64 k', .int .i64 a', .int .i64 t']] w fun e w' => e = .returned (.int .i64 (gdiff c k a t c' k' a' t')) ∧ Up w w' := by
  have hra : ((w.alloc (.cells (#[.int .i64 (c), .int .i64 (k), .int .i64 (a), .int .i64 (t)]) 25)).alloc (.cells (#[.int .i64 (c'), .int .i64 (k'), .int .i64 (a'), .int .i64 (t')]) 25)).rangeAt w.heap.size 0 (#[.int .i64 (c), .int .i64 (k), .int .i64 (a), .int .i64 (t)]).toList := box_range ((Up.refl _).alloc _)
  have hrb : ((w.alloc (.cells (#[.int .i64 (c), .int .i64 (k), .int .i64 (a), .int .i64 (t)]) 25)).alloc (.cells (#[.int .i64 (c'), .int .i64 (k'), .int .i64 (a'), .int .i64 (t')]) 25)).rangeAt (w.heap.size + 1) 0 (#[.int .i64 (c'), .int .i64 (k'), .int .i64 (a'), .int .i64 (t')]).toList := box_range2 (Up.refl _)
  obtain ⟨n1, h1⟩ : ∃ b, noneG c k a t = b := ⟨_, rfl⟩
  obtain ⟨n2, h2⟩ : ∃ b, noneG c' k' a' t' = b := ⟨_, rfl⟩
  have H1 := Lib.hid h1
  have H2 := Lib.hid h2
  have hgs : n1 = n2 → Hid (gdiff c k a t c' k' a' t' = nb (c != c') + nb (t != t') + (if k != k' then 2 else nb (a != a'))) := fun e => Lib.hid (gdiff_sum (by rw [h1, h2, e]))
  have hgn : n1 ≠ n2 → Hid (gdiff c k a t c' k' a' t' = 2) := fun e => Lib.hid (sameG_none (by rw [h1, h2]; exact e))
  clear h1 h2
  by_cases hn : n1 = n2
  · subst hn
    have HG := hgs rfl
    clear hgs hgn
    cases g1 : (c != c') <;> cases g2 : (t != t') <;> cases g3 : (k != k') <;> cases g4 : (a != a')
    all_goals
      cases n1
      all_goals
        go_enter Try.func123, Try.ntmps123
        go_wp2_with fail
        (refine wp_region_up (by kernel_rfl) (by kernel_rfl) ?_; (refine wpQuiet_load_agg 25 _ rfl rfl _ _ rfl #[.int .i64 (c), .int .i64 (k), .int .i64 (a), .int .i64 (t)] _ (fun w' hw' => rangeAt_up hra hw') Try.underlying25 rfl (by kernel_rfl) ?_; simp only [Act.put, List.setIfInBounds_toArray, List.set_cons_succ, List.set_cons_zero]); (refine wpQuiet_callU 121 _ _ rfl (by kernel_rfl) rfl _ (by exact rfl) _ (by exact fun w' hw' => (c_l4None_is _ _ _ _ _ H1.out _).mono fun e w'' h => ⟨h.1, hw'.trans h.2⟩) ?_; simp only [Act.put, List.setIfInBounds_toArray, List.set_cons_succ, List.set_cons_zero]); (refine wpQuiet_load_agg 25 _ rfl rfl _ _ rfl #[.int .i64 (c'), .int .i64 (k'), .int .i64 (a'), .int .i64 (t')] _ (fun w' hw' => rangeAt_up hrb hw') Try.underlying25 rfl (by kernel_rfl) ?_; simp only [Act.put, List.setIfInBounds_toArray, List.set_cons_succ, List.set_cons_zero]); (refine wpQuiet_callU 121 _ _ rfl (by kernel_rfl) rfl _ (by exact rfl) _ (by exact fun w' hw' => (c_l4None_is _ _ _ _ _ H2.out _).mono fun e w'' h => ⟨h.1, hw'.trans h.2⟩) ?_; simp only [Act.put, List.setIfInBounds_toArray, List.set_cons_succ, List.set_cons_zero]); (refine wpQuiet_runU (v := .bool false) (by kernel_rfl) (fun w => by unfold execOp; simp [go_sem, Act.eval]) ?_; simp only [Act.put, List.setIfInBounds_toArray, List.set_cons_succ, List.set_cons_zero]); (repeat (first | (refine wpQuiet_extractU _ _ rfl rfl _ rfl _ rfl ?_; simp only [Act.put, List.setIfInBounds_toArray, List.set_cons_succ, List.set_cons_zero]) | go_big_quiet_step (fail))); refine wpQuiet_nil ?_; intro w1 hb1; (try simp only [Function.comp_apply]))
        have hx1 := hb1.at_ (b := w.heap.size) (by simp; omega)
        have hx2 := hb1.at_ (b := w.heap.size + 1) (by simp)
        go_wp2_with fail
        go_ret
        exact ⟨ret_int (by rw [HG.out, g1, g2, g3, g4]; rfl), by (repeat (first | (with_reducible exact Up.refl _) | (with_reducible assumption) | (with_reducible refine Up.alloc ?_ _) | (with_reducible refine Up.drew ?_) | (with_reducible refine Up.drewN ?_ _) | (with_reducible refine Up.store ?_ ?_ _) | (with_reducible refine Up.trans ?_ (by assumption)) | (exact Nat.le_refl _) | (exact Nat.le_add_right _ _) | (go_light; omega)))⟩
  · have HG := hgn hn
    clear hgs hgn
    have hc : (n1 = false ∧ n2 = true) ∨ (n1 = true ∧ n2 = false) := by cases n1 <;> cases n2 <;> simp_all
    clear hn
    rcases hc with ⟨rfl, rfl⟩ | ⟨rfl, rfl⟩
    all_goals
      go_enter Try.func123, Try.ntmps123
      go_wp2_with fail
      (refine wp_region_up (by kernel_rfl) (by kernel_rfl) ?_; (refine wpQuiet_load_agg 25 _ rfl rfl _ _ rfl #[.int .i64 (c), .int .i64 (k), .int .i64 (a), .int .i64 (t)] _ (fun w' hw' => rangeAt_up hra hw') Try.underlying25 rfl (by kernel_rfl) ?_; simp only [Act.put, List.setIfInBounds_toArray, List.set_cons_succ, List.set_cons_zero]); (refine wpQuiet_callU 121 _ _ rfl (by kernel_rfl) rfl _ (by exact rfl) _ (by exact fun w' hw' => (c_l4None_is _ _ _ _ _ H1.out _).mono fun e w'' h => ⟨h.1, hw'.trans h.2⟩) ?_; simp only [Act.put, List.setIfInBounds_toArray, List.set_cons_succ, List.set_cons_zero]); (refine wpQuiet_load_agg 25 _ rfl rfl _ _ rfl #[.int .i64 (c'), .int .i64 (k'), .int .i64 (a'), .int .i64 (t')] _ (fun w' hw' => rangeAt_up hrb hw') Try.underlying25 rfl (by kernel_rfl) ?_; simp only [Act.put, List.setIfInBounds_toArray, List.set_cons_succ, List.set_cons_zero]); (refine wpQuiet_callU 121 _ _ rfl (by kernel_rfl) rfl _ (by exact rfl) _ (by exact fun w' hw' => (c_l4None_is _ _ _ _ _ H2.out _).mono fun e w'' h => ⟨h.1, hw'.trans h.2⟩) ?_; simp only [Act.put, List.setIfInBounds_toArray, List.set_cons_succ, List.set_cons_zero]); (refine wpQuiet_runU (v := .bool true) (by kernel_rfl) (fun w => by unfold execOp; simp [go_sem, Act.eval]) ?_; simp only [Act.put, List.setIfInBounds_toArray, List.set_cons_succ, List.set_cons_zero]); (repeat (first | (refine wpQuiet_extractU _ _ rfl rfl _ rfl _ rfl ?_; simp only [Act.put, List.setIfInBounds_toArray, List.set_cons_succ, List.set_cons_zero]) | go_big_quiet_step (fail))); refine wpQuiet_nil ?_; intro w1 hb1; (try simp only [Function.comp_apply]))
      go_wp2_with fail
      go_ret
      exact ⟨ret_int HG.out.symm, by (repeat (first | (with_reducible exact Up.refl _) | (with_reducible assumption) | (with_reducible refine Up.alloc ?_ _) | (with_reducible refine Up.drew ?_) | (with_reducible refine Up.drewN ?_ _) | (with_reducible refine Up.store ?_ ?_ _) | (with_reducible refine Up.trans ?_ (by assumption)) | (exact Nat.le_refl _) | (exact Nat.le_add_right _ _) | (go_light; omega)))⟩

set_option maxHeartbeats 1000000 in
theorem c_sGroupDifferences_no (c k a t c' k' a' t' : Int) (h : (okG c k a t && okG c' k' a' t') = false) (w : World) : Calls Try.prog 18 #[.agg #[.int .i64 c, .int .i64 k, .int .i64 a, .int .i64 t], .agg #[.int .i64 c', .int .i64 k', .int .i64 a', .int .i64 t']] w fun e w' => e = .returned (.tuple #[.int .i64 0, .bool false]) ∧ Up w w' := by
  unfold okG at h
  cases n1 : noneG c k a t <;> cases g1 : goodG c k a t <;> cases n2 : noneG c' k' a' t' <;> cases g2 : goodG c' k' a' t' <;> simp only [n1, g1, n2, g2, Bool.or_true, Bool.or_false, Bool.and_true, Bool.and_false, Bool.true_eq_false] at h
  all_goals
    clear h
    go_enter Try.func18, Try.ntmps18
    go_wp2_with (first | (go_at_call 121; refine (c_l4None _ _ _ _ _).mono ?_; rintro e w1 ⟨rfl, hb1⟩; obtain ⟨hc1, hf1, hz1⟩ := hb1.use (N := w.heap.size + 2) (by first | (simp; done) | omega | (simp; omega)); have hy0 : w.heap.size < w1.heap.size := Nat.lt_of_lt_of_le (Nat.lt_add_of_pos_right (by decide)) hz1; have hy1 : w.heap.size + 1 < w1.heap.size := Nat.lt_of_lt_of_le (Nat.add_lt_add_left (by decide : 1 < 2) _) hz1) | (go_at_call 122; refine (c_l4Group _ _ _ _ _).mono ?_; rintro e w1 ⟨rfl, hb1⟩; obtain ⟨hc1, hf1, hz1⟩ := hb1.use (N := w.heap.size + 2) (by first | (simp; done) | omega | (simp; omega)); have hy0 : w.heap.size < w1.heap.size := Nat.lt_of_lt_of_le (Nat.lt_add_of_pos_right (by decide)) hz1; have hy1 : w.heap.size + 1 < w1.heap.size := Nat.lt_of_lt_of_le (Nat.add_lt_add_left (by decide : 1 < 2) _) hz1))
    go_ret2
    exact ⟨rfl, by (repeat (first | (with_reducible exact Up.refl _) | (with_reducible assumption) | (with_reducible refine Up.alloc ?_ _) | (with_reducible refine Up.drew ?_) | (with_reducible refine Up.drewN ?_ _) | (with_reducible refine Up.store ?_ ?_ _) | (with_reducible refine Up.trans ?_ (by assumption)) | (exact Nat.le_refl _) | (exact Nat.le_add_right _ _) | (go_light; omega)))⟩
set_option maxHeartbeats 1000000 in
theorem c_sGroupDifferences_yes (c k a t c' k' a' t' : Int) (h : okG c k a t = true) (h' : okG c' k' a' t' = true) (w : World) : Calls Try.prog 18 #[.agg #[.int .i64 c, .int .i64 k, .int .i64 a, .int .i64 t], .agg #[.int .i64 c', .int .i64 k', .int .i64 a', .int .i64 t']] w fun e w' => e = .returned (.tuple #[.int .i64 (gdiff c k a t c' k' a' t'), .bool true]) ∧ Up w w' := by
  unfold okG at h h'
  cases n1 : noneG c k a t <;> cases g1 : goodG c k a t <;> cases n2 : noneG c' k' a' t' <;> cases g2 : goodG c' k' a' t' <;> simp only [n1, g1, n2, g2, Bool.or_true, Bool.or_false, Bool.false_eq_true] at h h'
  all_goals
    go_enter Try.func18, Try.ntmps18
    go_wp2_with (first | (go_at_call 121; refine (c_l4None _ _ _ _ _).mono ?_; rintro e w1 ⟨rfl, hb1⟩; obtain ⟨hc1, hf1, hz1⟩ := hb1.use (N := w.heap.size + 2) (by first | (simp; done) | omega | (simp; omega)); have hy0 : w.heap.size < w1.heap.size := Nat.lt_of_lt_of_le (Nat.lt_add_of_pos_right (by decide)) hz1; have hy1 : w.heap.size + 1 < w1.heap.size := Nat.lt_of_lt_of_le (Nat.add_lt_add_left (by decide : 1 < 2) _) hz1) | (go_at_call 122; refine (c_l4Group _ _ _ _ _).mono ?_; rintro e w1 ⟨rfl, hb1⟩; obtain ⟨hc1, hf1, hz1⟩ := hb1.use (N := w.heap.size + 2) (by first | (simp; done) | omega | (simp; omega)); have hy0 : w.heap.size < w1.heap.size := Nat.lt_of_lt_of_le (Nat.lt_add_of_pos_right (by decide)) hz1; have hy1 : w.heap.size + 1 < w1.heap.size := Nat.lt_of_lt_of_le (Nat.add_lt_add_left (by decide : 1 < 2) _) hz1) | (go_at_call 123; refine (c_l4Differences _ _ _ _ _ _ _ _ _).mono ?_; rintro e w1 ⟨rfl, hb1⟩; obtain ⟨hc1, hf1, hz1⟩ := hb1.use (N := w.heap.size + 2) (by first | (simp; done) | omega | (simp; omega)); have hy0 : w.heap.size < w1.heap.size := Nat.lt_of_lt_of_le (Nat.lt_add_of_pos_right (by decide)) hz1; have hy1 : w.heap.size + 1 < w1.heap.size := Nat.lt_of_lt_of_le (Nat.add_lt_add_left (by decide : 1 < 2) _) hz1))
    go_ret2
    exact ⟨rfl, by (repeat (first | (with_reducible exact Up.refl _) | (with_reducible assumption) | (with_reducible refine Up.alloc ?_ _) | (with_reducible refine Up.drew ?_) | (with_reducible refine Up.drewN ?_ _) | (with_reducible refine Up.store ?_ ?_ _) | (with_reducible refine Up.trans ?_ (by assumption)) | (exact Nat.le_refl _) | (exact Nat.le_add_right _ _) | (go_light; omega)))⟩

end Go.Proofs.Ytnniiphfbjbjdaa
