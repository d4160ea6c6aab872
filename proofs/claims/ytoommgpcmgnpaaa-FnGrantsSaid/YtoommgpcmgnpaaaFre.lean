import Derived.Test.YtoommgpcmgnpaaaAmT
import Derived.Test.YtoommgpcmgnpaaaNea
set_option linter.unusedVariables false
set_option linter.unusedSimpArgs false
set_option maxRecDepth 100000
set_option maxHeartbeats 4000000
set_option cbv.maxSteps 3000000
namespace Go.Proofs.Ytoommgpcmgnpaaa.AM
/- Free tinctures, tables compared; conditions: none. -/
def withT (a : Arm) (x : Int) : Arm := ⟨a.f, a.o, a.l, a.t, a.n, ⟨a.r.c, a.r.k, a.r.a, x⟩⟩
def freeX (l : List Arm) (a : Arm) (x : Int) : Bool := !l.any fun y => decide (dI (withT a x) y < 2)
def okFr (l : List Arm) (a : Arm) : Bool := okLs l && (okA a && !noG a.r)
def nine : List Int := [1, 2, 3, 4, 5, 6, 7, 8, 9]
def frT (l : List Arm) (a : Arm) (k : Nat) : List Int := (nine.take k).filter (freeX l a)
def aK (a : Arm) : Nat → Arm
  | 0 => a
  | k + 1 => withT a ((k + 1 : Nat) : Int)
theorem aK_eq (a : Arm) (k : Nat) (x : Int) : (⟨⟨(aK a k).f.d, (aK a k).f.l, (aK a k).f.p, (aK a k).f.q⟩, (aK a k).o, (aK a k).l, (aK a k).t, ⟨(aK a k).n.c, (aK a k).n.k, (aK a k).n.a, (aK a k).n.t⟩, ⟨(aK a k).r.c, (aK a k).r.k, (aK a k).r.a, x⟩⟩ : Arm) = withT a x := by cases k <;> rfl
theorem aK_p (a : Arm) (k : Nat) : (aK a k).f = a.f ∧ (aK a k).o = a.o ∧ (aK a k).l = a.l ∧ (aK a k).t = a.t ∧ (aK a k).n = a.n ∧ (aK a k).r.c = a.r.c ∧ (aK a k).r.k = a.r.k ∧ (aK a k).r.a = a.r.a := by cases k <;> exact ⟨rfl, rfl, rfl, rfl, rfl, rfl, rfl, rfl⟩
theorem aK_t (a : Arm) (k : Nat) : (aK a (k + 1)).r.t = ((k + 1 : Nat) : Int) := rfl
theorem nine_take {k : Nat} (h : k < 9) : nine.take (k + 1) = nine.take k ++ [((k + 1 : Nat) : Int)] := by
  rcases (by omega : k = 0 ∨ k = 1 ∨ k = 2 ∨ k = 3 ∨ k = 4 ∨ k = 5 ∨ k = 6 ∨ k = 7 ∨ k = 8) with rfl | rfl | rfl | rfl | rfl | rfl | rfl | rfl | rfl <;> rfl
theorem frT_succ {l : List Arm} {a : Arm} {k : Nat} (h : k < 9) : frT l a (k + 1) = if freeX l a ((k + 1 : Nat) : Int) = true then frT l a k ++ [((k + 1 : Nat) : Int)] else frT l a k := by
  unfold frT
  rw [nine_take h, List.filter_append]
  cases hf : freeX l a ((k + 1 : Nat) : Int) with
  | true => rw [List.filter_cons_of_pos hf, if_pos rfl]; rfl
  | false => rw [List.filter_cons_of_neg (by rw [hf]; decide), if_neg (by decide)]; simp
theorem frT_len (l : List Arm) (a : Arm) (k : Nat) : (frT l a k).length ≤ 9 := by
  unfold frT
  refine Nat.le_trans (List.length_filter_le _ _) ?_
  rw [List.length_take]
  exact Nat.min_le_right _ _
theorem fr_cond (l : List Arm) (a : Arm) : (bif bif !okLs l then true else !okA a then true else noG a.r) = !okFr l a := by
  unfold okFr
  cases okLs l <;> cases okA a <;> cases noG a.r <;> rfl
theorem okFr_in {l : List Arm} {a : Arm} (h : okFr l a = true) : okLs l = true ∧ okA a = true ∧ noG a.r = false := by
  unfold okFr at h
  simp only [Bool.and_eq_true, Bool.not_eq_true'] at h
  exact ⟨h.1, h.2.1, h.2.2⟩
theorem okA_with {a : Arm} (h : okA a = true) (hn : noG a.r = false) {x : Int} (h1 : 1 ≤ x) (h9 : x ≤ 9) : okA (withT a x) = true := by
  unfold okA at h ⊢
  simp only [Bool.and_eq_true] at h ⊢
  refine ⟨⟨h.1.1, ?_⟩, h.2⟩
  have hg := h.1.2
  rw [hn, Bool.false_or] at hg
  have : okG (withT a x).r = true := by
    unfold okG at hg ⊢
    simp only [Bool.and_eq_true] at hg ⊢
    refine ⟨hg.1, ?_⟩
    show inB x 1 9 = true
    unfold inB
    rw [decide_eq_true_eq]; exact ⟨h1, h9⟩
  rw [this, Bool.or_true]
theorem freeS_eq {l : List Arm} {a : Arm} (h : okFr l a = true) {x : Int} (h1 : 1 ≤ x) (h9 : x ≤ 9) {b : Arm} (hb : b ∈ l) : dS b (withT a x) = dI (withT a x) b := by
  obtain ⟨hl, ha, hn⟩ := okFr_in h
  rw [dI_dS (okA_with ha hn h1 h9) ((okLs_in hl).2 b hb), dS_sym]

end Go.Proofs.Ytoommgpcmgnpaaa.AM
