/- Lemmas and contracts (VB ALFilling Open Up M1 Data Brg LFilling); conditions: none. -/
import Derived.Test.YtpilblmncpeelaaK04
import Derived.Test.YtpilblmncpeelaaK07
import Derived.Test.YtpilblmncpeelaaK08
import Derived.Test.YtpilblmncpeelaaK20
import Derived.OpenShut
import Derived.WalkKit
import Derived.ProofKit
import Derived.WalkLawsBesides
import Derived.Lib.Hide
import Derived.Deep.QuietTactic
import Derived.BigQuiet
import Derived.Deep.Light
import Derived.Handy
import Derived.ChangeOld
import Derived.ShutString
import Derived.Deep.Slices
import Derived.Deep.MidRow
import Derived.Below
import Derived.Laws.CopyOwn
set_option linter.unusedVariables false
set_option linter.unusedSimpArgs false
set_option linter.unusedVariables false
set_option linter.unusedSimpArgs false
set_option maxRecDepth 100000
set_option maxHeartbeats 4000000
set_option cbv.maxSteps 3000000
namespace Go.Proofs.Ytpilblmncpeelaa.AM
/- Long codes; conditions: none. -/
def enc_vBig (H : Hold) (y : Unit → Bool) : AV := .lit (.bool (H Bool fun _ => ((y ()))))
theorem x_vBig (c : Cd) : ∃ y : Bool, Con Try.prog 5 [codeAV c] [] (enc_vBig stdH fun _ => y) [] ∧ Bl 0 (enc_vBig stdH fun _ => y) ∧ (fun _ => True) y := by
  have hB : Base Try.prog (tabΓ []) tab := base_of tabOk (ents_nil)
  refine df_ok (N := 6) hB (draw_ok hB mixed) Try.func5 rfl rfl _ _ _ 50 (by simp) ?_
  intro H hH
  conv in finish _ _ _ _ _ _ _ _ => cbv
  subst hH
  simp only [Fin.sat0, Fin.sat1, stdH, Option.some.injEq, AV.lit.injEq, AV.agg.injEq, AV.tup.injEq, List.cons.injEq, Value.bool.injEq, Value.int.injEq, AllP, and_true, true_and, eq_self, decide_eq_true_eq, decide_eq_false_iff_not, Bool.not_eq_true', Bool.not_eq_false', peta, ncast]
  exact ⟨_, .refl, .lit⟩
noncomputable def F_vBig (c : Cd) : Bool := dfw Try.prog 5 enc_vBig (fun _ => True) c
noncomputable def e_vBig (c : Cd) : Entry := codeE 5 c fun H => enc_vBig H fun _ => F_vBig c
theorem eok_vBig (c : Cd) : EntryOk Try.prog (e_vBig c) := codeE_ok (by unfold isBody; kernel_rfl) (dfw_spec (x_vBig c)).1
end Go.Proofs.Ytpilblmncpeelaa.AM

set_option linter.unusedVariables false
set_option linter.unusedSimpArgs false
set_option maxRecDepth 100000
set_option maxHeartbeats 4000000
set_option cbv.maxSteps 3000000
namespace Go.Proofs.Ytpilblmncpeelaa.AM
/- The law FnFilling; conditions: none. -/
theorem hFi {H : Hold} (hH : H = stdH) (L : List Int) (s m : Int) : okFi L (H Int fun _ => s) (H Int fun _ => m) = okFi L s m := by subst hH; rfl
theorem hFp {H : Hold} (hH : H = stdH) (L : List Int) (s m : Int) : fillP L (H Int fun _ => s) (H Int fun _ => m) = fillP L s m := by subst hH; rfl
theorem fit_all {L : List Int} {s m : Int} (h : okFi L s m = true) (i : Nat) (hi : i < (fillP L s m).length) : okRg L = true ∧ ((fillP L s m).getD i default).s = s ∧ okBx ((fillP L s m).getD i default) = true ∧ allC ((fillP L s m).getD i default).x ((fillP L s m).getD i default).y ((fillP L s m).getD i default).s (hasZ L) = true := by
  have hr : okRg L = true := by
    unfold okFi at h
    simp only [Bool.and_eq_true] at h
    exact h.1
  rw [List.getD_eq_getElem?_getD, List.getElem?_eq_getElem hi]
  exact ⟨hr, fill_fit h (List.getElem_mem hi)⟩
theorem lgS_len (L : List Int) (n : Int) : (if okLg L n = true then (lgS L n 8).getD [] else []).length ≤ 6 := by
  split
  · rename_i ok
    unfold okLg at ok
    rw [Bool.and_eq_true, inB_iff] at ok
    have key : ∀ k : Nat, (((lgS L n k).getD []).length : Int) ≤ 6 := fun k => by
      induction k with
      | zero =>
        show ((0 : Nat) : Int) ≤ 6
        decide
      | succ k ih =>
        unfold lgS
        split
        · rename_i e
          have : (((fillP L ((k + 1 : Nat) : Int) n).length : Nat) : Int) = n := by first | exact e | simpa using e
          show ((fillP L ((k + 1 : Nat) : Int) n).length : Int) ≤ 6
          omega
        · exact ih
    have := key 8
    omega
  · exact Nat.zero_le _
theorem law_Filling (c : Cd) : Con Try.prog 3 [codeAV c] [] (.lit (.bool true)) [] := by
  have hB : Base Try.prog (tabΓ [e_vBig c, e_DrawFill c, e_FillRg, e_FillRgS, e_vBoxes, e_fitsR, e_vldBx, e_DrawLargest c, e_LargeBx, e_LargeBxS]) tab := base_of tabOk (ents_cons (eok_vBig c) <| ents_cons (eok_DrawFill c) <| ents_cons eok_FillRg <| ents_cons eok_FillRgS <| ents_cons eok_vBoxes <| ents_cons eok_fitsR <| ents_cons eok_vldBx <| ents_cons (eok_DrawLargest c) <| ents_cons eok_LargeBx <| ents_cons eok_LargeBxS <| ents_nil)
  refine ConN.con (n := 0) (con_m (N := 124) hB (draw_ok hB mixed) Try.func3 rfl rfl (fun _ => [codeAV c]) (fun _ => []) 0 (fun H => .lit (.bool (H Bool fun _ => true))) (fun _ => []) (fun _ => []) 600 (by simp) (codeAV_bl c) (by simp [lk]) (by omega) (by simp) ?_)
  intro X hX hX0 H hH
  conv in Fin.chk _ _ => cbv
  try simp only [Plain_rowsA, Plain_rowsB, Plain_rowsF, Plain_rowsG, Plain_rowsI, Plain_rowsQ, Plain_rowsS, Plain_rowsU, Fin.satC_ret, Fin.satC_br, Fin.satC_need, Fin.satC_again, AllP, and_true, true_and, upd, List.length_nil, List.length_cons, Nat.zero_add, if_true, ncast, Int.ofNat_eq_natCast]
  have k1 := p_DrawFill c
  generalize F_DrawFill c = y1 at *
  obtain ⟨⟨L⟩, s, m⟩ := y1
  simp only at k1
  have k2 := p_DrawLargest c
  simp only [TlI_HR hH, hFi hH, hFp hH]
  have le : (if okFi L s m = true then fillP L s m else []).length ≤ 100 := by
    split
    · rename_i ok
      have q := ok
      unfold okFi at q
      simp only [Bool.and_eq_true, inB_iff] at q
      have := fill_le (L := L) (s := s) (most := m) (by omega)
      omega
    · exact Nat.zero_le _
  (repeat' (with_reducible first | refine And.intro ?_ ?_ | intro hh))
  all_goals try (rw [hH]; with_reducible exact trivial)
  all_goals try (clear hX hX0 hB X; subst hH; simp only [stdH, Tl_I, Tl_Q] at *; first | exact Shp_I _ _ | exact Shp_Q _ _ | exact k1.1 | exact rfl | exact fun _ => Shp_Q _ _ | omega | (intro _; omega))
  · rw [hH]
  · exfalso
    simp only [hH, stdH] at hh
    revert hh
    cases okFi L s m <;> decide
  · simp only [hH, stdH] at hh ⊢
    rw [Bool.not_eq_true'] at hh
    rw [if_neg (by rw [hh]; decide)]
    rfl
  rename_i h1 h2
  simp only [hH, stdH] at h1 h2 hh
  rw [Bool.not_eq_false'] at hh
  simp only [hh, if_true]
  have ln : (fillP L s m).length ≤ 100 := by rw [if_pos hh] at le; exact le
  refine loop_c hB (draw_ok hB mixed) hX hX0 hH [0, 2, 3, 4, 5, 6, 10] (ι := { i : Nat // i ≤ (fillP L s m).length }) 600 (fun i => [.i (H Int fun _ => (i.1 : Nat))]) (fun i => (fillP L s m).length - i.1) (⟨0, by omega⟩) ?_ ?_
  · (conv in matchSt _ _ _ _ => cbv); simp only [AllG, AllP, and_true, hH, stdH, Nat.le_refl, ncast, Int.ofNat_eq_natCast, vrow_I, Arm.eta2, Fld.eta, Grp.eta]
    (repeat' (with_reducible refine And.intro ?_ ?_)) <;> (first | exact True.intro | exact Eq.refl _ | exact RowsEq.self okRQ | exact RowsEq.self okI | exact c.rqN | skip)
  · intro I hI i
    conv in Fin.chk _ _ => cbv
    try simp only [Plain_rowsA, Plain_rowsB, Plain_rowsF, Plain_rowsG, Plain_rowsI, Plain_rowsQ, Plain_rowsS, Plain_rowsU, Fin.satC_ret, Fin.satC_br, Fin.satC_need, Fin.satC_again, AllP, and_true, true_and, upd, List.length_nil, List.length_cons, Nat.zero_add, if_true, ncast, Int.ofNat_eq_natCast]
    obtain ⟨i, hi⟩ := i
    simp only at hi ⊢
    have f1 : i < (fillP L s m).length → okRg L = true ∧ ((fillP L s m).getD i default).s = s ∧ okBx ((fillP L s m).getD i default) = true ∧ allC ((fillP L s m).getD i default).x ((fillP L s m).getD i default).y ((fillP L s m).getD i default).s (hasZ L) = true := fit_all hh i
    have eb : ∀ b : Box, (⟨b.x, b.y, b.s⟩ : Box) = b := fun _ => rfl
    generalize F_DrawLargest c = y2 at *
    obtain ⟨⟨M⟩, n⟩ := y2
    simp only at k2
    simp only [TlI_HR hH]
    have lm := lgS_len M n
    (repeat' (with_reducible first | refine And.intro ?_ ?_ | intro hk))
    all_goals try (rw [hH]; with_reducible exact trivial)
    all_goals try (clear hX hX0 hB hI I X; subst hH; simp only [stdH, Tl_I, Tl_Q, Int.toNat_natCast, decide_eq_true_eq] at *; first | exact Shp_I _ _ | exact Shp_Q _ _ | exact k1.1 | exact k2.1 | exact fun _ => Shp_Q _ _ | omega | (intro _; omega) | exact ⟨Shp_I _ _, k1.1⟩)
    · exfalso
      rename_i k3
      simp only [hH, stdH, decide_eq_true_eq, Int.toNat_natCast, Tl_I, eb] at k3 hk
      obtain ⟨q1, q2, q3, q4⟩ := f1 (by omega)
      clear f1
      generalize (fillP L s m).getD i default = b at *
      rw [q2] at q4
      simp [q1, q2, q3, q4] at hk
    · rename_i k3
      simp only [hH, stdH, decide_eq_true_eq] at k3
      refine ⟨⟨i + 1, by omega⟩, by simp only; omega, ?_⟩
      rw [hI]
      (conv in matchSt _ _ _ _ => cbv); simp only [AllG, AllP, and_true, hH, stdH, Nat.le_refl, ncast, Int.ofNat_eq_natCast, vrow_I, Arm.eta2, Fld.eta, Grp.eta]
      rw [w1 (by omega)]
      (repeat' (with_reducible refine And.intro ?_ ?_)) <;> (first | exact True.intro | exact Eq.refl _ | exact RowsEq.self okRQ | exact RowsEq.self okI | exact c.rqN | skip)
    · have q := hh
      unfold okFi at q
      simp only [Bool.and_eq_true, inB_iff] at q
      have := fill_le (L := L) (s := s) (most := m) (by omega)
      simp only [hH, stdH, decide_eq_true this]
      simp

end Go.Proofs.Ytpilblmncpeelaa.AM

namespace Go.Proofs.Ytpilblmncpeelaa
set_option maxRecDepth 100000
open Go.ChangeShapes Go.WideShapes Go.ChangeAt Go.RowKit
set_option linter.unusedVariables false
set_option linter.unusedSimpArgs false
open Go.Deep Go.ChangeShapes Go.WideShapes Go.ChangeAt Go.RowKit

/-- The reading of a type's cells, one leaf after the other. -/
def LeafAll (R : TypeId → Value → Prop) : List TypeId → List Value → Prop
  | [], [] => True
  | t :: ts, v :: vs => R t v ∧ LeafAll R ts vs
  | _, _ => False
theorem LeafAll.append {R : TypeId → Value → Prop} : ∀ {a : List TypeId} {c : List Value} {b : List TypeId} {d : List Value}, LeafAll R a c → LeafAll R b d → LeafAll R (a ++ b) (c ++ d)
  | [], [], _, _, _, h => h
  | _ :: _, _ :: _, _, _, h, k => ⟨h.1, LeafAll.append h.2 k⟩
section
variable {H : Type} {enc : TypeId × Value → H} {P : Program} {w : World} {base : Nat} {spare : Nat → Bool} {held : Bool}
end

/-- A slice that reads as a list: 'enc' gives an element's cells, of which there are k. -/
structure Rd {α : Type} (w : World) (k : Nat) (enc : α → List Value) (A : Option Addr) (cap : Nat) (l : List α) : Prop where
  le : l.length ≤ cap
  max : cap ≤ maxLen
  cells : l ≠ [] → ∃ b o, A = some ⟨b, o, none⟩ ∧ ∀ i a, l[i]? = some a → w.rangeAt b (o + i * k) (enc a)
theorem Rd.nil_ {α : Type} (w : World) (k : Nat) (enc : α → List Value) : Rd w k enc none 0 [] := ⟨by simp, by simp [maxLen], fun h => absurd rfl h⟩

section
variable {H : Type} {enc : TypeId × Value → H} {P : Program} {w : World} {base : Nat} {spare : Nat → Bool} {held : Bool}
/-- A slice of elements whose cells are read by 'R'. -/
theorem open_rd {α : Type} [Inhabited α] {t e : TypeId} {fuel : Nat} {v : Value} {x : DataW H × List MemPlace} {k : Nat} {en : α → List Value} {good : α → Prop} (ht : P.underlying t = some (.slice e)) (hk : P.cellsOf e = k) (hpos : 0 < k) (hlen : ∀ a, (en a).length = k)
    (hel : ∀ m cs y, DataW.trod enc P w base spare held m e cs = some y → ∃ a, cs = en a ∧ good a) (h : DataW.trod enc P w base spare held fuel t v.cells.toList = some x) (hv : ∃ a len cap, v = .slice a len cap) :
    ∃ (A : Option Addr) (cap : Nat) (l : List α), v = .slice A l.length cap ∧ Rd w k en A cap l ∧ ∀ a ∈ l, good a := by
  obtain ⟨A, len, cap, rfl⟩ := hv
  rcases open_slice ht h with ⟨hc, _⟩ | ⟨a, len', cap', m, n, D, Pl, hc, hb, hl, hm, hmm, _, hi⟩
  · simp [Value.cells] at hc
    obtain ⟨rfl, rfl, rfl⟩ := hc
    exact ⟨none, 0, [], rfl, Rd.nil_ _ _ _, by simp⟩
  · simp [Value.cells] at hc
    obtain ⟨rfl, rfl, rfl⟩ := hc
    have hle : len ≤ m := by rw [hmm]; split <;> omega
    rw [hk] at hi
    have h1 : ∀ i, i < len → ∃ x : α, (w.cells? base (a.add (i * k)) k = some (en x)) ∧ good x := by
      intro i hil
      obtain ⟨cs', h1, h2⟩ := hi i (by omega)
      obtain ⟨x, rfl, hg⟩ := hel _ _ _ h2
      exact ⟨x, h1, hg⟩
    obtain ⟨f, hf⟩ := choose_lt h1
    refine ⟨some a, cap, (List.range len).map f, by simp, ⟨by simpa using hl, hm, fun hne => ?_⟩, ?_⟩
    · have hpos' : 0 < len := by
        rcases Nat.eq_zero_or_pos len with h0 | h0
        · subst h0; simp at hne
        · exact h0
      obtain ⟨b, o, sp⟩ := a
      have hsp : sp = none := by
        obtain ⟨h0, _⟩ := hf 0 hpos'
        obtain ⟨_, hcl, hat⟩ := World.cells?_some h0
        have h00 := hat 0 (by omega)
        rw [List.getElem?_eq_getElem (by rw [hlen]; omega)] at h00
        simpa [Addr.add] using World.cell?_spot h00
      subst hsp
      refine ⟨b, o, rfl, fun i x hx => ?_⟩
      have hil : i < len := by
        have := (List.getElem?_eq_some_iff.1 hx).1
        simpa using this
      have hxe : x = f i := by simp [hil] at hx; exact hx.symm
      subst hxe
      obtain ⟨h0, _⟩ := hf i hil
      obtain ⟨_, hcl, hat⟩ := World.cells?_some h0
      intro j u hu
      have hj : j < k := by rw [← hlen (f i)]; exact (List.getElem?_eq_some_iff.1 hu).1
      have := hat j hj
      rw [Addr.add_mid, Addr.add_mid] at this
      rw [this]; exact hu
    · intro x hx
      obtain ⟨i, hi', rfl⟩ := List.mem_map.1 hx
      exact (hf i (by simpa using hi')).2
end

end Go.Proofs.Ytpilblmncpeelaa

namespace Go.Proofs.Ytpilblmncpeelaa
set_option maxRecDepth 100000
open Go.ChangeShapes Go.WideShapes Go.ChangeAt Go.RowKit
set_option linter.unusedVariables false
set_option linter.unusedSimpArgs false
open Go.RowKit

/-- Nothing that was there has turned. -/
def Up (w w' : World) : Prop := Below w.heap.size w w'
theorem Up.refl (w : World) : Up w w := Below.refl _ _
theorem Up.size {w w' : World} (h : Up w w') : w.heap.size ≤ w'.heap.size := Below.size h
theorem Up.trans {a b c : World} (h : Up a b) (k : Up b c) : Up a c := Below.trans h (Below.mono k h.size)
theorem Up.alloc {a w : World} (h : Up a w) (o : Obj) : Up a (w.alloc o) := Below.alloc h h.size o
theorem Up.drew {a w : World} (h : Up a w) : Up a w.drew := Below.drew h
theorem Up.setCell {a w : World} (h : Up a w) {p : Addr} (hp : a.heap.size ≤ p.block) (u : Value) : Up a (w.setCell p u) := Below.setCell h hp u
theorem Up.store {a w : World} (h : Up a w) {b o : Nat} (hp : a.heap.size ≤ b) (u : Value) : Up a (w.setCell ⟨b, o, none⟩ u) := Up.setCell h hp u
theorem Up.row {a w : World} (h : Up a w) {L : Nat} (hp : a.heap.size ≤ L) (cs : Array Value) : Up a (w.setRow L cs) := below_setRow h hp cs
theorem Up.grown {a w w' : World} {row : Option Nat} (h : Up a w) (hg : w.grownBy w' row) (hr : ∀ k, row = some k → a.heap.size ≤ k) : Up a w' := Below.grown h hg h.size hr
theorem Up.below {w w' : World} (h : Up w w') : Below w.heap.size w w' := h
theorem Up.block {w w' : World} (h : Up w w') {k : Nat} {o : Obj} (hk : w.heap[k]? = some o) : w'.heap[k]? = some o := by
  have hlt : k < w.heap.size := (Array.getElem?_eq_some_iff.1 hk).1
  exact (Below.block h k hlt).trans hk
theorem Up.cell {w w' : World} (h : Up w w') {p : Addr} {v : Value} (hv : w.cell? p = some v) : w'.cell? p = some v :=
  (Below.cell h (World.block_lt_of_cell? w p hv)).trans hv
theorem Up.box {w w' : World} {c : Array Value} {t : TypeId} (h : Up (w.alloc (.cells c t)) w') : ∀ o, w'.cell? ⟨w.heap.size, o, none⟩ = c[o]? := fun o => by
  have h1 : (w.alloc (.cells c t)).heap[w.heap.size]? = some (.cells c t) := heap_alloc_new w _
  have h2 := h.block h1
  exact cell_of_row w' w.heap.size o c t (0, 0) h2
end Go.Proofs.Ytpilblmncpeelaa

namespace Go.Proofs.Ytpilblmncpeelaa

def inB (x a b : Int) : Bool := decide (a ≤ x ∧ x ≤ b)
end Go.Proofs.Ytpilblmncpeelaa

namespace Go.Proofs.Ytpilblmncpeelaa
set_option maxRecDepth 100000
open Go.ChangeShapes Go.WideShapes Go.ChangeAt Go.RowKit
set_option linter.unusedVariables false
set_option linter.unusedSimpArgs false
open Go.Deep

structure Arms where
  (fd fl ff fs o l t c1 k1 a1 t1 c2 k2 a2 t2 : Int)
def Arms.list (A : Arms) : List Int := [A.fd, A.fl, A.ff, A.fs, A.o, A.l, A.t, A.c1, A.k1, A.a1, A.t1, A.c2, A.k2, A.a2, A.t2]
theorem Arms.list_inj {A B : Arms} (h : A.list = B.list) : A = B := by
  cases A; cases B; simp [Arms.list] at h; simp [h]
instance : DecidableEq Arms := fun A B => decidable_of_iff (A.list = B.list) ⟨Arms.list_inj, fun h => by rw [h]⟩
/-- The cells of arms. -/
def Arms.arr (A : Arms) : Array Value := (A.list.map (Value.int .i64)).toArray
@[simp, go_sem] theorem Arms.arr_size (A : Arms) : A.arr.size = 15 := id rfl
@[simp, go_sem] theorem Arms.arr_0 (A : Arms) : A.arr[0]? = some (.int .i64 A.fd) := id rfl
@[simp, go_sem] theorem Arms.arr_1 (A : Arms) : A.arr[1]? = some (.int .i64 A.fl) := id rfl
@[simp, go_sem] theorem Arms.arr_2 (A : Arms) : A.arr[2]? = some (.int .i64 A.ff) := id rfl
@[simp, go_sem] theorem Arms.arr_3 (A : Arms) : A.arr[3]? = some (.int .i64 A.fs) := id rfl
@[simp, go_sem] theorem Arms.arr_4 (A : Arms) : A.arr[4]? = some (.int .i64 A.o) := id rfl
@[simp, go_sem] theorem Arms.arr_5 (A : Arms) : A.arr[5]? = some (.int .i64 A.l) := id rfl
@[simp, go_sem] theorem Arms.arr_6 (A : Arms) : A.arr[6]? = some (.int .i64 A.t) := id rfl
@[simp, go_sem] theorem Arms.arr_7 (A : Arms) : A.arr[7]? = some (.int .i64 A.c1) := id rfl
@[simp, go_sem] theorem Arms.arr_8 (A : Arms) : A.arr[8]? = some (.int .i64 A.k1) := id rfl
@[simp, go_sem] theorem Arms.arr_9 (A : Arms) : A.arr[9]? = some (.int .i64 A.a1) := id rfl
@[simp, go_sem] theorem Arms.arr_10 (A : Arms) : A.arr[10]? = some (.int .i64 A.t1) := id rfl
@[simp, go_sem] theorem Arms.arr_11 (A : Arms) : A.arr[11]? = some (.int .i64 A.c2) := id rfl
@[simp, go_sem] theorem Arms.arr_12 (A : Arms) : A.arr[12]? = some (.int .i64 A.k2) := id rfl
@[simp, go_sem] theorem Arms.arr_13 (A : Arms) : A.arr[13]? = some (.int .i64 A.a2) := id rfl
@[simp, go_sem] theorem Arms.arr_14 (A : Arms) : A.arr[14]? = some (.int .i64 A.t2) := id rfl
@[simp, go_sem] theorem Arms.arr_g0 (A : Arms) (h : 0 < A.arr.size) : A.arr[0] = .int .i64 A.fd := id rfl
@[simp, go_sem] theorem Arms.arr_g1 (A : Arms) (h : 1 < A.arr.size) : A.arr[1] = .int .i64 A.fl := id rfl
@[simp, go_sem] theorem Arms.arr_g2 (A : Arms) (h : 2 < A.arr.size) : A.arr[2] = .int .i64 A.ff := id rfl
@[simp, go_sem] theorem Arms.arr_g3 (A : Arms) (h : 3 < A.arr.size) : A.arr[3] = .int .i64 A.fs := id rfl
@[simp, go_sem] theorem Arms.arr_g4 (A : Arms) (h : 4 < A.arr.size) : A.arr[4] = .int .i64 A.o := id rfl
@[simp, go_sem] theorem Arms.arr_g5 (A : Arms) (h : 5 < A.arr.size) : A.arr[5] = .int .i64 A.l := id rfl
@[simp, go_sem] theorem Arms.arr_g6 (A : Arms) (h : 6 < A.arr.size) : A.arr[6] = .int .i64 A.t := id rfl
@[simp, go_sem] theorem Arms.arr_g7 (A : Arms) (h : 7 < A.arr.size) : A.arr[7] = .int .i64 A.c1 := id rfl
@[simp, go_sem] theorem Arms.arr_g8 (A : Arms) (h : 8 < A.arr.size) : A.arr[8] = .int .i64 A.k1 := id rfl
@[simp, go_sem] theorem Arms.arr_g9 (A : Arms) (h : 9 < A.arr.size) : A.arr[9] = .int .i64 A.a1 := id rfl
@[simp, go_sem] theorem Arms.arr_g10 (A : Arms) (h : 10 < A.arr.size) : A.arr[10] = .int .i64 A.t1 := id rfl
@[simp, go_sem] theorem Arms.arr_g11 (A : Arms) (h : 11 < A.arr.size) : A.arr[11] = .int .i64 A.c2 := id rfl
@[simp, go_sem] theorem Arms.arr_g12 (A : Arms) (h : 12 < A.arr.size) : A.arr[12] = .int .i64 A.k2 := id rfl
@[simp, go_sem] theorem Arms.arr_g13 (A : Arms) (h : 13 < A.arr.size) : A.arr[13] = .int .i64 A.a2 := id rfl
@[simp, go_sem] theorem Arms.arr_g14 (A : Arms) (h : 14 < A.arr.size) : A.arr[14] = .int .i64 A.t2 := id rfl
def Arms.cells (A : Arms) : List Value := A.arr.toList
instance : Inhabited Arms := ⟨⟨0, 0, 0, 0, 0, 0, 0, 0, 0, 0, 0, 0, 0, 0, 0⟩⟩
theorem Arms.one (A : Arms) : A.arr.all (·.oneCell') = true := by simp [Arms.arr, Arms.list, Value.oneCell']

def encU8 (x : Int) : List Value := [.int .u8 x]
def isU8 (x : Int) : Prop := 0 ≤ x ∧ x ≤ 255
section
variable {H : Type} {enc : TypeId × Value → H} {P : Program} {w : World} {base : Nat} {spare : Nat → Bool} {held : Bool}
theorem rd_u8 {e : TypeId} (he : P.underlying e = some (.int .u8)) : ∀ m cs y, DataW.trod enc P w base spare held m e cs = some y → ∃ a : Int, cs = encU8 a ∧ isU8 a := by
  intro m cs y h
  obtain ⟨n, hc, _, hw⟩ := DataW.trod_int he h
  exact ⟨n, hc, bounds_u8 hw⟩
end

def goodF (d l f s : Int) : Bool := inB d 0 7 && inB l 0 4 && inB f 1 9 && (if d = 0 then decide (l = 0 ∧ s = 0) else inB s 1 9 && decide (s ≠ f))
end Go.Proofs.Ytpilblmncpeelaa

set_option linter.unusedVariables false
set_option linter.unusedSimpArgs false
set_option maxRecDepth 100000
set_option maxHeartbeats 4000000
set_option cbv.maxSteps 3000000
namespace Go.Proofs.Ytpilblmncpeelaa.AM
/- From a law's contract to the walk that lift.py asks for; conditions: none. -/
theorem lowOk : Try.prog.globals.size < Try.prog.low := by decide +kernel
theorem law_of {f : FuncId} (h : ∀ c : Cd, Con Try.prog f [codeAV c] [] (.lit (.bool true)) []) (w : World) (A : Option Addr) (cap : Nat) (l : List Int) (hr : Rd w 1 encU8 A cap l) (hg : ∀ x ∈ l, isU8 x) (hsh : w.ShapedOpen Try.prog) (hld : Laid w := by exact ⟨fun x hx => (by cases hx), fun n hn => (by cases hn)⟩) : Calls Try.prog f #[.slice A l.length cap] w (fun e w' => e = .returned (.bool true) ∧ Up w w') := by
  let c : Cd := ⟨l.length, fun j => (l[j]?).getD 0, fun j => by
    cases hj : l[j]? with
    | none => simp
    | some x => have := hg x (List.mem_of_getElem? hj); unfold isU8 at this; simpa using this⟩
  let C : Cx := ⟨id, fun _ => False, fun _ => False, w⟩
  have hrel : Rel C (codeAV c) (.slice A l.length cap) := by
    refine .vec (fun j _ => .int .u8 ((l[j]?).getD 0)) hr.le hr.max (fun _ _ => rfl) (fun h0 => ?_) (fun _ _ _ _ => rfl) (fun j q x hj hx => ?_)
    · obtain ⟨b, o, hA, hc⟩ := hr.cells (by intro e; subst e; exact absurd h0 (Nat.lt_irrefl 0))
      have cell : ∀ j q, j < l.length → q < 1 → w.cell? ⟨b, o + j * 1 + q, none⟩ = some (.int .u8 ((l[j]?).getD 0)) := fun j q hj hq => by
        have hq0 : q = 0 := by omega
        subst hq0
        have h1 := hc j l[j] (List.getElem?_eq_getElem hj) 0 (.int .u8 l[j]) rfl
        rw [List.getElem?_eq_getElem hj]; exact h1
      refine ⟨b, o, hA, fun h => h, ?_, cell⟩
      exact World.block_lt_of_cell? w _ (cell 0 0 h0 (by omega))
    · cases q with
      | zero => simp [c, Cd.rows] at hx; subst hx; exact .lit rfl
      | succ q => simp [c, Cd.rows] at hx
  refine (h c C [.slice A l.length cap] (.cons hrel (.nil C)) (by simp [lk]) (by simp [lk]) (glo0 lowOk hsh hld)).mono fun e w' ⟨cv, he, C', ha⟩ => ?_
  have hv := ha.val _ rfl
  cases hv
  refine ⟨he, Up.grown (Up.refl w) (row := none) ⟨?_, ?_, ?_, ?_, fun k hk _ => ?_⟩ (by simp)⟩
  · have := ha.ext.wx.os; rw [ha.w] at this; exact this
  · have := ha.ext.wx.tape; rw [ha.w] at this; exact this
  · have := ha.ext.wx.output; rw [ha.w] at this; exact this
  · have := ha.ext.wx.size; rw [ha.w] at this; exact this
  · have := ha.ext.wx.same k hk (by simp); rw [ha.w] at this; exact this

end Go.Proofs.Ytpilblmncpeelaa.AM

namespace Go.Proofs.Ytpilblmncpeelaa
open Go AM
theorem w_Filling (w : World) (A : Option Addr) (cap : Nat) (l : List Int) (hr : Rd w 1 encU8 A cap l) (hg : ∀ x ∈ l, isU8 x) (hsh : w.ShapedOpen Try.prog) : Calls Try.prog 3 #[.slice A l.length cap] w (fun e w' => e = .returned (.bool true) ∧ Up w w') := law_of law_Filling w A cap l hr hg hsh
end Go.Proofs.Ytpilblmncpeelaa

