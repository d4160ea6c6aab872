/- Lemmas and contracts (Open Up M1 Data Brg Brx LFillGrid); conditions: none. -/
import Derived.Test.YtigkdbhcjjjjkaaK04
import Derived.Test.YtigkdbhcjjjjkaaK05
import Derived.Test.YtigkdbhcjjjjkaaK08
import Derived.Test.YtigkdbhcjjjjkaaK20
import Derived.OpenShut
import Derived.WalkKit
import Derived.ProofKit
import Derived.WalkLawsBesides
import Derived.Lib.Hide
import Derived.Deep.QuietTactic
import Derived.BigQuiet
import Derived.Deep.Light
import Derived.Handy
import Derived.ChangeOld
import Derived.ShutString
import Derived.Deep.Slices
import Derived.Deep.MidRow
import Derived.Below
import Derived.Laws.CopyOwn
set_option linter.unusedVariables false
set_option linter.unusedSimpArgs false
namespace Go.Proofs.Ytigkdbhcjjjjkaa
set_option maxRecDepth 100000
open Go.ChangeShapes Go.WideShapes Go.ChangeAt Go.RowKit
set_option linter.unusedVariables false
set_option linter.unusedSimpArgs false
open Go.Deep Go.ChangeShapes Go.WideShapes Go.ChangeAt Go.RowKit

/-- The reading of a type's cells, one leaf after the other. -/
def LeafAll (R : TypeId → Value → Prop) : List TypeId → List Value → Prop
  | [], [] => True
  | t :: ts, v :: vs => R t v ∧ LeafAll R ts vs
  | _, _ => False
theorem LeafAll.append {R : TypeId → Value → Prop} : ∀ {a : List TypeId} {c : List Value} {b : List TypeId} {d : List Value}, LeafAll R a c → LeafAll R b d → LeafAll R (a ++ b) (c ++ d)
  | [], [], _, _, _, h => h
  | _ :: _, _ :: _, _, _, h, k => ⟨h.1, LeafAll.append h.2 k⟩
def leaves (P : Program) : Nat → TypeId → List TypeId
  | 0, t => [t]
  | n + 1, t => match P.underlying t with
    | some (.struct fs) => fs.toList.flatMap fun f => leaves P n f.type
    | _ => [t]
def contig (P : Program) (tot : Nat) : Nat → List Field → Bool
  | off, [] => off == tot
  | off, f :: r => f.offset == off && contig P tot (off + P.cellsOf f.type) r
def leafOk (P : Program) : Nat → TypeId → Bool
  | 0, t => match P.underlying t with
    | some (.int _) => true | some .bool => true | some .string => true | some (.slice _) => true | _ => false
  | n + 1, t => match P.underlying t with
    | some (.struct fs) => contig P (P.cellsOf t) 0 fs.toList && fs.toList.all fun f => leafOk P n f.type
    | some (.int _) => true | some .bool => true | some .string => true | some (.slice _) => true | _ => false
section
variable {H : Type} {enc : TypeId × Value → H} {P : Program} {w : World} {base : Nat} {spare : Nat → Bool} {held : Bool}
def LeafRd (enc : TypeId × Value → H) (P : Program) (w : World) (base : Nat) (spare : Nat → Bool) (held : Bool) (u : TypeId) (v : Value) : Prop := ∃ m y, DataW.trod enc P w base spare held m u [v] = some y
theorem leaf_one {t : TypeId} {fuel : Nat} {cs : List Value} {x : DataW H × List MemPlace} (h : leafOk P 0 t = true) (hx : DataW.trod enc P w base spare held fuel t cs = some x) : LeafAll (LeafRd enc P w base spare held) [t] cs := by
  have key : ∃ v, cs = [v] := by
    unfold leafOk at h
    split at h
    · rename_i k hk; obtain ⟨n, hc, _⟩ := DataW.trod_int hk hx; exact ⟨_, hc⟩
    · rename_i hk; obtain ⟨n, hc, _⟩ := DataW.trod_bool hk hx; exact ⟨_, hc⟩
    · rename_i hk; obtain ⟨n, hc, _⟩ := DataW.trod_string hk hx; exact ⟨_, hc⟩
    · rename_i e hk
      rcases open_slice hk hx with ⟨hc, _⟩ | ⟨a, len, cap, m, n, D, Pl, hc, _⟩
      · exact ⟨_, hc⟩
      · exact ⟨_, hc⟩
    · cases h
  obtain ⟨v, rfl⟩ := key
  exact ⟨⟨_, _, hx⟩, trivial⟩
theorem leaf_open : ∀ (n : Nat) (t : TypeId) (fuel : Nat) (cs : List Value) (x : DataW H × List MemPlace), leafOk P n t = true → DataW.trod enc P w base spare held fuel t cs = some x → LeafAll (LeafRd enc P w base spare held) (leaves P n t) cs := by
  intro n
  induction n with
  | zero => intro t fuel cs x h hx; exact leaf_one h hx
  | succ n ih =>
    intro t fuel cs x h hx
    have hstruct : ∀ fs, P.underlying t = some (.struct fs) → LeafAll (LeafRd enc P w base spare held) (leaves P (n + 1) t) cs := by
      intro fs ht
      have h' := h
      unfold leafOk at h'
      rw [ht] at h'
      simp only [Bool.and_eq_true, List.all_eq_true] at h'
      obtain ⟨hcon, hall⟩ := h'
      obtain ⟨xs, m, _, _, hlen, hxl, hf⟩ := DataW.trod_struct ht hx
      have hrd : ∀ f ∈ fs.toList, ∃ y, DataW.trod enc P w base spare held m f.type ((cs.drop f.offset).take (P.cellsOf f.type)) = some y := by
        intro f hm
        obtain ⟨i, hi, he⟩ := List.mem_iff_getElem.1 hm
        have hi' : i < fs.size := by simpa using hi
        have := hf i f (by rw [← he]; simp)
        rw [this]
        exact ⟨_, List.getElem?_eq_getElem (by omega)⟩
      have go : ∀ (l : List Field) (off : Nat), contig P (P.cellsOf t) off l = true → (∀ f ∈ l, ∃ y, DataW.trod enc P w base spare held m f.type ((cs.drop f.offset).take (P.cellsOf f.type)) = some y) → (∀ f ∈ l, leafOk P n f.type = true) →
          LeafAll (LeafRd enc P w base spare held) (l.flatMap fun f => leaves P n f.type) (cs.drop off) := by
        intro l
        induction l with
        | nil =>
          intro off hc _ _
          simp only [contig, beq_iff_eq] at hc
          rw [List.drop_of_length_le (by omega)]
          trivial
        | cons f r ihl =>
          intro off hc hr ho
          simp only [contig, Bool.and_eq_true, beq_iff_eq] at hc
          obtain ⟨hc1, hc2⟩ := hc
          obtain ⟨y, hy⟩ := hr f (by simp)
          rw [hc1] at hy
          have a1 := ih f.type m _ y (ho f (by simp)) hy
          have a2 := ihl (off + P.cellsOf f.type) hc2 (fun g hg => hr g (by simp [hg])) (fun g hg => ho g (by simp [hg]))
          have := a1.append a2
          rw [← List.drop_drop, List.take_append_drop] at this
          simpa using this
      have := go fs.toList 0 hcon hrd hall
      simp only [leaves, ht]
      simpa using this
    cases hu : P.underlying t with
    | none => unfold leafOk at h; rw [hu] at h; cases h
    | some d =>
      cases d with
      | struct fs => exact hstruct fs hu
      | int k => have e : leaves P (n + 1) t = [t] := by simp [leaves, hu]
                 rw [e]; exact leaf_one (by simp [leafOk, hu]) hx
      | bool => have e : leaves P (n + 1) t = [t] := by simp [leaves, hu]
                rw [e]; exact leaf_one (by simp [leafOk, hu]) hx
      | string => have e : leaves P (n + 1) t = [t] := by simp [leaves, hu]
                  rw [e]; exact leaf_one (by simp [leafOk, hu]) hx
      | slice s => have e : leaves P (n + 1) t = [t] := by simp [leaves, hu]
                   rw [e]; exact leaf_one (by simp [leafOk, hu]) hx
      | _ => unfold leafOk at h; rw [hu] at h; cases h
end

/-- A number fits an int. -/
def I64 (x : Int) : Prop := -9223372036854775808 ≤ x ∧ x ≤ 9223372036854775807
theorem I64.of_wf {x : Int} (h : (Lit.int .i64 x).wf = true) : I64 x := bounds_i64 h
/-- A slice that reads as a list: 'enc' gives an element's cells, of which there are k. -/
structure Rd {α : Type} (w : World) (k : Nat) (enc : α → List Value) (A : Option Addr) (cap : Nat) (l : List α) : Prop where
  le : l.length ≤ cap
  max : cap ≤ maxLen
  cells : l ≠ [] → ∃ b o, A = some ⟨b, o, none⟩ ∧ ∀ i a, l[i]? = some a → w.rangeAt b (o + i * k) (enc a)
theorem Rd.nil_ {α : Type} (w : World) (k : Nat) (enc : α → List Value) : Rd w k enc none 0 [] := ⟨by simp, by simp [maxLen], fun h => absurd rfl h⟩

section
variable {H : Type} {enc : TypeId × Value → H} {P : Program} {w : World} {base : Nat} {spare : Nat → Bool} {held : Bool}
theorem leaf_ints {T : TypeId} (hT : P.underlying T = some (.int .i64)) : ∀ {k : Nat} {cs : List Value}, LeafAll (LeafRd enc P w base spare held) (List.replicate k T) cs → ∃ xs : List Int, cs = xs.map (Value.int .i64) ∧ xs.length = k ∧ ∀ x ∈ xs, I64 x
  | 0, [], _ => ⟨[], rfl, rfl, by simp⟩
  | 0, _ :: _, h => absurd h (by simp [LeafAll])
  | k + 1, [], h => absurd h (by simp [LeafAll, List.replicate_succ])
  | k + 1, c :: cs, h => by
    rw [List.replicate_succ] at h
    obtain ⟨⟨m, y, hy⟩, h2⟩ := h
    obtain ⟨n, hn, _, hw⟩ := DataW.trod_int hT hy
    obtain ⟨xs, hx, hl, hall⟩ := leaf_ints hT h2
    obtain rfl : c = .int .i64 n := by simpa using hn
    exact ⟨n :: xs, by simp [hx], by simp [hl], by simpa using ⟨I64.of_wf hw, hall⟩⟩
/-- A slice of elements whose cells are read by 'R'. -/
theorem open_rd {α : Type} [Inhabited α] {t e : TypeId} {fuel : Nat} {v : Value} {x : DataW H × List MemPlace} {k : Nat} {en : α → List Value} {good : α → Prop} (ht : P.underlying t = some (.slice e)) (hk : P.cellsOf e = k) (hpos : 0 < k) (hlen : ∀ a, (en a).length = k)
    (hel : ∀ m cs y, DataW.trod enc P w base spare held m e cs = some y → ∃ a, cs = en a ∧ good a) (h : DataW.trod enc P w base spare held fuel t v.cells.toList = some x) (hv : ∃ a len cap, v = .slice a len cap) :
    ∃ (A : Option Addr) (cap : Nat) (l : List α), v = .slice A l.length cap ∧ Rd w k en A cap l ∧ ∀ a ∈ l, good a := by
  obtain ⟨A, len, cap, rfl⟩ := hv
  rcases open_slice ht h with ⟨hc, _⟩ | ⟨a, len', cap', m, n, D, Pl, hc, hb, hl, hm, hmm, _, hi⟩
  · simp [Value.cells] at hc
    obtain ⟨rfl, rfl, rfl⟩ := hc
    exact ⟨none, 0, [], rfl, Rd.nil_ _ _ _, by simp⟩
  · simp [Value.cells] at hc
    obtain ⟨rfl, rfl, rfl⟩ := hc
    have hle : len ≤ m := by rw [hmm]; split <;> omega
    rw [hk] at hi
    have h1 : ∀ i, i < len → ∃ x : α, (w.cells? base (a.add (i * k)) k = some (en x)) ∧ good x := by
      intro i hil
      obtain ⟨cs', h1, h2⟩ := hi i (by omega)
      obtain ⟨x, rfl, hg⟩ := hel _ _ _ h2
      exact ⟨x, h1, hg⟩
    obtain ⟨f, hf⟩ := choose_lt h1
    refine ⟨some a, cap, (List.range len).map f, by simp, ⟨by simpa using hl, hm, fun hne => ?_⟩, ?_⟩
    · have hpos' : 0 < len := by
        rcases Nat.eq_zero_or_pos len with h0 | h0
        · subst h0; simp at hne
        · exact h0
      obtain ⟨b, o, sp⟩ := a
      have hsp : sp = none := by
        obtain ⟨h0, _⟩ := hf 0 hpos'
        obtain ⟨_, hcl, hat⟩ := World.cells?_some h0
        have h00 := hat 0 (by omega)
        rw [List.getElem?_eq_getElem (by rw [hlen]; omega)] at h00
        simpa [Addr.add] using World.cell?_spot h00
      subst hsp
      refine ⟨b, o, rfl, fun i x hx => ?_⟩
      have hil : i < len := by
        have := (List.getElem?_eq_some_iff.1 hx).1
        simpa using this
      have hxe : x = f i := by simp [hil] at hx; exact hx.symm
      subst hxe
      obtain ⟨h0, _⟩ := hf i hil
      obtain ⟨_, hcl, hat⟩ := World.cells?_some h0
      intro j u hu
      have hj : j < k := by rw [← hlen (f i)]; exact (List.getElem?_eq_some_iff.1 hu).1
      have := hat j hj
      rw [Addr.add_mid, Addr.add_mid] at this
      rw [this]; exact hu
    · intro x hx
      obtain ⟨i, hi', rfl⟩ := List.mem_map.1 hx
      exact (hf i (by simpa using hi')).2
end

end Go.Proofs.Ytigkdbhcjjjjkaa

namespace Go.Proofs.Ytigkdbhcjjjjkaa
set_option maxRecDepth 100000
open Go.ChangeShapes Go.WideShapes Go.ChangeAt Go.RowKit
set_option linter.unusedVariables false
set_option linter.unusedSimpArgs false
open Go.RowKit

/-- Nothing that was there has turned. -/
def Up (w w' : World) : Prop := Below w.heap.size w w'
theorem Up.refl (w : World) : Up w w := Below.refl _ _
theorem Up.size {w w' : World} (h : Up w w') : w.heap.size ≤ w'.heap.size := Below.size h
theorem Up.trans {a b c : World} (h : Up a b) (k : Up b c) : Up a c := Below.trans h (Below.mono k h.size)
theorem Up.alloc {a w : World} (h : Up a w) (o : Obj) : Up a (w.alloc o) := Below.alloc h h.size o
theorem Up.drew {a w : World} (h : Up a w) : Up a w.drew := Below.drew h
theorem Up.setCell {a w : World} (h : Up a w) {p : Addr} (hp : a.heap.size ≤ p.block) (u : Value) : Up a (w.setCell p u) := Below.setCell h hp u
theorem Up.store {a w : World} (h : Up a w) {b o : Nat} (hp : a.heap.size ≤ b) (u : Value) : Up a (w.setCell ⟨b, o, none⟩ u) := Up.setCell h hp u
theorem Up.row {a w : World} (h : Up a w) {L : Nat} (hp : a.heap.size ≤ L) (cs : Array Value) : Up a (w.setRow L cs) := below_setRow h hp cs
theorem Up.grown {a w w' : World} {row : Option Nat} (h : Up a w) (hg : w.grownBy w' row) (hr : ∀ k, row = some k → a.heap.size ≤ k) : Up a w' := Below.grown h hg h.size hr
theorem Up.below {w w' : World} (h : Up w w') : Below w.heap.size w w' := h
theorem Up.block {w w' : World} (h : Up w w') {k : Nat} {o : Obj} (hk : w.heap[k]? = some o) : w'.heap[k]? = some o := by
  have hlt : k < w.heap.size := (Array.getElem?_eq_some_iff.1 hk).1
  exact (Below.block h k hlt).trans hk
theorem Up.cell {w w' : World} (h : Up w w') {p : Addr} {v : Value} (hv : w.cell? p = some v) : w'.cell? p = some v :=
  (Below.cell h (World.block_lt_of_cell? w p hv)).trans hv
theorem Up.box {w w' : World} {c : Array Value} {t : TypeId} (h : Up (w.alloc (.cells c t)) w') : ∀ o, w'.cell? ⟨w.heap.size, o, none⟩ = c[o]? := fun o => by
  have h1 : (w.alloc (.cells c t)).heap[w.heap.size]? = some (.cells c t) := heap_alloc_new w _
  have h2 := h.block h1
  exact cell_of_row w' w.heap.size o c t (0, 0) h2
end Go.Proofs.Ytigkdbhcjjjjkaa

namespace Go.Proofs.Ytigkdbhcjjjjkaa

def inB (x a b : Int) : Bool := decide (a ≤ x ∧ x ≤ b)
end Go.Proofs.Ytigkdbhcjjjjkaa

namespace Go.Proofs.Ytigkdbhcjjjjkaa
set_option maxRecDepth 100000
open Go.ChangeShapes Go.WideShapes Go.ChangeAt Go.RowKit
set_option linter.unusedVariables false
set_option linter.unusedSimpArgs false
open Go.Deep

structure Arms where
  (fd fl ff fs o l t c1 k1 a1 t1 c2 k2 a2 t2 : Int)
def Arms.list (A : Arms) : List Int := [A.fd, A.fl, A.ff, A.fs, A.o, A.l, A.t, A.c1, A.k1, A.a1, A.t1, A.c2, A.k2, A.a2, A.t2]
theorem Arms.list_inj {A B : Arms} (h : A.list = B.list) : A = B := by
  cases A; cases B; simp [Arms.list] at h; simp [h]
instance : DecidableEq Arms := fun A B => decidable_of_iff (A.list = B.list) ⟨Arms.list_inj, fun h => by rw [h]⟩
/-- The cells of arms. -/
def Arms.arr (A : Arms) : Array Value := (A.list.map (Value.int .i64)).toArray
@[simp, go_sem] theorem Arms.arr_size (A : Arms) : A.arr.size = 15 := id rfl
@[simp, go_sem] theorem Arms.arr_0 (A : Arms) : A.arr[0]? = some (.int .i64 A.fd) := id rfl
@[simp, go_sem] theorem Arms.arr_1 (A : Arms) : A.arr[1]? = some (.int .i64 A.fl) := id rfl
@[simp, go_sem] theorem Arms.arr_2 (A : Arms) : A.arr[2]? = some (.int .i64 A.ff) := id rfl
@[simp, go_sem] theorem Arms.arr_3 (A : Arms) : A.arr[3]? = some (.int .i64 A.fs) := id rfl
@[simp, go_sem] theorem Arms.arr_4 (A : Arms) : A.arr[4]? = some (.int .i64 A.o) := id rfl
@[simp, go_sem] theorem Arms.arr_5 (A : Arms) : A.arr[5]? = some (.int .i64 A.l) := id rfl
@[simp, go_sem] theorem Arms.arr_6 (A : Arms) : A.arr[6]? = some (.int .i64 A.t) := id rfl
@[simp, go_sem] theorem Arms.arr_7 (A : Arms) : A.arr[7]? = some (.int .i64 A.c1) := id rfl
@[simp, go_sem] theorem Arms.arr_8 (A : Arms) : A.arr[8]? = some (.int .i64 A.k1) := id rfl
@[simp, go_sem] theorem Arms.arr_9 (A : Arms) : A.arr[9]? = some (.int .i64 A.a1) := id rfl
@[simp, go_sem] theorem Arms.arr_10 (A : Arms) : A.arr[10]? = some (.int .i64 A.t1) := id rfl
@[simp, go_sem] theorem Arms.arr_11 (A : Arms) : A.arr[11]? = some (.int .i64 A.c2) := id rfl
@[simp, go_sem] theorem Arms.arr_12 (A : Arms) : A.arr[12]? = some (.int .i64 A.k2) := id rfl
@[simp, go_sem] theorem Arms.arr_13 (A : Arms) : A.arr[13]? = some (.int .i64 A.a2) := id rfl
@[simp, go_sem] theorem Arms.arr_14 (A : Arms) : A.arr[14]? = some (.int .i64 A.t2) := id rfl
@[simp, go_sem] theorem Arms.arr_g0 (A : Arms) (h : 0 < A.arr.size) : A.arr[0] = .int .i64 A.fd := id rfl
@[simp, go_sem] theorem Arms.arr_g1 (A : Arms) (h : 1 < A.arr.size) : A.arr[1] = .int .i64 A.fl := id rfl
@[simp, go_sem] theorem Arms.arr_g2 (A : Arms) (h : 2 < A.arr.size) : A.arr[2] = .int .i64 A.ff := id rfl
@[simp, go_sem] theorem Arms.arr_g3 (A : Arms) (h : 3 < A.arr.size) : A.arr[3] = .int .i64 A.fs := id rfl
@[simp, go_sem] theorem Arms.arr_g4 (A : Arms) (h : 4 < A.arr.size) : A.arr[4] = .int .i64 A.o := id rfl
@[simp, go_sem] theorem Arms.arr_g5 (A : Arms) (h : 5 < A.arr.size) : A.arr[5] = .int .i64 A.l := id rfl
@[simp, go_sem] theorem Arms.arr_g6 (A : Arms) (h : 6 < A.arr.size) : A.arr[6] = .int .i64 A.t := id rfl
@[simp, go_sem] theorem Arms.arr_g7 (A : Arms) (h : 7 < A.arr.size) : A.arr[7] = .int .i64 A.c1 := id rfl
@[simp, go_sem] theorem Arms.arr_g8 (A : Arms) (h : 8 < A.arr.size) : A.arr[8] = .int .i64 A.k1 := id rfl
@[simp, go_sem] theorem Arms.arr_g9 (A : Arms) (h : 9 < A.arr.size) : A.arr[9] = .int .i64 A.a1 := id rfl
@[simp, go_sem] theorem Arms.arr_g10 (A : Arms) (h : 10 < A.arr.size) : A.arr[10] = .int .i64 A.t1 := id rfl
@[simp, go_sem] theorem Arms.arr_g11 (A : Arms) (h : 11 < A.arr.size) : A.arr[11] = .int .i64 A.c2 := id rfl
@[simp, go_sem] theorem Arms.arr_g12 (A : Arms) (h : 12 < A.arr.size) : A.arr[12] = .int .i64 A.k2 := id rfl
@[simp, go_sem] theorem Arms.arr_g13 (A : Arms) (h : 13 < A.arr.size) : A.arr[13] = .int .i64 A.a2 := id rfl
@[simp, go_sem] theorem Arms.arr_g14 (A : Arms) (h : 14 < A.arr.size) : A.arr[14] = .int .i64 A.t2 := id rfl
theorem Arms.of_list {xs : List Int} (h : xs.length = 15) : ∃ A : Arms, xs = A.list := by
  match xs, h with
  | [x0, x1, x2, x3, x4, x5, x6, x7, x8, x9, x10, x11, x12, x13, x14], _ => exact ⟨⟨x0, x1, x2, x3, x4, x5, x6, x7, x8, x9, x10, x11, x12, x13, x14⟩, rfl⟩
/-- Every number of the arms fits. -/
def Arms.wf (A : Arms) : Prop := ∀ x ∈ A.list, I64 x
def Arms.cells (A : Arms) : List Value := A.arr.toList
instance : Inhabited Arms := ⟨⟨0, 0, 0, 0, 0, 0, 0, 0, 0, 0, 0, 0, 0, 0, 0⟩⟩
theorem Arms.cells_length (A : Arms) : A.cells.length = 15 := rfl
theorem Arms.one (A : Arms) : A.arr.all (·.oneCell') = true := by simp [Arms.arr, Arms.list, Value.oneCell']

section
variable {H : Type} {enc : TypeId × Value → H} {P : Program} {w : World} {base : Nat} {spare : Nat → Bool} {held : Bool}
theorem rd_arms {e T : TypeId} {n : Nat} (hT : P.underlying T = some (.int .i64)) (hok : leafOk P n e = true) (hl : leaves P n e = List.replicate 15 T) : ∀ m cs y, DataW.trod enc P w base spare held m e cs = some y → ∃ A : Arms, cs = A.cells ∧ A.wf := by
  intro m cs y h
  have h1 := leaf_open n e m cs y hok h
  rw [hl] at h1
  obtain ⟨xs, rfl, hlen, hall⟩ := leaf_ints hT h1
  obtain ⟨A, rfl⟩ := Arms.of_list hlen
  exact ⟨A, rfl, hall⟩
end

def goodG (c k a t : Int) : Bool := inB c 1 6 && inB k 1 8 && inB t 1 9 && (if k ≤ 3 then inB a 1 2 else decide (a = 0))
def noneG (c k a t : Int) : Bool := decide (c = 0 ∧ k = 0 ∧ a = 0 ∧ t = 0)
def okG (c k a t : Int) : Bool := noneG c k a t || goodG c k a t
end Go.Proofs.Ytigkdbhcjjjjkaa

set_option linter.unusedVariables false
set_option linter.unusedSimpArgs false
set_option maxRecDepth 100000
set_option maxHeartbeats 4000000
set_option cbv.maxSteps 3000000
namespace Go.Proofs.Ytigkdbhcjjjjkaa.AM
/- From a law's contract to the walk that lift.py asks for; conditions: none. -/
theorem lowOk : Try.prog.globals.size < Try.prog.low := by decide +kernel
end Go.Proofs.Ytigkdbhcjjjjkaa.AM

set_option linter.unusedVariables false
set_option linter.unusedSimpArgs false
set_option maxRecDepth 100000
set_option maxHeartbeats 4000000
set_option cbv.maxSteps 3000000
namespace Go.Proofs.Ytigkdbhcjjjjkaa.AM
/- From an exact law's contract to the walk that lift.py asks for; conditions: none. -/
def cx0 (w : World) : Cx := ⟨id, fun _ => False, fun _ => False, w⟩
theorem rd_rel {α : Type} {w : World} {k : Nat} {enc : α → List Value} {A : Option Addr} {cap : Nat} {l : List α} (hr : Rd w k enc A cap l) (hk : 0 < k) {f : Nat → List AV} (h : ∀ (j : Nat) (a : α), l[j]? = some a → f j = (enc a).map AV.lit ∧ (enc a).length = k ∧ ∀ v ∈ enc a, v.oneCell' = true) : Rel (cx0 w) (.vec k l.length f) (.slice A l.length cap) := by
  refine .vec (fun j c => (((l[j]?).map enc).getD []).getD c undef) hr.le hr.max (fun j hj => ?_) (fun h0 => ?_) (fun j c hj hc => ?_) (fun j c x hj hx => ?_)
  · obtain ⟨e1, e2, _⟩ := h j _ (List.getElem?_eq_getElem hj)
    rw [e1, List.length_map, e2]
  · obtain ⟨b, o, hA, hc⟩ := hr.cells (by intro e; subst e; exact absurd h0 (Nat.lt_irrefl 0))
    have cell : ∀ j c, j < l.length → c < k → w.cell? ⟨b, o + j * k + c, none⟩ = some ((((l[j]?).map enc).getD []).getD c undef) := fun j c hj hc' => by
      obtain ⟨e1, e2, _⟩ := h j _ (List.getElem?_eq_getElem hj)
      have hlt : c < (enc l[j]).length := by rw [e2]; exact hc'
      have h1 := hc j l[j] (List.getElem?_eq_getElem hj) c (enc l[j])[c] (List.getElem?_eq_getElem hlt)
      rw [List.getElem?_eq_getElem hj, Option.map_some, Option.getD_some, List.getD_eq_getElem?_getD, List.getElem?_eq_getElem hlt, Option.getD_some]
      exact h1
    exact ⟨b, o, hA, fun h => h, World.block_lt_of_cell? w _ (cell 0 0 h0 hk), cell⟩
  · obtain ⟨e1, e2, e3⟩ := h j _ (List.getElem?_eq_getElem hj)
    have hlt : c < (enc l[j]).length := by rw [e2]; exact hc
    rw [List.getElem?_eq_getElem hj, Option.map_some, Option.getD_some, List.getD_eq_getElem?_getD, List.getElem?_eq_getElem hlt, Option.getD_some]
    exact e3 _ (List.getElem_mem hlt)
  · obtain ⟨e1, e2, e3⟩ := h j _ (List.getElem?_eq_getElem hj)
    rw [e1, List.getElem?_map] at hx
    obtain ⟨v, hv, rfl⟩ := Option.map_eq_some_iff.1 hx
    have hlt : c < (enc l[j]).length := (List.getElem?_eq_some_iff.1 hv).1
    have ev : (enc l[j])[c] = v := (List.getElem?_eq_some_iff.1 hv).2
    rw [List.getElem?_eq_getElem hj, Option.map_some, Option.getD_some, List.getD_eq_getElem?_getD, List.getElem?_eq_getElem hlt, Option.getD_some, ev]
    exact .lit (e3 _ (List.mem_of_getElem? hv))
theorem law_ofX {f : FuncId} {args : List AV} {vs : List Value} {w : World} (h : ConN Try.prog f args [] 0 (.lit (.bool true)) [] []) (hl : LRel (cx0 w) args vs) (hsh : w.ShapedOpen Try.prog) (hld : Laid w := by exact ⟨fun x hx => (by cases hx), fun n hn => (by cases hn)⟩) : Calls Try.prog f vs.toArray w (fun e w' => e = .returned (.bool true) ∧ Up w w') := by
  refine (h (cx0 w) vs hl (by simp [lk]) (by simp [lk]) (glo0 lowOk hsh hld) (fun i _ _ => fun h => h)).mono fun e w' ⟨cv, he, C', ha⟩ => ?_
  have hv := ha.val _ rfl
  cases hv
  refine ⟨he, Up.grown (Up.refl w) (row := none) ⟨?_, ?_, ?_, ?_, fun k hk _ => ?_⟩ (by simp)⟩
  · have := ha.ext.wx.os; rw [ha.w] at this; exact this
  · have := ha.ext.wx.tape; rw [ha.w] at this; exact this
  · have := ha.ext.wx.output; rw [ha.w] at this; exact this
  · have := ha.ext.wx.size; rw [ha.w] at this; exact this
  · have := ha.ext.wx.same k hk (by simp); rw [ha.w] at this; exact this
def toArm (A : Arms) : Arm := ⟨⟨A.fd, A.fl, A.ff, A.fs⟩, A.o, A.l, A.t, ⟨A.c1, A.k1, A.a1, A.t1⟩, ⟨A.c2, A.k2, A.a2, A.t2⟩⟩
theorem rd_A {w : World} {A : Option Addr} {cap : Nat} {l : List Arms} (hr : Rd w 15 Arms.cells A cap l) : Rel (cx0 w) (.vec 15 (l.map toArm).length (rowsA stdH fun _ => l.map toArm)) (.slice A l.length cap) := by
  rw [List.length_map]
  refine rd_rel hr (by omega) fun j a hj => ⟨?_, rfl, fun v hv => ?_⟩
  · have e : (l.map toArm).getD j default = toArm a := by rw [List.getD_eq_getElem?_getD, List.getElem?_map, hj]; rfl
    show rowsA stdH (fun _ => l.map toArm) j = _
    unfold rowsA
    simp only [stdH, e]
    rfl
  · simp [Arms.cells, Arms.arr, Arms.list] at hv
    rcases hv with rfl | rfl | rfl | rfl | rfl | rfl | rfl | rfl | rfl | rfl | rfl | rfl | rfl | rfl | rfl <;> rfl
theorem rd_le {α : Type} {w : World} {k : Nat} {enc : α → List Value} {A : Option Addr} {cap : Nat} {l : List α} (hr : Rd w k enc A cap l) : l.length ≤ 9223372036854775807 := by
  have h1 := hr.le; have h2 := hr.max; unfold maxLen at h2; omega
end Go.Proofs.Ytigkdbhcjjjjkaa.AM

set_option linter.unusedVariables false
set_option linter.unusedSimpArgs false
set_option maxRecDepth 100000
set_option maxHeartbeats 4000000
set_option cbv.maxSteps 3000000
namespace Go.Proofs.Ytigkdbhcjjjjkaa.AM
/- The walk of the law FnExactFillGrid, from its contract; conditions: none. -/
end Go.Proofs.Ytigkdbhcjjjjkaa.AM
namespace Go.Proofs.Ytigkdbhcjjjjkaa
open Go AM
theorem w_FillGrid (w : World) (A : Option Addr) (cap : Nat) (l : List Arms) (hr : Rd w 15 Arms.cells A cap l) (hg : ∀ a ∈ l, a.wf) (hsh : w.ShapedOpen Try.prog) : Calls Try.prog 4 #[.slice A l.length cap] w (fun e w' => e = .returned (.bool true) ∧ Up w w') :=
  law_ofX (law_FillGrid _ (by rw [List.length_map]; exact rd_le hr)) (.cons (rd_A hr) (.nil _)) hsh
end Go.Proofs.Ytigkdbhcjjjjkaa
namespace Go.Proofs.Ytigkdbhcjjjjkaa.AM

end Go.Proofs.Ytigkdbhcjjjjkaa.AM

