/- Contracts and lemmas (Cur) for the laws of this seat: what the Go functions named here return, for all arguments that each theorem states; no further conditions. -/
import Derived.Test.YtnniiphfbjbjdaaData
import Derived.Test.YtnniiphfbjbjdaaMem
import Derived.Test.YtnniiphfbjbjdaaOpen
import Derived.Test.YtnniiphfbjbjdaaUp
import Derived.Test.YtnniiphfbjbjdaaRows
import Derived.Deep.AppendLies
import Derived.Maps.AppendAt
import Derived.WalkKit
import Derived.ProofKit
import Derived.OpenShut
import Derived.WalkLawsBesides
import Derived.Lib.Hide
import Derived.Deep.QuietTactic
import Derived.BigQuiet
import Derived.Deep.Light
import Derived.Handy
namespace Go.Proofs.Ytnniiphfbjbjdaa
set_option maxRecDepth 100000
open Go.ChangeShapes Go.WideShapes Go.ChangeAt Go.RowKit
set_option linter.unusedVariables false
set_option linter.unusedSimpArgs false

/-- Nothing but block b has turned. -/
def Turn (b : Nat) (w w' : World) : Prop := w.grownBy w' (some b)
theorem Turn.refl (b : Nat) (w : World) : Turn b w w := World.grownBy.refl _ _
theorem Turn.trans {b : Nat} {a c d : World} (h : Turn b a c) (k : Turn b c d) : Turn b a d := World.grownBy.trans h k
theorem Turn.ofUp {b : Nat} {w w' : World} (h : Up w w') : Turn b w w' := ⟨h.os, h.tape, h.output, h.size, fun k hk _ => Below.block h k hk⟩
theorem Turn.next {b : Nat} {a c d : World} (h : Turn b a c) (k : Up c d) : Turn b a d := h.trans (Turn.ofUp k)
theorem Turn.alloc {b : Nat} {a c : World} (h : Turn b a c) (o : Obj) : Turn b a (c.alloc o) := h.next ((Up.refl c).alloc o)
theorem Turn.drew {b : Nat} {a c : World} (h : Turn b a c) : Turn b a c.drew := h.next ((Up.refl c).drew)
theorem Turn.drewN {b : Nat} {a c : World} (h : Turn b a c) (n : Nat) : Turn b a (c.drewN n) := h.next ((Up.refl c).drewN n)
theorem Turn.size {b : Nat} {w w' : World} (h : Turn b w w') : w.heap.size ≤ w'.heap.size := World.grownBy.size h
theorem Turn.set {b : Nat} {a c : World} (h : Turn b a c) (o : Nat) (v : Value) : Turn b a (c.setCell ⟨b, o, none⟩ v) :=
  h.trans ⟨rfl, rfl, rfl, by simp, fun k _ hk => Below.heap_setCell c ⟨b, o, none⟩ v k (fun e => hk (by simp [e]))⟩
theorem Turn.store {b c o : Nat} {a w : World} (h : Turn b a w) (hp : a.heap.size ≤ c) (v : Value) : Turn b a (w.setCell ⟨c, o, none⟩ v) :=
  ⟨h.os, h.tape, h.output, by simpa using h.size, fun k hk hne => (Below.heap_setCell w ⟨c, o, none⟩ v k (by simp; omega)).trans (World.grownBy.block h k hk hne)⟩
theorem Turn.up {b : Nat} {a w w' : World} (h : Up a w) (t : Turn b w w') (hb : a.heap.size ≤ b) : Up a w' := Up.grown h t (fun k hk => by cases hk; exact hb)
theorem Turn.cell {b c o : Nat} {w w' : World} (t : Turn b w w') (hc : c < w.heap.size) (hne : c ≠ b) : w'.cell? ⟨c, o, none⟩ = w.cell? ⟨c, o, none⟩ :=
  World.cell?_of_block (World.grownBy.block t c hc (by simp [hne]))
theorem Turn.frozen {b c o : Nat} {w w' : World} (t : Turn b w w') (hc : c < w.heap.size) (hne : c ≠ b) : w'.frozen? ⟨c, o, none⟩ = w.frozen? ⟨c, o, none⟩ :=
  World.frozen?_of_block (World.grownBy.block t c hc (by simp [hne]))
theorem Turn.range {b c o : Nat} {w w' : World} {cs : List Value} (h : w.rangeAt c o cs) (t : Turn b w w') (hne : c ≠ b) : w'.rangeAt c o cs := fun j v hj => by
  have hv := h j v hj
  rw [t.cell (World.block_lt_of_cell? w _ hv) hne]; exact hv
/-- A slice that is not in block b. -/
theorem Rd.turn {α : Type} {w w' : World} {b k : Nat} {en : α → List Value} {A : Option Addr} {cap : Nat} {l : List α} (h : Rd w k en A cap l) (t : Turn b w w') (hlt : ∀ a, A = some a → a.block ≠ b) : Rd w' k en A cap l :=
  ⟨h.le, h.max, fun hne => by
    obtain ⟨c, o, hA, hc⟩ := h.cells hne
    exact ⟨c, o, hA, fun i a hi => Turn.range (hc i a hi) t (hlt _ hA)⟩⟩
theorem Own.turn {α : Type} {w w' : World} {b B : Nat} {E : TypeId} {k : Nat} {en : α → List Value} {A : Option Addr} {cap : Nat} {l : List α} (h : Own w B E k en A cap l) (t : Turn b w w') (hlt : b < B) : Own w' B E k en A cap l := by
  refine h.kept t ?_
  rcases h.cases with ⟨rfl, _⟩ | ⟨g, rfl, hg, _⟩
  · left; rfl
  · right; simp [Value.ownBlock]; omega

/-- Block L is known whole. -/
def Bx (w : World) (L : Nat) (cs : Array Value) (T : TypeId) : Prop := w.heap[L]? = some (.cells cs T (0, 0))
section
variable {w w' : World} {L : Nat} {cs : Array Value} {T : TypeId}
theorem Bx.new (w : World) (cs : Array Value) (T : TypeId) : Bx (w.alloc (.cells cs T)) w.heap.size cs T := heap_alloc_new w _
theorem Bx.at_ {w : World} (h : L = w.heap.size) : Bx (w.alloc (.cells cs T)) L cs T := by subst h; exact heap_alloc_new w _
theorem Bx.lt (h : Bx w L cs T) : L < w.heap.size := (Array.getElem?_eq_some_iff.1 h).1
theorem Bx.up (h : Bx w L cs T) (hu : Up w w') : Bx w' L cs T := hu.block h
theorem Bx.alloc (h : Bx w L cs T) (o : Obj) : Bx (w.alloc o) L cs T := h.up ((Up.refl w).alloc o)
theorem Bx.drew (h : Bx w L cs T) : Bx w.drew L cs T := h
theorem Bx.drewN (h : Bx w L cs T) (n : Nat) : Bx (w.drewN n) L cs T := h.up ((Up.refl w).drewN n)
theorem Bx.set {cs' : Array Value} {i : Nat} {v : Value} (h : Bx w L cs T) (hc : cs' = cs.setIfInBounds i v) : Bx (w.setCell ⟨L, i, none⟩ v) L cs' T := by subst hc; exact heap_setCell_same w L i cs T v h
theorem Bx.other {M i : Nat} {v : Value} (h : Bx w L cs T) (hne : L ≠ M) : Bx (w.setCell ⟨M, i, none⟩ v) L cs T := (Below.heap_setCell w ⟨M, i, none⟩ v L hne).trans h
theorem Bx.turn {b : Nat} (h : Bx w L cs T) (t : Turn b w w') (hne : L ≠ b) : Bx w' L cs T := (World.grownBy.block t L h.lt (by simp [hne])).trans h
theorem Bx.cells (h : Bx w L cs T) : ∀ o, w.cell? ⟨L, o, none⟩ = cs[o]? := fun o => cell_of_row w L o cs T (0, 0) h
theorem Bx.free (h : Bx w L cs T) : ∀ o, w.frozen? ⟨L, o, none⟩ = false := fun o => frozen_of_row w L o cs T h
end

theorem Bx.range {w : World} {L : Nat} {cs : Array Value} {T : TypeId} (h : Bx w L cs T) : w.rangeAt L 0 cs.toList := fun j v hj => by
  rw [h.cells, Nat.zero_add]; simpa using hj
theorem Bx.load {P : Program} {w : World} {L : Nat} {cs : Array Value} {T ty : TypeId} {d : TypeDesc} (h : Bx w L cs T) (hu : P.underlying ty = some d) (hd : d.isRow = true) (hi : (P.info? ty).map (·.size) = some cs.size) : (loadVar ty ⟨L, 0, none⟩).run P w = .ok (.agg cs) w :=
  run_load_agg w L 0 ty cs d h.range hu hd hi
theorem results_c1 {fn : Func} {p : Tmp} {ty : TypeId} (h : fn.results = #[.cell p ty]) (tmps : Array Value) (P : Program) (w : World) {a : Addr} {v : Value} (hp : tmps.getD p undef = .pointer (some a)) (hl : (loadVar ty a).run P w = .ok v w) : (results fn tmps).run P w = .ok v w := by
  simp only [Array.getD_eq_getD_getElem?] at hp
  simp [results, h, hp, hl, asAddr, Sem.run_bind]
theorem results_c2 {fn : Func} {p q : Tmp} {ty tz : TypeId} (h : fn.results = #[.cell p ty, .cell q tz]) (tmps : Array Value) (P : Program) (w : World) {a b : Addr} {v u : Value} (hp : tmps.getD p undef = .pointer (some a)) (hq : tmps.getD q undef = .pointer (some b)) (hl : (loadVar ty a).run P w = .ok v w) (hm : (loadVar tz b).run P w = .ok u w) : (results fn tmps).run P w = .ok (.tuple #[v, u]) w := by
  simp only [Array.getD_eq_getD_getElem?] at hp hq
  simp [results, h, hp, hl, hq, hm, asAddr, Sem.run_bind]
theorem results_ct {fn : Func} {p q : Tmp} {ty : TypeId} (h : fn.results = #[.cell p ty, .tmp q]) (tmps : Array Value) (P : Program) (w : World) {a : Addr} {v u : Value} (hp : tmps.getD p undef = .pointer (some a)) (hq : tmps.getD q undef = u) (hl : (loadVar ty a).run P w = .ok v w) : (results fn tmps).run P w = .ok (.tuple #[v, u]) w := by
  simp only [Array.getD_eq_getD_getElem?] at hp hq
  simp [results, h, hp, hl, hq, asAddr, Sem.run_bind]

/-- The bytes of a code lie in a block below b. -/
def CodeAt (w : World) (b : Nat) (A : Option Addr) (n : Nat) : Prop := ∀ i, i < n → ∃ g o x, A = some ⟨g, o, none⟩ ∧ g < b ∧ isU8 x ∧ w.cell? ⟨g, o + i, none⟩ = some (.int .u8 x)
/-- Block b is a cursor over a code that may be asked k times more. -/
def Cur (w : World) (b k : Nat) : Prop := ∃ (A : Option Addr) (n cap p : Nat) (seed : Int), w.heap[b]? = some (.cells #[.slice A n cap, .int .i64 p, .int .u64 seed] 129 (0, 0)) ∧ n ≤ cap ∧ n ≤ 9223372036854775807 ∧ p + k ≤ 4611686018427387904 ∧ CodeAt w b A n
theorem CodeAt.keep {w w' : World} {b : Nat} {A : Option Addr} {n : Nat} (h : CodeAt w b A n) (t : ∀ g o v, g < b → w.cell? ⟨g, o, none⟩ = some v → w'.cell? ⟨g, o, none⟩ = some v) : CodeAt w' b A n := fun i hi => by
  obtain ⟨g, o, x, h1, h2, h3, h4⟩ := h i hi
  exact ⟨g, o, x, h1, h2, h3, t _ _ _ h2 h4⟩
theorem CodeAt.turn {w w' : World} {b : Nat} {A : Option Addr} {n : Nat} (h : CodeAt w b A n) (t : Turn b w w') : CodeAt w' b A n :=
  h.keep fun g o v hg hv => (t.cell (World.block_lt_of_cell? w _ hv) (Nat.ne_of_lt hg)).trans hv
theorem Cur.up {w w' : World} {b k : Nat} (h : Cur w b k) (hu : Up w w') : Cur w' b k := by
  obtain ⟨A, n, cap, q, seed, h1, h2, h3, h4, h5⟩ := h
  exact ⟨A, n, cap, q, seed, hu.block h1, h2, h3, h4, h5.turn (Turn.ofUp hu)⟩
theorem Cur.alloc {w : World} {b k : Nat} (h : Cur w b k) (o : Obj) : Cur (w.alloc o) b k := h.up ((Up.refl w).alloc o)
theorem Cur.drew {w : World} {b k : Nat} (h : Cur w b k) : Cur w.drew b k := h.up ((Up.refl w).drew)
theorem Cur.drewN {w : World} {b k : Nat} (h : Cur w b k) (n : Nat) : Cur (w.drewN n) b k := h.up ((Up.refl w).drewN n)
theorem Cur.less {w : World} {b k j : Nat} (h : Cur w b k) (hj : j ≤ k) : Cur w b j := by
  obtain ⟨A, n, cap, q, seed, h1, h2, h3, h4, h5⟩ := h
  exact ⟨A, n, cap, q, seed, h1, h2, h3, by omega, h5⟩
theorem Cur.lt {w : World} {b k : Nat} (h : Cur w b k) : b < w.heap.size := by
  obtain ⟨A, n, cap, q, seed, h1, h2, h3, h4, h5⟩ := h
  exact (Array.getElem?_eq_some_iff.1 h1).1
/-- A store into a block above. -/
theorem Cur.store {w : World} {b k c o : Nat} (h : Cur w b k) (hc : b < c) (v : Value) : Cur (w.setCell ⟨c, o, none⟩ v) b k := by
  obtain ⟨A, n, cap, q, seed, h1, h2, h3, h4, h5⟩ := h
  exact ⟨A, n, cap, q, seed, by rw [Below.heap_setCell w ⟨c, o, none⟩ v b (by simp; omega)]; exact h1, h2, h3, h4, h5.keep fun g p u hg hu => by
    exact (World.cell?_setCell_other (w := w) (a := ⟨c, o, none⟩) (b := ⟨g, p, none⟩) (v := v) (by intro e; injection e with e1 e2 e3; omega)).trans hu⟩
theorem Cur.kept {w w' : World} {b k c : Nat} (h : Cur w b k) (hg : w.grownBy w' (some c)) (hc : b < c) : Cur w' b k := by
  obtain ⟨A, n, cap, q, seed, h1, h2, h3, h4, h5⟩ := h
  have hb := (Array.getElem?_eq_some_iff.1 h1).1
  exact ⟨A, n, cap, q, seed, (World.grownBy.block hg b hb (by simp; omega)).trans h1, h2, h3, h4, h5.keep fun g p u hg' hu => by
    rw [World.cell?_of_block (a := ⟨g, p, none⟩) (World.grownBy.block hg g (World.block_lt_of_cell? w _ hu) (by simp; omega))]; exact hu⟩
/-- A result that was drawn. -/
def DrI (b k : Nat) (w : World) (S : Int → Prop) : Ending → World → Prop := fun e w' => ∃ x, S x ∧ e = .returned (.int .i64 x) ∧ Turn b w w' ∧ Cur w' b k
def DrB (b k : Nat) (w : World) : Ending → World → Prop := fun e w' => ∃ x, e = .returned (.bool x) ∧ Turn b w w' ∧ Cur w' b k

end Go.Proofs.Ytnniiphfbjbjdaa
