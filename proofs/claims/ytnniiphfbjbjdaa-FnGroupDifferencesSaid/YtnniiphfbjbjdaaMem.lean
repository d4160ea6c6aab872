/- Contracts and lemmas (Mem) for the laws of this seat: what the Go functions named here return, for all arguments that each theorem states; no further conditions. -/
import Derived.Test.YtnniiphfbjbjdaaOpen
import Derived.Test.YtnniiphfbjbjdaaUp
import Derived.WalkKit
import Derived.Deep.MidRow
import Derived.Deep.AppendLies
import Derived.BigQuiet
import Derived.Deep.WholeRow
import Derived.Maps.AppendAt
import Derived.Deep.Onto
import Derived.Laws.OwnMore
import Derived.ProofKit
import Derived.OpenShut
import Derived.WalkLawsBesides
import Derived.Lib.Hide
import Derived.Deep.QuietTactic
import Derived.Deep.Light
import Derived.Handy
namespace Go.Proofs.Ytnniiphfbjbjdaa
set_option maxRecDepth 100000
open Go.ChangeShapes Go.WideShapes Go.ChangeAt Go.RowKit
set_option linter.unusedVariables false
set_option linter.unusedSimpArgs false
open Go.RowKit

theorem flat_get {α : Type} {k : Nat} {en : α → List Value} (hk : ∀ a, (en a).length = k) : ∀ (l : List α) (i j : Nat) (a : α), l[i]? = some a → j < k → (l.flatMap en)[i * k + j]? = (en a)[j]?
  | [], i, j, a, h, _ => by simp at h
  | x :: r, 0, j, a, h, hj => by
    obtain rfl : x = a := by simpa using h
    rw [List.flatMap_cons, Nat.zero_mul, Nat.zero_add, List.getElem?_append_left (by rw [hk]; exact hj)]
  | x :: r, i + 1, j, a, h, hj => by
    rw [List.flatMap_cons, List.getElem?_append_right (by rw [hk, Nat.succ_mul]; omega), hk]
    rw [show (i + 1) * k + j - k = i * k + j by rw [Nat.succ_mul]; omega]
    exact flat_get hk r i j a (by simpa using h) hj
theorem flat_length {α : Type} {k : Nat} {en : α → List Value} (hk : ∀ a, (en a).length = k) : ∀ l : List α, (l.flatMap en).length = l.length * k
  | [] => by simp
  | x :: r => by rw [List.flatMap_cons, List.length_append, hk, flat_length hk r, List.length_cons, Nat.succ_mul]; omega
theorem flat_one {α : Type} {en : α → List Value} (l : List α) (a : α) : (l ++ [a]).flatMap en = l.flatMap en ++ en a := by simp

section
variable {α : Type} {w w' : World} {k : Nat} {en : α → List Value} {A : Option Addr} {cap : Nat} {l : List α}
theorem rangeAt_up {b o : Nat} {cs : List Value} (h : w.rangeAt b o cs) (hu : Up w w') : w'.rangeAt b o cs := fun j v hj => hu.cell (h j v hj)
theorem Rd.up (h : Rd w k en A cap l) (hu : Up w w') : Rd w' k en A cap l :=
  ⟨h.le, h.max, fun hne => by
    obtain ⟨b, o, hA, hc⟩ := h.cells hne
    exact ⟨b, o, hA, fun i a hi => rangeAt_up (hc i a hi) hu⟩⟩
theorem Rd.at_ (h : Rd w k en A cap l) {i : Nat} (hi : i < l.length) : ∃ b o, A = some ⟨b, o, none⟩ ∧ w.rangeAt b (o + i * k) (en l[i]) := by
  obtain ⟨b, o, hA, hc⟩ := h.cells (by intro e; subst e; simp at hi)
  exact ⟨b, o, hA, hc i _ (List.getElem?_eq_getElem hi)⟩
theorem Rd.get (h : Rd w k en A cap l) {i : Nat} (hi : i < l.length) : ∃ a b o, l[i]? = some a ∧ A = some ⟨b, o, none⟩ ∧ w.rangeAt b (o + i * k) (en a) := by
  obtain ⟨b, o, hA, hc⟩ := h.at_ hi
  exact ⟨l[i], b, o, List.getElem?_eq_getElem hi, hA, hc⟩
theorem range_lt {b o : Nat} {cs : List Value} (h : w.rangeAt b o cs) (hne : cs ≠ []) : b < w.heap.size := by
  cases cs with
  | nil => exact absurd rfl hne
  | cons c r => exact World.block_lt_of_cell? w _ (h 0 c rfl)
end

/-- A slice of the call's own, from block B on, whose elements are the list's. -/
def Own {α : Type} (w : World) (B : Nat) (E : TypeId) (k : Nat) (en : α → List Value) (A : Option Addr) (cap : Nat) (l : List α) : Prop :=
  w.ownsRow B E k (.slice A l.length cap) l.length (l.flatMap en)
section
variable {α : Type} {w w' : World} {B : Nat} {E : TypeId} {k : Nat} {en : α → List Value} {A : Option Addr} {cap : Nat} {l : List α}
theorem Own.cases (h : Own w B E k en A cap l) : (A = none ∧ cap = 0 ∧ l = []) ∨ ∃ g, A = some ⟨g, 0, none⟩ ∧ B ≤ g ∧ g < w.heap.size := by
  rcases h.2 with ⟨hv, hn⟩ | ⟨g, c, cur, hv, hb, hg, _⟩
  · injection hv with h1 h2 h3
    exact .inl ⟨h1, h3, List.eq_nil_of_length_eq_zero hn⟩
  · injection hv with h1 h2 h3
    exact .inr ⟨g, h1, hb, (Array.getElem?_eq_some_iff.1 hg).1⟩
theorem Own.rd (h : Own w B E k en A cap l) (hk : ∀ a, (en a).length = k) : Rd w k en A cap l := by
  rcases h.2 with ⟨hv, hn⟩ | ⟨g, c, cur, hv, hb, hg, hle, hmax, _, _⟩
  · injection hv with h1 h2 h3
    subst h1; subst h3
    obtain rfl := List.eq_nil_of_length_eq_zero hn
    exact Rd.nil_ _ _ _
  · injection hv with h1 h2 h3
    subst h1; subst h3
    refine ⟨hle, hmax, fun _ => ⟨g, 0, rfl, fun i a hi j v hj => ?_⟩⟩
    have := h.cells (g := g) rfl (i * k + j) v (by rw [flat_get hk l i j a hi (by rw [← hk a]; exact (List.getElem?_eq_some_iff.1 hj).1)]; exact hj)
    rw [Addr.add_mid] at this
    rw [← this]; congr 2; omega
theorem Own.up (h : Own w B E k en A cap l) (hu : Up w w') : Own w' B E k en A cap l := by
  refine ⟨h.1, ?_⟩
  rcases h.2 with hn | ⟨g, c, cur, hv, hb, hg, r⟩
  · exact .inl hn
  · exact .inr ⟨g, c, cur, hv, hb, hu.block hg, r⟩
theorem Own.mono {B' : Nat} (h : Own w B E k en A cap l) (hB : B' ≤ B) : Own w B' E k en A cap l := World.ownsRow.mono h hB
theorem Own.nil_ (w : World) (B : Nat) (E : TypeId) (k : Nat) (en : α → List Value) : Own w B E k en none 0 [] := World.ownsRow_nil _ _ _ _
theorem Own.empty (w : World) (B : Nat) (E : TypeId) (k : Nat) (en : α → List Value) (hB : B ≤ w.heap.size) : Own (w.alloc (.cells #[] E)) B E k en (some ⟨w.heap.size, 0, none⟩) 0 [] :=
  World.ownsRow_made w #[] 0 hB (by simp [maxLen]) (by simp)
theorem Own.lit (w : World) (B : Nat) (E : TypeId) (k : Nat) (en : α → List Value) (l : List α) (cs : Array Value) (hcs : cs.toList = l.flatMap en) (hk : ∀ a, (en a).length = k) (hB : B ≤ w.heap.size) (hm : l.length ≤ maxLen) :
    Own (w.alloc (.cells cs E)) B E k en (some ⟨w.heap.size, 0, none⟩) l.length l := by
  have hsz : cs.size = l.length * k := by rw [← Array.length_toList, hcs, flat_length hk]
  have := World.ownsRow_lit (e := E) (size := k) (base := B) w cs l.length hB hm hsz
  rw [hcs] at this
  exact this
theorem Own.le (h : Own w B E k en A cap l) : l.length ≤ cap := by
  rcases h.2 with ⟨hv, hn⟩ | ⟨g, c, cur, hv, hb, hg, hle, _⟩
  · injection hv with h1 h2 h3; omega
  · injection hv with h1 h2 h3; omega
theorem Own.max (h : Own w B E k en A cap l) : cap ≤ maxLen := by
  rcases h.2 with ⟨hv, hn⟩ | ⟨g, c, cur, hv, hb, hg, hle, hm, _⟩
  · injection hv with h1 h2 h3; subst h3; simp [maxLen]
  · injection hv with h1 h2 h3; subst h3; exact hm
/-- What a row of the call's own holds is kept where another block alone has turned. -/
theorem Own.kept (h : Own w B E k en A cap l) {row : Option Nat} (hg : w.grownBy w' row) (hne : (Value.slice A l.length cap).ownBlock = none ∨ (Value.slice A l.length cap).ownBlock ≠ row) : Own w' B E k en A cap l := World.ownsRow.kept h hg hne
end

section
variable {α : Type} {P : Program} (w : World)
theorem own_of_row {w : World} {B : Nat} {E : TypeId} {k : Nat} {en : α → List Value} {v : Value} {l : List α} {xs : List Value} {n : Nat} (h : w.ownsRow B E k v n xs) (hx : xs = l.flatMap en) (hn : n = l.length) (hpos : 0 < l.length) : ∃ g cap, v = .slice (some ⟨g, 0, none⟩) l.length cap ∧ Own w B E k en (some ⟨g, 0, none⟩) cap l := by
  subst hx; subst hn
  obtain ⟨g, cap, rfl, _⟩ := h.form hpos
  exact ⟨g, cap, rfl, h⟩
theorem run_app_any (B : Nat) (t ty E : TypeId) (z : Value) (k bytes : Nat) (ht : P.underlying t = some (.slice E)) (hi : (P.info? E).map (fun i => (i.zero, i.size, i.bytes)) = some (some z, k, bytes)) (hzs : z.cells.size = k) (hsz : 0 < k)
    (en : α → List Value) (hk : ∀ a, (en a).length = k) (h1 : ∀ a, ∀ u ∈ en a, u.oneCell' = true) (A : Option Addr) (cap : Nat) (l : List α) (hown : Own w B E k en A cap l)
    (A2 : Option Addr) (cap2 : Nat) (l2 : List α) (hr : Rd w k en A2 cap2 l2) (hbytes : (l.length + l2.length) * bytes ≤ 140737488355328) (hb1 : l.length + l2.length < 140737488355328) (hbase : B ≤ w.heap.size) :
    ∃ A' cap' w', (Builtin.append_ #[t, t] ty #[.slice A l.length cap, .slice A2 l2.length cap2]).run P w = .ok (.slice A' (l ++ l2).length cap') w' ∧ Own w' B E k en A' cap' (l ++ l2) ∧ w.grownBy w' (Value.slice A l.length cap).ownBlock ∧ (A' = A ∨ A' = some ⟨w.heap.size, 0, none⟩) := by
  obtain ⟨i, hi1, hi2, hi3, hi4⟩ := info_parts hi
  by_cases hne : l2 = []
  · subst hne
    refine ⟨A, cap, w, ?_, by simpa using hown, World.grownBy.refl _ _, .inl rfl⟩
    simp only [List.append_nil, List.length_nil]
    rcases hown.2 with ⟨hv, hn⟩ | ⟨g, c, cur, hv, _, _, hnc, _⟩
    · injection hv with e1 e2 e3; subst e1; subst e3
      obtain rfl := List.eq_nil_of_length_eq_zero hn
      have hc0 : ∀ c : Nat, (Builtin.append_ #[t, t] ty #[.slice none 0 0, .slice none 0 c]).run P w = .ok (.slice none 0 0) w := fun c => by
        simp [Builtin.append_, run_underlying ht, sizeOf, typeInfo, hi1, Builtin.lenOf, Builtin.firstCells]
      cases A2 with
      | none => exact hc0 _
      | some a2 => simp [Builtin.append_, run_underlying ht, sizeOf, typeInfo, hi1, Builtin.lenOf, Builtin.firstCells, loadCells, loadCellsFrom]
    · injection hv with e1 e2 e3; subst e1; subst e3
      cases A2 with
      | none => simp [Builtin.append_, run_underlying ht, sizeOf, typeInfo, hi1, Builtin.lenOf, Builtin.firstCells, hnc, storeCells]
      | some a2 => simp [Builtin.append_, run_underlying ht, sizeOf, typeInfo, hi1, Builtin.lenOf, Builtin.firstCells, loadCells, loadCellsFrom, hnc, storeCells]
  · obtain ⟨b, o, rfl, hc⟩ := hr.cells hne
    have hpos : 0 < l2.length := by rcases Nat.eq_zero_or_pos l2.length with h | h; exact absurd (List.eq_nil_of_length_eq_zero h) hne; exact h
    obtain ⟨v', w', hrun, h2, h3, _, h5⟩ := run_append_own_at (P := P) w B t ty E i z k bytes ht hi1 hi2 hi3 hi4 hzs hsz (.slice A l.length cap) l.length (l.flatMap en) hown ⟨b, o, none⟩ l2.length cap2 (l2.flatMap en) (flat_length hk l2) (fun j u hj => by
      have hjl : j < l2.length * k := by rw [← flat_length hk l2]; exact (List.getElem?_eq_some_iff.1 hj).1
      have hdiv : j / k < l2.length := Nat.div_lt_of_lt_mul (by rw [Nat.mul_comm]; exact hjl)
      have hmod : j % k < k := Nat.mod_lt _ hsz
      have hjj : j / k * k + j % k = j := by rw [Nat.mul_comm]; exact Nat.div_add_mod j k
      have hg := flat_get hk l2 (j / k) (j % k) _ (List.getElem?_eq_getElem hdiv) hmod
      rw [hjj, hj] at hg
      have := hc (j / k) _ (List.getElem?_eq_getElem hdiv) (j % k) u hg.symm
      rw [Addr.add_mid, ← this]; congr 2; omega) (fun u hu => by obtain ⟨a, _, ha⟩ := List.mem_flatMap.1 hu; exact h1 a u ha) (by simp only [maxLen]; omega) hbytes hbase
    obtain ⟨g, c', rfl, ho⟩ := own_of_row (en := en) (l := l ++ l2) h2 (by simp) (by simp) (by simp; omega)
    refine ⟨_, _, _, hrun, ho, h3, ?_⟩
    rcases h5 with h5 | h5
    · left
      rcases hown.cases with ⟨rfl, _, _⟩ | ⟨g0, rfl, _⟩
      · simp [Value.ownBlock] at h5
      · simp [Value.ownBlock] at h5; rw [h5]
    · right; simp [Value.ownBlock] at h5; rw [h5]
/-- append(a, b...): what b reads as onto a slice of the call's own. -/
theorem wpList_app {ops : Array Oper} {rest : List Oper} {o : Oper} {a : Act} {Q : Exit → Act → World → Prop} (hgd : o.guard = none) (s x : Operand) (t : TypeId)
    (ho : o.op = .call { callee := .builtin .append, args := #[s, x], argTypes := #[t, t] })
    (B : Nat) (E : TypeId) (z : Value) (k bytes : Nat) (ht : P.underlying t = some (.slice E)) (hi : (P.info? E).map (fun i => (i.zero, i.size, i.bytes)) = some (some z, k, bytes)) (hzs : z.cells.size = k) (hsz : 0 < k)
    (en : α → List Value) (hk : ∀ a, (en a).length = k) (h1 : ∀ a, ∀ u ∈ en a, u.oneCell' = true) (A : Option Addr) (cap : Nat) (l : List α) (n : Nat) (hn : n = l.length) (hs : a.eval s = .slice A n cap) (hown : Own w B E k en A cap l)
    (A2 : Option Addr) (cap2 : Nat) (l2 : List α) (m : Nat) (hm : m = l2.length) (hx : a.eval x = .slice A2 m cap2) (hr : Rd w k en A2 cap2 l2) (hbytes : (l.length + l2.length) * bytes ≤ 140737488355328) (hb1 : l.length + l2.length < 140737488355328) (hbase : B ≤ w.heap.size)
    (h : ∀ A' cap' w', Own w' B E k en A' cap' (l ++ l2) → w.grownBy w' (Value.slice A l.length cap).ownBlock → (A' = A ∨ A' = some ⟨w.heap.size, 0, none⟩) → wpList P ops Q rest (a.put o.dst (.slice A' (l ++ l2).length cap')) w') : wpList P ops Q (o :: rest) a w := by
  subst hn; subst hm
  obtain ⟨A', cap', w', hrun, h2, h3, h4⟩ := run_app_any (P := P) w B t o.type E z k bytes ht hi hzs hsz en hk h1 A cap l hown A2 cap2 l2 hr hbytes hb1 hbase
  refine wpList_plain hgd fun K hK => ?_
  unfold Oper.wp execOp
  simp only [ho, resolve, invoke, builtin, Sem.run_bind, Sem.run_pure, Result.andThen_ok, List.map_toArray, List.map_cons, List.map_nil, hs, hx, hrun]
  exact hK _ _ (h A' cap' w' h2 h3 h4)
/-- append(a, x): one element, which lies in a block of its own. -/
theorem wpList_app1 {ops : Array Oper} {rest : List Oper} {o : Oper} {a : Act} {Q : Exit → Act → World → Prop} (hgd : o.guard = none) (s x : Operand) (t : TypeId)
    (ho : o.op = .call { callee := .builtin .append, args := #[s, x], argTypes := #[t, t] })
    (B : Nat) (E : TypeId) (z : Value) (k bytes : Nat) (ht : P.underlying t = some (.slice E)) (hi : (P.info? E).map (fun i => (i.zero, i.size, i.bytes)) = some (some z, k, bytes)) (hzs : z.cells.size = k) (hsz : 0 < k)
    (en : α → List Value) (hk : ∀ a, (en a).length = k) (h1 : ∀ a, ∀ u ∈ en a, u.oneCell' = true) (A : Option Addr) (cap : Nat) (l : List α) (n : Nat) (hn : n = l.length) (hs : a.eval s = .slice A n cap) (hown : Own w B E k en A cap l)
    (y : α) (g c : Nat) (hx : a.eval x = .slice (some ⟨g, 0, none⟩) 1 c) (hc1 : 1 ≤ c) (hc2 : c ≤ maxLen) (hc : w.rangeAt g 0 (en y)) (hbytes : (l.length + 1) * bytes ≤ 140737488355328) (hb1 : l.length + 1 < 140737488355328) (hbase : B ≤ w.heap.size)
    (h : ∀ A' cap' w', Own w' B E k en A' cap' (l ++ [y]) → w.grownBy w' (Value.slice A l.length cap).ownBlock → (A' = A ∨ A' = some ⟨w.heap.size, 0, none⟩) → wpList P ops Q rest (a.put o.dst (.slice A' (l.length + 1) cap')) w') : wpList P ops Q (o :: rest) a w := by
  refine wpList_app w hgd s x t ho B E z k bytes ht hi hzs hsz en hk h1 A cap l n hn hs hown (some ⟨g, 0, none⟩) c [y] 1 rfl hx ⟨hc1, hc2, fun _ => ⟨g, 0, rfl, fun i a hi => ?_⟩⟩ hbytes hb1 hbase (fun A' cap' w' h2 h3 h4 => by simpa using h A' cap' w' h2 h3 h4)
  cases i with
  | zero => simp at hi; subst hi; simpa using hc
  | succ i => simp at hi
end

/-- A slice of the call's own has grown: below its first block nothing has turned. -/
theorem grown_below {α : Type} {w w' : World} {B : Nat} {E : TypeId} {k : Nat} {en : α → List Value} {A : Option Addr} {cap n : Nat} {l : List α} (h : Own w B E k en A cap l) (hn : n = l.length) (hB : B ≤ w.heap.size) (hg : w.grownBy w' (Value.slice A n cap).ownBlock) : Below B w w' := by
  refine (Below.refl B w).grown hg hB fun g hg' => ?_
  rcases h.cases with ⟨rfl, _⟩ | ⟨g0, rfl, hb, _⟩
  · simp [Value.ownBlock] at hg'
  · simp [Value.ownBlock] at hg'; omega
theorem up_of_below {w0 w w' : World} {B : Nat} (hu : Up w0 w) (hb : Below B w w') (hB : w0.heap.size ≤ B) : Up w0 w' := Below.trans hu (hb.mono hB)
theorem below_at {w w' : World} {B b : Nat} (h : Below B w w') (hb : b < B) : ∀ o, w'.cell? ⟨b, o, none⟩ = w.cell? ⟨b, o, none⟩ := fun o => h.cell (p := ⟨b, o, none⟩) hb
theorem Rd.below {α : Type} {w w' : World} {B k : Nat} {en : α → List Value} {A : Option Addr} {cap : Nat} {l : List α} (h : Rd w k en A cap l) (hb : Below B w w') (hlt : ∀ b o, A = some ⟨b, o, none⟩ → b < B) : Rd w' k en A cap l :=
  ⟨h.le, h.max, fun hne => by
    obtain ⟨b, o, hA, hc⟩ := h.cells hne
    exact ⟨b, o, hA, fun i a hi j v hj => (hb.cell (p := ⟨b, _, none⟩) (hlt b o hA)).trans (hc i a hi j v hj)⟩⟩

section
variable {P : Program}
theorem run_load_agg (w : World) (b off : Nat) (ty : TypeId) (cs : Array Value) (d : TypeDesc) (hc : w.rangeAt b off cs.toList) (hu : P.underlying ty = some d) (hd : d.isRow = true) (hi : (P.info? ty).map (·.size) = some cs.size) :
    (loadVar ty ⟨b, off, none⟩).run P w = .ok (.agg cs) w := by
  have := run_loadVar_mid (P := P) w b off ty cs.toList d hc hu hd (by simpa using hi)
  simpa using this
/-- In a region that draws and only reads: a whole struct is loaded. -/
theorem wpQuiet_load_agg {ops : Array Oper} {C : World → Prop} {Q : Act → Prop} {a : Act} {o : Oper} {rest : List Oper} (ty : TypeId) (x : Operand) (ho : o.op = .load ty x) (hw : Region.wanted o (yielded ops a.tmps) = true)
    (b off : Nat) (hx : a.eval x = .pointer (some ⟨b, off, none⟩)) (cs : Array Value) (d : TypeDesc) (hC : ∀ w, C w → w.rangeAt b off cs.toList) (hu : P.underlying ty = some d) (hd : d.isRow = true) (hi : (P.info? ty).map (·.size) = some cs.size)
    (h : wpQuiet P ops C Q rest (a.put o.dst (.agg cs))) : wpQuiet P ops C Q (o :: rest) a :=
  BigFrame.wpQuiet_want hw fun K hK => ⟨.agg cs, fun w hCw => by
    unfold Oper.quietAt execOp
    simp only [ho, hx, Instr.loadAt, Instr.sureAddr, Sem.run_bind, Sem.run_pure, Result.andThen_ok, run_load_agg w b off ty cs d (hC w hCw) hu hd hi]
    exact ⟨rfl, rfl⟩, hK _ h⟩
/-- The same in a region that does not draw. -/
theorem wpList_load_agg {ops : Array Oper} {rest : List Oper} {o : Oper} {a : Act} {w : World} {Q : Exit → Act → World → Prop} (ty : TypeId) (x : Operand) (ho : o.op = .load ty x) (hw : Region.wanted o (yielded ops a.tmps) = true)
    (b off : Nat) (hx : a.eval x = .pointer (some ⟨b, off, none⟩)) (cs : Array Value) (d : TypeDesc) (hc : w.rangeAt b off cs.toList) (hu : P.underlying ty = some d) (hd : d.isRow = true) (hi : (P.info? ty).map (·.size) = some cs.size)
    (h : wpList P ops Q rest (a.put o.dst (.agg cs)) w) : wpList P ops Q (o :: rest) a w := by
  refine wpList_step fun K hK => ?_
  rw [if_pos hw]
  unfold Oper.wp execOp
  simp only [ho, hx, Instr.loadAt, Instr.sureAddr, Sem.run_bind, Sem.run_pure, Result.andThen_ok, run_load_agg w b off ty cs d hc hu hd hi]
  exact hK _ _ h
theorem rangeAt_drewN {w : World} {b o : Nat} {cs : List Value} (h : w.rangeAt b o cs) : ∀ w', (∃ n, w' = w.drewN n) → w'.rangeAt b o cs := by
  rintro w' ⟨n, rfl⟩; exact rangeAt_up h ((Up.refl w).drewN n)
/-- The cells of a block that is known whole. -/
theorem box_range {w w' : World} {c : Array Value} {t : TypeId} (h : Up (w.alloc (.cells c t)) w') : w'.rangeAt w.heap.size 0 c.toList := fun j v hv => by
  rw [h.box, Nat.zero_add]; simpa using hv
end

section
variable {P : Program}
/-- A whole struct goes into the block that was made last. -/
theorem wpList_store_new {ops : Array Oper} {rest : List Oper} {o : Oper} {a : Act} {w : World} {Q : Exit → Act → World → Prop} (ty : TypeId) (x y : Operand) (ho : o.op = .store ty x y) (hw : Region.wanted o (yielded ops a.tmps) = true)
    (hx : a.eval x = .pointer (some ⟨w.heap.size, 0, none⟩)) (cs : Array Value) (hy : a.eval y = .agg cs) (c : Array Value) (t : TypeId) (hi : (P.info? ty).map (·.size) = some cs.size) (hs : c.size = cs.size) (h1 : cs.all (·.oneCell') = true)
    (h : wpList P ops Q rest (a.put o.dst undef) (w.alloc (.cells cs t))) : wpList P ops Q (o :: rest) a (w.alloc (.cells c t)) := by
  refine wpList_step fun K hK => ?_
  rw [if_pos hw]
  have hrun := run_storeVar_row (P := P) (w.alloc (.cells c t)) w.heap.size t ty c cs (heap_alloc_new w _) hi hs h1
  rw [World.setRow_alloc_new] at hrun
  unfold Oper.wp execOp
  simp only [ho, hx, hy, Instr.storeAt, Instr.sureAddr, Sem.run_bind, Sem.run_pure, Result.andThen_ok, hrun]
  exact hK _ _ h
theorem run_callFunc_go {f : Nat} {fn : Func} (h1 : P.funcs[f]? = some fn) (h2 : (fn.name == "runtime.NumGoroutine") = false) (h3 : fn.body.isNone = false) (args : Array Value) (w : World) : (callFunc f args).run P w = .ok (.enter f args) w := by
  have h2' : ¬ fn.name = "runtime.NumGoroutine" := by simpa using h2
  have h3' : ¬ fn.body = none := by intro e; rw [e] at h3; cases h3
  simp [callFunc, h1, h2', h3']
end

theorem made_flat {α : Type} {k : Nat} {en : α → List Value} (hk : ∀ a, (en a).length = k) (hpos : 0 < k) (z : Array Value) (y : α) (hz : z.toList = en y) (n : Nat) : (madeCells z (n * k)).toList = (List.replicate n y).flatMap en := by
  have hzs : z.size = k := by rw [← Array.length_toList, hz, hk]
  apply List.ext_getElem?
  intro i
  by_cases hi : i < n * k
  · have hdiv : i / k < n := Nat.div_lt_of_lt_mul (by rw [Nat.mul_comm]; exact hi)
    have hmod : i % k < k := Nat.mod_lt _ hpos
    have hii : i / k * k + i % k = i := by rw [Nat.mul_comm]; exact Nat.div_add_mod i k
    have hf := flat_get hk (List.replicate n y) (i / k) (i % k) y (by simp [hdiv]) hmod
    rw [hii] at hf
    rw [hf, ← hz]
    have hm : i % k < z.size := by omega
    have h1 : (madeCells z (n * k)).toList[i]? = some (z[i % z.size]!) := by simp [madeCells, hi]
    rw [h1, hzs, getElem!_pos z (i % k) hm, Array.getElem?_toList, Array.getElem?_eq_getElem hm]
  · have e1 : (madeCells z (n * k)).toList[i]? = none := by simp [madeCells]; omega
    have e2 : ((List.replicate n y).flatMap en)[i]? = none := by rw [List.getElem?_eq_none_iff, flat_length hk]; simp; omega
    rw [e1, e2]
section
variable {α : Type} {P : Program}
/-- make([]T, n): n zero elements of the call's own. -/
theorem wpList_make {ops : Array Oper} {rest : List Oper} {o : Oper} {a : Act} {w : World} {Q : Exit → Act → World → Prop} (hg : o.guard = none) (l c : Operand) (t : TypeId) (hop : o.op = Op.makeSlice t l c)
    (B : Nat) (E : TypeId) (z : Value) (k bytes : Nat) (ht : P.underlying t = some (.slice E)) (hi : (P.info? E).map (fun i => (i.zero, i.size, i.bytes)) = some (some z, k, bytes)) (hpos : 0 < k)
    (en : α → List Value) (hk : ∀ a, (en a).length = k) (y : α) (hz : z.cells.toList = en y) (kl kc : IntKind) (L C : Int) (n : Nat) (hl : a.eval l = .int kl L) (hc : a.eval c = .int kc C) (hL : L = (n : Int)) (hC : C = (n : Int))
    (b2 : bytes * n ≤ 281474976710656) (b3 : n ≤ 9223372036854775807) (b4 : B ≤ w.heap.size)
    (h : ∀ w', Own w' B E k en (some ⟨w.heap.size, 0, none⟩) n (List.replicate n y) → w.grownBy w' none → wpList P ops Q rest (a.put o.dst (.slice (some ⟨w.heap.size, 0, none⟩) n n)) w') : wpList P ops Q (o :: rest) a w := by
  obtain ⟨i, hi1, hi2, hi3, hi4⟩ := info_parts hi
  refine wpList_make_full w hg l c t hop B E i z k ht hi1 hi2 hi3 kl kc L C n hl hc hL hC (by rw [hi4]; exact b2) (by unfold maxLen; omega) b4 fun w' h1 h2 => h w' ?_ h2
  rw [made_flat hk hpos z.cells y hz n] at h1
  unfold Own
  rw [List.length_replicate]
  exact h1
theorem set_flat {k : Nat} {en : α → List Value} (hk : ∀ a, (en a).length = k) : ∀ (l : List α) (i : Nat) (y : α), i < l.length → (l.set i y).flatMap en = (l.flatMap en).take (i * k) ++ en y ++ (l.flatMap en).drop (i * k + k)
  | [], i, y, h => by simp at h
  | x :: r, 0, y, _ => by
    simp only [List.set_cons_zero, List.flatMap_cons, Nat.zero_mul, List.take_zero, List.nil_append, Nat.zero_add]
    rw [List.drop_append_of_le_length (by rw [hk]; exact Nat.le_refl _), List.drop_of_length_le (by rw [hk]; exact Nat.le_refl _), List.nil_append]
  | x :: r, i + 1, y, h => by
    have ih := set_flat hk r i y (by simpa using h)
    simp only [List.set_cons_succ, List.flatMap_cons, ih]
    have e1 : (i + 1) * k = (en x).length + i * k := by rw [hk, Nat.succ_mul]; omega
    rw [e1, List.take_length_add_append, show (en x).length + i * k + k = (en x).length + (i * k + k) by omega, List.drop_length_add_append]
    simp [List.append_assoc]
theorem run_storeVar_own (w : World) {B : Nat} {E : TypeId} {k : Nat} {en : α → List Value} (hk : ∀ a, (en a).length = k) {g cap : Nat} {l : List α} (hown : Own w B E k en (some ⟨g, 0, none⟩) cap l) {i : Nat} (hi : i < l.length) (off : Nat) (hoff : off = i * k)
    (ty : TypeId) (v : Value) (y : α) (hv : v.cells.toList = en y) (hty : (P.info? ty).map (·.size) = some k) (h1 : ∀ u ∈ en y, u.oneCell' = true) :
    ∃ w', (storeVar ty ⟨g, off, none⟩ v).run P w = .ok () w' ∧ Own w' B E k en (some ⟨g, 0, none⟩) cap (l.set i y) ∧ w.grownBy w' (some g) := by
  subst hoff
  rcases hown.2 with ⟨hv', hn⟩ | ⟨g', c, cur, hv', hb, hg, hle, hmax, hcs, htake⟩
  · injection hv' with e1 e2 e3; cases e1
  · injection hv' with e1 e2 e3
    injection e1 with e1
    injection e1 with e1
    subst e1; subst e3
    have hFl : (l.flatMap en).length = l.length * k := flat_length hk l
    have hik : i * k + k ≤ l.length * k := by rw [← Nat.succ_mul]; exact Nat.mul_le_mul_right k hi
    have hck : l.length * k ≤ cap * k := Nat.mul_le_mul_right k hle
    have hys : (en y).length = k := hk y
    have hst := run_storeCells_at P g (i * k) E (en y) 0 cur w hg (by rw [hys, hcs]; omega) h1
    have hsz : v.cells.size = k := by rw [← Array.length_toList, hv, hys]
    have hrun : (storeVar ty ⟨g, i * k, none⟩ v).run P w = .ok () (w.setRow g (cur.toList.take (i * k + 0) ++ en y ++ cur.toList.drop (i * k + 0 + (en y).length)).toArray) := by
      cases hq : P.info? ty with
      | none => simp [hq] at hty
      | some inf =>
        have hs : inf.size = k := by simpa [hq] using hty
        simp [storeVar, sizeOf, typeInfo, hq, hsz, hs, hv, hst]
    refine ⟨_, hrun, ⟨?_, .inr ⟨g, cap, _, ?_, hb, setRow_heap w g cur _ E _ hg, ?_, hmax, ?_, ?_⟩⟩, ⟨rfl, rfl, rfl, by simp, fun j _ hj => setRow_other w g j _ (fun e => hj (by simp [e]))⟩⟩
    · rw [flat_length hk]
    · simp
    · simpa using hle
    · simp only [List.size_toArray, List.length_append, List.length_take, List.length_drop, Array.length_toList, hys, hcs]; omega
    · have hcur : cur.toList = l.flatMap en ++ cur.toList.drop (l.length * k) := by
        rw [← htake, List.take_append_drop]
      rw [set_flat hk l i y hi, List.length_set]
      simp only [Nat.add_zero, hys]
      rw [hcur]
      generalize cur.toList.drop (l.length * k) = r
      have t1 : (l.flatMap en ++ r).take (i * k) = (l.flatMap en).take (i * k) := List.take_append_of_le_length (by rw [hFl]; omega)
      have t2 : (l.flatMap en ++ r).drop (i * k + k) = (l.flatMap en).drop (i * k + k) ++ r := List.drop_append_of_le_length (by rw [hFl]; omega)
      rw [t1, t2, ← List.append_assoc]
      refine List.take_left' ?_
      simp only [List.length_append, List.length_take, List.length_drop, hFl, hys]; omega
/-- out[i] = x, out of the call's own. -/
theorem wpList_store_own {ops : Array Oper} {rest : List Oper} {o : Oper} {a : Act} {w : World} {Q : Exit → Act → World → Prop} (ty : TypeId) (x y : Operand) (ho : o.op = .store ty x y) (hw : Region.wanted o (yielded ops a.tmps) = true)
    (g off : Nat) (hx : a.eval x = .pointer (some ⟨g, off, none⟩)) (v : Value) (hy : a.eval y = v) {B : Nat} {E : TypeId} {k : Nat} {en : α → List Value} (hk : ∀ a, (en a).length = k) {cap : Nat} {l : List α} (hown : Own w B E k en (some ⟨g, 0, none⟩) cap l) {i : Nat} (hi : i < l.length) (hoff : off = i * k)
    (q : α) (hv : v.cells.toList = en q) (hty : (P.info? ty).map (·.size) = some k) (h1 : ∀ u ∈ en q, u.oneCell' = true)
    (h : ∀ w', Own w' B E k en (some ⟨g, 0, none⟩) cap (l.set i q) → w.grownBy w' (some g) → wpList P ops Q rest (a.put o.dst undef) w') : wpList P ops Q (o :: rest) a w := by
  obtain ⟨w', hrun, h2, h3⟩ := run_storeVar_own (P := P) w hk hown hi off hoff ty v q hv hty h1
  refine wpList_step fun K hK => ?_
  rw [if_pos hw]
  unfold Oper.wp execOp
  simp only [ho, hx, hy, Instr.storeAt, Instr.sureAddr, Sem.run_bind, Sem.run_pure, Result.andThen_ok, hrun]
  exact hK _ _ (h w' h2 h3)
end

end Go.Proofs.Ytnniiphfbjbjdaa
