/- Lemmas and contracts (Open Up M1 Data Brg Brx Arx); conditions: none. -/
import Derived.Test.YtgjjedpoclhkfaaGreatDoorK03
import Derived.Test.YtgjjedpoclhkfaaGreatDoorK04
import Derived.Test.YtgjjedpoclhkfaaGreatDoorK08
import Derived.OpenShut
import Derived.WalkKit
import Derived.ProofKit
import Derived.WalkLawsBesides
import Derived.Lib.Hide
import Derived.Deep.QuietTactic
import Derived.BigQuiet
import Derived.Deep.Light
import Derived.Handy
import Derived.ChangeOld
import Derived.ShutString
import Derived.Deep.Slices
import Derived.Deep.MidRow
import Derived.Below
import Derived.Laws.CopyOwn
namespace Go.Proofs.YtgjjedpoclhkfaaGreatDoor
set_option maxRecDepth 100000
open Go.ChangeShapes Go.WideShapes Go.ChangeAt Go.RowKit
set_option linter.unusedVariables false
set_option linter.unusedSimpArgs false
open Go.Deep Go.ChangeShapes Go.WideShapes Go.ChangeAt Go.RowKit

/-- The reading of a type's cells, one leaf after the other. -/
def LeafAll (R : TypeId → Value → Prop) : List TypeId → List Value → Prop
  | [], [] => True
  | t :: ts, v :: vs => R t v ∧ LeafAll R ts vs
  | _, _ => False
theorem LeafAll.append {R : TypeId → Value → Prop} : ∀ {a : List TypeId} {c : List Value} {b : List TypeId} {d : List Value}, LeafAll R a c → LeafAll R b d → LeafAll R (a ++ b) (c ++ d)
  | [], [], _, _, _, h => h
  | _ :: _, _ :: _, _, _, h, k => ⟨h.1, LeafAll.append h.2 k⟩
def leaves (P : Program) : Nat → TypeId → List TypeId
  | 0, t => [t]
  | n + 1, t => match P.underlying t with
    | some (.struct fs) => fs.toList.flatMap fun f => leaves P n f.type
    | _ => [t]
def contig (P : Program) (tot : Nat) : Nat → List Field → Bool
  | off, [] => off == tot
  | off, f :: r => f.offset == off && contig P tot (off + P.cellsOf f.type) r
def leafOk (P : Program) : Nat → TypeId → Bool
  | 0, t => match P.underlying t with
    | some (.int _) => true | some .bool => true | some .string => true | some (.slice _) => true | _ => false
  | n + 1, t => match P.underlying t with
    | some (.struct fs) => contig P (P.cellsOf t) 0 fs.toList && fs.toList.all fun f => leafOk P n f.type
    | some (.int _) => true | some .bool => true | some .string => true | some (.slice _) => true | _ => false
section
variable {H : Type} {enc : TypeId × Value → H} {P : Program} {w : World} {base : Nat} {spare : Nat → Bool} {held : Bool}
def LeafRd (enc : TypeId × Value → H) (P : Program) (w : World) (base : Nat) (spare : Nat → Bool) (held : Bool) (u : TypeId) (v : Value) : Prop := ∃ m y, DataW.trod enc P w base spare held m u [v] = some y
theorem leaf_one {t : TypeId} {fuel : Nat} {cs : List Value} {x : DataW H × List MemPlace} (h : leafOk P 0 t = true) (hx : DataW.trod enc P w base spare held fuel t cs = some x) : LeafAll (LeafRd enc P w base spare held) [t] cs := by
  have key : ∃ v, cs = [v] := by
    unfold leafOk at h
    split at h
    · rename_i k hk; obtain ⟨n, hc, _⟩ := DataW.trod_int hk hx; exact ⟨_, hc⟩
    · rename_i hk; obtain ⟨n, hc, _⟩ := DataW.trod_bool hk hx; exact ⟨_, hc⟩
    · rename_i hk; obtain ⟨n, hc, _⟩ := DataW.trod_string hk hx; exact ⟨_, hc⟩
    · rename_i e hk
      rcases open_slice hk hx with ⟨hc, _⟩ | ⟨a, len, cap, m, n, D, Pl, hc, _⟩
      · exact ⟨_, hc⟩
      · exact ⟨_, hc⟩
    · cases h
  obtain ⟨v, rfl⟩ := key
  exact ⟨⟨_, _, hx⟩, trivial⟩
theorem leaf_open : ∀ (n : Nat) (t : TypeId) (fuel : Nat) (cs : List Value) (x : DataW H × List MemPlace), leafOk P n t = true → DataW.trod enc P w base spare held fuel t cs = some x → LeafAll (LeafRd enc P w base spare held) (leaves P n t) cs := by
  intro n
  induction n with
  | zero => intro t fuel cs x h hx; exact leaf_one h hx
  | succ n ih =>
    intro t fuel cs x h hx
    have hstruct : ∀ fs, P.underlying t = some (.struct fs) → LeafAll (LeafRd enc P w base spare held) (leaves P (n + 1) t) cs := by
      intro fs ht
      have h' := h
      unfold leafOk at h'
      rw [ht] at h'
      simp only [Bool.and_eq_true, List.all_eq_true] at h'
      obtain ⟨hcon, hall⟩ := h'
      obtain ⟨xs, m, _, _, hlen, hxl, hf⟩ := DataW.trod_struct ht hx
      have hrd : ∀ f ∈ fs.toList, ∃ y, DataW.trod enc P w base spare held m f.type ((cs.drop f.offset).take (P.cellsOf f.type)) = some y := by
        intro f hm
        obtain ⟨i, hi, he⟩ := List.mem_iff_getElem.1 hm
        have hi' : i < fs.size := by simpa using hi
        have := hf i f (by rw [← he]; simp)
        rw [this]
        exact ⟨_, List.getElem?_eq_getElem (by omega)⟩
      have go : ∀ (l : List Field) (off : Nat), contig P (P.cellsOf t) off l = true → (∀ f ∈ l, ∃ y, DataW.trod enc P w base spare held m f.type ((cs.drop f.offset).take (P.cellsOf f.type)) = some y) → (∀ f ∈ l, leafOk P n f.type = true) →
          LeafAll (LeafRd enc P w base spare held) (l.flatMap fun f => leaves P n f.type) (cs.drop off) := by
        intro l
        induction l with
        | nil =>
          intro off hc _ _
          simp only [contig, beq_iff_eq] at hc
          rw [List.drop_of_length_le (by omega)]
          trivial
        | cons f r ihl =>
          intro off hc hr ho
          simp only [contig, Bool.and_eq_true, beq_iff_eq] at hc
          obtain ⟨hc1, hc2⟩ := hc
          obtain ⟨y, hy⟩ := hr f (by simp)
          rw [hc1] at hy
          have a1 := ih f.type m _ y (ho f (by simp)) hy
          have a2 := ihl (off + P.cellsOf f.type) hc2 (fun g hg => hr g (by simp [hg])) (fun g hg => ho g (by simp [hg]))
          have := a1.append a2
          rw [← List.drop_drop, List.take_append_drop] at this
          simpa using this
      have := go fs.toList 0 hcon hrd hall
      simp only [leaves, ht]
      simpa using this
    cases hu : P.underlying t with
    | none => unfold leafOk at h; rw [hu] at h; cases h
    | some d =>
      cases d with
      | struct fs => exact hstruct fs hu
      | int k => have e : leaves P (n + 1) t = [t] := by simp [leaves, hu]
                 rw [e]; exact leaf_one (by simp [leafOk, hu]) hx
      | bool => have e : leaves P (n + 1) t = [t] := by simp [leaves, hu]
                rw [e]; exact leaf_one (by simp [leafOk, hu]) hx
      | string => have e : leaves P (n + 1) t = [t] := by simp [leaves, hu]
                  rw [e]; exact leaf_one (by simp [leafOk, hu]) hx
      | slice s => have e : leaves P (n + 1) t = [t] := by simp [leaves, hu]
                   rw [e]; exact leaf_one (by simp [leafOk, hu]) hx
      | _ => unfold leafOk at h; rw [hu] at h; cases h
end

section
variable {H : Type} {enc : TypeId × Value → H} {P : Program} {w : World} {base : Nat} {spare : Nat → Bool} {held : Bool}
end

end Go.Proofs.YtgjjedpoclhkfaaGreatDoor

namespace Go.Proofs.YtgjjedpoclhkfaaGreatDoor
set_option maxRecDepth 100000
open Go.ChangeShapes Go.WideShapes Go.ChangeAt Go.RowKit
set_option linter.unusedVariables false
set_option linter.unusedSimpArgs false
open Go.RowKit

/-- Nothing that was there has turned. -/
def Up (w w' : World) : Prop := Below w.heap.size w w'
theorem Up.refl (w : World) : Up w w := Below.refl _ _
theorem Up.size {w w' : World} (h : Up w w') : w.heap.size ≤ w'.heap.size := Below.size h
theorem Up.trans {a b c : World} (h : Up a b) (k : Up b c) : Up a c := Below.trans h (Below.mono k h.size)
theorem Up.alloc {a w : World} (h : Up a w) (o : Obj) : Up a (w.alloc o) := Below.alloc h h.size o
theorem Up.drew {a w : World} (h : Up a w) : Up a w.drew := Below.drew h
theorem Up.drewN {a w : World} (h : Up a w) : ∀ n, Up a (w.drewN n)
  | 0 => h
  | n + 1 => ⟨h.os, h.tape, h.output, h.size, h.block⟩
theorem Up.setCell {a w : World} (h : Up a w) {p : Addr} (hp : a.heap.size ≤ p.block) (u : Value) : Up a (w.setCell p u) := Below.setCell h hp u
theorem Up.store {a w : World} (h : Up a w) {b o : Nat} (hp : a.heap.size ≤ b) (u : Value) : Up a (w.setCell ⟨b, o, none⟩ u) := Up.setCell h hp u
theorem Up.row {a w : World} (h : Up a w) {L : Nat} (hp : a.heap.size ≤ L) (cs : Array Value) : Up a (w.setRow L cs) := below_setRow h hp cs
theorem Up.grown {a w w' : World} {row : Option Nat} (h : Up a w) (hg : w.grownBy w' row) (hr : ∀ k, row = some k → a.heap.size ≤ k) : Up a w' := Below.grown h hg h.size hr
theorem Up.below {w w' : World} (h : Up w w') : Below w.heap.size w w' := h
theorem Up.block {w w' : World} (h : Up w w') {k : Nat} {o : Obj} (hk : w.heap[k]? = some o) : w'.heap[k]? = some o := by
  have hlt : k < w.heap.size := (Array.getElem?_eq_some_iff.1 hk).1
  exact (Below.block h k hlt).trans hk
theorem Up.cell {w w' : World} (h : Up w w') {p : Addr} {v : Value} (hv : w.cell? p = some v) : w'.cell? p = some v :=
  (Below.cell h (World.block_lt_of_cell? w p hv)).trans hv
theorem Up.box {w w' : World} {c : Array Value} {t : TypeId} (h : Up (w.alloc (.cells c t)) w') : ∀ o, w'.cell? ⟨w.heap.size, o, none⟩ = c[o]? := fun o => by
  have h1 : (w.alloc (.cells c t)).heap[w.heap.size]? = some (.cells c t) := heap_alloc_new w _
  have h2 := h.block h1
  exact cell_of_row w' w.heap.size o c t (0, 0) h2
end Go.Proofs.YtgjjedpoclhkfaaGreatDoor

namespace Go.Proofs.YtgjjedpoclhkfaaGreatDoor

def inB (x a b : Int) : Bool := decide (a ≤ x ∧ x ≤ b)
end Go.Proofs.YtgjjedpoclhkfaaGreatDoor

namespace Go.Proofs.YtgjjedpoclhkfaaGreatDoor
set_option maxRecDepth 100000
open Go.ChangeShapes Go.WideShapes Go.ChangeAt Go.RowKit
set_option linter.unusedVariables false
set_option linter.unusedSimpArgs false
open Go.Deep

structure Arms where
  (fd fl ff fs o l t c1 k1 a1 t1 c2 k2 a2 t2 : Int)
def Arms.list (A : Arms) : List Int := [A.fd, A.fl, A.ff, A.fs, A.o, A.l, A.t, A.c1, A.k1, A.a1, A.t1, A.c2, A.k2, A.a2, A.t2]
theorem Arms.list_inj {A B : Arms} (h : A.list = B.list) : A = B := by
  cases A; cases B; simp [Arms.list] at h; simp [h]
instance : DecidableEq Arms := fun A B => decidable_of_iff (A.list = B.list) ⟨Arms.list_inj, fun h => by rw [h]⟩
/-- The cells of arms. -/
def Arms.arr (A : Arms) : Array Value := (A.list.map (Value.int .i64)).toArray
@[simp, go_sem] theorem Arms.arr_size (A : Arms) : A.arr.size = 15 := id rfl
@[simp, go_sem] theorem Arms.arr_0 (A : Arms) : A.arr[0]? = some (.int .i64 A.fd) := id rfl
@[simp, go_sem] theorem Arms.arr_1 (A : Arms) : A.arr[1]? = some (.int .i64 A.fl) := id rfl
@[simp, go_sem] theorem Arms.arr_2 (A : Arms) : A.arr[2]? = some (.int .i64 A.ff) := id rfl
@[simp, go_sem] theorem Arms.arr_3 (A : Arms) : A.arr[3]? = some (.int .i64 A.fs) := id rfl
@[simp, go_sem] theorem Arms.arr_4 (A : Arms) : A.arr[4]? = some (.int .i64 A.o) := id rfl
@[simp, go_sem] theorem Arms.arr_5 (A : Arms) : A.arr[5]? = some (.int .i64 A.l) := id rfl
@[simp, go_sem] theorem Arms.arr_6 (A : Arms) : A.arr[6]? = some (.int .i64 A.t) := id rfl
@[simp, go_sem] theorem Arms.arr_7 (A : Arms) : A.arr[7]? = some (.int .i64 A.c1) := id rfl
@[simp, go_sem] theorem Arms.arr_8 (A : Arms) : A.arr[8]? = some (.int .i64 A.k1) := id rfl
@[simp, go_sem] theorem Arms.arr_9 (A : Arms) : A.arr[9]? = some (.int .i64 A.a1) := id rfl
@[simp, go_sem] theorem Arms.arr_10 (A : Arms) : A.arr[10]? = some (.int .i64 A.t1) := id rfl
@[simp, go_sem] theorem Arms.arr_11 (A : Arms) : A.arr[11]? = some (.int .i64 A.c2) := id rfl
@[simp, go_sem] theorem Arms.arr_12 (A : Arms) : A.arr[12]? = some (.int .i64 A.k2) := id rfl
@[simp, go_sem] theorem Arms.arr_13 (A : Arms) : A.arr[13]? = some (.int .i64 A.a2) := id rfl
@[simp, go_sem] theorem Arms.arr_14 (A : Arms) : A.arr[14]? = some (.int .i64 A.t2) := id rfl
@[simp, go_sem] theorem Arms.arr_g0 (A : Arms) (h : 0 < A.arr.size) : A.arr[0] = .int .i64 A.fd := id rfl
@[simp, go_sem] theorem Arms.arr_g1 (A : Arms) (h : 1 < A.arr.size) : A.arr[1] = .int .i64 A.fl := id rfl
@[simp, go_sem] theorem Arms.arr_g2 (A : Arms) (h : 2 < A.arr.size) : A.arr[2] = .int .i64 A.ff := id rfl
@[simp, go_sem] theorem Arms.arr_g3 (A : Arms) (h : 3 < A.arr.size) : A.arr[3] = .int .i64 A.fs := id rfl
@[simp, go_sem] theorem Arms.arr_g4 (A : Arms) (h : 4 < A.arr.size) : A.arr[4] = .int .i64 A.o := id rfl
@[simp, go_sem] theorem Arms.arr_g5 (A : Arms) (h : 5 < A.arr.size) : A.arr[5] = .int .i64 A.l := id rfl
@[simp, go_sem] theorem Arms.arr_g6 (A : Arms) (h : 6 < A.arr.size) : A.arr[6] = .int .i64 A.t := id rfl
@[simp, go_sem] theorem Arms.arr_g7 (A : Arms) (h : 7 < A.arr.size) : A.arr[7] = .int .i64 A.c1 := id rfl
@[simp, go_sem] theorem Arms.arr_g8 (A : Arms) (h : 8 < A.arr.size) : A.arr[8] = .int .i64 A.k1 := id rfl
@[simp, go_sem] theorem Arms.arr_g9 (A : Arms) (h : 9 < A.arr.size) : A.arr[9] = .int .i64 A.a1 := id rfl
@[simp, go_sem] theorem Arms.arr_g10 (A : Arms) (h : 10 < A.arr.size) : A.arr[10] = .int .i64 A.t1 := id rfl
@[simp, go_sem] theorem Arms.arr_g11 (A : Arms) (h : 11 < A.arr.size) : A.arr[11] = .int .i64 A.c2 := id rfl
@[simp, go_sem] theorem Arms.arr_g12 (A : Arms) (h : 12 < A.arr.size) : A.arr[12] = .int .i64 A.k2 := id rfl
@[simp, go_sem] theorem Arms.arr_g13 (A : Arms) (h : 13 < A.arr.size) : A.arr[13] = .int .i64 A.a2 := id rfl
@[simp, go_sem] theorem Arms.arr_g14 (A : Arms) (h : 14 < A.arr.size) : A.arr[14] = .int .i64 A.t2 := id rfl
def Arms.cells (A : Arms) : List Value := A.arr.toList
instance : Inhabited Arms := ⟨⟨0, 0, 0, 0, 0, 0, 0, 0, 0, 0, 0, 0, 0, 0, 0⟩⟩
theorem Arms.one (A : Arms) : A.arr.all (·.oneCell') = true := by simp [Arms.arr, Arms.list, Value.oneCell']

section
variable {H : Type} {enc : TypeId × Value → H} {P : Program} {w : World} {base : Nat} {spare : Nat → Bool} {held : Bool}
end

def goodG (c k a t : Int) : Bool := inB c 1 6 && inB k 1 8 && inB t 1 9 && (if k ≤ 3 then inB a 1 2 else decide (a = 0))
def noneG (c k a t : Int) : Bool := decide (c = 0 ∧ k = 0 ∧ a = 0 ∧ t = 0)
def okG (c k a t : Int) : Bool := noneG c k a t || goodG c k a t
end Go.Proofs.YtgjjedpoclhkfaaGreatDoor

set_option linter.unusedVariables false
set_option linter.unusedSimpArgs false
set_option maxRecDepth 100000
set_option maxHeartbeats 4000000
set_option cbv.maxSteps 3000000
namespace Go.Proofs.YtgjjedpoclhkfaaGreatDoor.AM
/- From a law's contract to the walk that lift.py asks for; conditions: none. -/
theorem lowOk : Tryz.prog.globals.size < Tryz.prog.low := by decide +kernel
end Go.Proofs.YtgjjedpoclhkfaaGreatDoor.AM

set_option linter.unusedVariables false
set_option linter.unusedSimpArgs false
set_option maxRecDepth 100000
set_option maxHeartbeats 4000000
set_option cbv.maxSteps 3000000
namespace Go.Proofs.YtgjjedpoclhkfaaGreatDoor.AM
/- From an exact law's contract to the walk that lift.py asks for; conditions: none. -/
def cx0 (w : World) : Cx := ⟨id, fun _ => False, fun _ => False, w⟩
theorem law_ofX {f : FuncId} {args : List AV} {vs : List Value} {w : World} (h : ConN Tryz.prog f args [] 0 (.lit (.bool true)) [] []) (hl : LRel (cx0 w) args vs) (hsh : w.ShapedOpen Tryz.prog) (hld : Laid w := by exact ⟨fun x hx => (by cases hx), fun n hn => (by cases hn)⟩) : Calls Tryz.prog f vs.toArray w (fun e w' => e = .returned (.bool true) ∧ Up w w') := by
  refine (h (cx0 w) vs hl (by simp [lk]) (by simp [lk]) (glo0 lowOk hsh hld) (fun i _ _ => fun h => h)).mono fun e w' ⟨cv, he, C', ha⟩ => ?_
  have hv := ha.val _ rfl
  cases hv
  refine ⟨he, Up.grown (Up.refl w) (row := none) ⟨?_, ?_, ?_, ?_, fun k hk _ => ?_⟩ (by simp)⟩
  · have := ha.ext.wx.os; rw [ha.w] at this; exact this
  · have := ha.ext.wx.tape; rw [ha.w] at this; exact this
  · have := ha.ext.wx.output; rw [ha.w] at this; exact this
  · have := ha.ext.wx.size; rw [ha.w] at this; exact this
  · have := ha.ext.wx.same k hk (by simp); rw [ha.w] at this; exact this
end Go.Proofs.YtgjjedpoclhkfaaGreatDoor.AM

set_option linter.unusedVariables false
set_option linter.unusedSimpArgs false
set_option maxRecDepth 100000
set_option maxHeartbeats 4000000
set_option cbv.maxSteps 3000000
namespace Go.Proofs.YtgjjedpoclhkfaaGreatDoor.AM
/- Arguments of whatever type, seen from how they read; conditions: none. -/
theorem LRel.one {C : Cx} {x : AV} {v : Value} (h : LRel C [x] [v]) : Rel C x v := h.2 0 x v rfl rfl
theorem add_add (b o n c : Nat) : ((⟨b, o, none⟩ : Addr).add n).add c = ⟨b, o + n + c, none⟩ := by
  unfold Addr.add
  by_cases h1 : n = 0 <;> by_cases h2 : c = 0 <;> simp [h1, h2]
theorem ch_lt {α : Type} [Inhabited α] {n : Nat} {p : Nat → α → Prop} (h : ∀ i, i < n → ∃ x, p i x) : ∃ f : Nat → α, ∀ i, i < n → p i (f i) :=
  ⟨fun i => if hi : i < n then Classical.choose (h i hi) else default, fun i hi => by simp only [dif_pos hi]; exact Classical.choose_spec (h i hi)⟩
theorem leaf_cons {R : TypeId → Value → Prop} {t : TypeId} {ts : List TypeId} {cs : List Value} (h : LeafAll R (t :: ts) cs) : ∃ c r, cs = c :: r ∧ R t c ∧ LeafAll R ts r := by
  cases cs with
  | nil => exact h.elim
  | cons c r => exact ⟨c, r, rfl, h.1, h.2⟩
theorem leaf_nil {R : TypeId → Value → Prop} {cs : List Value} (h : LeafAll R [] cs) : cs = [] := by
  cases cs with
  | nil => rfl
  | cons c r => exact h.elim
section
variable {H : Type} {enc : TypeId × Value → H} {w : World}
/-- What reads as a value of this type holds the cells of a row of this kind. -/
def RTy {H : Type} (enc : TypeId × Value → H) (w : World) (t : TypeId) {α : Type} (D : RowD α) (G : α → Prop) : Prop := ∀ (base : Nat) (spare : Nat → Bool) (held : Bool) (m : Nat) (cs : List Value) (y : DataW H × List MemPlace), DataW.trod enc Tryz.prog w base spare held m t cs = some y → ∃ a : α, LRel (cx0 w) (D.cells stdH fun _ => a) cs ∧ (∀ v ∈ cs, v.oneCell' = true) ∧ G a
theorem rt_int {t : TypeId} (ht : (Tryz.prog).underlying t = some (.int .i64)) : RTy enc w t rowI (fun _ => True) := fun base spare held m cs y h => by
  obtain ⟨n, rfl, _, _⟩ := DataW.trod_int ht h
  exact ⟨n, .cons (.lit rfl) (.nil _), (fun v hv => by rw [List.mem_singleton] at hv; subst hv; rfl), trivial⟩
theorem rt_str {t : TypeId} (ht : (Tryz.prog).underlying t = some .string) : RTy enc w t rowS (fun s => s.size ≤ 9223372036854775807) := fun base spare held m cs y h => by
  obtain ⟨n, rfl, _, hz⟩ := DataW.trod_string ht h
  exact ⟨n, .cons (.lit rfl) (.nil _), (fun v hv => by rw [List.mem_singleton] at hv; subst hv; rfl), (by unfold maxLen at hz; omega)⟩
theorem rt_sl {t e : TypeId} {α : Type} {D : RowD α} (ok : RowOk D) (ht : (Tryz.prog).underlying t = some (.slice e)) (hk : (Tryz.prog).cellsOf e = D.k) (hp : 0 < D.k) {G : α → Prop} (he : RTy enc w e D G) : RTy enc w t (rowL D) (fun l => l.length ≤ 9223372036854775807 ∧ ∀ a ∈ l, G a) := fun base spare held m cs y h => by
  rcases DataW.trod_slice ht h with ⟨rfl, _⟩ | ⟨a, len, cap, elems, rest, n, _, rfl, _, _, hl, hm, hlen, hel, _⟩
  · refine ⟨[], .cons (.vec (fun _ _ => .bool false) (Nat.le_refl 0) (Nat.zero_le _) (fun j hj => absurd hj (Nat.not_lt_zero j)) (fun h => absurd h (Nat.lt_irrefl 0)) (fun j c hj => absurd hj (Nat.not_lt_zero j)) (fun j c x hj => absurd hj (Nat.not_lt_zero j))) (.nil _), (fun v hv => by rw [List.mem_singleton] at hv; subst hv; rfl), Nat.zero_le _, fun a h => by cases h⟩
  · rw [hk] at hel
    have h1 : ∀ i, i < len → ∃ q : List Value × α, w.cells? base (a.add (i * D.k)) D.k = some q.1 ∧ LRel (cx0 w) (D.cells stdH fun _ => q.2) q.1 ∧ (∀ v ∈ q.1, v.oneCell' = true) ∧ G q.2 := fun i hi => by
      have h2 := hel i hi
      rw [List.getElem?_eq_getElem (by omega)] at h2
      obtain ⟨cs, h3, h4⟩ := Option.bind_eq_some_iff.1 h2
      obtain ⟨x, h5, h6⟩ := he _ _ _ _ _ _ h4
      exact ⟨(cs, x), h3, h5, h6⟩
    have : Inhabited α := ⟨D.d⟩
    obtain ⟨f, hf⟩ := ch_lt h1
    have hlf : ((List.range len).map fun i => (f i).2).length = len := by rw [List.length_map, List.length_range]
    have hlk : ∀ j, j < len → (f j).1.length = D.k := fun j hj => by rw [(hf j hj).2.1.1]; exact ok.len _
    refine ⟨(List.range len).map fun i => (f i).2, .cons ?_ (.nil _), (fun v hv => by rw [List.mem_singleton] at hv; subst hv; rfl), by rw [hlf]; unfold maxLen at hm; omega, fun a ha => by
      obtain ⟨i, hi, rfl⟩ := List.mem_map.1 ha
      exact (hf i (List.mem_range.1 hi)).2.2.2⟩
    have hrow : ∀ j, j < len → rowsT D stdH (fun _ => (List.range len).map fun i => (f i).2) j = D.cells stdH fun _ => (f j).2 := fun j hj => by
      rw [rowsT, ok.row, List.getD_eq_getElem?_getD, List.getElem?_map, List.getElem?_range hj]; rfl
    show Rel (cx0 w) (.vec D.k ((List.range len).map fun i => (f i).2).length _) _
    rw [hlf]
    refine .vec (fun j c => (f j).1.getD c (.bool false)) hl hm (fun j hj => ?_) (fun h0 => ?_) (fun j c hj hc => ?_) (fun j c x hj hx => ?_)
    · rw [hrow j hj]; exact ok.len _
    · obtain ⟨b, o, sp⟩ := a
      have hsp : sp = none := by
        obtain ⟨_, hcl, hat⟩ := World.cells?_some (hf 0 h0).1
        have h00 := hat 0 (by omega)
        rw [List.getElem?_eq_getElem (by rw [hlk 0 h0]; exact hp)] at h00
        simpa [Addr.add] using World.cell?_spot h00
      subst hsp
      have cell : ∀ j c, j < len → c < D.k → w.cell? ⟨b, o + j * D.k + c, none⟩ = some ((f j).1.getD c (.bool false)) := fun j c hj hc => by
        obtain ⟨_, hcl, hat⟩ := World.cells?_some (hf j hj).1
        have h00 := hat c (by omega)
        rw [List.getD_eq_getElem?_getD, List.getElem?_eq_getElem (by rw [hlk j hj]; exact hc), Option.getD_some]
        rw [List.getElem?_eq_getElem (by rw [hlk j hj]; exact hc)] at h00
        rw [add_add] at h00
        exact h00
      exact ⟨b, o, rfl, fun h => h, World.block_lt_of_cell? w _ (cell 0 0 h0 hp), cell⟩
    · rw [List.getD_eq_getElem?_getD, List.getElem?_eq_getElem (by rw [hlk j hj]; exact hc), Option.getD_some]
      exact (hf j hj).2.2.1 _ (List.getElem_mem _)
    · rw [hrow j hj] at hx
      have hlt := (List.getElem?_eq_some_iff.1 hx).1
      have hc : c < (f j).1.length := by rw [(hf j hj).2.1.1]; exact hlt
      rw [List.getD_eq_getElem?_getD, List.getElem?_eq_getElem hc, Option.getD_some]
      exact (hf j hj).2.1.2 c x _ hx (List.getElem?_eq_getElem hc)
theorem RTy.agg {t : TypeId} {α : Type} {D : RowD α} {G : α → Prop} (h : RTy enc w t D G) {base : Nat} {spare : Nat → Bool} {held : Bool} {m : Nat} {cs : Array Value} {y : DataW H × List MemPlace} (hy : DataW.trod enc Tryz.prog w base spare held m t (Value.agg cs).cells.toList = some y) : ∃ a : α, Rel (cx0 w) (aT D stdH fun _ => a) (.agg cs) ∧ G a := by
  obtain ⟨a, h1, h2, h4⟩ := h _ _ _ _ _ _ hy
  refine ⟨a, ?_, h4⟩
  have h3 : Rel (cx0 w) (.agg (D.cells stdH fun _ => a)) (.agg (Value.agg cs).cells.toList.toArray) := Rel.agg h1.1 h2 h1.2
  have e : (Value.agg cs).cells.toList.toArray = cs := by simp [Value.cells]
  rw [e] at h3
  exact h3
theorem RTy.row {t : TypeId} {α : Type} {D : RowD α} {G : List α → Prop} (h : RTy enc w t (rowL D) G) {base : Nat} {spare : Nat → Bool} {held : Bool} {m : Nat} {v : Value} {y : DataW H × List MemPlace} (hy : DataW.trod enc Tryz.prog w base spare held m t v.cells.toList = some y) (hv : ∃ a len cap, v = .slice a len cap) : ∃ l : List α, Rel (cx0 w) (vT D stdH fun _ => l) v ∧ G l := by
  obtain ⟨a, len, cap, rfl⟩ := hv
  obtain ⟨l, h1, h2, h4⟩ := h _ _ _ _ _ _ hy
  exact ⟨l, LRel.one (by
    have e : (Value.slice a len cap).cells.toList = [Value.slice a len cap] := by simp [Value.cells]
    rw [e] at h1
    exact h1), h4⟩
end
section
variable {H : Type} {enc : TypeId × Value → H} {w : World}
end

end Go.Proofs.YtgjjedpoclhkfaaGreatDoor.AM

