/- Lemmas and contracts (ALParseRegister Open Up M1 Data Brg Brx LParseRegister); conditions: none. -/
import Derived.Test.YtbnohmfapmeaaaaGreatDoorK03
import Derived.Test.YtbnohmfapmeaaaaGreatDoorK09
import Derived.Test.YtbnohmfapmeaaaaGreatDoorK10
import Derived.Test.YtbnohmfapmeaaaaGreatDoorK40
import Derived.Test.YtbnohmfapmeaaaaGreatDoorK44
import Derived.Test.YtbnohmfapmeaaaaGreatDoorK45
import Derived.Test.YtbnohmfapmeaaaaGreatDoorK46
import Derived.Test.YtbnohmfapmeaaaaGreatDoorK47
import Derived.OpenShut
import Derived.WalkKit
import Derived.ProofKit
import Derived.WalkLawsBesides
import Derived.Lib.Hide
import Derived.Deep.QuietTactic
import Derived.BigQuiet
import Derived.Deep.Light
import Derived.Handy
import Derived.ChangeOld
import Derived.ShutString
import Derived.Deep.Slices
import Derived.Deep.MidRow
import Derived.Below
import Derived.Laws.CopyOwn
set_option linter.unusedVariables false
set_option linter.unusedSimpArgs false
set_option maxRecDepth 100000
set_option maxHeartbeats 4000000
set_option cbv.maxSteps 3000000
namespace Go.Proofs.YtbnohmfapmeaaaaGreatDoor.AM
/- The law FnExactParseRegister; conditions: none. -/
theorem pR_le (u : ByteArray) : ((pR u).getD ⟨[]⟩).gs.length ≤ 12 := by
  cases h : pR u with
  | none => exact Nat.zero_le _
  | some m => exact (okRg_in (pR_iff.1 h).1).1
theorem Tl_mkR (n : Nat) (k : Int) : Tl rowW n (rowsW stdH fun _ => mkR n k) = mkR n k := by
  have := Tl_W (mkR n k)
  rwa [mkR_len] at this
theorem c_lawPRgY (t : ByteArray) (h0 : 1 ≤ ((pR t).getD ⟨[]⟩).gs.length) : ConN Tryz.prog 5 [.lit (.string t)] [] 0 (.lit (.bool (stdH Bool fun _ => true))) [] [] := by
  have hB : Base Tryz.prog (tabΓ [e_parseRS, e_parseRY, e_eqRegister, e_markRegister, e_heldRegister]) tabO := base_of tabOkO (ents_cons eok_parseRS <| ents_cons eok_parseRY <| ents_cons eok_eqRegister <| ents_cons eok_markRegister <| ents_cons eok_heldRegister <| ents_nil)
  refine con_m (N := 66) hB (draw_ok hB mixed) Tryz.func5 rfl rfl (fun H => [.lit (.string t)]) (fun _ => []) 0 (fun H => .lit (.bool (H Bool fun _ => true))) (fun H => []) (fun _ => []) 600 (by simp) (fun x hx => ?_) (by simp [lk]) (by omega) (by simp) ?_
  · simp only [List.mem_cons, List.not_mem_nil, or_false] at hx
    rcases hx with rfl
    · exact .lit
  intro X hX hX0 H hH
  conv in Fin.chk _ _ => cbv
  try simp only [Plain_rowsA, Plain_rowsB, Plain_rowsC, Plain_rowsD, Plain_rowsF, Plain_rowsG, Plain_rowsI, Plain_rowsS, Plain_rowsU, Fin.satC_ret, Fin.satC_br, Fin.satC_need, Fin.satC_again, AllP, and_true, true_and, upd, List.length_nil, List.length_cons, Nat.zero_add, if_true, ncast, Int.ofNat_eq_natCast]
  have hl := pR_le t
  subst hH
  simp only [stdH]
  generalize (pR t).getD ⟨[]⟩ = s at *
  have e1 : ∀ n : Nat, decide (1 + 18 * (n : Int) < 0) = false := fun n => decide_eq_false (by omega)
  simp only [Tl_W, Tl_mkR, mkR_len, e1, decide_true, beq_self_eq_true, bne_self_eq_false, Bool.not_true, Bool.not_false, cond_true, cond_false, decide_eq_true_eq, decide_eq_false_iff_not]
  repeat' (first | exact True.intro | rfl | omega | exact Nat.zero_le _ | exact Shp_W _ _ | exact fun j _ => rowsW_len _ _ | (with_reducible refine And.intro ?_ ?_) | (intro h; first | (simp at h; done) | skip))
theorem c_lawPRgN (t : ByteArray) (h0 : ((pR t).getD ⟨[]⟩).gs = []) : ConN Tryz.prog 5 [.lit (.string t)] [] 0 (.lit (.bool (stdH Bool fun _ => true))) [] [] := by
  have hB : Base Tryz.prog (tabΓ [e_parseRS, e_parseR, e_eqRegister, e_markRegisterZ, e_heldRegister]) tabO := base_of tabOkO (ents_cons eok_parseRS <| ents_cons eok_parseR <| ents_cons eok_eqRegister <| ents_cons eok_markRegisterZ <| ents_cons eok_heldRegister <| ents_nil)
  refine con_m (N := 66) hB (draw_ok hB mixed) Tryz.func5 rfl rfl (fun H => [.lit (.string t)]) (fun _ => []) 0 (fun H => .lit (.bool (H Bool fun _ => true))) (fun H => []) (fun _ => []) 600 (by simp) (fun x hx => ?_) (by simp [lk]) (by omega) (by simp) ?_
  · simp only [List.mem_cons, List.not_mem_nil, or_false] at hx
    rcases hx with rfl
    · exact .lit
  intro X hX hX0 H hH
  conv in Fin.chk _ _ => cbv
  try simp only [Plain_rowsA, Plain_rowsB, Plain_rowsC, Plain_rowsD, Plain_rowsF, Plain_rowsG, Plain_rowsI, Plain_rowsS, Plain_rowsU, Fin.satC_ret, Fin.satC_br, Fin.satC_need, Fin.satC_again, AllP, and_true, true_and, upd, List.length_nil, List.length_cons, Nat.zero_add, if_true, ncast, Int.ofNat_eq_natCast]
  have hl := pR_le t
  subst hH
  simp only [stdH]
  generalize (pR t).getD ⟨[]⟩ = s at *
  obtain ⟨pa⟩ := s
  dsimp only at h0 hl
  subst h0
  have e1 : ∀ n : Nat, decide (1 + 18 * (n : Int) < 0) = false := fun n => decide_eq_false (by omega)
  simp only [Tl_W, Tl_mkR, mkR_len, e1, decide_true, beq_self_eq_true, bne_self_eq_false, Bool.not_true, Bool.not_false, cond_true, cond_false, decide_eq_true_eq, decide_eq_false_iff_not]
  repeat' (first | exact True.intro | rfl | omega | exact Nat.zero_le _ | exact Shp_W _ _ | exact fun j _ => rowsW_len _ _ | (with_reducible refine And.intro ?_ ?_) | (intro h; first | (simp at h; done) | skip))
theorem law_ParseRegister (t : ByteArray) : ConN Tryz.prog 5 [.lit (.string t)] [] 0 (.lit (.bool true)) [] [] := by
  rcases Nat.eq_zero_or_pos ((pR t).getD ⟨[]⟩).gs.length with h | h
  · exact c_lawPRgN t (List.length_eq_zero_iff.1 h)
  · exact c_lawPRgY t h

end Go.Proofs.YtbnohmfapmeaaaaGreatDoor.AM

namespace Go.Proofs.YtbnohmfapmeaaaaGreatDoor
set_option maxRecDepth 100000
open Go.ChangeShapes Go.WideShapes Go.ChangeAt Go.RowKit
set_option linter.unusedVariables false
set_option linter.unusedSimpArgs false
open Go.Deep Go.ChangeShapes Go.WideShapes Go.ChangeAt Go.RowKit

/-- The reading of a type's cells, one leaf after the other. -/
def LeafAll (R : TypeId → Value → Prop) : List TypeId → List Value → Prop
  | [], [] => True
  | t :: ts, v :: vs => R t v ∧ LeafAll R ts vs
  | _, _ => False
theorem LeafAll.append {R : TypeId → Value → Prop} : ∀ {a : List TypeId} {c : List Value} {b : List TypeId} {d : List Value}, LeafAll R a c → LeafAll R b d → LeafAll R (a ++ b) (c ++ d)
  | [], [], _, _, _, h => h
  | _ :: _, _ :: _, _, _, h, k => ⟨h.1, LeafAll.append h.2 k⟩
section
variable {H : Type} {enc : TypeId × Value → H} {P : Program} {w : World} {base : Nat} {spare : Nat → Bool} {held : Bool}
end

section
variable {H : Type} {enc : TypeId × Value → H} {P : Program} {w : World} {base : Nat} {spare : Nat → Bool} {held : Bool}
end

end Go.Proofs.YtbnohmfapmeaaaaGreatDoor

namespace Go.Proofs.YtbnohmfapmeaaaaGreatDoor
set_option maxRecDepth 100000
open Go.ChangeShapes Go.WideShapes Go.ChangeAt Go.RowKit
set_option linter.unusedVariables false
set_option linter.unusedSimpArgs false
open Go.RowKit

/-- Nothing that was there has turned. -/
def Up (w w' : World) : Prop := Below w.heap.size w w'
theorem Up.refl (w : World) : Up w w := Below.refl _ _
theorem Up.size {w w' : World} (h : Up w w') : w.heap.size ≤ w'.heap.size := Below.size h
theorem Up.trans {a b c : World} (h : Up a b) (k : Up b c) : Up a c := Below.trans h (Below.mono k h.size)
theorem Up.alloc {a w : World} (h : Up a w) (o : Obj) : Up a (w.alloc o) := Below.alloc h h.size o
theorem Up.drew {a w : World} (h : Up a w) : Up a w.drew := Below.drew h
theorem Up.drewN {a w : World} (h : Up a w) : ∀ n, Up a (w.drewN n)
  | 0 => h
  | n + 1 => ⟨h.os, h.tape, h.output, h.size, h.block⟩
theorem Up.setCell {a w : World} (h : Up a w) {p : Addr} (hp : a.heap.size ≤ p.block) (u : Value) : Up a (w.setCell p u) := Below.setCell h hp u
theorem Up.store {a w : World} (h : Up a w) {b o : Nat} (hp : a.heap.size ≤ b) (u : Value) : Up a (w.setCell ⟨b, o, none⟩ u) := Up.setCell h hp u
theorem Up.row {a w : World} (h : Up a w) {L : Nat} (hp : a.heap.size ≤ L) (cs : Array Value) : Up a (w.setRow L cs) := below_setRow h hp cs
theorem Up.grown {a w w' : World} {row : Option Nat} (h : Up a w) (hg : w.grownBy w' row) (hr : ∀ k, row = some k → a.heap.size ≤ k) : Up a w' := Below.grown h hg h.size hr
theorem Up.below {w w' : World} (h : Up w w') : Below w.heap.size w w' := h
theorem Up.block {w w' : World} (h : Up w w') {k : Nat} {o : Obj} (hk : w.heap[k]? = some o) : w'.heap[k]? = some o := by
  have hlt : k < w.heap.size := (Array.getElem?_eq_some_iff.1 hk).1
  exact (Below.block h k hlt).trans hk
theorem Up.cell {w w' : World} (h : Up w w') {p : Addr} {v : Value} (hv : w.cell? p = some v) : w'.cell? p = some v :=
  (Below.cell h (World.block_lt_of_cell? w p hv)).trans hv
theorem Up.box {w w' : World} {c : Array Value} {t : TypeId} (h : Up (w.alloc (.cells c t)) w') : ∀ o, w'.cell? ⟨w.heap.size, o, none⟩ = c[o]? := fun o => by
  have h1 : (w.alloc (.cells c t)).heap[w.heap.size]? = some (.cells c t) := heap_alloc_new w _
  have h2 := h.block h1
  exact cell_of_row w' w.heap.size o c t (0, 0) h2
end Go.Proofs.YtbnohmfapmeaaaaGreatDoor

namespace Go.Proofs.YtbnohmfapmeaaaaGreatDoor

def inB (x a b : Int) : Bool := decide (a ≤ x ∧ x ≤ b)
end Go.Proofs.YtbnohmfapmeaaaaGreatDoor

namespace Go.Proofs.YtbnohmfapmeaaaaGreatDoor
set_option maxRecDepth 100000
open Go.ChangeShapes Go.WideShapes Go.ChangeAt Go.RowKit
set_option linter.unusedVariables false
set_option linter.unusedSimpArgs false
open Go.Deep

structure Arms where
  (fd fl ff fs o l t c1 k1 a1 t1 c2 k2 a2 t2 : Int)
def Arms.list (A : Arms) : List Int := [A.fd, A.fl, A.ff, A.fs, A.o, A.l, A.t, A.c1, A.k1, A.a1, A.t1, A.c2, A.k2, A.a2, A.t2]
theorem Arms.list_inj {A B : Arms} (h : A.list = B.list) : A = B := by
  cases A; cases B; simp [Arms.list] at h; simp [h]
instance : DecidableEq Arms := fun A B => decidable_of_iff (A.list = B.list) ⟨Arms.list_inj, fun h => by rw [h]⟩
/-- The cells of arms. -/
def Arms.arr (A : Arms) : Array Value := (A.list.map (Value.int .i64)).toArray
@[simp, go_sem] theorem Arms.arr_size (A : Arms) : A.arr.size = 15 := id rfl
@[simp, go_sem] theorem Arms.arr_0 (A : Arms) : A.arr[0]? = some (.int .i64 A.fd) := id rfl
@[simp, go_sem] theorem Arms.arr_1 (A : Arms) : A.arr[1]? = some (.int .i64 A.fl) := id rfl
@[simp, go_sem] theorem Arms.arr_2 (A : Arms) : A.arr[2]? = some (.int .i64 A.ff) := id rfl
@[simp, go_sem] theorem Arms.arr_3 (A : Arms) : A.arr[3]? = some (.int .i64 A.fs) := id rfl
@[simp, go_sem] theorem Arms.arr_4 (A : Arms) : A.arr[4]? = some (.int .i64 A.o) := id rfl
@[simp, go_sem] theorem Arms.arr_5 (A : Arms) : A.arr[5]? = some (.int .i64 A.l) := id rfl
@[simp, go_sem] theorem Arms.arr_6 (A : Arms) : A.arr[6]? = some (.int .i64 A.t) := id rfl
@[simp, go_sem] theorem Arms.arr_7 (A : Arms) : A.arr[7]? = some (.int .i64 A.c1) := id rfl
@[simp, go_sem] theorem Arms.arr_8 (A : Arms) : A.arr[8]? = some (.int .i64 A.k1) := id rfl
@[simp, go_sem] theorem Arms.arr_9 (A : Arms) : A.arr[9]? = some (.int .i64 A.a1) := id rfl
@[simp, go_sem] theorem Arms.arr_10 (A : Arms) : A.arr[10]? = some (.int .i64 A.t1) := id rfl
@[simp, go_sem] theorem Arms.arr_11 (A : Arms) : A.arr[11]? = some (.int .i64 A.c2) := id rfl
@[simp, go_sem] theorem Arms.arr_12 (A : Arms) : A.arr[12]? = some (.int .i64 A.k2) := id rfl
@[simp, go_sem] theorem Arms.arr_13 (A : Arms) : A.arr[13]? = some (.int .i64 A.a2) := id rfl
@[simp, go_sem] theorem Arms.arr_14 (A : Arms) : A.arr[14]? = some (.int .i64 A.t2) := id rfl
@[simp, go_sem] theorem Arms.arr_g0 (A : Arms) (h : 0 < A.arr.size) : A.arr[0] = .int .i64 A.fd := id rfl
@[simp, go_sem] theorem Arms.arr_g1 (A : Arms) (h : 1 < A.arr.size) : A.arr[1] = .int .i64 A.fl := id rfl
@[simp, go_sem] theorem Arms.arr_g2 (A : Arms) (h : 2 < A.arr.size) : A.arr[2] = .int .i64 A.ff := id rfl
@[simp, go_sem] theorem Arms.arr_g3 (A : Arms) (h : 3 < A.arr.size) : A.arr[3] = .int .i64 A.fs := id rfl
@[simp, go_sem] theorem Arms.arr_g4 (A : Arms) (h : 4 < A.arr.size) : A.arr[4] = .int .i64 A.o := id rfl
@[simp, go_sem] theorem Arms.arr_g5 (A : Arms) (h : 5 < A.arr.size) : A.arr[5] = .int .i64 A.l := id rfl
@[simp, go_sem] theorem Arms.arr_g6 (A : Arms) (h : 6 < A.arr.size) : A.arr[6] = .int .i64 A.t := id rfl
@[simp, go_sem] theorem Arms.arr_g7 (A : Arms) (h : 7 < A.arr.size) : A.arr[7] = .int .i64 A.c1 := id rfl
@[simp, go_sem] theorem Arms.arr_g8 (A : Arms) (h : 8 < A.arr.size) : A.arr[8] = .int .i64 A.k1 := id rfl
@[simp, go_sem] theorem Arms.arr_g9 (A : Arms) (h : 9 < A.arr.size) : A.arr[9] = .int .i64 A.a1 := id rfl
@[simp, go_sem] theorem Arms.arr_g10 (A : Arms) (h : 10 < A.arr.size) : A.arr[10] = .int .i64 A.t1 := id rfl
@[simp, go_sem] theorem Arms.arr_g11 (A : Arms) (h : 11 < A.arr.size) : A.arr[11] = .int .i64 A.c2 := id rfl
@[simp, go_sem] theorem Arms.arr_g12 (A : Arms) (h : 12 < A.arr.size) : A.arr[12] = .int .i64 A.k2 := id rfl
@[simp, go_sem] theorem Arms.arr_g13 (A : Arms) (h : 13 < A.arr.size) : A.arr[13] = .int .i64 A.a2 := id rfl
@[simp, go_sem] theorem Arms.arr_g14 (A : Arms) (h : 14 < A.arr.size) : A.arr[14] = .int .i64 A.t2 := id rfl
def Arms.cells (A : Arms) : List Value := A.arr.toList
instance : Inhabited Arms := ⟨⟨0, 0, 0, 0, 0, 0, 0, 0, 0, 0, 0, 0, 0, 0, 0⟩⟩
theorem Arms.one (A : Arms) : A.arr.all (·.oneCell') = true := by simp [Arms.arr, Arms.list, Value.oneCell']

section
variable {H : Type} {enc : TypeId × Value → H} {P : Program} {w : World} {base : Nat} {spare : Nat → Bool} {held : Bool}
end

def goodG (c k a t : Int) : Bool := inB c 1 6 && inB k 1 8 && inB t 1 9 && (if k ≤ 3 then inB a 1 2 else decide (a = 0))
def noneG (c k a t : Int) : Bool := decide (c = 0 ∧ k = 0 ∧ a = 0 ∧ t = 0)
def okG (c k a t : Int) : Bool := noneG c k a t || goodG c k a t
end Go.Proofs.YtbnohmfapmeaaaaGreatDoor

set_option linter.unusedVariables false
set_option linter.unusedSimpArgs false
set_option maxRecDepth 100000
set_option maxHeartbeats 4000000
set_option cbv.maxSteps 3000000
namespace Go.Proofs.YtbnohmfapmeaaaaGreatDoor.AM
/- From a law's contract to the walk that lift.py asks for; conditions: none. -/
theorem lowOk : Tryz.prog.globals.size < Tryz.prog.low := by decide +kernel
end Go.Proofs.YtbnohmfapmeaaaaGreatDoor.AM

set_option linter.unusedVariables false
set_option linter.unusedSimpArgs false
set_option maxRecDepth 100000
set_option maxHeartbeats 4000000
set_option cbv.maxSteps 3000000
namespace Go.Proofs.YtbnohmfapmeaaaaGreatDoor.AM
/- From an exact law's contract to the walk that lift.py asks for; conditions: none. -/
def cx0 (w : World) : Cx := ⟨id, fun _ => False, fun _ => False, w⟩
theorem law_ofX {f : FuncId} {args : List AV} {vs : List Value} {w : World} (h : ConN Tryz.prog f args [] 0 (.lit (.bool true)) [] []) (hl : LRel (cx0 w) args vs) (hsh : w.ShapedOpen Tryz.prog) (hld : Laid w := by exact ⟨fun x hx => (by cases hx), fun n hn => (by cases hn)⟩) : Calls Tryz.prog f vs.toArray w (fun e w' => e = .returned (.bool true) ∧ Up w w') := by
  refine (h (cx0 w) vs hl (by simp [lk]) (by simp [lk]) (glo0 lowOk hsh hld) (fun i _ _ => fun h => h)).mono fun e w' ⟨cv, he, C', ha⟩ => ?_
  have hv := ha.val _ rfl
  cases hv
  refine ⟨he, Up.grown (Up.refl w) (row := none) ⟨?_, ?_, ?_, ?_, fun k hk _ => ?_⟩ (by simp)⟩
  · have := ha.ext.wx.os; rw [ha.w] at this; exact this
  · have := ha.ext.wx.tape; rw [ha.w] at this; exact this
  · have := ha.ext.wx.output; rw [ha.w] at this; exact this
  · have := ha.ext.wx.size; rw [ha.w] at this; exact this
  · have := ha.ext.wx.same k hk (by simp); rw [ha.w] at this; exact this
end Go.Proofs.YtbnohmfapmeaaaaGreatDoor.AM

set_option linter.unusedVariables false
set_option linter.unusedSimpArgs false
set_option maxRecDepth 100000
set_option maxHeartbeats 4000000
set_option cbv.maxSteps 3000000
namespace Go.Proofs.YtbnohmfapmeaaaaGreatDoor.AM
/- The walk of the law FnExactParseRegister, from its contract; conditions: none. -/
end Go.Proofs.YtbnohmfapmeaaaaGreatDoor.AM
namespace Go.Proofs.YtbnohmfapmeaaaaGreatDoor
open Go AM
theorem w_ParseRegister (s : ByteArray) (_ : s.size ≤ maxLen) (w : World) (hsh : w.ShapedOpen Tryz.prog) (hld : AM.Laid w) : Calls Tryz.prog 5 #[.string s] w (fun e w' => e = .returned (.bool true) ∧ Up w w') :=
  law_ofX (law_ParseRegister s) (.cons (.lit rfl) (.nil _)) hsh hld
end Go.Proofs.YtbnohmfapmeaaaaGreatDoor
namespace Go.Proofs.YtbnohmfapmeaaaaGreatDoor.AM

end Go.Proofs.YtbnohmfapmeaaaaGreatDoor.AM

