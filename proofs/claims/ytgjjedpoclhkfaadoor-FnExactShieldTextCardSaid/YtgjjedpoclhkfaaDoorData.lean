/- Contracts and lemmas (Data) for the laws of this seat: what the Go functions named here return, for all arguments that each theorem states; no further conditions. -/
import Derived.Test.YtgjjedpoclhkfaaDoorM1
import Derived.Test.YtgjjedpoclhkfaaDoorOpen
import Derived.OpenShut
import Derived.WalkKit
import Derived.ProofKit
import Derived.WalkLawsBesides
import Derived.Lib.Hide
import Derived.Deep.QuietTactic
import Derived.BigQuiet
import Derived.Deep.Light
import Derived.Handy
namespace Go.Proofs.YtgjjedpoclhkfaaDoor
set_option maxRecDepth 100000
open Go.ChangeShapes Go.WideShapes Go.ChangeAt Go.RowKit
set_option linter.unusedVariables false
set_option linter.unusedSimpArgs false
open Go.Deep

structure Arms where
  (fd fl ff fs o l t c1 k1 a1 t1 c2 k2 a2 t2 : Int)
def Arms.list (A : Arms) : List Int := [A.fd, A.fl, A.ff, A.fs, A.o, A.l, A.t, A.c1, A.k1, A.a1, A.t1, A.c2, A.k2, A.a2, A.t2]
theorem Arms.list_inj {A B : Arms} (h : A.list = B.list) : A = B := by
  cases A; cases B; simp [Arms.list] at h; simp [h]
instance : DecidableEq Arms := fun A B => decidable_of_iff (A.list = B.list) ⟨Arms.list_inj, fun h => by rw [h]⟩
/-- The cells of arms. -/
def Arms.arr (A : Arms) : Array Value := (A.list.map (Value.int .i64)).toArray
@[simp, go_sem] theorem Arms.arr_size (A : Arms) : A.arr.size = 15 := id rfl
@[simp, go_sem] theorem Arms.arr_0 (A : Arms) : A.arr[0]? = some (.int .i64 A.fd) := id rfl
@[simp, go_sem] theorem Arms.arr_1 (A : Arms) : A.arr[1]? = some (.int .i64 A.fl) := id rfl
@[simp, go_sem] theorem Arms.arr_2 (A : Arms) : A.arr[2]? = some (.int .i64 A.ff) := id rfl
@[simp, go_sem] theorem Arms.arr_3 (A : Arms) : A.arr[3]? = some (.int .i64 A.fs) := id rfl
@[simp, go_sem] theorem Arms.arr_4 (A : Arms) : A.arr[4]? = some (.int .i64 A.o) := id rfl
@[simp, go_sem] theorem Arms.arr_5 (A : Arms) : A.arr[5]? = some (.int .i64 A.l) := id rfl
@[simp, go_sem] theorem Arms.arr_6 (A : Arms) : A.arr[6]? = some (.int .i64 A.t) := id rfl
@[simp, go_sem] theorem Arms.arr_7 (A : Arms) : A.arr[7]? = some (.int .i64 A.c1) := id rfl
@[simp, go_sem] theorem Arms.arr_8 (A : Arms) : A.arr[8]? = some (.int .i64 A.k1) := id rfl
@[simp, go_sem] theorem Arms.arr_9 (A : Arms) : A.arr[9]? = some (.int .i64 A.a1) := id rfl
@[simp, go_sem] theorem Arms.arr_10 (A : Arms) : A.arr[10]? = some (.int .i64 A.t1) := id rfl
@[simp, go_sem] theorem Arms.arr_11 (A : Arms) : A.arr[11]? = some (.int .i64 A.c2) := id rfl
@[simp, go_sem] theorem Arms.arr_12 (A : Arms) : A.arr[12]? = some (.int .i64 A.k2) := id rfl
@[simp, go_sem] theorem Arms.arr_13 (A : Arms) : A.arr[13]? = some (.int .i64 A.a2) := id rfl
@[simp, go_sem] theorem Arms.arr_14 (A : Arms) : A.arr[14]? = some (.int .i64 A.t2) := id rfl
@[simp, go_sem] theorem Arms.arr_g0 (A : Arms) (h : 0 < A.arr.size) : A.arr[0] = .int .i64 A.fd := id rfl
@[simp, go_sem] theorem Arms.arr_g1 (A : Arms) (h : 1 < A.arr.size) : A.arr[1] = .int .i64 A.fl := id rfl
@[simp, go_sem] theorem Arms.arr_g2 (A : Arms) (h : 2 < A.arr.size) : A.arr[2] = .int .i64 A.ff := id rfl
@[simp, go_sem] theorem Arms.arr_g3 (A : Arms) (h : 3 < A.arr.size) : A.arr[3] = .int .i64 A.fs := id rfl
@[simp, go_sem] theorem Arms.arr_g4 (A : Arms) (h : 4 < A.arr.size) : A.arr[4] = .int .i64 A.o := id rfl
@[simp, go_sem] theorem Arms.arr_g5 (A : Arms) (h : 5 < A.arr.size) : A.arr[5] = .int .i64 A.l := id rfl
@[simp, go_sem] theorem Arms.arr_g6 (A : Arms) (h : 6 < A.arr.size) : A.arr[6] = .int .i64 A.t := id rfl
@[simp, go_sem] theorem Arms.arr_g7 (A : Arms) (h : 7 < A.arr.size) : A.arr[7] = .int .i64 A.c1 := id rfl
@[simp, go_sem] theorem Arms.arr_g8 (A : Arms) (h : 8 < A.arr.size) : A.arr[8] = .int .i64 A.k1 := id rfl
@[simp, go_sem] theorem Arms.arr_g9 (A : Arms) (h : 9 < A.arr.size) : A.arr[9] = .int .i64 A.a1 := id rfl
@[simp, go_sem] theorem Arms.arr_g10 (A : Arms) (h : 10 < A.arr.size) : A.arr[10] = .int .i64 A.t1 := id rfl
@[simp, go_sem] theorem Arms.arr_g11 (A : Arms) (h : 11 < A.arr.size) : A.arr[11] = .int .i64 A.c2 := id rfl
@[simp, go_sem] theorem Arms.arr_g12 (A : Arms) (h : 12 < A.arr.size) : A.arr[12] = .int .i64 A.k2 := id rfl
@[simp, go_sem] theorem Arms.arr_g13 (A : Arms) (h : 13 < A.arr.size) : A.arr[13] = .int .i64 A.a2 := id rfl
@[simp, go_sem] theorem Arms.arr_g14 (A : Arms) (h : 14 < A.arr.size) : A.arr[14] = .int .i64 A.t2 := id rfl
theorem Arms.arr_inj {A B : Arms} : A.arr = B.arr ↔ A = B := by
  constructor
  · intro h
    have := congrArg Array.toList h
    simp only [Arms.arr] at this
    have hm : A.list.map (Value.int .i64) = B.list.map (Value.int .i64) := this
    refine Arms.list_inj ?_
    have := congrArg (List.map (fun v => match v with | .int _ n => n | _ => 0)) hm
    simpa [List.map_map, Function.comp_def] using this
  · rintro rfl; rfl
theorem Arms.fold (A : Arms) : #[Value.int .i64 A.fd, Value.int .i64 A.fl, Value.int .i64 A.ff, Value.int .i64 A.fs, Value.int .i64 A.o, Value.int .i64 A.l, Value.int .i64 A.t, Value.int .i64 A.c1, Value.int .i64 A.k1, Value.int .i64 A.a1, Value.int .i64 A.t1, Value.int .i64 A.c2, Value.int .i64 A.k2, Value.int .i64 A.a2, Value.int .i64 A.t2] = A.arr := id rfl
theorem Arms.eq_iff (A B : Arms) : A = B ↔ A.fd = B.fd ∧ A.fl = B.fl ∧ A.ff = B.ff ∧ A.fs = B.fs ∧ A.o = B.o ∧ A.l = B.l ∧ A.t = B.t ∧ A.c1 = B.c1 ∧ A.k1 = B.k1 ∧ A.a1 = B.a1 ∧ A.t1 = B.t1 ∧ A.c2 = B.c2 ∧ A.k2 = B.k2 ∧ A.a2 = B.a2 ∧ A.t2 = B.t2 := by
  cases A; cases B; simp
theorem Arms.of_list {xs : List Int} (h : xs.length = 15) : ∃ A : Arms, xs = A.list := by
  match xs, h with
  | [x0, x1, x2, x3, x4, x5, x6, x7, x8, x9, x10, x11, x12, x13, x14], _ => exact ⟨⟨x0, x1, x2, x3, x4, x5, x6, x7, x8, x9, x10, x11, x12, x13, x14⟩, rfl⟩
/-- Every number of the arms fits. -/
def Arms.wf (A : Arms) : Prop := ∀ x ∈ A.list, I64 x
def Arms.cells (A : Arms) : List Value := A.arr.toList
instance : Inhabited Arms := ⟨⟨0, 0, 0, 0, 0, 0, 0, 0, 0, 0, 0, 0, 0, 0, 0⟩⟩
theorem Arms.cells_length (A : Arms) : A.cells.length = 15 := rfl
theorem Arms.one (A : Arms) : A.arr.all (·.oneCell') = true := by simp [Arms.arr, Arms.list, Value.oneCell']

def encU8 (x : Int) : List Value := [.int .u8 x]
def isU8 (x : Int) : Prop := 0 ≤ x ∧ x ≤ 255
section
variable {H : Type} {enc : TypeId × Value → H} {P : Program} {w : World} {base : Nat} {spare : Nat → Bool} {held : Bool}
theorem rd_u8 {e : TypeId} (he : P.underlying e = some (.int .u8)) : ∀ m cs y, DataW.trod enc P w base spare held m e cs = some y → ∃ a : Int, cs = encU8 a ∧ isU8 a := by
  intro m cs y h
  obtain ⟨n, hc, _, hw⟩ := DataW.trod_int he h
  exact ⟨n, hc, bounds_u8 hw⟩
theorem rd_arms {e T : TypeId} {n : Nat} (hT : P.underlying T = some (.int .i64)) (hok : leafOk P n e = true) (hl : leaves P n e = List.replicate 15 T) : ∀ m cs y, DataW.trod enc P w base spare held m e cs = some y → ∃ A : Arms, cs = A.cells ∧ A.wf := by
  intro m cs y h
  have h1 := leaf_open n e m cs y hok h
  rw [hl] at h1
  obtain ⟨xs, rfl, hlen, hall⟩ := leaf_ints hT h1
  obtain ⟨A, rfl⟩ := Arms.of_list hlen
  exact ⟨A, rfl, hall⟩
end

def goodF (d l f s : Int) : Bool := inB d 0 7 && inB l 0 4 && inB f 1 9 && (if d = 0 then decide (l = 0 ∧ s = 0) else inB s 1 9 && decide (s ≠ f))
def goodG (c k a t : Int) : Bool := inB c 1 6 && inB k 1 8 && inB t 1 9 && (if k ≤ 3 then inB a 1 2 else decide (a = 0))
def noneG (c k a t : Int) : Bool := decide (c = 0 ∧ k = 0 ∧ a = 0 ∧ t = 0)
def okG (c k a t : Int) : Bool := noneG c k a t || goodG c k a t
def goodA (A : Arms) : Bool := goodF A.fd A.fl A.ff A.fs && inB A.o 0 7 && okG A.c2 A.k2 A.a2 A.t2 &&
  (if A.o = 0 then decide (A.l = 0 ∧ A.t = 0) && noneG A.c1 A.k1 A.a1 A.t1 else inB A.l 0 4 && inB A.t 1 9 && okG A.c1 A.k1 A.a1 A.t1)

end Go.Proofs.YtgjjedpoclhkfaaDoor
