/- Contracts and lemmas (Data) for the laws of this seat: what the Go functions named here return, for all arguments that each theorem states; no further conditions. -/
import Derived.Test.YtojnomplchlcdaaM1
import Derived.WalkKit
import Derived.ProofKit
import Derived.OpenShut
import Derived.WalkLawsBesides
import Derived.Lib.Hide
import Derived.Deep.QuietTactic
import Derived.BigQuiet
import Derived.Deep.Light
namespace Go.Proofs.Ytojnomplchlcdaa
open Go.ChangeShapes Go.WideShapes Go.ChangeAt Go.RowKit
set_option linter.unusedVariables false
set_option linter.unusedSimpArgs false

structure Arms where
  (fd fl ff fs o l t c1 k1 a1 t1 c2 k2 a2 t2 : Int)
def Arms.list (A : Arms) : List Int := [A.fd, A.fl, A.ff, A.fs, A.o, A.l, A.t, A.c1, A.k1, A.a1, A.t1, A.c2, A.k2, A.a2, A.t2]
theorem Arms.list_inj {A B : Arms} (h : A.list = B.list) : A = B := by
  cases A; cases B; simp [Arms.list] at h; simp [h]
instance : DecidableEq Arms := fun A B => decidable_of_iff (A.list = B.list) ⟨Arms.list_inj, fun h => by rw [h]⟩
/-- The cells of arms. -/
def Arms.arr (A : Arms) : Array Value := (A.list.map (Value.int .i64)).toArray
@[simp, go_sem] theorem Arms.arr_size (A : Arms) : A.arr.size = 15 := rfl
@[simp, go_sem] theorem Arms.arr_0 (A : Arms) : A.arr[0]? = some (.int .i64 A.fd) := rfl
@[simp, go_sem] theorem Arms.arr_1 (A : Arms) : A.arr[1]? = some (.int .i64 A.fl) := rfl
@[simp, go_sem] theorem Arms.arr_2 (A : Arms) : A.arr[2]? = some (.int .i64 A.ff) := rfl
@[simp, go_sem] theorem Arms.arr_3 (A : Arms) : A.arr[3]? = some (.int .i64 A.fs) := rfl
@[simp, go_sem] theorem Arms.arr_4 (A : Arms) : A.arr[4]? = some (.int .i64 A.o) := rfl
@[simp, go_sem] theorem Arms.arr_5 (A : Arms) : A.arr[5]? = some (.int .i64 A.l) := rfl
@[simp, go_sem] theorem Arms.arr_6 (A : Arms) : A.arr[6]? = some (.int .i64 A.t) := rfl
@[simp, go_sem] theorem Arms.arr_7 (A : Arms) : A.arr[7]? = some (.int .i64 A.c1) := rfl
@[simp, go_sem] theorem Arms.arr_8 (A : Arms) : A.arr[8]? = some (.int .i64 A.k1) := rfl
@[simp, go_sem] theorem Arms.arr_9 (A : Arms) : A.arr[9]? = some (.int .i64 A.a1) := rfl
@[simp, go_sem] theorem Arms.arr_10 (A : Arms) : A.arr[10]? = some (.int .i64 A.t1) := rfl
@[simp, go_sem] theorem Arms.arr_11 (A : Arms) : A.arr[11]? = some (.int .i64 A.c2) := rfl
@[simp, go_sem] theorem Arms.arr_12 (A : Arms) : A.arr[12]? = some (.int .i64 A.k2) := rfl
@[simp, go_sem] theorem Arms.arr_13 (A : Arms) : A.arr[13]? = some (.int .i64 A.a2) := rfl
@[simp, go_sem] theorem Arms.arr_14 (A : Arms) : A.arr[14]? = some (.int .i64 A.t2) := rfl
theorem Arms.arr_inj {A B : Arms} : A.arr = B.arr ↔ A = B := by
  constructor
  · intro h
    have := congrArg Array.toList h
    simp only [Arms.arr] at this
    have hm : A.list.map (Value.int .i64) = B.list.map (Value.int .i64) := this
    refine Arms.list_inj ?_
    have := congrArg (List.map (fun v => match v with | .int _ n => n | _ => 0)) hm
    simpa [List.map_map, Function.comp_def] using this
  · rintro rfl; rfl
theorem Arms.cells_length (A : Arms) : A.arr.toList.length = 15 := rfl
theorem Arms.one (A : Arms) : A.arr.all (·.oneCell') = true := by simp [Arms.arr, Arms.list, Value.oneCell']

def goodF (d l f s : Int) : Bool := inB d 0 7 && inB l 0 4 && inB f 1 9 && (if d = 0 then decide (l = 0 ∧ s = 0) else inB s 1 9 && decide (s ≠ f))
def goodG (c k a t : Int) : Bool := inB c 1 6 && inB k 1 8 && inB t 1 9 && (if k ≤ 3 then inB a 1 2 else decide (a = 0))
def noneG (c k a t : Int) : Bool := decide (c = 0 ∧ k = 0 ∧ a = 0 ∧ t = 0)
def okG (c k a t : Int) : Bool := noneG c k a t || goodG c k a t
def goodA (A : Arms) : Bool := goodF A.fd A.fl A.ff A.fs && inB A.o 0 7 && okG A.c2 A.k2 A.a2 A.t2 &&
  (if A.o = 0 then decide (A.l = 0 ∧ A.t = 0) && noneG A.c1 A.k1 A.a1 A.t1 else inB A.l 0 4 && inB A.t 1 9 && okG A.c1 A.k1 A.a1 A.t1)

end Go.Proofs.Ytojnomplchlcdaa
