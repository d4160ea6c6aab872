import Derived.Test.YtoommgpcmgnpaaaAmT
import Derived.Test.YtoommgpcmgnpaaaKin
import Derived.Test.YtoommgpcmgnpaaaLst
import Derived.Test.YtoommgpcmgnpaaaDif
import Derived.Test.YtoommgpcmgnpaaaDrA
set_option linter.unusedVariables false
set_option linter.unusedSimpArgs false
set_option maxRecDepth 100000
set_option maxHeartbeats 4000000
set_option cbv.maxSteps 3000000
namespace Go.Proofs.Ytoommgpcmgnpaaa.AM
/- The kinds of differences, told by both; conditions: none. -/
def kdsI (a x : Arm) : List Int := nt (!eqG a.r x.r) 6 (nt (!eqG a.n x.n) 5 (nt (decide (a.o = x.o) && !decide (a.t = x.t)) 4 (nt (decide (a.o = x.o) && !decide (a.l = x.l)) 3 (nt (!decide (a.o = x.o)) 2 (nt (!eqF a.f x.f) 1 [])))))
theorem nt_len (b : Bool) (k : Int) (l : List Int) : (nt b k l).length ≤ l.length + 1 := by cases b <;> simp [nt]
theorem lst_vrow' (l : List Int) : lst l.length (vrow (lget l)) = l := lst_vrow l
theorem ints_vrow' (g : Nat → Int) : ints (vrow g) = g := rfl
theorem allGE (a b : Grp) : allT [fun _ => a.c == b.c, fun _ => a.k == b.k, fun _ => a.a == b.a, fun _ => a.t == b.t] = eqG a b := rfl
theorem allFE (a b : Fld) : allT [fun _ => a.d == b.d, fun _ => a.l == b.l, fun _ => a.p == b.p, fun _ => a.q == b.q] = eqF a b := rfl
theorem notG (b : Bool) : (!b) = true ↔ b = false := by cases b <;> simp

end Go.Proofs.Ytoommgpcmgnpaaa.AM
