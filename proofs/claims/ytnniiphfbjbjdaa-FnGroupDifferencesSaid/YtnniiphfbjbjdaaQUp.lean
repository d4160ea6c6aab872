/- Contracts and lemmas (QUp) for the laws of this seat: what the Go functions named here return, for all arguments that each theorem states; no further conditions. -/
import Derived.Test.YtnniiphfbjbjdaaMem
import Derived.Test.YtnniiphfbjbjdaaUp
import Derived.WalkKit
import Derived.Deep.MidRow
import Derived.BigQuiet
import Derived.Deep.QuietTactic
import Derived.ProofKit
import Derived.OpenShut
import Derived.WalkLawsBesides
import Derived.Lib.Hide
import Derived.Deep.Light
import Derived.Handy
namespace Go.Proofs.Ytnniiphfbjbjdaa
set_option maxRecDepth 100000
open Go.ChangeShapes Go.WideShapes Go.ChangeAt Go.RowKit
set_option linter.unusedVariables false
set_option linter.unusedSimpArgs false

theorem box_range2 {w w' : World} {b0 : Obj} {c : Array Value} {t : TypeId} (h : Up ((w.alloc b0).alloc (.cells c t)) w') : w'.rangeAt (w.heap.size + 1) 0 c.toList := by
  have := box_range h
  rwa [World.size_alloc] at this
section
variable {P : Program}
/-- A region that draws its order, whose operations only read and whose callees leave alone what was there. -/
theorem wp_region_up {id : Nat} {Q : Exit → Act → World → Prop} {a : Act} {w : World} {l : List Oper} (hm : P.follows .mixedOrders = true) (hB : Region.lexB .any l.toArray = true)
    (h : wpQuiet P l.toArray (fun w' => Up w w') (fun a' => ∀ w', Up w w' → Q .normal a' w') l a) : (Code.region id l.toArray true).wp P Q a w :=
  wp_region_quiet (C := fun w' => Up w w') hm hB (Up.drew (Up.refl w)) (by simpa using h)
theorem wpQuiet_callU {ops : Array Oper} {C : World → Prop} {Q : Act → Prop} {a : Act} {o : Oper} {rest : List Oper} (f : FuncId) (xs : Array Operand) (ts : Array TypeId) (ho : o.op = .call { callee := .value (.func f), args := xs, argTypes := ts })
    (hf : (P.funcs[f]?.map fun fn => (fn.name == "runtime.NumGoroutine", fn.body.isNone)) = some (false, false)) (hw : Region.wanted o (yielded ops a.tmps) = true) (vals : Array Value) (hv : (xs.toList.map a.eval).toArray = vals) (v : Value) (hcall : ∀ w', C w' → Calls P f vals w' fun e w'' => e = .returned v ∧ C w'')
    (h : wpQuiet P ops C Q rest (a.put o.dst v)) : wpQuiet P ops C Q (o :: rest) a :=
  BigFrame.wpQuiet_want hw fun K hK => ⟨v, fun w hCw => by
    have hrun : (execOp a.eval o).run P w = .ok (.enter f vals) w := by
      have hv' : xs.map a.eval = vals := by rw [← hv]; apply Array.ext'; simp
      clear hv
      subst hv'
      obtain ⟨fn, h1, h2⟩ := Option.map_eq_some_iff.1 hf
      injection h2 with h2 h3
      have := run_callFunc_go h1 h2 h3 (Array.map a.eval xs) w
      unfold execOp
      simp [ho, resolve, invoke, go_sem, this]
    unfold Oper.quietAt
    rw [hrun]
    exact ⟨rfl, hcall w hCw⟩, hK _ h⟩
theorem wpQuiet_extractU {ops : Array Oper} {C : World → Prop} {Q : Act → Prop} {a : Act} {o : Oper} {rest : List Oper} (x : Operand) (i : Nat) (ho : o.op = .extract x i)
    (hw : Region.wanted o (yielded ops a.tmps) = true) (vs : Array Value) (hx : a.eval x = .tuple vs) (v : Value) (hv : vs[i]? = some v)
    (h : wpQuiet P ops C Q rest (a.put o.dst v)) : wpQuiet P ops C Q (o :: rest) a :=
  BigFrame.wpQuiet_want hw fun K hK => ⟨v, fun w hCw => by
    have hrun : (execOp a.eval o).run P w = .ok (.value v) w := by
      unfold execOp
      simp only [ho, hx, Instr.extract]
      rw [hv]
      simp [go_sem]
    unfold Oper.quietAt
    rw [hrun]
    exact ⟨rfl, rfl⟩, hK _ h⟩
end

end Go.Proofs.Ytnniiphfbjbjdaa
