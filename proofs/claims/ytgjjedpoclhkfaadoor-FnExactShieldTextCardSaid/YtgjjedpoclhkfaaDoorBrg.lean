import Derived.Test.YtgjjedpoclhkfaaDoorAmT
import Derived.Test.YtgjjedpoclhkfaaDoorAmN
import Derived.Test.YtgjjedpoclhkfaaDoorOpen
import Derived.Test.YtgjjedpoclhkfaaDoorUp
import Derived.Test.YtgjjedpoclhkfaaDoorData
set_option linter.unusedVariables false
set_option linter.unusedSimpArgs false
set_option maxRecDepth 100000
set_option maxHeartbeats 4000000
set_option cbv.maxSteps 3000000
namespace Go.Proofs.YtgjjedpoclhkfaaDoor.AM
/- From a law's contract to the walk that lift.py asks for; conditions: none. -/
theorem lowOk : Tryd.prog.globals.size < Tryd.prog.low := by decide +kernel
theorem law_of {f : FuncId} (h : ∀ c : Cd, Con Tryd.prog f [codeAV c] [] (.lit (.bool true)) []) (w : World) (A : Option Addr) (cap : Nat) (l : List Int) (hr : Rd w 1 encU8 A cap l) (hg : ∀ x ∈ l, isU8 x) (hsh : w.ShapedOpen Tryd.prog) (hld : Laid w := by intro x hx; cases hx) : Calls Tryd.prog f #[.slice A l.length cap] w (fun e w' => e = .returned (.bool true) ∧ Up w w') := by
  let c : Cd := ⟨l.length, fun j => (l[j]?).getD 0, fun j => by
    cases hj : l[j]? with
    | none => simp
    | some x => have := hg x (List.mem_of_getElem? hj); unfold isU8 at this; simpa using this⟩
  let C : Cx := ⟨id, fun _ => False, fun _ => False, w⟩
  have hrel : Rel C (codeAV c) (.slice A l.length cap) := by
    refine .vec (fun j _ => .int .u8 ((l[j]?).getD 0)) hr.le hr.max (fun _ _ => rfl) (fun h0 => ?_) (fun _ _ _ _ => rfl) (fun j q x hj hx => ?_)
    · obtain ⟨b, o, hA, hc⟩ := hr.cells (by intro e; subst e; exact absurd h0 (Nat.lt_irrefl 0))
      have cell : ∀ j q, j < l.length → q < 1 → w.cell? ⟨b, o + j * 1 + q, none⟩ = some (.int .u8 ((l[j]?).getD 0)) := fun j q hj hq => by
        have hq0 : q = 0 := by omega
        subst hq0
        have h1 := hc j l[j] (List.getElem?_eq_getElem hj) 0 (.int .u8 l[j]) rfl
        rw [List.getElem?_eq_getElem hj]; exact h1
      refine ⟨b, o, hA, fun h => h, ?_, cell⟩
      exact World.block_lt_of_cell? w _ (cell 0 0 h0 (by omega))
    · cases q with
      | zero => simp [c, Cd.rows] at hx; subst hx; exact .lit rfl
      | succ q => simp [c, Cd.rows] at hx
  refine (h c C [.slice A l.length cap] (.cons hrel (.nil C)) (by simp [lk]) (by simp [lk]) (glo0 lowOk hsh hld)).mono fun e w' ⟨cv, he, C', ha⟩ => ?_
  have hv := ha.val _ rfl
  cases hv
  refine ⟨he, Up.grown (Up.refl w) (row := none) ⟨?_, ?_, ?_, ?_, fun k hk _ => ?_⟩ (by simp)⟩
  · have := ha.ext.wx.os; rw [ha.w] at this; exact this
  · have := ha.ext.wx.tape; rw [ha.w] at this; exact this
  · have := ha.ext.wx.output; rw [ha.w] at this; exact this
  · have := ha.ext.wx.size; rw [ha.w] at this; exact this
  · have := ha.ext.wx.same k hk (by simp); rw [ha.w] at this; exact this

end Go.Proofs.YtgjjedpoclhkfaaDoor.AM
