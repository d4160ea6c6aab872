import Derived.Test.YtgjjedpoclhkfaaDoorAmT
import Derived.Test.YtgjjedpoclhkfaaDoorAmN
import Derived.Test.YtgjjedpoclhkfaaDoorLst
import Derived.Test.YtgjjedpoclhkfaaDoorBrg
import Derived.Test.YtgjjedpoclhkfaaDoorOpen
import Derived.Test.YtgjjedpoclhkfaaDoorUp
import Derived.Test.YtgjjedpoclhkfaaDoorData
set_option linter.unusedVariables false
set_option linter.unusedSimpArgs false
set_option maxRecDepth 100000
set_option maxHeartbeats 4000000
set_option cbv.maxSteps 3000000
namespace Go.Proofs.YtgjjedpoclhkfaaDoor.AM
/- From an exact law's contract to the walk that lift.py asks for; conditions: none. -/
def cx0 (w : World) : Cx := ⟨id, fun _ => False, fun _ => False, w⟩
theorem rd_rel {α : Type} {w : World} {k : Nat} {enc : α → List Value} {A : Option Addr} {cap : Nat} {l : List α} (hr : Rd w k enc A cap l) (hk : 0 < k) {f : Nat → List AV} (h : ∀ (j : Nat) (a : α), l[j]? = some a → f j = (enc a).map AV.lit ∧ (enc a).length = k ∧ ∀ v ∈ enc a, v.oneCell' = true) : Rel (cx0 w) (.vec k l.length f) (.slice A l.length cap) := by
  refine .vec (fun j c => (((l[j]?).map enc).getD []).getD c undef) hr.le hr.max (fun j hj => ?_) (fun h0 => ?_) (fun j c hj hc => ?_) (fun j c x hj hx => ?_)
  · obtain ⟨e1, e2, _⟩ := h j _ (List.getElem?_eq_getElem hj)
    rw [e1, List.length_map, e2]
  · obtain ⟨b, o, hA, hc⟩ := hr.cells (by intro e; subst e; exact absurd h0 (Nat.lt_irrefl 0))
    have cell : ∀ j c, j < l.length → c < k → w.cell? ⟨b, o + j * k + c, none⟩ = some ((((l[j]?).map enc).getD []).getD c undef) := fun j c hj hc' => by
      obtain ⟨e1, e2, _⟩ := h j _ (List.getElem?_eq_getElem hj)
      have hlt : c < (enc l[j]).length := by rw [e2]; exact hc'
      have h1 := hc j l[j] (List.getElem?_eq_getElem hj) c (enc l[j])[c] (List.getElem?_eq_getElem hlt)
      rw [List.getElem?_eq_getElem hj, Option.map_some, Option.getD_some, List.getD_eq_getElem?_getD, List.getElem?_eq_getElem hlt, Option.getD_some]
      exact h1
    exact ⟨b, o, hA, fun h => h, World.block_lt_of_cell? w _ (cell 0 0 h0 hk), cell⟩
  · obtain ⟨e1, e2, e3⟩ := h j _ (List.getElem?_eq_getElem hj)
    have hlt : c < (enc l[j]).length := by rw [e2]; exact hc
    rw [List.getElem?_eq_getElem hj, Option.map_some, Option.getD_some, List.getD_eq_getElem?_getD, List.getElem?_eq_getElem hlt, Option.getD_some]
    exact e3 _ (List.getElem_mem hlt)
  · obtain ⟨e1, e2, e3⟩ := h j _ (List.getElem?_eq_getElem hj)
    rw [e1, List.getElem?_map] at hx
    obtain ⟨v, hv, rfl⟩ := Option.map_eq_some_iff.1 hx
    have hlt : c < (enc l[j]).length := (List.getElem?_eq_some_iff.1 hv).1
    have ev : (enc l[j])[c] = v := (List.getElem?_eq_some_iff.1 hv).2
    rw [List.getElem?_eq_getElem hj, Option.map_some, Option.getD_some, List.getD_eq_getElem?_getD, List.getElem?_eq_getElem hlt, Option.getD_some, ev]
    exact .lit (e3 _ (List.mem_of_getElem? hv))
theorem law_ofX {f : FuncId} {args : List AV} {vs : List Value} {w : World} (h : ConN Tryd.prog f args [] 0 (.lit (.bool true)) [] []) (hl : LRel (cx0 w) args vs) (hsh : w.ShapedOpen Tryd.prog) (hld : Laid w := by intro x hx; cases hx) : Calls Tryd.prog f vs.toArray w (fun e w' => e = .returned (.bool true) ∧ Up w w') := by
  refine (h (cx0 w) vs hl (by simp [lk]) (by simp [lk]) (glo0 lowOk hsh hld) (fun i _ _ => fun h => h)).mono fun e w' ⟨cv, he, C', ha⟩ => ?_
  have hv := ha.val _ rfl
  cases hv
  refine ⟨he, Up.grown (Up.refl w) (row := none) ⟨?_, ?_, ?_, ?_, fun k hk _ => ?_⟩ (by simp)⟩
  · have := ha.ext.wx.os; rw [ha.w] at this; exact this
  · have := ha.ext.wx.tape; rw [ha.w] at this; exact this
  · have := ha.ext.wx.output; rw [ha.w] at this; exact this
  · have := ha.ext.wx.size; rw [ha.w] at this; exact this
  · have := ha.ext.wx.same k hk (by simp); rw [ha.w] at this; exact this
def toArm (A : Arms) : Arm := ⟨⟨A.fd, A.fl, A.ff, A.fs⟩, A.o, A.l, A.t, ⟨A.c1, A.k1, A.a1, A.t1⟩, ⟨A.c2, A.k2, A.a2, A.t2⟩⟩
theorem rd_A {w : World} {A : Option Addr} {cap : Nat} {l : List Arms} (hr : Rd w 15 Arms.cells A cap l) : Rel (cx0 w) (.vec 15 (l.map toArm).length (rowsA stdH fun _ => l.map toArm)) (.slice A l.length cap) := by
  rw [List.length_map]
  refine rd_rel hr (by omega) fun j a hj => ⟨?_, rfl, fun v hv => ?_⟩
  · have e : (l.map toArm).getD j default = toArm a := by rw [List.getD_eq_getElem?_getD, List.getElem?_map, hj]; rfl
    show rowsA stdH (fun _ => l.map toArm) j = _
    unfold rowsA
    simp only [stdH, e]
    rfl
  · simp [Arms.cells, Arms.arr, Arms.list] at hv
    rcases hv with rfl | rfl | rfl | rfl | rfl | rfl | rfl | rfl | rfl | rfl | rfl | rfl | rfl | rfl | rfl <;> rfl
theorem rd_le {α : Type} {w : World} {k : Nat} {enc : α → List Value} {A : Option Addr} {cap : Nat} {l : List α} (hr : Rd w k enc A cap l) : l.length ≤ 9223372036854775807 := by
  have h1 := hr.le; have h2 := hr.max; unfold maxLen at h2; omega
theorem rel_ints (w : World) (l : List Int) : Rel (cx0 w) (.agg (l.map fun x => .lit (.int .i64 x))) (.agg (l.map (Value.int .i64)).toArray) :=
  .agg (by simp) (fun v hv => by simp only [List.mem_map] at hv; obtain ⟨x, _, rfl⟩ := hv; rfl) fun c y v hy hv => by
    rw [List.getElem?_map] at hy hv
    cases e : l[c]? with
    | none => rw [e] at hy; cases hy
    | some x => rw [e] at hy hv; cases hy; cases hv; exact .lit rfl

end Go.Proofs.YtgjjedpoclhkfaaDoor.AM
