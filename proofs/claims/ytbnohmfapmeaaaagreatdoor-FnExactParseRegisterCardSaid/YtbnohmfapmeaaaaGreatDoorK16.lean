/- Lemmas and contracts (Shf Jon Cre); conditions: none. -/
import Derived.Test.YtbnohmfapmeaaaaGreatDoorK03
import Derived.Test.YtbnohmfapmeaaaaGreatDoorK05
import Derived.Test.YtbnohmfapmeaaaaGreatDoorK06
import Derived.Test.YtbnohmfapmeaaaaGreatDoorK07
import Derived.Test.YtbnohmfapmeaaaaGreatDoorK09
import Derived.Test.YtbnohmfapmeaaaaGreatDoorK15
import Derived.Below
set_option linter.unusedVariables false
set_option linter.unusedSimpArgs false
set_option maxRecDepth 100000
set_option maxHeartbeats 4000000
set_option cbv.maxSteps 3000000
namespace Go.Proofs.YtbnohmfapmeaaaaGreatDoor.AM
/- The library's contracts, as the machine takes them; conditions: none. -/
theorem LRel.lits {C : Cx} : ∀ {l : List Value} {vs : List Value}, LRel C (l.map .lit) vs → vs = l
  | [], [], _ => rfl
  | [], _ :: _, h => by have := h.1; simp at this
  | _ :: _, [], h => by have := h.1; simp at this
  | x :: l, v :: vs, h => by
    have h1 := h.2 0 (.lit x) v rfl rfl
    cases h1
    have := LRel.lits (C := C) (l := l) (vs := vs) ⟨by simpa using h.1, fun c y u hy hu => h.2 (c + 1) y u (by simpa using hy) (by simpa using hu)⟩
    rw [this]
/-- A function of the library's that turns nothing. -/
theorem con_shelf {f : FuncId} {l : List Value} {r : AV} {v : Value} (hr : ∀ C, Rel C r v) (h : ∀ w : World, w.ShapedOpen Tryz.prog → Calls Tryz.prog f l.toArray w fun e w' => e = .returned v ∧ ∃ n, w' = w.drewN n) : Con Tryz.prog f (l.map .lit) [] r [] := by
  intro C vs hl _ _ hg
  rw [hl.lits]
  refine (h C.w hg.shaped).mono fun e w' ⟨he, n, hw⟩ => ⟨v, he, ⟨C.β, C.ok, C.ow, w'⟩, rfl, ⟨?_, by simp, fun _ _ => rfl, fun _ h => h, fun _ h => .inl h⟩, by simp <;> omega, by simp <;> omega, by simp <;> omega, by simp <;> omega, fun y hy => ?_, by simp [named], by simp⟩
  · subst hw
    exact ⟨rfl, rfl, rfl, Nat.le_refl _, fun _ _ _ => rfl, fun _ c _ h => ⟨c, h, rfl⟩⟩
  · injection hy with hy
    subst hy
    exact hr _
/-- A function of the library's that lays new blocks alone. -/
theorem con_belowG {f : FuncId} {l : List Value} {r : AV} {v : Value} (hr : ∀ C, Rel C r v) (h : ∀ (w : World) (ow : Nat → Prop), Glo w ow → Calls Tryz.prog f l.toArray w fun e w' => e = .returned v ∧ RowKit.Below w.heap.size w w') : Con Tryz.prog f (l.map .lit) [] r [] := by
  intro C vs hl _ _ hg
  rw [hl.lits]
  refine (h C.w _ hg).mono fun e w' ⟨he, hw⟩ => ⟨v, he, ⟨C.β, C.ok, C.ow, w'⟩, rfl, ⟨⟨hw.os, hw.tape, hw.output, hw.size, fun k hk _ => hw.block k hk, fun k c T hc => ⟨c, ?_, rfl⟩⟩, by simp, fun _ _ => rfl, fun _ h => h, fun _ h => .inl h⟩, by simp <;> omega, by simp <;> omega, by simp <;> omega, by simp <;> omega, fun y hy => ?_, by simp [named], by simp⟩
  · show w'.heap[k]? = _
    rw [hw.block k (Array.getElem?_eq_some_iff.1 hc).1]; exact hc
  · injection hy with hy
    subst hy
    exact hr _
theorem con_below {f : FuncId} {l : List Value} {r : AV} {v : Value} (hr : ∀ C, Rel C r v) (h : ∀ w : World, w.ShapedOpen Tryz.prog → Calls Tryz.prog f l.toArray w fun e w' => e = .returned v ∧ RowKit.Below w.heap.size w w') : Con Tryz.prog f (l.map .lit) [] r [] := con_belowG hr fun w _ hg => h w hg.shaped
/-- A function of the library's that hands out a new list of texts. -/
theorem con_texts {f : FuncId} {l : List Value} {L : List ByteArray} {T : TypeId} (hL : L.length ≤ maxLen) (h : ∀ w : World, w.ShapedOpen Tryz.prog → Calls Tryz.prog f l.toArray w fun e w' => e = .returned (.slice (some ⟨w.heap.size, 0, none⟩) L.length L.length) ∧ w' = w.alloc (.cells (L.map Value.string).toArray T)) : Con Tryz.prog f (l.map .lit) [] (.vec 1 L.length (rowsS stdH fun _ => L)) [] := by
  intro C vs hl _ _ hg
  rw [hl.lits]
  refine (h C.w hg.shaped).mono fun e w' ⟨he, hw⟩ => ⟨_, he, ⟨C.β, C.ok, C.ow, w'⟩, rfl, ⟨?_, by simp, fun _ _ => rfl, fun _ h => h, fun _ h => .inl h⟩, by simp <;> omega, by simp <;> omega, by simp <;> omega, by simp <;> omega, fun y hy => ?_, by simp [named], by simp⟩
  · subst hw; exact .alloc _ _ _
  · injection hy with hy
    subst hy
    subst hw
    refine .vec (fun j _ => .string (L.getD j ByteArray.empty)) (Nat.le_refl _) hL (fun _ _ => rfl) (fun _ => ⟨C.w.heap.size, 0, rfl, fun h => Nat.lt_irrefl _ (hg.lt _ h), by simp, fun j c hj hc => ?_⟩) (fun _ _ _ _ => rfl) (fun j c x hj hx => ?_)
    · obtain rfl : c = 0 := by omega
      show World.cell? _ ⟨C.w.heap.size, 0 + j * 1 + 0, none⟩ = _
      rw [World.cell?_alloc_new, Nat.zero_add, Nat.mul_one, Nat.add_zero]
      simp only [List.getElem?_toArray, List.getElem?_map, List.getElem?_eq_getElem hj, Option.map_some, List.getD_eq_getElem?_getD, Option.getD_some]
    · rcases c with _ | c
      · simp [rowsS] at hx; subst hx; exact .lit rfl
      · simp [rowsS] at hx
theorem rel_tup3 {C : Cx} {a b c : Value} (ha : a.oneCell' = true) (hb : b.oneCell' = true) (hc : c.oneCell' = true) : Rel C (.tup [.lit a, .lit b, .lit c]) (.tuple #[a, b, c]) :=
  .tup (vs := [a, b, c]) rfl fun i x v hx hv => by
    rcases i with _ | _ | _ | i <;> simp at hx hv <;> subst hx <;> subst hv
    · exact .lit ha
    · exact .lit hb
    · exact .lit hc
theorem c_cut (s sep : ByteArray) (h0 : s.size < 4294967281) : Con Tryz.prog 62 [.lit (.string s), .lit (.string sep)] [] (.tup [.lit (.string ⟨(Lib.cut s.data.toList sep.data.toList).1.toArray⟩), .lit (.string ⟨(Lib.cut s.data.toList sep.data.toList).2.1.toArray⟩), .lit (.bool (Lib.cut s.data.toList sep.data.toList).2.2)]) [] :=
  con_shelf (l := [.string s, .string sep]) (fun _ => rel_tup3 rfl rfl rfl) fun w hw => Tryz.strings_Cut_shaped s sep w hw h0
end Go.Proofs.YtbnohmfapmeaaaaGreatDoor.AM

set_option linter.unusedVariables false
set_option linter.unusedSimpArgs false
set_option maxRecDepth 100000
set_option maxHeartbeats 4000000
set_option cbv.maxSteps 3000000
namespace Go.Proofs.YtbnohmfapmeaaaaGreatDoor.AM
/- Texts joined by the library; conditions: none. -/
/-- Texts with another between them. -/
def jnB (L : List ByteArray) (s : ByteArray) : ByteArray := ⟨(Lib.join (L.map (·.data.toList)) s.data.toList).toArray⟩
theorem jnB_one (x s : ByteArray) : jnB [x] s = x := by
  apply ByteArray.ext; apply Array.ext'
  simp [jnB, Lib.join_one]
end Go.Proofs.YtbnohmfapmeaaaaGreatDoor.AM

set_option linter.unusedVariables false
set_option linter.unusedSimpArgs false
set_option maxRecDepth 100000
set_option maxHeartbeats 4000000
set_option cbv.maxSteps 3000000
namespace Go.Proofs.YtbnohmfapmeaaaaGreatDoor.AM
/- Crests, classes of tinctures, wreaths; conditions: none. -/
structure Crs where
  k : Int
  a : Int
  t : Int
  r : Int
deriving Inhabited
end Go.Proofs.YtbnohmfapmeaaaaGreatDoor.AM

