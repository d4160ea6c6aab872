import Derived.Test.YtbgmlocolacnpaaAmT
import Derived.Test.YtbgmlocolacnpaaAmN
import Derived.Test.YtbgmlocolacnpaaShelf
set_option linter.unusedVariables false
set_option linter.unusedSimpArgs false
set_option maxRecDepth 100000
set_option maxHeartbeats 4000000
set_option cbv.maxSteps 3000000
namespace Go.Proofs.Ytbgmlocolacnpaa.AM
/- The library's contracts, as the machine takes them; conditions: none. -/
theorem LRel.lits {C : Cx} : ∀ {l : List Value} {vs : List Value}, LRel C (l.map .lit) vs → vs = l
  | [], [], _ => rfl
  | [], _ :: _, h => by have := h.1; simp at this
  | _ :: _, [], h => by have := h.1; simp at this
  | x :: l, v :: vs, h => by
    have h1 := h.2 0 (.lit x) v rfl rfl
    cases h1
    have := LRel.lits (C := C) (l := l) (vs := vs) ⟨by simpa using h.1, fun c y u hy hu => h.2 (c + 1) y u (by simpa using hy) (by simpa using hu)⟩
    rw [this]
/-- A function of the library's that turns nothing. -/
theorem con_shelf {f : FuncId} {l : List Value} {r : AV} {v : Value} (hr : ∀ C, Rel C r v) (h : ∀ w : World, w.ShapedOpen Try.prog → Calls Try.prog f l.toArray w fun e w' => e = .returned v ∧ ∃ n, w' = w.drewN n) : Con Try.prog f (l.map .lit) [] r [] := by
  intro C vs hl _ _ hg
  rw [hl.lits]
  refine (h C.w hg.shaped).mono fun e w' ⟨he, n, hw⟩ => ⟨v, he, ⟨C.β, C.ok, C.ow, w'⟩, rfl, ⟨?_, by simp, fun _ _ => rfl, fun _ h => h, fun _ h => .inl h⟩, by simp <;> omega, by simp <;> omega, by simp <;> omega, by simp <;> omega, fun y hy => ?_, by simp [named], by simp⟩
  · subst hw
    exact ⟨rfl, rfl, rfl, Nat.le_refl _, fun _ _ _ => rfl, fun _ c _ h => ⟨c, h, rfl⟩⟩
  · injection hy with hy
    subst hy
    exact hr _
theorem rel_tup3 {C : Cx} {a b c : Value} (ha : a.oneCell' = true) (hb : b.oneCell' = true) (hc : c.oneCell' = true) : Rel C (.tup [.lit a, .lit b, .lit c]) (.tuple #[a, b, c]) :=
  .tup (vs := [a, b, c]) rfl fun i x v hx hv => by
    rcases i with _ | _ | _ | i <;> simp at hx hv <;> subst hx <;> subst hv
    · exact .lit ha
    · exact .lit hb
    · exact .lit hc
theorem c_cut (s sep : ByteArray) (h0 : s.size < 4294967281) : Con Try.prog 10 [.lit (.string s), .lit (.string sep)] [] (.tup [.lit (.string ⟨(Lib.cut s.data.toList sep.data.toList).1.toArray⟩), .lit (.string ⟨(Lib.cut s.data.toList sep.data.toList).2.1.toArray⟩), .lit (.bool (Lib.cut s.data.toList sep.data.toList).2.2)]) [] :=
  con_shelf (l := [.string s, .string sep]) (fun _ => rel_tup3 rfl rfl rfl) fun w hw => Try.strings_Cut_shaped s sep w hw h0
noncomputable def e_cut : Entry := pureE 10 fun H a => match a with
  | [.lit (.string s), .lit (.string sep)] => some (.tup [.lit (.string (H ByteArray fun _ => (⟨(Lib.cut s.data.toList sep.data.toList).1.toArray⟩))), .lit (.string (H ByteArray fun _ => (⟨(Lib.cut s.data.toList sep.data.toList).2.1.toArray⟩))), .lit (.bool (H Bool fun _ => ((Lib.cut s.data.toList sep.data.toList).2.2)))], [H Prop fun _ => s.size < 4294967281])
  | _ => none
theorem eok_cut : EntryOk Try.prog e_cut := pureE_ok (by unfold isBody; kernel_rfl) (by
  intro a r ob e hob
  split at e
  · simp only [Option.some.injEq, Prod.mk.injEq] at e
    obtain ⟨rfl, rfl⟩ := e
    obtain ⟨h0, _⟩ := hob
    exact c_cut _ _ h0
  · simp at e)

end Go.Proofs.Ytbgmlocolacnpaa.AM
