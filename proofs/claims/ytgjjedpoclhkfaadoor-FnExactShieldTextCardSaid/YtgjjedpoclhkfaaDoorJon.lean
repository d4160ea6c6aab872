import Derived.Test.YtgjjedpoclhkfaaDoorAmT
import Derived.Test.YtgjjedpoclhkfaaDoorShf
set_option linter.unusedVariables false
set_option linter.unusedSimpArgs false
set_option maxRecDepth 100000
set_option maxHeartbeats 4000000
set_option cbv.maxSteps 3000000
namespace Go.Proofs.YtgjjedpoclhkfaaDoor.AM
/- Texts joined by the library; conditions: none. -/
/-- Texts with another between them. -/
def jnB (L : List ByteArray) (s : ByteArray) : ByteArray := ⟨(Lib.join (L.map (·.data.toList)) s.data.toList).toArray⟩
theorem c_join (L : List ByteArray) (s : ByteArray) (hl : L.length ≤ 1000000) (hz : (jnB L s).size ≤ 1000000) : Con Tryd.prog 27 [.vec 1 L.length (rowsS stdH fun _ => L), .lit (.string s)] [] (.lit (.string (jnB L s))) [] := by
  intro C vs hl0 _ _ hg
  obtain ⟨hlen, hrel⟩ := hl0
  match vs, hlen with
  | [v0, v1], _ =>
    have r0 := hrel 0 _ v0 rfl rfl
    have r1 := hrel 1 _ v1 rfl rfl
    cases r1
    cases r0 with
    | @vec _ _ cap _ A g hn hm hk hc h1 hr =>
    have H : Calls Tryd.prog 27 #[.slice A L.length cap, .string s] C.w fun e w' => e = .returned (.string (jnB L s)) ∧ RowKit.Below C.w.heap.size C.w w' := by
      rcases Nat.eq_zero_or_pos L.length with e | e
      · obtain rfl := List.eq_nil_of_length_eq_zero e
        exact (Tryd.strings_Join_none A cap s C.w).mono fun e w' ⟨h1, h2⟩ => ⟨h1, by subst h2; exact .refl _ _⟩
      · obtain ⟨b, o, rfl, _, hb, hcell⟩ := hc e
        refine Tryd.strings_Join b o cap L s C.w (fun j x hx => ?_) hb (by omega) hn (by
          have : (jnB L s).size = (Lib.join (L.map (·.data.toList)) s.data.toList).length := by simp [jnB, ByteArray.size]
          omega)
        have hj : j < L.length := (List.getElem?_eq_some_iff.1 hx).1
        have := hcell j 0 hj (by omega)
        rw [Nat.mul_one, Nat.add_zero] at this
        rw [this]
        have q := hr j 0 (.lit (.string x)) hj (by
          show ([AV.lit (.string (L.getD j ByteArray.empty))] : List AV)[0]? = _
          rw [List.getD_eq_getElem?_getD, hx]; rfl)
        generalize g j 0 = u at q ⊢
        cases q
        rfl
    refine H.mono fun e w' ⟨he, hw⟩ => ⟨_, he, ⟨C.β, C.ok, C.ow, w'⟩, rfl, ⟨⟨hw.os, hw.tape, hw.output, hw.size, fun k hk _ => hw.block k hk, fun k c T hc => ⟨c, ?_, rfl⟩⟩, by simp, fun _ _ => rfl, fun _ h => h, fun _ h => .inl h⟩, by simp <;> omega, by simp <;> omega, by simp <;> omega, by simp <;> omega, fun y hy => ?_, by simp [named], by simp⟩
    · show w'.heap[k]? = _
      rw [hw.block k (Array.getElem?_eq_some_iff.1 hc).1]; exact hc
    · injection hy with hy
      subst hy
      exact .lit rfl
noncomputable def e_join : Entry := pureE 27 fun H a => match a with
  | [.vec 1 n f, .lit (.string s)] => some (.lit (.string (H ByteArray fun _ => jnB (Tl rowS n f) s)), [H Prop fun _ => Shp rowS n f ∧ (Tl rowS n f).length ≤ 1000000 ∧ (jnB (Tl rowS n f) s).size ≤ 1000000])
  | _ => none
theorem eok_join : EntryOk Tryd.prog e_join := pureE_ok (by unfold isBody; kernel_rfl) (by
  intro a r ob e hob
  split at e
  · simp only [Option.some.injEq, Prod.mk.injEq] at e
    obtain ⟨rfl, rfl⟩ := e
    obtain ⟨h1, h2, h3⟩ := hob.1
    exact (ConN.args (.cons (.toT okS rfl h1) (.cons .rfl .nil)) ((c_join _ _ h2 h3).toN 0)).con
  · simp at e)

end Go.Proofs.YtgjjedpoclhkfaaDoor.AM
