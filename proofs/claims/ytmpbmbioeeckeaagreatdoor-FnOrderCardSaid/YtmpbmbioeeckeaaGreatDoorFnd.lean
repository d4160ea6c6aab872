import Derived.Test.YtmpbmbioeeckeaaGreatDoorAmT
import Derived.Test.YtmpbmbioeeckeaaGreatDoorAmN
import Derived.Test.YtmpbmbioeeckeaaGreatDoorLst
set_option linter.unusedVariables false
set_option linter.unusedSimpArgs false
set_option maxRecDepth 100000
set_option maxHeartbeats 4000000
set_option cbv.maxSteps 3000000
namespace Go.Proofs.YtmpbmbioeeckeaaGreatDoor.AM
/- What a text stands for: the one thing with that text; conditions: none. -/
open Classical in
/-- The thing with a text, if there is one. -/
noncomputable def findO {α : Type} (ok : α → Bool) (T : α → ByteArray) (s : ByteArray) : Option α := if h : ∃ x, ok x = true ∧ T x = s then some h.choose else none
theorem findO_ok {α : Type} {ok : α → Bool} {T : α → ByteArray} {s : ByteArray} {x : α} (h : findO ok T s = some x) : ok x = true ∧ T x = s := by
  unfold findO at h
  split at h
  · rename_i q
    injection h with h; subst h; exact q.choose_spec
  · cases h
theorem findO_iff {α : Type} {ok : α → Bool} {T : α → ByteArray} (inj : ∀ x y, ok x = true → ok y = true → T x = T y → x = y) {s : ByteArray} {x : α} : findO ok T s = some x ↔ ok x = true ∧ T x = s := by
  refine ⟨findO_ok, fun h => ?_⟩
  have q : ∃ y, ok y = true ∧ T y = s := ⟨x, h⟩
  unfold findO
  rw [dif_pos q]
  exact congrArg some (inj _ _ q.choose_spec.1 h.1 (q.choose_spec.2.trans h.2.symm))
theorem findO_none {α : Type} {ok : α → Bool} {T : α → ByteArray} {s : ByteArray} : findO ok T s = none ↔ ∀ x, ok x = true → T x ≠ s := by
  unfold findO
  split
  · rename_i q
    constructor
    · intro h; cases h
    · intro h; obtain ⟨x, h1, h2⟩ := q; exact absurd h2 (h x h1)
  · rename_i q
    exact ⟨fun _ x h1 h2 => q ⟨x, h1, h2⟩, fun _ => rfl⟩

end Go.Proofs.YtmpbmbioeeckeaaGreatDoor.AM
