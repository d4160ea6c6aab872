/- Lemmas and contracts (Spe); conditions: none. -/
import Derived.Test.YtbnohmfapmeaaaaGreatDoorK03
import Derived.Test.YtbnohmfapmeaaaaGreatDoorK09
import Derived.Test.YtbnohmfapmeaaaaGreatDoorK42
set_option linter.unusedVariables false
set_option linter.unusedSimpArgs false
set_option maxRecDepth 100000
set_option maxHeartbeats 4000000
set_option cbv.maxSteps 3000000
namespace Go.Proofs.YtbnohmfapmeaaaaGreatDoor.AM
/- Arms parsed by both; conditions: none. -/
theorem r6_some {s : ByteArray} {a : Arm} (h : pA s = some a) : r6 s = a := by
  by_cases q : early s
  · obtain ⟨q1, q2, q3, q4⟩ := q
    cases hf : pF (cutB s comB).1 with
    | none => rw [hf] at q2; cases q2
    | some f =>
      cases hg : pG (cutB s comB).2.1 with
      | none => rw [hg] at q4; cases q4
      | some g =>
        rw [r6_early q1 hf q3 hg]
        rw [pA_early hf q3 hg] at h
        split at h
        · injection h
        · cases h
  · rw [r6_late q, h]; rfl
end Go.Proofs.YtbnohmfapmeaaaaGreatDoor.AM

