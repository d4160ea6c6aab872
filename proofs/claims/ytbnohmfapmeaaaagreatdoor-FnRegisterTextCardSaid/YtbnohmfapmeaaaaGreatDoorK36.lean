/- Lemmas and contracts (Shm Spo); conditions: none. -/
import Derived.Test.YtbnohmfapmeaaaaGreatDoorK03
import Derived.Test.YtbnohmfapmeaaaaGreatDoorK05
import Derived.Test.YtbnohmfapmeaaaaGreatDoorK09
import Derived.Test.YtbnohmfapmeaaaaGreatDoorK10
import Derived.Test.YtbnohmfapmeaaaaGreatDoorK13
import Derived.Test.YtbnohmfapmeaaaaGreatDoorK20
import Derived.Test.YtbnohmfapmeaaaaGreatDoorK21
import Derived.Test.YtbnohmfapmeaaaaGreatDoorK24
import Derived.Test.YtbnohmfapmeaaaaGreatDoorK26
import Derived.Test.YtbnohmfapmeaaaaGreatDoorK28
import Derived.Test.YtbnohmfapmeaaaaGreatDoorK29
import Derived.Test.YtbnohmfapmeaaaaGreatDoorK33
import Derived.Test.YtbnohmfapmeaaaaGreatDoorK35
set_option linter.unusedVariables false
set_option linter.unusedSimpArgs false
set_option maxRecDepth 100000
set_option maxHeartbeats 4000000
set_option cbv.maxSteps 3000000
namespace Go.Proofs.YtbnohmfapmeaaaaGreatDoor.AM
/- Texts of shields read back: the program's; conditions: none. -/
theorem getD_le2 {L : List ByteArray} {m : Nat} (h : ∀ x ∈ L, x.size ≤ m) (i : Nat) : (L.getD i ByteArray.empty).size ≤ m := by
  rw [List.getD_eq_getElem?_getD]
  cases e : L[i]? with
  | none => exact Nat.zero_le _
  | some s => exact h s (List.mem_of_getElem? e)
end Go.Proofs.YtbnohmfapmeaaaaGreatDoor.AM

set_option linter.unusedVariables false
set_option linter.unusedSimpArgs false
set_option maxRecDepth 100000
set_option maxHeartbeats 4000000
set_option cbv.maxSteps 3000000
namespace Go.Proofs.YtbnohmfapmeaaaaGreatDoor.AM
/- Texts are spoilt, drawn; conditions: none. -/
theorem grp_ok {g : Grp} (h : (1 ≤ g.c ∧ g.c ≤ 6) ∧ (1 ≤ g.k ∧ g.k ≤ 8) ∧ (if g.k ≤ 3 then 1 ≤ g.a ∧ g.a ≤ 2 else g.a = 0) ∧ (1 ≤ g.t ∧ g.t ≤ 9)) : okG g = true := by
  obtain ⟨h1, h2, h3, h4⟩ := h
  unfold okG attF inB
  simp only [Bool.and_eq_true, decide_eq_true_eq]
  refine ⟨⟨h1, h2, ?_⟩, h4⟩
  split
  · rename_i hk; rw [if_pos hk] at h3; exact decide_eq_true h3
  · rename_i hk; rw [if_neg hk] at h3; exact decide_eq_true h3
end Go.Proofs.YtbnohmfapmeaaaaGreatDoor.AM

