/- Lemmas and contracts (Num); conditions: none. -/
import Derived.Test.YtmkniipdkanbbaaGreatDoorK04
import Derived.Test.YtmkniipdkanbbaaGreatDoorK10
set_option linter.unusedVariables false
set_option linter.unusedSimpArgs false
set_option maxRecDepth 100000
set_option maxHeartbeats 4000000
set_option cbv.maxSteps 3000000
namespace Go.Proofs.YtmkniipdkanbbaaGreatDoor.AM
/- Numbers as texts; marks of texts; conditions: none. -/
theorem beqT (s t : ByteArray) : (s.toList == t.toList) = decide (s = t) := by
  rw [Bool.eq_iff_iff, beq_iff_eq, decide_eq_true_eq, ByteArray.toList_eq, ByteArray.toList_eq]
  exact ⟨fun h => ByteArray.ext (Array.ext' h), fun h => by rw [h]⟩
theorem TlS' (L : List ByteArray) : Tl rowS L.length (rowsS stdH fun _ => L) = L := Tl_rowsT okS L
theorem ShpS' (n : Nat) (L : List ByteArray) : Shp rowS n (rowsS stdH fun _ => L) := Shp_rowsT okS n (fun _ => L)
end Go.Proofs.YtmkniipdkanbbaaGreatDoor.AM

