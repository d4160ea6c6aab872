/- Lemmas and contracts (Spd); conditions: none. -/
import Derived.Test.YtmkniipdkanbbaaGreatDoorK04
import Derived.Test.YtmkniipdkanbbaaGreatDoorK22
set_option linter.unusedVariables false
set_option linter.unusedSimpArgs false
set_option maxRecDepth 100000
set_option maxHeartbeats 4000000
set_option cbv.maxSteps 3000000
namespace Go.Proofs.YtmkniipdkanbbaaGreatDoor.AM
/- The reference's parser of arms; conditions: none. -/
theorem cutB_nf {s p : ByteArray} (h : (cutB s p).2.2 = false) : cutB s p = (s, ByteArray.empty, false) := by
  unfold cutB Lib.cut at *
  split
  · rename_i q; rw [if_pos q] at h; cases h
  · rfl
theorem okA_fld {f : Fld} {r : Grp} (hf : okF f = true) (hr : (noG r || okG r) = true) : okA ⟨f, 0, 0, 0, zG, r⟩ = true := by
  unfold okA
  simp only [hf, hr, Bool.true_and, if_true]
  decide
def btA (r : ByteArray) : ByteArray × ByteArray × Bool := if (cutB r btwB).2.2 then cutB r btwB else cutB r abvB
end Go.Proofs.YtmkniipdkanbbaaGreatDoor.AM

