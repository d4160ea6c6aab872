/- Lemmas and contracts (Spa); conditions: none. -/
import Derived.Test.YtmkniipdkanbbaaGreatDoorK04
import Derived.Test.YtmkniipdkanbbaaGreatDoorK18
set_option linter.unusedVariables false
set_option linter.unusedSimpArgs false
set_option maxRecDepth 100000
set_option maxHeartbeats 4000000
set_option cbv.maxSteps 3000000
namespace Go.Proofs.YtmkniipdkanbbaaGreatDoor.AM
/- The reference's parsers: the last word, groups; conditions: none. -/
def barT (g : Grp) : ByteArray := cntT g.c g.k ++ ((⟨⟨[32]⟩⟩ : ByteArray) ++ (kndT g.k g.c ++ attT g))
theorem barT_grp (g : Grp) : grpT g = barT g ++ (spB ++ wordOf tinL g.t) := by
  unfold barT grpT
  simp only [ByteArray.append_assoc]; rfl
theorem barT_pos (g : Grp) : 1 ≤ (barT g).size := by
  unfold barT
  simp only [ByteArray.size_append, bsz, List.length_cons, List.length_nil]; omega
end Go.Proofs.YtmkniipdkanbbaaGreatDoor.AM

