/- Lemmas and contracts (Spa); conditions: none. -/
import Derived.Test.YtmkniipdkanbbaaGreatDoorK04
import Derived.Test.YtmkniipdkanbbaaGreatDoorK14
set_option linter.unusedVariables false
set_option linter.unusedSimpArgs false
set_option maxRecDepth 100000
set_option maxHeartbeats 4000000
set_option cbv.maxSteps 3000000
namespace Go.Proofs.YtmkniipdkanbbaaGreatDoor.AM
/- The reference's parsers: the last word, groups; conditions: none. -/
def barT (g : Grp) : ByteArray := cntT g.c g.k ++ ((⟨⟨[32]⟩⟩ : ByteArray) ++ (kndT g.k g.c ++ attT g))
theorem barT_grp (g : Grp) : grpT g = barT g ++ (spB ++ wordOf tinL g.t) := by
  unfold barT grpT
  simp only [ByteArray.append_assoc]; rfl
def okBar (g : Grp) : Bool := okG g && decide (g.t = 1)
theorem barT_inj : ∀ x y : Grp, okBar x = true → okBar y = true → barT x = barT y → x = y := fun x y hx hy e => by
  unfold okBar at hx hy
  simp only [Bool.and_eq_true, decide_eq_true_eq] at hx hy
  exact grpT_inj hx.1 hy.1 (by rw [barT_grp, barT_grp, e, hx.2, hy.2])
noncomputable def uB (s : ByteArray) : Option Grp := findO okBar barT s
theorem uB_iff {s : ByteArray} {g : Grp} : uB s = some g ↔ okBar g = true ∧ barT g = s := findO_iff barT_inj
theorem barT_pos (g : Grp) : 1 ≤ (barT g).size := by
  unfold barT
  simp only [ByteArray.size_append, bsz, List.length_cons, List.length_nil]; omega
end Go.Proofs.YtmkniipdkanbbaaGreatDoor.AM

