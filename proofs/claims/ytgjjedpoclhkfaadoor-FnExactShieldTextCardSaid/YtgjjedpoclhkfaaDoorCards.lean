/-
  DERIVED. GIVEN WITH THE SEED: THE CARDS: each row of YtgjjedpoclhkfaaDoorRows.lean that lists a variable, with what it lists TIED to the program's text (the seventh form; the later family's looks); each row that meets fmt, with fmt's text TOLD by the authors' own Lean function (tested against real Go, not proved from fmt's source: count such statements apart). THE CARD IS WHAT COUNTS. Prove the row's statement (the work); the ties are given (YtgjjedpoclhkfaaDoorTie.lean); close each card by the builder's one call (the guide's Derived/Test/ToyasCard.lean, 'card_holds'). Laid BY PROGRAM, IN A SANDBOX (cutbox-door.mjs). By AI agents, Wed Nov 11 2026. No macro, syntax, notation, axiom, sorry.
-/
import Derived.Test.YtgjjedpoclhkfaaDoorRows
import GoSem.ClaimSeven
namespace Go.Proofs.YtgjjedpoclhkfaaDoor
namespace Rows

/-- THE TIED CARD OF 'laws.FnExactShieldText'. -/
def fnExactShieldTextCard : Claim7 := { stood := { row := fnExactShieldTextRow, standIns := [], harness := (true, "962991ec86fc7356910532741c1b1bcf0dc9fc616bf9e2a06a0721353a60eda3"), looks := false }, kinds := [], alts := [], laidByText := true, laidKinds := [.data, .data, .data], laidTests := true, laidLooks := .later }
def FnExactShieldTextCardSaid : Prop := Claim7.holds Tryd.pinned (.plain (OpenSpec.ofChange fnExactShieldTextSpec)) fnExactShieldTextCard

/-- THE SECOND FORM's CARD OF 'laws.FnExactShieldText'. -/
def fnExactShieldTextUptoCard : Claim7 := { stood := { row := fnExactShieldTextUptoRow, standIns := [], harness := (true, "962991ec86fc7356910532741c1b1bcf0dc9fc616bf9e2a06a0721353a60eda3"), looks := false }, kinds := [], alts := [], laidByText := true, laidKinds := [.data, .data, .data], laidTests := true, laidLooks := .later }
def FnExactShieldTextUptoCardSaid : Prop := Claim7.holds Tryd.pinned (.plain (OpenSpec.upto fnExactShieldTextSpec)) fnExactShieldTextUptoCard
end Rows
end Go.Proofs.YtgjjedpoclhkfaaDoor
