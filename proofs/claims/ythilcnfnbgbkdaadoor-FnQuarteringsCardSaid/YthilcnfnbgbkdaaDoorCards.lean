/-
  DERIVED. GIVEN WITH THE SEED: THE CARDS: each row of YthilcnfnbgbkdaaDoorRows.lean that lists a variable, with what it lists TIED to the program's text (the seventh form; the later family's looks); each row that meets fmt, with fmt's text TOLD by the authors' own Lean function (tested against real Go, not proved from fmt's source: count such statements apart). THE CARD IS WHAT COUNTS. Prove the row's statement (the work); the ties are given (YthilcnfnbgbkdaaDoorTie.lean); close each card by the builder's one call (the guide's Derived/Test/ToyasCard.lean, 'card_holds'). Laid BY PROGRAM, IN A SANDBOX (cutbox-door.mjs). By AI agents, Wed Nov 11 2026. No macro, syntax, notation, axiom, sorry.
-/
import Derived.Test.YthilcnfnbgbkdaaDoorRows
import GoSem.ClaimSeven
namespace Go.Proofs.YthilcnfnbgbkdaaDoor
namespace Rows

/-- THE TIED CARD OF 'laws.FnQuarterings'. -/
def fnQuarteringsCard : Claim7 := { stood := { row := fnQuarteringsRow, standIns := [], harness := (true, "a8bfbfe4f9fade6852b1ba186fef477f4cd85a64fbf125d9320605294690cce6"), looks := false }, kinds := [], alts := [], laidByText := true, laidKinds := [.data, .data, .data], laidTests := true, laidLooks := .later }
def FnQuarteringsCardSaid : Prop := Claim7.holds Tryd.pinned (.plain (OpenSpec.ofChange fnQuarteringsSpec)) fnQuarteringsCard

/-- THE SECOND FORM's CARD OF 'laws.FnQuarterings'. -/
def fnQuarteringsUptoCard : Claim7 := { stood := { row := fnQuarteringsUptoRow, standIns := [], harness := (true, "a8bfbfe4f9fade6852b1ba186fef477f4cd85a64fbf125d9320605294690cce6"), looks := false }, kinds := [], alts := [], laidByText := true, laidKinds := [.data, .data, .data], laidTests := true, laidLooks := .later }
def FnQuarteringsUptoCardSaid : Prop := Claim7.holds Tryd.pinned (.plain (OpenSpec.upto fnQuarteringsSpec)) fnQuarteringsUptoCard
end Rows
end Go.Proofs.YthilcnfnbgbkdaaDoor
