/-
  DERIVED. GIVEN WITH THE SEED: THE CARDS: each row of YtcjjffmbhionmaaGreatDoorRows.lean that lists a variable, with what it lists TIED to the program's text (the seventh form; the later family's looks); each row that meets fmt, with fmt's text TOLD by the authors' own Lean function (tested against real Go, not proved from fmt's source: count such statements apart). THE CARD IS WHAT COUNTS. Prove the row's statement (the work); the ties are given (YtcjjffmbhionmaaGreatDoorTie.lean); close each card by the builder's one call (the guide's Derived/Test/ToyasCard.lean, 'card_holds'). Laid BY PROGRAM, IN A SANDBOX (cutbox-door.mjs). By AI agents, Wed Nov 11 2026. No macro, syntax, notation, axiom, sorry.
-/
import Derived.Test.YtcjjffmbhionmaaGreatDoorRows
import GoSem.ClaimSeven
namespace Go.Proofs.YtcjjffmbhionmaaGreatDoor
namespace Rows

/-- THE TIED CARD OF 'laws.FnIndexLines'. -/
def fnIndexLinesCard : Claim7 := { stood := { row := fnIndexLinesRow, standIns := [], harness := (true, "6b7084c9e4f9cf111b6b3ea17739676868f9e83bd6682dc0c1730a13f84dd616"), looks := false }, kinds := [], alts := [], laidByText := true, laidKinds := [.data, .data, .data], laidTests := true, laidLooks := .later }
def FnIndexLinesCardSaid : Prop := Claim7.holds Tryz.pinned (.plain (OpenSpec.ofChange fnIndexLinesSpec)) fnIndexLinesCard

/-- THE TIED CARD OF 'laws.FnSearch'. -/
def fnSearchCard : Claim7 := { stood := { row := fnSearchRow, standIns := [], harness := (true, "6b7084c9e4f9cf111b6b3ea17739676868f9e83bd6682dc0c1730a13f84dd616"), looks := false }, kinds := [], alts := [], laidByText := true, laidKinds := [.data, .data, .data], laidTests := true, laidLooks := .later }
def FnSearchCardSaid : Prop := Claim7.holds Tryz.pinned (.plain (OpenSpec.ofChange fnSearchSpec)) fnSearchCard

/-- THE SECOND FORM's CARD OF 'laws.FnIndexLines'. -/
def fnIndexLinesUptoCard : Claim7 := { stood := { row := fnIndexLinesUptoRow, standIns := [], harness := (true, "6b7084c9e4f9cf111b6b3ea17739676868f9e83bd6682dc0c1730a13f84dd616"), looks := false }, kinds := [], alts := [], laidByText := true, laidKinds := [.data, .data, .data], laidTests := true, laidLooks := .later }
def FnIndexLinesUptoCardSaid : Prop := Claim7.holds Tryz.pinned (.plain (OpenSpec.upto fnIndexLinesSpec)) fnIndexLinesUptoCard

/-- THE SECOND FORM's CARD OF 'laws.FnSearch'. -/
def fnSearchUptoCard : Claim7 := { stood := { row := fnSearchUptoRow, standIns := [], harness := (true, "6b7084c9e4f9cf111b6b3ea17739676868f9e83bd6682dc0c1730a13f84dd616"), looks := false }, kinds := [], alts := [], laidByText := true, laidKinds := [.data, .data, .data], laidTests := true, laidLooks := .later }
def FnSearchUptoCardSaid : Prop := Claim7.holds Tryz.pinned (.plain (OpenSpec.upto fnSearchSpec)) fnSearchUptoCard
end Rows
end Go.Proofs.YtcjjffmbhionmaaGreatDoor
