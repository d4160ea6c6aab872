/-
  DERIVED. GIVEN WITH THE SEED: THE CARDS: each row of YtbgmlocolacnpaaDoorRows.lean that lists a variable, with what it lists TIED to the program's text (the seventh form; the later family's looks); each row that meets fmt, with fmt's text TOLD by the authors' own Lean function (tested against real Go, not proved from fmt's source: count such statements apart). THE CARD IS WHAT COUNTS. Prove the row's statement (the work); the ties are given (YtbgmlocolacnpaaDoorTie.lean); close each card by the builder's one call (the guide's Derived/Test/ToyasCard.lean, 'card_holds'). Laid BY PROGRAM, IN A SANDBOX (cutbox-door.mjs). By AI agents, Wed Nov 11 2026. No macro, syntax, notation, axiom, sorry.
-/
import Derived.Test.YtbgmlocolacnpaaDoorRows
import GoSem.ClaimSeven
namespace Go.Proofs.YtbgmlocolacnpaaDoor
namespace Rows

/-- THE TIED CARD OF 'laws.FnExactIsValidMotto'. -/
def fnExactIsValidMottoCard : Claim7 := { stood := { row := fnExactIsValidMottoRow, standIns := [], harness := (true, "e3cb6ef820e0b308590de2692646184d61e003805b99ab559e7fb509cad5af4c"), looks := false }, kinds := [], alts := [], laidByText := true, laidKinds := [.data, .pinned], laidTests := true, laidLooks := .later }
def FnExactIsValidMottoCardSaid : Prop := Claim7.holds Tryd.pinned (.plain (OpenSpec.ofChange fnExactIsValidMottoSpec)) fnExactIsValidMottoCard

/-- THE TIED CARD OF 'laws.FnExactInitialLetters'. -/
def fnExactInitialLettersCard : Claim7 := { stood := { row := fnExactInitialLettersRow, standIns := [], harness := (true, "e3cb6ef820e0b308590de2692646184d61e003805b99ab559e7fb509cad5af4c"), looks := false }, kinds := [], alts := [], laidByText := true, laidKinds := [.data, .pinned], laidTests := true, laidLooks := .later }
def FnExactInitialLettersCardSaid : Prop := Claim7.holds Tryd.pinned (.plain (OpenSpec.ofChange fnExactInitialLettersSpec)) fnExactInitialLettersCard

/-- THE TIED CARD OF 'laws.FnExactParseCrest'. -/
def fnExactParseCrestCard : Claim7 := { stood := { row := fnExactParseCrestRow, standIns := [], harness := (true, "e3cb6ef820e0b308590de2692646184d61e003805b99ab559e7fb509cad5af4c"), looks := false }, kinds := [], alts := [], laidByText := true, laidKinds := [.data, .pinned], laidTests := true, laidLooks := .later }
def FnExactParseCrestCardSaid : Prop := Claim7.holds Tryd.pinned (.plain (OpenSpec.ofChange fnExactParseCrestSpec)) fnExactParseCrestCard

/-- THE TIED CARD OF 'laws.FnExactFewestLines'. -/
def fnExactFewestLinesCard : Claim7 := { stood := { row := fnExactFewestLinesRow, standIns := [], harness := (true, "e3cb6ef820e0b308590de2692646184d61e003805b99ab559e7fb509cad5af4c"), looks := false }, kinds := [], alts := [], laidByText := true, laidKinds := [.data, .pinned], laidTests := true, laidLooks := .later }
def FnExactFewestLinesCardSaid : Prop := Claim7.holds Tryd.pinned (.plain (OpenSpec.ofChange fnExactFewestLinesSpec)) fnExactFewestLinesCard

/-- THE SECOND FORM's CARD OF 'laws.FnExactIsValidMotto'. -/
def fnExactIsValidMottoUptoCard : Claim7 := { stood := { row := fnExactIsValidMottoUptoRow, standIns := [], harness := (true, "e3cb6ef820e0b308590de2692646184d61e003805b99ab559e7fb509cad5af4c"), looks := false }, kinds := [], alts := [], laidByText := true, laidKinds := [.data, .pinned], laidTests := true, laidLooks := .later }
def FnExactIsValidMottoUptoCardSaid : Prop := Claim7.holds Tryd.pinned (.plain (OpenSpec.upto fnExactIsValidMottoSpec)) fnExactIsValidMottoUptoCard

/-- THE SECOND FORM's CARD OF 'laws.FnExactInitialLetters'. -/
def fnExactInitialLettersUptoCard : Claim7 := { stood := { row := fnExactInitialLettersUptoRow, standIns := [], harness := (true, "e3cb6ef820e0b308590de2692646184d61e003805b99ab559e7fb509cad5af4c"), looks := false }, kinds := [], alts := [], laidByText := true, laidKinds := [.data, .pinned], laidTests := true, laidLooks := .later }
def FnExactInitialLettersUptoCardSaid : Prop := Claim7.holds Tryd.pinned (.plain (OpenSpec.upto fnExactInitialLettersSpec)) fnExactInitialLettersUptoCard

/-- THE SECOND FORM's CARD OF 'laws.FnExactParseCrest'. -/
def fnExactParseCrestUptoCard : Claim7 := { stood := { row := fnExactParseCrestUptoRow, standIns := [], harness := (true, "e3cb6ef820e0b308590de2692646184d61e003805b99ab559e7fb509cad5af4c"), looks := false }, kinds := [], alts := [], laidByText := true, laidKinds := [.data, .pinned], laidTests := true, laidLooks := .later }
def FnExactParseCrestUptoCardSaid : Prop := Claim7.holds Tryd.pinned (.plain (OpenSpec.upto fnExactParseCrestSpec)) fnExactParseCrestUptoCard

/-- THE SECOND FORM's CARD OF 'laws.FnExactFewestLines'. -/
def fnExactFewestLinesUptoCard : Claim7 := { stood := { row := fnExactFewestLinesUptoRow, standIns := [], harness := (true, "e3cb6ef820e0b308590de2692646184d61e003805b99ab559e7fb509cad5af4c"), looks := false }, kinds := [], alts := [], laidByText := true, laidKinds := [.data, .pinned], laidTests := true, laidLooks := .later }
def FnExactFewestLinesUptoCardSaid : Prop := Claim7.holds Tryd.pinned (.plain (OpenSpec.upto fnExactFewestLinesSpec)) fnExactFewestLinesUptoCard
end Rows
end Go.Proofs.YtbgmlocolacnpaaDoor
