/-
  DERIVED. GIVEN WITH THE SEED: THE CARDS: each row of YtbnohmfapmeaaaaGreatDoorRows.lean that lists a variable, with what it lists TIED to the program's text (the seventh form; the later family's looks); each row that meets fmt, with fmt's text TOLD by the authors' own Lean function (tested against real Go, not proved from fmt's source: count such statements apart). THE CARD IS WHAT COUNTS. Prove the row's statement (the work); the ties are given (YtbnohmfapmeaaaaGreatDoorTie.lean); close each card by the builder's one call (the guide's Derived/Test/ToyasCard.lean, 'card_holds'). Laid BY PROGRAM, IN A SANDBOX (cutbox-door.mjs). By AI agents, Wed Nov 11 2026. No macro, syntax, notation, axiom, sorry.
-/
import Derived.Test.YtbnohmfapmeaaaaGreatDoorRows
import GoSem.ClaimSeven
namespace Go.Proofs.YtbnohmfapmeaaaaGreatDoor
namespace Rows

/-- THE TIED CARD OF 'laws.FnExactParseShield'. -/
def fnExactParseShieldCard : Claim7 := { stood := { row := fnExactParseShieldRow, standIns := [], harness := (true, "c63c1e2c8eaf37981e6ebfa97c2837e529ccc548cae99cf7ce03f981bd22cdd7"), looks := true }, kinds := [], alts := [], laidByText := true, laidKinds := [.data, .data, .data, .data, .sentinel, .sentinel, .pinned], laidTests := true, laidLooks := .later }
def FnExactParseShieldCardSaid : Prop := Claim7.holds Tryz.pinned (.plain (OpenSpec.ofChange fnExactParseShieldSpec)) fnExactParseShieldCard

/-- THE TIED CARD OF 'laws.FnRegisterText'. -/
def fnRegisterTextCard : Claim7 := { stood := { row := fnRegisterTextRow, standIns := [], harness := (true, "c63c1e2c8eaf37981e6ebfa97c2837e529ccc548cae99cf7ce03f981bd22cdd7"), looks := true }, kinds := [], alts := [], laidByText := true, laidKinds := [.data, .data, .data, .data, .sentinel, .sentinel, .pinned], laidTests := true, laidLooks := .later }
def FnRegisterTextCardSaid : Prop := Claim7.holds Tryz.pinned (.plain (OpenSpec.ofChange fnRegisterTextSpec)) fnRegisterTextCard

/-- THE TIED CARD OF 'laws.FnExactParseRegister'. -/
def fnExactParseRegisterCard : Claim7 := { stood := { row := fnExactParseRegisterRow, standIns := [], harness := (true, "c63c1e2c8eaf37981e6ebfa97c2837e529ccc548cae99cf7ce03f981bd22cdd7"), looks := true }, kinds := [], alts := [], laidByText := true, laidKinds := [.data, .data, .data, .data, .sentinel, .sentinel, .pinned], laidTests := true, laidLooks := .later }
def FnExactParseRegisterCardSaid : Prop := Claim7.holds Tryz.pinned (.plain (OpenSpec.ofChange fnExactParseRegisterSpec)) fnExactParseRegisterCard

/-- THE TIED CARD OF 'laws.FnIndexLines'. -/
def fnIndexLinesCard : Claim7 := { stood := { row := fnIndexLinesRow, standIns := [], harness := (true, "c63c1e2c8eaf37981e6ebfa97c2837e529ccc548cae99cf7ce03f981bd22cdd7"), looks := true }, kinds := [], alts := [], laidByText := true, laidKinds := [.data, .data, .data], laidTests := true, laidLooks := .later }
def FnIndexLinesCardSaid : Prop := Claim7.holds Tryz.pinned (.plain (OpenSpec.ofChange fnIndexLinesSpec)) fnIndexLinesCard

/-- THE TIED CARD OF 'laws.FnSearch'. -/
def fnSearchCard : Claim7 := { stood := { row := fnSearchRow, standIns := [], harness := (true, "c63c1e2c8eaf37981e6ebfa97c2837e529ccc548cae99cf7ce03f981bd22cdd7"), looks := true }, kinds := [], alts := [], laidByText := true, laidKinds := [.data, .data, .data], laidTests := true, laidLooks := .later }
def FnSearchCardSaid : Prop := Claim7.holds Tryz.pinned (.plain (OpenSpec.ofChange fnSearchSpec)) fnSearchCard

/-- THE SECOND FORM's CARD OF 'laws.FnExactParseShield'. -/
def fnExactParseShieldUptoCard : Claim7 := { stood := { row := fnExactParseShieldUptoRow, standIns := [], harness := (true, "c63c1e2c8eaf37981e6ebfa97c2837e529ccc548cae99cf7ce03f981bd22cdd7"), looks := true }, kinds := [], alts := [], laidByText := true, laidKinds := [.data, .data, .data, .data, .sentinel, .sentinel, .pinned], laidTests := true, laidLooks := .later }
def FnExactParseShieldUptoCardSaid : Prop := Claim7.holds Tryz.pinned (.plain (OpenSpec.upto fnExactParseShieldSpec)) fnExactParseShieldUptoCard

/-- THE SECOND FORM's CARD OF 'laws.FnRegisterText'. -/
def fnRegisterTextUptoCard : Claim7 := { stood := { row := fnRegisterTextUptoRow, standIns := [], harness := (true, "c63c1e2c8eaf37981e6ebfa97c2837e529ccc548cae99cf7ce03f981bd22cdd7"), looks := true }, kinds := [], alts := [], laidByText := true, laidKinds := [.data, .data, .data, .data, .sentinel, .sentinel, .pinned], laidTests := true, laidLooks := .later }
def FnRegisterTextUptoCardSaid : Prop := Claim7.holds Tryz.pinned (.plain (OpenSpec.upto fnRegisterTextSpec)) fnRegisterTextUptoCard

/-- THE SECOND FORM's CARD OF 'laws.FnExactParseRegister'. -/
def fnExactParseRegisterUptoCard : Claim7 := { stood := { row := fnExactParseRegisterUptoRow, standIns := [], harness := (true, "c63c1e2c8eaf37981e6ebfa97c2837e529ccc548cae99cf7ce03f981bd22cdd7"), looks := true }, kinds := [], alts := [], laidByText := true, laidKinds := [.data, .data, .data, .data, .sentinel, .sentinel, .pinned], laidTests := true, laidLooks := .later }
def FnExactParseRegisterUptoCardSaid : Prop := Claim7.holds Tryz.pinned (.plain (OpenSpec.upto fnExactParseRegisterSpec)) fnExactParseRegisterUptoCard

/-- THE SECOND FORM's CARD OF 'laws.FnIndexLines'. -/
def fnIndexLinesUptoCard : Claim7 := { stood := { row := fnIndexLinesUptoRow, standIns := [], harness := (true, "c63c1e2c8eaf37981e6ebfa97c2837e529ccc548cae99cf7ce03f981bd22cdd7"), looks := true }, kinds := [], alts := [], laidByText := true, laidKinds := [.data, .data, .data], laidTests := true, laidLooks := .later }
def FnIndexLinesUptoCardSaid : Prop := Claim7.holds Tryz.pinned (.plain (OpenSpec.upto fnIndexLinesSpec)) fnIndexLinesUptoCard

/-- THE SECOND FORM's CARD OF 'laws.FnSearch'. -/
def fnSearchUptoCard : Claim7 := { stood := { row := fnSearchUptoRow, standIns := [], harness := (true, "c63c1e2c8eaf37981e6ebfa97c2837e529ccc548cae99cf7ce03f981bd22cdd7"), looks := true }, kinds := [], alts := [], laidByText := true, laidKinds := [.data, .data, .data], laidTests := true, laidLooks := .later }
def FnSearchUptoCardSaid : Prop := Claim7.holds Tryz.pinned (.plain (OpenSpec.upto fnSearchSpec)) fnSearchUptoCard
end Rows
end Go.Proofs.YtbnohmfapmeaaaaGreatDoor
