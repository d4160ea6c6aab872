/-
  DERIVED. GIVEN WITH THE SEED: THE CARDS: each row of YtgjjedpoclhkfaaGreatDoorRows.lean that lists a variable, with what it lists TIED to the program's text (the seventh form; the later family's looks); each row that meets fmt, with fmt's text TOLD by the authors' own Lean function (tested against real Go, not proved from fmt's source: count such statements apart). THE CARD IS WHAT COUNTS. Prove the row's statement (the work); the ties are given (YtgjjedpoclhkfaaGreatDoorTie.lean); close each card by the builder's one call (the guide's Derived/Test/ToyasCard.lean, 'card_holds'). Laid BY PROGRAM, IN A SANDBOX (cutbox-door.mjs). By AI agents, Wed Nov 11 2026. No macro, syntax, notation, axiom, sorry.
-/
import Derived.Test.YtgjjedpoclhkfaaGreatDoorRows
import GoSem.ClaimSeven
namespace Go.Proofs.YtgjjedpoclhkfaaGreatDoor
namespace Rows

/-- THE TIED CARD OF 'laws.FnExactFormatRegister'. -/
def fnExactFormatRegisterCard : Claim7 := { stood := { row := fnExactFormatRegisterRow, standIns := [], harness := (true, "1e5717c84c25461fe1e1472bde32400034223fb19ab202efc77cb6dd449c3549"), looks := true }, kinds := [], alts := [], laidByText := true, laidKinds := [.data, .data, .data], laidTests := true, laidLooks := .later }
def FnExactFormatRegisterCardSaid : Prop := Claim7.holds Tryz.pinned (.plain (OpenSpec.ofChange fnExactFormatRegisterSpec)) fnExactFormatRegisterCard

/-- THE TIED CARD OF 'laws.FnShields'. -/
def fnShieldsCard : Claim7 := { stood := { row := fnShieldsRow, standIns := [], harness := (true, "1e5717c84c25461fe1e1472bde32400034223fb19ab202efc77cb6dd449c3549"), looks := true }, kinds := [], alts := [], laidByText := true, laidKinds := [.data, .data, .data, .data, .sentinel, .sentinel, .pinned], laidTests := true, laidLooks := .later }
def FnShieldsCardSaid : Prop := Claim7.holds Tryz.pinned (.plain (OpenSpec.ofChange fnShieldsSpec)) fnShieldsCard

/-- THE TIED CARD OF 'laws.FnExactParseShield'. -/
def fnExactParseShieldCard : Claim7 := { stood := { row := fnExactParseShieldRow, standIns := [], harness := (true, "1e5717c84c25461fe1e1472bde32400034223fb19ab202efc77cb6dd449c3549"), looks := true }, kinds := [], alts := [], laidByText := true, laidKinds := [.data, .data, .data, .data, .sentinel, .sentinel, .pinned], laidTests := true, laidLooks := .later }
def FnExactParseShieldCardSaid : Prop := Claim7.holds Tryz.pinned (.plain (OpenSpec.ofChange fnExactParseShieldSpec)) fnExactParseShieldCard

/-- THE SECOND FORM's CARD OF 'laws.FnExactFormatRegister'. -/
def fnExactFormatRegisterUptoCard : Claim7 := { stood := { row := fnExactFormatRegisterUptoRow, standIns := [], harness := (true, "1e5717c84c25461fe1e1472bde32400034223fb19ab202efc77cb6dd449c3549"), looks := true }, kinds := [], alts := [], laidByText := true, laidKinds := [.data, .data, .data], laidTests := true, laidLooks := .later }
def FnExactFormatRegisterUptoCardSaid : Prop := Claim7.holds Tryz.pinned (.plain (OpenSpec.upto fnExactFormatRegisterSpec)) fnExactFormatRegisterUptoCard

/-- THE SECOND FORM's CARD OF 'laws.FnShields'. -/
def fnShieldsUptoCard : Claim7 := { stood := { row := fnShieldsUptoRow, standIns := [], harness := (true, "1e5717c84c25461fe1e1472bde32400034223fb19ab202efc77cb6dd449c3549"), looks := true }, kinds := [], alts := [], laidByText := true, laidKinds := [.data, .data, .data, .data, .sentinel, .sentinel, .pinned], laidTests := true, laidLooks := .later }
def FnShieldsUptoCardSaid : Prop := Claim7.holds Tryz.pinned (.plain (OpenSpec.upto fnShieldsSpec)) fnShieldsUptoCard

/-- THE SECOND FORM's CARD OF 'laws.FnExactParseShield'. -/
def fnExactParseShieldUptoCard : Claim7 := { stood := { row := fnExactParseShieldUptoRow, standIns := [], harness := (true, "1e5717c84c25461fe1e1472bde32400034223fb19ab202efc77cb6dd449c3549"), looks := true }, kinds := [], alts := [], laidByText := true, laidKinds := [.data, .data, .data, .data, .sentinel, .sentinel, .pinned], laidTests := true, laidLooks := .later }
def FnExactParseShieldUptoCardSaid : Prop := Claim7.holds Tryz.pinned (.plain (OpenSpec.upto fnExactParseShieldSpec)) fnExactParseShieldUptoCard
end Rows
end Go.Proofs.YtgjjedpoclhkfaaGreatDoor
