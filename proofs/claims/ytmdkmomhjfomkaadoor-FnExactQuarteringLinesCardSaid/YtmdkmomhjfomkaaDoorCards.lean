/-
  DERIVED. GIVEN WITH THE SEED: THE CARDS: each row of YtmdkmomhjfomkaaDoorRows.lean that lists a variable, with what it lists TIED to the program's text (the seventh form; the later family's looks); each row that meets fmt, with fmt's text TOLD by the authors' own Lean function (tested against real Go, not proved from fmt's source: count such statements apart). THE CARD IS WHAT COUNTS. Prove the row's statement (the work); the ties are given (YtmdkmomhjfomkaaDoorTie.lean); close each card by the builder's one call (the guide's Derived/Test/ToyasCard.lean, 'card_holds'). Laid BY PROGRAM, IN A SANDBOX (cutbox-door.mjs). By AI agents, Wed Nov 11 2026. No macro, syntax, notation, axiom, sorry.
-/
import Derived.Test.YtmdkmomhjfomkaaDoorRows
import GoSem.ClaimSeven
namespace Go.Proofs.YtmdkmomhjfomkaaDoor
namespace Rows

/-- THE TIED CARD OF 'laws.FnExactQuarteringLines'. -/
def fnExactQuarteringLinesCard : Claim7 := { stood := { row := fnExactQuarteringLinesRow, standIns := [], harness := (true, "a50d6c4339776cdf7e09d9b2387b5857f0bae83a0ea6666fdcf33ef5af063f3c"), looks := false }, kinds := [], alts := [], laidByText := true, laidKinds := [.data, .data, .data], laidTests := true, laidLooks := .later }
def FnExactQuarteringLinesCardSaid : Prop := Claim7.holds Tryd.pinned (.plain (OpenSpec.ofChange fnExactQuarteringLinesSpec)) fnExactQuarteringLinesCard

/-- THE TIED CARD OF 'laws.FnExactShieldText'. -/
def fnExactShieldTextCard : Claim7 := { stood := { row := fnExactShieldTextRow, standIns := [], harness := (true, "a50d6c4339776cdf7e09d9b2387b5857f0bae83a0ea6666fdcf33ef5af063f3c"), looks := false }, kinds := [], alts := [], laidByText := true, laidKinds := [.data, .data, .data], laidTests := true, laidLooks := .later }
def FnExactShieldTextCardSaid : Prop := Claim7.holds Tryd.pinned (.plain (OpenSpec.ofChange fnExactShieldTextSpec)) fnExactShieldTextCard

/-- THE TIED CARD OF 'laws.FnExactWrapArms'. -/
def fnExactWrapArmsCard : Claim7 := { stood := { row := fnExactWrapArmsRow, standIns := [], harness := (true, "a50d6c4339776cdf7e09d9b2387b5857f0bae83a0ea6666fdcf33ef5af063f3c"), looks := false }, kinds := [], alts := [], laidByText := true, laidKinds := [.data, .pinned], laidTests := true, laidLooks := .later }
def FnExactWrapArmsCardSaid : Prop := Claim7.holds Tryd.pinned (.plain (OpenSpec.ofChange fnExactWrapArmsSpec)) fnExactWrapArmsCard

/-- THE SECOND FORM's CARD OF 'laws.FnExactQuarteringLines'. -/
def fnExactQuarteringLinesUptoCard : Claim7 := { stood := { row := fnExactQuarteringLinesUptoRow, standIns := [], harness := (true, "a50d6c4339776cdf7e09d9b2387b5857f0bae83a0ea6666fdcf33ef5af063f3c"), looks := false }, kinds := [], alts := [], laidByText := true, laidKinds := [.data, .data, .data], laidTests := true, laidLooks := .later }
def FnExactQuarteringLinesUptoCardSaid : Prop := Claim7.holds Tryd.pinned (.plain (OpenSpec.upto fnExactQuarteringLinesSpec)) fnExactQuarteringLinesUptoCard

/-- THE SECOND FORM's CARD OF 'laws.FnExactShieldText'. -/
def fnExactShieldTextUptoCard : Claim7 := { stood := { row := fnExactShieldTextUptoRow, standIns := [], harness := (true, "a50d6c4339776cdf7e09d9b2387b5857f0bae83a0ea6666fdcf33ef5af063f3c"), looks := false }, kinds := [], alts := [], laidByText := true, laidKinds := [.data, .data, .data], laidTests := true, laidLooks := .later }
def FnExactShieldTextUptoCardSaid : Prop := Claim7.holds Tryd.pinned (.plain (OpenSpec.upto fnExactShieldTextSpec)) fnExactShieldTextUptoCard

/-- THE SECOND FORM's CARD OF 'laws.FnExactWrapArms'. -/
def fnExactWrapArmsUptoCard : Claim7 := { stood := { row := fnExactWrapArmsUptoRow, standIns := [], harness := (true, "a50d6c4339776cdf7e09d9b2387b5857f0bae83a0ea6666fdcf33ef5af063f3c"), looks := false }, kinds := [], alts := [], laidByText := true, laidKinds := [.data, .pinned], laidTests := true, laidLooks := .later }
def FnExactWrapArmsUptoCardSaid : Prop := Claim7.holds Tryd.pinned (.plain (OpenSpec.upto fnExactWrapArmsSpec)) fnExactWrapArmsUptoCard
end Rows
end Go.Proofs.YtmdkmomhjfomkaaDoor
