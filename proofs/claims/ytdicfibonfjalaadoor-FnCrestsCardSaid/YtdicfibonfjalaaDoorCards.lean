/-
  DERIVED. GIVEN WITH THE SEED: THE CARDS: each row of YtdicfibonfjalaaDoorRows.lean that lists a variable, with what it lists TIED to the program's text (the seventh form; the later family's looks); each row that meets fmt, with fmt's text TOLD by the authors' own Lean function (tested against real Go, not proved from fmt's source: count such statements apart). THE CARD IS WHAT COUNTS. Prove the row's statement (the work); the ties are given (YtdicfibonfjalaaDoorTie.lean); close each card by the builder's one call (the guide's Derived/Test/ToyasCard.lean, 'card_holds'). Laid BY PROGRAM, IN A SANDBOX (cutbox-door.mjs). By AI agents, Wed Nov 11 2026. No macro, syntax, notation, axiom, sorry.
-/
import Derived.Test.YtdicfibonfjalaaDoorRows
import GoSem.ClaimSeven
namespace Go.Proofs.YtdicfibonfjalaaDoor
namespace Rows

/-- THE TIED CARD OF 'laws.FnGroups'. -/
def fnGroupsCard : Claim7 := { stood := { row := fnGroupsRow, standIns := [], harness := (true, "e7ef80b25dd4880107c43e5a0849a5680776778ee0673751d4ba3abc7e606174"), looks := false }, kinds := [], alts := [], laidByText := true, laidKinds := [.data, .pinned], laidTests := true, laidLooks := .later }
def FnGroupsCardSaid : Prop := Claim7.holds Tryd.pinned (.plain (OpenSpec.ofChange fnGroupsSpec)) fnGroupsCard

/-- THE TIED CARD OF 'laws.FnCrests'. -/
def fnCrestsCard : Claim7 := { stood := { row := fnCrestsRow, standIns := [], harness := (true, "e7ef80b25dd4880107c43e5a0849a5680776778ee0673751d4ba3abc7e606174"), looks := false }, kinds := [], alts := [], laidByText := true, laidKinds := [.data, .pinned], laidTests := true, laidLooks := .later }
def FnCrestsCardSaid : Prop := Claim7.holds Tryd.pinned (.plain (OpenSpec.ofChange fnCrestsSpec)) fnCrestsCard

/-- THE TIED CARD OF 'laws.FnExactParseArms'. -/
def fnExactParseArmsCard : Claim7 := { stood := { row := fnExactParseArmsRow, standIns := [], harness := (true, "e7ef80b25dd4880107c43e5a0849a5680776778ee0673751d4ba3abc7e606174"), looks := false }, kinds := [], alts := [], laidByText := true, laidKinds := [.data, .pinned], laidTests := true, laidLooks := .later }
def FnExactParseArmsCardSaid : Prop := Claim7.holds Tryd.pinned (.plain (OpenSpec.ofChange fnExactParseArmsSpec)) fnExactParseArmsCard

/-- THE SECOND FORM's CARD OF 'laws.FnGroups'. -/
def fnGroupsUptoCard : Claim7 := { stood := { row := fnGroupsUptoRow, standIns := [], harness := (true, "e7ef80b25dd4880107c43e5a0849a5680776778ee0673751d4ba3abc7e606174"), looks := false }, kinds := [], alts := [], laidByText := true, laidKinds := [.data, .pinned], laidTests := true, laidLooks := .later }
def FnGroupsUptoCardSaid : Prop := Claim7.holds Tryd.pinned (.plain (OpenSpec.upto fnGroupsSpec)) fnGroupsUptoCard

/-- THE SECOND FORM's CARD OF 'laws.FnCrests'. -/
def fnCrestsUptoCard : Claim7 := { stood := { row := fnCrestsUptoRow, standIns := [], harness := (true, "e7ef80b25dd4880107c43e5a0849a5680776778ee0673751d4ba3abc7e606174"), looks := false }, kinds := [], alts := [], laidByText := true, laidKinds := [.data, .pinned], laidTests := true, laidLooks := .later }
def FnCrestsUptoCardSaid : Prop := Claim7.holds Tryd.pinned (.plain (OpenSpec.upto fnCrestsSpec)) fnCrestsUptoCard

/-- THE SECOND FORM's CARD OF 'laws.FnExactParseArms'. -/
def fnExactParseArmsUptoCard : Claim7 := { stood := { row := fnExactParseArmsUptoRow, standIns := [], harness := (true, "e7ef80b25dd4880107c43e5a0849a5680776778ee0673751d4ba3abc7e606174"), looks := false }, kinds := [], alts := [], laidByText := true, laidKinds := [.data, .pinned], laidTests := true, laidLooks := .later }
def FnExactParseArmsUptoCardSaid : Prop := Claim7.holds Tryd.pinned (.plain (OpenSpec.upto fnExactParseArmsSpec)) fnExactParseArmsUptoCard
end Rows
end Go.Proofs.YtdicfibonfjalaaDoor
