/-
  DERIVED. GIVEN WITH THE SEED: THE CARDS: each row of YtmkniipdkanbbaaGreatDoorRows.lean that lists a variable, with what it lists TIED to the program's text (the seventh form; the later family's looks); each row that meets fmt, with fmt's text TOLD by the authors' own Lean function (tested against real Go, not proved from fmt's source: count such statements apart). THE CARD IS WHAT COUNTS. Prove the row's statement (the work); the ties are given (YtmkniipdkanbbaaGreatDoorTie.lean); close each card by the builder's one call (the guide's Derived/Test/ToyasCard.lean, 'card_holds'). Laid BY PROGRAM, IN A SANDBOX (cutbox-door.mjs). By AI agents, Wed Nov 11 2026. No macro, syntax, notation, axiom, sorry.
-/
import Derived.Test.YtmkniipdkanbbaaGreatDoorRows
import GoSem.ClaimSeven
namespace Go.Proofs.YtmkniipdkanbbaaGreatDoor
namespace Rows

/-- THE TIED CARD OF 'laws.FnExactParseSketch'. -/
def fnExactParseSketchCard : Claim7 := { stood := { row := fnExactParseSketchRow, standIns := [], harness := (true, "42ac31cd22802d09c739b7fb1589265e8c1be3e8cb597cbe4625d115683ea218"), looks := false }, kinds := [], alts := [], laidByText := true, laidKinds := [.data, .pinned], laidTests := true, laidLooks := .later }
def FnExactParseSketchCardSaid : Prop := Claim7.holds Tryz.pinned (.plain (OpenSpec.ofChange fnExactParseSketchSpec)) fnExactParseSketchCard

/-- THE TIED CARD OF 'laws.FnSketches'. -/
def fnSketchesCard : Claim7 := { stood := { row := fnSketchesRow, standIns := [], harness := (true, "42ac31cd22802d09c739b7fb1589265e8c1be3e8cb597cbe4625d115683ea218"), looks := false }, kinds := [], alts := [], laidByText := true, laidKinds := [.data, .pinned], laidTests := true, laidLooks := .later }
def FnSketchesCardSaid : Prop := Claim7.holds Tryz.pinned (.plain (OpenSpec.ofChange fnSketchesSpec)) fnSketchesCard

/-- THE TIED CARD OF 'laws.FnExactResolveText'. -/
def fnExactResolveTextCard : Claim7 := { stood := { row := fnExactResolveTextRow, standIns := [], harness := (true, "42ac31cd22802d09c739b7fb1589265e8c1be3e8cb597cbe4625d115683ea218"), looks := false }, kinds := [], alts := [], laidByText := true, laidKinds := [.data, .pinned], laidTests := true, laidLooks := .later }
def FnExactResolveTextCardSaid : Prop := Claim7.holds Tryz.pinned (.plain (OpenSpec.ofChange fnExactResolveTextSpec)) fnExactResolveTextCard

/-- THE SECOND FORM's CARD OF 'laws.FnExactParseSketch'. -/
def fnExactParseSketchUptoCard : Claim7 := { stood := { row := fnExactParseSketchUptoRow, standIns := [], harness := (true, "42ac31cd22802d09c739b7fb1589265e8c1be3e8cb597cbe4625d115683ea218"), looks := false }, kinds := [], alts := [], laidByText := true, laidKinds := [.data, .pinned], laidTests := true, laidLooks := .later }
def FnExactParseSketchUptoCardSaid : Prop := Claim7.holds Tryz.pinned (.plain (OpenSpec.upto fnExactParseSketchSpec)) fnExactParseSketchUptoCard

/-- THE SECOND FORM's CARD OF 'laws.FnSketches'. -/
def fnSketchesUptoCard : Claim7 := { stood := { row := fnSketchesUptoRow, standIns := [], harness := (true, "42ac31cd22802d09c739b7fb1589265e8c1be3e8cb597cbe4625d115683ea218"), looks := false }, kinds := [], alts := [], laidByText := true, laidKinds := [.data, .pinned], laidTests := true, laidLooks := .later }
def FnSketchesUptoCardSaid : Prop := Claim7.holds Tryz.pinned (.plain (OpenSpec.upto fnSketchesSpec)) fnSketchesUptoCard

/-- THE SECOND FORM's CARD OF 'laws.FnExactResolveText'. -/
def fnExactResolveTextUptoCard : Claim7 := { stood := { row := fnExactResolveTextUptoRow, standIns := [], harness := (true, "42ac31cd22802d09c739b7fb1589265e8c1be3e8cb597cbe4625d115683ea218"), looks := false }, kinds := [], alts := [], laidByText := true, laidKinds := [.data, .pinned], laidTests := true, laidLooks := .later }
def FnExactResolveTextUptoCardSaid : Prop := Claim7.holds Tryz.pinned (.plain (OpenSpec.upto fnExactResolveTextSpec)) fnExactResolveTextUptoCard
end Rows
end Go.Proofs.YtmkniipdkanbbaaGreatDoor
