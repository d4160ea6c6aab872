/-
  NARROWER THAN 'FOR EVERY INPUT', by the rows' own cells (each row's printed sentence says how): FnExactIsValidMotto: laid · FnExactInitialLetters: laid · FnExactParseCrest: laid · FnExactFewestLines: laid.
  DERIVED. THE GIVEN ROWS OF THIS SEAT. 4 by the template 'for every input the law returns true; each argument reads behind the call as it read before'; 0 by the template 'total and deterministic' (their statements: YtbgmlocolacnpaaDoorTotals.lean).
  GIVEN WITH THE SEED: the statements are not yours to turn. If you find one false, say at which input.
  Laid BY PROGRAM, IN A SANDBOX (cutbox-rows.mjs): the forced cells as the released guide's own fill.sh prints them over the translation a5cf5f5a8b942519… (all of the seat's roots in one cut). By AI agents, Wed Nov 11 2026. No macro, syntax, notation, axiom, sorry.
-/
import Derived.Test.YtbgmlocolacnpaaDoorChecked
import GoSem.PinnedTables
import GoSem.Claim
import GoSem.ClaimJoined
import GoSem.ClaimMapViews
import Derived.JoinedTies
import Derived.KernelRfl
namespace Go.Proofs.YtbgmlocolacnpaaDoor
/- THE CELL 'sum', in the pinned program and in every row, IS THE sha256 OF THE DUMP (.gsa) THAT YtbgmlocolacnpaaDoorProg.lean LOADS. Nothing in Lean hashes anything: it is a label: what it is worth is what the hold of that sum in a sandbox is worth. -/
noncomputable def Tryd.pinned : Pinned := { name := "ytbgmlocolacnpaadoor", sum := "a5cf5f5a8b942519175d2add4f2336cd1a928398a7e2a78126c9c3253bc55e05", checked := Tryd.checked }
namespace Rows
def none {H : Type} : Left H := { results := [], args := [] }

/- WHAT THE LISTED PACKAGE-LEVEL VARIABLES READ AS WHEN THE CALL BEGINS. Each datum BY PROGRAM (the guide's laid-datum.mjs) off the statement by which the dump's own 'gosem.cut.vars' lays the variable. In a bare row this is a premise. The card (YtbgmlocolacnpaaDoorCards.lean) ties it to the program's text. -/
def laid_unicode_utf8_acceptRanges {H : Type} : DataW H := .agg [.agg [.lit (.int .u8 128), .lit (.int .u8 191)], .agg [.lit (.int .u8 160), .lit (.int .u8 191)], .agg [.lit (.int .u8 128), .lit (.int .u8 159)], .agg [.lit (.int .u8 144), .lit (.int .u8 191)], .agg [.lit (.int .u8 128), .lit (.int .u8 143)], .agg [.lit (.int .u8 0), .lit (.int .u8 0)], .agg [.lit (.int .u8 0), .lit (.int .u8 0)], .agg [.lit (.int .u8 0), .lit (.int .u8 0)], .agg [.lit (.int .u8 0), .lit (.int .u8 0)], .agg [.lit (.int .u8 0), .lit (.int .u8 0)], .agg [.lit (.int .u8 0), .lit (.int .u8 0)], .agg [.lit (.int .u8 0), .lit (.int .u8 0)], .agg [.lit (.int .u8 0), .lit (.int .u8 0)], .agg [.lit (.int .u8 0), .lit (.int .u8 0)], .agg [.lit (.int .u8 0), .lit (.int .u8 0)], .agg [.lit (.int .u8 0), .lit (.int .u8 0)]]
/-- One of Go's own tables, pinned by name: the form's constant. -/
def laid_unicode_utf8_first : DataW Unit := Go.Pinned.utf8First

/-- 'laws.FnExactIsValidMotto': WHATEVER THE INPUT: true; the input reads as it did. -/
def fnExactIsValidMottoSpec : ChangeSpec := { name := "fnExactIsValidMotto", fn := fun _ => fun
  | [d] => { results := [.lit (.bool true)], args := [d] }
  | _ => none }
def fnExactIsValidMottoRow : OpenClaim := { program := "ytbgmlocolacnpaadoor", sum := "a5cf5f5a8b942519175d2add4f2336cd1a928398a7e2a78126c9c3253bc55e05", func := "loop.example/g00884/laws.FnExactIsValidMotto", spec := "fnExactIsValidMotto", inPlace := ["internal/bytealg.CountString", "internal/bytealg.IndexByteString", "internal/bytealg.IndexString"], named := ["unicode/utf8.first", "unicode/utf8.acceptRanges", "internal/bytealg.MaxLen"], apart := false, laid := [("unicode/utf8.acceptRanges", laid_unicode_utf8_acceptRanges), ("unicode/utf8.first", laid_unicode_utf8_first)] }
def FnExactIsValidMottoSaid : Prop := fnExactIsValidMottoRow.holds Tryd.pinned (OpenSpec.ofChange fnExactIsValidMottoSpec)

/-- ITS FALSE NEIGHBOUR: 'it returns false'. Refute it at one input. -/
def fnExactIsValidMottoWrong : ChangeSpec := { name := "fnExactIsValidMotto", fn := fun _ => fun
  | [d] => { results := [.lit (.bool false)], args := [d] }
  | _ => none }
def FnExactIsValidMottoWrongFalsely : Prop := fnExactIsValidMottoRow.holds Tryd.pinned (OpenSpec.ofChange fnExactIsValidMottoWrong)

/-- 'laws.FnExactInitialLetters': WHATEVER THE INPUT: true; the input reads as it did. -/
def fnExactInitialLettersSpec : ChangeSpec := { name := "fnExactInitialLetters", fn := fun _ => fun
  | [d] => { results := [.lit (.bool true)], args := [d] }
  | _ => none }
def fnExactInitialLettersRow : OpenClaim := { program := "ytbgmlocolacnpaadoor", sum := "a5cf5f5a8b942519175d2add4f2336cd1a928398a7e2a78126c9c3253bc55e05", func := "loop.example/g00884/laws.FnExactInitialLetters", spec := "fnExactInitialLetters", inPlace := ["internal/bytealg.CountString", "internal/bytealg.IndexByteString", "internal/bytealg.IndexString"], named := ["unicode/utf8.first", "unicode/utf8.acceptRanges", "internal/bytealg.MaxLen"], apart := false, laid := [("unicode/utf8.acceptRanges", laid_unicode_utf8_acceptRanges), ("unicode/utf8.first", laid_unicode_utf8_first)] }
def FnExactInitialLettersSaid : Prop := fnExactInitialLettersRow.holds Tryd.pinned (OpenSpec.ofChange fnExactInitialLettersSpec)

/-- ITS FALSE NEIGHBOUR: 'it returns false'. Refute it at one input. -/
def fnExactInitialLettersWrong : ChangeSpec := { name := "fnExactInitialLetters", fn := fun _ => fun
  | [d] => { results := [.lit (.bool false)], args := [d] }
  | _ => none }
def FnExactInitialLettersWrongFalsely : Prop := fnExactInitialLettersRow.holds Tryd.pinned (OpenSpec.ofChange fnExactInitialLettersWrong)

/-- 'laws.FnExactParseCrest': WHATEVER THE INPUT: true; the input reads as it did. -/
def fnExactParseCrestSpec : ChangeSpec := { name := "fnExactParseCrest", fn := fun _ => fun
  | [d] => { results := [.lit (.bool true)], args := [d] }
  | _ => none }
def fnExactParseCrestRow : OpenClaim := { program := "ytbgmlocolacnpaadoor", sum := "a5cf5f5a8b942519175d2add4f2336cd1a928398a7e2a78126c9c3253bc55e05", func := "loop.example/g00884/laws.FnExactParseCrest", spec := "fnExactParseCrest", inPlace := ["internal/bytealg.CountString", "internal/bytealg.IndexByteString", "internal/bytealg.IndexString"], named := ["unicode/utf8.first", "unicode/utf8.acceptRanges", "internal/bytealg.MaxLen"], apart := false, laid := [("unicode/utf8.acceptRanges", laid_unicode_utf8_acceptRanges), ("unicode/utf8.first", laid_unicode_utf8_first)] }
def FnExactParseCrestSaid : Prop := fnExactParseCrestRow.holds Tryd.pinned (OpenSpec.ofChange fnExactParseCrestSpec)

/-- ITS FALSE NEIGHBOUR: 'it returns false'. Refute it at one input. -/
def fnExactParseCrestWrong : ChangeSpec := { name := "fnExactParseCrest", fn := fun _ => fun
  | [d] => { results := [.lit (.bool false)], args := [d] }
  | _ => none }
def FnExactParseCrestWrongFalsely : Prop := fnExactParseCrestRow.holds Tryd.pinned (OpenSpec.ofChange fnExactParseCrestWrong)

/-- 'laws.FnExactFewestLines': WHATEVER THE INPUT: true; the input reads as it did. -/
def fnExactFewestLinesSpec : ChangeSpec := { name := "fnExactFewestLines", fn := fun _ => fun
  | [d1, d2] => { results := [.lit (.bool true)], args := [d1, d2] }
  | _ => none }
def fnExactFewestLinesRow : OpenClaim := { program := "ytbgmlocolacnpaadoor", sum := "a5cf5f5a8b942519175d2add4f2336cd1a928398a7e2a78126c9c3253bc55e05", func := "loop.example/g00884/laws.FnExactFewestLines", spec := "fnExactFewestLines", inPlace := ["internal/bytealg.CountString", "internal/bytealg.IndexByteString", "internal/bytealg.IndexString"], named := ["unicode/utf8.first", "unicode/utf8.acceptRanges", "internal/bytealg.MaxLen"], apart := false, laid := [("unicode/utf8.acceptRanges", laid_unicode_utf8_acceptRanges), ("unicode/utf8.first", laid_unicode_utf8_first)] }
def FnExactFewestLinesSaid : Prop := fnExactFewestLinesRow.holds Tryd.pinned (OpenSpec.ofChange fnExactFewestLinesSpec)

/-- ITS FALSE NEIGHBOUR: 'it returns false'. Refute it at one input. -/
def fnExactFewestLinesWrong : ChangeSpec := { name := "fnExactFewestLines", fn := fun _ => fun
  | [d1, d2] => { results := [.lit (.bool false)], args := [d1, d2] }
  | _ => none }
def FnExactFewestLinesWrongFalsely : Prop := fnExactFewestLinesRow.holds Tryd.pinned (OpenSpec.ofChange fnExactFewestLinesWrong)

/- THE SECOND FORM. 'bulk': how many values and letters a reading holds, each counted each time it is reached (what is shared counts as often as it is met; a slice's spare places count too). A statement '..UptoSaid' is the law's where the arguments, and the package variables that the reading takes, are together of bulk at most 1048576: NARROWER than '..Said'. Prove '..Said' where nothing that the law and all that it calls make is longer than what came in: it says more and counts as full. Else prove '..UptoSaid'. A law counts once. -/
mutual
def uptoBulk {H : Type} : DataW H → Nat
  | .lit (.string bytes) => bytes.length + 1
  | .lit _ => 1
  | .nil => 1
  | .ptr d => uptoBulk d + 1
  | .slice elems spare => uptoBulkAll elems + uptoBulkAll spare + 1
  | .agg parts => uptoBulkAll parts + 1
  | .iface _ d => uptoBulk d + 1
  | .map entries => uptoBulkEntries entries + 1
  | .held _ => 1
def uptoBulkAll {H : Type} : List (DataW H) → Nat
  | [] => 0
  | d :: r => uptoBulk d + uptoBulkAll r
def uptoBulkEntries {H : Type} : List (Lit × DataW H) → Nat
  | [] => 0
  | x :: r => uptoBulkEntry x + uptoBulkEntries r
def uptoBulkEntry {H : Type} : Lit × DataW H → Nat
  | (.string bytes, d) => bytes.length + uptoBulk d + 1
  | (_, d) => uptoBulk d + 1
 end
def uptoSmall : (H : Type) → List (DataW H) → Bool := fun _ ds => decide (uptoBulkAll ds ≤ 1048576)
def OpenSpec.upto (s : _root_.Go.ChangeSpec) : _root_.Go.OpenSpec := { _root_.Go.OpenSpec.ofChange s with cond := some uptoSmall }

/-- 'laws.FnExactIsValidMotto', WHERE WHAT IT READS IS OF BULK AT MOST 1048576: true; the input reads as it did. -/
def fnExactIsValidMottoUptoRow : OpenClaim := { program := "ytbgmlocolacnpaadoor", sum := "a5cf5f5a8b942519175d2add4f2336cd1a928398a7e2a78126c9c3253bc55e05", func := "loop.example/g00884/laws.FnExactIsValidMotto", spec := "fnExactIsValidMotto", inPlace := ["internal/bytealg.CountString", "internal/bytealg.IndexByteString", "internal/bytealg.IndexString"], named := ["unicode/utf8.first", "unicode/utf8.acceptRanges", "internal/bytealg.MaxLen"], apart := false, laid := [("unicode/utf8.acceptRanges", laid_unicode_utf8_acceptRanges), ("unicode/utf8.first", laid_unicode_utf8_first)], narrowed := true }
def FnExactIsValidMottoUptoSaid : Prop := fnExactIsValidMottoUptoRow.holds Tryd.pinned (OpenSpec.upto fnExactIsValidMottoSpec)

/-- 'laws.FnExactInitialLetters', WHERE WHAT IT READS IS OF BULK AT MOST 1048576: true; the input reads as it did. -/
def fnExactInitialLettersUptoRow : OpenClaim := { program := "ytbgmlocolacnpaadoor", sum := "a5cf5f5a8b942519175d2add4f2336cd1a928398a7e2a78126c9c3253bc55e05", func := "loop.example/g00884/laws.FnExactInitialLetters", spec := "fnExactInitialLetters", inPlace := ["internal/bytealg.CountString", "internal/bytealg.IndexByteString", "internal/bytealg.IndexString"], named := ["unicode/utf8.first", "unicode/utf8.acceptRanges", "internal/bytealg.MaxLen"], apart := false, laid := [("unicode/utf8.acceptRanges", laid_unicode_utf8_acceptRanges), ("unicode/utf8.first", laid_unicode_utf8_first)], narrowed := true }
def FnExactInitialLettersUptoSaid : Prop := fnExactInitialLettersUptoRow.holds Tryd.pinned (OpenSpec.upto fnExactInitialLettersSpec)

/-- 'laws.FnExactParseCrest', WHERE WHAT IT READS IS OF BULK AT MOST 1048576: true; the input reads as it did. -/
def fnExactParseCrestUptoRow : OpenClaim := { program := "ytbgmlocolacnpaadoor", sum := "a5cf5f5a8b942519175d2add4f2336cd1a928398a7e2a78126c9c3253bc55e05", func := "loop.example/g00884/laws.FnExactParseCrest", spec := "fnExactParseCrest", inPlace := ["internal/bytealg.CountString", "internal/bytealg.IndexByteString", "internal/bytealg.IndexString"], named := ["unicode/utf8.first", "unicode/utf8.acceptRanges", "internal/bytealg.MaxLen"], apart := false, laid := [("unicode/utf8.acceptRanges", laid_unicode_utf8_acceptRanges), ("unicode/utf8.first", laid_unicode_utf8_first)], narrowed := true }
def FnExactParseCrestUptoSaid : Prop := fnExactParseCrestUptoRow.holds Tryd.pinned (OpenSpec.upto fnExactParseCrestSpec)

/-- 'laws.FnExactFewestLines', WHERE WHAT IT READS IS OF BULK AT MOST 1048576: true; the input reads as it did. -/
def fnExactFewestLinesUptoRow : OpenClaim := { program := "ytbgmlocolacnpaadoor", sum := "a5cf5f5a8b942519175d2add4f2336cd1a928398a7e2a78126c9c3253bc55e05", func := "loop.example/g00884/laws.FnExactFewestLines", spec := "fnExactFewestLines", inPlace := ["internal/bytealg.CountString", "internal/bytealg.IndexByteString", "internal/bytealg.IndexString"], named := ["unicode/utf8.first", "unicode/utf8.acceptRanges", "internal/bytealg.MaxLen"], apart := false, laid := [("unicode/utf8.acceptRanges", laid_unicode_utf8_acceptRanges), ("unicode/utf8.first", laid_unicode_utf8_first)], narrowed := true }
def FnExactFewestLinesUptoSaid : Prop := fnExactFewestLinesUptoRow.holds Tryd.pinned (OpenSpec.upto fnExactFewestLinesSpec)

end Rows
end Go.Proofs.YtbgmlocolacnpaaDoor
