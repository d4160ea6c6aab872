/-
  No cell of these rows narrows 'for every input' (looked for: loops, veiled, ifaces, maps, wideKeys, modest, calm, conditions, laid).
  DERIVED. THE GIVEN ROWS OF THIS SEAT. 6 by the template 'for every input the law returns true; each argument reads behind the call as it read before'; 0 by the template 'total and deterministic' (their statements: YtfamdalilcbloaaTotals.lean).
  GIVEN WITH THE SEED: the statements are not yours to turn. If you find one false, say at which input.
  Laid BY PROGRAM, IN A SANDBOX (cutbox-rows.mjs): the forced cells as the released guide's own fill.sh prints them over the translation c9adccacd1eb48c4… (all of the seat's roots in one cut). By AI agents, Wed Nov 11 2026. No macro, syntax, notation, axiom, sorry.
-/
import Derived.Test.YtfamdalilcbloaaChecked
import GoSem.Claim
import GoSem.ClaimJoined
import GoSem.ClaimMapViews
import Derived.JoinedTies
import Derived.KernelRfl
namespace Go.Proofs.Ytfamdalilcbloaa
/- THE CELL 'sum', in the pinned program and in every row, IS THE sha256 OF THE DUMP (.gsa) THAT YtfamdalilcbloaaProg.lean LOADS. Nothing in Lean hashes anything: it is a label: what it is worth is what the hold of that sum in a sandbox is worth. -/
noncomputable def Try.pinned : Pinned := { name := "ytfamdalilcbloaa", sum := "c9adccacd1eb48c442934306e8ab455bfcfd83af934fc5082d0420c33ab527f2", checked := Try.checked }
namespace Rows
def none {H : Type} : Left H := { results := [], args := [] }

/-- 'laws.FnExactLeaveOut': WHATEVER THE INPUT: true; the input reads as it did. -/
def fnExactLeaveOutSpec : ChangeSpec := { name := "fnExactLeaveOut", fn := fun _ => fun
  | [d1, d2] => { results := [.lit (.bool true)], args := [d1, d2] }
  | _ => none }
def fnExactLeaveOutRow : OpenClaim := { program := "ytfamdalilcbloaa", sum := "c9adccacd1eb48c442934306e8ab455bfcfd83af934fc5082d0420c33ab527f2", func := "loop.example/g00884/laws.FnExactLeaveOut", spec := "fnExactLeaveOut", unfollowed := true, recurses := true, apart := false }
def FnExactLeaveOutSaid : Prop := fnExactLeaveOutRow.holds Try.pinned (OpenSpec.ofChange fnExactLeaveOutSpec)

/-- ITS FALSE NEIGHBOUR: 'it returns false'. Refute it at one input. -/
def fnExactLeaveOutWrong : ChangeSpec := { name := "fnExactLeaveOut", fn := fun _ => fun
  | [d1, d2] => { results := [.lit (.bool false)], args := [d1, d2] }
  | _ => none }
def FnExactLeaveOutWrongFalsely : Prop := fnExactLeaveOutRow.holds Try.pinned (OpenSpec.ofChange fnExactLeaveOutWrong)

/-- 'laws.FnExactFillGrid': WHATEVER THE INPUT: true; the input reads as it did. -/
def fnExactFillGridSpec : ChangeSpec := { name := "fnExactFillGrid", fn := fun _ => fun
  | [d] => { results := [.lit (.bool true)], args := [d] }
  | _ => none }
def fnExactFillGridRow : OpenClaim := { program := "ytfamdalilcbloaa", sum := "c9adccacd1eb48c442934306e8ab455bfcfd83af934fc5082d0420c33ab527f2", func := "loop.example/g00884/laws.FnExactFillGrid", spec := "fnExactFillGrid", unfollowed := true, recurses := true, apart := false }
def FnExactFillGridSaid : Prop := fnExactFillGridRow.holds Try.pinned (OpenSpec.ofChange fnExactFillGridSpec)

/-- ITS FALSE NEIGHBOUR: 'it returns false'. Refute it at one input. -/
def fnExactFillGridWrong : ChangeSpec := { name := "fnExactFillGrid", fn := fun _ => fun
  | [d] => { results := [.lit (.bool false)], args := [d] }
  | _ => none }
def FnExactFillGridWrongFalsely : Prop := fnExactFillGridRow.holds Try.pinned (OpenSpec.ofChange fnExactFillGridWrong)

/-- 'laws.FnExactInheritQuarterings': WHATEVER THE INPUT: true; the input reads as it did. -/
def fnExactInheritQuarteringsSpec : ChangeSpec := { name := "fnExactInheritQuarterings", fn := fun _ => fun
  | [d1, d2] => { results := [.lit (.bool true)], args := [d1, d2] }
  | _ => none }
def fnExactInheritQuarteringsRow : OpenClaim := { program := "ytfamdalilcbloaa", sum := "c9adccacd1eb48c442934306e8ab455bfcfd83af934fc5082d0420c33ab527f2", func := "loop.example/g00884/laws.FnExactInheritQuarterings", spec := "fnExactInheritQuarterings", unfollowed := true, recurses := true, apart := false }
def FnExactInheritQuarteringsSaid : Prop := fnExactInheritQuarteringsRow.holds Try.pinned (OpenSpec.ofChange fnExactInheritQuarteringsSpec)

/-- ITS FALSE NEIGHBOUR: 'it returns false'. Refute it at one input. -/
def fnExactInheritQuarteringsWrong : ChangeSpec := { name := "fnExactInheritQuarterings", fn := fun _ => fun
  | [d1, d2] => { results := [.lit (.bool false)], args := [d1, d2] }
  | _ => none }
def FnExactInheritQuarteringsWrongFalsely : Prop := fnExactInheritQuarteringsRow.holds Try.pinned (OpenSpec.ofChange fnExactInheritQuarteringsWrong)

/-- 'laws.FnExactQuarteringsFrom': WHATEVER THE INPUT: true; the input reads as it did. -/
def fnExactQuarteringsFromSpec : ChangeSpec := { name := "fnExactQuarteringsFrom", fn := fun _ => fun
  | [d1, d2] => { results := [.lit (.bool true)], args := [d1, d2] }
  | _ => none }
def fnExactQuarteringsFromRow : OpenClaim := { program := "ytfamdalilcbloaa", sum := "c9adccacd1eb48c442934306e8ab455bfcfd83af934fc5082d0420c33ab527f2", func := "loop.example/g00884/laws.FnExactQuarteringsFrom", spec := "fnExactQuarteringsFrom", unfollowed := true, recurses := true, apart := false }
def FnExactQuarteringsFromSaid : Prop := fnExactQuarteringsFromRow.holds Try.pinned (OpenSpec.ofChange fnExactQuarteringsFromSpec)

/-- ITS FALSE NEIGHBOUR: 'it returns false'. Refute it at one input. -/
def fnExactQuarteringsFromWrong : ChangeSpec := { name := "fnExactQuarteringsFrom", fn := fun _ => fun
  | [d1, d2] => { results := [.lit (.bool false)], args := [d1, d2] }
  | _ => none }
def FnExactQuarteringsFromWrongFalsely : Prop := fnExactQuarteringsFromRow.holds Try.pinned (OpenSpec.ofChange fnExactQuarteringsFromWrong)

/-- 'laws.FnDescent': WHATEVER THE INPUT: true; the input reads as it did. -/
def fnDescentSpec : ChangeSpec := { name := "fnDescent", fn := fun _ => fun
  | [d] => { results := [.lit (.bool true)], args := [d] }
  | _ => none }
def fnDescentRow : OpenClaim := { program := "ytfamdalilcbloaa", sum := "c9adccacd1eb48c442934306e8ab455bfcfd83af934fc5082d0420c33ab527f2", func := "loop.example/g00884/laws.FnDescent", spec := "fnDescent", unfollowed := true, recurses := true, apart := false }
def FnDescentSaid : Prop := fnDescentRow.holds Try.pinned (OpenSpec.ofChange fnDescentSpec)

/-- ITS FALSE NEIGHBOUR: 'it returns false'. Refute it at one input. -/
def fnDescentWrong : ChangeSpec := { name := "fnDescent", fn := fun _ => fun
  | [d] => { results := [.lit (.bool false)], args := [d] }
  | _ => none }
def FnDescentWrongFalsely : Prop := fnDescentRow.holds Try.pinned (OpenSpec.ofChange fnDescentWrong)

/-- 'laws.FnMarshalling': WHATEVER THE INPUT: true; the input reads as it did. -/
def fnMarshallingSpec : ChangeSpec := { name := "fnMarshalling", fn := fun _ => fun
  | [d] => { results := [.lit (.bool true)], args := [d] }
  | _ => none }
def fnMarshallingRow : OpenClaim := { program := "ytfamdalilcbloaa", sum := "c9adccacd1eb48c442934306e8ab455bfcfd83af934fc5082d0420c33ab527f2", func := "loop.example/g00884/laws.FnMarshalling", spec := "fnMarshalling", unfollowed := true, recurses := true, apart := false }
def FnMarshallingSaid : Prop := fnMarshallingRow.holds Try.pinned (OpenSpec.ofChange fnMarshallingSpec)

/-- ITS FALSE NEIGHBOUR: 'it returns false'. Refute it at one input. -/
def fnMarshallingWrong : ChangeSpec := { name := "fnMarshalling", fn := fun _ => fun
  | [d] => { results := [.lit (.bool false)], args := [d] }
  | _ => none }
def FnMarshallingWrongFalsely : Prop := fnMarshallingRow.holds Try.pinned (OpenSpec.ofChange fnMarshallingWrong)

/- THE SECOND FORM. 'bulk': how many values and letters a reading holds, each counted each time it is reached (what is shared counts as often as it is met; a slice's spare places count too). A statement '..UptoSaid' is the law's where the arguments, and the package variables that the reading takes, are together of bulk at most 1048576: NARROWER than '..Said'. Prove '..Said' where nothing that the law and all that it calls make is longer than what came in: it says more and counts as full. Else prove '..UptoSaid'. A law counts once. -/
mutual
def uptoBulk {H : Type} : DataW H → Nat
  | .lit (.string bytes) => bytes.length + 1
  | .lit _ => 1
  | .nil => 1
  | .ptr d => uptoBulk d + 1
  | .slice elems spare => uptoBulkAll elems + uptoBulkAll spare + 1
  | .agg parts => uptoBulkAll parts + 1
  | .iface _ d => uptoBulk d + 1
  | .map entries => uptoBulkEntries entries + 1
  | .held _ => 1
def uptoBulkAll {H : Type} : List (DataW H) → Nat
  | [] => 0
  | d :: r => uptoBulk d + uptoBulkAll r
def uptoBulkEntries {H : Type} : List (Lit × DataW H) → Nat
  | [] => 0
  | x :: r => uptoBulkEntry x + uptoBulkEntries r
def uptoBulkEntry {H : Type} : Lit × DataW H → Nat
  | (.string bytes, d) => bytes.length + uptoBulk d + 1
  | (_, d) => uptoBulk d + 1
 end
def uptoSmall : (H : Type) → List (DataW H) → Bool := fun _ ds => decide (uptoBulkAll ds ≤ 1048576)
def OpenSpec.upto (s : _root_.Go.ChangeSpec) : _root_.Go.OpenSpec := { _root_.Go.OpenSpec.ofChange s with cond := some uptoSmall }

/-- 'laws.FnExactLeaveOut', WHERE WHAT IT READS IS OF BULK AT MOST 1048576: true; the input reads as it did. -/
def fnExactLeaveOutUptoRow : OpenClaim := { program := "ytfamdalilcbloaa", sum := "c9adccacd1eb48c442934306e8ab455bfcfd83af934fc5082d0420c33ab527f2", func := "loop.example/g00884/laws.FnExactLeaveOut", spec := "fnExactLeaveOut", unfollowed := true, recurses := true, apart := false, narrowed := true }
def FnExactLeaveOutUptoSaid : Prop := fnExactLeaveOutUptoRow.holds Try.pinned (OpenSpec.upto fnExactLeaveOutSpec)

/-- 'laws.FnExactFillGrid', WHERE WHAT IT READS IS OF BULK AT MOST 1048576: true; the input reads as it did. -/
def fnExactFillGridUptoRow : OpenClaim := { program := "ytfamdalilcbloaa", sum := "c9adccacd1eb48c442934306e8ab455bfcfd83af934fc5082d0420c33ab527f2", func := "loop.example/g00884/laws.FnExactFillGrid", spec := "fnExactFillGrid", unfollowed := true, recurses := true, apart := false, narrowed := true }
def FnExactFillGridUptoSaid : Prop := fnExactFillGridUptoRow.holds Try.pinned (OpenSpec.upto fnExactFillGridSpec)

/-- 'laws.FnExactInheritQuarterings', WHERE WHAT IT READS IS OF BULK AT MOST 1048576: true; the input reads as it did. -/
def fnExactInheritQuarteringsUptoRow : OpenClaim := { program := "ytfamdalilcbloaa", sum := "c9adccacd1eb48c442934306e8ab455bfcfd83af934fc5082d0420c33ab527f2", func := "loop.example/g00884/laws.FnExactInheritQuarterings", spec := "fnExactInheritQuarterings", unfollowed := true, recurses := true, apart := false, narrowed := true }
def FnExactInheritQuarteringsUptoSaid : Prop := fnExactInheritQuarteringsUptoRow.holds Try.pinned (OpenSpec.upto fnExactInheritQuarteringsSpec)

/-- 'laws.FnExactQuarteringsFrom', WHERE WHAT IT READS IS OF BULK AT MOST 1048576: true; the input reads as it did. -/
def fnExactQuarteringsFromUptoRow : OpenClaim := { program := "ytfamdalilcbloaa", sum := "c9adccacd1eb48c442934306e8ab455bfcfd83af934fc5082d0420c33ab527f2", func := "loop.example/g00884/laws.FnExactQuarteringsFrom", spec := "fnExactQuarteringsFrom", unfollowed := true, recurses := true, apart := false, narrowed := true }
def FnExactQuarteringsFromUptoSaid : Prop := fnExactQuarteringsFromUptoRow.holds Try.pinned (OpenSpec.upto fnExactQuarteringsFromSpec)

/-- 'laws.FnDescent', WHERE WHAT IT READS IS OF BULK AT MOST 1048576: true; the input reads as it did. -/
def fnDescentUptoRow : OpenClaim := { program := "ytfamdalilcbloaa", sum := "c9adccacd1eb48c442934306e8ab455bfcfd83af934fc5082d0420c33ab527f2", func := "loop.example/g00884/laws.FnDescent", spec := "fnDescent", unfollowed := true, recurses := true, apart := false, narrowed := true }
def FnDescentUptoSaid : Prop := fnDescentUptoRow.holds Try.pinned (OpenSpec.upto fnDescentSpec)

/-- 'laws.FnMarshalling', WHERE WHAT IT READS IS OF BULK AT MOST 1048576: true; the input reads as it did. -/
def fnMarshallingUptoRow : OpenClaim := { program := "ytfamdalilcbloaa", sum := "c9adccacd1eb48c442934306e8ab455bfcfd83af934fc5082d0420c33ab527f2", func := "loop.example/g00884/laws.FnMarshalling", spec := "fnMarshalling", unfollowed := true, recurses := true, apart := false, narrowed := true }
def FnMarshallingUptoSaid : Prop := fnMarshallingUptoRow.holds Try.pinned (OpenSpec.upto fnMarshallingSpec)

end Rows
end Go.Proofs.Ytfamdalilcbloaa
