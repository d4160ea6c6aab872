/-
  No cell of these rows narrows 'for every input' (looked for: loops, veiled, ifaces, maps, wideKeys, modest, calm, conditions, laid).
  DERIVED. THE GIVEN ROWS OF THIS SEAT. 10 by the template 'for every input the law returns true; each argument reads behind the call as it read before'; 0 by the template 'total and deterministic' (their statements: YtocekpklffdjgaaTotals.lean).
  GIVEN WITH THE SEED: the statements are not yours to turn. If you find one false, say at which input.
  Laid BY PROGRAM, IN A SANDBOX (cutbox-rows.mjs): the forced cells as the released guide's own fill.sh prints them over the translation 7accc46cd9b29392… (all of the seat's roots in one cut). By AI agents, Wed Nov 11 2026. No macro, syntax, notation, axiom, sorry.
-/
import Derived.Test.YtocekpklffdjgaaChecked
import GoSem.Claim
import GoSem.ClaimJoined
import GoSem.ClaimMapViews
import Derived.JoinedTies
import Derived.KernelRfl
namespace Go.Proofs.Ytocekpklffdjgaa
/- THE CELL 'sum', in the pinned program and in every row, IS THE sha256 OF THE DUMP (.gsa) THAT YtocekpklffdjgaaProg.lean LOADS. Nothing in Lean hashes anything: it is a label: what it is worth is what the hold of that sum in a sandbox is worth. -/
noncomputable def Try.pinned : Pinned := { name := "ytocekpklffdjgaa", sum := "7accc46cd9b29392c57824c1a5448a767760cdefc0eb8ee37854194bb557d3ec", checked := Try.checked }
namespace Rows
def none {H : Type} : Left H := { results := [], args := [] }

/-- 'laws.FnAllowed': WHATEVER THE INPUT: true; the input reads as it did. -/
def fnAllowedSpec : ChangeSpec := { name := "fnAllowed", fn := fun _ => fun
  | [d] => { results := [.lit (.bool true)], args := [d] }
  | _ => none }
def fnAllowedRow : OpenClaim := { program := "ytocekpklffdjgaa", sum := "7accc46cd9b29392c57824c1a5448a767760cdefc0eb8ee37854194bb557d3ec", func := "loop.example/g00884/laws.FnAllowed", spec := "fnAllowed", apart := false }
def FnAllowedSaid : Prop := fnAllowedRow.holds Try.pinned (OpenSpec.ofChange fnAllowedSpec)

/-- ITS FALSE NEIGHBOUR: 'it returns false'. Refute it at one input. -/
def fnAllowedWrong : ChangeSpec := { name := "fnAllowed", fn := fun _ => fun
  | [d] => { results := [.lit (.bool false)], args := [d] }
  | _ => none }
def FnAllowedWrongFalsely : Prop := fnAllowedRow.holds Try.pinned (OpenSpec.ofChange fnAllowedWrong)

/-- 'laws.FnDifferences': WHATEVER THE INPUT: true; the input reads as it did. -/
def fnDifferencesSpec : ChangeSpec := { name := "fnDifferences", fn := fun _ => fun
  | [d] => { results := [.lit (.bool true)], args := [d] }
  | _ => none }
def fnDifferencesRow : OpenClaim := { program := "ytocekpklffdjgaa", sum := "7accc46cd9b29392c57824c1a5448a767760cdefc0eb8ee37854194bb557d3ec", func := "loop.example/g00884/laws.FnDifferences", spec := "fnDifferences", unfollowed := true, recurses := true, apart := false }
def FnDifferencesSaid : Prop := fnDifferencesRow.holds Try.pinned (OpenSpec.ofChange fnDifferencesSpec)

/-- ITS FALSE NEIGHBOUR: 'it returns false'. Refute it at one input. -/
def fnDifferencesWrong : ChangeSpec := { name := "fnDifferences", fn := fun _ => fun
  | [d] => { results := [.lit (.bool false)], args := [d] }
  | _ => none }
def FnDifferencesWrongFalsely : Prop := fnDifferencesRow.holds Try.pinned (OpenSpec.ofChange fnDifferencesWrong)

/-- 'laws.FnNearest': WHATEVER THE INPUT: true; the input reads as it did. -/
def fnNearestSpec : ChangeSpec := { name := "fnNearest", fn := fun _ => fun
  | [d] => { results := [.lit (.bool true)], args := [d] }
  | _ => none }
def fnNearestRow : OpenClaim := { program := "ytocekpklffdjgaa", sum := "7accc46cd9b29392c57824c1a5448a767760cdefc0eb8ee37854194bb557d3ec", func := "loop.example/g00884/laws.FnNearest", spec := "fnNearest", unfollowed := true, recurses := true, apart := false }
def FnNearestSaid : Prop := fnNearestRow.holds Try.pinned (OpenSpec.ofChange fnNearestSpec)

/-- ITS FALSE NEIGHBOUR: 'it returns false'. Refute it at one input. -/
def fnNearestWrong : ChangeSpec := { name := "fnNearest", fn := fun _ => fun
  | [d] => { results := [.lit (.bool false)], args := [d] }
  | _ => none }
def FnNearestWrongFalsely : Prop := fnNearestRow.holds Try.pinned (OpenSpec.ofChange fnNearestWrong)

/-- 'laws.FnMarshalling': WHATEVER THE INPUT: true; the input reads as it did. -/
def fnMarshallingSpec : ChangeSpec := { name := "fnMarshalling", fn := fun _ => fun
  | [d] => { results := [.lit (.bool true)], args := [d] }
  | _ => none }
def fnMarshallingRow : OpenClaim := { program := "ytocekpklffdjgaa", sum := "7accc46cd9b29392c57824c1a5448a767760cdefc0eb8ee37854194bb557d3ec", func := "loop.example/g00884/laws.FnMarshalling", spec := "fnMarshalling", unfollowed := true, recurses := true, apart := false }
def FnMarshallingSaid : Prop := fnMarshallingRow.holds Try.pinned (OpenSpec.ofChange fnMarshallingSpec)

/-- ITS FALSE NEIGHBOUR: 'it returns false'. Refute it at one input. -/
def fnMarshallingWrong : ChangeSpec := { name := "fnMarshalling", fn := fun _ => fun
  | [d] => { results := [.lit (.bool false)], args := [d] }
  | _ => none }
def FnMarshallingWrongFalsely : Prop := fnMarshallingRow.holds Try.pinned (OpenSpec.ofChange fnMarshallingWrong)

/-- 'laws.FnDescent': WHATEVER THE INPUT: true; the input reads as it did. -/
def fnDescentSpec : ChangeSpec := { name := "fnDescent", fn := fun _ => fun
  | [d] => { results := [.lit (.bool true)], args := [d] }
  | _ => none }
def fnDescentRow : OpenClaim := { program := "ytocekpklffdjgaa", sum := "7accc46cd9b29392c57824c1a5448a767760cdefc0eb8ee37854194bb557d3ec", func := "loop.example/g00884/laws.FnDescent", spec := "fnDescent", unfollowed := true, recurses := true, apart := false }
def FnDescentSaid : Prop := fnDescentRow.holds Try.pinned (OpenSpec.ofChange fnDescentSpec)

/-- ITS FALSE NEIGHBOUR: 'it returns false'. Refute it at one input. -/
def fnDescentWrong : ChangeSpec := { name := "fnDescent", fn := fun _ => fun
  | [d] => { results := [.lit (.bool false)], args := [d] }
  | _ => none }
def FnDescentWrongFalsely : Prop := fnDescentRow.holds Try.pinned (OpenSpec.ofChange fnDescentWrong)

/-- 'laws.FnExactLeaveOut': WHATEVER THE INPUT: true; the input reads as it did. -/
def fnExactLeaveOutSpec : ChangeSpec := { name := "fnExactLeaveOut", fn := fun _ => fun
  | [d1, d2] => { results := [.lit (.bool true)], args := [d1, d2] }
  | _ => none }
def fnExactLeaveOutRow : OpenClaim := { program := "ytocekpklffdjgaa", sum := "7accc46cd9b29392c57824c1a5448a767760cdefc0eb8ee37854194bb557d3ec", func := "loop.example/g00884/laws.FnExactLeaveOut", spec := "fnExactLeaveOut", unfollowed := true, recurses := true, apart := false }
def FnExactLeaveOutSaid : Prop := fnExactLeaveOutRow.holds Try.pinned (OpenSpec.ofChange fnExactLeaveOutSpec)

/-- ITS FALSE NEIGHBOUR: 'it returns false'. Refute it at one input. -/
def fnExactLeaveOutWrong : ChangeSpec := { name := "fnExactLeaveOut", fn := fun _ => fun
  | [d1, d2] => { results := [.lit (.bool false)], args := [d1, d2] }
  | _ => none }
def FnExactLeaveOutWrongFalsely : Prop := fnExactLeaveOutRow.holds Try.pinned (OpenSpec.ofChange fnExactLeaveOutWrong)

/-- 'laws.FnExactMergeQuarterings': WHATEVER THE INPUT: true; the input reads as it did. -/
def fnExactMergeQuarteringsSpec : ChangeSpec := { name := "fnExactMergeQuarterings", fn := fun _ => fun
  | [d1, d2] => { results := [.lit (.bool true)], args := [d1, d2] }
  | _ => none }
def fnExactMergeQuarteringsRow : OpenClaim := { program := "ytocekpklffdjgaa", sum := "7accc46cd9b29392c57824c1a5448a767760cdefc0eb8ee37854194bb557d3ec", func := "loop.example/g00884/laws.FnExactMergeQuarterings", spec := "fnExactMergeQuarterings", unfollowed := true, recurses := true, apart := false }
def FnExactMergeQuarteringsSaid : Prop := fnExactMergeQuarteringsRow.holds Try.pinned (OpenSpec.ofChange fnExactMergeQuarteringsSpec)

/-- ITS FALSE NEIGHBOUR: 'it returns false'. Refute it at one input. -/
def fnExactMergeQuarteringsWrong : ChangeSpec := { name := "fnExactMergeQuarterings", fn := fun _ => fun
  | [d1, d2] => { results := [.lit (.bool false)], args := [d1, d2] }
  | _ => none }
def FnExactMergeQuarteringsWrongFalsely : Prop := fnExactMergeQuarteringsRow.holds Try.pinned (OpenSpec.ofChange fnExactMergeQuarteringsWrong)

/-- 'laws.FnExactFillGrid': WHATEVER THE INPUT: true; the input reads as it did. -/
def fnExactFillGridSpec : ChangeSpec := { name := "fnExactFillGrid", fn := fun _ => fun
  | [d] => { results := [.lit (.bool true)], args := [d] }
  | _ => none }
def fnExactFillGridRow : OpenClaim := { program := "ytocekpklffdjgaa", sum := "7accc46cd9b29392c57824c1a5448a767760cdefc0eb8ee37854194bb557d3ec", func := "loop.example/g00884/laws.FnExactFillGrid", spec := "fnExactFillGrid", unfollowed := true, recurses := true, apart := false }
def FnExactFillGridSaid : Prop := fnExactFillGridRow.holds Try.pinned (OpenSpec.ofChange fnExactFillGridSpec)

/-- ITS FALSE NEIGHBOUR: 'it returns false'. Refute it at one input. -/
def fnExactFillGridWrong : ChangeSpec := { name := "fnExactFillGrid", fn := fun _ => fun
  | [d] => { results := [.lit (.bool false)], args := [d] }
  | _ => none }
def FnExactFillGridWrongFalsely : Prop := fnExactFillGridRow.holds Try.pinned (OpenSpec.ofChange fnExactFillGridWrong)

/-- 'laws.FnExactInheritQuarterings': WHATEVER THE INPUT: true; the input reads as it did. -/
def fnExactInheritQuarteringsSpec : ChangeSpec := { name := "fnExactInheritQuarterings", fn := fun _ => fun
  | [d1, d2] => { results := [.lit (.bool true)], args := [d1, d2] }
  | _ => none }
def fnExactInheritQuarteringsRow : OpenClaim := { program := "ytocekpklffdjgaa", sum := "7accc46cd9b29392c57824c1a5448a767760cdefc0eb8ee37854194bb557d3ec", func := "loop.example/g00884/laws.FnExactInheritQuarterings", spec := "fnExactInheritQuarterings", unfollowed := true, recurses := true, apart := false }
def FnExactInheritQuarteringsSaid : Prop := fnExactInheritQuarteringsRow.holds Try.pinned (OpenSpec.ofChange fnExactInheritQuarteringsSpec)

/-- ITS FALSE NEIGHBOUR: 'it returns false'. Refute it at one input. -/
def fnExactInheritQuarteringsWrong : ChangeSpec := { name := "fnExactInheritQuarterings", fn := fun _ => fun
  | [d1, d2] => { results := [.lit (.bool false)], args := [d1, d2] }
  | _ => none }
def FnExactInheritQuarteringsWrongFalsely : Prop := fnExactInheritQuarteringsRow.holds Try.pinned (OpenSpec.ofChange fnExactInheritQuarteringsWrong)

/-- 'laws.FnExactQuarteringsFrom': WHATEVER THE INPUT: true; the input reads as it did. -/
def fnExactQuarteringsFromSpec : ChangeSpec := { name := "fnExactQuarteringsFrom", fn := fun _ => fun
  | [d1, d2] => { results := [.lit (.bool true)], args := [d1, d2] }
  | _ => none }
def fnExactQuarteringsFromRow : OpenClaim := { program := "ytocekpklffdjgaa", sum := "7accc46cd9b29392c57824c1a5448a767760cdefc0eb8ee37854194bb557d3ec", func := "loop.example/g00884/laws.FnExactQuarteringsFrom", spec := "fnExactQuarteringsFrom", unfollowed := true, recurses := true, apart := false }
def FnExactQuarteringsFromSaid : Prop := fnExactQuarteringsFromRow.holds Try.pinned (OpenSpec.ofChange fnExactQuarteringsFromSpec)

/-- ITS FALSE NEIGHBOUR: 'it returns false'. Refute it at one input. -/
def fnExactQuarteringsFromWrong : ChangeSpec := { name := "fnExactQuarteringsFrom", fn := fun _ => fun
  | [d1, d2] => { results := [.lit (.bool false)], args := [d1, d2] }
  | _ => none }
def FnExactQuarteringsFromWrongFalsely : Prop := fnExactQuarteringsFromRow.holds Try.pinned (OpenSpec.ofChange fnExactQuarteringsFromWrong)

/- THE SECOND FORM. 'bulk': how many values and letters a reading holds, each counted each time it is reached (what is shared counts as often as it is met; a slice's spare places count too). A statement '..UptoSaid' is the law's where the arguments, and the package variables that the reading takes, are together of bulk at most 1048576: NARROWER than '..Said'. Prove '..Said' where nothing that the law and all that it calls make is longer than what came in: it says more and counts as full. Else prove '..UptoSaid'. A law counts once. -/
mutual
def uptoBulk {H : Type} : DataW H → Nat
  | .lit (.string bytes) => bytes.length + 1
  | .lit _ => 1
  | .nil => 1
  | .ptr d => uptoBulk d + 1
  | .slice elems spare => uptoBulkAll elems + uptoBulkAll spare + 1
  | .agg parts => uptoBulkAll parts + 1
  | .iface _ d => uptoBulk d + 1
  | .map entries => uptoBulkEntries entries + 1
  | .held _ => 1
def uptoBulkAll {H : Type} : List (DataW H) → Nat
  | [] => 0
  | d :: r => uptoBulk d + uptoBulkAll r
def uptoBulkEntries {H : Type} : List (Lit × DataW H) → Nat
  | [] => 0
  | x :: r => uptoBulkEntry x + uptoBulkEntries r
def uptoBulkEntry {H : Type} : Lit × DataW H → Nat
  | (.string bytes, d) => bytes.length + uptoBulk d + 1
  | (_, d) => uptoBulk d + 1
 end
def uptoSmall : (H : Type) → List (DataW H) → Bool := fun _ ds => decide (uptoBulkAll ds ≤ 1048576)
def OpenSpec.upto (s : _root_.Go.ChangeSpec) : _root_.Go.OpenSpec := { _root_.Go.OpenSpec.ofChange s with cond := some uptoSmall }

/-- 'laws.FnAllowed', WHERE WHAT IT READS IS OF BULK AT MOST 1048576: true; the input reads as it did. -/
def fnAllowedUptoRow : OpenClaim := { program := "ytocekpklffdjgaa", sum := "7accc46cd9b29392c57824c1a5448a767760cdefc0eb8ee37854194bb557d3ec", func := "loop.example/g00884/laws.FnAllowed", spec := "fnAllowed", apart := false, narrowed := true }
def FnAllowedUptoSaid : Prop := fnAllowedUptoRow.holds Try.pinned (OpenSpec.upto fnAllowedSpec)

/-- 'laws.FnDifferences', WHERE WHAT IT READS IS OF BULK AT MOST 1048576: true; the input reads as it did. -/
def fnDifferencesUptoRow : OpenClaim := { program := "ytocekpklffdjgaa", sum := "7accc46cd9b29392c57824c1a5448a767760cdefc0eb8ee37854194bb557d3ec", func := "loop.example/g00884/laws.FnDifferences", spec := "fnDifferences", unfollowed := true, recurses := true, apart := false, narrowed := true }
def FnDifferencesUptoSaid : Prop := fnDifferencesUptoRow.holds Try.pinned (OpenSpec.upto fnDifferencesSpec)

/-- 'laws.FnNearest', WHERE WHAT IT READS IS OF BULK AT MOST 1048576: true; the input reads as it did. -/
def fnNearestUptoRow : OpenClaim := { program := "ytocekpklffdjgaa", sum := "7accc46cd9b29392c57824c1a5448a767760cdefc0eb8ee37854194bb557d3ec", func := "loop.example/g00884/laws.FnNearest", spec := "fnNearest", unfollowed := true, recurses := true, apart := false, narrowed := true }
def FnNearestUptoSaid : Prop := fnNearestUptoRow.holds Try.pinned (OpenSpec.upto fnNearestSpec)

/-- 'laws.FnMarshalling', WHERE WHAT IT READS IS OF BULK AT MOST 1048576: true; the input reads as it did. -/
def fnMarshallingUptoRow : OpenClaim := { program := "ytocekpklffdjgaa", sum := "7accc46cd9b29392c57824c1a5448a767760cdefc0eb8ee37854194bb557d3ec", func := "loop.example/g00884/laws.FnMarshalling", spec := "fnMarshalling", unfollowed := true, recurses := true, apart := false, narrowed := true }
def FnMarshallingUptoSaid : Prop := fnMarshallingUptoRow.holds Try.pinned (OpenSpec.upto fnMarshallingSpec)

/-- 'laws.FnDescent', WHERE WHAT IT READS IS OF BULK AT MOST 1048576: true; the input reads as it did. -/
def fnDescentUptoRow : OpenClaim := { program := "ytocekpklffdjgaa", sum := "7accc46cd9b29392c57824c1a5448a767760cdefc0eb8ee37854194bb557d3ec", func := "loop.example/g00884/laws.FnDescent", spec := "fnDescent", unfollowed := true, recurses := true, apart := false, narrowed := true }
def FnDescentUptoSaid : Prop := fnDescentUptoRow.holds Try.pinned (OpenSpec.upto fnDescentSpec)

/-- 'laws.FnExactLeaveOut', WHERE WHAT IT READS IS OF BULK AT MOST 1048576: true; the input reads as it did. -/
def fnExactLeaveOutUptoRow : OpenClaim := { program := "ytocekpklffdjgaa", sum := "7accc46cd9b29392c57824c1a5448a767760cdefc0eb8ee37854194bb557d3ec", func := "loop.example/g00884/laws.FnExactLeaveOut", spec := "fnExactLeaveOut", unfollowed := true, recurses := true, apart := false, narrowed := true }
def FnExactLeaveOutUptoSaid : Prop := fnExactLeaveOutUptoRow.holds Try.pinned (OpenSpec.upto fnExactLeaveOutSpec)

/-- 'laws.FnExactMergeQuarterings', WHERE WHAT IT READS IS OF BULK AT MOST 1048576: true; the input reads as it did. -/
def fnExactMergeQuarteringsUptoRow : OpenClaim := { program := "ytocekpklffdjgaa", sum := "7accc46cd9b29392c57824c1a5448a767760cdefc0eb8ee37854194bb557d3ec", func := "loop.example/g00884/laws.FnExactMergeQuarterings", spec := "fnExactMergeQuarterings", unfollowed := true, recurses := true, apart := false, narrowed := true }
def FnExactMergeQuarteringsUptoSaid : Prop := fnExactMergeQuarteringsUptoRow.holds Try.pinned (OpenSpec.upto fnExactMergeQuarteringsSpec)

/-- 'laws.FnExactFillGrid', WHERE WHAT IT READS IS OF BULK AT MOST 1048576: true; the input reads as it did. -/
def fnExactFillGridUptoRow : OpenClaim := { program := "ytocekpklffdjgaa", sum := "7accc46cd9b29392c57824c1a5448a767760cdefc0eb8ee37854194bb557d3ec", func := "loop.example/g00884/laws.FnExactFillGrid", spec := "fnExactFillGrid", unfollowed := true, recurses := true, apart := false, narrowed := true }
def FnExactFillGridUptoSaid : Prop := fnExactFillGridUptoRow.holds Try.pinned (OpenSpec.upto fnExactFillGridSpec)

/-- 'laws.FnExactInheritQuarterings', WHERE WHAT IT READS IS OF BULK AT MOST 1048576: true; the input reads as it did. -/
def fnExactInheritQuarteringsUptoRow : OpenClaim := { program := "ytocekpklffdjgaa", sum := "7accc46cd9b29392c57824c1a5448a767760cdefc0eb8ee37854194bb557d3ec", func := "loop.example/g00884/laws.FnExactInheritQuarterings", spec := "fnExactInheritQuarterings", unfollowed := true, recurses := true, apart := false, narrowed := true }
def FnExactInheritQuarteringsUptoSaid : Prop := fnExactInheritQuarteringsUptoRow.holds Try.pinned (OpenSpec.upto fnExactInheritQuarteringsSpec)

/-- 'laws.FnExactQuarteringsFrom', WHERE WHAT IT READS IS OF BULK AT MOST 1048576: true; the input reads as it did. -/
def fnExactQuarteringsFromUptoRow : OpenClaim := { program := "ytocekpklffdjgaa", sum := "7accc46cd9b29392c57824c1a5448a767760cdefc0eb8ee37854194bb557d3ec", func := "loop.example/g00884/laws.FnExactQuarteringsFrom", spec := "fnExactQuarteringsFrom", unfollowed := true, recurses := true, apart := false, narrowed := true }
def FnExactQuarteringsFromUptoSaid : Prop := fnExactQuarteringsFromUptoRow.holds Try.pinned (OpenSpec.upto fnExactQuarteringsFromSpec)

end Rows
end Go.Proofs.Ytocekpklffdjgaa
