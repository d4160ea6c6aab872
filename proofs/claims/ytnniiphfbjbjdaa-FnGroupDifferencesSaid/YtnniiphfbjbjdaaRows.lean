/-
  No cell of these rows narrows 'for every input' (looked for: loops, veiled, ifaces, maps, wideKeys, modest, calm, conditions, laid).
  DERIVED. THE GIVEN ROWS OF THIS SEAT. 12 by the template 'for every input the law returns true; each argument reads behind the call as it read before'; 0 by the template 'total and deterministic' (their statements: YtnniiphfbjbjdaaTotals.lean).
  GIVEN WITH THE SEED: the statements are not yours to turn. If you find one false, say at which input.
  Laid BY PROGRAM, IN A SANDBOX (cutbox-rows.mjs): the forced cells as the released guide's own fill.sh prints them over the translation 28efc6a869f238df… (all of the seat's roots in one cut). By AI agents, Wed Nov 11 2026. No macro, syntax, notation, axiom, sorry.
-/
import Derived.Test.YtnniiphfbjbjdaaChecked
import GoSem.Claim
import GoSem.ClaimJoined
import GoSem.ClaimMapViews
import Derived.JoinedTies
import Derived.KernelRfl
namespace Go.Proofs.Ytnniiphfbjbjdaa
/- THE CELL 'sum', in the pinned program and in every row, IS THE sha256 OF THE DUMP (.gsa) THAT YtnniiphfbjbjdaaProg.lean LOADS. Nothing in Lean hashes anything: it is a label: what it is worth is what the hold of that sum in a sandbox is worth. -/
noncomputable def Try.pinned : Pinned := { name := "ytnniiphfbjbjdaa", sum := "28efc6a869f238dfc0b126d916499589fda02c0cd2777879c1c38cf03aca28d1", checked := Try.checked }
namespace Rows
def none {H : Type} : Left H := { results := [], args := [] }

/-- 'laws.FnGroupDifferences': WHATEVER THE INPUT: true; the input reads as it did. -/
def fnGroupDifferencesSpec : ChangeSpec := { name := "fnGroupDifferences", fn := fun _ => fun
  | [d] => { results := [.lit (.bool true)], args := [d] }
  | _ => none }
def fnGroupDifferencesRow : OpenClaim := { program := "ytnniiphfbjbjdaa", sum := "28efc6a869f238dfc0b126d916499589fda02c0cd2777879c1c38cf03aca28d1", func := "loop.example/g00884/laws.FnGroupDifferences", spec := "fnGroupDifferences", apart := false }
def FnGroupDifferencesSaid : Prop := fnGroupDifferencesRow.holds Try.pinned (OpenSpec.ofChange fnGroupDifferencesSpec)

/-- ITS FALSE NEIGHBOUR: 'it returns false'. Refute it at one input. -/
def fnGroupDifferencesWrong : ChangeSpec := { name := "fnGroupDifferences", fn := fun _ => fun
  | [d] => { results := [.lit (.bool false)], args := [d] }
  | _ => none }
def FnGroupDifferencesWrongFalsely : Prop := fnGroupDifferencesRow.holds Try.pinned (OpenSpec.ofChange fnGroupDifferencesWrong)

/-- 'laws.FnShapes': WHATEVER THE INPUT: true; the input reads as it did. -/
def fnShapesSpec : ChangeSpec := { name := "fnShapes", fn := fun _ => fun
  | [d] => { results := [.lit (.bool true)], args := [d] }
  | _ => none }
def fnShapesRow : OpenClaim := { program := "ytnniiphfbjbjdaa", sum := "28efc6a869f238dfc0b126d916499589fda02c0cd2777879c1c38cf03aca28d1", func := "loop.example/g00884/laws.FnShapes", spec := "fnShapes", apart := false }
def FnShapesSaid : Prop := fnShapesRow.holds Try.pinned (OpenSpec.ofChange fnShapesSpec)

/-- ITS FALSE NEIGHBOUR: 'it returns false'. Refute it at one input. -/
def fnShapesWrong : ChangeSpec := { name := "fnShapes", fn := fun _ => fun
  | [d] => { results := [.lit (.bool false)], args := [d] }
  | _ => none }
def FnShapesWrongFalsely : Prop := fnShapesRow.holds Try.pinned (OpenSpec.ofChange fnShapesWrong)

/-- 'laws.FnArms': WHATEVER THE INPUT: true; the input reads as it did. -/
def fnArmsSpec : ChangeSpec := { name := "fnArms", fn := fun _ => fun
  | [d] => { results := [.lit (.bool true)], args := [d] }
  | _ => none }
def fnArmsRow : OpenClaim := { program := "ytnniiphfbjbjdaa", sum := "28efc6a869f238dfc0b126d916499589fda02c0cd2777879c1c38cf03aca28d1", func := "loop.example/g00884/laws.FnArms", spec := "fnArms", unfollowed := true, recurses := true, apart := false }
def FnArmsSaid : Prop := fnArmsRow.holds Try.pinned (OpenSpec.ofChange fnArmsSpec)

/-- ITS FALSE NEIGHBOUR: 'it returns false'. Refute it at one input. -/
def fnArmsWrong : ChangeSpec := { name := "fnArms", fn := fun _ => fun
  | [d] => { results := [.lit (.bool false)], args := [d] }
  | _ => none }
def FnArmsWrongFalsely : Prop := fnArmsRow.holds Try.pinned (OpenSpec.ofChange fnArmsWrong)

/-- 'laws.FnArmsParts': WHATEVER THE INPUT: true; the input reads as it did. -/
def fnArmsPartsSpec : ChangeSpec := { name := "fnArmsParts", fn := fun _ => fun
  | [d] => { results := [.lit (.bool true)], args := [d] }
  | _ => none }
def fnArmsPartsRow : OpenClaim := { program := "ytnniiphfbjbjdaa", sum := "28efc6a869f238dfc0b126d916499589fda02c0cd2777879c1c38cf03aca28d1", func := "loop.example/g00884/laws.FnArmsParts", spec := "fnArmsParts", apart := false }
def FnArmsPartsSaid : Prop := fnArmsPartsRow.holds Try.pinned (OpenSpec.ofChange fnArmsPartsSpec)

/-- ITS FALSE NEIGHBOUR: 'it returns false'. Refute it at one input. -/
def fnArmsPartsWrong : ChangeSpec := { name := "fnArmsParts", fn := fun _ => fun
  | [d] => { results := [.lit (.bool false)], args := [d] }
  | _ => none }
def FnArmsPartsWrongFalsely : Prop := fnArmsPartsRow.holds Try.pinned (OpenSpec.ofChange fnArmsPartsWrong)

/-- 'laws.FnMarshalling': WHATEVER THE INPUT: true; the input reads as it did. -/
def fnMarshallingSpec : ChangeSpec := { name := "fnMarshalling", fn := fun _ => fun
  | [d] => { results := [.lit (.bool true)], args := [d] }
  | _ => none }
def fnMarshallingRow : OpenClaim := { program := "ytnniiphfbjbjdaa", sum := "28efc6a869f238dfc0b126d916499589fda02c0cd2777879c1c38cf03aca28d1", func := "loop.example/g00884/laws.FnMarshalling", spec := "fnMarshalling", unfollowed := true, recurses := true, apart := false }
def FnMarshallingSaid : Prop := fnMarshallingRow.holds Try.pinned (OpenSpec.ofChange fnMarshallingSpec)

/-- ITS FALSE NEIGHBOUR: 'it returns false'. Refute it at one input. -/
def fnMarshallingWrong : ChangeSpec := { name := "fnMarshalling", fn := fun _ => fun
  | [d] => { results := [.lit (.bool false)], args := [d] }
  | _ => none }
def FnMarshallingWrongFalsely : Prop := fnMarshallingRow.holds Try.pinned (OpenSpec.ofChange fnMarshallingWrong)

/-- 'laws.FnAllowed': WHATEVER THE INPUT: true; the input reads as it did. -/
def fnAllowedSpec : ChangeSpec := { name := "fnAllowed", fn := fun _ => fun
  | [d] => { results := [.lit (.bool true)], args := [d] }
  | _ => none }
def fnAllowedRow : OpenClaim := { program := "ytnniiphfbjbjdaa", sum := "28efc6a869f238dfc0b126d916499589fda02c0cd2777879c1c38cf03aca28d1", func := "loop.example/g00884/laws.FnAllowed", spec := "fnAllowed", apart := false }
def FnAllowedSaid : Prop := fnAllowedRow.holds Try.pinned (OpenSpec.ofChange fnAllowedSpec)

/-- ITS FALSE NEIGHBOUR: 'it returns false'. Refute it at one input. -/
def fnAllowedWrong : ChangeSpec := { name := "fnAllowed", fn := fun _ => fun
  | [d] => { results := [.lit (.bool false)], args := [d] }
  | _ => none }
def FnAllowedWrongFalsely : Prop := fnAllowedRow.holds Try.pinned (OpenSpec.ofChange fnAllowedWrong)

/-- 'laws.FnDifferences': WHATEVER THE INPUT: true; the input reads as it did. -/
def fnDifferencesSpec : ChangeSpec := { name := "fnDifferences", fn := fun _ => fun
  | [d] => { results := [.lit (.bool true)], args := [d] }
  | _ => none }
def fnDifferencesRow : OpenClaim := { program := "ytnniiphfbjbjdaa", sum := "28efc6a869f238dfc0b126d916499589fda02c0cd2777879c1c38cf03aca28d1", func := "loop.example/g00884/laws.FnDifferences", spec := "fnDifferences", unfollowed := true, recurses := true, apart := false }
def FnDifferencesSaid : Prop := fnDifferencesRow.holds Try.pinned (OpenSpec.ofChange fnDifferencesSpec)

/-- ITS FALSE NEIGHBOUR: 'it returns false'. Refute it at one input. -/
def fnDifferencesWrong : ChangeSpec := { name := "fnDifferences", fn := fun _ => fun
  | [d] => { results := [.lit (.bool false)], args := [d] }
  | _ => none }
def FnDifferencesWrongFalsely : Prop := fnDifferencesRow.holds Try.pinned (OpenSpec.ofChange fnDifferencesWrong)

/-- 'laws.FnWreaths': WHATEVER THE INPUT: true; the input reads as it did. -/
def fnWreathsSpec : ChangeSpec := { name := "fnWreaths", fn := fun _ => fun
  | [d] => { results := [.lit (.bool true)], args := [d] }
  | _ => none }
def fnWreathsRow : OpenClaim := { program := "ytnniiphfbjbjdaa", sum := "28efc6a869f238dfc0b126d916499589fda02c0cd2777879c1c38cf03aca28d1", func := "loop.example/g00884/laws.FnWreaths", spec := "fnWreaths", apart := false }
def FnWreathsSaid : Prop := fnWreathsRow.holds Try.pinned (OpenSpec.ofChange fnWreathsSpec)

/-- ITS FALSE NEIGHBOUR: 'it returns false'. Refute it at one input. -/
def fnWreathsWrong : ChangeSpec := { name := "fnWreaths", fn := fun _ => fun
  | [d] => { results := [.lit (.bool false)], args := [d] }
  | _ => none }
def FnWreathsWrongFalsely : Prop := fnWreathsRow.holds Try.pinned (OpenSpec.ofChange fnWreathsWrong)

/-- 'laws.FnNearest': WHATEVER THE INPUT: true; the input reads as it did. -/
def fnNearestSpec : ChangeSpec := { name := "fnNearest", fn := fun _ => fun
  | [d] => { results := [.lit (.bool true)], args := [d] }
  | _ => none }
def fnNearestRow : OpenClaim := { program := "ytnniiphfbjbjdaa", sum := "28efc6a869f238dfc0b126d916499589fda02c0cd2777879c1c38cf03aca28d1", func := "loop.example/g00884/laws.FnNearest", spec := "fnNearest", unfollowed := true, recurses := true, apart := false }
def FnNearestSaid : Prop := fnNearestRow.holds Try.pinned (OpenSpec.ofChange fnNearestSpec)

/-- ITS FALSE NEIGHBOUR: 'it returns false'. Refute it at one input. -/
def fnNearestWrong : ChangeSpec := { name := "fnNearest", fn := fun _ => fun
  | [d] => { results := [.lit (.bool false)], args := [d] }
  | _ => none }
def FnNearestWrongFalsely : Prop := fnNearestRow.holds Try.pinned (OpenSpec.ofChange fnNearestWrong)

/-- 'laws.FnDescent': WHATEVER THE INPUT: true; the input reads as it did. -/
def fnDescentSpec : ChangeSpec := { name := "fnDescent", fn := fun _ => fun
  | [d] => { results := [.lit (.bool true)], args := [d] }
  | _ => none }
def fnDescentRow : OpenClaim := { program := "ytnniiphfbjbjdaa", sum := "28efc6a869f238dfc0b126d916499589fda02c0cd2777879c1c38cf03aca28d1", func := "loop.example/g00884/laws.FnDescent", spec := "fnDescent", unfollowed := true, recurses := true, apart := false }
def FnDescentSaid : Prop := fnDescentRow.holds Try.pinned (OpenSpec.ofChange fnDescentSpec)

/-- ITS FALSE NEIGHBOUR: 'it returns false'. Refute it at one input. -/
def fnDescentWrong : ChangeSpec := { name := "fnDescent", fn := fun _ => fun
  | [d] => { results := [.lit (.bool false)], args := [d] }
  | _ => none }
def FnDescentWrongFalsely : Prop := fnDescentRow.holds Try.pinned (OpenSpec.ofChange fnDescentWrong)

/-- 'laws.FnClusters': WHATEVER THE INPUT: true; the input reads as it did. -/
def fnClustersSpec : ChangeSpec := { name := "fnClusters", fn := fun _ => fun
  | [d] => { results := [.lit (.bool true)], args := [d] }
  | _ => none }
def fnClustersRow : OpenClaim := { program := "ytnniiphfbjbjdaa", sum := "28efc6a869f238dfc0b126d916499589fda02c0cd2777879c1c38cf03aca28d1", func := "loop.example/g00884/laws.FnClusters", spec := "fnClusters", unfollowed := true, recurses := true, apart := false }
def FnClustersSaid : Prop := fnClustersRow.holds Try.pinned (OpenSpec.ofChange fnClustersSpec)

/-- ITS FALSE NEIGHBOUR: 'it returns false'. Refute it at one input. -/
def fnClustersWrong : ChangeSpec := { name := "fnClusters", fn := fun _ => fun
  | [d] => { results := [.lit (.bool false)], args := [d] }
  | _ => none }
def FnClustersWrongFalsely : Prop := fnClustersRow.holds Try.pinned (OpenSpec.ofChange fnClustersWrong)

/-- 'laws.FnRules': WHATEVER THE INPUT: true; the input reads as it did. -/
def fnRulesSpec : ChangeSpec := { name := "fnRules", fn := fun _ => fun
  | [d] => { results := [.lit (.bool true)], args := [d] }
  | _ => none }
def fnRulesRow : OpenClaim := { program := "ytnniiphfbjbjdaa", sum := "28efc6a869f238dfc0b126d916499589fda02c0cd2777879c1c38cf03aca28d1", func := "loop.example/g00884/laws.FnRules", spec := "fnRules", apart := false }
def FnRulesSaid : Prop := fnRulesRow.holds Try.pinned (OpenSpec.ofChange fnRulesSpec)

/-- ITS FALSE NEIGHBOUR: 'it returns false'. Refute it at one input. -/
def fnRulesWrong : ChangeSpec := { name := "fnRules", fn := fun _ => fun
  | [d] => { results := [.lit (.bool false)], args := [d] }
  | _ => none }
def FnRulesWrongFalsely : Prop := fnRulesRow.holds Try.pinned (OpenSpec.ofChange fnRulesWrong)

/- THE SECOND FORM. 'bulk': how many values and letters a reading holds, each counted each time it is reached (what is shared counts as often as it is met; a slice's spare places count too). A statement '..UptoSaid' is the law's where the arguments, and the package variables that the reading takes, are together of bulk at most 1048576: NARROWER than '..Said'. Prove '..Said' where nothing that the law and all that it calls make is longer than what came in: it says more and counts as full. Else prove '..UptoSaid'. A law counts once. -/
mutual
def uptoBulk {H : Type} : DataW H → Nat
  | .lit (.string bytes) => bytes.length + 1
  | .lit _ => 1
  | .nil => 1
  | .ptr d => uptoBulk d + 1
  | .slice elems spare => uptoBulkAll elems + uptoBulkAll spare + 1
  | .agg parts => uptoBulkAll parts + 1
  | .iface _ d => uptoBulk d + 1
  | .map entries => uptoBulkEntries entries + 1
  | .held _ => 1
def uptoBulkAll {H : Type} : List (DataW H) → Nat
  | [] => 0
  | d :: r => uptoBulk d + uptoBulkAll r
def uptoBulkEntries {H : Type} : List (Lit × DataW H) → Nat
  | [] => 0
  | x :: r => uptoBulkEntry x + uptoBulkEntries r
def uptoBulkEntry {H : Type} : Lit × DataW H → Nat
  | (.string bytes, d) => bytes.length + uptoBulk d + 1
  | (_, d) => uptoBulk d + 1
 end
def uptoSmall : (H : Type) → List (DataW H) → Bool := fun _ ds => decide (uptoBulkAll ds ≤ 1048576)
def OpenSpec.upto (s : _root_.Go.ChangeSpec) : _root_.Go.OpenSpec := { _root_.Go.OpenSpec.ofChange s with cond := some uptoSmall }

/-- 'laws.FnGroupDifferences', WHERE WHAT IT READS IS OF BULK AT MOST 1048576: true; the input reads as it did. -/
def fnGroupDifferencesUptoRow : OpenClaim := { program := "ytnniiphfbjbjdaa", sum := "28efc6a869f238dfc0b126d916499589fda02c0cd2777879c1c38cf03aca28d1", func := "loop.example/g00884/laws.FnGroupDifferences", spec := "fnGroupDifferences", apart := false, narrowed := true }
def FnGroupDifferencesUptoSaid : Prop := fnGroupDifferencesUptoRow.holds Try.pinned (OpenSpec.upto fnGroupDifferencesSpec)

/-- 'laws.FnShapes', WHERE WHAT IT READS IS OF BULK AT MOST 1048576: true; the input reads as it did. -/
def fnShapesUptoRow : OpenClaim := { program := "ytnniiphfbjbjdaa", sum := "28efc6a869f238dfc0b126d916499589fda02c0cd2777879c1c38cf03aca28d1", func := "loop.example/g00884/laws.FnShapes", spec := "fnShapes", apart := false, narrowed := true }
def FnShapesUptoSaid : Prop := fnShapesUptoRow.holds Try.pinned (OpenSpec.upto fnShapesSpec)

/-- 'laws.FnArms', WHERE WHAT IT READS IS OF BULK AT MOST 1048576: true; the input reads as it did. -/
def fnArmsUptoRow : OpenClaim := { program := "ytnniiphfbjbjdaa", sum := "28efc6a869f238dfc0b126d916499589fda02c0cd2777879c1c38cf03aca28d1", func := "loop.example/g00884/laws.FnArms", spec := "fnArms", unfollowed := true, recurses := true, apart := false, narrowed := true }
def FnArmsUptoSaid : Prop := fnArmsUptoRow.holds Try.pinned (OpenSpec.upto fnArmsSpec)

/-- 'laws.FnArmsParts', WHERE WHAT IT READS IS OF BULK AT MOST 1048576: true; the input reads as it did. -/
def fnArmsPartsUptoRow : OpenClaim := { program := "ytnniiphfbjbjdaa", sum := "28efc6a869f238dfc0b126d916499589fda02c0cd2777879c1c38cf03aca28d1", func := "loop.example/g00884/laws.FnArmsParts", spec := "fnArmsParts", apart := false, narrowed := true }
def FnArmsPartsUptoSaid : Prop := fnArmsPartsUptoRow.holds Try.pinned (OpenSpec.upto fnArmsPartsSpec)

/-- 'laws.FnMarshalling', WHERE WHAT IT READS IS OF BULK AT MOST 1048576: true; the input reads as it did. -/
def fnMarshallingUptoRow : OpenClaim := { program := "ytnniiphfbjbjdaa", sum := "28efc6a869f238dfc0b126d916499589fda02c0cd2777879c1c38cf03aca28d1", func := "loop.example/g00884/laws.FnMarshalling", spec := "fnMarshalling", unfollowed := true, recurses := true, apart := false, narrowed := true }
def FnMarshallingUptoSaid : Prop := fnMarshallingUptoRow.holds Try.pinned (OpenSpec.upto fnMarshallingSpec)

/-- 'laws.FnAllowed', WHERE WHAT IT READS IS OF BULK AT MOST 1048576: true; the input reads as it did. -/
def fnAllowedUptoRow : OpenClaim := { program := "ytnniiphfbjbjdaa", sum := "28efc6a869f238dfc0b126d916499589fda02c0cd2777879c1c38cf03aca28d1", func := "loop.example/g00884/laws.FnAllowed", spec := "fnAllowed", apart := false, narrowed := true }
def FnAllowedUptoSaid : Prop := fnAllowedUptoRow.holds Try.pinned (OpenSpec.upto fnAllowedSpec)

/-- 'laws.FnDifferences', WHERE WHAT IT READS IS OF BULK AT MOST 1048576: true; the input reads as it did. -/
def fnDifferencesUptoRow : OpenClaim := { program := "ytnniiphfbjbjdaa", sum := "28efc6a869f238dfc0b126d916499589fda02c0cd2777879c1c38cf03aca28d1", func := "loop.example/g00884/laws.FnDifferences", spec := "fnDifferences", unfollowed := true, recurses := true, apart := false, narrowed := true }
def FnDifferencesUptoSaid : Prop := fnDifferencesUptoRow.holds Try.pinned (OpenSpec.upto fnDifferencesSpec)

/-- 'laws.FnWreaths', WHERE WHAT IT READS IS OF BULK AT MOST 1048576: true; the input reads as it did. -/
def fnWreathsUptoRow : OpenClaim := { program := "ytnniiphfbjbjdaa", sum := "28efc6a869f238dfc0b126d916499589fda02c0cd2777879c1c38cf03aca28d1", func := "loop.example/g00884/laws.FnWreaths", spec := "fnWreaths", apart := false, narrowed := true }
def FnWreathsUptoSaid : Prop := fnWreathsUptoRow.holds Try.pinned (OpenSpec.upto fnWreathsSpec)

/-- 'laws.FnNearest', WHERE WHAT IT READS IS OF BULK AT MOST 1048576: true; the input reads as it did. -/
def fnNearestUptoRow : OpenClaim := { program := "ytnniiphfbjbjdaa", sum := "28efc6a869f238dfc0b126d916499589fda02c0cd2777879c1c38cf03aca28d1", func := "loop.example/g00884/laws.FnNearest", spec := "fnNearest", unfollowed := true, recurses := true, apart := false, narrowed := true }
def FnNearestUptoSaid : Prop := fnNearestUptoRow.holds Try.pinned (OpenSpec.upto fnNearestSpec)

/-- 'laws.FnDescent', WHERE WHAT IT READS IS OF BULK AT MOST 1048576: true; the input reads as it did. -/
def fnDescentUptoRow : OpenClaim := { program := "ytnniiphfbjbjdaa", sum := "28efc6a869f238dfc0b126d916499589fda02c0cd2777879c1c38cf03aca28d1", func := "loop.example/g00884/laws.FnDescent", spec := "fnDescent", unfollowed := true, recurses := true, apart := false, narrowed := true }
def FnDescentUptoSaid : Prop := fnDescentUptoRow.holds Try.pinned (OpenSpec.upto fnDescentSpec)

/-- 'laws.FnClusters', WHERE WHAT IT READS IS OF BULK AT MOST 1048576: true; the input reads as it did. -/
def fnClustersUptoRow : OpenClaim := { program := "ytnniiphfbjbjdaa", sum := "28efc6a869f238dfc0b126d916499589fda02c0cd2777879c1c38cf03aca28d1", func := "loop.example/g00884/laws.FnClusters", spec := "fnClusters", unfollowed := true, recurses := true, apart := false, narrowed := true }
def FnClustersUptoSaid : Prop := fnClustersUptoRow.holds Try.pinned (OpenSpec.upto fnClustersSpec)

/-- 'laws.FnRules', WHERE WHAT IT READS IS OF BULK AT MOST 1048576: true; the input reads as it did. -/
def fnRulesUptoRow : OpenClaim := { program := "ytnniiphfbjbjdaa", sum := "28efc6a869f238dfc0b126d916499589fda02c0cd2777879c1c38cf03aca28d1", func := "loop.example/g00884/laws.FnRules", spec := "fnRules", apart := false, narrowed := true }
def FnRulesUptoSaid : Prop := fnRulesUptoRow.holds Try.pinned (OpenSpec.upto fnRulesSpec)

end Rows
end Go.Proofs.Ytnniiphfbjbjdaa
