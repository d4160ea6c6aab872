/-
  No cell of these rows narrows 'for every input' (looked for: loops, veiled, ifaces, maps, wideKeys, modest, calm, conditions, laid).
  DERIVED. THE GIVEN ROWS OF THIS SEAT. 8 by the template 'for every input the law returns true; each argument reads behind the call as it read before'; 0 by the template 'total and deterministic' (their statements: YtbljimjanoondaaTotals.lean).
  GIVEN WITH THE SEED: the statements are not yours to turn. If you find one false, say at which input.
  Laid BY PROGRAM, IN A SANDBOX (cutbox-rows.mjs): the forced cells as the released guide's own fill.sh prints them over the translation b414e6bf887ed7fa… (all of the seat's roots in one cut). By AI agents, Wed Nov 11 2026. No macro, syntax, notation, axiom, sorry.
-/
import Derived.Test.YtbljimjanoondaaChecked
import GoSem.Claim
import GoSem.ClaimJoined
import GoSem.ClaimMapViews
import Derived.JoinedTies
import Derived.KernelRfl
namespace Go.Proofs.Ytbljimjanoondaa
/- THE CELL 'sum', in the pinned program and in every row, IS THE sha256 OF THE DUMP (.gsa) THAT YtbljimjanoondaaProg.lean LOADS. Nothing in Lean hashes anything: it is a label: what it is worth is what the hold of that sum in a sandbox is worth. -/
noncomputable def Try.pinned : Pinned := { name := "ytbljimjanoondaa", sum := "b414e6bf887ed7fa92bd6bba1ad2f7cdbece621d1c1456f938fbaee936967c1c", checked := Try.checked }
namespace Rows
def none {H : Type} : Left H := { results := [], args := [] }

/-- 'laws.FnExactIsValidQuarterings': WHATEVER THE INPUT: true; the input reads as it did. -/
def fnExactIsValidQuarteringsSpec : ChangeSpec := { name := "fnExactIsValidQuarterings", fn := fun _ => fun
  | [d] => { results := [.lit (.bool true)], args := [d] }
  | _ => none }
def fnExactIsValidQuarteringsRow : OpenClaim := { program := "ytbljimjanoondaa", sum := "b414e6bf887ed7fa92bd6bba1ad2f7cdbece621d1c1456f938fbaee936967c1c", func := "loop.example/g00884/laws.FnExactIsValidQuarterings", spec := "fnExactIsValidQuarterings", unfollowed := true, recurses := true, apart := false }
def FnExactIsValidQuarteringsSaid : Prop := fnExactIsValidQuarteringsRow.holds Try.pinned (OpenSpec.ofChange fnExactIsValidQuarteringsSpec)

/-- ITS FALSE NEIGHBOUR: 'it returns false'. Refute it at one input. -/
def fnExactIsValidQuarteringsWrong : ChangeSpec := { name := "fnExactIsValidQuarterings", fn := fun _ => fun
  | [d] => { results := [.lit (.bool false)], args := [d] }
  | _ => none }
def FnExactIsValidQuarteringsWrongFalsely : Prop := fnExactIsValidQuarteringsRow.holds Try.pinned (OpenSpec.ofChange fnExactIsValidQuarteringsWrong)

/-- 'laws.FnExactMatchesArms': WHATEVER THE INPUT: true; the input reads as it did. -/
def fnExactMatchesArmsSpec : ChangeSpec := { name := "fnExactMatchesArms", fn := fun _ => fun
  | [d1, d2] => { results := [.lit (.bool true)], args := [d1, d2] }
  | _ => none }
def fnExactMatchesArmsRow : OpenClaim := { program := "ytbljimjanoondaa", sum := "b414e6bf887ed7fa92bd6bba1ad2f7cdbece621d1c1456f938fbaee936967c1c", func := "loop.example/g00884/laws.FnExactMatchesArms", spec := "fnExactMatchesArms", apart := false }
def FnExactMatchesArmsSaid : Prop := fnExactMatchesArmsRow.holds Try.pinned (OpenSpec.ofChange fnExactMatchesArmsSpec)

/-- ITS FALSE NEIGHBOUR: 'it returns false'. Refute it at one input. -/
def fnExactMatchesArmsWrong : ChangeSpec := { name := "fnExactMatchesArms", fn := fun _ => fun
  | [d1, d2] => { results := [.lit (.bool false)], args := [d1, d2] }
  | _ => none }
def FnExactMatchesArmsWrongFalsely : Prop := fnExactMatchesArmsRow.holds Try.pinned (OpenSpec.ofChange fnExactMatchesArmsWrong)

/-- 'laws.FnExactSameQuarterings': WHATEVER THE INPUT: true; the input reads as it did. -/
def fnExactSameQuarteringsSpec : ChangeSpec := { name := "fnExactSameQuarterings", fn := fun _ => fun
  | [d1, d2] => { results := [.lit (.bool true)], args := [d1, d2] }
  | _ => none }
def fnExactSameQuarteringsRow : OpenClaim := { program := "ytbljimjanoondaa", sum := "b414e6bf887ed7fa92bd6bba1ad2f7cdbece621d1c1456f938fbaee936967c1c", func := "loop.example/g00884/laws.FnExactSameQuarterings", spec := "fnExactSameQuarterings", unfollowed := true, recurses := true, apart := false }
def FnExactSameQuarteringsSaid : Prop := fnExactSameQuarteringsRow.holds Try.pinned (OpenSpec.ofChange fnExactSameQuarteringsSpec)

/-- ITS FALSE NEIGHBOUR: 'it returns false'. Refute it at one input. -/
def fnExactSameQuarteringsWrong : ChangeSpec := { name := "fnExactSameQuarterings", fn := fun _ => fun
  | [d1, d2] => { results := [.lit (.bool false)], args := [d1, d2] }
  | _ => none }
def FnExactSameQuarteringsWrongFalsely : Prop := fnExactSameQuarteringsRow.holds Try.pinned (OpenSpec.ofChange fnExactSameQuarteringsWrong)

/-- 'laws.FnExactWreathRow': WHATEVER THE INPUT: true; the input reads as it did. -/
def fnExactWreathRowSpec : ChangeSpec := { name := "fnExactWreathRow", fn := fun _ => fun
  | [d1, d2] => { results := [.lit (.bool true)], args := [d1, d2] }
  | _ => none }
def fnExactWreathRowRow : OpenClaim := { program := "ytbljimjanoondaa", sum := "b414e6bf887ed7fa92bd6bba1ad2f7cdbece621d1c1456f938fbaee936967c1c", func := "loop.example/g00884/laws.FnExactWreathRow", spec := "fnExactWreathRow", apart := false }
def FnExactWreathRowSaid : Prop := fnExactWreathRowRow.holds Try.pinned (OpenSpec.ofChange fnExactWreathRowSpec)

/-- ITS FALSE NEIGHBOUR: 'it returns false'. Refute it at one input. -/
def fnExactWreathRowWrong : ChangeSpec := { name := "fnExactWreathRow", fn := fun _ => fun
  | [d1, d2] => { results := [.lit (.bool false)], args := [d1, d2] }
  | _ => none }
def FnExactWreathRowWrongFalsely : Prop := fnExactWreathRowRow.holds Try.pinned (OpenSpec.ofChange fnExactWreathRowWrong)

/-- 'laws.FnExactLeaveOut': WHATEVER THE INPUT: true; the input reads as it did. -/
def fnExactLeaveOutSpec : ChangeSpec := { name := "fnExactLeaveOut", fn := fun _ => fun
  | [d1, d2] => { results := [.lit (.bool true)], args := [d1, d2] }
  | _ => none }
def fnExactLeaveOutRow : OpenClaim := { program := "ytbljimjanoondaa", sum := "b414e6bf887ed7fa92bd6bba1ad2f7cdbece621d1c1456f938fbaee936967c1c", func := "loop.example/g00884/laws.FnExactLeaveOut", spec := "fnExactLeaveOut", unfollowed := true, recurses := true, apart := false }
def FnExactLeaveOutSaid : Prop := fnExactLeaveOutRow.holds Try.pinned (OpenSpec.ofChange fnExactLeaveOutSpec)

/-- ITS FALSE NEIGHBOUR: 'it returns false'. Refute it at one input. -/
def fnExactLeaveOutWrong : ChangeSpec := { name := "fnExactLeaveOut", fn := fun _ => fun
  | [d1, d2] => { results := [.lit (.bool false)], args := [d1, d2] }
  | _ => none }
def FnExactLeaveOutWrongFalsely : Prop := fnExactLeaveOutRow.holds Try.pinned (OpenSpec.ofChange fnExactLeaveOutWrong)

/-- 'laws.FnExactMergeQuarterings': WHATEVER THE INPUT: true; the input reads as it did. -/
def fnExactMergeQuarteringsSpec : ChangeSpec := { name := "fnExactMergeQuarterings", fn := fun _ => fun
  | [d1, d2] => { results := [.lit (.bool true)], args := [d1, d2] }
  | _ => none }
def fnExactMergeQuarteringsRow : OpenClaim := { program := "ytbljimjanoondaa", sum := "b414e6bf887ed7fa92bd6bba1ad2f7cdbece621d1c1456f938fbaee936967c1c", func := "loop.example/g00884/laws.FnExactMergeQuarterings", spec := "fnExactMergeQuarterings", unfollowed := true, recurses := true, apart := false }
def FnExactMergeQuarteringsSaid : Prop := fnExactMergeQuarteringsRow.holds Try.pinned (OpenSpec.ofChange fnExactMergeQuarteringsSpec)

/-- ITS FALSE NEIGHBOUR: 'it returns false'. Refute it at one input. -/
def fnExactMergeQuarteringsWrong : ChangeSpec := { name := "fnExactMergeQuarterings", fn := fun _ => fun
  | [d1, d2] => { results := [.lit (.bool false)], args := [d1, d2] }
  | _ => none }
def FnExactMergeQuarteringsWrongFalsely : Prop := fnExactMergeQuarteringsRow.holds Try.pinned (OpenSpec.ofChange fnExactMergeQuarteringsWrong)

/-- 'laws.FnExactFillGrid': WHATEVER THE INPUT: true; the input reads as it did. -/
def fnExactFillGridSpec : ChangeSpec := { name := "fnExactFillGrid", fn := fun _ => fun
  | [d] => { results := [.lit (.bool true)], args := [d] }
  | _ => none }
def fnExactFillGridRow : OpenClaim := { program := "ytbljimjanoondaa", sum := "b414e6bf887ed7fa92bd6bba1ad2f7cdbece621d1c1456f938fbaee936967c1c", func := "loop.example/g00884/laws.FnExactFillGrid", spec := "fnExactFillGrid", unfollowed := true, recurses := true, apart := false }
def FnExactFillGridSaid : Prop := fnExactFillGridRow.holds Try.pinned (OpenSpec.ofChange fnExactFillGridSpec)

/-- ITS FALSE NEIGHBOUR: 'it returns false'. Refute it at one input. -/
def fnExactFillGridWrong : ChangeSpec := { name := "fnExactFillGrid", fn := fun _ => fun
  | [d] => { results := [.lit (.bool false)], args := [d] }
  | _ => none }
def FnExactFillGridWrongFalsely : Prop := fnExactFillGridRow.holds Try.pinned (OpenSpec.ofChange fnExactFillGridWrong)

/-- 'laws.FnExactWreathOf': WHATEVER THE INPUT: true; the input reads as it did. -/
def fnExactWreathOfSpec : ChangeSpec := { name := "fnExactWreathOf", fn := fun _ => fun
  | [d] => { results := [.lit (.bool true)], args := [d] }
  | _ => none }
def fnExactWreathOfRow : OpenClaim := { program := "ytbljimjanoondaa", sum := "b414e6bf887ed7fa92bd6bba1ad2f7cdbece621d1c1456f938fbaee936967c1c", func := "loop.example/g00884/laws.FnExactWreathOf", spec := "fnExactWreathOf", apart := false }
def FnExactWreathOfSaid : Prop := fnExactWreathOfRow.holds Try.pinned (OpenSpec.ofChange fnExactWreathOfSpec)

/-- ITS FALSE NEIGHBOUR: 'it returns false'. Refute it at one input. -/
def fnExactWreathOfWrong : ChangeSpec := { name := "fnExactWreathOf", fn := fun _ => fun
  | [d] => { results := [.lit (.bool false)], args := [d] }
  | _ => none }
def FnExactWreathOfWrongFalsely : Prop := fnExactWreathOfRow.holds Try.pinned (OpenSpec.ofChange fnExactWreathOfWrong)

/- THE SECOND FORM. 'bulk': how many values and letters a reading holds, each counted each time it is reached (what is shared counts as often as it is met; a slice's spare places count too). A statement '..UptoSaid' is the law's where the arguments, and the package variables that the reading takes, are together of bulk at most 1048576: NARROWER than '..Said'. Prove '..Said' where nothing that the law and all that it calls make is longer than what came in: it says more and counts as full. Else prove '..UptoSaid'. A law counts once. -/
mutual
def uptoBulk {H : Type} : DataW H → Nat
  | .lit (.string bytes) => bytes.length + 1
  | .lit _ => 1
  | .nil => 1
  | .ptr d => uptoBulk d + 1
  | .slice elems spare => uptoBulkAll elems + uptoBulkAll spare + 1
  | .agg parts => uptoBulkAll parts + 1
  | .iface _ d => uptoBulk d + 1
  | .map entries => uptoBulkEntries entries + 1
  | .held _ => 1
def uptoBulkAll {H : Type} : List (DataW H) → Nat
  | [] => 0
  | d :: r => uptoBulk d + uptoBulkAll r
def uptoBulkEntries {H : Type} : List (Lit × DataW H) → Nat
  | [] => 0
  | x :: r => uptoBulkEntry x + uptoBulkEntries r
def uptoBulkEntry {H : Type} : Lit × DataW H → Nat
  | (.string bytes, d) => bytes.length + uptoBulk d + 1
  | (_, d) => uptoBulk d + 1
 end
def uptoSmall : (H : Type) → List (DataW H) → Bool := fun _ ds => decide (uptoBulkAll ds ≤ 1048576)
def OpenSpec.upto (s : _root_.Go.ChangeSpec) : _root_.Go.OpenSpec := { _root_.Go.OpenSpec.ofChange s with cond := some uptoSmall }

/-- 'laws.FnExactIsValidQuarterings', WHERE WHAT IT READS IS OF BULK AT MOST 1048576: true; the input reads as it did. -/
def fnExactIsValidQuarteringsUptoRow : OpenClaim := { program := "ytbljimjanoondaa", sum := "b414e6bf887ed7fa92bd6bba1ad2f7cdbece621d1c1456f938fbaee936967c1c", func := "loop.example/g00884/laws.FnExactIsValidQuarterings", spec := "fnExactIsValidQuarterings", unfollowed := true, recurses := true, apart := false, narrowed := true }
def FnExactIsValidQuarteringsUptoSaid : Prop := fnExactIsValidQuarteringsUptoRow.holds Try.pinned (OpenSpec.upto fnExactIsValidQuarteringsSpec)

/-- 'laws.FnExactMatchesArms', WHERE WHAT IT READS IS OF BULK AT MOST 1048576: true; the input reads as it did. -/
def fnExactMatchesArmsUptoRow : OpenClaim := { program := "ytbljimjanoondaa", sum := "b414e6bf887ed7fa92bd6bba1ad2f7cdbece621d1c1456f938fbaee936967c1c", func := "loop.example/g00884/laws.FnExactMatchesArms", spec := "fnExactMatchesArms", apart := false, narrowed := true }
def FnExactMatchesArmsUptoSaid : Prop := fnExactMatchesArmsUptoRow.holds Try.pinned (OpenSpec.upto fnExactMatchesArmsSpec)

/-- 'laws.FnExactSameQuarterings', WHERE WHAT IT READS IS OF BULK AT MOST 1048576: true; the input reads as it did. -/
def fnExactSameQuarteringsUptoRow : OpenClaim := { program := "ytbljimjanoondaa", sum := "b414e6bf887ed7fa92bd6bba1ad2f7cdbece621d1c1456f938fbaee936967c1c", func := "loop.example/g00884/laws.FnExactSameQuarterings", spec := "fnExactSameQuarterings", unfollowed := true, recurses := true, apart := false, narrowed := true }
def FnExactSameQuarteringsUptoSaid : Prop := fnExactSameQuarteringsUptoRow.holds Try.pinned (OpenSpec.upto fnExactSameQuarteringsSpec)

/-- 'laws.FnExactWreathRow', WHERE WHAT IT READS IS OF BULK AT MOST 1048576: true; the input reads as it did. -/
def fnExactWreathRowUptoRow : OpenClaim := { program := "ytbljimjanoondaa", sum := "b414e6bf887ed7fa92bd6bba1ad2f7cdbece621d1c1456f938fbaee936967c1c", func := "loop.example/g00884/laws.FnExactWreathRow", spec := "fnExactWreathRow", apart := false, narrowed := true }
def FnExactWreathRowUptoSaid : Prop := fnExactWreathRowUptoRow.holds Try.pinned (OpenSpec.upto fnExactWreathRowSpec)

/-- 'laws.FnExactLeaveOut', WHERE WHAT IT READS IS OF BULK AT MOST 1048576: true; the input reads as it did. -/
def fnExactLeaveOutUptoRow : OpenClaim := { program := "ytbljimjanoondaa", sum := "b414e6bf887ed7fa92bd6bba1ad2f7cdbece621d1c1456f938fbaee936967c1c", func := "loop.example/g00884/laws.FnExactLeaveOut", spec := "fnExactLeaveOut", unfollowed := true, recurses := true, apart := false, narrowed := true }
def FnExactLeaveOutUptoSaid : Prop := fnExactLeaveOutUptoRow.holds Try.pinned (OpenSpec.upto fnExactLeaveOutSpec)

/-- 'laws.FnExactMergeQuarterings', WHERE WHAT IT READS IS OF BULK AT MOST 1048576: true; the input reads as it did. -/
def fnExactMergeQuarteringsUptoRow : OpenClaim := { program := "ytbljimjanoondaa", sum := "b414e6bf887ed7fa92bd6bba1ad2f7cdbece621d1c1456f938fbaee936967c1c", func := "loop.example/g00884/laws.FnExactMergeQuarterings", spec := "fnExactMergeQuarterings", unfollowed := true, recurses := true, apart := false, narrowed := true }
def FnExactMergeQuarteringsUptoSaid : Prop := fnExactMergeQuarteringsUptoRow.holds Try.pinned (OpenSpec.upto fnExactMergeQuarteringsSpec)

/-- 'laws.FnExactFillGrid', WHERE WHAT IT READS IS OF BULK AT MOST 1048576: true; the input reads as it did. -/
def fnExactFillGridUptoRow : OpenClaim := { program := "ytbljimjanoondaa", sum := "b414e6bf887ed7fa92bd6bba1ad2f7cdbece621d1c1456f938fbaee936967c1c", func := "loop.example/g00884/laws.FnExactFillGrid", spec := "fnExactFillGrid", unfollowed := true, recurses := true, apart := false, narrowed := true }
def FnExactFillGridUptoSaid : Prop := fnExactFillGridUptoRow.holds Try.pinned (OpenSpec.upto fnExactFillGridSpec)

/-- 'laws.FnExactWreathOf', WHERE WHAT IT READS IS OF BULK AT MOST 1048576: true; the input reads as it did. -/
def fnExactWreathOfUptoRow : OpenClaim := { program := "ytbljimjanoondaa", sum := "b414e6bf887ed7fa92bd6bba1ad2f7cdbece621d1c1456f938fbaee936967c1c", func := "loop.example/g00884/laws.FnExactWreathOf", spec := "fnExactWreathOf", apart := false, narrowed := true }
def FnExactWreathOfUptoSaid : Prop := fnExactWreathOfUptoRow.holds Try.pinned (OpenSpec.upto fnExactWreathOfSpec)

end Rows
end Go.Proofs.Ytbljimjanoondaa
