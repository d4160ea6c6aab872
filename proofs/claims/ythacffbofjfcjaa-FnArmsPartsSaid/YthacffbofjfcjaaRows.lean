/-
  No cell of these rows narrows 'for every input' (looked for: loops, veiled, ifaces, maps, wideKeys, modest, calm, conditions, laid).
  DERIVED. THE GIVEN ROWS OF THIS SEAT. 5 by the template 'for every input the law returns true; each argument reads behind the call as it read before'; 0 by the template 'total and deterministic' (their statements: YthacffbofjfcjaaTotals.lean).
  GIVEN WITH THE SEED: the statements are not yours to turn. If you find one false, say at which input.
  Laid BY PROGRAM, IN A SANDBOX (cutbox-rows.mjs): the forced cells as the released guide's own fill.sh prints them over the translation 515b5c97928e52a0… (all of the seat's roots in one cut). By AI agents, Wed Nov 11 2026. No macro, syntax, notation, axiom, sorry.
-/
import Derived.Test.YthacffbofjfcjaaChecked
import GoSem.Claim
import GoSem.ClaimJoined
import GoSem.ClaimMapViews
import Derived.JoinedTies
import Derived.KernelRfl
namespace Go.Proofs.Ythacffbofjfcjaa
/- THE CELL 'sum', in the pinned program and in every row, IS THE sha256 OF THE DUMP (.gsa) THAT YthacffbofjfcjaaProg.lean LOADS. Nothing in Lean hashes anything: it is a label: what it is worth is what the hold of that sum in a sandbox is worth. -/
noncomputable def Try.pinned : Pinned := { name := "ythacffbofjfcjaa", sum := "515b5c97928e52a0b6a00923404ba6f90c563409577cff3246480c9d83d429f9", checked := Try.checked }
namespace Rows
def none {H : Type} : Left H := { results := [], args := [] }

/-- 'laws.FnShapes': WHATEVER THE INPUT: true; the input reads as it did. -/
def fnShapesSpec : ChangeSpec := { name := "fnShapes", fn := fun _ => fun
  | [d] => { results := [.lit (.bool true)], args := [d] }
  | _ => none }
def fnShapesRow : OpenClaim := { program := "ythacffbofjfcjaa", sum := "515b5c97928e52a0b6a00923404ba6f90c563409577cff3246480c9d83d429f9", func := "loop.example/g00884/laws.FnShapes", spec := "fnShapes", apart := false }
def FnShapesSaid : Prop := fnShapesRow.holds Try.pinned (OpenSpec.ofChange fnShapesSpec)

/-- ITS FALSE NEIGHBOUR: 'it returns false'. Refute it at one input. -/
def fnShapesWrong : ChangeSpec := { name := "fnShapes", fn := fun _ => fun
  | [d] => { results := [.lit (.bool false)], args := [d] }
  | _ => none }
def FnShapesWrongFalsely : Prop := fnShapesRow.holds Try.pinned (OpenSpec.ofChange fnShapesWrong)

/-- 'laws.FnArms': WHATEVER THE INPUT: true; the input reads as it did. -/
def fnArmsSpec : ChangeSpec := { name := "fnArms", fn := fun _ => fun
  | [d] => { results := [.lit (.bool true)], args := [d] }
  | _ => none }
def fnArmsRow : OpenClaim := { program := "ythacffbofjfcjaa", sum := "515b5c97928e52a0b6a00923404ba6f90c563409577cff3246480c9d83d429f9", func := "loop.example/g00884/laws.FnArms", spec := "fnArms", unfollowed := true, recurses := true, apart := false }
def FnArmsSaid : Prop := fnArmsRow.holds Try.pinned (OpenSpec.ofChange fnArmsSpec)

/-- ITS FALSE NEIGHBOUR: 'it returns false'. Refute it at one input. -/
def fnArmsWrong : ChangeSpec := { name := "fnArms", fn := fun _ => fun
  | [d] => { results := [.lit (.bool false)], args := [d] }
  | _ => none }
def FnArmsWrongFalsely : Prop := fnArmsRow.holds Try.pinned (OpenSpec.ofChange fnArmsWrong)

/-- 'laws.FnArmsParts': WHATEVER THE INPUT: true; the input reads as it did. -/
def fnArmsPartsSpec : ChangeSpec := { name := "fnArmsParts", fn := fun _ => fun
  | [d] => { results := [.lit (.bool true)], args := [d] }
  | _ => none }
def fnArmsPartsRow : OpenClaim := { program := "ythacffbofjfcjaa", sum := "515b5c97928e52a0b6a00923404ba6f90c563409577cff3246480c9d83d429f9", func := "loop.example/g00884/laws.FnArmsParts", spec := "fnArmsParts", apart := false }
def FnArmsPartsSaid : Prop := fnArmsPartsRow.holds Try.pinned (OpenSpec.ofChange fnArmsPartsSpec)

/-- ITS FALSE NEIGHBOUR: 'it returns false'. Refute it at one input. -/
def fnArmsPartsWrong : ChangeSpec := { name := "fnArmsParts", fn := fun _ => fun
  | [d] => { results := [.lit (.bool false)], args := [d] }
  | _ => none }
def FnArmsPartsWrongFalsely : Prop := fnArmsPartsRow.holds Try.pinned (OpenSpec.ofChange fnArmsPartsWrong)

/-- 'laws.FnDifferences': WHATEVER THE INPUT: true; the input reads as it did. -/
def fnDifferencesSpec : ChangeSpec := { name := "fnDifferences", fn := fun _ => fun
  | [d] => { results := [.lit (.bool true)], args := [d] }
  | _ => none }
def fnDifferencesRow : OpenClaim := { program := "ythacffbofjfcjaa", sum := "515b5c97928e52a0b6a00923404ba6f90c563409577cff3246480c9d83d429f9", func := "loop.example/g00884/laws.FnDifferences", spec := "fnDifferences", unfollowed := true, recurses := true, apart := false }
def FnDifferencesSaid : Prop := fnDifferencesRow.holds Try.pinned (OpenSpec.ofChange fnDifferencesSpec)

/-- ITS FALSE NEIGHBOUR: 'it returns false'. Refute it at one input. -/
def fnDifferencesWrong : ChangeSpec := { name := "fnDifferences", fn := fun _ => fun
  | [d] => { results := [.lit (.bool false)], args := [d] }
  | _ => none }
def FnDifferencesWrongFalsely : Prop := fnDifferencesRow.holds Try.pinned (OpenSpec.ofChange fnDifferencesWrong)

/-- 'laws.FnWreaths': WHATEVER THE INPUT: true; the input reads as it did. -/
def fnWreathsSpec : ChangeSpec := { name := "fnWreaths", fn := fun _ => fun
  | [d] => { results := [.lit (.bool true)], args := [d] }
  | _ => none }
def fnWreathsRow : OpenClaim := { program := "ythacffbofjfcjaa", sum := "515b5c97928e52a0b6a00923404ba6f90c563409577cff3246480c9d83d429f9", func := "loop.example/g00884/laws.FnWreaths", spec := "fnWreaths", apart := false }
def FnWreathsSaid : Prop := fnWreathsRow.holds Try.pinned (OpenSpec.ofChange fnWreathsSpec)

/-- ITS FALSE NEIGHBOUR: 'it returns false'. Refute it at one input. -/
def fnWreathsWrong : ChangeSpec := { name := "fnWreaths", fn := fun _ => fun
  | [d] => { results := [.lit (.bool false)], args := [d] }
  | _ => none }
def FnWreathsWrongFalsely : Prop := fnWreathsRow.holds Try.pinned (OpenSpec.ofChange fnWreathsWrong)

/- THE SECOND FORM. 'bulk': how many values and letters a reading holds, each counted each time it is reached (what is shared counts as often as it is met; a slice's spare places count too). A statement '..UptoSaid' is the law's where the arguments, and the package variables that the reading takes, are together of bulk at most 1048576: NARROWER than '..Said'. Prove '..Said' where nothing that the law and all that it calls make is longer than what came in: it says more and counts as full. Else prove '..UptoSaid'. A law counts once. -/
mutual
def uptoBulk {H : Type} : DataW H → Nat
  | .lit (.string bytes) => bytes.length + 1
  | .lit _ => 1
  | .nil => 1
  | .ptr d => uptoBulk d + 1
  | .slice elems spare => uptoBulkAll elems + uptoBulkAll spare + 1
  | .agg parts => uptoBulkAll parts + 1
  | .iface _ d => uptoBulk d + 1
  | .map entries => uptoBulkEntries entries + 1
  | .held _ => 1
def uptoBulkAll {H : Type} : List (DataW H) → Nat
  | [] => 0
  | d :: r => uptoBulk d + uptoBulkAll r
def uptoBulkEntries {H : Type} : List (Lit × DataW H) → Nat
  | [] => 0
  | x :: r => uptoBulkEntry x + uptoBulkEntries r
def uptoBulkEntry {H : Type} : Lit × DataW H → Nat
  | (.string bytes, d) => bytes.length + uptoBulk d + 1
  | (_, d) => uptoBulk d + 1
 end
def uptoSmall : (H : Type) → List (DataW H) → Bool := fun _ ds => decide (uptoBulkAll ds ≤ 1048576)
def OpenSpec.upto (s : _root_.Go.ChangeSpec) : _root_.Go.OpenSpec := { _root_.Go.OpenSpec.ofChange s with cond := some uptoSmall }

/-- 'laws.FnShapes', WHERE WHAT IT READS IS OF BULK AT MOST 1048576: true; the input reads as it did. -/
def fnShapesUptoRow : OpenClaim := { program := "ythacffbofjfcjaa", sum := "515b5c97928e52a0b6a00923404ba6f90c563409577cff3246480c9d83d429f9", func := "loop.example/g00884/laws.FnShapes", spec := "fnShapes", apart := false, narrowed := true }
def FnShapesUptoSaid : Prop := fnShapesUptoRow.holds Try.pinned (OpenSpec.upto fnShapesSpec)

/-- 'laws.FnArms', WHERE WHAT IT READS IS OF BULK AT MOST 1048576: true; the input reads as it did. -/
def fnArmsUptoRow : OpenClaim := { program := "ythacffbofjfcjaa", sum := "515b5c97928e52a0b6a00923404ba6f90c563409577cff3246480c9d83d429f9", func := "loop.example/g00884/laws.FnArms", spec := "fnArms", unfollowed := true, recurses := true, apart := false, narrowed := true }
def FnArmsUptoSaid : Prop := fnArmsUptoRow.holds Try.pinned (OpenSpec.upto fnArmsSpec)

/-- 'laws.FnArmsParts', WHERE WHAT IT READS IS OF BULK AT MOST 1048576: true; the input reads as it did. -/
def fnArmsPartsUptoRow : OpenClaim := { program := "ythacffbofjfcjaa", sum := "515b5c97928e52a0b6a00923404ba6f90c563409577cff3246480c9d83d429f9", func := "loop.example/g00884/laws.FnArmsParts", spec := "fnArmsParts", apart := false, narrowed := true }
def FnArmsPartsUptoSaid : Prop := fnArmsPartsUptoRow.holds Try.pinned (OpenSpec.upto fnArmsPartsSpec)

/-- 'laws.FnDifferences', WHERE WHAT IT READS IS OF BULK AT MOST 1048576: true; the input reads as it did. -/
def fnDifferencesUptoRow : OpenClaim := { program := "ythacffbofjfcjaa", sum := "515b5c97928e52a0b6a00923404ba6f90c563409577cff3246480c9d83d429f9", func := "loop.example/g00884/laws.FnDifferences", spec := "fnDifferences", unfollowed := true, recurses := true, apart := false, narrowed := true }
def FnDifferencesUptoSaid : Prop := fnDifferencesUptoRow.holds Try.pinned (OpenSpec.upto fnDifferencesSpec)

/-- 'laws.FnWreaths', WHERE WHAT IT READS IS OF BULK AT MOST 1048576: true; the input reads as it did. -/
def fnWreathsUptoRow : OpenClaim := { program := "ythacffbofjfcjaa", sum := "515b5c97928e52a0b6a00923404ba6f90c563409577cff3246480c9d83d429f9", func := "loop.example/g00884/laws.FnWreaths", spec := "fnWreaths", apart := false, narrowed := true }
def FnWreathsUptoSaid : Prop := fnWreathsUptoRow.holds Try.pinned (OpenSpec.upto fnWreathsSpec)

end Rows
end Go.Proofs.Ythacffbofjfcjaa
