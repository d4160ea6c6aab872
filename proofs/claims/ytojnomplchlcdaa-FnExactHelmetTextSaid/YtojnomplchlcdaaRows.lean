/-
  No cell of these rows narrows 'for every input' (looked for: loops, veiled, ifaces, maps, wideKeys, modest, calm, conditions, laid).
  DERIVED. THE GIVEN ROWS OF THIS SEAT. 5 by the template 'for every input the law returns true; each argument reads behind the call as it read before'; 0 by the template 'total and deterministic' (their statements: YtojnomplchlcdaaTotals.lean).
  GIVEN WITH THE SEED: the statements are not yours to turn. If you find one false, say at which input.
  Laid BY PROGRAM, IN A SANDBOX (cutbox-rows.mjs): the forced cells as the released guide's own fill.sh prints them over the translation 0bdd55b3a405dc18… (all of the seat's roots in one cut). By AI agents, Wed Nov 11 2026. No macro, syntax, notation, axiom, sorry.
-/
import Derived.Test.YtojnomplchlcdaaChecked
import GoSem.Claim
import GoSem.ClaimJoined
import GoSem.ClaimMapViews
import Derived.JoinedTies
import Derived.KernelRfl
namespace Go.Proofs.Ytojnomplchlcdaa
/- THE CELL 'sum', in the pinned program and in every row, IS THE sha256 OF THE DUMP (.gsa) THAT YtojnomplchlcdaaProg.lean LOADS. Nothing in Lean hashes anything: it is a label: what it is worth is what the hold of that sum in a sandbox is worth. -/
noncomputable def Try.pinned : Pinned := { name := "ytojnomplchlcdaa", sum := "0bdd55b3a405dc185143fe2f6759f2aca4e15a4824818320647f7eeb1fbf979b", checked := Try.checked }
namespace Rows
def none {H : Type} : Left H := { results := [], args := [] }

/-- 'laws.FnExactRankWord': WHATEVER THE INPUT: true; the input reads as it did. -/
def fnExactRankWordSpec : ChangeSpec := { name := "fnExactRankWord", fn := fun _ => fun
  | [d] => { results := [.lit (.bool true)], args := [d] }
  | _ => none }
def fnExactRankWordRow : OpenClaim := { program := "ytojnomplchlcdaa", sum := "0bdd55b3a405dc185143fe2f6759f2aca4e15a4824818320647f7eeb1fbf979b", func := "loop.example/g00884/laws.FnExactRankWord", spec := "fnExactRankWord", apart := false }
def FnExactRankWordSaid : Prop := fnExactRankWordRow.holds Try.pinned (OpenSpec.ofChange fnExactRankWordSpec)

/-- ITS FALSE NEIGHBOUR: 'it returns false'. Refute it at one input. -/
def fnExactRankWordWrong : ChangeSpec := { name := "fnExactRankWord", fn := fun _ => fun
  | [d] => { results := [.lit (.bool false)], args := [d] }
  | _ => none }
def FnExactRankWordWrongFalsely : Prop := fnExactRankWordRow.holds Try.pinned (OpenSpec.ofChange fnExactRankWordWrong)

/-- 'laws.FnExactHelmetText': WHATEVER THE INPUT: true; the input reads as it did. -/
def fnExactHelmetTextSpec : ChangeSpec := { name := "fnExactHelmetText", fn := fun _ => fun
  | [d] => { results := [.lit (.bool true)], args := [d] }
  | _ => none }
def fnExactHelmetTextRow : OpenClaim := { program := "ytojnomplchlcdaa", sum := "0bdd55b3a405dc185143fe2f6759f2aca4e15a4824818320647f7eeb1fbf979b", func := "loop.example/g00884/laws.FnExactHelmetText", spec := "fnExactHelmetText", apart := false }
def FnExactHelmetTextSaid : Prop := fnExactHelmetTextRow.holds Try.pinned (OpenSpec.ofChange fnExactHelmetTextSpec)

/-- ITS FALSE NEIGHBOUR: 'it returns false'. Refute it at one input. -/
def fnExactHelmetTextWrong : ChangeSpec := { name := "fnExactHelmetText", fn := fun _ => fun
  | [d] => { results := [.lit (.bool false)], args := [d] }
  | _ => none }
def FnExactHelmetTextWrongFalsely : Prop := fnExactHelmetTextRow.holds Try.pinned (OpenSpec.ofChange fnExactHelmetTextWrong)

/-- 'laws.FnExactGridOf': WHATEVER THE INPUT: true; the input reads as it did. -/
def fnExactGridOfSpec : ChangeSpec := { name := "fnExactGridOf", fn := fun _ => fun
  | [d] => { results := [.lit (.bool true)], args := [d] }
  | _ => none }
def fnExactGridOfRow : OpenClaim := { program := "ytojnomplchlcdaa", sum := "0bdd55b3a405dc185143fe2f6759f2aca4e15a4824818320647f7eeb1fbf979b", func := "loop.example/g00884/laws.FnExactGridOf", spec := "fnExactGridOf", apart := false }
def FnExactGridOfSaid : Prop := fnExactGridOfRow.holds Try.pinned (OpenSpec.ofChange fnExactGridOfSpec)

/-- ITS FALSE NEIGHBOUR: 'it returns false'. Refute it at one input. -/
def fnExactGridOfWrong : ChangeSpec := { name := "fnExactGridOf", fn := fun _ => fun
  | [d] => { results := [.lit (.bool false)], args := [d] }
  | _ => none }
def FnExactGridOfWrongFalsely : Prop := fnExactGridOfRow.holds Try.pinned (OpenSpec.ofChange fnExactGridOfWrong)

/-- 'laws.FnExactIsValidCrest': WHATEVER THE INPUT: true; the input reads as it did. -/
def fnExactIsValidCrestSpec : ChangeSpec := { name := "fnExactIsValidCrest", fn := fun _ => fun
  | [d] => { results := [.lit (.bool true)], args := [d] }
  | _ => none }
def fnExactIsValidCrestRow : OpenClaim := { program := "ytojnomplchlcdaa", sum := "0bdd55b3a405dc185143fe2f6759f2aca4e15a4824818320647f7eeb1fbf979b", func := "loop.example/g00884/laws.FnExactIsValidCrest", spec := "fnExactIsValidCrest", apart := false }
def FnExactIsValidCrestSaid : Prop := fnExactIsValidCrestRow.holds Try.pinned (OpenSpec.ofChange fnExactIsValidCrestSpec)

/-- ITS FALSE NEIGHBOUR: 'it returns false'. Refute it at one input. -/
def fnExactIsValidCrestWrong : ChangeSpec := { name := "fnExactIsValidCrest", fn := fun _ => fun
  | [d] => { results := [.lit (.bool false)], args := [d] }
  | _ => none }
def FnExactIsValidCrestWrongFalsely : Prop := fnExactIsValidCrestRow.holds Try.pinned (OpenSpec.ofChange fnExactIsValidCrestWrong)

/-- 'laws.FnExactRaiseRank': WHATEVER THE INPUT: true; the input reads as it did. -/
def fnExactRaiseRankSpec : ChangeSpec := { name := "fnExactRaiseRank", fn := fun _ => fun
  | [d1, d2] => { results := [.lit (.bool true)], args := [d1, d2] }
  | _ => none }
def fnExactRaiseRankRow : OpenClaim := { program := "ytojnomplchlcdaa", sum := "0bdd55b3a405dc185143fe2f6759f2aca4e15a4824818320647f7eeb1fbf979b", func := "loop.example/g00884/laws.FnExactRaiseRank", spec := "fnExactRaiseRank", apart := false }
def FnExactRaiseRankSaid : Prop := fnExactRaiseRankRow.holds Try.pinned (OpenSpec.ofChange fnExactRaiseRankSpec)

/-- ITS FALSE NEIGHBOUR: 'it returns false'. Refute it at one input. -/
def fnExactRaiseRankWrong : ChangeSpec := { name := "fnExactRaiseRank", fn := fun _ => fun
  | [d1, d2] => { results := [.lit (.bool false)], args := [d1, d2] }
  | _ => none }
def FnExactRaiseRankWrongFalsely : Prop := fnExactRaiseRankRow.holds Try.pinned (OpenSpec.ofChange fnExactRaiseRankWrong)

/- THE SECOND FORM. 'bulk': how many values and letters a reading holds, each counted each time it is reached (what is shared counts as often as it is met; a slice's spare places count too). A statement '..UptoSaid' is the law's where the arguments, and the package variables that the reading takes, are together of bulk at most 1048576: NARROWER than '..Said'. Prove '..Said' where nothing that the law and all that it calls make is longer than what came in: it says more and counts as full. Else prove '..UptoSaid'. A law counts once. -/
mutual
def uptoBulk {H : Type} : DataW H → Nat
  | .lit (.string bytes) => bytes.length + 1
  | .lit _ => 1
  | .nil => 1
  | .ptr d => uptoBulk d + 1
  | .slice elems spare => uptoBulkAll elems + uptoBulkAll spare + 1
  | .agg parts => uptoBulkAll parts + 1
  | .iface _ d => uptoBulk d + 1
  | .map entries => uptoBulkEntries entries + 1
  | .held _ => 1
def uptoBulkAll {H : Type} : List (DataW H) → Nat
  | [] => 0
  | d :: r => uptoBulk d + uptoBulkAll r
def uptoBulkEntries {H : Type} : List (Lit × DataW H) → Nat
  | [] => 0
  | x :: r => uptoBulkEntry x + uptoBulkEntries r
def uptoBulkEntry {H : Type} : Lit × DataW H → Nat
  | (.string bytes, d) => bytes.length + uptoBulk d + 1
  | (_, d) => uptoBulk d + 1
 end
def uptoSmall : (H : Type) → List (DataW H) → Bool := fun _ ds => decide (uptoBulkAll ds ≤ 1048576)
def OpenSpec.upto (s : _root_.Go.ChangeSpec) : _root_.Go.OpenSpec := { _root_.Go.OpenSpec.ofChange s with cond := some uptoSmall }

/-- 'laws.FnExactRankWord', WHERE WHAT IT READS IS OF BULK AT MOST 1048576: true; the input reads as it did. -/
def fnExactRankWordUptoRow : OpenClaim := { program := "ytojnomplchlcdaa", sum := "0bdd55b3a405dc185143fe2f6759f2aca4e15a4824818320647f7eeb1fbf979b", func := "loop.example/g00884/laws.FnExactRankWord", spec := "fnExactRankWord", apart := false, narrowed := true }
def FnExactRankWordUptoSaid : Prop := fnExactRankWordUptoRow.holds Try.pinned (OpenSpec.upto fnExactRankWordSpec)

/-- 'laws.FnExactHelmetText', WHERE WHAT IT READS IS OF BULK AT MOST 1048576: true; the input reads as it did. -/
def fnExactHelmetTextUptoRow : OpenClaim := { program := "ytojnomplchlcdaa", sum := "0bdd55b3a405dc185143fe2f6759f2aca4e15a4824818320647f7eeb1fbf979b", func := "loop.example/g00884/laws.FnExactHelmetText", spec := "fnExactHelmetText", apart := false, narrowed := true }
def FnExactHelmetTextUptoSaid : Prop := fnExactHelmetTextUptoRow.holds Try.pinned (OpenSpec.upto fnExactHelmetTextSpec)

/-- 'laws.FnExactGridOf', WHERE WHAT IT READS IS OF BULK AT MOST 1048576: true; the input reads as it did. -/
def fnExactGridOfUptoRow : OpenClaim := { program := "ytojnomplchlcdaa", sum := "0bdd55b3a405dc185143fe2f6759f2aca4e15a4824818320647f7eeb1fbf979b", func := "loop.example/g00884/laws.FnExactGridOf", spec := "fnExactGridOf", apart := false, narrowed := true }
def FnExactGridOfUptoSaid : Prop := fnExactGridOfUptoRow.holds Try.pinned (OpenSpec.upto fnExactGridOfSpec)

/-- 'laws.FnExactIsValidCrest', WHERE WHAT IT READS IS OF BULK AT MOST 1048576: true; the input reads as it did. -/
def fnExactIsValidCrestUptoRow : OpenClaim := { program := "ytojnomplchlcdaa", sum := "0bdd55b3a405dc185143fe2f6759f2aca4e15a4824818320647f7eeb1fbf979b", func := "loop.example/g00884/laws.FnExactIsValidCrest", spec := "fnExactIsValidCrest", apart := false, narrowed := true }
def FnExactIsValidCrestUptoSaid : Prop := fnExactIsValidCrestUptoRow.holds Try.pinned (OpenSpec.upto fnExactIsValidCrestSpec)

/-- 'laws.FnExactRaiseRank', WHERE WHAT IT READS IS OF BULK AT MOST 1048576: true; the input reads as it did. -/
def fnExactRaiseRankUptoRow : OpenClaim := { program := "ytojnomplchlcdaa", sum := "0bdd55b3a405dc185143fe2f6759f2aca4e15a4824818320647f7eeb1fbf979b", func := "loop.example/g00884/laws.FnExactRaiseRank", spec := "fnExactRaiseRank", apart := false, narrowed := true }
def FnExactRaiseRankUptoSaid : Prop := fnExactRaiseRankUptoRow.holds Try.pinned (OpenSpec.upto fnExactRaiseRankSpec)

end Rows
end Go.Proofs.Ytojnomplchlcdaa
