import Derived.Test.YtmpbmbioeeckeaaGreatDoorAmT
import Derived.Test.YtmpbmbioeeckeaaGreatDoorArm
set_option linter.unusedVariables false
set_option linter.unusedSimpArgs false
set_option maxRecDepth 100000
set_option maxHeartbeats 4000000
set_option cbv.maxSteps 3000000
namespace Go.Proofs.YtmpbmbioeeckeaaGreatDoor.AM
/- Rows of arms told by a function; conditions: none. -/
def arowH (H : Hold) (g : Nat → Arm) (j : Nat) : List AV := [.lit (.int .i64 (H Int fun _ => (g j).f.d)), .lit (.int .i64 (H Int fun _ => (g j).f.l)), .lit (.int .i64 (H Int fun _ => (g j).f.p)), .lit (.int .i64 (H Int fun _ => (g j).f.q)), .lit (.int .i64 (H Int fun _ => (g j).o)), .lit (.int .i64 (H Int fun _ => (g j).l)), .lit (.int .i64 (H Int fun _ => (g j).t)), .lit (.int .i64 (H Int fun _ => (g j).n.c)), .lit (.int .i64 (H Int fun _ => (g j).n.k)), .lit (.int .i64 (H Int fun _ => (g j).n.a)), .lit (.int .i64 (H Int fun _ => (g j).n.t)), .lit (.int .i64 (H Int fun _ => (g j).r.c)), .lit (.int .i64 (H Int fun _ => (g j).r.k)), .lit (.int .i64 (H Int fun _ => (g j).r.a)), .lit (.int .i64 (H Int fun _ => (g j).r.t))]
def arow (g : Nat → Arm) (j : Nat) : List AV := [.lit (.int .i64 (g j).f.d), .lit (.int .i64 (g j).f.l), .lit (.int .i64 (g j).f.p), .lit (.int .i64 (g j).f.q), .lit (.int .i64 (g j).o), .lit (.int .i64 (g j).l), .lit (.int .i64 (g j).t), .lit (.int .i64 (g j).n.c), .lit (.int .i64 (g j).n.k), .lit (.int .i64 (g j).n.a), .lit (.int .i64 (g j).n.t), .lit (.int .i64 (g j).r.c), .lit (.int .i64 (g j).r.k), .lit (.int .i64 (g j).r.a), .lit (.int .i64 (g j).r.t)]
theorem arowH_std (g : Nat → Arm) : arowH stdH g = arow g := rfl
def armOf : List AV → Arm
  | [.lit (.int _ a0), .lit (.int _ a1), .lit (.int _ a2), .lit (.int _ a3), .lit (.int _ a4), .lit (.int _ a5), .lit (.int _ a6), .lit (.int _ a7), .lit (.int _ a8), .lit (.int _ a9), .lit (.int _ a10), .lit (.int _ a11), .lit (.int _ a12), .lit (.int _ a13), .lit (.int _ a14)] => ⟨⟨a0, a1, a2, a3⟩, a4, a5, a6, ⟨a7, a8, a9, a10⟩, ⟨a11, a12, a13, a14⟩⟩
  | _ => zA
def armsOf (f : Nat → List AV) (j : Nat) : Arm := armOf (f j)
theorem armsOf_arow (g : Nat → Arm) (j : Nat) : armsOf (arow g) j = g j := rfl
theorem arow_bl (g : Nat → Arm) (n m : Nat) : Bl m (.vec 15 n (arow g)) := .vec fun j _ x hx => by
  simp only [arow, List.mem_cons, List.not_mem_nil, or_false] at hx
  rcases hx with rfl | rfl | rfl | rfl | rfl | rfl | rfl | rfl | rfl | rfl | rfl | rfl | rfl | rfl | rfl <;> exact .lit

end Go.Proofs.YtmpbmbioeeckeaaGreatDoor.AM
