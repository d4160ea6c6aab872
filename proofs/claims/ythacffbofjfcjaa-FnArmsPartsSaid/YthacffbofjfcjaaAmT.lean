/- The types that the program's functions use, as the machine knows them, told true; conditions: none. -/
import Derived.Test.YthacffbofjfcjaaAmB
import Derived.Test.YthacffbofjfcjaaProg
namespace Go.Proofs.Ythacffbofjfcjaa.AM
set_option maxRecDepth 100000
theorem tgood3 : TGood Try.prog 3 ⟨1, false, [.int .i64 0], [], 0, 8, .int .i64, false, false⟩ := ⟨by kernel_rfl, by kernel_rfl, by kernel_rfl, by kernel_rfl, by kernel_rfl, by simp, (by kernel_rfl : Try.prog.underlying 3 = some (.int (.i64)))⟩
theorem tgood4 : TGood Try.prog 4 ⟨1, false, [.bool false], [], 0, 1, .bool, false, false⟩ := ⟨by kernel_rfl, by kernel_rfl, by kernel_rfl, by kernel_rfl, by kernel_rfl, by simp, (by kernel_rfl : Try.prog.underlying 4 = some (.bool))⟩
theorem tgood9 : TGood Try.prog 9 ⟨1, false, [.string ByteArray.empty], [], 0, 16, .str, false, false⟩ := ⟨by kernel_rfl, by kernel_rfl, by kernel_rfl, by kernel_rfl, by kernel_rfl, by simp, (by kernel_rfl : Try.prog.underlying 9 = some (.string))⟩
theorem tgood2 : TGood Try.prog 2 ⟨1, false, [.int .i64 0], [], 0, 8, .int .i64, false, false⟩ := ⟨by kernel_rfl, by kernel_rfl, by kernel_rfl, by kernel_rfl, by kernel_rfl, by simp, (by kernel_rfl : Try.prog.underlying 2 = some (.int (.i64)))⟩
theorem tgood5 : TGood Try.prog 5 ⟨1, false, [.int .u8 0], [], 0, 1, .int .u8, false, false⟩ := ⟨by kernel_rfl, by kernel_rfl, by kernel_rfl, by kernel_rfl, by kernel_rfl, by simp, (by kernel_rfl : Try.prog.underlying 5 = some (.int (.u8)))⟩
theorem tgood12 : TGood Try.prog 12 ⟨1, false, [.int .u64 0], [], 0, 8, .int .u64, false, false⟩ := ⟨by kernel_rfl, by kernel_rfl, by kernel_rfl, by kernel_rfl, by kernel_rfl, by simp, (by kernel_rfl : Try.prog.underlying 12 = some (.int (.u64)))⟩
theorem tgood15 : TGood Try.prog 15 ⟨1, false, [.pointer none], [], 0, 8, .other, false, false⟩ := ⟨by kernel_rfl, by kernel_rfl, by kernel_rfl, by kernel_rfl, by kernel_rfl, by simp, trivial⟩
theorem tgood16 : TGood Try.prog 16 ⟨1, false, [.pointer none], [], 0, 8, .other, false, false⟩ := ⟨by kernel_rfl, by kernel_rfl, by kernel_rfl, by kernel_rfl, by kernel_rfl, by simp, trivial⟩
theorem tgood17 : TGood Try.prog 17 ⟨1, false, [.pointer none], [], 0, 8, .other, false, false⟩ := ⟨by kernel_rfl, by kernel_rfl, by kernel_rfl, by kernel_rfl, by kernel_rfl, by simp, trivial⟩
theorem tgood21 : TGood Try.prog 21 ⟨1, false, [.int .i32 0], [], 0, 4, .int .i32, false, false⟩ := ⟨by kernel_rfl, by kernel_rfl, by kernel_rfl, by kernel_rfl, by kernel_rfl, by simp, (by kernel_rfl : Try.prog.underlying 21 = some (.int (.i32)))⟩
theorem tgood22 : TGood Try.prog 22 ⟨1, false, [.slice none 0 0], [], 5, 24, .other, false, true⟩ := ⟨by kernel_rfl, by kernel_rfl, by kernel_rfl, by kernel_rfl, by kernel_rfl, fun _ => by kernel_rfl, trivial⟩
theorem tgood30 : TGood Try.prog 30 ⟨4, true, [.int .i64 0, .int .i64 0, .int .i64 0, .int .i64 0], [(0, 1), (1, 1), (2, 1), (3, 1)], 0, 32, .cells [.int, .int, .int, .int], true, false⟩ := ⟨by kernel_rfl, by kernel_rfl, by kernel_rfl, by kernel_rfl, by kernel_rfl, by simp, ⟨by kernel_rfl, by kernel_rfl, by kernel_rfl⟩⟩
theorem tgood31 : TGood Try.prog 31 ⟨4, true, [.int .i64 0, .int .i64 0, .int .i64 0, .int .i64 0], [(0, 1), (1, 1), (2, 1), (3, 1)], 0, 32, .cells [.int, .int, .int, .int], true, false⟩ := ⟨by kernel_rfl, by kernel_rfl, by kernel_rfl, by kernel_rfl, by kernel_rfl, by simp, ⟨by kernel_rfl, by kernel_rfl, by kernel_rfl⟩⟩
theorem tgood32 : TGood Try.prog 32 ⟨4, true, [.int .i64 0, .int .i64 0, .int .i64 0, .int .i64 0], [(0, 1), (1, 1), (2, 1), (3, 1)], 0, 32, .cells [.int, .int, .int, .int], true, false⟩ := ⟨by kernel_rfl, by kernel_rfl, by kernel_rfl, by kernel_rfl, by kernel_rfl, by simp, ⟨by kernel_rfl, by kernel_rfl, by kernel_rfl⟩⟩
theorem tgood33 : TGood Try.prog 33 ⟨4, true, [.int .i64 0, .int .i64 0, .int .i64 0, .int .i64 0], [(0, 1), (1, 1), (2, 1), (3, 1)], 0, 32, .cells [.int, .int, .int, .int], true, false⟩ := ⟨by kernel_rfl, by kernel_rfl, by kernel_rfl, by kernel_rfl, by kernel_rfl, by simp, ⟨by kernel_rfl, by kernel_rfl, by kernel_rfl⟩⟩
theorem tgood34 : TGood Try.prog 34 ⟨15, true, [.int .i64 0, .int .i64 0, .int .i64 0, .int .i64 0, .int .i64 0, .int .i64 0, .int .i64 0, .int .i64 0, .int .i64 0, .int .i64 0, .int .i64 0, .int .i64 0, .int .i64 0, .int .i64 0, .int .i64 0], [(0, 4), (4, 1), (5, 1), (6, 1), (7, 4), (11, 4)], 0, 120, .cells [.int, .int, .int, .int, .int, .int, .int, .int, .int, .int, .int, .int, .int, .int, .int], true, false⟩ := ⟨by kernel_rfl, by kernel_rfl, by kernel_rfl, by kernel_rfl, by kernel_rfl, by simp, ⟨by kernel_rfl, by kernel_rfl, by kernel_rfl⟩⟩
theorem tgood35 : TGood Try.prog 35 ⟨15, true, [.int .i64 0, .int .i64 0, .int .i64 0, .int .i64 0, .int .i64 0, .int .i64 0, .int .i64 0, .int .i64 0, .int .i64 0, .int .i64 0, .int .i64 0, .int .i64 0, .int .i64 0, .int .i64 0, .int .i64 0], [(0, 4), (4, 1), (5, 1), (6, 1), (7, 4), (11, 4)], 0, 120, .cells [.int, .int, .int, .int, .int, .int, .int, .int, .int, .int, .int, .int, .int, .int, .int], true, false⟩ := ⟨by kernel_rfl, by kernel_rfl, by kernel_rfl, by kernel_rfl, by kernel_rfl, by simp, ⟨by kernel_rfl, by kernel_rfl, by kernel_rfl⟩⟩
theorem tgood41 : TGood Try.prog 41 ⟨1, false, [.slice none 0 0], [], 3, 24, .other, false, true⟩ := ⟨by kernel_rfl, by kernel_rfl, by kernel_rfl, by kernel_rfl, by kernel_rfl, fun _ => by kernel_rfl, trivial⟩
theorem tgood53 : TGood Try.prog 53 ⟨1, false, [.slice none 0 0], [], 35, 24, .other, false, true⟩ := ⟨by kernel_rfl, by kernel_rfl, by kernel_rfl, by kernel_rfl, by kernel_rfl, fun _ => by kernel_rfl, trivial⟩
theorem tgood68 : TGood Try.prog 68 ⟨4, true, [.int .i64 0, .int .i64 0, .int .i64 0, .int .i64 0], [(0, 1), (1, 1), (2, 1), (3, 1)], 0, 32, .cells [.int, .int, .int, .int], true, false⟩ := ⟨by kernel_rfl, by kernel_rfl, by kernel_rfl, by kernel_rfl, by kernel_rfl, by simp, ⟨by kernel_rfl, by kernel_rfl, by kernel_rfl⟩⟩
theorem tgood69 : TGood Try.prog 69 ⟨4, true, [.int .i64 0, .int .i64 0, .int .i64 0, .int .i64 0], [(0, 1), (1, 1), (2, 1), (3, 1)], 0, 32, .cells [.int, .int, .int, .int], true, false⟩ := ⟨by kernel_rfl, by kernel_rfl, by kernel_rfl, by kernel_rfl, by kernel_rfl, by simp, ⟨by kernel_rfl, by kernel_rfl, by kernel_rfl⟩⟩
theorem tgood73 : TGood Try.prog 73 ⟨1, false, [.pointer none], [], 0, 8, .other, false, false⟩ := ⟨by kernel_rfl, by kernel_rfl, by kernel_rfl, by kernel_rfl, by kernel_rfl, by simp, trivial⟩
theorem tgood74 : TGood Try.prog 74 ⟨1, false, [.int .u64 0], [], 0, 8, .int .u64, false, false⟩ := ⟨by kernel_rfl, by kernel_rfl, by kernel_rfl, by kernel_rfl, by kernel_rfl, by simp, (by kernel_rfl : Try.prog.underlying 74 = some (.int (.u64)))⟩
theorem tgood75 : TGood Try.prog 75 ⟨3, true, [.slice none 0 0, .int .i64 0, .int .u64 0], [(0, 1), (1, 1), (2, 1)], 0, 40, .other, true, false⟩ := ⟨by kernel_rfl, by kernel_rfl, by kernel_rfl, by kernel_rfl, by kernel_rfl, by simp, trivial⟩
theorem tgood76 : TGood Try.prog 76 ⟨3, true, [.slice none 0 0, .int .i64 0, .int .u64 0], [(0, 1), (1, 1), (2, 1)], 0, 40, .other, true, false⟩ := ⟨by kernel_rfl, by kernel_rfl, by kernel_rfl, by kernel_rfl, by kernel_rfl, by simp, trivial⟩
theorem tgood105 : TGood Try.prog 105 ⟨1, false, [.slice none 0 0], [], 9, 24, .other, false, true⟩ := ⟨by kernel_rfl, by kernel_rfl, by kernel_rfl, by kernel_rfl, by kernel_rfl, fun _ => by kernel_rfl, trivial⟩
theorem tgood108 : TGood Try.prog 108 ⟨1, false, [.pointer none], [], 0, 8, .other, false, false⟩ := ⟨by kernel_rfl, by kernel_rfl, by kernel_rfl, by kernel_rfl, by kernel_rfl, by simp, trivial⟩
theorem tgood109 : TGood Try.prog 109 ⟨1, false, [.slice none 0 0], [], 108, 24, .other, false, true⟩ := ⟨by kernel_rfl, by kernel_rfl, by kernel_rfl, by kernel_rfl, by kernel_rfl, fun _ => by kernel_rfl, trivial⟩
theorem tgood116 : TGood Try.prog 116 ⟨1, false, [.int .u64 0], [], 0, 8, .int .u64, false, false⟩ := ⟨by kernel_rfl, by kernel_rfl, by kernel_rfl, by kernel_rfl, by kernel_rfl, by simp, (by kernel_rfl : Try.prog.underlying 116 = some (.int (.u64)))⟩
theorem tgood124 : TGood Try.prog 124 ⟨1, false, [.int .u32 0], [], 0, 4, .int .u32, false, false⟩ := ⟨by kernel_rfl, by kernel_rfl, by kernel_rfl, by kernel_rfl, by kernel_rfl, by simp, (by kernel_rfl : Try.prog.underlying 124 = some (.int (.u32)))⟩
theorem tgood128 : TGood Try.prog 128 ⟨1, false, [.pointer none], [], 0, 8, .other, false, false⟩ := ⟨by kernel_rfl, by kernel_rfl, by kernel_rfl, by kernel_rfl, by kernel_rfl, by simp, trivial⟩
def tabL : List (Nat × TI) := [(3, ⟨1, false, [.int .i64 0], [], 0, 8, .int .i64, false, false⟩),
  (4, ⟨1, false, [.bool false], [], 0, 1, .bool, false, false⟩),
  (9, ⟨1, false, [.string ByteArray.empty], [], 0, 16, .str, false, false⟩),
  (2, ⟨1, false, [.int .i64 0], [], 0, 8, .int .i64, false, false⟩),
  (5, ⟨1, false, [.int .u8 0], [], 0, 1, .int .u8, false, false⟩),
  (12, ⟨1, false, [.int .u64 0], [], 0, 8, .int .u64, false, false⟩),
  (15, ⟨1, false, [.pointer none], [], 0, 8, .other, false, false⟩),
  (16, ⟨1, false, [.pointer none], [], 0, 8, .other, false, false⟩),
  (17, ⟨1, false, [.pointer none], [], 0, 8, .other, false, false⟩),
  (21, ⟨1, false, [.int .i32 0], [], 0, 4, .int .i32, false, false⟩),
  (22, ⟨1, false, [.slice none 0 0], [], 5, 24, .other, false, true⟩),
  (30, ⟨4, true, [.int .i64 0, .int .i64 0, .int .i64 0, .int .i64 0], [(0, 1), (1, 1), (2, 1), (3, 1)], 0, 32, .cells [.int, .int, .int, .int], true, false⟩),
  (31, ⟨4, true, [.int .i64 0, .int .i64 0, .int .i64 0, .int .i64 0], [(0, 1), (1, 1), (2, 1), (3, 1)], 0, 32, .cells [.int, .int, .int, .int], true, false⟩),
  (32, ⟨4, true, [.int .i64 0, .int .i64 0, .int .i64 0, .int .i64 0], [(0, 1), (1, 1), (2, 1), (3, 1)], 0, 32, .cells [.int, .int, .int, .int], true, false⟩),
  (33, ⟨4, true, [.int .i64 0, .int .i64 0, .int .i64 0, .int .i64 0], [(0, 1), (1, 1), (2, 1), (3, 1)], 0, 32, .cells [.int, .int, .int, .int], true, false⟩),
  (34, ⟨15, true, [.int .i64 0, .int .i64 0, .int .i64 0, .int .i64 0, .int .i64 0, .int .i64 0, .int .i64 0, .int .i64 0, .int .i64 0, .int .i64 0, .int .i64 0, .int .i64 0, .int .i64 0, .int .i64 0, .int .i64 0], [(0, 4), (4, 1), (5, 1), (6, 1), (7, 4), (11, 4)], 0, 120, .cells [.int, .int, .int, .int, .int, .int, .int, .int, .int, .int, .int, .int, .int, .int, .int], true, false⟩),
  (35, ⟨15, true, [.int .i64 0, .int .i64 0, .int .i64 0, .int .i64 0, .int .i64 0, .int .i64 0, .int .i64 0, .int .i64 0, .int .i64 0, .int .i64 0, .int .i64 0, .int .i64 0, .int .i64 0, .int .i64 0, .int .i64 0], [(0, 4), (4, 1), (5, 1), (6, 1), (7, 4), (11, 4)], 0, 120, .cells [.int, .int, .int, .int, .int, .int, .int, .int, .int, .int, .int, .int, .int, .int, .int], true, false⟩),
  (41, ⟨1, false, [.slice none 0 0], [], 3, 24, .other, false, true⟩),
  (53, ⟨1, false, [.slice none 0 0], [], 35, 24, .other, false, true⟩),
  (68, ⟨4, true, [.int .i64 0, .int .i64 0, .int .i64 0, .int .i64 0], [(0, 1), (1, 1), (2, 1), (3, 1)], 0, 32, .cells [.int, .int, .int, .int], true, false⟩),
  (69, ⟨4, true, [.int .i64 0, .int .i64 0, .int .i64 0, .int .i64 0], [(0, 1), (1, 1), (2, 1), (3, 1)], 0, 32, .cells [.int, .int, .int, .int], true, false⟩),
  (73, ⟨1, false, [.pointer none], [], 0, 8, .other, false, false⟩),
  (74, ⟨1, false, [.int .u64 0], [], 0, 8, .int .u64, false, false⟩),
  (75, ⟨3, true, [.slice none 0 0, .int .i64 0, .int .u64 0], [(0, 1), (1, 1), (2, 1)], 0, 40, .other, true, false⟩),
  (76, ⟨3, true, [.slice none 0 0, .int .i64 0, .int .u64 0], [(0, 1), (1, 1), (2, 1)], 0, 40, .other, true, false⟩),
  (105, ⟨1, false, [.slice none 0 0], [], 9, 24, .other, false, true⟩),
  (108, ⟨1, false, [.pointer none], [], 0, 8, .other, false, false⟩),
  (109, ⟨1, false, [.slice none 0 0], [], 108, 24, .other, false, true⟩),
  (116, ⟨1, false, [.int .u64 0], [], 0, 8, .int .u64, false, false⟩),
  (124, ⟨1, false, [.int .u32 0], [], 0, 4, .int .u32, false, false⟩),
  (128, ⟨1, false, [.pointer none], [], 0, 8, .other, false, false⟩)]
def tab : Tab := ⟨tabL, false⟩
/-- The same, loops walked round by round. -/
def tabU : Tab := ⟨tabL, true⟩
theorem TabOk.nil {P : Program} {u : Bool} : TabOk P ⟨[], u⟩ := fun T i h => by simp [lk] at h
theorem TabOk.cons {P : Program} {T : Nat} {i : TI} {l : List (Nat × TI)} {u : Bool} (h : TGood P T i) (r : TabOk P ⟨l, u⟩) : TabOk P ⟨(T, i) :: l, u⟩ := fun U j e => by
  rw [lk_cons] at e
  by_cases h0 : T = U
  · rw [if_pos h0] at e; injection e with e; subst e; subst h0; exact h
  · rw [if_neg h0] at e; exact r U j e
theorem tabOk : TabOk Try.prog tab := .cons tgood3 <| .cons tgood4 <| .cons tgood9 <| .cons tgood2 <| .cons tgood5 <| .cons tgood12 <| .cons tgood15 <| .cons tgood16 <| .cons tgood17 <| .cons tgood21 <| .cons tgood22 <| .cons tgood30 <| .cons tgood31 <| .cons tgood32 <| .cons tgood33 <| .cons tgood34 <| .cons tgood35 <| .cons tgood41 <| .cons tgood53 <| .cons tgood68 <| .cons tgood69 <| .cons tgood73 <| .cons tgood74 <| .cons tgood75 <| .cons tgood76 <| .cons tgood105 <| .cons tgood108 <| .cons tgood109 <| .cons tgood116 <| .cons tgood124 <| .cons tgood128 <| .nil
theorem tabOkU : TabOk Try.prog tabU := tabOk
theorem mixed : Try.prog.follows .mixedOrders = true := by kernel_rfl
end Go.Proofs.Ythacffbofjfcjaa.AM
