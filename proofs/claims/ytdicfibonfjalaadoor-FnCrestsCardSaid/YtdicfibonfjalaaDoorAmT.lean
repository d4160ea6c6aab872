/- The types that the program's functions use, as the machine knows them, told true; conditions: none. -/
import Derived.Test.YtdicfibonfjalaaDoorAmB
import Derived.Test.YtdicfibonfjalaaDoorProg
namespace Go.Proofs.YtdicfibonfjalaaDoor.AM
set_option maxRecDepth 100000
theorem tgood3 : TGood Tryd.prog 3 ⟨1, false, [.int .i64 0], [], 0, 8, .int .i64, false, false⟩ := ⟨by kernel_rfl, by kernel_rfl, by kernel_rfl, by kernel_rfl, by kernel_rfl, by simp, (by kernel_rfl : Tryd.prog.underlying 3 = some (.int (.i64)))⟩
theorem tgood4 : TGood Tryd.prog 4 ⟨1, false, [.bool false], [], 0, 1, .bool, false, false⟩ := ⟨by kernel_rfl, by kernel_rfl, by kernel_rfl, by kernel_rfl, by kernel_rfl, by simp, (by kernel_rfl : Tryd.prog.underlying 4 = some (.bool))⟩
theorem tgood9 : TGood Tryd.prog 9 ⟨1, false, [.string ByteArray.empty], [], 0, 16, .str, false, false⟩ := ⟨by kernel_rfl, by kernel_rfl, by kernel_rfl, by kernel_rfl, by kernel_rfl, by simp, (by kernel_rfl : Tryd.prog.underlying 9 = some (.string))⟩
theorem tgood2 : TGood Tryd.prog 2 ⟨1, false, [.int .i64 0], [], 0, 8, .int .i64, false, false⟩ := ⟨by kernel_rfl, by kernel_rfl, by kernel_rfl, by kernel_rfl, by kernel_rfl, by simp, (by kernel_rfl : Tryd.prog.underlying 2 = some (.int (.i64)))⟩
theorem tgood5 : TGood Tryd.prog 5 ⟨1, false, [.int .u8 0], [], 0, 1, .int .u8, false, false⟩ := ⟨by kernel_rfl, by kernel_rfl, by kernel_rfl, by kernel_rfl, by kernel_rfl, by simp, (by kernel_rfl : Tryd.prog.underlying 5 = some (.int (.u8)))⟩
theorem tgood12 : TGood Tryd.prog 12 ⟨1, false, [.int .u64 0], [], 0, 8, .int .u64, false, false⟩ := ⟨by kernel_rfl, by kernel_rfl, by kernel_rfl, by kernel_rfl, by kernel_rfl, by simp, (by kernel_rfl : Tryd.prog.underlying 12 = some (.int (.u64)))⟩
theorem tgood15 : TGood Tryd.prog 15 ⟨1, false, [.pointer none], [], 0, 8, .other, false, false⟩ := ⟨by kernel_rfl, by kernel_rfl, by kernel_rfl, by kernel_rfl, by kernel_rfl, by simp, trivial⟩
theorem tgood16 : TGood Tryd.prog 16 ⟨1, false, [.pointer none], [], 0, 8, .other, false, false⟩ := ⟨by kernel_rfl, by kernel_rfl, by kernel_rfl, by kernel_rfl, by kernel_rfl, by simp, trivial⟩
theorem tgood17 : TGood Tryd.prog 17 ⟨1, false, [.pointer none], [], 0, 8, .other, false, false⟩ := ⟨by kernel_rfl, by kernel_rfl, by kernel_rfl, by kernel_rfl, by kernel_rfl, by simp, trivial⟩
theorem tgood21 : TGood Tryd.prog 21 ⟨1, false, [.int .i32 0], [], 0, 4, .int .i32, false, false⟩ := ⟨by kernel_rfl, by kernel_rfl, by kernel_rfl, by kernel_rfl, by kernel_rfl, by simp, (by kernel_rfl : Tryd.prog.underlying 21 = some (.int (.i32)))⟩
theorem tgood22 : TGood Tryd.prog 22 ⟨1, false, [.slice none 0 0], [], 5, 24, .other, false, true⟩ := ⟨by kernel_rfl, by kernel_rfl, by kernel_rfl, by kernel_rfl, by kernel_rfl, fun _ => by kernel_rfl, trivial⟩
theorem tgood24 : TGood Tryd.prog 24 ⟨4, true, [.int .i64 0, .int .i64 0, .int .i64 0, .int .i64 0], [(0, 1), (1, 1), (2, 1), (3, 1)], 0, 32, .cells [.int, .int, .int, .int], true, false⟩ := ⟨by kernel_rfl, by kernel_rfl, by kernel_rfl, by kernel_rfl, by kernel_rfl, by simp, ⟨by kernel_rfl, by kernel_rfl, by kernel_rfl⟩⟩
theorem tgood25 : TGood Tryd.prog 25 ⟨4, true, [.int .i64 0, .int .i64 0, .int .i64 0, .int .i64 0], [(0, 1), (1, 1), (2, 1), (3, 1)], 0, 32, .cells [.int, .int, .int, .int], true, false⟩ := ⟨by kernel_rfl, by kernel_rfl, by kernel_rfl, by kernel_rfl, by kernel_rfl, by simp, ⟨by kernel_rfl, by kernel_rfl, by kernel_rfl⟩⟩
theorem tgood33 : TGood Tryd.prog 33 ⟨1, false, [.slice none 0 0], [], 3, 24, .other, false, true⟩ := ⟨by kernel_rfl, by kernel_rfl, by kernel_rfl, by kernel_rfl, by kernel_rfl, fun _ => by kernel_rfl, trivial⟩
theorem tgood39 : TGood Tryd.prog 39 ⟨4, true, [.int .i64 0, .int .i64 0, .int .i64 0, .int .i64 0], [(0, 1), (1, 1), (2, 1), (3, 1)], 0, 32, .cells [.int, .int, .int, .int], true, false⟩ := ⟨by kernel_rfl, by kernel_rfl, by kernel_rfl, by kernel_rfl, by kernel_rfl, by simp, ⟨by kernel_rfl, by kernel_rfl, by kernel_rfl⟩⟩
theorem tgood40 : TGood Tryd.prog 40 ⟨4, true, [.int .i64 0, .int .i64 0, .int .i64 0, .int .i64 0], [(0, 1), (1, 1), (2, 1), (3, 1)], 0, 32, .cells [.int, .int, .int, .int], true, false⟩ := ⟨by kernel_rfl, by kernel_rfl, by kernel_rfl, by kernel_rfl, by kernel_rfl, by simp, ⟨by kernel_rfl, by kernel_rfl, by kernel_rfl⟩⟩
theorem tgood53 : TGood Tryd.prog 53 ⟨4, true, [.int .i64 0, .int .i64 0, .int .i64 0, .int .i64 0], [(0, 1), (1, 1), (2, 1), (3, 1)], 0, 32, .cells [.int, .int, .int, .int], true, false⟩ := ⟨by kernel_rfl, by kernel_rfl, by kernel_rfl, by kernel_rfl, by kernel_rfl, by simp, ⟨by kernel_rfl, by kernel_rfl, by kernel_rfl⟩⟩
theorem tgood54 : TGood Tryd.prog 54 ⟨4, true, [.int .i64 0, .int .i64 0, .int .i64 0, .int .i64 0], [(0, 1), (1, 1), (2, 1), (3, 1)], 0, 32, .cells [.int, .int, .int, .int], true, false⟩ := ⟨by kernel_rfl, by kernel_rfl, by kernel_rfl, by kernel_rfl, by kernel_rfl, by simp, ⟨by kernel_rfl, by kernel_rfl, by kernel_rfl⟩⟩
theorem tgood55 : TGood Tryd.prog 55 ⟨15, true, [.int .i64 0, .int .i64 0, .int .i64 0, .int .i64 0, .int .i64 0, .int .i64 0, .int .i64 0, .int .i64 0, .int .i64 0, .int .i64 0, .int .i64 0, .int .i64 0, .int .i64 0, .int .i64 0, .int .i64 0], [(0, 4), (4, 1), (5, 1), (6, 1), (7, 4), (11, 4)], 0, 120, .cells [.int, .int, .int, .int, .int, .int, .int, .int, .int, .int, .int, .int, .int, .int, .int], true, false⟩ := ⟨by kernel_rfl, by kernel_rfl, by kernel_rfl, by kernel_rfl, by kernel_rfl, by simp, ⟨by kernel_rfl, by kernel_rfl, by kernel_rfl⟩⟩
theorem tgood56 : TGood Tryd.prog 56 ⟨15, true, [.int .i64 0, .int .i64 0, .int .i64 0, .int .i64 0, .int .i64 0, .int .i64 0, .int .i64 0, .int .i64 0, .int .i64 0, .int .i64 0, .int .i64 0, .int .i64 0, .int .i64 0, .int .i64 0, .int .i64 0], [(0, 4), (4, 1), (5, 1), (6, 1), (7, 4), (11, 4)], 0, 120, .cells [.int, .int, .int, .int, .int, .int, .int, .int, .int, .int, .int, .int, .int, .int, .int], true, false⟩ := ⟨by kernel_rfl, by kernel_rfl, by kernel_rfl, by kernel_rfl, by kernel_rfl, by simp, ⟨by kernel_rfl, by kernel_rfl, by kernel_rfl⟩⟩
theorem tgood62 : TGood Tryd.prog 62 ⟨1, false, [.slice none 0 0], [], 9, 24, .other, false, true⟩ := ⟨by kernel_rfl, by kernel_rfl, by kernel_rfl, by kernel_rfl, by kernel_rfl, fun _ => by kernel_rfl, trivial⟩
theorem tgood71 : TGood Tryd.prog 71 ⟨1, false, [.pointer none], [], 0, 8, .other, false, false⟩ := ⟨by kernel_rfl, by kernel_rfl, by kernel_rfl, by kernel_rfl, by kernel_rfl, by simp, trivial⟩
theorem tgood72 : TGood Tryd.prog 72 ⟨1, false, [.int .u64 0], [], 0, 8, .int .u64, false, false⟩ := ⟨by kernel_rfl, by kernel_rfl, by kernel_rfl, by kernel_rfl, by kernel_rfl, by simp, (by kernel_rfl : Tryd.prog.underlying 72 = some (.int (.u64)))⟩
theorem tgood73 : TGood Tryd.prog 73 ⟨3, true, [.slice none 0 0, .int .i64 0, .int .u64 0], [(0, 1), (1, 1), (2, 1)], 0, 40, .other, true, false⟩ := ⟨by kernel_rfl, by kernel_rfl, by kernel_rfl, by kernel_rfl, by kernel_rfl, by simp, trivial⟩
theorem tgood74 : TGood Tryd.prog 74 ⟨3, true, [.slice none 0 0, .int .i64 0, .int .u64 0], [(0, 1), (1, 1), (2, 1)], 0, 40, .other, true, false⟩ := ⟨by kernel_rfl, by kernel_rfl, by kernel_rfl, by kernel_rfl, by kernel_rfl, by simp, trivial⟩
theorem tgood88 : TGood Tryd.prog 88 ⟨5, true, [.string ByteArray.empty, .string ByteArray.empty, .string ByteArray.empty, .string ByteArray.empty, .bool false], [(0, 1), (1, 1), (2, 1), (3, 1), (4, 1)], 0, 72, .cells [.str, .str, .str, .str, .bool], true, false⟩ := ⟨by kernel_rfl, by kernel_rfl, by kernel_rfl, by kernel_rfl, by kernel_rfl, by simp, ⟨by kernel_rfl, by kernel_rfl, by kernel_rfl⟩⟩
theorem tgood89 : TGood Tryd.prog 89 ⟨5, true, [.string ByteArray.empty, .string ByteArray.empty, .string ByteArray.empty, .string ByteArray.empty, .bool false], [(0, 1), (1, 1), (2, 1), (3, 1), (4, 1)], 0, 72, .cells [.str, .str, .str, .str, .bool], true, false⟩ := ⟨by kernel_rfl, by kernel_rfl, by kernel_rfl, by kernel_rfl, by kernel_rfl, by simp, ⟨by kernel_rfl, by kernel_rfl, by kernel_rfl⟩⟩
theorem tgood100 : TGood Tryd.prog 100 ⟨1, false, [.slice none 0 0], [], 33, 24, .other, false, true⟩ := ⟨by kernel_rfl, by kernel_rfl, by kernel_rfl, by kernel_rfl, by kernel_rfl, fun _ => by kernel_rfl, trivial⟩
theorem tgood111 : TGood Tryd.prog 111 ⟨1, false, [.int .u64 0], [], 0, 8, .int .u64, false, false⟩ := ⟨by kernel_rfl, by kernel_rfl, by kernel_rfl, by kernel_rfl, by kernel_rfl, by simp, (by kernel_rfl : Tryd.prog.underlying 111 = some (.int (.u64)))⟩
theorem tgood126 : TGood Tryd.prog 126 ⟨1, false, [.int .u32 0], [], 0, 4, .int .u32, false, false⟩ := ⟨by kernel_rfl, by kernel_rfl, by kernel_rfl, by kernel_rfl, by kernel_rfl, by simp, (by kernel_rfl : Tryd.prog.underlying 126 = some (.int (.u32)))⟩
theorem tgood130 : TGood Tryd.prog 130 ⟨2, true, [.int .u8 0, .int .u8 0], [(0, 1), (1, 1)], 0, 2, .cells [.int, .int], true, false⟩ := ⟨by kernel_rfl, by kernel_rfl, by kernel_rfl, by kernel_rfl, by kernel_rfl, by simp, ⟨by kernel_rfl, by kernel_rfl, by kernel_rfl⟩⟩
theorem tgood141 : TGood Tryd.prog 141 ⟨1, false, [.pointer none], [], 0, 8, .other, false, false⟩ := ⟨by kernel_rfl, by kernel_rfl, by kernel_rfl, by kernel_rfl, by kernel_rfl, by simp, trivial⟩
def tabL : List (Nat × TI) := [(3, ⟨1, false, [.int .i64 0], [], 0, 8, .int .i64, false, false⟩),
  (4, ⟨1, false, [.bool false], [], 0, 1, .bool, false, false⟩),
  (9, ⟨1, false, [.string ByteArray.empty], [], 0, 16, .str, false, false⟩),
  (2, ⟨1, false, [.int .i64 0], [], 0, 8, .int .i64, false, false⟩),
  (5, ⟨1, false, [.int .u8 0], [], 0, 1, .int .u8, false, false⟩),
  (12, ⟨1, false, [.int .u64 0], [], 0, 8, .int .u64, false, false⟩),
  (15, ⟨1, false, [.pointer none], [], 0, 8, .other, false, false⟩),
  (16, ⟨1, false, [.pointer none], [], 0, 8, .other, false, false⟩),
  (17, ⟨1, false, [.pointer none], [], 0, 8, .other, false, false⟩),
  (21, ⟨1, false, [.int .i32 0], [], 0, 4, .int .i32, false, false⟩),
  (22, ⟨1, false, [.slice none 0 0], [], 5, 24, .other, false, true⟩),
  (24, ⟨4, true, [.int .i64 0, .int .i64 0, .int .i64 0, .int .i64 0], [(0, 1), (1, 1), (2, 1), (3, 1)], 0, 32, .cells [.int, .int, .int, .int], true, false⟩),
  (25, ⟨4, true, [.int .i64 0, .int .i64 0, .int .i64 0, .int .i64 0], [(0, 1), (1, 1), (2, 1), (3, 1)], 0, 32, .cells [.int, .int, .int, .int], true, false⟩),
  (33, ⟨1, false, [.slice none 0 0], [], 3, 24, .other, false, true⟩),
  (39, ⟨4, true, [.int .i64 0, .int .i64 0, .int .i64 0, .int .i64 0], [(0, 1), (1, 1), (2, 1), (3, 1)], 0, 32, .cells [.int, .int, .int, .int], true, false⟩),
  (40, ⟨4, true, [.int .i64 0, .int .i64 0, .int .i64 0, .int .i64 0], [(0, 1), (1, 1), (2, 1), (3, 1)], 0, 32, .cells [.int, .int, .int, .int], true, false⟩),
  (53, ⟨4, true, [.int .i64 0, .int .i64 0, .int .i64 0, .int .i64 0], [(0, 1), (1, 1), (2, 1), (3, 1)], 0, 32, .cells [.int, .int, .int, .int], true, false⟩),
  (54, ⟨4, true, [.int .i64 0, .int .i64 0, .int .i64 0, .int .i64 0], [(0, 1), (1, 1), (2, 1), (3, 1)], 0, 32, .cells [.int, .int, .int, .int], true, false⟩),
  (55, ⟨15, true, [.int .i64 0, .int .i64 0, .int .i64 0, .int .i64 0, .int .i64 0, .int .i64 0, .int .i64 0, .int .i64 0, .int .i64 0, .int .i64 0, .int .i64 0, .int .i64 0, .int .i64 0, .int .i64 0, .int .i64 0], [(0, 4), (4, 1), (5, 1), (6, 1), (7, 4), (11, 4)], 0, 120, .cells [.int, .int, .int, .int, .int, .int, .int, .int, .int, .int, .int, .int, .int, .int, .int], true, false⟩),
  (56, ⟨15, true, [.int .i64 0, .int .i64 0, .int .i64 0, .int .i64 0, .int .i64 0, .int .i64 0, .int .i64 0, .int .i64 0, .int .i64 0, .int .i64 0, .int .i64 0, .int .i64 0, .int .i64 0, .int .i64 0, .int .i64 0], [(0, 4), (4, 1), (5, 1), (6, 1), (7, 4), (11, 4)], 0, 120, .cells [.int, .int, .int, .int, .int, .int, .int, .int, .int, .int, .int, .int, .int, .int, .int], true, false⟩),
  (62, ⟨1, false, [.slice none 0 0], [], 9, 24, .other, false, true⟩),
  (71, ⟨1, false, [.pointer none], [], 0, 8, .other, false, false⟩),
  (72, ⟨1, false, [.int .u64 0], [], 0, 8, .int .u64, false, false⟩),
  (73, ⟨3, true, [.slice none 0 0, .int .i64 0, .int .u64 0], [(0, 1), (1, 1), (2, 1)], 0, 40, .other, true, false⟩),
  (74, ⟨3, true, [.slice none 0 0, .int .i64 0, .int .u64 0], [(0, 1), (1, 1), (2, 1)], 0, 40, .other, true, false⟩),
  (88, ⟨5, true, [.string ByteArray.empty, .string ByteArray.empty, .string ByteArray.empty, .string ByteArray.empty, .bool false], [(0, 1), (1, 1), (2, 1), (3, 1), (4, 1)], 0, 72, .cells [.str, .str, .str, .str, .bool], true, false⟩),
  (89, ⟨5, true, [.string ByteArray.empty, .string ByteArray.empty, .string ByteArray.empty, .string ByteArray.empty, .bool false], [(0, 1), (1, 1), (2, 1), (3, 1), (4, 1)], 0, 72, .cells [.str, .str, .str, .str, .bool], true, false⟩),
  (100, ⟨1, false, [.slice none 0 0], [], 33, 24, .other, false, true⟩),
  (111, ⟨1, false, [.int .u64 0], [], 0, 8, .int .u64, false, false⟩),
  (126, ⟨1, false, [.int .u32 0], [], 0, 4, .int .u32, false, false⟩),
  (130, ⟨2, true, [.int .u8 0, .int .u8 0], [(0, 1), (1, 1)], 0, 2, .cells [.int, .int], true, false⟩),
  (141, ⟨1, false, [.pointer none], [], 0, 8, .other, false, false⟩)]
def tab : Tab := ⟨tabL, false, 0⟩
/-- The same, loops walked round by round. -/
def tabU : Tab := ⟨tabL, true, 0⟩
/-- The same, empty literals the call's own; all literals. -/
def tabO : Tab := ⟨tabL, false, 1⟩
def tabA : Tab := ⟨tabL, false, 2⟩
theorem TabOk.nil {P : Program} {u : Bool} {o : Nat} : TabOk P ⟨[], u, o⟩ := fun T i h => by simp [lk] at h
theorem TabOk.cons {P : Program} {T : Nat} {i : TI} {l : List (Nat × TI)} {u : Bool} {o : Nat} (h : TGood P T i) (r : TabOk P ⟨l, u, o⟩) : TabOk P ⟨(T, i) :: l, u, o⟩ := fun U j e => by
  rw [lk_cons] at e
  by_cases h0 : T = U
  · rw [if_pos h0] at e; injection e with e; subst e; subst h0; exact h
  · rw [if_neg h0] at e; exact r U j e
theorem tabOk : TabOk Tryd.prog tab := .cons tgood3 <| .cons tgood4 <| .cons tgood9 <| .cons tgood2 <| .cons tgood5 <| .cons tgood12 <| .cons tgood15 <| .cons tgood16 <| .cons tgood17 <| .cons tgood21 <| .cons tgood22 <| .cons tgood24 <| .cons tgood25 <| .cons tgood33 <| .cons tgood39 <| .cons tgood40 <| .cons tgood53 <| .cons tgood54 <| .cons tgood55 <| .cons tgood56 <| .cons tgood62 <| .cons tgood71 <| .cons tgood72 <| .cons tgood73 <| .cons tgood74 <| .cons tgood88 <| .cons tgood89 <| .cons tgood100 <| .cons tgood111 <| .cons tgood126 <| .cons tgood130 <| .cons tgood141 <| .nil
theorem tabOkU : TabOk Tryd.prog tabU := tabOk
theorem tabOkO : TabOk Tryd.prog tabO := tabOk
theorem tabOkA : TabOk Tryd.prog tabA := tabOk
theorem mixed : Tryd.prog.follows .mixedOrders = true := by kernel_rfl
end Go.Proofs.YtdicfibonfjalaaDoor.AM
