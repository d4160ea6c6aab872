/- The types that the program's functions use, as the machine knows them, told true; conditions: none. -/
import Derived.Test.YthilcnfnbgbkdaaDoorAmB
import Derived.Test.YthilcnfnbgbkdaaDoorProg
namespace Go.Proofs.YthilcnfnbgbkdaaDoor.AM
set_option maxRecDepth 100000
theorem tgood3 : TGood Tryd.prog 3 ⟨1, false, [.int .i64 0], [], 0, 8, .int .i64, false, false⟩ := ⟨by kernel_rfl, by kernel_rfl, by kernel_rfl, by kernel_rfl, by kernel_rfl, by simp, (by kernel_rfl : Tryd.prog.underlying 3 = some (.int (.i64)))⟩
theorem tgood4 : TGood Tryd.prog 4 ⟨1, false, [.bool false], [], 0, 1, .bool, false, false⟩ := ⟨by kernel_rfl, by kernel_rfl, by kernel_rfl, by kernel_rfl, by kernel_rfl, by simp, (by kernel_rfl : Tryd.prog.underlying 4 = some (.bool))⟩
theorem tgood9 : TGood Tryd.prog 9 ⟨1, false, [.string ByteArray.empty], [], 0, 16, .str, false, false⟩ := ⟨by kernel_rfl, by kernel_rfl, by kernel_rfl, by kernel_rfl, by kernel_rfl, by simp, (by kernel_rfl : Tryd.prog.underlying 9 = some (.string))⟩
theorem tgood2 : TGood Tryd.prog 2 ⟨1, false, [.int .i64 0], [], 0, 8, .int .i64, false, false⟩ := ⟨by kernel_rfl, by kernel_rfl, by kernel_rfl, by kernel_rfl, by kernel_rfl, by simp, (by kernel_rfl : Tryd.prog.underlying 2 = some (.int (.i64)))⟩
theorem tgood5 : TGood Tryd.prog 5 ⟨1, false, [.int .u8 0], [], 0, 1, .int .u8, false, false⟩ := ⟨by kernel_rfl, by kernel_rfl, by kernel_rfl, by kernel_rfl, by kernel_rfl, by simp, (by kernel_rfl : Tryd.prog.underlying 5 = some (.int (.u8)))⟩
theorem tgood12 : TGood Tryd.prog 12 ⟨1, false, [.int .u64 0], [], 0, 8, .int .u64, false, false⟩ := ⟨by kernel_rfl, by kernel_rfl, by kernel_rfl, by kernel_rfl, by kernel_rfl, by simp, (by kernel_rfl : Tryd.prog.underlying 12 = some (.int (.u64)))⟩
theorem tgood15 : TGood Tryd.prog 15 ⟨1, false, [.pointer none], [], 0, 8, .other, false, false⟩ := ⟨by kernel_rfl, by kernel_rfl, by kernel_rfl, by kernel_rfl, by kernel_rfl, by simp, trivial⟩
theorem tgood16 : TGood Tryd.prog 16 ⟨1, false, [.pointer none], [], 0, 8, .other, false, false⟩ := ⟨by kernel_rfl, by kernel_rfl, by kernel_rfl, by kernel_rfl, by kernel_rfl, by simp, trivial⟩
theorem tgood17 : TGood Tryd.prog 17 ⟨1, false, [.pointer none], [], 0, 8, .other, false, false⟩ := ⟨by kernel_rfl, by kernel_rfl, by kernel_rfl, by kernel_rfl, by kernel_rfl, by simp, trivial⟩
theorem tgood21 : TGood Tryd.prog 21 ⟨1, false, [.int .i32 0], [], 0, 4, .int .i32, false, false⟩ := ⟨by kernel_rfl, by kernel_rfl, by kernel_rfl, by kernel_rfl, by kernel_rfl, by simp, (by kernel_rfl : Tryd.prog.underlying 21 = some (.int (.i32)))⟩
theorem tgood22 : TGood Tryd.prog 22 ⟨1, false, [.slice none 0 0], [], 5, 24, .other, false, true⟩ := ⟨by kernel_rfl, by kernel_rfl, by kernel_rfl, by kernel_rfl, by kernel_rfl, fun _ => by kernel_rfl, trivial⟩
theorem tgood24 : TGood Tryd.prog 24 ⟨1, false, [.slice none 0 0], [], 37, 24, .other, false, true⟩ := ⟨by kernel_rfl, by kernel_rfl, by kernel_rfl, by kernel_rfl, by kernel_rfl, fun _ => by kernel_rfl, trivial⟩
theorem tgood32 : TGood Tryd.prog 32 ⟨4, true, [.int .i64 0, .int .i64 0, .int .i64 0, .int .i64 0], [(0, 1), (1, 1), (2, 1), (3, 1)], 0, 32, .cells [.int, .int, .int, .int], true, false⟩ := ⟨by kernel_rfl, by kernel_rfl, by kernel_rfl, by kernel_rfl, by kernel_rfl, by simp, ⟨by kernel_rfl, by kernel_rfl, by kernel_rfl⟩⟩
theorem tgood33 : TGood Tryd.prog 33 ⟨4, true, [.int .i64 0, .int .i64 0, .int .i64 0, .int .i64 0], [(0, 1), (1, 1), (2, 1), (3, 1)], 0, 32, .cells [.int, .int, .int, .int], true, false⟩ := ⟨by kernel_rfl, by kernel_rfl, by kernel_rfl, by kernel_rfl, by kernel_rfl, by simp, ⟨by kernel_rfl, by kernel_rfl, by kernel_rfl⟩⟩
theorem tgood34 : TGood Tryd.prog 34 ⟨4, true, [.int .i64 0, .int .i64 0, .int .i64 0, .int .i64 0], [(0, 1), (1, 1), (2, 1), (3, 1)], 0, 32, .cells [.int, .int, .int, .int], true, false⟩ := ⟨by kernel_rfl, by kernel_rfl, by kernel_rfl, by kernel_rfl, by kernel_rfl, by simp, ⟨by kernel_rfl, by kernel_rfl, by kernel_rfl⟩⟩
theorem tgood35 : TGood Tryd.prog 35 ⟨4, true, [.int .i64 0, .int .i64 0, .int .i64 0, .int .i64 0], [(0, 1), (1, 1), (2, 1), (3, 1)], 0, 32, .cells [.int, .int, .int, .int], true, false⟩ := ⟨by kernel_rfl, by kernel_rfl, by kernel_rfl, by kernel_rfl, by kernel_rfl, by simp, ⟨by kernel_rfl, by kernel_rfl, by kernel_rfl⟩⟩
theorem tgood36 : TGood Tryd.prog 36 ⟨15, true, [.int .i64 0, .int .i64 0, .int .i64 0, .int .i64 0, .int .i64 0, .int .i64 0, .int .i64 0, .int .i64 0, .int .i64 0, .int .i64 0, .int .i64 0, .int .i64 0, .int .i64 0, .int .i64 0, .int .i64 0], [(0, 4), (4, 1), (5, 1), (6, 1), (7, 4), (11, 4)], 0, 120, .cells [.int, .int, .int, .int, .int, .int, .int, .int, .int, .int, .int, .int, .int, .int, .int], true, false⟩ := ⟨by kernel_rfl, by kernel_rfl, by kernel_rfl, by kernel_rfl, by kernel_rfl, by simp, ⟨by kernel_rfl, by kernel_rfl, by kernel_rfl⟩⟩
theorem tgood37 : TGood Tryd.prog 37 ⟨15, true, [.int .i64 0, .int .i64 0, .int .i64 0, .int .i64 0, .int .i64 0, .int .i64 0, .int .i64 0, .int .i64 0, .int .i64 0, .int .i64 0, .int .i64 0, .int .i64 0, .int .i64 0, .int .i64 0, .int .i64 0], [(0, 4), (4, 1), (5, 1), (6, 1), (7, 4), (11, 4)], 0, 120, .cells [.int, .int, .int, .int, .int, .int, .int, .int, .int, .int, .int, .int, .int, .int, .int], true, false⟩ := ⟨by kernel_rfl, by kernel_rfl, by kernel_rfl, by kernel_rfl, by kernel_rfl, by simp, ⟨by kernel_rfl, by kernel_rfl, by kernel_rfl⟩⟩
theorem tgood38 : TGood Tryd.prog 38 ⟨1, false, [.slice none 0 0], [], 9, 24, .other, false, true⟩ := ⟨by kernel_rfl, by kernel_rfl, by kernel_rfl, by kernel_rfl, by kernel_rfl, fun _ => by kernel_rfl, trivial⟩
theorem tgood41 : TGood Tryd.prog 41 ⟨1, false, [.slice none 0 0], [], 46, 24, .other, false, true⟩ := ⟨by kernel_rfl, by kernel_rfl, by kernel_rfl, by kernel_rfl, by kernel_rfl, fun _ => by kernel_rfl, trivial⟩
theorem tgood46 : TGood Tryd.prog 46 ⟨1, false, [.slice none 0 0], [], 3, 24, .other, false, true⟩ := ⟨by kernel_rfl, by kernel_rfl, by kernel_rfl, by kernel_rfl, by kernel_rfl, fun _ => by kernel_rfl, trivial⟩
theorem tgood47 : TGood Tryd.prog 47 ⟨1, false, [.pointer none], [], 0, 8, .other, false, false⟩ := ⟨by kernel_rfl, by kernel_rfl, by kernel_rfl, by kernel_rfl, by kernel_rfl, by simp, trivial⟩
theorem tgood48 : TGood Tryd.prog 48 ⟨1, false, [.int .u64 0], [], 0, 8, .int .u64, false, false⟩ := ⟨by kernel_rfl, by kernel_rfl, by kernel_rfl, by kernel_rfl, by kernel_rfl, by simp, (by kernel_rfl : Tryd.prog.underlying 48 = some (.int (.u64)))⟩
theorem tgood49 : TGood Tryd.prog 49 ⟨3, true, [.slice none 0 0, .int .i64 0, .int .u64 0], [(0, 1), (1, 1), (2, 1)], 0, 40, .other, true, false⟩ := ⟨by kernel_rfl, by kernel_rfl, by kernel_rfl, by kernel_rfl, by kernel_rfl, by simp, trivial⟩
theorem tgood50 : TGood Tryd.prog 50 ⟨3, true, [.slice none 0 0, .int .i64 0, .int .u64 0], [(0, 1), (1, 1), (2, 1)], 0, 40, .other, true, false⟩ := ⟨by kernel_rfl, by kernel_rfl, by kernel_rfl, by kernel_rfl, by kernel_rfl, by simp, trivial⟩
theorem tgood64 : TGood Tryd.prog 64 ⟨5, true, [.string ByteArray.empty, .string ByteArray.empty, .string ByteArray.empty, .string ByteArray.empty, .bool false], [(0, 1), (1, 1), (2, 1), (3, 1), (4, 1)], 0, 72, .cells [.str, .str, .str, .str, .bool], true, false⟩ := ⟨by kernel_rfl, by kernel_rfl, by kernel_rfl, by kernel_rfl, by kernel_rfl, by simp, ⟨by kernel_rfl, by kernel_rfl, by kernel_rfl⟩⟩
theorem tgood65 : TGood Tryd.prog 65 ⟨5, true, [.string ByteArray.empty, .string ByteArray.empty, .string ByteArray.empty, .string ByteArray.empty, .bool false], [(0, 1), (1, 1), (2, 1), (3, 1), (4, 1)], 0, 72, .cells [.str, .str, .str, .str, .bool], true, false⟩ := ⟨by kernel_rfl, by kernel_rfl, by kernel_rfl, by kernel_rfl, by kernel_rfl, by simp, ⟨by kernel_rfl, by kernel_rfl, by kernel_rfl⟩⟩
theorem tgood76 : TGood Tryd.prog 76 ⟨1, false, [.int .u64 0], [], 0, 8, .int .u64, false, false⟩ := ⟨by kernel_rfl, by kernel_rfl, by kernel_rfl, by kernel_rfl, by kernel_rfl, by simp, (by kernel_rfl : Tryd.prog.underlying 76 = some (.int (.u64)))⟩
theorem tgood87 : TGood Tryd.prog 87 ⟨1, false, [.int .u32 0], [], 0, 4, .int .u32, false, false⟩ := ⟨by kernel_rfl, by kernel_rfl, by kernel_rfl, by kernel_rfl, by kernel_rfl, by simp, (by kernel_rfl : Tryd.prog.underlying 87 = some (.int (.u32)))⟩
theorem tgood101 : TGood Tryd.prog 101 ⟨1, false, [.pointer none], [], 0, 8, .other, false, false⟩ := ⟨by kernel_rfl, by kernel_rfl, by kernel_rfl, by kernel_rfl, by kernel_rfl, by simp, trivial⟩
def tabL : List (Nat × TI) := [(3, ⟨1, false, [.int .i64 0], [], 0, 8, .int .i64, false, false⟩),
  (4, ⟨1, false, [.bool false], [], 0, 1, .bool, false, false⟩),
  (9, ⟨1, false, [.string ByteArray.empty], [], 0, 16, .str, false, false⟩),
  (2, ⟨1, false, [.int .i64 0], [], 0, 8, .int .i64, false, false⟩),
  (5, ⟨1, false, [.int .u8 0], [], 0, 1, .int .u8, false, false⟩),
  (12, ⟨1, false, [.int .u64 0], [], 0, 8, .int .u64, false, false⟩),
  (15, ⟨1, false, [.pointer none], [], 0, 8, .other, false, false⟩),
  (16, ⟨1, false, [.pointer none], [], 0, 8, .other, false, false⟩),
  (17, ⟨1, false, [.pointer none], [], 0, 8, .other, false, false⟩),
  (21, ⟨1, false, [.int .i32 0], [], 0, 4, .int .i32, false, false⟩),
  (22, ⟨1, false, [.slice none 0 0], [], 5, 24, .other, false, true⟩),
  (24, ⟨1, false, [.slice none 0 0], [], 37, 24, .other, false, true⟩),
  (32, ⟨4, true, [.int .i64 0, .int .i64 0, .int .i64 0, .int .i64 0], [(0, 1), (1, 1), (2, 1), (3, 1)], 0, 32, .cells [.int, .int, .int, .int], true, false⟩),
  (33, ⟨4, true, [.int .i64 0, .int .i64 0, .int .i64 0, .int .i64 0], [(0, 1), (1, 1), (2, 1), (3, 1)], 0, 32, .cells [.int, .int, .int, .int], true, false⟩),
  (34, ⟨4, true, [.int .i64 0, .int .i64 0, .int .i64 0, .int .i64 0], [(0, 1), (1, 1), (2, 1), (3, 1)], 0, 32, .cells [.int, .int, .int, .int], true, false⟩),
  (35, ⟨4, true, [.int .i64 0, .int .i64 0, .int .i64 0, .int .i64 0], [(0, 1), (1, 1), (2, 1), (3, 1)], 0, 32, .cells [.int, .int, .int, .int], true, false⟩),
  (36, ⟨15, true, [.int .i64 0, .int .i64 0, .int .i64 0, .int .i64 0, .int .i64 0, .int .i64 0, .int .i64 0, .int .i64 0, .int .i64 0, .int .i64 0, .int .i64 0, .int .i64 0, .int .i64 0, .int .i64 0, .int .i64 0], [(0, 4), (4, 1), (5, 1), (6, 1), (7, 4), (11, 4)], 0, 120, .cells [.int, .int, .int, .int, .int, .int, .int, .int, .int, .int, .int, .int, .int, .int, .int], true, false⟩),
  (37, ⟨15, true, [.int .i64 0, .int .i64 0, .int .i64 0, .int .i64 0, .int .i64 0, .int .i64 0, .int .i64 0, .int .i64 0, .int .i64 0, .int .i64 0, .int .i64 0, .int .i64 0, .int .i64 0, .int .i64 0, .int .i64 0], [(0, 4), (4, 1), (5, 1), (6, 1), (7, 4), (11, 4)], 0, 120, .cells [.int, .int, .int, .int, .int, .int, .int, .int, .int, .int, .int, .int, .int, .int, .int], true, false⟩),
  (38, ⟨1, false, [.slice none 0 0], [], 9, 24, .other, false, true⟩),
  (41, ⟨1, false, [.slice none 0 0], [], 46, 24, .other, false, true⟩),
  (46, ⟨1, false, [.slice none 0 0], [], 3, 24, .other, false, true⟩),
  (47, ⟨1, false, [.pointer none], [], 0, 8, .other, false, false⟩),
  (48, ⟨1, false, [.int .u64 0], [], 0, 8, .int .u64, false, false⟩),
  (49, ⟨3, true, [.slice none 0 0, .int .i64 0, .int .u64 0], [(0, 1), (1, 1), (2, 1)], 0, 40, .other, true, false⟩),
  (50, ⟨3, true, [.slice none 0 0, .int .i64 0, .int .u64 0], [(0, 1), (1, 1), (2, 1)], 0, 40, .other, true, false⟩),
  (64, ⟨5, true, [.string ByteArray.empty, .string ByteArray.empty, .string ByteArray.empty, .string ByteArray.empty, .bool false], [(0, 1), (1, 1), (2, 1), (3, 1), (4, 1)], 0, 72, .cells [.str, .str, .str, .str, .bool], true, false⟩),
  (65, ⟨5, true, [.string ByteArray.empty, .string ByteArray.empty, .string ByteArray.empty, .string ByteArray.empty, .bool false], [(0, 1), (1, 1), (2, 1), (3, 1), (4, 1)], 0, 72, .cells [.str, .str, .str, .str, .bool], true, false⟩),
  (76, ⟨1, false, [.int .u64 0], [], 0, 8, .int .u64, false, false⟩),
  (87, ⟨1, false, [.int .u32 0], [], 0, 4, .int .u32, false, false⟩),
  (101, ⟨1, false, [.pointer none], [], 0, 8, .other, false, false⟩)]
def tab : Tab := ⟨tabL, false, 0⟩
/-- The same, loops walked round by round. -/
def tabU : Tab := ⟨tabL, true, 0⟩
/-- The same, empty literals the call's own; all literals. -/
def tabO : Tab := ⟨tabL, false, 1⟩
def tabA : Tab := ⟨tabL, false, 2⟩
/-- As tabO, nested guards told. -/
def tabG : Tab := ⟨tabL, false, 3⟩
theorem TabOk.nil {P : Program} {u : Bool} {o : Nat} : TabOk P ⟨[], u, o⟩ := fun T i h => by simp [lk] at h
theorem TabOk.cons {P : Program} {T : Nat} {i : TI} {l : List (Nat × TI)} {u : Bool} {o : Nat} (h : TGood P T i) (r : TabOk P ⟨l, u, o⟩) : TabOk P ⟨(T, i) :: l, u, o⟩ := fun U j e => by
  rw [lk_cons] at e
  by_cases h0 : T = U
  · rw [if_pos h0] at e; injection e with e; subst e; subst h0; exact h
  · rw [if_neg h0] at e; exact r U j e
theorem tabOk : TabOk Tryd.prog tab := .cons tgood3 <| .cons tgood4 <| .cons tgood9 <| .cons tgood2 <| .cons tgood5 <| .cons tgood12 <| .cons tgood15 <| .cons tgood16 <| .cons tgood17 <| .cons tgood21 <| .cons tgood22 <| .cons tgood24 <| .cons tgood32 <| .cons tgood33 <| .cons tgood34 <| .cons tgood35 <| .cons tgood36 <| .cons tgood37 <| .cons tgood38 <| .cons tgood41 <| .cons tgood46 <| .cons tgood47 <| .cons tgood48 <| .cons tgood49 <| .cons tgood50 <| .cons tgood64 <| .cons tgood65 <| .cons tgood76 <| .cons tgood87 <| .cons tgood101 <| .nil
theorem tabOkU : TabOk Tryd.prog tabU := tabOk
theorem tabOkO : TabOk Tryd.prog tabO := tabOk
theorem tabOkA : TabOk Tryd.prog tabA := tabOk
theorem tabOkG : TabOk Tryd.prog tabG := tabOk
theorem mixed : Tryd.prog.follows .mixedOrders = true := by kernel_rfl
end Go.Proofs.YthilcnfnbgbkdaaDoor.AM
