/- Lemmas and contracts (AmT); conditions: none. -/
import Derived.Test.YtcjjffmbhionmaaGreatDoorK02
import Derived.Test.YtcjjffmbhionmaaGreatDoorProg
set_option linter.unusedVariables false
set_option linter.unusedSimpArgs false
namespace Go.Proofs.YtcjjffmbhionmaaGreatDoor.AM
set_option maxRecDepth 100000
theorem tgood3 : TGood Tryz.prog 3 ⟨1, false, [.int .i64 0], [], 0, 8, .int .i64, false, false⟩ := ⟨by kernel_rfl, by kernel_rfl, by kernel_rfl, by kernel_rfl, by kernel_rfl, by simp, (by kernel_rfl : Tryz.prog.underlying 3 = some (.int (.i64)))⟩
theorem tgood4 : TGood Tryz.prog 4 ⟨1, false, [.bool false], [], 0, 1, .bool, false, false⟩ := ⟨by kernel_rfl, by kernel_rfl, by kernel_rfl, by kernel_rfl, by kernel_rfl, by simp, (by kernel_rfl : Tryz.prog.underlying 4 = some (.bool))⟩
theorem tgood9 : TGood Tryz.prog 9 ⟨1, false, [.string ByteArray.empty], [], 0, 16, .str, false, false⟩ := ⟨by kernel_rfl, by kernel_rfl, by kernel_rfl, by kernel_rfl, by kernel_rfl, by simp, (by kernel_rfl : Tryz.prog.underlying 9 = some (.string))⟩
theorem tgood2 : TGood Tryz.prog 2 ⟨1, false, [.int .i64 0], [], 0, 8, .int .i64, false, false⟩ := ⟨by kernel_rfl, by kernel_rfl, by kernel_rfl, by kernel_rfl, by kernel_rfl, by simp, (by kernel_rfl : Tryz.prog.underlying 2 = some (.int (.i64)))⟩
theorem tgood5 : TGood Tryz.prog 5 ⟨1, false, [.int .u8 0], [], 0, 1, .int .u8, false, false⟩ := ⟨by kernel_rfl, by kernel_rfl, by kernel_rfl, by kernel_rfl, by kernel_rfl, by simp, (by kernel_rfl : Tryz.prog.underlying 5 = some (.int (.u8)))⟩
theorem tgood12 : TGood Tryz.prog 12 ⟨1, false, [.int .u64 0], [], 0, 8, .int .u64, false, false⟩ := ⟨by kernel_rfl, by kernel_rfl, by kernel_rfl, by kernel_rfl, by kernel_rfl, by simp, (by kernel_rfl : Tryz.prog.underlying 12 = some (.int (.u64)))⟩
theorem tgood15 : TGood Tryz.prog 15 ⟨1, false, [.pointer none], [], 0, 8, .other, false, false⟩ := ⟨by kernel_rfl, by kernel_rfl, by kernel_rfl, by kernel_rfl, by kernel_rfl, by simp, trivial⟩
theorem tgood16 : TGood Tryz.prog 16 ⟨1, false, [.pointer none], [], 0, 8, .other, false, false⟩ := ⟨by kernel_rfl, by kernel_rfl, by kernel_rfl, by kernel_rfl, by kernel_rfl, by simp, trivial⟩
theorem tgood17 : TGood Tryz.prog 17 ⟨1, false, [.pointer none], [], 0, 8, .other, false, false⟩ := ⟨by kernel_rfl, by kernel_rfl, by kernel_rfl, by kernel_rfl, by kernel_rfl, by simp, trivial⟩
theorem tgood21 : TGood Tryz.prog 21 ⟨1, false, [.int .i32 0], [], 0, 4, .int .i32, false, false⟩ := ⟨by kernel_rfl, by kernel_rfl, by kernel_rfl, by kernel_rfl, by kernel_rfl, by simp, (by kernel_rfl : Tryz.prog.underlying 21 = some (.int (.i32)))⟩
theorem tgood22 : TGood Tryz.prog 22 ⟨1, false, [.slice none 0 0], [], 5, 24, .other, false, true⟩ := ⟨by kernel_rfl, by kernel_rfl, by kernel_rfl, by kernel_rfl, by kernel_rfl, fun _ => by kernel_rfl, trivial⟩
theorem tgood24 : TGood Tryz.prog 24 ⟨1, false, [.slice none 0 0], [], 72, 24, .other, false, true⟩ := ⟨by kernel_rfl, by kernel_rfl, by kernel_rfl, by kernel_rfl, by kernel_rfl, fun _ => by kernel_rfl, trivial⟩
theorem tgood25 : TGood Tryz.prog 25 ⟨1, true, [.slice none 0 0], [(0, 1)], 0, 24, .other, true, false⟩ := ⟨by kernel_rfl, by kernel_rfl, by kernel_rfl, by kernel_rfl, by kernel_rfl, by simp, trivial⟩
theorem tgood26 : TGood Tryz.prog 26 ⟨1, true, [.slice none 0 0], [(0, 1)], 0, 24, .other, true, false⟩ := ⟨by kernel_rfl, by kernel_rfl, by kernel_rfl, by kernel_rfl, by kernel_rfl, by simp, trivial⟩
theorem tgood28 : TGood Tryz.prog 28 ⟨1, false, [.slice none 0 0], [], 35, 24, .other, false, true⟩ := ⟨by kernel_rfl, by kernel_rfl, by kernel_rfl, by kernel_rfl, by kernel_rfl, fun _ => by kernel_rfl, trivial⟩
theorem tgood31 : TGood Tryz.prog 31 ⟨1, false, [.slice none 0 0], [], 3, 24, .other, false, true⟩ := ⟨by kernel_rfl, by kernel_rfl, by kernel_rfl, by kernel_rfl, by kernel_rfl, fun _ => by kernel_rfl, trivial⟩
theorem tgood34 : TGood Tryz.prog 34 ⟨2, true, [.string ByteArray.empty, .slice none 0 0], [(0, 1), (1, 1)], 0, 40, .other, true, false⟩ := ⟨by kernel_rfl, by kernel_rfl, by kernel_rfl, by kernel_rfl, by kernel_rfl, by simp, trivial⟩
theorem tgood35 : TGood Tryz.prog 35 ⟨2, true, [.string ByteArray.empty, .slice none 0 0], [(0, 1), (1, 1)], 0, 40, .other, true, false⟩ := ⟨by kernel_rfl, by kernel_rfl, by kernel_rfl, by kernel_rfl, by kernel_rfl, by simp, trivial⟩
theorem tgood36 : TGood Tryz.prog 36 ⟨1, false, [.slice none 0 0], [], 9, 24, .other, false, true⟩ := ⟨by kernel_rfl, by kernel_rfl, by kernel_rfl, by kernel_rfl, by kernel_rfl, fun _ => by kernel_rfl, trivial⟩
theorem tgood39 : TGood Tryz.prog 39 ⟨4, true, [.int .i64 0, .int .i64 0, .int .i64 0, .int .i64 0], [(0, 1), (1, 1), (2, 1), (3, 1)], 0, 32, .cells [.int, .int, .int, .int], true, false⟩ := ⟨by kernel_rfl, by kernel_rfl, by kernel_rfl, by kernel_rfl, by kernel_rfl, by simp, ⟨by kernel_rfl, by kernel_rfl, by kernel_rfl⟩⟩
theorem tgood40 : TGood Tryz.prog 40 ⟨4, true, [.int .i64 0, .int .i64 0, .int .i64 0, .int .i64 0], [(0, 1), (1, 1), (2, 1), (3, 1)], 0, 32, .cells [.int, .int, .int, .int], true, false⟩ := ⟨by kernel_rfl, by kernel_rfl, by kernel_rfl, by kernel_rfl, by kernel_rfl, by simp, ⟨by kernel_rfl, by kernel_rfl, by kernel_rfl⟩⟩
theorem tgood41 : TGood Tryz.prog 41 ⟨4, true, [.int .i64 0, .int .i64 0, .int .i64 0, .int .i64 0], [(0, 1), (1, 1), (2, 1), (3, 1)], 0, 32, .cells [.int, .int, .int, .int], true, false⟩ := ⟨by kernel_rfl, by kernel_rfl, by kernel_rfl, by kernel_rfl, by kernel_rfl, by simp, ⟨by kernel_rfl, by kernel_rfl, by kernel_rfl⟩⟩
theorem tgood42 : TGood Tryz.prog 42 ⟨4, true, [.int .i64 0, .int .i64 0, .int .i64 0, .int .i64 0], [(0, 1), (1, 1), (2, 1), (3, 1)], 0, 32, .cells [.int, .int, .int, .int], true, false⟩ := ⟨by kernel_rfl, by kernel_rfl, by kernel_rfl, by kernel_rfl, by kernel_rfl, by simp, ⟨by kernel_rfl, by kernel_rfl, by kernel_rfl⟩⟩
theorem tgood43 : TGood Tryz.prog 43 ⟨15, true, [.int .i64 0, .int .i64 0, .int .i64 0, .int .i64 0, .int .i64 0, .int .i64 0, .int .i64 0, .int .i64 0, .int .i64 0, .int .i64 0, .int .i64 0, .int .i64 0, .int .i64 0, .int .i64 0, .int .i64 0], [(0, 4), (4, 1), (5, 1), (6, 1), (7, 4), (11, 4)], 0, 120, .cells [.int, .int, .int, .int, .int, .int, .int, .int, .int, .int, .int, .int, .int, .int, .int], true, false⟩ := ⟨by kernel_rfl, by kernel_rfl, by kernel_rfl, by kernel_rfl, by kernel_rfl, by simp, ⟨by kernel_rfl, by kernel_rfl, by kernel_rfl⟩⟩
theorem tgood44 : TGood Tryz.prog 44 ⟨15, true, [.int .i64 0, .int .i64 0, .int .i64 0, .int .i64 0, .int .i64 0, .int .i64 0, .int .i64 0, .int .i64 0, .int .i64 0, .int .i64 0, .int .i64 0, .int .i64 0, .int .i64 0, .int .i64 0, .int .i64 0], [(0, 4), (4, 1), (5, 1), (6, 1), (7, 4), (11, 4)], 0, 120, .cells [.int, .int, .int, .int, .int, .int, .int, .int, .int, .int, .int, .int, .int, .int, .int], true, false⟩ := ⟨by kernel_rfl, by kernel_rfl, by kernel_rfl, by kernel_rfl, by kernel_rfl, by simp, ⟨by kernel_rfl, by kernel_rfl, by kernel_rfl⟩⟩
theorem tgood63 : TGood Tryz.prog 63 ⟨1, false, [.pointer none], [], 0, 8, .other, false, false⟩ := ⟨by kernel_rfl, by kernel_rfl, by kernel_rfl, by kernel_rfl, by kernel_rfl, by simp, trivial⟩
theorem tgood64 : TGood Tryz.prog 64 ⟨1, false, [.int .u64 0], [], 0, 8, .int .u64, false, false⟩ := ⟨by kernel_rfl, by kernel_rfl, by kernel_rfl, by kernel_rfl, by kernel_rfl, by simp, (by kernel_rfl : Tryz.prog.underlying 64 = some (.int (.u64)))⟩
theorem tgood65 : TGood Tryz.prog 65 ⟨3, true, [.slice none 0 0, .int .i64 0, .int .u64 0], [(0, 1), (1, 1), (2, 1)], 0, 40, .other, true, false⟩ := ⟨by kernel_rfl, by kernel_rfl, by kernel_rfl, by kernel_rfl, by kernel_rfl, by simp, trivial⟩
theorem tgood66 : TGood Tryz.prog 66 ⟨3, true, [.slice none 0 0, .int .i64 0, .int .u64 0], [(0, 1), (1, 1), (2, 1)], 0, 40, .other, true, false⟩ := ⟨by kernel_rfl, by kernel_rfl, by kernel_rfl, by kernel_rfl, by kernel_rfl, by simp, trivial⟩
theorem tgood71 : TGood Tryz.prog 71 ⟨18, true, [.int .i64 0, .string ByteArray.empty, .int .i64 0, .int .i64 0, .int .i64 0, .int .i64 0, .int .i64 0, .int .i64 0, .int .i64 0, .int .i64 0, .int .i64 0, .int .i64 0, .int .i64 0, .int .i64 0, .int .i64 0, .int .i64 0, .int .i64 0, .int .i64 0], [(0, 1), (1, 1), (2, 1), (3, 15)], 0, 152, .cells [.int, .str, .int, .int, .int, .int, .int, .int, .int, .int, .int, .int, .int, .int, .int, .int, .int, .int], true, false⟩ := ⟨by kernel_rfl, by kernel_rfl, by kernel_rfl, by kernel_rfl, by kernel_rfl, by simp, ⟨by kernel_rfl, by kernel_rfl, by kernel_rfl⟩⟩
theorem tgood72 : TGood Tryz.prog 72 ⟨18, true, [.int .i64 0, .string ByteArray.empty, .int .i64 0, .int .i64 0, .int .i64 0, .int .i64 0, .int .i64 0, .int .i64 0, .int .i64 0, .int .i64 0, .int .i64 0, .int .i64 0, .int .i64 0, .int .i64 0, .int .i64 0, .int .i64 0, .int .i64 0, .int .i64 0], [(0, 1), (1, 1), (2, 1), (3, 15)], 0, 152, .cells [.int, .str, .int, .int, .int, .int, .int, .int, .int, .int, .int, .int, .int, .int, .int, .int, .int, .int], true, false⟩ := ⟨by kernel_rfl, by kernel_rfl, by kernel_rfl, by kernel_rfl, by kernel_rfl, by simp, ⟨by kernel_rfl, by kernel_rfl, by kernel_rfl⟩⟩
theorem tgood99 : TGood Tryz.prog 99 ⟨3, true, [.string ByteArray.empty, .int .i64 0, .int .i64 0], [(0, 1), (1, 1), (2, 1)], 0, 32, .cells [.str, .int, .int], true, false⟩ := ⟨by kernel_rfl, by kernel_rfl, by kernel_rfl, by kernel_rfl, by kernel_rfl, by simp, ⟨by kernel_rfl, by kernel_rfl, by kernel_rfl⟩⟩
theorem tgood100 : TGood Tryz.prog 100 ⟨1, false, [.slice none 0 0], [], 99, 24, .other, false, true⟩ := ⟨by kernel_rfl, by kernel_rfl, by kernel_rfl, by kernel_rfl, by kernel_rfl, fun _ => by kernel_rfl, trivial⟩
theorem tgood112 : TGood Tryz.prog 112 ⟨1, false, [.slice none 0 0], [], 42, 24, .other, false, true⟩ := ⟨by kernel_rfl, by kernel_rfl, by kernel_rfl, by kernel_rfl, by kernel_rfl, fun _ => by kernel_rfl, trivial⟩
theorem tgood122 : TGood Tryz.prog 122 ⟨1, false, [.int .u64 0], [], 0, 8, .int .u64, false, false⟩ := ⟨by kernel_rfl, by kernel_rfl, by kernel_rfl, by kernel_rfl, by kernel_rfl, by simp, (by kernel_rfl : Tryz.prog.underlying 122 = some (.int (.u64)))⟩
theorem tgood137 : TGood Tryz.prog 137 ⟨1, false, [.int .u32 0], [], 0, 4, .int .u32, false, false⟩ := ⟨by kernel_rfl, by kernel_rfl, by kernel_rfl, by kernel_rfl, by kernel_rfl, by simp, (by kernel_rfl : Tryz.prog.underlying 137 = some (.int (.u32)))⟩
theorem tgood151 : TGood Tryz.prog 151 ⟨1, false, [.pointer none], [], 0, 8, .other, false, false⟩ := ⟨by kernel_rfl, by kernel_rfl, by kernel_rfl, by kernel_rfl, by kernel_rfl, by simp, trivial⟩
theorem tgood155 : TGood Tryz.prog 155 ⟨1, false, [.pointer none], [], 0, 8, .other, false, false⟩ := ⟨by kernel_rfl, by kernel_rfl, by kernel_rfl, by kernel_rfl, by kernel_rfl, by simp, trivial⟩
theorem tgood168 : TGood Tryz.prog 168 ⟨1, false, [.pointer none], [], 0, 8, .other, false, false⟩ := ⟨by kernel_rfl, by kernel_rfl, by kernel_rfl, by kernel_rfl, by kernel_rfl, by simp, trivial⟩
def tabL : List (Nat × TI) := [(3, ⟨1, false, [.int .i64 0], [], 0, 8, .int .i64, false, false⟩),
  (4, ⟨1, false, [.bool false], [], 0, 1, .bool, false, false⟩),
  (9, ⟨1, false, [.string ByteArray.empty], [], 0, 16, .str, false, false⟩),
  (2, ⟨1, false, [.int .i64 0], [], 0, 8, .int .i64, false, false⟩),
  (5, ⟨1, false, [.int .u8 0], [], 0, 1, .int .u8, false, false⟩),
  (12, ⟨1, false, [.int .u64 0], [], 0, 8, .int .u64, false, false⟩),
  (15, ⟨1, false, [.pointer none], [], 0, 8, .other, false, false⟩),
  (16, ⟨1, false, [.pointer none], [], 0, 8, .other, false, false⟩),
  (17, ⟨1, false, [.pointer none], [], 0, 8, .other, false, false⟩),
  (21, ⟨1, false, [.int .i32 0], [], 0, 4, .int .i32, false, false⟩),
  (22, ⟨1, false, [.slice none 0 0], [], 5, 24, .other, false, true⟩),
  (24, ⟨1, false, [.slice none 0 0], [], 72, 24, .other, false, true⟩),
  (25, ⟨1, true, [.slice none 0 0], [(0, 1)], 0, 24, .other, true, false⟩),
  (26, ⟨1, true, [.slice none 0 0], [(0, 1)], 0, 24, .other, true, false⟩),
  (28, ⟨1, false, [.slice none 0 0], [], 35, 24, .other, false, true⟩),
  (31, ⟨1, false, [.slice none 0 0], [], 3, 24, .other, false, true⟩),
  (34, ⟨2, true, [.string ByteArray.empty, .slice none 0 0], [(0, 1), (1, 1)], 0, 40, .other, true, false⟩),
  (35, ⟨2, true, [.string ByteArray.empty, .slice none 0 0], [(0, 1), (1, 1)], 0, 40, .other, true, false⟩),
  (36, ⟨1, false, [.slice none 0 0], [], 9, 24, .other, false, true⟩),
  (39, ⟨4, true, [.int .i64 0, .int .i64 0, .int .i64 0, .int .i64 0], [(0, 1), (1, 1), (2, 1), (3, 1)], 0, 32, .cells [.int, .int, .int, .int], true, false⟩),
  (40, ⟨4, true, [.int .i64 0, .int .i64 0, .int .i64 0, .int .i64 0], [(0, 1), (1, 1), (2, 1), (3, 1)], 0, 32, .cells [.int, .int, .int, .int], true, false⟩),
  (41, ⟨4, true, [.int .i64 0, .int .i64 0, .int .i64 0, .int .i64 0], [(0, 1), (1, 1), (2, 1), (3, 1)], 0, 32, .cells [.int, .int, .int, .int], true, false⟩),
  (42, ⟨4, true, [.int .i64 0, .int .i64 0, .int .i64 0, .int .i64 0], [(0, 1), (1, 1), (2, 1), (3, 1)], 0, 32, .cells [.int, .int, .int, .int], true, false⟩),
  (43, ⟨15, true, [.int .i64 0, .int .i64 0, .int .i64 0, .int .i64 0, .int .i64 0, .int .i64 0, .int .i64 0, .int .i64 0, .int .i64 0, .int .i64 0, .int .i64 0, .int .i64 0, .int .i64 0, .int .i64 0, .int .i64 0], [(0, 4), (4, 1), (5, 1), (6, 1), (7, 4), (11, 4)], 0, 120, .cells [.int, .int, .int, .int, .int, .int, .int, .int, .int, .int, .int, .int, .int, .int, .int], true, false⟩),
  (44, ⟨15, true, [.int .i64 0, .int .i64 0, .int .i64 0, .int .i64 0, .int .i64 0, .int .i64 0, .int .i64 0, .int .i64 0, .int .i64 0, .int .i64 0, .int .i64 0, .int .i64 0, .int .i64 0, .int .i64 0, .int .i64 0], [(0, 4), (4, 1), (5, 1), (6, 1), (7, 4), (11, 4)], 0, 120, .cells [.int, .int, .int, .int, .int, .int, .int, .int, .int, .int, .int, .int, .int, .int, .int], true, false⟩),
  (63, ⟨1, false, [.pointer none], [], 0, 8, .other, false, false⟩),
  (64, ⟨1, false, [.int .u64 0], [], 0, 8, .int .u64, false, false⟩),
  (65, ⟨3, true, [.slice none 0 0, .int .i64 0, .int .u64 0], [(0, 1), (1, 1), (2, 1)], 0, 40, .other, true, false⟩),
  (66, ⟨3, true, [.slice none 0 0, .int .i64 0, .int .u64 0], [(0, 1), (1, 1), (2, 1)], 0, 40, .other, true, false⟩),
  (71, ⟨18, true, [.int .i64 0, .string ByteArray.empty, .int .i64 0, .int .i64 0, .int .i64 0, .int .i64 0, .int .i64 0, .int .i64 0, .int .i64 0, .int .i64 0, .int .i64 0, .int .i64 0, .int .i64 0, .int .i64 0, .int .i64 0, .int .i64 0, .int .i64 0, .int .i64 0], [(0, 1), (1, 1), (2, 1), (3, 15)], 0, 152, .cells [.int, .str, .int, .int, .int, .int, .int, .int, .int, .int, .int, .int, .int, .int, .int, .int, .int, .int], true, false⟩),
  (72, ⟨18, true, [.int .i64 0, .string ByteArray.empty, .int .i64 0, .int .i64 0, .int .i64 0, .int .i64 0, .int .i64 0, .int .i64 0, .int .i64 0, .int .i64 0, .int .i64 0, .int .i64 0, .int .i64 0, .int .i64 0, .int .i64 0, .int .i64 0, .int .i64 0, .int .i64 0], [(0, 1), (1, 1), (2, 1), (3, 15)], 0, 152, .cells [.int, .str, .int, .int, .int, .int, .int, .int, .int, .int, .int, .int, .int, .int, .int, .int, .int, .int], true, false⟩),
  (99, ⟨3, true, [.string ByteArray.empty, .int .i64 0, .int .i64 0], [(0, 1), (1, 1), (2, 1)], 0, 32, .cells [.str, .int, .int], true, false⟩),
  (100, ⟨1, false, [.slice none 0 0], [], 99, 24, .other, false, true⟩),
  (112, ⟨1, false, [.slice none 0 0], [], 42, 24, .other, false, true⟩),
  (122, ⟨1, false, [.int .u64 0], [], 0, 8, .int .u64, false, false⟩),
  (137, ⟨1, false, [.int .u32 0], [], 0, 4, .int .u32, false, false⟩),
  (151, ⟨1, false, [.pointer none], [], 0, 8, .other, false, false⟩),
  (155, ⟨1, false, [.pointer none], [], 0, 8, .other, false, false⟩),
  (168, ⟨1, false, [.pointer none], [], 0, 8, .other, false, false⟩)]
def tab : Tab := ⟨tabL, false, 0⟩
def tabU : Tab := ⟨tabL, true, 0⟩
def tabO : Tab := ⟨tabL, false, 1⟩
def tabG : Tab := ⟨tabL, false, 3⟩
theorem TabOk.nil {P : Program} {u : Bool} {o : Nat} : TabOk P ⟨[], u, o⟩ := fun T i h => by simp [lk] at h
theorem TabOk.cons {P : Program} {T : Nat} {i : TI} {l : List (Nat × TI)} {u : Bool} {o : Nat} (h : TGood P T i) (r : TabOk P ⟨l, u, o⟩) : TabOk P ⟨(T, i) :: l, u, o⟩ := fun U j e => by
  rw [lk_cons] at e
  by_cases h0 : T = U
  · rw [if_pos h0] at e; injection e with e; subst e; subst h0; exact h
  · rw [if_neg h0] at e; exact r U j e
theorem tabOk : TabOk Tryz.prog tab := .cons tgood3 <| .cons tgood4 <| .cons tgood9 <| .cons tgood2 <| .cons tgood5 <| .cons tgood12 <| .cons tgood15 <| .cons tgood16 <| .cons tgood17 <| .cons tgood21 <| .cons tgood22 <| .cons tgood24 <| .cons tgood25 <| .cons tgood26 <| .cons tgood28 <| .cons tgood31 <| .cons tgood34 <| .cons tgood35 <| .cons tgood36 <| .cons tgood39 <| .cons tgood40 <| .cons tgood41 <| .cons tgood42 <| .cons tgood43 <| .cons tgood44 <| .cons tgood63 <| .cons tgood64 <| .cons tgood65 <| .cons tgood66 <| .cons tgood71 <| .cons tgood72 <| .cons tgood99 <| .cons tgood100 <| .cons tgood112 <| .cons tgood122 <| .cons tgood137 <| .cons tgood151 <| .cons tgood155 <| .cons tgood168 <| .nil
theorem tabOkU : TabOk Tryz.prog tabU := tabOk
theorem tabOkO : TabOk Tryz.prog tabO := tabOk
theorem tabOkG : TabOk Tryz.prog tabG := tabOk
theorem mixed : Tryz.prog.follows .mixedOrders = true := by kernel_rfl
theorem zqb {p : Prop} {_ : Decidable p} : decide p = false ↔ ¬ p := decide_eq_false_iff_not
theorem zqa {p : Prop} [Decidable p] : (decide p = true) = p := decide_eq_true_eq
theorem zqc (b : Bool) : ((!b) = true) = (b = false) := Bool.not_eq_true' _
theorem zqd (b : Bool) : ((!b) = false) = (b = true) := Bool.not_eq_false' _
theorem zqe (n : Nat) : Int.ofNat n = (n : Int) := rfl
theorem zqh {α : Type} [BEq α] [LawfulBEq α] {a b : α} : (a == b) = false ↔ a ≠ b := beq_eq_false_iff_ne
theorem zqi {α : Type} [BEq α] [LawfulBEq α] {a b : α} : (a != b) = false ↔ a = b := bne_eq_false_iff_eq
theorem zqf {α : Type} [BEq α] [LawfulBEq α] {a b : α} : (a == b) = true ↔ a = b := beq_iff_eq
theorem zqg {α : Type} [BEq α] [LawfulBEq α] {a b : α} : (a != b) = true ↔ a ≠ b := bne_iff_ne
theorem zqj {a : Prop} : ¬¬a ↔ a := Classical.not_not
theorem zqk (n : Nat) : (n : Int).toNat = n := Int.toNat_natCast _
theorem zql (n : Nat) : n ≤ n := Nat.le_refl _
theorem zqz : type_of% (And.intro @zql (And.intro @zqa (And.intro @zqb (And.intro @zqc (And.intro @zqd (And.intro @peta (And.intro @ncast (And.intro @zqe (And.intro @zqf (And.intro @zqg (And.intro @zqh (And.intro @zqi (And.intro @zqj @zqk))))))))))))) := And.intro @zql (And.intro @zqa (And.intro @zqb (And.intro @zqc (And.intro @zqd (And.intro @peta (And.intro @ncast (And.intro @zqe (And.intro @zqf (And.intro @zqg (And.intro @zqh (And.intro @zqi (And.intro @zqj @zqk))))))))))))
theorem zqw : type_of% (And.intro @and_true (And.intro @true_and (And.intro @List.length_nil.{0} (And.intro @List.length_cons.{0} (And.intro @Nat.zero_add (And.intro @ncast @zqe)))))) := And.intro @and_true (And.intro @true_and (And.intro @List.length_nil.{0} (And.intro @List.length_cons.{0} (And.intro @Nat.zero_add (And.intro @ncast @zqe)))))
theorem zqu : type_of% (And.intro @List.mem_cons.{0} (And.intro @List.not_mem_nil.{0} @or_false)) := And.intro @List.mem_cons.{0} (And.intro @List.not_mem_nil.{0} @or_false)
theorem zqt : type_of% (And.intro @Option.some.injEq.{0} @Prod.mk.injEq.{0, 0}) := And.intro @Option.some.injEq.{0} @Prod.mk.injEq.{0, 0}
end Go.Proofs.YtcjjffmbhionmaaGreatDoor.AM

