/- Lemmas and contracts (AmT); conditions: none. -/
import Derived.Test.YtmkniipdkanbbaaGreatDoorK03
import Derived.Test.YtmkniipdkanbbaaGreatDoorProg
set_option linter.unusedVariables false
set_option linter.unusedSimpArgs false
namespace Go.Proofs.YtmkniipdkanbbaaGreatDoor.AM
set_option maxRecDepth 100000
theorem tgood3 : TGood Tryz.prog 3 ⟨1, false, [.int .i64 0], [], 0, 8, .int .i64, false, false⟩ := ⟨by kernel_rfl, by kernel_rfl, by kernel_rfl, by kernel_rfl, by kernel_rfl, by simp, (by kernel_rfl : Tryz.prog.underlying 3 = some (.int (.i64)))⟩
theorem tgood4 : TGood Tryz.prog 4 ⟨1, false, [.bool false], [], 0, 1, .bool, false, false⟩ := ⟨by kernel_rfl, by kernel_rfl, by kernel_rfl, by kernel_rfl, by kernel_rfl, by simp, (by kernel_rfl : Tryz.prog.underlying 4 = some (.bool))⟩
theorem tgood9 : TGood Tryz.prog 9 ⟨1, false, [.string ByteArray.empty], [], 0, 16, .str, false, false⟩ := ⟨by kernel_rfl, by kernel_rfl, by kernel_rfl, by kernel_rfl, by kernel_rfl, by simp, (by kernel_rfl : Tryz.prog.underlying 9 = some (.string))⟩
theorem tgood1 : TGood Tryz.prog 1 ⟨1, false, [.nilFunc], [], 0, 8, .other, false, false⟩ := ⟨by kernel_rfl, by kernel_rfl, by kernel_rfl, by kernel_rfl, by kernel_rfl, by simp, trivial⟩
theorem tgood2 : TGood Tryz.prog 2 ⟨1, false, [.int .i64 0], [], 0, 8, .int .i64, false, false⟩ := ⟨by kernel_rfl, by kernel_rfl, by kernel_rfl, by kernel_rfl, by kernel_rfl, by simp, (by kernel_rfl : Tryz.prog.underlying 2 = some (.int (.i64)))⟩
theorem tgood5 : TGood Tryz.prog 5 ⟨1, false, [.int .u8 0], [], 0, 1, .int .u8, false, false⟩ := ⟨by kernel_rfl, by kernel_rfl, by kernel_rfl, by kernel_rfl, by kernel_rfl, by simp, (by kernel_rfl : Tryz.prog.underlying 5 = some (.int (.u8)))⟩
theorem tgood12 : TGood Tryz.prog 12 ⟨1, false, [.int .u64 0], [], 0, 8, .int .u64, false, false⟩ := ⟨by kernel_rfl, by kernel_rfl, by kernel_rfl, by kernel_rfl, by kernel_rfl, by simp, (by kernel_rfl : Tryz.prog.underlying 12 = some (.int (.u64)))⟩
theorem tgood15 : TGood Tryz.prog 15 ⟨1, false, [.pointer none], [], 0, 8, .other, false, false⟩ := ⟨by kernel_rfl, by kernel_rfl, by kernel_rfl, by kernel_rfl, by kernel_rfl, by simp, trivial⟩
theorem tgood16 : TGood Tryz.prog 16 ⟨1, false, [.pointer none], [], 0, 8, .other, false, false⟩ := ⟨by kernel_rfl, by kernel_rfl, by kernel_rfl, by kernel_rfl, by kernel_rfl, by simp, trivial⟩
theorem tgood17 : TGood Tryz.prog 17 ⟨1, false, [.pointer none], [], 0, 8, .other, false, false⟩ := ⟨by kernel_rfl, by kernel_rfl, by kernel_rfl, by kernel_rfl, by kernel_rfl, by simp, trivial⟩
theorem tgood21 : TGood Tryz.prog 21 ⟨1, false, [.int .i32 0], [], 0, 4, .int .i32, false, false⟩ := ⟨by kernel_rfl, by kernel_rfl, by kernel_rfl, by kernel_rfl, by kernel_rfl, by simp, (by kernel_rfl : Tryz.prog.underlying 21 = some (.int (.i32)))⟩
theorem tgood22 : TGood Tryz.prog 22 ⟨4, true, [.int .i64 0, .int .i64 0, .int .i64 0, .int .i64 0], [(0, 1), (1, 1), (2, 1), (3, 1)], 0, 32, .cells [.int, .int, .int, .int], true, false⟩ := ⟨by kernel_rfl, by kernel_rfl, by kernel_rfl, by kernel_rfl, by kernel_rfl, by simp, ⟨by kernel_rfl, by kernel_rfl, by kernel_rfl⟩⟩
theorem tgood23 : TGood Tryz.prog 23 ⟨4, true, [.int .i64 0, .int .i64 0, .int .i64 0, .int .i64 0], [(0, 1), (1, 1), (2, 1), (3, 1)], 0, 32, .cells [.int, .int, .int, .int], true, false⟩ := ⟨by kernel_rfl, by kernel_rfl, by kernel_rfl, by kernel_rfl, by kernel_rfl, by simp, ⟨by kernel_rfl, by kernel_rfl, by kernel_rfl⟩⟩
theorem tgood24 : TGood Tryz.prog 24 ⟨4, true, [.int .i64 0, .int .i64 0, .int .i64 0, .int .i64 0], [(0, 1), (1, 1), (2, 1), (3, 1)], 0, 32, .cells [.int, .int, .int, .int], true, false⟩ := ⟨by kernel_rfl, by kernel_rfl, by kernel_rfl, by kernel_rfl, by kernel_rfl, by simp, ⟨by kernel_rfl, by kernel_rfl, by kernel_rfl⟩⟩
theorem tgood25 : TGood Tryz.prog 25 ⟨4, true, [.int .i64 0, .int .i64 0, .int .i64 0, .int .i64 0], [(0, 1), (1, 1), (2, 1), (3, 1)], 0, 32, .cells [.int, .int, .int, .int], true, false⟩ := ⟨by kernel_rfl, by kernel_rfl, by kernel_rfl, by kernel_rfl, by kernel_rfl, by simp, ⟨by kernel_rfl, by kernel_rfl, by kernel_rfl⟩⟩
theorem tgood26 : TGood Tryz.prog 26 ⟨15, true, [.int .i64 0, .int .i64 0, .int .i64 0, .int .i64 0, .int .i64 0, .int .i64 0, .int .i64 0, .int .i64 0, .int .i64 0, .int .i64 0, .int .i64 0, .int .i64 0, .int .i64 0, .int .i64 0, .int .i64 0], [(0, 4), (4, 1), (5, 1), (6, 1), (7, 4), (11, 4)], 0, 120, .cells [.int, .int, .int, .int, .int, .int, .int, .int, .int, .int, .int, .int, .int, .int, .int], true, false⟩ := ⟨by kernel_rfl, by kernel_rfl, by kernel_rfl, by kernel_rfl, by kernel_rfl, by simp, ⟨by kernel_rfl, by kernel_rfl, by kernel_rfl⟩⟩
theorem tgood27 : TGood Tryz.prog 27 ⟨15, true, [.int .i64 0, .int .i64 0, .int .i64 0, .int .i64 0, .int .i64 0, .int .i64 0, .int .i64 0, .int .i64 0, .int .i64 0, .int .i64 0, .int .i64 0, .int .i64 0, .int .i64 0, .int .i64 0, .int .i64 0], [(0, 4), (4, 1), (5, 1), (6, 1), (7, 4), (11, 4)], 0, 120, .cells [.int, .int, .int, .int, .int, .int, .int, .int, .int, .int, .int, .int, .int, .int, .int], true, false⟩ := ⟨by kernel_rfl, by kernel_rfl, by kernel_rfl, by kernel_rfl, by kernel_rfl, by simp, ⟨by kernel_rfl, by kernel_rfl, by kernel_rfl⟩⟩
theorem tgood28 : TGood Tryz.prog 28 ⟨1, false, [.slice none 0 0], [], 56, 24, .other, false, true⟩ := ⟨by kernel_rfl, by kernel_rfl, by kernel_rfl, by kernel_rfl, by kernel_rfl, fun _ => by kernel_rfl, trivial⟩
theorem tgood29 : TGood Tryz.prog 29 ⟨16, true, [.int .i64 0, .int .i64 0, .int .i64 0, .int .i64 0, .int .i64 0, .int .i64 0, .int .i64 0, .int .i64 0, .int .i64 0, .int .i64 0, .int .i64 0, .int .i64 0, .int .i64 0, .int .i64 0, .int .i64 0, .slice none 0 0], [(0, 15), (15, 1)], 0, 144, .other, true, false⟩ := ⟨by kernel_rfl, by kernel_rfl, by kernel_rfl, by kernel_rfl, by kernel_rfl, by simp, trivial⟩
theorem tgood30 : TGood Tryz.prog 30 ⟨16, true, [.int .i64 0, .int .i64 0, .int .i64 0, .int .i64 0, .int .i64 0, .int .i64 0, .int .i64 0, .int .i64 0, .int .i64 0, .int .i64 0, .int .i64 0, .int .i64 0, .int .i64 0, .int .i64 0, .int .i64 0, .slice none 0 0], [(0, 15), (15, 1)], 0, 144, .other, true, false⟩ := ⟨by kernel_rfl, by kernel_rfl, by kernel_rfl, by kernel_rfl, by kernel_rfl, by simp, trivial⟩
theorem tgood32 : TGood Tryz.prog 32 ⟨1, false, [.nilFunc], [], 0, 8, .other, false, false⟩ := ⟨by kernel_rfl, by kernel_rfl, by kernel_rfl, by kernel_rfl, by kernel_rfl, by simp, trivial⟩
theorem tgood33 : TGood Tryz.prog 33 ⟨1, false, [.nilFunc], [], 0, 8, .other, false, false⟩ := ⟨by kernel_rfl, by kernel_rfl, by kernel_rfl, by kernel_rfl, by kernel_rfl, by simp, trivial⟩
theorem tgood34 : TGood Tryz.prog 34 ⟨1, false, [.nilFunc], [], 0, 8, .other, false, false⟩ := ⟨by kernel_rfl, by kernel_rfl, by kernel_rfl, by kernel_rfl, by kernel_rfl, by simp, trivial⟩
theorem tgood35 : TGood Tryz.prog 35 ⟨1, false, [.nilFunc], [], 0, 8, .other, false, false⟩ := ⟨by kernel_rfl, by kernel_rfl, by kernel_rfl, by kernel_rfl, by kernel_rfl, by simp, trivial⟩
theorem tgood36 : TGood Tryz.prog 36 ⟨1, false, [.slice none 0 0], [], 5, 24, .other, false, true⟩ := ⟨by kernel_rfl, by kernel_rfl, by kernel_rfl, by kernel_rfl, by kernel_rfl, fun _ => by kernel_rfl, trivial⟩
theorem tgood37 : TGood Tryz.prog 37 ⟨1, false, [.nilFunc], [], 0, 8, .other, false, false⟩ := ⟨by kernel_rfl, by kernel_rfl, by kernel_rfl, by kernel_rfl, by kernel_rfl, by simp, trivial⟩
theorem tgood38 : TGood Tryz.prog 38 ⟨1, false, [.nilFunc], [], 0, 8, .other, false, false⟩ := ⟨by kernel_rfl, by kernel_rfl, by kernel_rfl, by kernel_rfl, by kernel_rfl, by simp, trivial⟩
theorem tgood40 : TGood Tryz.prog 40 ⟨1, false, [.nilFunc], [], 0, 8, .other, false, false⟩ := ⟨by kernel_rfl, by kernel_rfl, by kernel_rfl, by kernel_rfl, by kernel_rfl, by simp, trivial⟩
theorem tgood41 : TGood Tryz.prog 41 ⟨1, false, [.nilFunc], [], 0, 8, .other, false, false⟩ := ⟨by kernel_rfl, by kernel_rfl, by kernel_rfl, by kernel_rfl, by kernel_rfl, by simp, trivial⟩
theorem tgood42 : TGood Tryz.prog 42 ⟨1, false, [.nilFunc], [], 0, 8, .other, false, false⟩ := ⟨by kernel_rfl, by kernel_rfl, by kernel_rfl, by kernel_rfl, by kernel_rfl, by simp, trivial⟩
theorem tgood43 : TGood Tryz.prog 43 ⟨1, false, [.nilFunc], [], 0, 8, .other, false, false⟩ := ⟨by kernel_rfl, by kernel_rfl, by kernel_rfl, by kernel_rfl, by kernel_rfl, by simp, trivial⟩
theorem tgood44 : TGood Tryz.prog 44 ⟨1, false, [.nilFunc], [], 0, 8, .other, false, false⟩ := ⟨by kernel_rfl, by kernel_rfl, by kernel_rfl, by kernel_rfl, by kernel_rfl, by simp, trivial⟩
theorem tgood46 : TGood Tryz.prog 46 ⟨1, false, [.nilFunc], [], 0, 8, .other, false, false⟩ := ⟨by kernel_rfl, by kernel_rfl, by kernel_rfl, by kernel_rfl, by kernel_rfl, by simp, trivial⟩
theorem tgood47 : TGood Tryz.prog 47 ⟨1, false, [.nilFunc], [], 0, 8, .other, false, false⟩ := ⟨by kernel_rfl, by kernel_rfl, by kernel_rfl, by kernel_rfl, by kernel_rfl, by simp, trivial⟩
theorem tgood48 : TGood Tryz.prog 48 ⟨1, false, [.nilFunc], [], 0, 8, .other, false, false⟩ := ⟨by kernel_rfl, by kernel_rfl, by kernel_rfl, by kernel_rfl, by kernel_rfl, by simp, trivial⟩
theorem tgood49 : TGood Tryz.prog 49 ⟨1, false, [.nilFunc], [], 0, 8, .other, false, false⟩ := ⟨by kernel_rfl, by kernel_rfl, by kernel_rfl, by kernel_rfl, by kernel_rfl, by simp, trivial⟩
theorem tgood50 : TGood Tryz.prog 50 ⟨5, true, [.string ByteArray.empty, .string ByteArray.empty, .string ByteArray.empty, .string ByteArray.empty, .bool false], [(0, 1), (1, 1), (2, 1), (3, 1), (4, 1)], 0, 72, .cells [.str, .str, .str, .str, .bool], true, false⟩ := ⟨by kernel_rfl, by kernel_rfl, by kernel_rfl, by kernel_rfl, by kernel_rfl, by simp, ⟨by kernel_rfl, by kernel_rfl, by kernel_rfl⟩⟩
theorem tgood51 : TGood Tryz.prog 51 ⟨5, true, [.string ByteArray.empty, .string ByteArray.empty, .string ByteArray.empty, .string ByteArray.empty, .bool false], [(0, 1), (1, 1), (2, 1), (3, 1), (4, 1)], 0, 72, .cells [.str, .str, .str, .str, .bool], true, false⟩ := ⟨by kernel_rfl, by kernel_rfl, by kernel_rfl, by kernel_rfl, by kernel_rfl, by simp, ⟨by kernel_rfl, by kernel_rfl, by kernel_rfl⟩⟩
theorem tgood52 : TGood Tryz.prog 52 ⟨1, false, [.nilFunc], [], 0, 8, .other, false, false⟩ := ⟨by kernel_rfl, by kernel_rfl, by kernel_rfl, by kernel_rfl, by kernel_rfl, by simp, trivial⟩
theorem tgood53 : TGood Tryz.prog 53 ⟨1, false, [.pointer none], [], 0, 8, .other, false, false⟩ := ⟨by kernel_rfl, by kernel_rfl, by kernel_rfl, by kernel_rfl, by kernel_rfl, by simp, trivial⟩
theorem tgood54 : TGood Tryz.prog 54 ⟨1, false, [.slice none 0 0], [], 53, 24, .other, false, true⟩ := ⟨by kernel_rfl, by kernel_rfl, by kernel_rfl, by kernel_rfl, by kernel_rfl, fun _ => by kernel_rfl, trivial⟩
theorem tgood55 : TGood Tryz.prog 55 ⟨2, true, [.int .i64 0, .int .i64 0], [(0, 1), (1, 1)], 0, 16, .cells [.int, .int], true, false⟩ := ⟨by kernel_rfl, by kernel_rfl, by kernel_rfl, by kernel_rfl, by kernel_rfl, by simp, ⟨by kernel_rfl, by kernel_rfl, by kernel_rfl⟩⟩
theorem tgood56 : TGood Tryz.prog 56 ⟨2, true, [.int .i64 0, .int .i64 0], [(0, 1), (1, 1)], 0, 16, .cells [.int, .int], true, false⟩ := ⟨by kernel_rfl, by kernel_rfl, by kernel_rfl, by kernel_rfl, by kernel_rfl, by simp, ⟨by kernel_rfl, by kernel_rfl, by kernel_rfl⟩⟩
theorem tgood58 : TGood Tryz.prog 58 ⟨1, false, [.nilFunc], [], 0, 8, .other, false, false⟩ := ⟨by kernel_rfl, by kernel_rfl, by kernel_rfl, by kernel_rfl, by kernel_rfl, by simp, trivial⟩
theorem tgood59 : TGood Tryz.prog 59 ⟨1, false, [.nilFunc], [], 0, 8, .other, false, false⟩ := ⟨by kernel_rfl, by kernel_rfl, by kernel_rfl, by kernel_rfl, by kernel_rfl, by simp, trivial⟩
theorem tgood60 : TGood Tryz.prog 60 ⟨1, false, [.nilFunc], [], 0, 8, .other, false, false⟩ := ⟨by kernel_rfl, by kernel_rfl, by kernel_rfl, by kernel_rfl, by kernel_rfl, by simp, trivial⟩
theorem tgood61 : TGood Tryz.prog 61 ⟨1, false, [.nilFunc], [], 0, 8, .other, false, false⟩ := ⟨by kernel_rfl, by kernel_rfl, by kernel_rfl, by kernel_rfl, by kernel_rfl, by simp, trivial⟩
theorem tgood62 : TGood Tryz.prog 62 ⟨1, false, [.nilFunc], [], 0, 8, .other, false, false⟩ := ⟨by kernel_rfl, by kernel_rfl, by kernel_rfl, by kernel_rfl, by kernel_rfl, by simp, trivial⟩
theorem tgood63 : TGood Tryz.prog 63 ⟨1, false, [.nilFunc], [], 0, 8, .other, false, false⟩ := ⟨by kernel_rfl, by kernel_rfl, by kernel_rfl, by kernel_rfl, by kernel_rfl, by simp, trivial⟩
theorem tgood64 : TGood Tryz.prog 64 ⟨1, false, [.nilFunc], [], 0, 8, .other, false, false⟩ := ⟨by kernel_rfl, by kernel_rfl, by kernel_rfl, by kernel_rfl, by kernel_rfl, by simp, trivial⟩
theorem tgood65 : TGood Tryz.prog 65 ⟨1, false, [.nilFunc], [], 0, 8, .other, false, false⟩ := ⟨by kernel_rfl, by kernel_rfl, by kernel_rfl, by kernel_rfl, by kernel_rfl, by simp, trivial⟩
theorem tgood66 : TGood Tryz.prog 66 ⟨1, false, [.slice none 0 0], [], 69, 24, .other, false, true⟩ := ⟨by kernel_rfl, by kernel_rfl, by kernel_rfl, by kernel_rfl, by kernel_rfl, fun _ => by kernel_rfl, trivial⟩
theorem tgood67 : TGood Tryz.prog 67 ⟨1, false, [.nilFunc], [], 0, 8, .other, false, false⟩ := ⟨by kernel_rfl, by kernel_rfl, by kernel_rfl, by kernel_rfl, by kernel_rfl, by simp, trivial⟩
theorem tgood68 : TGood Tryz.prog 68 ⟨1, false, [.nilFunc], [], 0, 8, .other, false, false⟩ := ⟨by kernel_rfl, by kernel_rfl, by kernel_rfl, by kernel_rfl, by kernel_rfl, by simp, trivial⟩
theorem tgood69 : TGood Tryz.prog 69 ⟨1, false, [.pointer none], [], 0, 8, .other, false, false⟩ := ⟨by kernel_rfl, by kernel_rfl, by kernel_rfl, by kernel_rfl, by kernel_rfl, by simp, trivial⟩
theorem tgood70 : TGood Tryz.prog 70 ⟨1, false, [.nilFunc], [], 0, 8, .other, false, false⟩ := ⟨by kernel_rfl, by kernel_rfl, by kernel_rfl, by kernel_rfl, by kernel_rfl, by simp, trivial⟩
theorem tgood71 : TGood Tryz.prog 71 ⟨1, false, [.pointer none], [], 0, 8, .other, false, false⟩ := ⟨by kernel_rfl, by kernel_rfl, by kernel_rfl, by kernel_rfl, by kernel_rfl, by simp, trivial⟩
theorem tgood72 : TGood Tryz.prog 72 ⟨1, false, [.int .u64 0], [], 0, 8, .int .u64, false, false⟩ := ⟨by kernel_rfl, by kernel_rfl, by kernel_rfl, by kernel_rfl, by kernel_rfl, by simp, (by kernel_rfl : Tryz.prog.underlying 72 = some (.int (.u64)))⟩
theorem tgood73 : TGood Tryz.prog 73 ⟨3, true, [.slice none 0 0, .int .i64 0, .int .u64 0], [(0, 1), (1, 1), (2, 1)], 0, 40, .other, true, false⟩ := ⟨by kernel_rfl, by kernel_rfl, by kernel_rfl, by kernel_rfl, by kernel_rfl, by simp, trivial⟩
theorem tgood74 : TGood Tryz.prog 74 ⟨3, true, [.slice none 0 0, .int .i64 0, .int .u64 0], [(0, 1), (1, 1), (2, 1)], 0, 40, .other, true, false⟩ := ⟨by kernel_rfl, by kernel_rfl, by kernel_rfl, by kernel_rfl, by kernel_rfl, by simp, trivial⟩
theorem tgood75 : TGood Tryz.prog 75 ⟨1, false, [.nilFunc], [], 0, 8, .other, false, false⟩ := ⟨by kernel_rfl, by kernel_rfl, by kernel_rfl, by kernel_rfl, by kernel_rfl, by simp, trivial⟩
theorem tgood76 : TGood Tryz.prog 76 ⟨1, false, [.nilFunc], [], 0, 8, .other, false, false⟩ := ⟨by kernel_rfl, by kernel_rfl, by kernel_rfl, by kernel_rfl, by kernel_rfl, by simp, trivial⟩
theorem tgood77 : TGood Tryz.prog 77 ⟨1, false, [.nilFunc], [], 0, 8, .other, false, false⟩ := ⟨by kernel_rfl, by kernel_rfl, by kernel_rfl, by kernel_rfl, by kernel_rfl, by simp, trivial⟩
theorem tgood78 : TGood Tryz.prog 78 ⟨1, false, [.nilFunc], [], 0, 8, .other, false, false⟩ := ⟨by kernel_rfl, by kernel_rfl, by kernel_rfl, by kernel_rfl, by kernel_rfl, by simp, trivial⟩
theorem tgood79 : TGood Tryz.prog 79 ⟨1, false, [.slice none 0 0], [], 3, 24, .other, false, true⟩ := ⟨by kernel_rfl, by kernel_rfl, by kernel_rfl, by kernel_rfl, by kernel_rfl, fun _ => by kernel_rfl, trivial⟩
theorem tgood81 : TGood Tryz.prog 81 ⟨1, false, [.nilFunc], [], 0, 8, .other, false, false⟩ := ⟨by kernel_rfl, by kernel_rfl, by kernel_rfl, by kernel_rfl, by kernel_rfl, by simp, trivial⟩
theorem tgood82 : TGood Tryz.prog 82 ⟨1, false, [.nilFunc], [], 0, 8, .other, false, false⟩ := ⟨by kernel_rfl, by kernel_rfl, by kernel_rfl, by kernel_rfl, by kernel_rfl, by simp, trivial⟩
theorem tgood83 : TGood Tryz.prog 83 ⟨1, false, [.nilFunc], [], 0, 8, .other, false, false⟩ := ⟨by kernel_rfl, by kernel_rfl, by kernel_rfl, by kernel_rfl, by kernel_rfl, by simp, trivial⟩
theorem tgood85 : TGood Tryz.prog 85 ⟨1, false, [.nilFunc], [], 0, 8, .other, false, false⟩ := ⟨by kernel_rfl, by kernel_rfl, by kernel_rfl, by kernel_rfl, by kernel_rfl, by simp, trivial⟩
theorem tgood87 : TGood Tryz.prog 87 ⟨1, false, [.nilFunc], [], 0, 8, .other, false, false⟩ := ⟨by kernel_rfl, by kernel_rfl, by kernel_rfl, by kernel_rfl, by kernel_rfl, by simp, trivial⟩
theorem tgood89 : TGood Tryz.prog 89 ⟨1, false, [.nilFunc], [], 0, 8, .other, false, false⟩ := ⟨by kernel_rfl, by kernel_rfl, by kernel_rfl, by kernel_rfl, by kernel_rfl, by simp, trivial⟩
theorem tgood91 : TGood Tryz.prog 91 ⟨1, false, [.nilFunc], [], 0, 8, .other, false, false⟩ := ⟨by kernel_rfl, by kernel_rfl, by kernel_rfl, by kernel_rfl, by kernel_rfl, by simp, trivial⟩
theorem tgood92 : TGood Tryz.prog 92 ⟨1, false, [.slice none 0 0], [], 9, 24, .other, false, true⟩ := ⟨by kernel_rfl, by kernel_rfl, by kernel_rfl, by kernel_rfl, by kernel_rfl, fun _ => by kernel_rfl, trivial⟩
theorem tgood93 : TGood Tryz.prog 93 ⟨1, false, [.nilFunc], [], 0, 8, .other, false, false⟩ := ⟨by kernel_rfl, by kernel_rfl, by kernel_rfl, by kernel_rfl, by kernel_rfl, by simp, trivial⟩
theorem tgood94 : TGood Tryz.prog 94 ⟨1, false, [.nilFunc], [], 0, 8, .other, false, false⟩ := ⟨by kernel_rfl, by kernel_rfl, by kernel_rfl, by kernel_rfl, by kernel_rfl, by simp, trivial⟩
theorem tgood95 : TGood Tryz.prog 95 ⟨1, false, [.nilFunc], [], 0, 8, .other, false, false⟩ := ⟨by kernel_rfl, by kernel_rfl, by kernel_rfl, by kernel_rfl, by kernel_rfl, by simp, trivial⟩
theorem tgood96 : TGood Tryz.prog 96 ⟨1, false, [.nilFunc], [], 0, 8, .other, false, false⟩ := ⟨by kernel_rfl, by kernel_rfl, by kernel_rfl, by kernel_rfl, by kernel_rfl, by simp, trivial⟩
theorem tgood97 : TGood Tryz.prog 97 ⟨1, false, [.nilFunc], [], 0, 8, .other, false, false⟩ := ⟨by kernel_rfl, by kernel_rfl, by kernel_rfl, by kernel_rfl, by kernel_rfl, by simp, trivial⟩
theorem tgood99 : TGood Tryz.prog 99 ⟨1, false, [.nilFunc], [], 0, 8, .other, false, false⟩ := ⟨by kernel_rfl, by kernel_rfl, by kernel_rfl, by kernel_rfl, by kernel_rfl, by simp, trivial⟩
theorem tgood101 : TGood Tryz.prog 101 ⟨1, false, [.nilFunc], [], 0, 8, .other, false, false⟩ := ⟨by kernel_rfl, by kernel_rfl, by kernel_rfl, by kernel_rfl, by kernel_rfl, by simp, trivial⟩
theorem tgood102 : TGood Tryz.prog 102 ⟨1, false, [.nilFunc], [], 0, 8, .other, false, false⟩ := ⟨by kernel_rfl, by kernel_rfl, by kernel_rfl, by kernel_rfl, by kernel_rfl, by simp, trivial⟩
theorem tgood103 : TGood Tryz.prog 103 ⟨1, false, [.nilFunc], [], 0, 8, .other, false, false⟩ := ⟨by kernel_rfl, by kernel_rfl, by kernel_rfl, by kernel_rfl, by kernel_rfl, by simp, trivial⟩
theorem tgood104 : TGood Tryz.prog 104 ⟨1, false, [.nilFunc], [], 0, 8, .other, false, false⟩ := ⟨by kernel_rfl, by kernel_rfl, by kernel_rfl, by kernel_rfl, by kernel_rfl, by simp, trivial⟩
theorem tgood105 : TGood Tryz.prog 105 ⟨1, false, [.nilFunc], [], 0, 8, .other, false, false⟩ := ⟨by kernel_rfl, by kernel_rfl, by kernel_rfl, by kernel_rfl, by kernel_rfl, by simp, trivial⟩
theorem tgood106 : TGood Tryz.prog 106 ⟨1, false, [.nilFunc], [], 0, 8, .other, false, false⟩ := ⟨by kernel_rfl, by kernel_rfl, by kernel_rfl, by kernel_rfl, by kernel_rfl, by simp, trivial⟩
theorem tgood107 : TGood Tryz.prog 107 ⟨1, false, [.nilFunc], [], 0, 8, .other, false, false⟩ := ⟨by kernel_rfl, by kernel_rfl, by kernel_rfl, by kernel_rfl, by kernel_rfl, by simp, trivial⟩
theorem tgood108 : TGood Tryz.prog 108 ⟨1, false, [.nilFunc], [], 0, 8, .other, false, false⟩ := ⟨by kernel_rfl, by kernel_rfl, by kernel_rfl, by kernel_rfl, by kernel_rfl, by simp, trivial⟩
theorem tgood109 : TGood Tryz.prog 109 ⟨1, false, [.nilFunc], [], 0, 8, .other, false, false⟩ := ⟨by kernel_rfl, by kernel_rfl, by kernel_rfl, by kernel_rfl, by kernel_rfl, by simp, trivial⟩
theorem tgood110 : TGood Tryz.prog 110 ⟨1, false, [.nilFunc], [], 0, 8, .other, false, false⟩ := ⟨by kernel_rfl, by kernel_rfl, by kernel_rfl, by kernel_rfl, by kernel_rfl, by simp, trivial⟩
theorem tgood111 : TGood Tryz.prog 111 ⟨1, false, [.nilFunc], [], 0, 8, .other, false, false⟩ := ⟨by kernel_rfl, by kernel_rfl, by kernel_rfl, by kernel_rfl, by kernel_rfl, by simp, trivial⟩
theorem tgood112 : TGood Tryz.prog 112 ⟨1, false, [.pointer none], [], 0, 8, .other, false, false⟩ := ⟨by kernel_rfl, by kernel_rfl, by kernel_rfl, by kernel_rfl, by kernel_rfl, by simp, trivial⟩
theorem tgood113 : TGood Tryz.prog 113 ⟨1, false, [.nilFunc], [], 0, 8, .other, false, false⟩ := ⟨by kernel_rfl, by kernel_rfl, by kernel_rfl, by kernel_rfl, by kernel_rfl, by simp, trivial⟩
theorem tgood114 : TGood Tryz.prog 114 ⟨1, false, [.nilFunc], [], 0, 8, .other, false, false⟩ := ⟨by kernel_rfl, by kernel_rfl, by kernel_rfl, by kernel_rfl, by kernel_rfl, by simp, trivial⟩
theorem tgood115 : TGood Tryz.prog 115 ⟨1, false, [.nilFunc], [], 0, 8, .other, false, false⟩ := ⟨by kernel_rfl, by kernel_rfl, by kernel_rfl, by kernel_rfl, by kernel_rfl, by simp, trivial⟩
theorem tgood116 : TGood Tryz.prog 116 ⟨1, false, [.nilFunc], [], 0, 8, .other, false, false⟩ := ⟨by kernel_rfl, by kernel_rfl, by kernel_rfl, by kernel_rfl, by kernel_rfl, by simp, trivial⟩
theorem tgood117 : TGood Tryz.prog 117 ⟨1, false, [.nilFunc], [], 0, 8, .other, false, false⟩ := ⟨by kernel_rfl, by kernel_rfl, by kernel_rfl, by kernel_rfl, by kernel_rfl, by simp, trivial⟩
theorem tgood118 : TGood Tryz.prog 118 ⟨1, false, [.nilFunc], [], 0, 8, .other, false, false⟩ := ⟨by kernel_rfl, by kernel_rfl, by kernel_rfl, by kernel_rfl, by kernel_rfl, by simp, trivial⟩
theorem tgood119 : TGood Tryz.prog 119 ⟨1, false, [.nilFunc], [], 0, 8, .other, false, false⟩ := ⟨by kernel_rfl, by kernel_rfl, by kernel_rfl, by kernel_rfl, by kernel_rfl, by simp, trivial⟩
theorem tgood120 : TGood Tryz.prog 120 ⟨1, false, [.nilFunc], [], 0, 8, .other, false, false⟩ := ⟨by kernel_rfl, by kernel_rfl, by kernel_rfl, by kernel_rfl, by kernel_rfl, by simp, trivial⟩
theorem tgood121 : TGood Tryz.prog 121 ⟨1, false, [.nilFunc], [], 0, 8, .other, false, false⟩ := ⟨by kernel_rfl, by kernel_rfl, by kernel_rfl, by kernel_rfl, by kernel_rfl, by simp, trivial⟩
theorem tgood122 : TGood Tryz.prog 122 ⟨1, false, [.nilFunc], [], 0, 8, .other, false, false⟩ := ⟨by kernel_rfl, by kernel_rfl, by kernel_rfl, by kernel_rfl, by kernel_rfl, by simp, trivial⟩
theorem tgood123 : TGood Tryz.prog 123 ⟨1, false, [.nilFunc], [], 0, 8, .other, false, false⟩ := ⟨by kernel_rfl, by kernel_rfl, by kernel_rfl, by kernel_rfl, by kernel_rfl, by simp, trivial⟩
theorem tgood124 : TGood Tryz.prog 124 ⟨1, false, [.nilFunc], [], 0, 8, .other, false, false⟩ := ⟨by kernel_rfl, by kernel_rfl, by kernel_rfl, by kernel_rfl, by kernel_rfl, by simp, trivial⟩
theorem tgood126 : TGood Tryz.prog 126 ⟨1, false, [.nilFunc], [], 0, 8, .other, false, false⟩ := ⟨by kernel_rfl, by kernel_rfl, by kernel_rfl, by kernel_rfl, by kernel_rfl, by simp, trivial⟩
theorem tgood127 : TGood Tryz.prog 127 ⟨1, false, [.nilFunc], [], 0, 8, .other, false, false⟩ := ⟨by kernel_rfl, by kernel_rfl, by kernel_rfl, by kernel_rfl, by kernel_rfl, by simp, trivial⟩
theorem tgood128 : TGood Tryz.prog 128 ⟨1, false, [.nilFunc], [], 0, 8, .other, false, false⟩ := ⟨by kernel_rfl, by kernel_rfl, by kernel_rfl, by kernel_rfl, by kernel_rfl, by simp, trivial⟩
theorem tgood129 : TGood Tryz.prog 129 ⟨1, false, [.nilFunc], [], 0, 8, .other, false, false⟩ := ⟨by kernel_rfl, by kernel_rfl, by kernel_rfl, by kernel_rfl, by kernel_rfl, by simp, trivial⟩
theorem tgood130 : TGood Tryz.prog 130 ⟨1, false, [.nilFunc], [], 0, 8, .other, false, false⟩ := ⟨by kernel_rfl, by kernel_rfl, by kernel_rfl, by kernel_rfl, by kernel_rfl, by simp, trivial⟩
theorem tgood131 : TGood Tryz.prog 131 ⟨1, false, [.nilFunc], [], 0, 8, .other, false, false⟩ := ⟨by kernel_rfl, by kernel_rfl, by kernel_rfl, by kernel_rfl, by kernel_rfl, by simp, trivial⟩
theorem tgood133 : TGood Tryz.prog 133 ⟨1, false, [.nilFunc], [], 0, 8, .other, false, false⟩ := ⟨by kernel_rfl, by kernel_rfl, by kernel_rfl, by kernel_rfl, by kernel_rfl, by simp, trivial⟩
theorem tgood135 : TGood Tryz.prog 135 ⟨1, false, [.nilFunc], [], 0, 8, .other, false, false⟩ := ⟨by kernel_rfl, by kernel_rfl, by kernel_rfl, by kernel_rfl, by kernel_rfl, by simp, trivial⟩
theorem tgood136 : TGood Tryz.prog 136 ⟨1, false, [.nilFunc], [], 0, 8, .other, false, false⟩ := ⟨by kernel_rfl, by kernel_rfl, by kernel_rfl, by kernel_rfl, by kernel_rfl, by simp, trivial⟩
theorem tgood137 : TGood Tryz.prog 137 ⟨1, false, [.nilFunc], [], 0, 8, .other, false, false⟩ := ⟨by kernel_rfl, by kernel_rfl, by kernel_rfl, by kernel_rfl, by kernel_rfl, by simp, trivial⟩
theorem tgood138 : TGood Tryz.prog 138 ⟨1, false, [.nilFunc], [], 0, 8, .other, false, false⟩ := ⟨by kernel_rfl, by kernel_rfl, by kernel_rfl, by kernel_rfl, by kernel_rfl, by simp, trivial⟩
theorem tgood139 : TGood Tryz.prog 139 ⟨1, false, [.nilFunc], [], 0, 8, .other, false, false⟩ := ⟨by kernel_rfl, by kernel_rfl, by kernel_rfl, by kernel_rfl, by kernel_rfl, by simp, trivial⟩
theorem tgood140 : TGood Tryz.prog 140 ⟨1, false, [.nilFunc], [], 0, 8, .other, false, false⟩ := ⟨by kernel_rfl, by kernel_rfl, by kernel_rfl, by kernel_rfl, by kernel_rfl, by simp, trivial⟩
theorem tgood141 : TGood Tryz.prog 141 ⟨1, false, [.nilFunc], [], 0, 8, .other, false, false⟩ := ⟨by kernel_rfl, by kernel_rfl, by kernel_rfl, by kernel_rfl, by kernel_rfl, by simp, trivial⟩
theorem tgood142 : TGood Tryz.prog 142 ⟨1, false, [.nilFunc], [], 0, 8, .other, false, false⟩ := ⟨by kernel_rfl, by kernel_rfl, by kernel_rfl, by kernel_rfl, by kernel_rfl, by simp, trivial⟩
theorem tgood143 : TGood Tryz.prog 143 ⟨1, false, [.nilFunc], [], 0, 8, .other, false, false⟩ := ⟨by kernel_rfl, by kernel_rfl, by kernel_rfl, by kernel_rfl, by kernel_rfl, by simp, trivial⟩
theorem tgood144 : TGood Tryz.prog 144 ⟨1, false, [.nilFunc], [], 0, 8, .other, false, false⟩ := ⟨by kernel_rfl, by kernel_rfl, by kernel_rfl, by kernel_rfl, by kernel_rfl, by simp, trivial⟩
theorem tgood145 : TGood Tryz.prog 145 ⟨1, false, [.nilFunc], [], 0, 8, .other, false, false⟩ := ⟨by kernel_rfl, by kernel_rfl, by kernel_rfl, by kernel_rfl, by kernel_rfl, by simp, trivial⟩
theorem tgood146 : TGood Tryz.prog 146 ⟨1, false, [.nilFunc], [], 0, 8, .other, false, false⟩ := ⟨by kernel_rfl, by kernel_rfl, by kernel_rfl, by kernel_rfl, by kernel_rfl, by simp, trivial⟩
theorem tgood147 : TGood Tryz.prog 147 ⟨1, false, [.nilFunc], [], 0, 8, .other, false, false⟩ := ⟨by kernel_rfl, by kernel_rfl, by kernel_rfl, by kernel_rfl, by kernel_rfl, by simp, trivial⟩
theorem tgood148 : TGood Tryz.prog 148 ⟨1, false, [.nilFunc], [], 0, 8, .other, false, false⟩ := ⟨by kernel_rfl, by kernel_rfl, by kernel_rfl, by kernel_rfl, by kernel_rfl, by simp, trivial⟩
theorem tgood149 : TGood Tryz.prog 149 ⟨1, false, [.nilFunc], [], 0, 8, .other, false, false⟩ := ⟨by kernel_rfl, by kernel_rfl, by kernel_rfl, by kernel_rfl, by kernel_rfl, by simp, trivial⟩
theorem tgood150 : TGood Tryz.prog 150 ⟨1, false, [.nilFunc], [], 0, 8, .other, false, false⟩ := ⟨by kernel_rfl, by kernel_rfl, by kernel_rfl, by kernel_rfl, by kernel_rfl, by simp, trivial⟩
theorem tgood151 : TGood Tryz.prog 151 ⟨1, false, [.int .u64 0], [], 0, 8, .int .u64, false, false⟩ := ⟨by kernel_rfl, by kernel_rfl, by kernel_rfl, by kernel_rfl, by kernel_rfl, by simp, (by kernel_rfl : Tryz.prog.underlying 151 = some (.int (.u64)))⟩
theorem tgood152 : TGood Tryz.prog 152 ⟨1, false, [.nilFunc], [], 0, 8, .other, false, false⟩ := ⟨by kernel_rfl, by kernel_rfl, by kernel_rfl, by kernel_rfl, by kernel_rfl, by simp, trivial⟩
theorem tgood153 : TGood Tryz.prog 153 ⟨1, false, [.nilFunc], [], 0, 8, .other, false, false⟩ := ⟨by kernel_rfl, by kernel_rfl, by kernel_rfl, by kernel_rfl, by kernel_rfl, by simp, trivial⟩
theorem tgood155 : TGood Tryz.prog 155 ⟨1, false, [.nilFunc], [], 0, 8, .other, false, false⟩ := ⟨by kernel_rfl, by kernel_rfl, by kernel_rfl, by kernel_rfl, by kernel_rfl, by simp, trivial⟩
theorem tgood156 : TGood Tryz.prog 156 ⟨1, false, [.int .u32 0], [], 0, 4, .int .u32, false, false⟩ := ⟨by kernel_rfl, by kernel_rfl, by kernel_rfl, by kernel_rfl, by kernel_rfl, by simp, (by kernel_rfl : Tryz.prog.underlying 156 = some (.int (.u32)))⟩
theorem tgood158 : TGood Tryz.prog 158 ⟨1, false, [.nilFunc], [], 0, 8, .other, false, false⟩ := ⟨by kernel_rfl, by kernel_rfl, by kernel_rfl, by kernel_rfl, by kernel_rfl, by simp, trivial⟩
theorem tgood160 : TGood Tryz.prog 160 ⟨2, true, [.int .u8 0, .int .u8 0], [(0, 1), (1, 1)], 0, 2, .cells [.int, .int], true, false⟩ := ⟨by kernel_rfl, by kernel_rfl, by kernel_rfl, by kernel_rfl, by kernel_rfl, by simp, ⟨by kernel_rfl, by kernel_rfl, by kernel_rfl⟩⟩
theorem tgood170 : TGood Tryz.prog 170 ⟨1, false, [.nilFunc], [], 0, 8, .other, false, false⟩ := ⟨by kernel_rfl, by kernel_rfl, by kernel_rfl, by kernel_rfl, by kernel_rfl, by simp, trivial⟩
theorem tgood171 : TGood Tryz.prog 171 ⟨1, false, [.pointer none], [], 0, 8, .other, false, false⟩ := ⟨by kernel_rfl, by kernel_rfl, by kernel_rfl, by kernel_rfl, by kernel_rfl, by simp, trivial⟩
theorem tgood174 : TGood Tryz.prog 174 ⟨11, true, [.int .u64 0, .int .u64 0, .int .u32 0, .int .u8 0, .int .u8 0, .int .u8 0, .int .u8 0, .nilFunc, .pointer none, .int .i32 0, .int .i32 0], [(0, 1), (1, 1), (2, 1), (3, 1), (4, 1), (5, 1), (6, 1), (7, 1), (8, 1), (9, 1), (10, 1)], 0, 48, .other, true, false⟩ := ⟨by kernel_rfl, by kernel_rfl, by kernel_rfl, by kernel_rfl, by kernel_rfl, by simp, trivial⟩
def tabL : List (Nat × TI) := [(3, ⟨1, false, [.int .i64 0], [], 0, 8, .int .i64, false, false⟩),
  (4, ⟨1, false, [.bool false], [], 0, 1, .bool, false, false⟩),
  (9, ⟨1, false, [.string ByteArray.empty], [], 0, 16, .str, false, false⟩),
  (1, ⟨1, false, [.nilFunc], [], 0, 8, .other, false, false⟩),
  (2, ⟨1, false, [.int .i64 0], [], 0, 8, .int .i64, false, false⟩),
  (5, ⟨1, false, [.int .u8 0], [], 0, 1, .int .u8, false, false⟩),
  (12, ⟨1, false, [.int .u64 0], [], 0, 8, .int .u64, false, false⟩),
  (15, ⟨1, false, [.pointer none], [], 0, 8, .other, false, false⟩),
  (16, ⟨1, false, [.pointer none], [], 0, 8, .other, false, false⟩),
  (17, ⟨1, false, [.pointer none], [], 0, 8, .other, false, false⟩),
  (21, ⟨1, false, [.int .i32 0], [], 0, 4, .int .i32, false, false⟩),
  (22, ⟨4, true, [.int .i64 0, .int .i64 0, .int .i64 0, .int .i64 0], [(0, 1), (1, 1), (2, 1), (3, 1)], 0, 32, .cells [.int, .int, .int, .int], true, false⟩),
  (23, ⟨4, true, [.int .i64 0, .int .i64 0, .int .i64 0, .int .i64 0], [(0, 1), (1, 1), (2, 1), (3, 1)], 0, 32, .cells [.int, .int, .int, .int], true, false⟩),
  (24, ⟨4, true, [.int .i64 0, .int .i64 0, .int .i64 0, .int .i64 0], [(0, 1), (1, 1), (2, 1), (3, 1)], 0, 32, .cells [.int, .int, .int, .int], true, false⟩),
  (25, ⟨4, true, [.int .i64 0, .int .i64 0, .int .i64 0, .int .i64 0], [(0, 1), (1, 1), (2, 1), (3, 1)], 0, 32, .cells [.int, .int, .int, .int], true, false⟩),
  (26, ⟨15, true, [.int .i64 0, .int .i64 0, .int .i64 0, .int .i64 0, .int .i64 0, .int .i64 0, .int .i64 0, .int .i64 0, .int .i64 0, .int .i64 0, .int .i64 0, .int .i64 0, .int .i64 0, .int .i64 0, .int .i64 0], [(0, 4), (4, 1), (5, 1), (6, 1), (7, 4), (11, 4)], 0, 120, .cells [.int, .int, .int, .int, .int, .int, .int, .int, .int, .int, .int, .int, .int, .int, .int], true, false⟩),
  (27, ⟨15, true, [.int .i64 0, .int .i64 0, .int .i64 0, .int .i64 0, .int .i64 0, .int .i64 0, .int .i64 0, .int .i64 0, .int .i64 0, .int .i64 0, .int .i64 0, .int .i64 0, .int .i64 0, .int .i64 0, .int .i64 0], [(0, 4), (4, 1), (5, 1), (6, 1), (7, 4), (11, 4)], 0, 120, .cells [.int, .int, .int, .int, .int, .int, .int, .int, .int, .int, .int, .int, .int, .int, .int], true, false⟩),
  (28, ⟨1, false, [.slice none 0 0], [], 56, 24, .other, false, true⟩),
  (29, ⟨16, true, [.int .i64 0, .int .i64 0, .int .i64 0, .int .i64 0, .int .i64 0, .int .i64 0, .int .i64 0, .int .i64 0, .int .i64 0, .int .i64 0, .int .i64 0, .int .i64 0, .int .i64 0, .int .i64 0, .int .i64 0, .slice none 0 0], [(0, 15), (15, 1)], 0, 144, .other, true, false⟩),
  (30, ⟨16, true, [.int .i64 0, .int .i64 0, .int .i64 0, .int .i64 0, .int .i64 0, .int .i64 0, .int .i64 0, .int .i64 0, .int .i64 0, .int .i64 0, .int .i64 0, .int .i64 0, .int .i64 0, .int .i64 0, .int .i64 0, .slice none 0 0], [(0, 15), (15, 1)], 0, 144, .other, true, false⟩),
  (32, ⟨1, false, [.nilFunc], [], 0, 8, .other, false, false⟩),
  (33, ⟨1, false, [.nilFunc], [], 0, 8, .other, false, false⟩),
  (34, ⟨1, false, [.nilFunc], [], 0, 8, .other, false, false⟩),
  (35, ⟨1, false, [.nilFunc], [], 0, 8, .other, false, false⟩),
  (36, ⟨1, false, [.slice none 0 0], [], 5, 24, .other, false, true⟩),
  (37, ⟨1, false, [.nilFunc], [], 0, 8, .other, false, false⟩),
  (38, ⟨1, false, [.nilFunc], [], 0, 8, .other, false, false⟩),
  (40, ⟨1, false, [.nilFunc], [], 0, 8, .other, false, false⟩),
  (41, ⟨1, false, [.nilFunc], [], 0, 8, .other, false, false⟩),
  (42, ⟨1, false, [.nilFunc], [], 0, 8, .other, false, false⟩),
  (43, ⟨1, false, [.nilFunc], [], 0, 8, .other, false, false⟩),
  (44, ⟨1, false, [.nilFunc], [], 0, 8, .other, false, false⟩),
  (46, ⟨1, false, [.nilFunc], [], 0, 8, .other, false, false⟩),
  (47, ⟨1, false, [.nilFunc], [], 0, 8, .other, false, false⟩),
  (48, ⟨1, false, [.nilFunc], [], 0, 8, .other, false, false⟩),
  (49, ⟨1, false, [.nilFunc], [], 0, 8, .other, false, false⟩),
  (50, ⟨5, true, [.string ByteArray.empty, .string ByteArray.empty, .string ByteArray.empty, .string ByteArray.empty, .bool false], [(0, 1), (1, 1), (2, 1), (3, 1), (4, 1)], 0, 72, .cells [.str, .str, .str, .str, .bool], true, false⟩),
  (51, ⟨5, true, [.string ByteArray.empty, .string ByteArray.empty, .string ByteArray.empty, .string ByteArray.empty, .bool false], [(0, 1), (1, 1), (2, 1), (3, 1), (4, 1)], 0, 72, .cells [.str, .str, .str, .str, .bool], true, false⟩),
  (52, ⟨1, false, [.nilFunc], [], 0, 8, .other, false, false⟩),
  (53, ⟨1, false, [.pointer none], [], 0, 8, .other, false, false⟩),
  (54, ⟨1, false, [.slice none 0 0], [], 53, 24, .other, false, true⟩),
  (55, ⟨2, true, [.int .i64 0, .int .i64 0], [(0, 1), (1, 1)], 0, 16, .cells [.int, .int], true, false⟩),
  (56, ⟨2, true, [.int .i64 0, .int .i64 0], [(0, 1), (1, 1)], 0, 16, .cells [.int, .int], true, false⟩),
  (58, ⟨1, false, [.nilFunc], [], 0, 8, .other, false, false⟩),
  (59, ⟨1, false, [.nilFunc], [], 0, 8, .other, false, false⟩),
  (60, ⟨1, false, [.nilFunc], [], 0, 8, .other, false, false⟩),
  (61, ⟨1, false, [.nilFunc], [], 0, 8, .other, false, false⟩),
  (62, ⟨1, false, [.nilFunc], [], 0, 8, .other, false, false⟩),
  (63, ⟨1, false, [.nilFunc], [], 0, 8, .other, false, false⟩),
  (64, ⟨1, false, [.nilFunc], [], 0, 8, .other, false, false⟩),
  (65, ⟨1, false, [.nilFunc], [], 0, 8, .other, false, false⟩),
  (66, ⟨1, false, [.slice none 0 0], [], 69, 24, .other, false, true⟩),
  (67, ⟨1, false, [.nilFunc], [], 0, 8, .other, false, false⟩),
  (68, ⟨1, false, [.nilFunc], [], 0, 8, .other, false, false⟩),
  (69, ⟨1, false, [.pointer none], [], 0, 8, .other, false, false⟩),
  (70, ⟨1, false, [.nilFunc], [], 0, 8, .other, false, false⟩),
  (71, ⟨1, false, [.pointer none], [], 0, 8, .other, false, false⟩),
  (72, ⟨1, false, [.int .u64 0], [], 0, 8, .int .u64, false, false⟩),
  (73, ⟨3, true, [.slice none 0 0, .int .i64 0, .int .u64 0], [(0, 1), (1, 1), (2, 1)], 0, 40, .other, true, false⟩),
  (74, ⟨3, true, [.slice none 0 0, .int .i64 0, .int .u64 0], [(0, 1), (1, 1), (2, 1)], 0, 40, .other, true, false⟩),
  (75, ⟨1, false, [.nilFunc], [], 0, 8, .other, false, false⟩),
  (76, ⟨1, false, [.nilFunc], [], 0, 8, .other, false, false⟩),
  (77, ⟨1, false, [.nilFunc], [], 0, 8, .other, false, false⟩),
  (78, ⟨1, false, [.nilFunc], [], 0, 8, .other, false, false⟩),
  (79, ⟨1, false, [.slice none 0 0], [], 3, 24, .other, false, true⟩),
  (81, ⟨1, false, [.nilFunc], [], 0, 8, .other, false, false⟩),
  (82, ⟨1, false, [.nilFunc], [], 0, 8, .other, false, false⟩),
  (83, ⟨1, false, [.nilFunc], [], 0, 8, .other, false, false⟩),
  (85, ⟨1, false, [.nilFunc], [], 0, 8, .other, false, false⟩),
  (87, ⟨1, false, [.nilFunc], [], 0, 8, .other, false, false⟩),
  (89, ⟨1, false, [.nilFunc], [], 0, 8, .other, false, false⟩),
  (91, ⟨1, false, [.nilFunc], [], 0, 8, .other, false, false⟩),
  (92, ⟨1, false, [.slice none 0 0], [], 9, 24, .other, false, true⟩),
  (93, ⟨1, false, [.nilFunc], [], 0, 8, .other, false, false⟩),
  (94, ⟨1, false, [.nilFunc], [], 0, 8, .other, false, false⟩),
  (95, ⟨1, false, [.nilFunc], [], 0, 8, .other, false, false⟩),
  (96, ⟨1, false, [.nilFunc], [], 0, 8, .other, false, false⟩),
  (97, ⟨1, false, [.nilFunc], [], 0, 8, .other, false, false⟩),
  (99, ⟨1, false, [.nilFunc], [], 0, 8, .other, false, false⟩),
  (101, ⟨1, false, [.nilFunc], [], 0, 8, .other, false, false⟩),
  (102, ⟨1, false, [.nilFunc], [], 0, 8, .other, false, false⟩),
  (103, ⟨1, false, [.nilFunc], [], 0, 8, .other, false, false⟩),
  (104, ⟨1, false, [.nilFunc], [], 0, 8, .other, false, false⟩),
  (105, ⟨1, false, [.nilFunc], [], 0, 8, .other, false, false⟩),
  (106, ⟨1, false, [.nilFunc], [], 0, 8, .other, false, false⟩),
  (107, ⟨1, false, [.nilFunc], [], 0, 8, .other, false, false⟩),
  (108, ⟨1, false, [.nilFunc], [], 0, 8, .other, false, false⟩),
  (109, ⟨1, false, [.nilFunc], [], 0, 8, .other, false, false⟩),
  (110, ⟨1, false, [.nilFunc], [], 0, 8, .other, false, false⟩),
  (111, ⟨1, false, [.nilFunc], [], 0, 8, .other, false, false⟩),
  (112, ⟨1, false, [.pointer none], [], 0, 8, .other, false, false⟩),
  (113, ⟨1, false, [.nilFunc], [], 0, 8, .other, false, false⟩),
  (114, ⟨1, false, [.nilFunc], [], 0, 8, .other, false, false⟩),
  (115, ⟨1, false, [.nilFunc], [], 0, 8, .other, false, false⟩),
  (116, ⟨1, false, [.nilFunc], [], 0, 8, .other, false, false⟩),
  (117, ⟨1, false, [.nilFunc], [], 0, 8, .other, false, false⟩),
  (118, ⟨1, false, [.nilFunc], [], 0, 8, .other, false, false⟩),
  (119, ⟨1, false, [.nilFunc], [], 0, 8, .other, false, false⟩),
  (120, ⟨1, false, [.nilFunc], [], 0, 8, .other, false, false⟩),
  (121, ⟨1, false, [.nilFunc], [], 0, 8, .other, false, false⟩),
  (122, ⟨1, false, [.nilFunc], [], 0, 8, .other, false, false⟩),
  (123, ⟨1, false, [.nilFunc], [], 0, 8, .other, false, false⟩),
  (124, ⟨1, false, [.nilFunc], [], 0, 8, .other, false, false⟩),
  (126, ⟨1, false, [.nilFunc], [], 0, 8, .other, false, false⟩),
  (127, ⟨1, false, [.nilFunc], [], 0, 8, .other, false, false⟩),
  (128, ⟨1, false, [.nilFunc], [], 0, 8, .other, false, false⟩),
  (129, ⟨1, false, [.nilFunc], [], 0, 8, .other, false, false⟩),
  (130, ⟨1, false, [.nilFunc], [], 0, 8, .other, false, false⟩),
  (131, ⟨1, false, [.nilFunc], [], 0, 8, .other, false, false⟩),
  (133, ⟨1, false, [.nilFunc], [], 0, 8, .other, false, false⟩),
  (135, ⟨1, false, [.nilFunc], [], 0, 8, .other, false, false⟩),
  (136, ⟨1, false, [.nilFunc], [], 0, 8, .other, false, false⟩),
  (137, ⟨1, false, [.nilFunc], [], 0, 8, .other, false, false⟩),
  (138, ⟨1, false, [.nilFunc], [], 0, 8, .other, false, false⟩),
  (139, ⟨1, false, [.nilFunc], [], 0, 8, .other, false, false⟩),
  (140, ⟨1, false, [.nilFunc], [], 0, 8, .other, false, false⟩),
  (141, ⟨1, false, [.nilFunc], [], 0, 8, .other, false, false⟩),
  (142, ⟨1, false, [.nilFunc], [], 0, 8, .other, false, false⟩),
  (143, ⟨1, false, [.nilFunc], [], 0, 8, .other, false, false⟩),
  (144, ⟨1, false, [.nilFunc], [], 0, 8, .other, false, false⟩),
  (145, ⟨1, false, [.nilFunc], [], 0, 8, .other, false, false⟩),
  (146, ⟨1, false, [.nilFunc], [], 0, 8, .other, false, false⟩),
  (147, ⟨1, false, [.nilFunc], [], 0, 8, .other, false, false⟩),
  (148, ⟨1, false, [.nilFunc], [], 0, 8, .other, false, false⟩),
  (149, ⟨1, false, [.nilFunc], [], 0, 8, .other, false, false⟩),
  (150, ⟨1, false, [.nilFunc], [], 0, 8, .other, false, false⟩),
  (151, ⟨1, false, [.int .u64 0], [], 0, 8, .int .u64, false, false⟩),
  (152, ⟨1, false, [.nilFunc], [], 0, 8, .other, false, false⟩),
  (153, ⟨1, false, [.nilFunc], [], 0, 8, .other, false, false⟩),
  (155, ⟨1, false, [.nilFunc], [], 0, 8, .other, false, false⟩),
  (156, ⟨1, false, [.int .u32 0], [], 0, 4, .int .u32, false, false⟩),
  (158, ⟨1, false, [.nilFunc], [], 0, 8, .other, false, false⟩),
  (160, ⟨2, true, [.int .u8 0, .int .u8 0], [(0, 1), (1, 1)], 0, 2, .cells [.int, .int], true, false⟩),
  (170, ⟨1, false, [.nilFunc], [], 0, 8, .other, false, false⟩),
  (171, ⟨1, false, [.pointer none], [], 0, 8, .other, false, false⟩),
  (174, ⟨11, true, [.int .u64 0, .int .u64 0, .int .u32 0, .int .u8 0, .int .u8 0, .int .u8 0, .int .u8 0, .nilFunc, .pointer none, .int .i32 0, .int .i32 0], [(0, 1), (1, 1), (2, 1), (3, 1), (4, 1), (5, 1), (6, 1), (7, 1), (8, 1), (9, 1), (10, 1)], 0, 48, .other, true, false⟩)]
def tab : Tab := ⟨tabL, false, 0⟩
def tabU : Tab := ⟨tabL, true, 0⟩
def tabO : Tab := ⟨tabL, false, 1⟩
def tabA : Tab := ⟨tabL, false, 2⟩
def tabG : Tab := ⟨tabL, false, 3⟩
theorem TabOk.nil {P : Program} {u : Bool} {o : Nat} : TabOk P ⟨[], u, o⟩ := fun T i h => by simp [lk] at h
theorem TabOk.cons {P : Program} {T : Nat} {i : TI} {l : List (Nat × TI)} {u : Bool} {o : Nat} (h : TGood P T i) (r : TabOk P ⟨l, u, o⟩) : TabOk P ⟨(T, i) :: l, u, o⟩ := fun U j e => by
  rw [lk_cons] at e
  by_cases h0 : T = U
  · rw [if_pos h0] at e; injection e with e; subst e; subst h0; exact h
  · rw [if_neg h0] at e; exact r U j e
theorem tabOk : TabOk Tryz.prog tab := .cons tgood3 <| .cons tgood4 <| .cons tgood9 <| .cons tgood1 <| .cons tgood2 <| .cons tgood5 <| .cons tgood12 <| .cons tgood15 <| .cons tgood16 <| .cons tgood17 <| .cons tgood21 <| .cons tgood22 <| .cons tgood23 <| .cons tgood24 <| .cons tgood25 <| .cons tgood26 <| .cons tgood27 <| .cons tgood28 <| .cons tgood29 <| .cons tgood30 <| .cons tgood32 <| .cons tgood33 <| .cons tgood34 <| .cons tgood35 <| .cons tgood36 <| .cons tgood37 <| .cons tgood38 <| .cons tgood40 <| .cons tgood41 <| .cons tgood42 <| .cons tgood43 <| .cons tgood44 <| .cons tgood46 <| .cons tgood47 <| .cons tgood48 <| .cons tgood49 <| .cons tgood50 <| .cons tgood51 <| .cons tgood52 <| .cons tgood53 <| .cons tgood54 <| .cons tgood55 <| .cons tgood56 <| .cons tgood58 <| .cons tgood59 <| .cons tgood60 <| .cons tgood61 <| .cons tgood62 <| .cons tgood63 <| .cons tgood64 <| .cons tgood65 <| .cons tgood66 <| .cons tgood67 <| .cons tgood68 <| .cons tgood69 <| .cons tgood70 <| .cons tgood71 <| .cons tgood72 <| .cons tgood73 <| .cons tgood74 <| .cons tgood75 <| .cons tgood76 <| .cons tgood77 <| .cons tgood78 <| .cons tgood79 <| .cons tgood81 <| .cons tgood82 <| .cons tgood83 <| .cons tgood85 <| .cons tgood87 <| .cons tgood89 <| .cons tgood91 <| .cons tgood92 <| .cons tgood93 <| .cons tgood94 <| .cons tgood95 <| .cons tgood96 <| .cons tgood97 <| .cons tgood99 <| .cons tgood101 <| .cons tgood102 <| .cons tgood103 <| .cons tgood104 <| .cons tgood105 <| .cons tgood106 <| .cons tgood107 <| .cons tgood108 <| .cons tgood109 <| .cons tgood110 <| .cons tgood111 <| .cons tgood112 <| .cons tgood113 <| .cons tgood114 <| .cons tgood115 <| .cons tgood116 <| .cons tgood117 <| .cons tgood118 <| .cons tgood119 <| .cons tgood120 <| .cons tgood121 <| .cons tgood122 <| .cons tgood123 <| .cons tgood124 <| .cons tgood126 <| .cons tgood127 <| .cons tgood128 <| .cons tgood129 <| .cons tgood130 <| .cons tgood131 <| .cons tgood133 <| .cons tgood135 <| .cons tgood136 <| .cons tgood137 <| .cons tgood138 <| .cons tgood139 <| .cons tgood140 <| .cons tgood141 <| .cons tgood142 <| .cons tgood143 <| .cons tgood144 <| .cons tgood145 <| .cons tgood146 <| .cons tgood147 <| .cons tgood148 <| .cons tgood149 <| .cons tgood150 <| .cons tgood151 <| .cons tgood152 <| .cons tgood153 <| .cons tgood155 <| .cons tgood156 <| .cons tgood158 <| .cons tgood160 <| .cons tgood170 <| .cons tgood171 <| .cons tgood174 <| .nil
theorem tabOkU : TabOk Tryz.prog tabU := tabOk
theorem tabOkO : TabOk Tryz.prog tabO := tabOk
theorem tabOkA : TabOk Tryz.prog tabA := tabOk
theorem tabOkG : TabOk Tryz.prog tabG := tabOk
theorem mixed : Tryz.prog.follows .mixedOrders = true := by kernel_rfl
theorem zqb {p : Prop} {_ : Decidable p} : decide p = false ↔ ¬ p := decide_eq_false_iff_not
theorem zqa {p : Prop} [Decidable p] : (decide p = true) = p := decide_eq_true_eq
theorem zqc (b : Bool) : ((!b) = true) = (b = false) := Bool.not_eq_true' _
theorem zqd (b : Bool) : ((!b) = false) = (b = true) := Bool.not_eq_false' _
theorem zqe (n : Nat) : Int.ofNat n = (n : Int) := rfl
theorem zqh {α : Type} [BEq α] [LawfulBEq α] {a b : α} : (a == b) = false ↔ a ≠ b := beq_eq_false_iff_ne
theorem zqi {α : Type} [BEq α] [LawfulBEq α] {a b : α} : (a != b) = false ↔ a = b := bne_eq_false_iff_eq
theorem zqf {α : Type} [BEq α] [LawfulBEq α] {a b : α} : (a == b) = true ↔ a = b := beq_iff_eq
theorem zqg {α : Type} [BEq α] [LawfulBEq α] {a b : α} : (a != b) = true ↔ a ≠ b := bne_iff_ne
theorem zqj {a : Prop} : ¬¬a ↔ a := Classical.not_not
theorem zqk (n : Nat) : (n : Int).toNat = n := Int.toNat_natCast _
theorem zql (n : Nat) : n ≤ n := Nat.le_refl _
theorem zqz : type_of% (And.intro @zql (And.intro @zqa (And.intro @zqb (And.intro @zqc (And.intro @zqd (And.intro @peta (And.intro @ncast (And.intro @zqe (And.intro @zqf (And.intro @zqg (And.intro @zqh (And.intro @zqi (And.intro @zqj @zqk))))))))))))) := And.intro @zql (And.intro @zqa (And.intro @zqb (And.intro @zqc (And.intro @zqd (And.intro @peta (And.intro @ncast (And.intro @zqe (And.intro @zqf (And.intro @zqg (And.intro @zqh (And.intro @zqi (And.intro @zqj @zqk))))))))))))
theorem zqw : type_of% (And.intro @and_true (And.intro @true_and (And.intro @List.length_nil.{0} (And.intro @List.length_cons.{0} (And.intro @Nat.zero_add (And.intro @ncast @zqe)))))) := And.intro @and_true (And.intro @true_and (And.intro @List.length_nil.{0} (And.intro @List.length_cons.{0} (And.intro @Nat.zero_add (And.intro @ncast @zqe)))))
theorem zqu : type_of% (And.intro @List.mem_cons.{0} (And.intro @List.not_mem_nil.{0} @or_false)) := And.intro @List.mem_cons.{0} (And.intro @List.not_mem_nil.{0} @or_false)
theorem zqt : type_of% (And.intro @Option.some.injEq.{0} @Prod.mk.injEq.{0, 0}) := And.intro @Option.some.injEq.{0} @Prod.mk.injEq.{0, 0}
end Go.Proofs.YtmkniipdkanbbaaGreatDoor.AM

