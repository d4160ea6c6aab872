/- Lemmas and contracts (AmT); conditions: none. -/
import Derived.Test.YtpilblmncpeelaaK03
import Derived.Test.YtpilblmncpeelaaProg
set_option linter.unusedVariables false
set_option linter.unusedSimpArgs false
namespace Go.Proofs.Ytpilblmncpeelaa.AM
set_option maxRecDepth 100000
theorem tgood3 : TGood Try.prog 3 ⟨1, false, [.int .i64 0], [], 0, 8, .int .i64, false, false⟩ := ⟨by kernel_rfl, by kernel_rfl, by kernel_rfl, by kernel_rfl, by kernel_rfl, by simp, (by kernel_rfl : Try.prog.underlying 3 = some (.int (.i64)))⟩
theorem tgood4 : TGood Try.prog 4 ⟨1, false, [.bool false], [], 0, 1, .bool, false, false⟩ := ⟨by kernel_rfl, by kernel_rfl, by kernel_rfl, by kernel_rfl, by kernel_rfl, by simp, (by kernel_rfl : Try.prog.underlying 4 = some (.bool))⟩
theorem tgood9 : TGood Try.prog 9 ⟨1, false, [.string ByteArray.empty], [], 0, 16, .str, false, false⟩ := ⟨by kernel_rfl, by kernel_rfl, by kernel_rfl, by kernel_rfl, by kernel_rfl, by simp, (by kernel_rfl : Try.prog.underlying 9 = some (.string))⟩
theorem tgood1 : TGood Try.prog 1 ⟨1, false, [.nilFunc], [], 0, 8, .other, false, false⟩ := ⟨by kernel_rfl, by kernel_rfl, by kernel_rfl, by kernel_rfl, by kernel_rfl, by simp, trivial⟩
theorem tgood2 : TGood Try.prog 2 ⟨1, false, [.int .i64 0], [], 0, 8, .int .i64, false, false⟩ := ⟨by kernel_rfl, by kernel_rfl, by kernel_rfl, by kernel_rfl, by kernel_rfl, by simp, (by kernel_rfl : Try.prog.underlying 2 = some (.int (.i64)))⟩
theorem tgood5 : TGood Try.prog 5 ⟨1, false, [.int .u8 0], [], 0, 1, .int .u8, false, false⟩ := ⟨by kernel_rfl, by kernel_rfl, by kernel_rfl, by kernel_rfl, by kernel_rfl, by simp, (by kernel_rfl : Try.prog.underlying 5 = some (.int (.u8)))⟩
theorem tgood12 : TGood Try.prog 12 ⟨1, false, [.int .u64 0], [], 0, 8, .int .u64, false, false⟩ := ⟨by kernel_rfl, by kernel_rfl, by kernel_rfl, by kernel_rfl, by kernel_rfl, by simp, (by kernel_rfl : Try.prog.underlying 12 = some (.int (.u64)))⟩
theorem tgood15 : TGood Try.prog 15 ⟨1, false, [.pointer none], [], 0, 8, .other, false, false⟩ := ⟨by kernel_rfl, by kernel_rfl, by kernel_rfl, by kernel_rfl, by kernel_rfl, by simp, trivial⟩
theorem tgood16 : TGood Try.prog 16 ⟨1, false, [.pointer none], [], 0, 8, .other, false, false⟩ := ⟨by kernel_rfl, by kernel_rfl, by kernel_rfl, by kernel_rfl, by kernel_rfl, by simp, trivial⟩
theorem tgood17 : TGood Try.prog 17 ⟨1, false, [.pointer none], [], 0, 8, .other, false, false⟩ := ⟨by kernel_rfl, by kernel_rfl, by kernel_rfl, by kernel_rfl, by kernel_rfl, by simp, trivial⟩
theorem tgood21 : TGood Try.prog 21 ⟨1, false, [.int .i32 0], [], 0, 4, .int .i32, false, false⟩ := ⟨by kernel_rfl, by kernel_rfl, by kernel_rfl, by kernel_rfl, by kernel_rfl, by simp, (by kernel_rfl : Try.prog.underlying 21 = some (.int (.i32)))⟩
theorem tgood22 : TGood Try.prog 22 ⟨1, false, [.slice none 0 0], [], 5, 24, .other, false, true⟩ := ⟨by kernel_rfl, by kernel_rfl, by kernel_rfl, by kernel_rfl, by kernel_rfl, fun _ => by kernel_rfl, trivial⟩
theorem tgood23 : TGood Try.prog 23 ⟨1, false, [.nilFunc], [], 0, 8, .other, false, false⟩ := ⟨by kernel_rfl, by kernel_rfl, by kernel_rfl, by kernel_rfl, by kernel_rfl, by simp, trivial⟩
theorem tgood24 : TGood Try.prog 24 ⟨1, false, [.slice none 0 0], [], 3, 24, .other, false, true⟩ := ⟨by kernel_rfl, by kernel_rfl, by kernel_rfl, by kernel_rfl, by kernel_rfl, fun _ => by kernel_rfl, trivial⟩
theorem tgood25 : TGood Try.prog 25 ⟨1, true, [.slice none 0 0], [(0, 1)], 0, 24, .other, true, false⟩ := ⟨by kernel_rfl, by kernel_rfl, by kernel_rfl, by kernel_rfl, by kernel_rfl, by simp, trivial⟩
theorem tgood26 : TGood Try.prog 26 ⟨1, true, [.slice none 0 0], [(0, 1)], 0, 24, .other, true, false⟩ := ⟨by kernel_rfl, by kernel_rfl, by kernel_rfl, by kernel_rfl, by kernel_rfl, by simp, trivial⟩
theorem tgood28 : TGood Try.prog 28 ⟨1, false, [.nilFunc], [], 0, 8, .other, false, false⟩ := ⟨by kernel_rfl, by kernel_rfl, by kernel_rfl, by kernel_rfl, by kernel_rfl, by simp, trivial⟩
theorem tgood29 : TGood Try.prog 29 ⟨1, false, [.slice none 0 0], [], 36, 24, .other, false, true⟩ := ⟨by kernel_rfl, by kernel_rfl, by kernel_rfl, by kernel_rfl, by kernel_rfl, fun _ => by kernel_rfl, trivial⟩
theorem tgood31 : TGood Try.prog 31 ⟨1, false, [.nilFunc], [], 0, 8, .other, false, false⟩ := ⟨by kernel_rfl, by kernel_rfl, by kernel_rfl, by kernel_rfl, by kernel_rfl, by simp, trivial⟩
theorem tgood32 : TGood Try.prog 32 ⟨1, false, [.nilFunc], [], 0, 8, .other, false, false⟩ := ⟨by kernel_rfl, by kernel_rfl, by kernel_rfl, by kernel_rfl, by kernel_rfl, by simp, trivial⟩
theorem tgood34 : TGood Try.prog 34 ⟨1, false, [.nilFunc], [], 0, 8, .other, false, false⟩ := ⟨by kernel_rfl, by kernel_rfl, by kernel_rfl, by kernel_rfl, by kernel_rfl, by simp, trivial⟩
theorem tgood35 : TGood Try.prog 35 ⟨3, true, [.int .i64 0, .int .i64 0, .int .i64 0], [(0, 1), (1, 1), (2, 1)], 0, 24, .cells [.int, .int, .int], true, false⟩ := ⟨by kernel_rfl, by kernel_rfl, by kernel_rfl, by kernel_rfl, by kernel_rfl, by simp, ⟨by kernel_rfl, by kernel_rfl, by kernel_rfl⟩⟩
theorem tgood36 : TGood Try.prog 36 ⟨3, true, [.int .i64 0, .int .i64 0, .int .i64 0], [(0, 1), (1, 1), (2, 1)], 0, 24, .cells [.int, .int, .int], true, false⟩ := ⟨by kernel_rfl, by kernel_rfl, by kernel_rfl, by kernel_rfl, by kernel_rfl, by simp, ⟨by kernel_rfl, by kernel_rfl, by kernel_rfl⟩⟩
theorem tgood37 : TGood Try.prog 37 ⟨1, false, [.nilFunc], [], 0, 8, .other, false, false⟩ := ⟨by kernel_rfl, by kernel_rfl, by kernel_rfl, by kernel_rfl, by kernel_rfl, by simp, trivial⟩
theorem tgood39 : TGood Try.prog 39 ⟨1, false, [.nilFunc], [], 0, 8, .other, false, false⟩ := ⟨by kernel_rfl, by kernel_rfl, by kernel_rfl, by kernel_rfl, by kernel_rfl, by simp, trivial⟩
theorem tgood40 : TGood Try.prog 40 ⟨1, false, [.nilFunc], [], 0, 8, .other, false, false⟩ := ⟨by kernel_rfl, by kernel_rfl, by kernel_rfl, by kernel_rfl, by kernel_rfl, by simp, trivial⟩
theorem tgood41 : TGood Try.prog 41 ⟨4, true, [.int .i64 0, .int .i64 0, .int .i64 0, .int .i64 0], [(0, 1), (1, 1), (2, 1), (3, 1)], 0, 32, .cells [.int, .int, .int, .int], true, false⟩ := ⟨by kernel_rfl, by kernel_rfl, by kernel_rfl, by kernel_rfl, by kernel_rfl, by simp, ⟨by kernel_rfl, by kernel_rfl, by kernel_rfl⟩⟩
theorem tgood42 : TGood Try.prog 42 ⟨4, true, [.int .i64 0, .int .i64 0, .int .i64 0, .int .i64 0], [(0, 1), (1, 1), (2, 1), (3, 1)], 0, 32, .cells [.int, .int, .int, .int], true, false⟩ := ⟨by kernel_rfl, by kernel_rfl, by kernel_rfl, by kernel_rfl, by kernel_rfl, by simp, ⟨by kernel_rfl, by kernel_rfl, by kernel_rfl⟩⟩
theorem tgood43 : TGood Try.prog 43 ⟨4, true, [.int .i64 0, .int .i64 0, .int .i64 0, .int .i64 0], [(0, 1), (1, 1), (2, 1), (3, 1)], 0, 32, .cells [.int, .int, .int, .int], true, false⟩ := ⟨by kernel_rfl, by kernel_rfl, by kernel_rfl, by kernel_rfl, by kernel_rfl, by simp, ⟨by kernel_rfl, by kernel_rfl, by kernel_rfl⟩⟩
theorem tgood44 : TGood Try.prog 44 ⟨4, true, [.int .i64 0, .int .i64 0, .int .i64 0, .int .i64 0], [(0, 1), (1, 1), (2, 1), (3, 1)], 0, 32, .cells [.int, .int, .int, .int], true, false⟩ := ⟨by kernel_rfl, by kernel_rfl, by kernel_rfl, by kernel_rfl, by kernel_rfl, by simp, ⟨by kernel_rfl, by kernel_rfl, by kernel_rfl⟩⟩
theorem tgood45 : TGood Try.prog 45 ⟨15, true, [.int .i64 0, .int .i64 0, .int .i64 0, .int .i64 0, .int .i64 0, .int .i64 0, .int .i64 0, .int .i64 0, .int .i64 0, .int .i64 0, .int .i64 0, .int .i64 0, .int .i64 0, .int .i64 0, .int .i64 0], [(0, 4), (4, 1), (5, 1), (6, 1), (7, 4), (11, 4)], 0, 120, .cells [.int, .int, .int, .int, .int, .int, .int, .int, .int, .int, .int, .int, .int, .int, .int], true, false⟩ := ⟨by kernel_rfl, by kernel_rfl, by kernel_rfl, by kernel_rfl, by kernel_rfl, by simp, ⟨by kernel_rfl, by kernel_rfl, by kernel_rfl⟩⟩
theorem tgood46 : TGood Try.prog 46 ⟨15, true, [.int .i64 0, .int .i64 0, .int .i64 0, .int .i64 0, .int .i64 0, .int .i64 0, .int .i64 0, .int .i64 0, .int .i64 0, .int .i64 0, .int .i64 0, .int .i64 0, .int .i64 0, .int .i64 0, .int .i64 0], [(0, 4), (4, 1), (5, 1), (6, 1), (7, 4), (11, 4)], 0, 120, .cells [.int, .int, .int, .int, .int, .int, .int, .int, .int, .int, .int, .int, .int, .int, .int], true, false⟩ := ⟨by kernel_rfl, by kernel_rfl, by kernel_rfl, by kernel_rfl, by kernel_rfl, by simp, ⟨by kernel_rfl, by kernel_rfl, by kernel_rfl⟩⟩
theorem tgood47 : TGood Try.prog 47 ⟨1, false, [.nilFunc], [], 0, 8, .other, false, false⟩ := ⟨by kernel_rfl, by kernel_rfl, by kernel_rfl, by kernel_rfl, by kernel_rfl, by simp, trivial⟩
theorem tgood49 : TGood Try.prog 49 ⟨1, false, [.nilFunc], [], 0, 8, .other, false, false⟩ := ⟨by kernel_rfl, by kernel_rfl, by kernel_rfl, by kernel_rfl, by kernel_rfl, by simp, trivial⟩
theorem tgood51 : TGood Try.prog 51 ⟨1, false, [.nilFunc], [], 0, 8, .other, false, false⟩ := ⟨by kernel_rfl, by kernel_rfl, by kernel_rfl, by kernel_rfl, by kernel_rfl, by simp, trivial⟩
theorem tgood52 : TGood Try.prog 52 ⟨1, false, [.nilFunc], [], 0, 8, .other, false, false⟩ := ⟨by kernel_rfl, by kernel_rfl, by kernel_rfl, by kernel_rfl, by kernel_rfl, by simp, trivial⟩
theorem tgood53 : TGood Try.prog 53 ⟨1, false, [.pointer none], [], 0, 8, .other, false, false⟩ := ⟨by kernel_rfl, by kernel_rfl, by kernel_rfl, by kernel_rfl, by kernel_rfl, by simp, trivial⟩
theorem tgood54 : TGood Try.prog 54 ⟨1, false, [.int .u64 0], [], 0, 8, .int .u64, false, false⟩ := ⟨by kernel_rfl, by kernel_rfl, by kernel_rfl, by kernel_rfl, by kernel_rfl, by simp, (by kernel_rfl : Try.prog.underlying 54 = some (.int (.u64)))⟩
theorem tgood55 : TGood Try.prog 55 ⟨3, true, [.slice none 0 0, .int .i64 0, .int .u64 0], [(0, 1), (1, 1), (2, 1)], 0, 40, .other, true, false⟩ := ⟨by kernel_rfl, by kernel_rfl, by kernel_rfl, by kernel_rfl, by kernel_rfl, by simp, trivial⟩
theorem tgood56 : TGood Try.prog 56 ⟨3, true, [.slice none 0 0, .int .i64 0, .int .u64 0], [(0, 1), (1, 1), (2, 1)], 0, 40, .other, true, false⟩ := ⟨by kernel_rfl, by kernel_rfl, by kernel_rfl, by kernel_rfl, by kernel_rfl, by simp, trivial⟩
theorem tgood57 : TGood Try.prog 57 ⟨1, false, [.nilFunc], [], 0, 8, .other, false, false⟩ := ⟨by kernel_rfl, by kernel_rfl, by kernel_rfl, by kernel_rfl, by kernel_rfl, by simp, trivial⟩
theorem tgood58 : TGood Try.prog 58 ⟨1, false, [.nilFunc], [], 0, 8, .other, false, false⟩ := ⟨by kernel_rfl, by kernel_rfl, by kernel_rfl, by kernel_rfl, by kernel_rfl, by simp, trivial⟩
theorem tgood59 : TGood Try.prog 59 ⟨1, false, [.nilFunc], [], 0, 8, .other, false, false⟩ := ⟨by kernel_rfl, by kernel_rfl, by kernel_rfl, by kernel_rfl, by kernel_rfl, by simp, trivial⟩
theorem tgood60 : TGood Try.prog 60 ⟨1, false, [.nilFunc], [], 0, 8, .other, false, false⟩ := ⟨by kernel_rfl, by kernel_rfl, by kernel_rfl, by kernel_rfl, by kernel_rfl, by simp, trivial⟩
theorem tgood61 : TGood Try.prog 61 ⟨1, false, [.nilFunc], [], 0, 8, .other, false, false⟩ := ⟨by kernel_rfl, by kernel_rfl, by kernel_rfl, by kernel_rfl, by kernel_rfl, by simp, trivial⟩
theorem tgood62 : TGood Try.prog 62 ⟨1, false, [.nilFunc], [], 0, 8, .other, false, false⟩ := ⟨by kernel_rfl, by kernel_rfl, by kernel_rfl, by kernel_rfl, by kernel_rfl, by simp, trivial⟩
theorem tgood63 : TGood Try.prog 63 ⟨1, false, [.nilFunc], [], 0, 8, .other, false, false⟩ := ⟨by kernel_rfl, by kernel_rfl, by kernel_rfl, by kernel_rfl, by kernel_rfl, by simp, trivial⟩
theorem tgood64 : TGood Try.prog 64 ⟨1, false, [.nilFunc], [], 0, 8, .other, false, false⟩ := ⟨by kernel_rfl, by kernel_rfl, by kernel_rfl, by kernel_rfl, by kernel_rfl, by simp, trivial⟩
theorem tgood65 : TGood Try.prog 65 ⟨1, false, [.nilFunc], [], 0, 8, .other, false, false⟩ := ⟨by kernel_rfl, by kernel_rfl, by kernel_rfl, by kernel_rfl, by kernel_rfl, by simp, trivial⟩
theorem tgood66 : TGood Try.prog 66 ⟨1, false, [.nilFunc], [], 0, 8, .other, false, false⟩ := ⟨by kernel_rfl, by kernel_rfl, by kernel_rfl, by kernel_rfl, by kernel_rfl, by simp, trivial⟩
theorem tgood67 : TGood Try.prog 67 ⟨1, false, [.nilFunc], [], 0, 8, .other, false, false⟩ := ⟨by kernel_rfl, by kernel_rfl, by kernel_rfl, by kernel_rfl, by kernel_rfl, by simp, trivial⟩
theorem tgood68 : TGood Try.prog 68 ⟨1, false, [.nilFunc], [], 0, 8, .other, false, false⟩ := ⟨by kernel_rfl, by kernel_rfl, by kernel_rfl, by kernel_rfl, by kernel_rfl, by simp, trivial⟩
theorem tgood69 : TGood Try.prog 69 ⟨1, false, [.nilFunc], [], 0, 8, .other, false, false⟩ := ⟨by kernel_rfl, by kernel_rfl, by kernel_rfl, by kernel_rfl, by kernel_rfl, by simp, trivial⟩
theorem tgood70 : TGood Try.prog 70 ⟨1, false, [.nilFunc], [], 0, 8, .other, false, false⟩ := ⟨by kernel_rfl, by kernel_rfl, by kernel_rfl, by kernel_rfl, by kernel_rfl, by simp, trivial⟩
theorem tgood71 : TGood Try.prog 71 ⟨1, false, [.nilFunc], [], 0, 8, .other, false, false⟩ := ⟨by kernel_rfl, by kernel_rfl, by kernel_rfl, by kernel_rfl, by kernel_rfl, by simp, trivial⟩
theorem tgood72 : TGood Try.prog 72 ⟨1, false, [.nilFunc], [], 0, 8, .other, false, false⟩ := ⟨by kernel_rfl, by kernel_rfl, by kernel_rfl, by kernel_rfl, by kernel_rfl, by simp, trivial⟩
theorem tgood73 : TGood Try.prog 73 ⟨1, false, [.int .u64 0], [], 0, 8, .int .u64, false, false⟩ := ⟨by kernel_rfl, by kernel_rfl, by kernel_rfl, by kernel_rfl, by kernel_rfl, by simp, (by kernel_rfl : Try.prog.underlying 73 = some (.int (.u64)))⟩
theorem tgood74 : TGood Try.prog 74 ⟨1, false, [.nilFunc], [], 0, 8, .other, false, false⟩ := ⟨by kernel_rfl, by kernel_rfl, by kernel_rfl, by kernel_rfl, by kernel_rfl, by simp, trivial⟩
theorem tgood75 : TGood Try.prog 75 ⟨1, false, [.nilFunc], [], 0, 8, .other, false, false⟩ := ⟨by kernel_rfl, by kernel_rfl, by kernel_rfl, by kernel_rfl, by kernel_rfl, by simp, trivial⟩
theorem tgood76 : TGood Try.prog 76 ⟨1, false, [.nilFunc], [], 0, 8, .other, false, false⟩ := ⟨by kernel_rfl, by kernel_rfl, by kernel_rfl, by kernel_rfl, by kernel_rfl, by simp, trivial⟩
theorem tgood77 : TGood Try.prog 77 ⟨1, false, [.nilFunc], [], 0, 8, .other, false, false⟩ := ⟨by kernel_rfl, by kernel_rfl, by kernel_rfl, by kernel_rfl, by kernel_rfl, by simp, trivial⟩
theorem tgood78 : TGood Try.prog 78 ⟨1, false, [.nilFunc], [], 0, 8, .other, false, false⟩ := ⟨by kernel_rfl, by kernel_rfl, by kernel_rfl, by kernel_rfl, by kernel_rfl, by simp, trivial⟩
theorem tgood79 : TGood Try.prog 79 ⟨1, false, [.nilFunc], [], 0, 8, .other, false, false⟩ := ⟨by kernel_rfl, by kernel_rfl, by kernel_rfl, by kernel_rfl, by kernel_rfl, by simp, trivial⟩
theorem tgood80 : TGood Try.prog 80 ⟨1, false, [.nilFunc], [], 0, 8, .other, false, false⟩ := ⟨by kernel_rfl, by kernel_rfl, by kernel_rfl, by kernel_rfl, by kernel_rfl, by simp, trivial⟩
theorem tgood81 : TGood Try.prog 81 ⟨1, false, [.nilFunc], [], 0, 8, .other, false, false⟩ := ⟨by kernel_rfl, by kernel_rfl, by kernel_rfl, by kernel_rfl, by kernel_rfl, by simp, trivial⟩
theorem tgood82 : TGood Try.prog 82 ⟨1, false, [.nilFunc], [], 0, 8, .other, false, false⟩ := ⟨by kernel_rfl, by kernel_rfl, by kernel_rfl, by kernel_rfl, by kernel_rfl, by simp, trivial⟩
theorem tgood83 : TGood Try.prog 83 ⟨1, false, [.nilFunc], [], 0, 8, .other, false, false⟩ := ⟨by kernel_rfl, by kernel_rfl, by kernel_rfl, by kernel_rfl, by kernel_rfl, by simp, trivial⟩
theorem tgood84 : TGood Try.prog 84 ⟨1, false, [.nilFunc], [], 0, 8, .other, false, false⟩ := ⟨by kernel_rfl, by kernel_rfl, by kernel_rfl, by kernel_rfl, by kernel_rfl, by simp, trivial⟩
theorem tgood85 : TGood Try.prog 85 ⟨1, false, [.nilFunc], [], 0, 8, .other, false, false⟩ := ⟨by kernel_rfl, by kernel_rfl, by kernel_rfl, by kernel_rfl, by kernel_rfl, by simp, trivial⟩
theorem tgood86 : TGood Try.prog 86 ⟨1, false, [.nilFunc], [], 0, 8, .other, false, false⟩ := ⟨by kernel_rfl, by kernel_rfl, by kernel_rfl, by kernel_rfl, by kernel_rfl, by simp, trivial⟩
theorem tgood87 : TGood Try.prog 87 ⟨1, false, [.slice none 0 0], [], 9, 24, .other, false, true⟩ := ⟨by kernel_rfl, by kernel_rfl, by kernel_rfl, by kernel_rfl, by kernel_rfl, fun _ => by kernel_rfl, trivial⟩
theorem tgood88 : TGood Try.prog 88 ⟨1, false, [.nilFunc], [], 0, 8, .other, false, false⟩ := ⟨by kernel_rfl, by kernel_rfl, by kernel_rfl, by kernel_rfl, by kernel_rfl, by simp, trivial⟩
theorem tgood89 : TGood Try.prog 89 ⟨1, false, [.nilFunc], [], 0, 8, .other, false, false⟩ := ⟨by kernel_rfl, by kernel_rfl, by kernel_rfl, by kernel_rfl, by kernel_rfl, by simp, trivial⟩
theorem tgood90 : TGood Try.prog 90 ⟨1, false, [.slice none 0 0], [], 24, 24, .other, false, true⟩ := ⟨by kernel_rfl, by kernel_rfl, by kernel_rfl, by kernel_rfl, by kernel_rfl, fun _ => by kernel_rfl, trivial⟩
theorem tgood91 : TGood Try.prog 91 ⟨1, false, [.nilFunc], [], 0, 8, .other, false, false⟩ := ⟨by kernel_rfl, by kernel_rfl, by kernel_rfl, by kernel_rfl, by kernel_rfl, by simp, trivial⟩
theorem tgood97 : TGood Try.prog 97 ⟨1, false, [.int .u32 0], [], 0, 4, .int .u32, false, false⟩ := ⟨by kernel_rfl, by kernel_rfl, by kernel_rfl, by kernel_rfl, by kernel_rfl, by simp, (by kernel_rfl : Try.prog.underlying 97 = some (.int (.u32)))⟩
theorem tgood100 : TGood Try.prog 100 ⟨1, false, [.nilFunc], [], 0, 8, .other, false, false⟩ := ⟨by kernel_rfl, by kernel_rfl, by kernel_rfl, by kernel_rfl, by kernel_rfl, by simp, trivial⟩
theorem tgood101 : TGood Try.prog 101 ⟨1, false, [.pointer none], [], 0, 8, .other, false, false⟩ := ⟨by kernel_rfl, by kernel_rfl, by kernel_rfl, by kernel_rfl, by kernel_rfl, by simp, trivial⟩
theorem tgood104 : TGood Try.prog 104 ⟨11, true, [.int .u64 0, .int .u64 0, .int .u32 0, .int .u8 0, .int .u8 0, .int .u8 0, .int .u8 0, .nilFunc, .pointer none, .int .i32 0, .int .i32 0], [(0, 1), (1, 1), (2, 1), (3, 1), (4, 1), (5, 1), (6, 1), (7, 1), (8, 1), (9, 1), (10, 1)], 0, 48, .other, true, false⟩ := ⟨by kernel_rfl, by kernel_rfl, by kernel_rfl, by kernel_rfl, by kernel_rfl, by simp, trivial⟩
def tabL : List (Nat × TI) := [(3, ⟨1, false, [.int .i64 0], [], 0, 8, .int .i64, false, false⟩),
  (4, ⟨1, false, [.bool false], [], 0, 1, .bool, false, false⟩),
  (9, ⟨1, false, [.string ByteArray.empty], [], 0, 16, .str, false, false⟩),
  (1, ⟨1, false, [.nilFunc], [], 0, 8, .other, false, false⟩),
  (2, ⟨1, false, [.int .i64 0], [], 0, 8, .int .i64, false, false⟩),
  (5, ⟨1, false, [.int .u8 0], [], 0, 1, .int .u8, false, false⟩),
  (12, ⟨1, false, [.int .u64 0], [], 0, 8, .int .u64, false, false⟩),
  (15, ⟨1, false, [.pointer none], [], 0, 8, .other, false, false⟩),
  (16, ⟨1, false, [.pointer none], [], 0, 8, .other, false, false⟩),
  (17, ⟨1, false, [.pointer none], [], 0, 8, .other, false, false⟩),
  (21, ⟨1, false, [.int .i32 0], [], 0, 4, .int .i32, false, false⟩),
  (22, ⟨1, false, [.slice none 0 0], [], 5, 24, .other, false, true⟩),
  (23, ⟨1, false, [.nilFunc], [], 0, 8, .other, false, false⟩),
  (24, ⟨1, false, [.slice none 0 0], [], 3, 24, .other, false, true⟩),
  (25, ⟨1, true, [.slice none 0 0], [(0, 1)], 0, 24, .other, true, false⟩),
  (26, ⟨1, true, [.slice none 0 0], [(0, 1)], 0, 24, .other, true, false⟩),
  (28, ⟨1, false, [.nilFunc], [], 0, 8, .other, false, false⟩),
  (29, ⟨1, false, [.slice none 0 0], [], 36, 24, .other, false, true⟩),
  (31, ⟨1, false, [.nilFunc], [], 0, 8, .other, false, false⟩),
  (32, ⟨1, false, [.nilFunc], [], 0, 8, .other, false, false⟩),
  (34, ⟨1, false, [.nilFunc], [], 0, 8, .other, false, false⟩),
  (35, ⟨3, true, [.int .i64 0, .int .i64 0, .int .i64 0], [(0, 1), (1, 1), (2, 1)], 0, 24, .cells [.int, .int, .int], true, false⟩),
  (36, ⟨3, true, [.int .i64 0, .int .i64 0, .int .i64 0], [(0, 1), (1, 1), (2, 1)], 0, 24, .cells [.int, .int, .int], true, false⟩),
  (37, ⟨1, false, [.nilFunc], [], 0, 8, .other, false, false⟩),
  (39, ⟨1, false, [.nilFunc], [], 0, 8, .other, false, false⟩),
  (40, ⟨1, false, [.nilFunc], [], 0, 8, .other, false, false⟩),
  (41, ⟨4, true, [.int .i64 0, .int .i64 0, .int .i64 0, .int .i64 0], [(0, 1), (1, 1), (2, 1), (3, 1)], 0, 32, .cells [.int, .int, .int, .int], true, false⟩),
  (42, ⟨4, true, [.int .i64 0, .int .i64 0, .int .i64 0, .int .i64 0], [(0, 1), (1, 1), (2, 1), (3, 1)], 0, 32, .cells [.int, .int, .int, .int], true, false⟩),
  (43, ⟨4, true, [.int .i64 0, .int .i64 0, .int .i64 0, .int .i64 0], [(0, 1), (1, 1), (2, 1), (3, 1)], 0, 32, .cells [.int, .int, .int, .int], true, false⟩),
  (44, ⟨4, true, [.int .i64 0, .int .i64 0, .int .i64 0, .int .i64 0], [(0, 1), (1, 1), (2, 1), (3, 1)], 0, 32, .cells [.int, .int, .int, .int], true, false⟩),
  (45, ⟨15, true, [.int .i64 0, .int .i64 0, .int .i64 0, .int .i64 0, .int .i64 0, .int .i64 0, .int .i64 0, .int .i64 0, .int .i64 0, .int .i64 0, .int .i64 0, .int .i64 0, .int .i64 0, .int .i64 0, .int .i64 0], [(0, 4), (4, 1), (5, 1), (6, 1), (7, 4), (11, 4)], 0, 120, .cells [.int, .int, .int, .int, .int, .int, .int, .int, .int, .int, .int, .int, .int, .int, .int], true, false⟩),
  (46, ⟨15, true, [.int .i64 0, .int .i64 0, .int .i64 0, .int .i64 0, .int .i64 0, .int .i64 0, .int .i64 0, .int .i64 0, .int .i64 0, .int .i64 0, .int .i64 0, .int .i64 0, .int .i64 0, .int .i64 0, .int .i64 0], [(0, 4), (4, 1), (5, 1), (6, 1), (7, 4), (11, 4)], 0, 120, .cells [.int, .int, .int, .int, .int, .int, .int, .int, .int, .int, .int, .int, .int, .int, .int], true, false⟩),
  (47, ⟨1, false, [.nilFunc], [], 0, 8, .other, false, false⟩),
  (49, ⟨1, false, [.nilFunc], [], 0, 8, .other, false, false⟩),
  (51, ⟨1, false, [.nilFunc], [], 0, 8, .other, false, false⟩),
  (52, ⟨1, false, [.nilFunc], [], 0, 8, .other, false, false⟩),
  (53, ⟨1, false, [.pointer none], [], 0, 8, .other, false, false⟩),
  (54, ⟨1, false, [.int .u64 0], [], 0, 8, .int .u64, false, false⟩),
  (55, ⟨3, true, [.slice none 0 0, .int .i64 0, .int .u64 0], [(0, 1), (1, 1), (2, 1)], 0, 40, .other, true, false⟩),
  (56, ⟨3, true, [.slice none 0 0, .int .i64 0, .int .u64 0], [(0, 1), (1, 1), (2, 1)], 0, 40, .other, true, false⟩),
  (57, ⟨1, false, [.nilFunc], [], 0, 8, .other, false, false⟩),
  (58, ⟨1, false, [.nilFunc], [], 0, 8, .other, false, false⟩),
  (59, ⟨1, false, [.nilFunc], [], 0, 8, .other, false, false⟩),
  (60, ⟨1, false, [.nilFunc], [], 0, 8, .other, false, false⟩),
  (61, ⟨1, false, [.nilFunc], [], 0, 8, .other, false, false⟩),
  (62, ⟨1, false, [.nilFunc], [], 0, 8, .other, false, false⟩),
  (63, ⟨1, false, [.nilFunc], [], 0, 8, .other, false, false⟩),
  (64, ⟨1, false, [.nilFunc], [], 0, 8, .other, false, false⟩),
  (65, ⟨1, false, [.nilFunc], [], 0, 8, .other, false, false⟩),
  (66, ⟨1, false, [.nilFunc], [], 0, 8, .other, false, false⟩),
  (67, ⟨1, false, [.nilFunc], [], 0, 8, .other, false, false⟩),
  (68, ⟨1, false, [.nilFunc], [], 0, 8, .other, false, false⟩),
  (69, ⟨1, false, [.nilFunc], [], 0, 8, .other, false, false⟩),
  (70, ⟨1, false, [.nilFunc], [], 0, 8, .other, false, false⟩),
  (71, ⟨1, false, [.nilFunc], [], 0, 8, .other, false, false⟩),
  (72, ⟨1, false, [.nilFunc], [], 0, 8, .other, false, false⟩),
  (73, ⟨1, false, [.int .u64 0], [], 0, 8, .int .u64, false, false⟩),
  (74, ⟨1, false, [.nilFunc], [], 0, 8, .other, false, false⟩),
  (75, ⟨1, false, [.nilFunc], [], 0, 8, .other, false, false⟩),
  (76, ⟨1, false, [.nilFunc], [], 0, 8, .other, false, false⟩),
  (77, ⟨1, false, [.nilFunc], [], 0, 8, .other, false, false⟩),
  (78, ⟨1, false, [.nilFunc], [], 0, 8, .other, false, false⟩),
  (79, ⟨1, false, [.nilFunc], [], 0, 8, .other, false, false⟩),
  (80, ⟨1, false, [.nilFunc], [], 0, 8, .other, false, false⟩),
  (81, ⟨1, false, [.nilFunc], [], 0, 8, .other, false, false⟩),
  (82, ⟨1, false, [.nilFunc], [], 0, 8, .other, false, false⟩),
  (83, ⟨1, false, [.nilFunc], [], 0, 8, .other, false, false⟩),
  (84, ⟨1, false, [.nilFunc], [], 0, 8, .other, false, false⟩),
  (85, ⟨1, false, [.nilFunc], [], 0, 8, .other, false, false⟩),
  (86, ⟨1, false, [.nilFunc], [], 0, 8, .other, false, false⟩),
  (87, ⟨1, false, [.slice none 0 0], [], 9, 24, .other, false, true⟩),
  (88, ⟨1, false, [.nilFunc], [], 0, 8, .other, false, false⟩),
  (89, ⟨1, false, [.nilFunc], [], 0, 8, .other, false, false⟩),
  (90, ⟨1, false, [.slice none 0 0], [], 24, 24, .other, false, true⟩),
  (91, ⟨1, false, [.nilFunc], [], 0, 8, .other, false, false⟩),
  (97, ⟨1, false, [.int .u32 0], [], 0, 4, .int .u32, false, false⟩),
  (100, ⟨1, false, [.nilFunc], [], 0, 8, .other, false, false⟩),
  (101, ⟨1, false, [.pointer none], [], 0, 8, .other, false, false⟩),
  (104, ⟨11, true, [.int .u64 0, .int .u64 0, .int .u32 0, .int .u8 0, .int .u8 0, .int .u8 0, .int .u8 0, .nilFunc, .pointer none, .int .i32 0, .int .i32 0], [(0, 1), (1, 1), (2, 1), (3, 1), (4, 1), (5, 1), (6, 1), (7, 1), (8, 1), (9, 1), (10, 1)], 0, 48, .other, true, false⟩)]
def tab : Tab := ⟨tabL, false, 0⟩
/-- The same, empty literals the call's own; all literals. -/
def tabO : Tab := ⟨tabL, false, 1⟩
/-- As tabO, nested guards told. -/
def tabG : Tab := ⟨tabL, false, 3⟩
theorem TabOk.nil {P : Program} {u : Bool} {o : Nat} : TabOk P ⟨[], u, o⟩ := fun T i h => by simp [lk] at h
theorem TabOk.cons {P : Program} {T : Nat} {i : TI} {l : List (Nat × TI)} {u : Bool} {o : Nat} (h : TGood P T i) (r : TabOk P ⟨l, u, o⟩) : TabOk P ⟨(T, i) :: l, u, o⟩ := fun U j e => by
  rw [lk_cons] at e
  by_cases h0 : T = U
  · rw [if_pos h0] at e; injection e with e; subst e; subst h0; exact h
  · rw [if_neg h0] at e; exact r U j e
theorem tabOk : TabOk Try.prog tab := .cons tgood3 <| .cons tgood4 <| .cons tgood9 <| .cons tgood1 <| .cons tgood2 <| .cons tgood5 <| .cons tgood12 <| .cons tgood15 <| .cons tgood16 <| .cons tgood17 <| .cons tgood21 <| .cons tgood22 <| .cons tgood23 <| .cons tgood24 <| .cons tgood25 <| .cons tgood26 <| .cons tgood28 <| .cons tgood29 <| .cons tgood31 <| .cons tgood32 <| .cons tgood34 <| .cons tgood35 <| .cons tgood36 <| .cons tgood37 <| .cons tgood39 <| .cons tgood40 <| .cons tgood41 <| .cons tgood42 <| .cons tgood43 <| .cons tgood44 <| .cons tgood45 <| .cons tgood46 <| .cons tgood47 <| .cons tgood49 <| .cons tgood51 <| .cons tgood52 <| .cons tgood53 <| .cons tgood54 <| .cons tgood55 <| .cons tgood56 <| .cons tgood57 <| .cons tgood58 <| .cons tgood59 <| .cons tgood60 <| .cons tgood61 <| .cons tgood62 <| .cons tgood63 <| .cons tgood64 <| .cons tgood65 <| .cons tgood66 <| .cons tgood67 <| .cons tgood68 <| .cons tgood69 <| .cons tgood70 <| .cons tgood71 <| .cons tgood72 <| .cons tgood73 <| .cons tgood74 <| .cons tgood75 <| .cons tgood76 <| .cons tgood77 <| .cons tgood78 <| .cons tgood79 <| .cons tgood80 <| .cons tgood81 <| .cons tgood82 <| .cons tgood83 <| .cons tgood84 <| .cons tgood85 <| .cons tgood86 <| .cons tgood87 <| .cons tgood88 <| .cons tgood89 <| .cons tgood90 <| .cons tgood91 <| .cons tgood97 <| .cons tgood100 <| .cons tgood101 <| .cons tgood104 <| .nil
theorem tabOkO : TabOk Try.prog tabO := tabOk
theorem tabOkG : TabOk Try.prog tabG := tabOk
theorem mixed : Try.prog.follows .mixedOrders = true := by kernel_rfl
end Go.Proofs.Ytpilblmncpeelaa.AM

