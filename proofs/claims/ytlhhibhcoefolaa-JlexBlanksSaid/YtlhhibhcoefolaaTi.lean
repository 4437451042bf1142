/- The seat's types, as the small machine asks of them. -/
import Derived.Test.YtlhhibhcoefolaaProg
import Derived.Test.YtlhhibhcoefolaaEngEv
import Derived.KernelRfl
namespace Go.Proofs.Ytlhhibhcoefolaa.Eng
open Go
theorem ti1 : ti Try.prog 1 = some ⟨.other, 1, 8, [.nilFunc]⟩ := by kernel_rfl
theorem ti2 : ti Try.prog 2 = some ⟨.int .i64, 1, 8, [.int .i64 0]⟩ := by kernel_rfl
theorem ti3 : ti Try.prog 3 = some ⟨.int .i64, 1, 8, [.int .i64 0]⟩ := by kernel_rfl
theorem ti4 : ti Try.prog 4 = some ⟨.bool, 1, 1, [.bool false]⟩ := by kernel_rfl
theorem ti5 : ti Try.prog 5 = some ⟨.int .u8, 1, 1, [.int .u8 0]⟩ := by kernel_rfl
theorem ti6 : ti Try.prog 6 = some ⟨.int .u8, 1, 1, [.int .u8 0]⟩ := by kernel_rfl
theorem ti7 : ti Try.prog 7 = some ⟨.struct [(0, 2), (1, 3), (2, 4), (3, 6)], 4, 24, [.int .i64 0, .int .i64 0, .bool false, .int .u8 0]⟩ := by kernel_rfl
theorem ti8 : ti Try.prog 8 = some ⟨.struct [(0, 2), (1, 3), (2, 4), (3, 6)], 4, 24, [.int .i64 0, .int .i64 0, .bool false, .int .u8 0]⟩ := by kernel_rfl
theorem ti9 : ti Try.prog 9 = some ⟨.str, 1, 16, [.string ByteArray.empty]⟩ := by kernel_rfl
theorem ti10 : ti Try.prog 10 = some ⟨.str, 1, 16, [.string ByteArray.empty]⟩ := by kernel_rfl
theorem ti11 : ti Try.prog 11 = some ⟨.str, 1, 16, [.string ByteArray.empty]⟩ := by kernel_rfl
theorem ti12 : ti Try.prog 12 = some ⟨.int .u64, 1, 8, [.int .u64 0]⟩ := by kernel_rfl
theorem ti13 : ti Try.prog 13 = some ⟨.struct [(0, 9), (1, 12)], 2, 24, [.string ByteArray.empty, .int .u64 0]⟩ := by kernel_rfl
theorem ti14 : ti Try.prog 14 = some ⟨.struct [(0, 9), (1, 12)], 2, 24, [.string ByteArray.empty, .int .u64 0]⟩ := by kernel_rfl
theorem ti15 : ti Try.prog 15 = some ⟨.ptr 60, 1, 8, [.pointer none]⟩ := by kernel_rfl
theorem ti16 : ti Try.prog 16 = some ⟨.ptr 63, 1, 8, [.pointer none]⟩ := by kernel_rfl
theorem ti17 : ti Try.prog 17 = some ⟨.ptr 73, 1, 8, [.pointer none]⟩ := by kernel_rfl
theorem ti18 : ti Try.prog 18 = some ⟨.struct [(0, 17)], 1, 8, [.pointer none]⟩ := by kernel_rfl
theorem ti19 : ti Try.prog 19 = some ⟨.struct [(0, 17)], 1, 8, [.pointer none]⟩ := by kernel_rfl
theorem ti20 : ti Try.prog 20 = some ⟨.other, 1, 16, [.nilIface]⟩ := by kernel_rfl
theorem ti21 : ti Try.prog 21 = some ⟨.int .i32, 1, 4, [.int .i32 0]⟩ := by kernel_rfl
theorem ti22 : ti Try.prog 22 = some ⟨.slice 5, 1, 24, [.slice none 0 0]⟩ := by kernel_rfl
theorem ti23 : ti Try.prog 23 = some ⟨.other, 1, 8, [.nilFunc]⟩ := by kernel_rfl
theorem ti24 : ti Try.prog 24 = some ⟨.slice 31, 1, 24, [.slice none 0 0]⟩ := by kernel_rfl
theorem ti25 : ti Try.prog 25 = some ⟨.int .i64, 1, 8, [.int .i64 0]⟩ := by kernel_rfl
theorem ti26 : ti Try.prog 26 = some ⟨.struct [(0, 25), (1, 3)], 2, 16, [.int .i64 0, .int .i64 0]⟩ := by kernel_rfl
theorem ti27 : ti Try.prog 27 = some ⟨.struct [(0, 25), (1, 3)], 2, 16, [.int .i64 0, .int .i64 0]⟩ := by kernel_rfl
theorem ti29 : ti Try.prog 29 = some ⟨.other, 1, 8, [.nilFunc]⟩ := by kernel_rfl
theorem ti30 : ti Try.prog 30 = some ⟨.struct [(0, 3), (1, 3), (2, 3)], 3, 24, [.int .i64 0, .int .i64 0, .int .i64 0]⟩ := by kernel_rfl
theorem ti31 : ti Try.prog 31 = some ⟨.struct [(0, 3), (1, 3), (2, 3)], 3, 24, [.int .i64 0, .int .i64 0, .int .i64 0]⟩ := by kernel_rfl
theorem ti32 : ti Try.prog 32 = some ⟨.other, 1, 8, [.nilFunc]⟩ := by kernel_rfl
theorem ti33 : ti Try.prog 33 = some ⟨.slice 3, 1, 24, [.slice none 0 0]⟩ := by kernel_rfl
theorem ti34 : ti Try.prog 34 = some ⟨.slice 9, 1, 24, [.slice none 0 0]⟩ := by kernel_rfl
theorem ti35 : ti Try.prog 35 = some ⟨.other, 1, 8, [.nilFunc]⟩ := by kernel_rfl
theorem ti36 : ti Try.prog 36 = some ⟨.other, 1, 8, [.nilFunc]⟩ := by kernel_rfl
theorem ti37 : ti Try.prog 37 = some ⟨.other, 1, 8, [.nilFunc]⟩ := by kernel_rfl
theorem ti39 : ti Try.prog 39 = some ⟨.other, 1, 8, [.nilFunc]⟩ := by kernel_rfl
theorem ti40 : ti Try.prog 40 = some ⟨.other, 1, 8, [.nilFunc]⟩ := by kernel_rfl
theorem ti41 : ti Try.prog 41 = some ⟨.other, 1, 8, [.nilFunc]⟩ := by kernel_rfl
theorem ti42 : ti Try.prog 42 = some ⟨.other, 1, 8, [.nilFunc]⟩ := by kernel_rfl
theorem ti43 : ti Try.prog 43 = some ⟨.other, 1, 8, [.nilFunc]⟩ := by kernel_rfl
theorem ti44 : ti Try.prog 44 = some ⟨.other, 1, 8, [.nilFunc]⟩ := by kernel_rfl
theorem ti46 : ti Try.prog 46 = some ⟨.other, 1, 8, [.nilFunc]⟩ := by kernel_rfl
theorem ti47 : ti Try.prog 47 = some ⟨.other, 1, 8, [.nilFunc]⟩ := by kernel_rfl
theorem ti49 : ti Try.prog 49 = some ⟨.other, 1, 8, [.nilFunc]⟩ := by kernel_rfl
theorem ti50 : ti Try.prog 50 = some ⟨.other, 1, 8, [.nilFunc]⟩ := by kernel_rfl
theorem ti51 : ti Try.prog 51 = some ⟨.other, 1, 8, [.nilFunc]⟩ := by kernel_rfl
theorem ti52 : ti Try.prog 52 = some ⟨.other, 1, 8, [.nilFunc]⟩ := by kernel_rfl
theorem ti53 : ti Try.prog 53 = some ⟨.int .u64, 1, 8, [.int .u64 0]⟩ := by kernel_rfl
theorem ti54 : ti Try.prog 54 = some ⟨.other, 1, 8, [.nilFunc]⟩ := by kernel_rfl
theorem ti55 : ti Try.prog 55 = some ⟨.other, 1, 8, [.nilFunc]⟩ := by kernel_rfl
theorem ti56 : ti Try.prog 56 = some ⟨.other, 1, 8, [.nilFunc]⟩ := by kernel_rfl
theorem ti57 : ti Try.prog 57 = some ⟨.other, 1, 8, [.nilFunc]⟩ := by kernel_rfl
theorem ti58 : ti Try.prog 58 = some ⟨.other, 1, 8, [.nilFunc]⟩ := by kernel_rfl
theorem ti59 : ti Try.prog 59 = some ⟨.struct [(0, 17), (1, 17), (2, 17), (3, 9)], 4, 40, [.pointer none, .pointer none, .pointer none, .string ByteArray.empty]⟩ := by kernel_rfl
theorem ti60 : ti Try.prog 60 = some ⟨.struct [(0, 17), (1, 17), (2, 17), (3, 9)], 4, 40, [.pointer none, .pointer none, .pointer none, .string ByteArray.empty]⟩ := by kernel_rfl
theorem ti61 : ti Try.prog 61 = some ⟨.array 0 16, 0, 0, []⟩ := by kernel_rfl
theorem ti62 : ti Try.prog 62 = some ⟨.struct [(0, 61)], 0, 0, []⟩ := by kernel_rfl
theorem ti63 : ti Try.prog 63 = some ⟨.struct [(0, 61)], 0, 0, []⟩ := by kernel_rfl
theorem ti64 : ti Try.prog 64 = some ⟨.other, 1, 8, [.nilFunc]⟩ := by kernel_rfl
theorem ti65 : ti Try.prog 65 = some ⟨.int .u32, 1, 4, [.int .u32 0]⟩ := by kernel_rfl
theorem ti66 : ti Try.prog 66 = some ⟨.int .u8, 1, 1, [.int .u8 0]⟩ := by kernel_rfl
theorem ti67 : ti Try.prog 67 = some ⟨.int .u8, 1, 1, [.int .u8 0]⟩ := by kernel_rfl
theorem ti68 : ti Try.prog 68 = some ⟨.other, 1, 8, [.nilFunc]⟩ := by kernel_rfl
theorem ti69 : ti Try.prog 69 = some ⟨.ptr 5, 1, 8, [.pointer none]⟩ := by kernel_rfl
theorem ti70 : ti Try.prog 70 = some ⟨.int .i32, 1, 4, [.int .i32 0]⟩ := by kernel_rfl
theorem ti71 : ti Try.prog 71 = some ⟨.int .i32, 1, 4, [.int .i32 0]⟩ := by kernel_rfl
theorem ti72 : ti Try.prog 72 = some ⟨.struct [(0, 12), (1, 12), (2, 65), (3, 66), (4, 5), (5, 5), (6, 67), (7, 68), (8, 69), (9, 70), (10, 71)], 11, 48, [.int .u64 0, .int .u64 0, .int .u32 0, .int .u8 0, .int .u8 0, .int .u8 0, .int .u8 0, .nilFunc, .pointer none, .int .i32 0, .int .i32 0]⟩ := by kernel_rfl
theorem ti73 : ti Try.prog 73 = some ⟨.struct [(0, 12), (1, 12), (2, 65), (3, 66), (4, 5), (5, 5), (6, 67), (7, 68), (8, 69), (9, 70), (10, 71)], 11, 48, [.int .u64 0, .int .u64 0, .int .u32 0, .int .u8 0, .int .u8 0, .int .u8 0, .int .u8 0, .nilFunc, .pointer none, .int .i32 0, .int .i32 0]⟩ := by kernel_rfl
theorem tis : ti Try.prog 1 = some ⟨.other, 1, 8, [.nilFunc]⟩ ∧ ti Try.prog 2 = some ⟨.int .i64, 1, 8, [.int .i64 0]⟩ ∧ ti Try.prog 3 = some ⟨.int .i64, 1, 8, [.int .i64 0]⟩ ∧ ti Try.prog 4 = some ⟨.bool, 1, 1, [.bool false]⟩ ∧ ti Try.prog 5 = some ⟨.int .u8, 1, 1, [.int .u8 0]⟩ ∧ ti Try.prog 6 = some ⟨.int .u8, 1, 1, [.int .u8 0]⟩ ∧ ti Try.prog 7 = some ⟨.struct [(0, 2), (1, 3), (2, 4), (3, 6)], 4, 24, [.int .i64 0, .int .i64 0, .bool false, .int .u8 0]⟩ ∧ ti Try.prog 8 = some ⟨.struct [(0, 2), (1, 3), (2, 4), (3, 6)], 4, 24, [.int .i64 0, .int .i64 0, .bool false, .int .u8 0]⟩ ∧ ti Try.prog 9 = some ⟨.str, 1, 16, [.string ByteArray.empty]⟩ ∧ ti Try.prog 10 = some ⟨.str, 1, 16, [.string ByteArray.empty]⟩ ∧ ti Try.prog 11 = some ⟨.str, 1, 16, [.string ByteArray.empty]⟩ ∧ ti Try.prog 12 = some ⟨.int .u64, 1, 8, [.int .u64 0]⟩ ∧ ti Try.prog 13 = some ⟨.struct [(0, 9), (1, 12)], 2, 24, [.string ByteArray.empty, .int .u64 0]⟩ ∧ ti Try.prog 14 = some ⟨.struct [(0, 9), (1, 12)], 2, 24, [.string ByteArray.empty, .int .u64 0]⟩ ∧ ti Try.prog 15 = some ⟨.ptr 60, 1, 8, [.pointer none]⟩ ∧ ti Try.prog 16 = some ⟨.ptr 63, 1, 8, [.pointer none]⟩ ∧ ti Try.prog 17 = some ⟨.ptr 73, 1, 8, [.pointer none]⟩ ∧ ti Try.prog 18 = some ⟨.struct [(0, 17)], 1, 8, [.pointer none]⟩ ∧ ti Try.prog 19 = some ⟨.struct [(0, 17)], 1, 8, [.pointer none]⟩ ∧ ti Try.prog 20 = some ⟨.other, 1, 16, [.nilIface]⟩ ∧ ti Try.prog 21 = some ⟨.int .i32, 1, 4, [.int .i32 0]⟩ ∧ ti Try.prog 22 = some ⟨.slice 5, 1, 24, [.slice none 0 0]⟩ ∧ ti Try.prog 23 = some ⟨.other, 1, 8, [.nilFunc]⟩ ∧ ti Try.prog 24 = some ⟨.slice 31, 1, 24, [.slice none 0 0]⟩ ∧ ti Try.prog 25 = some ⟨.int .i64, 1, 8, [.int .i64 0]⟩ ∧ ti Try.prog 26 = some ⟨.struct [(0, 25), (1, 3)], 2, 16, [.int .i64 0, .int .i64 0]⟩ ∧ ti Try.prog 27 = some ⟨.struct [(0, 25), (1, 3)], 2, 16, [.int .i64 0, .int .i64 0]⟩ ∧ ti Try.prog 29 = some ⟨.other, 1, 8, [.nilFunc]⟩ ∧ ti Try.prog 30 = some ⟨.struct [(0, 3), (1, 3), (2, 3)], 3, 24, [.int .i64 0, .int .i64 0, .int .i64 0]⟩ ∧ ti Try.prog 31 = some ⟨.struct [(0, 3), (1, 3), (2, 3)], 3, 24, [.int .i64 0, .int .i64 0, .int .i64 0]⟩ ∧ ti Try.prog 32 = some ⟨.other, 1, 8, [.nilFunc]⟩ ∧ ti Try.prog 33 = some ⟨.slice 3, 1, 24, [.slice none 0 0]⟩ ∧ ti Try.prog 34 = some ⟨.slice 9, 1, 24, [.slice none 0 0]⟩ ∧ ti Try.prog 35 = some ⟨.other, 1, 8, [.nilFunc]⟩ ∧ ti Try.prog 36 = some ⟨.other, 1, 8, [.nilFunc]⟩ ∧ ti Try.prog 37 = some ⟨.other, 1, 8, [.nilFunc]⟩ ∧ ti Try.prog 39 = some ⟨.other, 1, 8, [.nilFunc]⟩ ∧ ti Try.prog 40 = some ⟨.other, 1, 8, [.nilFunc]⟩ ∧ ti Try.prog 41 = some ⟨.other, 1, 8, [.nilFunc]⟩ ∧ ti Try.prog 42 = some ⟨.other, 1, 8, [.nilFunc]⟩ ∧ ti Try.prog 43 = some ⟨.other, 1, 8, [.nilFunc]⟩ ∧ ti Try.prog 44 = some ⟨.other, 1, 8, [.nilFunc]⟩ ∧ ti Try.prog 46 = some ⟨.other, 1, 8, [.nilFunc]⟩ ∧ ti Try.prog 47 = some ⟨.other, 1, 8, [.nilFunc]⟩ ∧ ti Try.prog 49 = some ⟨.other, 1, 8, [.nilFunc]⟩ ∧ ti Try.prog 50 = some ⟨.other, 1, 8, [.nilFunc]⟩ ∧ ti Try.prog 51 = some ⟨.other, 1, 8, [.nilFunc]⟩ ∧ ti Try.prog 52 = some ⟨.other, 1, 8, [.nilFunc]⟩ ∧ ti Try.prog 53 = some ⟨.int .u64, 1, 8, [.int .u64 0]⟩ ∧ ti Try.prog 54 = some ⟨.other, 1, 8, [.nilFunc]⟩ ∧ ti Try.prog 55 = some ⟨.other, 1, 8, [.nilFunc]⟩ ∧ ti Try.prog 56 = some ⟨.other, 1, 8, [.nilFunc]⟩ ∧ ti Try.prog 57 = some ⟨.other, 1, 8, [.nilFunc]⟩ ∧ ti Try.prog 58 = some ⟨.other, 1, 8, [.nilFunc]⟩ ∧ ti Try.prog 59 = some ⟨.struct [(0, 17), (1, 17), (2, 17), (3, 9)], 4, 40, [.pointer none, .pointer none, .pointer none, .string ByteArray.empty]⟩ ∧ ti Try.prog 60 = some ⟨.struct [(0, 17), (1, 17), (2, 17), (3, 9)], 4, 40, [.pointer none, .pointer none, .pointer none, .string ByteArray.empty]⟩ ∧ ti Try.prog 61 = some ⟨.array 0 16, 0, 0, []⟩ ∧ ti Try.prog 62 = some ⟨.struct [(0, 61)], 0, 0, []⟩ ∧ ti Try.prog 63 = some ⟨.struct [(0, 61)], 0, 0, []⟩ ∧ ti Try.prog 64 = some ⟨.other, 1, 8, [.nilFunc]⟩ ∧ ti Try.prog 65 = some ⟨.int .u32, 1, 4, [.int .u32 0]⟩ ∧ ti Try.prog 66 = some ⟨.int .u8, 1, 1, [.int .u8 0]⟩ ∧ ti Try.prog 67 = some ⟨.int .u8, 1, 1, [.int .u8 0]⟩ ∧ ti Try.prog 68 = some ⟨.other, 1, 8, [.nilFunc]⟩ ∧ ti Try.prog 69 = some ⟨.ptr 5, 1, 8, [.pointer none]⟩ ∧ ti Try.prog 70 = some ⟨.int .i32, 1, 4, [.int .i32 0]⟩ ∧ ti Try.prog 71 = some ⟨.int .i32, 1, 4, [.int .i32 0]⟩ ∧ ti Try.prog 72 = some ⟨.struct [(0, 12), (1, 12), (2, 65), (3, 66), (4, 5), (5, 5), (6, 67), (7, 68), (8, 69), (9, 70), (10, 71)], 11, 48, [.int .u64 0, .int .u64 0, .int .u32 0, .int .u8 0, .int .u8 0, .int .u8 0, .int .u8 0, .nilFunc, .pointer none, .int .i32 0, .int .i32 0]⟩ ∧ ti Try.prog 73 = some ⟨.struct [(0, 12), (1, 12), (2, 65), (3, 66), (4, 5), (5, 5), (6, 67), (7, 68), (8, 69), (9, 70), (10, 71)], 11, 48, [.int .u64 0, .int .u64 0, .int .u32 0, .int .u8 0, .int .u8 0, .int .u8 0, .int .u8 0, .nilFunc, .pointer none, .int .i32 0, .int .i32 0]⟩ :=
  ⟨ti1, ti2, ti3, ti4, ti5, ti6, ti7, ti8, ti9, ti10, ti11, ti12, ti13, ti14, ti15, ti16, ti17, ti18, ti19, ti20, ti21, ti22, ti23, ti24, ti25, ti26, ti27, ti29, ti30, ti31, ti32, ti33, ti34, ti35, ti36, ti37, ti39, ti40, ti41, ti42, ti43, ti44, ti46, ti47, ti49, ti50, ti51, ti52, ti53, ti54, ti55, ti56, ti57, ti58, ti59, ti60, ti61, ti62, ti63, ti64, ti65, ti66, ti67, ti68, ti69, ti70, ti71, ti72, ti73⟩
theorem mixed : Try.prog.follows .mixedOrders = true := by kernel_rfl
end Go.Proofs.Ytlhhibhcoefolaa.Eng
