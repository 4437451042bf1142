/- The seat's types, as the small machine asks of them. -/
import Derived.Test.YthokfhifahlohaaDoorProg
import Derived.Test.YthokfhifahlohaaDoorEngEv
import Derived.KernelRfl
namespace Go.Proofs.YthokfhifahlohaaDoor.Eng
open Go
theorem ti1 : ti Tryd.prog 1 = some ⟨.other, 1, 8, [.nilFunc]⟩ := by kernel_rfl
theorem ti2 : ti Tryd.prog 2 = some ⟨.int .i64, 1, 8, [.int .i64 0]⟩ := by kernel_rfl
theorem ti3 : ti Tryd.prog 3 = some ⟨.int .i64, 1, 8, [.int .i64 0]⟩ := by kernel_rfl
theorem ti4 : ti Tryd.prog 4 = some ⟨.bool, 1, 1, [.bool false]⟩ := by kernel_rfl
theorem ti5 : ti Tryd.prog 5 = some ⟨.int .u8, 1, 1, [.int .u8 0]⟩ := by kernel_rfl
theorem ti6 : ti Tryd.prog 6 = some ⟨.int .u8, 1, 1, [.int .u8 0]⟩ := by kernel_rfl
theorem ti7 : ti Tryd.prog 7 = some ⟨.struct [(0, 2), (1, 3), (2, 4), (3, 6)], 4, 24, [.int .i64 0, .int .i64 0, .bool false, .int .u8 0]⟩ := by kernel_rfl
theorem ti8 : ti Tryd.prog 8 = some ⟨.struct [(0, 2), (1, 3), (2, 4), (3, 6)], 4, 24, [.int .i64 0, .int .i64 0, .bool false, .int .u8 0]⟩ := by kernel_rfl
theorem ti9 : ti Tryd.prog 9 = some ⟨.str, 1, 16, [.string ByteArray.empty]⟩ := by kernel_rfl
theorem ti10 : ti Tryd.prog 10 = some ⟨.str, 1, 16, [.string ByteArray.empty]⟩ := by kernel_rfl
theorem ti11 : ti Tryd.prog 11 = some ⟨.str, 1, 16, [.string ByteArray.empty]⟩ := by kernel_rfl
theorem ti12 : ti Tryd.prog 12 = some ⟨.int .u64, 1, 8, [.int .u64 0]⟩ := by kernel_rfl
theorem ti13 : ti Tryd.prog 13 = some ⟨.struct [(0, 9), (1, 12)], 2, 24, [.string ByteArray.empty, .int .u64 0]⟩ := by kernel_rfl
theorem ti14 : ti Tryd.prog 14 = some ⟨.struct [(0, 9), (1, 12)], 2, 24, [.string ByteArray.empty, .int .u64 0]⟩ := by kernel_rfl
theorem ti15 : ti Tryd.prog 15 = some ⟨.ptr 83, 1, 8, [.pointer none]⟩ := by kernel_rfl
theorem ti16 : ti Tryd.prog 16 = some ⟨.ptr 86, 1, 8, [.pointer none]⟩ := by kernel_rfl
theorem ti17 : ti Tryd.prog 17 = some ⟨.ptr 93, 1, 8, [.pointer none]⟩ := by kernel_rfl
theorem ti18 : ti Tryd.prog 18 = some ⟨.struct [(0, 17)], 1, 8, [.pointer none]⟩ := by kernel_rfl
theorem ti19 : ti Tryd.prog 19 = some ⟨.struct [(0, 17)], 1, 8, [.pointer none]⟩ := by kernel_rfl
theorem ti20 : ti Tryd.prog 20 = some ⟨.other, 1, 16, [.nilIface]⟩ := by kernel_rfl
theorem ti21 : ti Tryd.prog 21 = some ⟨.int .i32, 1, 4, [.int .i32 0]⟩ := by kernel_rfl
theorem ti22 : ti Tryd.prog 22 = some ⟨.slice 35, 1, 24, [.slice none 0 0]⟩ := by kernel_rfl
theorem ti23 : ti Tryd.prog 23 = some ⟨.other, 1, 8, [.nilFunc]⟩ := by kernel_rfl
theorem ti25 : ti Tryd.prog 25 = some ⟨.other, 1, 8, [.nilFunc]⟩ := by kernel_rfl
theorem ti26 : ti Tryd.prog 26 = some ⟨.other, 1, 8, [.nilFunc]⟩ := by kernel_rfl
theorem ti28 : ti Tryd.prog 28 = some ⟨.other, 1, 8, [.nilFunc]⟩ := by kernel_rfl
theorem ti29 : ti Tryd.prog 29 = some ⟨.other, 1, 8, [.nilFunc]⟩ := by kernel_rfl
theorem ti30 : ti Tryd.prog 30 = some ⟨.other, 1, 8, [.nilFunc]⟩ := by kernel_rfl
theorem ti31 : ti Tryd.prog 31 = some ⟨.slice 9, 1, 24, [.slice none 0 0]⟩ := by kernel_rfl
theorem ti32 : ti Tryd.prog 32 = some ⟨.slice 4, 1, 24, [.slice none 0 0]⟩ := by kernel_rfl
theorem ti33 : ti Tryd.prog 33 = some ⟨.other, 1, 8, [.nilFunc]⟩ := by kernel_rfl
theorem ti34 : ti Tryd.prog 34 = some ⟨.struct [(0, 3), (1, 3), (2, 3), (3, 3)], 4, 32, [.int .i64 0, .int .i64 0, .int .i64 0, .int .i64 0]⟩ := by kernel_rfl
theorem ti35 : ti Tryd.prog 35 = some ⟨.struct [(0, 3), (1, 3), (2, 3), (3, 3)], 4, 32, [.int .i64 0, .int .i64 0, .int .i64 0, .int .i64 0]⟩ := by kernel_rfl
theorem ti36 : ti Tryd.prog 36 = some ⟨.other, 1, 8, [.nilFunc]⟩ := by kernel_rfl
theorem ti37 : ti Tryd.prog 37 = some ⟨.other, 1, 8, [.nilFunc]⟩ := by kernel_rfl
theorem ti39 : ti Tryd.prog 39 = some ⟨.other, 1, 8, [.nilFunc]⟩ := by kernel_rfl
theorem ti40 : ti Tryd.prog 40 = some ⟨.int .u64, 1, 8, [.int .u64 0]⟩ := by kernel_rfl
theorem ti41 : ti Tryd.prog 41 = some ⟨.other, 1, 8, [.nilFunc]⟩ := by kernel_rfl
theorem ti42 : ti Tryd.prog 42 = some ⟨.other, 1, 8, [.nilFunc]⟩ := by kernel_rfl
theorem ti43 : ti Tryd.prog 43 = some ⟨.array 4 3, 4, 32, [.int .i64 0, .int .i64 0, .int .i64 0, .int .i64 0]⟩ := by kernel_rfl
theorem ti45 : ti Tryd.prog 45 = some ⟨.other, 1, 8, [.nilFunc]⟩ := by kernel_rfl
theorem ti46 : ti Tryd.prog 46 = some ⟨.ptr 49, 1, 8, [.pointer none]⟩ := by kernel_rfl
theorem ti47 : ti Tryd.prog 47 = some ⟨.slice 5, 1, 24, [.slice none 0 0]⟩ := by kernel_rfl
theorem ti48 : ti Tryd.prog 48 = some ⟨.struct [(0, 46), (1, 47)], 2, 32, [.pointer none, .slice none 0 0]⟩ := by kernel_rfl
theorem ti49 : ti Tryd.prog 49 = some ⟨.struct [(0, 46), (1, 47)], 2, 32, [.pointer none, .slice none 0 0]⟩ := by kernel_rfl
theorem ti50 : ti Tryd.prog 50 = some ⟨.other, 1, 16, [.nilIface]⟩ := by kernel_rfl
theorem ti51 : ti Tryd.prog 51 = some ⟨.other, 1, 16, [.nilIface]⟩ := by kernel_rfl
theorem ti53 : ti Tryd.prog 53 = some ⟨.other, 1, 8, [.nilFunc]⟩ := by kernel_rfl
theorem ti54 : ti Tryd.prog 54 = some ⟨.slice 3, 1, 24, [.slice none 0 0]⟩ := by kernel_rfl
theorem ti55 : ti Tryd.prog 55 = some ⟨.other, 1, 8, [.nilFunc]⟩ := by kernel_rfl
theorem ti56 : ti Tryd.prog 56 = some ⟨.other, 1, 8, [.nilFunc]⟩ := by kernel_rfl
theorem ti57 : ti Tryd.prog 57 = some ⟨.other, 1, 8, [.nilFunc]⟩ := by kernel_rfl
theorem ti59 : ti Tryd.prog 59 = some ⟨.other, 1, 8, [.nilFunc]⟩ := by kernel_rfl
theorem ti60 : ti Tryd.prog 60 = some ⟨.other, 1, 8, [.nilFunc]⟩ := by kernel_rfl
theorem ti61 : ti Tryd.prog 61 = some ⟨.other, 1, 8, [.nilFunc]⟩ := by kernel_rfl
theorem ti62 : ti Tryd.prog 62 = some ⟨.other, 1, 8, [.nilFunc]⟩ := by kernel_rfl
theorem ti63 : ti Tryd.prog 63 = some ⟨.ptr 5, 1, 8, [.pointer none]⟩ := by kernel_rfl
theorem ti64 : ti Tryd.prog 64 = some ⟨.other, 1, 8, [.nilFunc]⟩ := by kernel_rfl
theorem ti66 : ti Tryd.prog 66 = some ⟨.other, 1, 8, [.nilFunc]⟩ := by kernel_rfl
theorem ti68 : ti Tryd.prog 68 = some ⟨.other, 1, 8, [.nilFunc]⟩ := by kernel_rfl
theorem ti69 : ti Tryd.prog 69 = some ⟨.int .u32, 1, 4, [.int .u32 0]⟩ := by kernel_rfl
theorem ti71 : ti Tryd.prog 71 = some ⟨.other, 1, 8, [.nilFunc]⟩ := by kernel_rfl
theorem ti72 : ti Tryd.prog 72 = some ⟨.int .u64, 1, 8, [.int .u64 0]⟩ := by kernel_rfl
theorem ti74 : ti Tryd.prog 74 = some ⟨.other, 1, 8, [.nilFunc]⟩ := by kernel_rfl
theorem ti75 : ti Tryd.prog 75 = some ⟨.other, 1, 8, [.nilFunc]⟩ := by kernel_rfl
theorem ti76 : ti Tryd.prog 76 = some ⟨.other, 1, 8, [.nilFunc]⟩ := by kernel_rfl
theorem ti78 : ti Tryd.prog 78 = some ⟨.struct [(0, 5), (1, 5)], 2, 2, [.int .u8 0, .int .u8 0]⟩ := by kernel_rfl
theorem ti79 : ti Tryd.prog 79 = some ⟨.struct [(0, 5), (1, 5)], 2, 2, [.int .u8 0, .int .u8 0]⟩ := by kernel_rfl
theorem ti81 : ti Tryd.prog 81 = some ⟨.other, 1, 8, [.nilFunc]⟩ := by kernel_rfl
theorem ti82 : ti Tryd.prog 82 = some ⟨.struct [(0, 17), (1, 17), (2, 17), (3, 9)], 4, 40, [.pointer none, .pointer none, .pointer none, .string ByteArray.empty]⟩ := by kernel_rfl
theorem ti83 : ti Tryd.prog 83 = some ⟨.struct [(0, 17), (1, 17), (2, 17), (3, 9)], 4, 40, [.pointer none, .pointer none, .pointer none, .string ByteArray.empty]⟩ := by kernel_rfl
theorem ti84 : ti Tryd.prog 84 = some ⟨.array 0 16, 0, 0, []⟩ := by kernel_rfl
theorem ti85 : ti Tryd.prog 85 = some ⟨.struct [(0, 84)], 0, 0, []⟩ := by kernel_rfl
theorem ti86 : ti Tryd.prog 86 = some ⟨.struct [(0, 84)], 0, 0, []⟩ := by kernel_rfl
theorem ti87 : ti Tryd.prog 87 = some ⟨.int .u8, 1, 1, [.int .u8 0]⟩ := by kernel_rfl
theorem ti88 : ti Tryd.prog 88 = some ⟨.int .u8, 1, 1, [.int .u8 0]⟩ := by kernel_rfl
theorem ti89 : ti Tryd.prog 89 = some ⟨.other, 1, 8, [.nilFunc]⟩ := by kernel_rfl
theorem ti90 : ti Tryd.prog 90 = some ⟨.int .i32, 1, 4, [.int .i32 0]⟩ := by kernel_rfl
theorem ti91 : ti Tryd.prog 91 = some ⟨.int .i32, 1, 4, [.int .i32 0]⟩ := by kernel_rfl
theorem ti92 : ti Tryd.prog 92 = some ⟨.struct [(0, 12), (1, 12), (2, 69), (3, 87), (4, 5), (5, 5), (6, 88), (7, 89), (8, 63), (9, 90), (10, 91)], 11, 48, [.int .u64 0, .int .u64 0, .int .u32 0, .int .u8 0, .int .u8 0, .int .u8 0, .int .u8 0, .nilFunc, .pointer none, .int .i32 0, .int .i32 0]⟩ := by kernel_rfl
theorem ti93 : ti Tryd.prog 93 = some ⟨.struct [(0, 12), (1, 12), (2, 69), (3, 87), (4, 5), (5, 5), (6, 88), (7, 89), (8, 63), (9, 90), (10, 91)], 11, 48, [.int .u64 0, .int .u64 0, .int .u32 0, .int .u8 0, .int .u8 0, .int .u8 0, .int .u8 0, .nilFunc, .pointer none, .int .i32 0, .int .i32 0]⟩ := by kernel_rfl
theorem tis : ti Tryd.prog 1 = some ⟨.other, 1, 8, [.nilFunc]⟩ ∧ ti Tryd.prog 2 = some ⟨.int .i64, 1, 8, [.int .i64 0]⟩ ∧ ti Tryd.prog 3 = some ⟨.int .i64, 1, 8, [.int .i64 0]⟩ ∧ ti Tryd.prog 4 = some ⟨.bool, 1, 1, [.bool false]⟩ ∧ ti Tryd.prog 5 = some ⟨.int .u8, 1, 1, [.int .u8 0]⟩ ∧ ti Tryd.prog 6 = some ⟨.int .u8, 1, 1, [.int .u8 0]⟩ ∧ ti Tryd.prog 7 = some ⟨.struct [(0, 2), (1, 3), (2, 4), (3, 6)], 4, 24, [.int .i64 0, .int .i64 0, .bool false, .int .u8 0]⟩ ∧ ti Tryd.prog 8 = some ⟨.struct [(0, 2), (1, 3), (2, 4), (3, 6)], 4, 24, [.int .i64 0, .int .i64 0, .bool false, .int .u8 0]⟩ ∧ ti Tryd.prog 9 = some ⟨.str, 1, 16, [.string ByteArray.empty]⟩ ∧ ti Tryd.prog 10 = some ⟨.str, 1, 16, [.string ByteArray.empty]⟩ ∧ ti Tryd.prog 11 = some ⟨.str, 1, 16, [.string ByteArray.empty]⟩ ∧ ti Tryd.prog 12 = some ⟨.int .u64, 1, 8, [.int .u64 0]⟩ ∧ ti Tryd.prog 13 = some ⟨.struct [(0, 9), (1, 12)], 2, 24, [.string ByteArray.empty, .int .u64 0]⟩ ∧ ti Tryd.prog 14 = some ⟨.struct [(0, 9), (1, 12)], 2, 24, [.string ByteArray.empty, .int .u64 0]⟩ ∧ ti Tryd.prog 15 = some ⟨.ptr 83, 1, 8, [.pointer none]⟩ ∧ ti Tryd.prog 16 = some ⟨.ptr 86, 1, 8, [.pointer none]⟩ ∧ ti Tryd.prog 17 = some ⟨.ptr 93, 1, 8, [.pointer none]⟩ ∧ ti Tryd.prog 18 = some ⟨.struct [(0, 17)], 1, 8, [.pointer none]⟩ ∧ ti Tryd.prog 19 = some ⟨.struct [(0, 17)], 1, 8, [.pointer none]⟩ ∧ ti Tryd.prog 20 = some ⟨.other, 1, 16, [.nilIface]⟩ ∧ ti Tryd.prog 21 = some ⟨.int .i32, 1, 4, [.int .i32 0]⟩ ∧ ti Tryd.prog 22 = some ⟨.slice 35, 1, 24, [.slice none 0 0]⟩ ∧ ti Tryd.prog 23 = some ⟨.other, 1, 8, [.nilFunc]⟩ ∧ ti Tryd.prog 25 = some ⟨.other, 1, 8, [.nilFunc]⟩ ∧ ti Tryd.prog 26 = some ⟨.other, 1, 8, [.nilFunc]⟩ ∧ ti Tryd.prog 28 = some ⟨.other, 1, 8, [.nilFunc]⟩ ∧ ti Tryd.prog 29 = some ⟨.other, 1, 8, [.nilFunc]⟩ ∧ ti Tryd.prog 30 = some ⟨.other, 1, 8, [.nilFunc]⟩ ∧ ti Tryd.prog 31 = some ⟨.slice 9, 1, 24, [.slice none 0 0]⟩ ∧ ti Tryd.prog 32 = some ⟨.slice 4, 1, 24, [.slice none 0 0]⟩ ∧ ti Tryd.prog 33 = some ⟨.other, 1, 8, [.nilFunc]⟩ ∧ ti Tryd.prog 34 = some ⟨.struct [(0, 3), (1, 3), (2, 3), (3, 3)], 4, 32, [.int .i64 0, .int .i64 0, .int .i64 0, .int .i64 0]⟩ ∧ ti Tryd.prog 35 = some ⟨.struct [(0, 3), (1, 3), (2, 3), (3, 3)], 4, 32, [.int .i64 0, .int .i64 0, .int .i64 0, .int .i64 0]⟩ ∧ ti Tryd.prog 36 = some ⟨.other, 1, 8, [.nilFunc]⟩ ∧ ti Tryd.prog 37 = some ⟨.other, 1, 8, [.nilFunc]⟩ ∧ ti Tryd.prog 39 = some ⟨.other, 1, 8, [.nilFunc]⟩ ∧ ti Tryd.prog 40 = some ⟨.int .u64, 1, 8, [.int .u64 0]⟩ ∧ ti Tryd.prog 41 = some ⟨.other, 1, 8, [.nilFunc]⟩ ∧ ti Tryd.prog 42 = some ⟨.other, 1, 8, [.nilFunc]⟩ ∧ ti Tryd.prog 43 = some ⟨.array 4 3, 4, 32, [.int .i64 0, .int .i64 0, .int .i64 0, .int .i64 0]⟩ ∧ ti Tryd.prog 45 = some ⟨.other, 1, 8, [.nilFunc]⟩ ∧ ti Tryd.prog 46 = some ⟨.ptr 49, 1, 8, [.pointer none]⟩ ∧ ti Tryd.prog 47 = some ⟨.slice 5, 1, 24, [.slice none 0 0]⟩ ∧ ti Tryd.prog 48 = some ⟨.struct [(0, 46), (1, 47)], 2, 32, [.pointer none, .slice none 0 0]⟩ ∧ ti Tryd.prog 49 = some ⟨.struct [(0, 46), (1, 47)], 2, 32, [.pointer none, .slice none 0 0]⟩ ∧ ti Tryd.prog 50 = some ⟨.other, 1, 16, [.nilIface]⟩ ∧ ti Tryd.prog 51 = some ⟨.other, 1, 16, [.nilIface]⟩ ∧ ti Tryd.prog 53 = some ⟨.other, 1, 8, [.nilFunc]⟩ ∧ ti Tryd.prog 54 = some ⟨.slice 3, 1, 24, [.slice none 0 0]⟩ ∧ ti Tryd.prog 55 = some ⟨.other, 1, 8, [.nilFunc]⟩ ∧ ti Tryd.prog 56 = some ⟨.other, 1, 8, [.nilFunc]⟩ ∧ ti Tryd.prog 57 = some ⟨.other, 1, 8, [.nilFunc]⟩ ∧ ti Tryd.prog 59 = some ⟨.other, 1, 8, [.nilFunc]⟩ ∧ ti Tryd.prog 60 = some ⟨.other, 1, 8, [.nilFunc]⟩ ∧ ti Tryd.prog 61 = some ⟨.other, 1, 8, [.nilFunc]⟩ ∧ ti Tryd.prog 62 = some ⟨.other, 1, 8, [.nilFunc]⟩ ∧ ti Tryd.prog 63 = some ⟨.ptr 5, 1, 8, [.pointer none]⟩ ∧ ti Tryd.prog 64 = some ⟨.other, 1, 8, [.nilFunc]⟩ ∧ ti Tryd.prog 66 = some ⟨.other, 1, 8, [.nilFunc]⟩ ∧ ti Tryd.prog 68 = some ⟨.other, 1, 8, [.nilFunc]⟩ ∧ ti Tryd.prog 69 = some ⟨.int .u32, 1, 4, [.int .u32 0]⟩ ∧ ti Tryd.prog 71 = some ⟨.other, 1, 8, [.nilFunc]⟩ ∧ ti Tryd.prog 72 = some ⟨.int .u64, 1, 8, [.int .u64 0]⟩ ∧ ti Tryd.prog 74 = some ⟨.other, 1, 8, [.nilFunc]⟩ ∧ ti Tryd.prog 75 = some ⟨.other, 1, 8, [.nilFunc]⟩ ∧ ti Tryd.prog 76 = some ⟨.other, 1, 8, [.nilFunc]⟩ ∧ ti Tryd.prog 78 = some ⟨.struct [(0, 5), (1, 5)], 2, 2, [.int .u8 0, .int .u8 0]⟩ ∧ ti Tryd.prog 79 = some ⟨.struct [(0, 5), (1, 5)], 2, 2, [.int .u8 0, .int .u8 0]⟩ ∧ ti Tryd.prog 81 = some ⟨.other, 1, 8, [.nilFunc]⟩ ∧ ti Tryd.prog 82 = some ⟨.struct [(0, 17), (1, 17), (2, 17), (3, 9)], 4, 40, [.pointer none, .pointer none, .pointer none, .string ByteArray.empty]⟩ ∧ ti Tryd.prog 83 = some ⟨.struct [(0, 17), (1, 17), (2, 17), (3, 9)], 4, 40, [.pointer none, .pointer none, .pointer none, .string ByteArray.empty]⟩ ∧ ti Tryd.prog 84 = some ⟨.array 0 16, 0, 0, []⟩ ∧ ti Tryd.prog 85 = some ⟨.struct [(0, 84)], 0, 0, []⟩ ∧ ti Tryd.prog 86 = some ⟨.struct [(0, 84)], 0, 0, []⟩ ∧ ti Tryd.prog 87 = some ⟨.int .u8, 1, 1, [.int .u8 0]⟩ ∧ ti Tryd.prog 88 = some ⟨.int .u8, 1, 1, [.int .u8 0]⟩ ∧ ti Tryd.prog 89 = some ⟨.other, 1, 8, [.nilFunc]⟩ ∧ ti Tryd.prog 90 = some ⟨.int .i32, 1, 4, [.int .i32 0]⟩ ∧ ti Tryd.prog 91 = some ⟨.int .i32, 1, 4, [.int .i32 0]⟩ ∧ ti Tryd.prog 92 = some ⟨.struct [(0, 12), (1, 12), (2, 69), (3, 87), (4, 5), (5, 5), (6, 88), (7, 89), (8, 63), (9, 90), (10, 91)], 11, 48, [.int .u64 0, .int .u64 0, .int .u32 0, .int .u8 0, .int .u8 0, .int .u8 0, .int .u8 0, .nilFunc, .pointer none, .int .i32 0, .int .i32 0]⟩ ∧ ti Tryd.prog 93 = some ⟨.struct [(0, 12), (1, 12), (2, 69), (3, 87), (4, 5), (5, 5), (6, 88), (7, 89), (8, 63), (9, 90), (10, 91)], 11, 48, [.int .u64 0, .int .u64 0, .int .u32 0, .int .u8 0, .int .u8 0, .int .u8 0, .int .u8 0, .nilFunc, .pointer none, .int .i32 0, .int .i32 0]⟩ :=
  ⟨ti1, ti2, ti3, ti4, ti5, ti6, ti7, ti8, ti9, ti10, ti11, ti12, ti13, ti14, ti15, ti16, ti17, ti18, ti19, ti20, ti21, ti22, ti23, ti25, ti26, ti28, ti29, ti30, ti31, ti32, ti33, ti34, ti35, ti36, ti37, ti39, ti40, ti41, ti42, ti43, ti45, ti46, ti47, ti48, ti49, ti50, ti51, ti53, ti54, ti55, ti56, ti57, ti59, ti60, ti61, ti62, ti63, ti64, ti66, ti68, ti69, ti71, ti72, ti74, ti75, ti76, ti78, ti79, ti81, ti82, ti83, ti84, ti85, ti86, ti87, ti88, ti89, ti90, ti91, ti92, ti93⟩
theorem mixed : Tryd.prog.follows .mixedOrders = true := by kernel_rfl
end Go.Proofs.YthokfhifahlohaaDoor.Eng
