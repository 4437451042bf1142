/- The seat's types, as the small machine asks of them. -/
import Derived.Test.YthcgkfgkknofnaaProg
import Derived.Test.YthcgkfgkknofnaaEngEv
import Derived.KernelRfl
namespace Go.Proofs.Ythcgkfgkknofnaa.Eng
open Go
theorem ti1 : ti Try.prog 1 = some ⟨.other, 1, 8, [.nilFunc]⟩ := by kernel_rfl
theorem ti2 : ti Try.prog 2 = some ⟨.int .i64, 1, 8, [.int .i64 0]⟩ := by kernel_rfl
theorem ti3 : ti Try.prog 3 = some ⟨.int .i64, 1, 8, [.int .i64 0]⟩ := by kernel_rfl
theorem ti4 : ti Try.prog 4 = some ⟨.bool, 1, 1, [.bool false]⟩ := by kernel_rfl
theorem ti5 : ti Try.prog 5 = some ⟨.int .u8, 1, 1, [.int .u8 0]⟩ := by kernel_rfl
theorem ti6 : ti Try.prog 6 = some ⟨.int .u8, 1, 1, [.int .u8 0]⟩ := by kernel_rfl
theorem ti7 : ti Try.prog 7 = some ⟨.struct [(0, 2), (1, 3), (2, 4), (3, 6)], 4, 24, [.int .i64 0, .int .i64 0, .bool false, .int .u8 0]⟩ := by kernel_rfl
theorem ti8 : ti Try.prog 8 = some ⟨.struct [(0, 2), (1, 3), (2, 4), (3, 6)], 4, 24, [.int .i64 0, .int .i64 0, .bool false, .int .u8 0]⟩ := by kernel_rfl
theorem ti9 : ti Try.prog 9 = some ⟨.str, 1, 16, [.string ByteArray.empty]⟩ := by kernel_rfl
theorem ti10 : ti Try.prog 10 = some ⟨.str, 1, 16, [.string ByteArray.empty]⟩ := by kernel_rfl
theorem ti11 : ti Try.prog 11 = some ⟨.str, 1, 16, [.string ByteArray.empty]⟩ := by kernel_rfl
theorem ti12 : ti Try.prog 12 = some ⟨.int .u64, 1, 8, [.int .u64 0]⟩ := by kernel_rfl
theorem ti13 : ti Try.prog 13 = some ⟨.struct [(0, 9), (1, 12)], 2, 24, [.string ByteArray.empty, .int .u64 0]⟩ := by kernel_rfl
theorem ti14 : ti Try.prog 14 = some ⟨.struct [(0, 9), (1, 12)], 2, 24, [.string ByteArray.empty, .int .u64 0]⟩ := by kernel_rfl
theorem ti15 : ti Try.prog 15 = some ⟨.ptr 102, 1, 8, [.pointer none]⟩ := by kernel_rfl
theorem ti16 : ti Try.prog 16 = some ⟨.ptr 105, 1, 8, [.pointer none]⟩ := by kernel_rfl
theorem ti17 : ti Try.prog 17 = some ⟨.ptr 112, 1, 8, [.pointer none]⟩ := by kernel_rfl
theorem ti18 : ti Try.prog 18 = some ⟨.struct [(0, 17)], 1, 8, [.pointer none]⟩ := by kernel_rfl
theorem ti19 : ti Try.prog 19 = some ⟨.struct [(0, 17)], 1, 8, [.pointer none]⟩ := by kernel_rfl
theorem ti20 : ti Try.prog 20 = some ⟨.other, 1, 16, [.nilIface]⟩ := by kernel_rfl
theorem ti21 : ti Try.prog 21 = some ⟨.int .i32, 1, 4, [.int .i32 0]⟩ := by kernel_rfl
theorem ti22 : ti Try.prog 22 = some ⟨.slice 24, 1, 24, [.slice none 0 0]⟩ := by kernel_rfl
theorem ti23 : ti Try.prog 23 = some ⟨.struct [(0, 3), (1, 3), (2, 9), (3, 22)], 4, 56, [.int .i64 0, .int .i64 0, .string ByteArray.empty, .slice none 0 0]⟩ := by kernel_rfl
theorem ti24 : ti Try.prog 24 = some ⟨.struct [(0, 3), (1, 3), (2, 9), (3, 22)], 4, 56, [.int .i64 0, .int .i64 0, .string ByteArray.empty, .slice none 0 0]⟩ := by kernel_rfl
theorem ti25 : ti Try.prog 25 = some ⟨.other, 1, 8, [.nilFunc]⟩ := by kernel_rfl
theorem ti26 : ti Try.prog 26 = some ⟨.other, 1, 8, [.nilFunc]⟩ := by kernel_rfl
theorem ti27 : ti Try.prog 27 = some ⟨.slice 34, 1, 24, [.slice none 0 0]⟩ := by kernel_rfl
theorem ti28 : ti Try.prog 28 = some ⟨.other, 1, 8, [.nilFunc]⟩ := by kernel_rfl
theorem ti29 : ti Try.prog 29 = some ⟨.slice 3, 1, 24, [.slice none 0 0]⟩ := by kernel_rfl
theorem ti30 : ti Try.prog 30 = some ⟨.other, 1, 8, [.nilFunc]⟩ := by kernel_rfl
theorem ti31 : ti Try.prog 31 = some ⟨.other, 1, 8, [.nilFunc]⟩ := by kernel_rfl
theorem ti32 : ti Try.prog 32 = some ⟨.other, 1, 8, [.nilFunc]⟩ := by kernel_rfl
theorem ti33 : ti Try.prog 33 = some ⟨.struct [(0, 9), (1, 3)], 2, 24, [.string ByteArray.empty, .int .i64 0]⟩ := by kernel_rfl
theorem ti34 : ti Try.prog 34 = some ⟨.struct [(0, 9), (1, 3)], 2, 24, [.string ByteArray.empty, .int .i64 0]⟩ := by kernel_rfl
theorem ti35 : ti Try.prog 35 = some ⟨.other, 1, 8, [.nilFunc]⟩ := by kernel_rfl
theorem ti36 : ti Try.prog 36 = some ⟨.other, 1, 8, [.nilFunc]⟩ := by kernel_rfl
theorem ti37 : ti Try.prog 37 = some ⟨.other, 1, 8, [.nilFunc]⟩ := by kernel_rfl
theorem ti38 : ti Try.prog 38 = some ⟨.other, 1, 8, [.nilFunc]⟩ := by kernel_rfl
theorem ti39 : ti Try.prog 39 = some ⟨.other, 1, 8, [.nilFunc]⟩ := by kernel_rfl
theorem ti40 : ti Try.prog 40 = some ⟨.other, 1, 8, [.nilFunc]⟩ := by kernel_rfl
theorem ti41 : ti Try.prog 41 = some ⟨.other, 1, 8, [.nilFunc]⟩ := by kernel_rfl
theorem ti43 : ti Try.prog 43 = some ⟨.other, 1, 8, [.nilFunc]⟩ := by kernel_rfl
theorem ti44 : ti Try.prog 44 = some ⟨.other, 1, 8, [.nilFunc]⟩ := by kernel_rfl
theorem ti45 : ti Try.prog 45 = some ⟨.other, 1, 8, [.nilFunc]⟩ := by kernel_rfl
theorem ti46 : ti Try.prog 46 = some ⟨.other, 1, 8, [.nilFunc]⟩ := by kernel_rfl
theorem ti47 : ti Try.prog 47 = some ⟨.ptr 52, 1, 8, [.pointer none]⟩ := by kernel_rfl
theorem ti48 : ti Try.prog 48 = some ⟨.struct [(0, 24), (4, 3), (5, 4)], 6, 72, [.int .i64 0, .int .i64 0, .string ByteArray.empty, .slice none 0 0, .int .i64 0, .bool false]⟩ := by kernel_rfl
theorem ti49 : ti Try.prog 49 = some ⟨.struct [(0, 24), (4, 3), (5, 4)], 6, 72, [.int .i64 0, .int .i64 0, .string ByteArray.empty, .slice none 0 0, .int .i64 0, .bool false]⟩ := by kernel_rfl
theorem ti50 : ti Try.prog 50 = some ⟨.slice 49, 1, 24, [.slice none 0 0]⟩ := by kernel_rfl
theorem ti51 : ti Try.prog 51 = some ⟨.struct [(0, 50), (1, 3), (2, 3), (3, 3), (4, 27)], 5, 72, [.slice none 0 0, .int .i64 0, .int .i64 0, .int .i64 0, .slice none 0 0]⟩ := by kernel_rfl
theorem ti52 : ti Try.prog 52 = some ⟨.struct [(0, 50), (1, 3), (2, 3), (3, 3), (4, 27)], 5, 72, [.slice none 0 0, .int .i64 0, .int .i64 0, .int .i64 0, .slice none 0 0]⟩ := by kernel_rfl
theorem ti53 : ti Try.prog 53 = some ⟨.other, 1, 8, [.nilFunc]⟩ := by kernel_rfl
theorem ti54 : ti Try.prog 54 = some ⟨.struct [(0, 24), (4, 3), (5, 4)], 6, 72, [.int .i64 0, .int .i64 0, .string ByteArray.empty, .slice none 0 0, .int .i64 0, .bool false]⟩ := by kernel_rfl
theorem ti55 : ti Try.prog 55 = some ⟨.struct [(0, 24), (4, 3), (5, 4)], 6, 72, [.int .i64 0, .int .i64 0, .string ByteArray.empty, .slice none 0 0, .int .i64 0, .bool false]⟩ := by kernel_rfl
theorem ti56 : ti Try.prog 56 = some ⟨.slice 55, 1, 24, [.slice none 0 0]⟩ := by kernel_rfl
theorem ti57 : ti Try.prog 57 = some ⟨.other, 1, 8, [.nilFunc]⟩ := by kernel_rfl
theorem ti59 : ti Try.prog 59 = some ⟨.other, 1, 8, [.nilFunc]⟩ := by kernel_rfl
theorem ti60 : ti Try.prog 60 = some ⟨.other, 1, 8, [.nilFunc]⟩ := by kernel_rfl
theorem ti61 : ti Try.prog 61 = some ⟨.ptr 64, 1, 8, [.pointer none]⟩ := by kernel_rfl
theorem ti62 : ti Try.prog 62 = some ⟨.slice 5, 1, 24, [.slice none 0 0]⟩ := by kernel_rfl
theorem ti63 : ti Try.prog 63 = some ⟨.struct [(0, 61), (1, 62)], 2, 32, [.pointer none, .slice none 0 0]⟩ := by kernel_rfl
theorem ti64 : ti Try.prog 64 = some ⟨.struct [(0, 61), (1, 62)], 2, 32, [.pointer none, .slice none 0 0]⟩ := by kernel_rfl
theorem ti65 : ti Try.prog 65 = some ⟨.other, 1, 16, [.nilIface]⟩ := by kernel_rfl
theorem ti66 : ti Try.prog 66 = some ⟨.other, 1, 16, [.nilIface]⟩ := by kernel_rfl
theorem ti68 : ti Try.prog 68 = some ⟨.other, 1, 8, [.nilFunc]⟩ := by kernel_rfl
theorem ti69 : ti Try.prog 69 = some ⟨.other, 1, 8, [.nilFunc]⟩ := by kernel_rfl
theorem ti71 : ti Try.prog 71 = some ⟨.other, 1, 8, [.nilFunc]⟩ := by kernel_rfl
theorem ti72 : ti Try.prog 72 = some ⟨.other, 1, 8, [.nilFunc]⟩ := by kernel_rfl
theorem ti73 : ti Try.prog 73 = some ⟨.other, 1, 8, [.nilFunc]⟩ := by kernel_rfl
theorem ti74 : ti Try.prog 74 = some ⟨.other, 1, 8, [.nilFunc]⟩ := by kernel_rfl
theorem ti75 : ti Try.prog 75 = some ⟨.ptr 5, 1, 8, [.pointer none]⟩ := by kernel_rfl
theorem ti76 : ti Try.prog 76 = some ⟨.other, 1, 8, [.nilFunc]⟩ := by kernel_rfl
theorem ti77 : ti Try.prog 77 = some ⟨.int .u64, 1, 8, [.int .u64 0]⟩ := by kernel_rfl
theorem ti78 : ti Try.prog 78 = some ⟨.other, 1, 8, [.nilFunc]⟩ := by kernel_rfl
theorem ti79 : ti Try.prog 79 = some ⟨.other, 1, 8, [.nilFunc]⟩ := by kernel_rfl
theorem ti80 : ti Try.prog 80 = some ⟨.other, 1, 8, [.nilFunc]⟩ := by kernel_rfl
theorem ti81 : ti Try.prog 81 = some ⟨.other, 1, 8, [.nilFunc]⟩ := by kernel_rfl
theorem ti83 : ti Try.prog 83 = some ⟨.other, 1, 8, [.nilFunc]⟩ := by kernel_rfl
theorem ti84 : ti Try.prog 84 = some ⟨.other, 1, 8, [.nilFunc]⟩ := by kernel_rfl
theorem ti86 : ti Try.prog 86 = some ⟨.other, 1, 8, [.nilFunc]⟩ := by kernel_rfl
theorem ti87 : ti Try.prog 87 = some ⟨.other, 1, 8, [.nilFunc]⟩ := by kernel_rfl
theorem ti88 : ti Try.prog 88 = some ⟨.other, 1, 8, [.nilFunc]⟩ := by kernel_rfl
theorem ti90 : ti Try.prog 90 = some ⟨.other, 1, 8, [.nilFunc]⟩ := by kernel_rfl
theorem ti91 : ti Try.prog 91 = some ⟨.other, 1, 8, [.nilFunc]⟩ := by kernel_rfl
theorem ti92 : ti Try.prog 92 = some ⟨.other, 1, 8, [.nilFunc]⟩ := by kernel_rfl
theorem ti93 : ti Try.prog 93 = some ⟨.int .u32, 1, 4, [.int .u32 0]⟩ := by kernel_rfl
theorem ti95 : ti Try.prog 95 = some ⟨.other, 1, 8, [.nilFunc]⟩ := by kernel_rfl
theorem ti96 : ti Try.prog 96 = some ⟨.int .u64, 1, 8, [.int .u64 0]⟩ := by kernel_rfl
theorem ti98 : ti Try.prog 98 = some ⟨.other, 1, 8, [.nilFunc]⟩ := by kernel_rfl
theorem ti99 : ti Try.prog 99 = some ⟨.other, 1, 8, [.nilFunc]⟩ := by kernel_rfl
theorem ti100 : ti Try.prog 100 = some ⟨.other, 1, 8, [.nilFunc]⟩ := by kernel_rfl
theorem ti101 : ti Try.prog 101 = some ⟨.struct [(0, 17), (1, 17), (2, 17), (3, 9)], 4, 40, [.pointer none, .pointer none, .pointer none, .string ByteArray.empty]⟩ := by kernel_rfl
theorem ti102 : ti Try.prog 102 = some ⟨.struct [(0, 17), (1, 17), (2, 17), (3, 9)], 4, 40, [.pointer none, .pointer none, .pointer none, .string ByteArray.empty]⟩ := by kernel_rfl
theorem ti103 : ti Try.prog 103 = some ⟨.array 0 16, 0, 0, []⟩ := by kernel_rfl
theorem ti104 : ti Try.prog 104 = some ⟨.struct [(0, 103)], 0, 0, []⟩ := by kernel_rfl
theorem ti105 : ti Try.prog 105 = some ⟨.struct [(0, 103)], 0, 0, []⟩ := by kernel_rfl
theorem ti106 : ti Try.prog 106 = some ⟨.int .u8, 1, 1, [.int .u8 0]⟩ := by kernel_rfl
theorem ti107 : ti Try.prog 107 = some ⟨.int .u8, 1, 1, [.int .u8 0]⟩ := by kernel_rfl
theorem ti108 : ti Try.prog 108 = some ⟨.other, 1, 8, [.nilFunc]⟩ := by kernel_rfl
theorem ti109 : ti Try.prog 109 = some ⟨.int .i32, 1, 4, [.int .i32 0]⟩ := by kernel_rfl
theorem ti110 : ti Try.prog 110 = some ⟨.int .i32, 1, 4, [.int .i32 0]⟩ := by kernel_rfl
theorem ti111 : ti Try.prog 111 = some ⟨.struct [(0, 12), (1, 12), (2, 93), (3, 106), (4, 5), (5, 5), (6, 107), (7, 108), (8, 75), (9, 109), (10, 110)], 11, 48, [.int .u64 0, .int .u64 0, .int .u32 0, .int .u8 0, .int .u8 0, .int .u8 0, .int .u8 0, .nilFunc, .pointer none, .int .i32 0, .int .i32 0]⟩ := by kernel_rfl
theorem ti112 : ti Try.prog 112 = some ⟨.struct [(0, 12), (1, 12), (2, 93), (3, 106), (4, 5), (5, 5), (6, 107), (7, 108), (8, 75), (9, 109), (10, 110)], 11, 48, [.int .u64 0, .int .u64 0, .int .u32 0, .int .u8 0, .int .u8 0, .int .u8 0, .int .u8 0, .nilFunc, .pointer none, .int .i32 0, .int .i32 0]⟩ := by kernel_rfl
theorem tis : ti Try.prog 1 = some ⟨.other, 1, 8, [.nilFunc]⟩ ∧ ti Try.prog 2 = some ⟨.int .i64, 1, 8, [.int .i64 0]⟩ ∧ ti Try.prog 3 = some ⟨.int .i64, 1, 8, [.int .i64 0]⟩ ∧ ti Try.prog 4 = some ⟨.bool, 1, 1, [.bool false]⟩ ∧ ti Try.prog 5 = some ⟨.int .u8, 1, 1, [.int .u8 0]⟩ ∧ ti Try.prog 6 = some ⟨.int .u8, 1, 1, [.int .u8 0]⟩ ∧ ti Try.prog 7 = some ⟨.struct [(0, 2), (1, 3), (2, 4), (3, 6)], 4, 24, [.int .i64 0, .int .i64 0, .bool false, .int .u8 0]⟩ ∧ ti Try.prog 8 = some ⟨.struct [(0, 2), (1, 3), (2, 4), (3, 6)], 4, 24, [.int .i64 0, .int .i64 0, .bool false, .int .u8 0]⟩ ∧ ti Try.prog 9 = some ⟨.str, 1, 16, [.string ByteArray.empty]⟩ ∧ ti Try.prog 10 = some ⟨.str, 1, 16, [.string ByteArray.empty]⟩ ∧ ti Try.prog 11 = some ⟨.str, 1, 16, [.string ByteArray.empty]⟩ ∧ ti Try.prog 12 = some ⟨.int .u64, 1, 8, [.int .u64 0]⟩ ∧ ti Try.prog 13 = some ⟨.struct [(0, 9), (1, 12)], 2, 24, [.string ByteArray.empty, .int .u64 0]⟩ ∧ ti Try.prog 14 = some ⟨.struct [(0, 9), (1, 12)], 2, 24, [.string ByteArray.empty, .int .u64 0]⟩ ∧ ti Try.prog 15 = some ⟨.ptr 102, 1, 8, [.pointer none]⟩ ∧ ti Try.prog 16 = some ⟨.ptr 105, 1, 8, [.pointer none]⟩ ∧ ti Try.prog 17 = some ⟨.ptr 112, 1, 8, [.pointer none]⟩ ∧ ti Try.prog 18 = some ⟨.struct [(0, 17)], 1, 8, [.pointer none]⟩ ∧ ti Try.prog 19 = some ⟨.struct [(0, 17)], 1, 8, [.pointer none]⟩ ∧ ti Try.prog 20 = some ⟨.other, 1, 16, [.nilIface]⟩ ∧ ti Try.prog 21 = some ⟨.int .i32, 1, 4, [.int .i32 0]⟩ ∧ ti Try.prog 22 = some ⟨.slice 24, 1, 24, [.slice none 0 0]⟩ ∧ ti Try.prog 23 = some ⟨.struct [(0, 3), (1, 3), (2, 9), (3, 22)], 4, 56, [.int .i64 0, .int .i64 0, .string ByteArray.empty, .slice none 0 0]⟩ ∧ ti Try.prog 24 = some ⟨.struct [(0, 3), (1, 3), (2, 9), (3, 22)], 4, 56, [.int .i64 0, .int .i64 0, .string ByteArray.empty, .slice none 0 0]⟩ ∧ ti Try.prog 25 = some ⟨.other, 1, 8, [.nilFunc]⟩ ∧ ti Try.prog 26 = some ⟨.other, 1, 8, [.nilFunc]⟩ ∧ ti Try.prog 27 = some ⟨.slice 34, 1, 24, [.slice none 0 0]⟩ ∧ ti Try.prog 28 = some ⟨.other, 1, 8, [.nilFunc]⟩ ∧ ti Try.prog 29 = some ⟨.slice 3, 1, 24, [.slice none 0 0]⟩ ∧ ti Try.prog 30 = some ⟨.other, 1, 8, [.nilFunc]⟩ ∧ ti Try.prog 31 = some ⟨.other, 1, 8, [.nilFunc]⟩ ∧ ti Try.prog 32 = some ⟨.other, 1, 8, [.nilFunc]⟩ ∧ ti Try.prog 33 = some ⟨.struct [(0, 9), (1, 3)], 2, 24, [.string ByteArray.empty, .int .i64 0]⟩ ∧ ti Try.prog 34 = some ⟨.struct [(0, 9), (1, 3)], 2, 24, [.string ByteArray.empty, .int .i64 0]⟩ ∧ ti Try.prog 35 = some ⟨.other, 1, 8, [.nilFunc]⟩ ∧ ti Try.prog 36 = some ⟨.other, 1, 8, [.nilFunc]⟩ ∧ ti Try.prog 37 = some ⟨.other, 1, 8, [.nilFunc]⟩ ∧ ti Try.prog 38 = some ⟨.other, 1, 8, [.nilFunc]⟩ ∧ ti Try.prog 39 = some ⟨.other, 1, 8, [.nilFunc]⟩ ∧ ti Try.prog 40 = some ⟨.other, 1, 8, [.nilFunc]⟩ ∧ ti Try.prog 41 = some ⟨.other, 1, 8, [.nilFunc]⟩ ∧ ti Try.prog 43 = some ⟨.other, 1, 8, [.nilFunc]⟩ ∧ ti Try.prog 44 = some ⟨.other, 1, 8, [.nilFunc]⟩ ∧ ti Try.prog 45 = some ⟨.other, 1, 8, [.nilFunc]⟩ ∧ ti Try.prog 46 = some ⟨.other, 1, 8, [.nilFunc]⟩ ∧ ti Try.prog 47 = some ⟨.ptr 52, 1, 8, [.pointer none]⟩ ∧ ti Try.prog 48 = some ⟨.struct [(0, 24), (4, 3), (5, 4)], 6, 72, [.int .i64 0, .int .i64 0, .string ByteArray.empty, .slice none 0 0, .int .i64 0, .bool false]⟩ ∧ ti Try.prog 49 = some ⟨.struct [(0, 24), (4, 3), (5, 4)], 6, 72, [.int .i64 0, .int .i64 0, .string ByteArray.empty, .slice none 0 0, .int .i64 0, .bool false]⟩ ∧ ti Try.prog 50 = some ⟨.slice 49, 1, 24, [.slice none 0 0]⟩ ∧ ti Try.prog 51 = some ⟨.struct [(0, 50), (1, 3), (2, 3), (3, 3), (4, 27)], 5, 72, [.slice none 0 0, .int .i64 0, .int .i64 0, .int .i64 0, .slice none 0 0]⟩ ∧ ti Try.prog 52 = some ⟨.struct [(0, 50), (1, 3), (2, 3), (3, 3), (4, 27)], 5, 72, [.slice none 0 0, .int .i64 0, .int .i64 0, .int .i64 0, .slice none 0 0]⟩ ∧ ti Try.prog 53 = some ⟨.other, 1, 8, [.nilFunc]⟩ ∧ ti Try.prog 54 = some ⟨.struct [(0, 24), (4, 3), (5, 4)], 6, 72, [.int .i64 0, .int .i64 0, .string ByteArray.empty, .slice none 0 0, .int .i64 0, .bool false]⟩ ∧ ti Try.prog 55 = some ⟨.struct [(0, 24), (4, 3), (5, 4)], 6, 72, [.int .i64 0, .int .i64 0, .string ByteArray.empty, .slice none 0 0, .int .i64 0, .bool false]⟩ ∧ ti Try.prog 56 = some ⟨.slice 55, 1, 24, [.slice none 0 0]⟩ ∧ ti Try.prog 57 = some ⟨.other, 1, 8, [.nilFunc]⟩ ∧ ti Try.prog 59 = some ⟨.other, 1, 8, [.nilFunc]⟩ ∧ ti Try.prog 60 = some ⟨.other, 1, 8, [.nilFunc]⟩ ∧ ti Try.prog 61 = some ⟨.ptr 64, 1, 8, [.pointer none]⟩ ∧ ti Try.prog 62 = some ⟨.slice 5, 1, 24, [.slice none 0 0]⟩ ∧ ti Try.prog 63 = some ⟨.struct [(0, 61), (1, 62)], 2, 32, [.pointer none, .slice none 0 0]⟩ ∧ ti Try.prog 64 = some ⟨.struct [(0, 61), (1, 62)], 2, 32, [.pointer none, .slice none 0 0]⟩ ∧ ti Try.prog 65 = some ⟨.other, 1, 16, [.nilIface]⟩ ∧ ti Try.prog 66 = some ⟨.other, 1, 16, [.nilIface]⟩ ∧ ti Try.prog 68 = some ⟨.other, 1, 8, [.nilFunc]⟩ ∧ ti Try.prog 69 = some ⟨.other, 1, 8, [.nilFunc]⟩ ∧ ti Try.prog 71 = some ⟨.other, 1, 8, [.nilFunc]⟩ ∧ ti Try.prog 72 = some ⟨.other, 1, 8, [.nilFunc]⟩ ∧ ti Try.prog 73 = some ⟨.other, 1, 8, [.nilFunc]⟩ ∧ ti Try.prog 74 = some ⟨.other, 1, 8, [.nilFunc]⟩ ∧ ti Try.prog 75 = some ⟨.ptr 5, 1, 8, [.pointer none]⟩ ∧ ti Try.prog 76 = some ⟨.other, 1, 8, [.nilFunc]⟩ ∧ ti Try.prog 77 = some ⟨.int .u64, 1, 8, [.int .u64 0]⟩ ∧ ti Try.prog 78 = some ⟨.other, 1, 8, [.nilFunc]⟩ ∧ ti Try.prog 79 = some ⟨.other, 1, 8, [.nilFunc]⟩ ∧ ti Try.prog 80 = some ⟨.other, 1, 8, [.nilFunc]⟩ ∧ ti Try.prog 81 = some ⟨.other, 1, 8, [.nilFunc]⟩ ∧ ti Try.prog 83 = some ⟨.other, 1, 8, [.nilFunc]⟩ ∧ ti Try.prog 84 = some ⟨.other, 1, 8, [.nilFunc]⟩ ∧ ti Try.prog 86 = some ⟨.other, 1, 8, [.nilFunc]⟩ ∧ ti Try.prog 87 = some ⟨.other, 1, 8, [.nilFunc]⟩ ∧ ti Try.prog 88 = some ⟨.other, 1, 8, [.nilFunc]⟩ ∧ ti Try.prog 90 = some ⟨.other, 1, 8, [.nilFunc]⟩ ∧ ti Try.prog 91 = some ⟨.other, 1, 8, [.nilFunc]⟩ ∧ ti Try.prog 92 = some ⟨.other, 1, 8, [.nilFunc]⟩ ∧ ti Try.prog 93 = some ⟨.int .u32, 1, 4, [.int .u32 0]⟩ ∧ ti Try.prog 95 = some ⟨.other, 1, 8, [.nilFunc]⟩ ∧ ti Try.prog 96 = some ⟨.int .u64, 1, 8, [.int .u64 0]⟩ ∧ ti Try.prog 98 = some ⟨.other, 1, 8, [.nilFunc]⟩ ∧ ti Try.prog 99 = some ⟨.other, 1, 8, [.nilFunc]⟩ ∧ ti Try.prog 100 = some ⟨.other, 1, 8, [.nilFunc]⟩ ∧ ti Try.prog 101 = some ⟨.struct [(0, 17), (1, 17), (2, 17), (3, 9)], 4, 40, [.pointer none, .pointer none, .pointer none, .string ByteArray.empty]⟩ ∧ ti Try.prog 102 = some ⟨.struct [(0, 17), (1, 17), (2, 17), (3, 9)], 4, 40, [.pointer none, .pointer none, .pointer none, .string ByteArray.empty]⟩ ∧ ti Try.prog 103 = some ⟨.array 0 16, 0, 0, []⟩ ∧ ti Try.prog 104 = some ⟨.struct [(0, 103)], 0, 0, []⟩ ∧ ti Try.prog 105 = some ⟨.struct [(0, 103)], 0, 0, []⟩ ∧ ti Try.prog 106 = some ⟨.int .u8, 1, 1, [.int .u8 0]⟩ ∧ ti Try.prog 107 = some ⟨.int .u8, 1, 1, [.int .u8 0]⟩ ∧ ti Try.prog 108 = some ⟨.other, 1, 8, [.nilFunc]⟩ ∧ ti Try.prog 109 = some ⟨.int .i32, 1, 4, [.int .i32 0]⟩ ∧ ti Try.prog 110 = some ⟨.int .i32, 1, 4, [.int .i32 0]⟩ ∧ ti Try.prog 111 = some ⟨.struct [(0, 12), (1, 12), (2, 93), (3, 106), (4, 5), (5, 5), (6, 107), (7, 108), (8, 75), (9, 109), (10, 110)], 11, 48, [.int .u64 0, .int .u64 0, .int .u32 0, .int .u8 0, .int .u8 0, .int .u8 0, .int .u8 0, .nilFunc, .pointer none, .int .i32 0, .int .i32 0]⟩ ∧ ti Try.prog 112 = some ⟨.struct [(0, 12), (1, 12), (2, 93), (3, 106), (4, 5), (5, 5), (6, 107), (7, 108), (8, 75), (9, 109), (10, 110)], 11, 48, [.int .u64 0, .int .u64 0, .int .u32 0, .int .u8 0, .int .u8 0, .int .u8 0, .int .u8 0, .nilFunc, .pointer none, .int .i32 0, .int .i32 0]⟩ :=
  ⟨ti1, ti2, ti3, ti4, ti5, ti6, ti7, ti8, ti9, ti10, ti11, ti12, ti13, ti14, ti15, ti16, ti17, ti18, ti19, ti20, ti21, ti22, ti23, ti24, ti25, ti26, ti27, ti28, ti29, ti30, ti31, ti32, ti33, ti34, ti35, ti36, ti37, ti38, ti39, ti40, ti41, ti43, ti44, ti45, ti46, ti47, ti48, ti49, ti50, ti51, ti52, ti53, ti54, ti55, ti56, ti57, ti59, ti60, ti61, ti62, ti63, ti64, ti65, ti66, ti68, ti69, ti71, ti72, ti73, ti74, ti75, ti76, ti77, ti78, ti79, ti80, ti81, ti83, ti84, ti86, ti87, ti88, ti90, ti91, ti92, ti93, ti95, ti96, ti98, ti99, ti100, ti101, ti102, ti103, ti104, ti105, ti106, ti107, ti108, ti109, ti110, ti111, ti112⟩
theorem mixed : Try.prog.follows .mixedOrders = true := by kernel_rfl
end Go.Proofs.Ythcgkfgkknofnaa.Eng
