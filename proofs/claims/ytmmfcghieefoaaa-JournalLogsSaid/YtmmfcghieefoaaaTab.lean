/- The types of the seat, as the abstract machine sees them (printed by wip/tools/gentab.py). -/
import Derived.Test.YtmmfcghieefoaaaProg
import Derived.Test.YtmmfcghieefoaaaAbP
import Derived.WalkKit
set_option linter.all false
namespace Go.Proofs.Ytmmfcghieefoaaa
open Go Go.Ab
def tabT : TT :=
 (.node (.node (.node (.node (.node (.node (.node .nil 0 ⟨.other, 1, 0, none, none⟩
 .nil) 1 ⟨.other, 1, 8, (some [.val .nilFunc]), none⟩
 (.node .nil 2 ⟨.int .i64, 1, 8, (some [.int .i64 0]), none⟩
 .nil)) 3 ⟨.int .i64, 1, 8, (some [.int .i64 0]), none⟩
 (.node (.node .nil 4 ⟨.bool, 1, 1, (some [.bool false]), none⟩
 .nil) 5 ⟨.int .u8, 1, 1, (some [.int .u8 0]), none⟩
 .nil)) 6 ⟨.int .u8, 1, 1, (some [.int .u8 0]), none⟩
 (.node (.node (.node .nil 7 ⟨.struct [(0, 2), (1, 3), (2, 4), (3, 6)], 4, 24, (some [.int .i64 0, .int .i64 0, .bool false, .int .u8 0]), none⟩
 .nil) 8 ⟨.struct [(0, 2), (1, 3), (2, 4), (3, 6)], 4, 24, (some [.int .i64 0, .int .i64 0, .bool false, .int .u8 0]), none⟩
 (.node .nil 9 ⟨.str, 1, 16, (some [.str []]), none⟩
 .nil)) 10 ⟨.str, 1, 16, (some [.str []]), none⟩
 (.node (.node .nil 11 ⟨.str, 1, 16, (some [.str []]), none⟩
 .nil) 12 ⟨.int .u64, 1, 8, (some [.int .u64 0]), none⟩
 .nil))) 13 ⟨.struct [(0, 9), (1, 12)], 2, 24, (some [.str [], .int .u64 0]), none⟩
 (.node (.node (.node (.node .nil 14 ⟨.struct [(0, 9), (1, 12)], 2, 24, (some [.str [], .int .u64 0]), none⟩
 .nil) 15 ⟨.ptr, 1, 8, (some [.val (.pointer none)]), none⟩
 (.node .nil 16 ⟨.ptr, 1, 8, (some [.val (.pointer none)]), none⟩
 .nil)) 17 ⟨.ptr, 1, 8, (some [.val (.pointer none)]), none⟩
 (.node (.node .nil 18 ⟨.struct [(0, 17)], 1, 8, (some [.val (.pointer none)]), none⟩
 .nil) 19 ⟨.struct [(0, 17)], 1, 8, (some [.val (.pointer none)]), none⟩
 .nil)) 20 ⟨.other, 1, 16, (some [.val .nilIface]), none⟩
 (.node (.node (.node .nil 21 ⟨.int .i32, 1, 4, (some [.int .i32 0]), none⟩
 .nil) 22 ⟨.slice 5, 1, 24, (some [.list .byte []]), (some .byte)⟩
 .nil) 23 ⟨.other, 1, 8, (some [.val .nilFunc]), none⟩
 (.node (.node .nil 24 ⟨.ptr, 1, 8, (some [.val (.pointer none)]), none⟩
 .nil) 25 ⟨.other, 1, 8, (some [.val .nilFunc]), none⟩
 .nil)))) 26 ⟨.other, 1, 0, none, none⟩
 (.node (.node (.node (.node (.node .nil 27 ⟨.other, 1, 8, (some [.val .nilFunc]), none⟩
 .nil) 28 ⟨.other, 1, 0, none, none⟩
 (.node .nil 29 ⟨.other, 1, 8, (some [.val .nilFunc]), none⟩
 .nil)) 30 ⟨.other, 1, 8, (some [.val .nilFunc]), none⟩
 (.node (.node .nil 31 ⟨.slice 9, 1, 24, (some [.list .str []]), (some .str)⟩
 .nil) 32 ⟨.other, 1, 8, (some [.val .nilFunc]), none⟩
 .nil)) 33 ⟨.other, 1, 8, (some [.val .nilFunc]), none⟩
 (.node (.node (.node .nil 34 ⟨.slice 3, 1, 24, (some [.list .int []]), (some .int)⟩
 .nil) 35 ⟨.ptr, 1, 8, (some [.val (.pointer none)]), none⟩
 (.node .nil 36 ⟨.other, 1, 8, (some [.val .nilFunc]), none⟩
 .nil)) 37 ⟨.other, 1, 8, (some [.val .nilFunc]), none⟩
 (.node (.node .nil 38 ⟨.other, 1, 8, (some [.val .nilFunc]), none⟩
 .nil) 39 ⟨.other, 1, 8, (some [.val .nilFunc]), none⟩
 .nil))) 40 ⟨.other, 1, 0, none, none⟩
 (.node (.node (.node (.node .nil 41 ⟨.other, 1, 8, (some [.val .nilFunc]), none⟩
 .nil) 42 ⟨.other, 1, 8, (some [.val .nilFunc]), none⟩
 (.node .nil 43 ⟨.other, 1, 8, (some [.val .nilFunc]), none⟩
 .nil)) 44 ⟨.struct [(0, 3), (1, 3), (2, 3), (3, 22)], 4, 48, (some [.int .i64 0, .int .i64 0, .int .i64 0, .list .byte []]), none⟩
 (.node (.node .nil 45 ⟨.struct [(0, 3), (1, 3), (2, 3), (3, 22)], 4, 48, (some [.int .i64 0, .int .i64 0, .int .i64 0, .list .byte []]), none⟩
 .nil) 46 ⟨.other, 1, 0, none, none⟩
 .nil)) 47 ⟨.other, 1, 8, (some [.val .nilFunc]), none⟩
 (.node (.node (.node .nil 48 ⟨.other, 1, 8, (some [.val .nilFunc]), none⟩
 .nil) 49 ⟨.struct [(0, 3), (1, 3), (2, 3), (3, 22)], 4, 48, (some [.int .i64 0, .int .i64 0, .int .i64 0, .list .byte []]), none⟩
 .nil) 50 ⟨.other, 1, 8, (some [.val .nilFunc]), none⟩
 (.node (.node .nil 51 ⟨.slice 45, 1, 24, (some [.list .ent []]), (some .ent)⟩
 .nil) 52 ⟨.other, 1, 0, none, none⟩
 .nil))))) 53 ⟨.other, 1, 8, (some [.val .nilFunc]), none⟩
 (.node (.node (.node (.node (.node (.node .nil 54 ⟨.slice 49, 1, 24, (some [.list .ent []]), (some .ent)⟩
 .nil) 55 ⟨.other, 1, 0, none, none⟩
 (.node .nil 56 ⟨.other, 1, 8, (some [.val .nilFunc]), none⟩
 .nil)) 57 ⟨.other, 1, 8, (some [.val .nilFunc]), none⟩
 (.node (.node .nil 58 ⟨.other, 1, 8, (some [.val .nilFunc]), none⟩
 .nil) 59 ⟨.int .u64, 1, 8, (some [.int .u64 0]), none⟩
 .nil)) 60 ⟨.other, 1, 8, (some [.val .nilFunc]), none⟩
 (.node (.node (.node .nil 61 ⟨.slice 65, 1, 24, (some [.list .lst []]), (some .lst)⟩
 .nil) 62 ⟨.ptr, 1, 8, (some [.val (.pointer none)]), none⟩
 (.node .nil 63 ⟨.other, 1, 8, (some [.val .nilFunc]), none⟩
 .nil)) 64 ⟨.struct [(0, 3), (1, 3), (2, 22)], 3, 40, (some [.int .i64 0, .int .i64 0, .list .byte []]), none⟩
 (.node (.node .nil 65 ⟨.struct [(0, 3), (1, 3), (2, 22)], 3, 40, (some [.int .i64 0, .int .i64 0, .list .byte []]), none⟩
 .nil) 66 ⟨.other, 1, 8, (some [.val .nilFunc]), none⟩
 .nil))) 67 ⟨.other, 1, 8, (some [.val .nilFunc]), none⟩
 (.node (.node (.node (.node .nil 68 ⟨.other, 1, 8, (some [.val .nilFunc]), none⟩
 .nil) 69 ⟨.other, 1, 8, (some [.val .nilFunc]), none⟩
 (.node .nil 70 ⟨.struct [(0, 22), (1, 4), (2, 3)], 3, 40, (some [.list .byte [], .bool false, .int .i64 0]), none⟩
 .nil)) 71 ⟨.struct [(0, 22), (1, 4), (2, 3)], 3, 40, (some [.list .byte [], .bool false, .int .i64 0]), none⟩
 (.node (.node .nil 72 ⟨.other, 1, 8, (some [.val .nilFunc]), none⟩
 .nil) 73 ⟨.other, 1, 8, (some [.val .nilFunc]), none⟩
 .nil)) 74 ⟨.other, 1, 8, (some [.val .nilFunc]), none⟩
 (.node (.node (.node .nil 75 ⟨.struct [(0, 22), (1, 34), (2, 3)], 3, 56, (some [.list .byte [], .list .int [], .int .i64 0]), none⟩
 .nil) 76 ⟨.struct [(0, 22), (1, 34), (2, 3)], 3, 56, (some [.list .byte [], .list .int [], .int .i64 0]), none⟩
 .nil) 77 ⟨.other, 1, 8, (some [.val .nilFunc]), none⟩
 (.node (.node .nil 78 ⟨.other, 1, 8, (some [.val .nilFunc]), none⟩
 .nil) 79 ⟨.other, 1, 8, (some [.val .nilFunc]), none⟩
 .nil)))) 80 ⟨.other, 1, 0, none, none⟩
 (.node (.node (.node (.node (.node .nil 81 ⟨.other, 1, 8, (some [.val .nilFunc]), none⟩
 .nil) 82 ⟨.other, 1, 0, none, none⟩
 (.node .nil 83 ⟨.other, 1, 8, (some [.val .nilFunc]), none⟩
 .nil)) 84 ⟨.array 3 3, 3, 24, (some [.int .i64 0, .int .i64 0, .int .i64 0]), none⟩
 (.node (.node .nil 85 ⟨.struct [(0, 22), (1, 3)], 2, 32, (some [.list .byte [], .int .i64 0]), none⟩
 .nil) 86 ⟨.struct [(0, 22), (1, 3)], 2, 32, (some [.list .byte [], .int .i64 0]), none⟩
 .nil)) 87 ⟨.int .u64, 1, 8, (some [.int .u64 0]), none⟩
 (.node (.node (.node .nil 88 ⟨.other, 1, 0, none, none⟩
 .nil) 89 ⟨.other, 1, 8, (some [.val .nilFunc]), none⟩
 .nil) 90 ⟨.other, 1, 8, (some [.val .nilFunc]), none⟩
 (.node (.node .nil 91 ⟨.struct [(0, 17), (1, 17), (2, 17), (3, 9)], 4, 40, (some [.val (.pointer none), .val (.pointer none), .val (.pointer none), .str []]), none⟩
 .nil) 92 ⟨.struct [(0, 17), (1, 17), (2, 17), (3, 9)], 4, 40, (some [.val (.pointer none), .val (.pointer none), .val (.pointer none), .str []]), none⟩
 .nil))) 93 ⟨.array 0 16, 0, 0, (some []), none⟩
 (.node (.node (.node (.node .nil 94 ⟨.struct [(0, 93)], 0, 0, (some []), none⟩
 .nil) 95 ⟨.struct [(0, 93)], 0, 0, (some []), none⟩
 (.node .nil 96 ⟨.int .u32, 1, 4, (some [.int .u32 0]), none⟩
 .nil)) 97 ⟨.int .u8, 1, 1, (some [.int .u8 0]), none⟩
 (.node (.node .nil 98 ⟨.int .u8, 1, 1, (some [.int .u8 0]), none⟩
 .nil) 99 ⟨.other, 1, 8, (some [.val .nilFunc]), none⟩
 .nil)) 100 ⟨.ptr, 1, 8, (some [.val (.pointer none)]), none⟩
 (.node (.node (.node .nil 101 ⟨.int .i32, 1, 4, (some [.int .i32 0]), none⟩
 .nil) 102 ⟨.int .i32, 1, 4, (some [.int .i32 0]), none⟩
 .nil) 103 ⟨.struct [(0, 12), (1, 12), (2, 96), (3, 97), (4, 5), (5, 5), (6, 98), (7, 99), (8, 100), (9, 101), (10, 102)], 11, 48, (some [.int .u64 0, .int .u64 0, .int .u32 0, .int .u8 0, .int .u8 0, .int .u8 0, .int .u8 0, .val .nilFunc, .val (.pointer none), .int .i32 0, .int .i32 0]), none⟩
 (.node (.node .nil 104 ⟨.struct [(0, 12), (1, 12), (2, 96), (3, 97), (4, 5), (5, 5), (6, 98), (7, 99), (8, 100), (9, 101), (10, 102)], 11, 48, (some [.int .u64 0, .int .u64 0, .int .u32 0, .int .u8 0, .int .u8 0, .int .u8 0, .int .u8 0, .val .nilFunc, .val (.pointer none), .int .i32 0, .int .i32 0]), none⟩
 .nil) 105 ⟨.other, 1, 8, none, none⟩
 .nil))))))
def tab : Tab := tabT.get
theorem tab_ok : tab.fits Try.prog := Tab.fits_tt (by kernel_rfl)
theorem mixed : Try.prog.follows .mixedOrders = true := by kernel_rfl
end Go.Proofs.Ytmmfcghieefoaaa
