/- The types of the seat, as the abstract machine sees them (printed by wip/tools/gentab.py). -/
import Derived.Test.YtmmfcghieefoaaaDoorProg
import Derived.Test.YtmmfcghieefoaaaDoorAbP
import Derived.WalkKit
set_option linter.all false
namespace Go.Proofs.YtmmfcghieefoaaaDoor
open Go Go.Ab
def tabT : TT :=
 (.node (.node (.node (.node (.node (.node (.node .nil 0 ⟨.other, 1, 0, none, none⟩
 .nil) 1 ⟨.other, 1, 8, (some [.val .nilFunc]), none⟩
 .nil) 2 ⟨.int .i64, 1, 8, (some [.int .i64 0]), none⟩
 (.node (.node .nil 3 ⟨.int .i64, 1, 8, (some [.int .i64 0]), none⟩
 .nil) 4 ⟨.bool, 1, 1, (some [.bool false]), none⟩
 .nil)) 5 ⟨.int .u8, 1, 1, (some [.int .u8 0]), none⟩
 (.node (.node (.node .nil 6 ⟨.int .u8, 1, 1, (some [.int .u8 0]), none⟩
 .nil) 9 ⟨.str, 1, 16, (some [.str []]), none⟩
 .nil) 10 ⟨.str, 1, 16, (some [.str []]), none⟩
 (.node .nil 11 ⟨.str, 1, 16, (some [.str []]), none⟩
 .nil))) 12 ⟨.int .u64, 1, 8, (some [.int .u64 0]), none⟩
 (.node (.node (.node (.node .nil 15 ⟨.ptr, 1, 8, (some [.val (.pointer none)]), none⟩
 .nil) 16 ⟨.ptr, 1, 8, (some [.val (.pointer none)]), none⟩
 .nil) 17 ⟨.ptr, 1, 8, (some [.val (.pointer none)]), none⟩
 (.node .nil 20 ⟨.other, 1, 16, (some [.val .nilIface]), none⟩
 .nil)) 21 ⟨.int .i32, 1, 4, (some [.int .i32 0]), none⟩
 (.node (.node (.node .nil 22 ⟨.other, 1, 8, (some [.val .nilFunc]), none⟩
 .nil) 23 ⟨.other, 1, 8, (some [.val .nilFunc]), none⟩
 .nil) 24 ⟨.other, 1, 8, (some [.val .nilFunc]), none⟩
 (.node .nil 25 ⟨.int .u64, 1, 8, (some [.int .u64 0]), none⟩
 .nil)))) 26 ⟨.other, 1, 0, none, none⟩
 (.node (.node (.node (.node (.node .nil 27 ⟨.other, 1, 8, (some [.val .nilFunc]), none⟩
 .nil) 28 ⟨.other, 1, 8, (some [.val .nilFunc]), none⟩
 .nil) 29 ⟨.other, 1, 8, (some [.val .nilFunc]), none⟩
 (.node (.node .nil 30 ⟨.other, 1, 8, (some [.val .nilFunc]), none⟩
 .nil) 31 ⟨.other, 1, 8, (some [.val .nilFunc]), none⟩
 .nil)) 32 ⟨.other, 1, 8, (some [.val .nilFunc]), none⟩
 (.node (.node (.node .nil 33 ⟨.struct [(0, 9), (1, 9)], 2, 32, (some [.str [], .str []]), none⟩
 .nil) 34 ⟨.struct [(0, 9), (1, 9)], 2, 32, (some [.str [], .str []]), none⟩
 .nil) 35 ⟨.other, 1, 8, (some [.val .nilFunc]), none⟩
 (.node .nil 36 ⟨.slice 34, 1, 24, (some [.list .fld []]), (some .fld)⟩
 .nil))) 37 ⟨.other, 1, 0, none, none⟩
 (.node (.node (.node (.node .nil 38 ⟨.other, 1, 8, (some [.val .nilFunc]), none⟩
 .nil) 39 ⟨.other, 1, 0, none, none⟩
 .nil) 40 ⟨.other, 1, 8, (some [.val .nilFunc]), none⟩
 (.node .nil 41 ⟨.other, 1, 8, (some [.val .nilFunc]), none⟩
 .nil)) 42 ⟨.slice 9, 1, 24, (some [.list .str []]), (some .str)⟩
 (.node (.node (.node .nil 43 ⟨.other, 1, 8, (some [.val .nilFunc]), none⟩
 .nil) 44 ⟨.other, 1, 8, (some [.val .nilFunc]), none⟩
 .nil) 45 ⟨.other, 1, 8, (some [.val .nilFunc]), none⟩
 (.node .nil 46 ⟨.other, 1, 8, (some [.val .nilFunc]), none⟩
 .nil))))) 47 ⟨.slice 5, 1, 24, (some [.list .byte []]), (some .byte)⟩
 (.node (.node (.node (.node (.node (.node .nil 48 ⟨.other, 1, 8, (some [.val .nilFunc]), none⟩
 .nil) 49 ⟨.other, 1, 8, (some [.val .nilFunc]), none⟩
 .nil) 50 ⟨.other, 1, 8, (some [.val .nilFunc]), none⟩
 (.node (.node .nil 51 ⟨.other, 1, 8, (some [.val .nilFunc]), none⟩
 .nil) 52 ⟨.other, 1, 0, none, none⟩
 .nil)) 53 ⟨.other, 1, 8, (some [.val .nilFunc]), none⟩
 (.node (.node (.node .nil 54 ⟨.other, 1, 8, (some [.val .nilFunc]), none⟩
 .nil) 55 ⟨.other, 1, 8, (some [.val .nilFunc]), none⟩
 .nil) 56 ⟨.array 256 4, 256, 256, none, none⟩
 (.node .nil 57 ⟨.array 256 4, 256, 256, none, none⟩
 .nil))) 58 ⟨.other, 1, 0, none, none⟩
 (.node (.node (.node (.node .nil 59 ⟨.other, 1, 8, (some [.val .nilFunc]), none⟩
 .nil) 60 ⟨.other, 1, 8, (some [.val .nilFunc]), none⟩
 .nil) 61 ⟨.ptr, 1, 8, (some [.val (.pointer none)]), none⟩
 (.node .nil 62 ⟨.other, 1, 0, none, none⟩
 .nil)) 63 ⟨.other, 1, 8, (some [.val .nilFunc]), none⟩
 (.node (.node (.node .nil 64 ⟨.other, 1, 8, (some [.val .nilFunc]), none⟩
 .nil) 65 ⟨.other, 1, 8, (some [.val .nilFunc]), none⟩
 .nil) 66 ⟨.other, 1, 8, (some [.val .nilFunc]), none⟩
 (.node .nil 67 ⟨.other, 1, 8, (some [.val .nilFunc]), none⟩
 .nil)))) 68 ⟨.array 256 5, 256, 256, none, none⟩
 (.node (.node (.node (.node (.node .nil 69 ⟨.struct [(0, 5), (1, 5)], 2, 2, (some [.int .u8 0, .int .u8 0]), none⟩
 .nil) 70 ⟨.struct [(0, 5), (1, 5)], 2, 2, (some [.int .u8 0, .int .u8 0]), none⟩
 .nil) 71 ⟨.array 16 70, 32, 32, (some [.int .u8 0, .int .u8 0, .int .u8 0, .int .u8 0, .int .u8 0, .int .u8 0, .int .u8 0, .int .u8 0, .int .u8 0, .int .u8 0, .int .u8 0, .int .u8 0, .int .u8 0, .int .u8 0, .int .u8 0, .int .u8 0, .int .u8 0, .int .u8 0, .int .u8 0, .int .u8 0, .int .u8 0, .int .u8 0, .int .u8 0, .int .u8 0, .int .u8 0, .int .u8 0, .int .u8 0, .int .u8 0, .int .u8 0, .int .u8 0, .int .u8 0, .int .u8 0]), none⟩
 (.node .nil 72 ⟨.other, 1, 8, (some [.val .nilFunc]), none⟩
 .nil)) 73 ⟨.int .u32, 1, 4, (some [.int .u32 0]), none⟩
 (.node (.node (.node .nil 74 ⟨.other, 1, 0, none, none⟩
 .nil) 75 ⟨.other, 1, 8, (some [.val .nilFunc]), none⟩
 .nil) 76 ⟨.other, 1, 8, (some [.val .nilFunc]), none⟩
 (.node .nil 79 ⟨.array 0 16, 0, 0, (some []), none⟩
 .nil))) 82 ⟨.other, 1, 8, (some [.val .nilFunc]), none⟩
 (.node (.node (.node (.node .nil 83 ⟨.int .u8, 1, 1, (some [.int .u8 0]), none⟩
 .nil) 84 ⟨.int .u8, 1, 1, (some [.int .u8 0]), none⟩
 .nil) 85 ⟨.other, 1, 8, (some [.val .nilFunc]), none⟩
 (.node .nil 86 ⟨.ptr, 1, 8, (some [.val (.pointer none)]), none⟩
 .nil)) 87 ⟨.int .i32, 1, 4, (some [.int .i32 0]), none⟩
 (.node (.node (.node .nil 88 ⟨.int .i32, 1, 4, (some [.int .i32 0]), none⟩
 .nil) 89 ⟨.struct [(0, 12), (1, 12), (2, 73), (3, 83), (4, 5), (5, 5), (6, 84), (7, 85), (8, 86), (9, 87), (10, 88)], 11, 48, (some [.int .u64 0, .int .u64 0, .int .u32 0, .int .u8 0, .int .u8 0, .int .u8 0, .int .u8 0, .val .nilFunc, .val (.pointer none), .int .i32 0, .int .i32 0]), none⟩
 .nil) 90 ⟨.struct [(0, 12), (1, 12), (2, 73), (3, 83), (4, 5), (5, 5), (6, 84), (7, 85), (8, 86), (9, 87), (10, 88)], 11, 48, (some [.int .u64 0, .int .u64 0, .int .u32 0, .int .u8 0, .int .u8 0, .int .u8 0, .int .u8 0, .val .nilFunc, .val (.pointer none), .int .i32 0, .int .i32 0]), none⟩
 (.node .nil 91 ⟨.other, 1, 8, none, none⟩
 .nil))))))
def tab : Tab := tabT.get
theorem tab_ok : tab.fits Tryd.prog := Tab.fits_tt (by kernel_rfl)
theorem mixed : Tryd.prog.follows .mixedOrders = true := by kernel_rfl
end Go.Proofs.YtmmfcghieefoaaaDoor
