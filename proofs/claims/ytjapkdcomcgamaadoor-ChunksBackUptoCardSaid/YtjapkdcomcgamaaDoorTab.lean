/- The types of the seat, as the abstract machine sees them (printed by wip/tools/gentab.py). -/
import Derived.Test.YtjapkdcomcgamaaDoorProg
import Derived.Test.YtjapkdcomcgamaaDoorAbP
import Derived.WalkKit
import Derived.Lib.ItoaNum
import Derived.Lib.LaidTab
import Derived.Lib.TrailingZeros
set_option linter.all false
namespace Go.Proofs.YtjapkdcomcgamaaDoor
open Go Go.Ab
instance facts : Facts := ⟨fun w => Lib.TabIs Tryd.prog w "internal/strconv.uint64pow10" .u64 Lib.pow10Tab ∧ Lib.TabIs Tryd.prog w "math/bits.deBruijn64tab" .u8 (Lib.deBruijn64tab.map Int.ofNat)⟩
def tabT : TT :=
 (.node (.node (.node (.node (.node (.node (.node (.node .nil 0 ⟨.other, 1, 0, none, none⟩
 .nil) 1 ⟨.other, 1, 8, (some [.val .nilFunc]), none⟩
 (.node .nil 2 ⟨.int .i64, 1, 8, (some [.int .i64 0]), none⟩
 .nil)) 3 ⟨.int .i64, 1, 8, (some [.int .i64 0]), none⟩
 (.node (.node .nil 4 ⟨.bool, 1, 1, (some [.bool false]), none⟩
 .nil) 5 ⟨.int .u8, 1, 1, (some [.int .u8 0]), none⟩
 .nil)) 6 ⟨.int .u8, 1, 1, (some [.int .u8 0]), none⟩
 (.node (.node (.node .nil 9 ⟨.str, 1, 16, (some [.str []]), none⟩
 .nil) 10 ⟨.str, 1, 16, (some [.str []]), none⟩
 .nil) 11 ⟨.str, 1, 16, (some [.str []]), none⟩
 (.node (.node .nil 12 ⟨.int .u64, 1, 8, (some [.int .u64 0]), none⟩
 .nil) 15 ⟨.ptr, 1, 8, (some [.val (.pointer none)]), none⟩
 .nil))) 16 ⟨.ptr, 1, 8, (some [.val (.pointer none)]), none⟩
 (.node (.node (.node (.node .nil 17 ⟨.ptr, 1, 8, (some [.val (.pointer none)]), none⟩
 .nil) 20 ⟨.other, 1, 16, (some [.val .nilIface]), none⟩
 .nil) 21 ⟨.int .i32, 1, 4, (some [.int .i32 0]), none⟩
 (.node (.node .nil 22 ⟨.slice 28, 1, 24, (some [.list .sst []]), (some .sst)⟩
 .nil) 23 ⟨.other, 1, 8, (some [.val .nilFunc]), none⟩
 .nil)) 24 ⟨.other, 1, 8, (some [.val .nilFunc]), none⟩
 (.node (.node (.node .nil 25 ⟨.ptr, 1, 8, (some [.val (.pointer none)]), none⟩
 .nil) 26 ⟨.other, 1, 8, (some [.val .nilFunc]), none⟩
 .nil) 27 ⟨.struct [(0, 3), (1, 3), (2, 3), (3, 9)], 4, 40, (some [.int .i64 0, .int .i64 0, .int .i64 0, .str []]), none⟩
 (.node (.node .nil 28 ⟨.struct [(0, 3), (1, 3), (2, 3), (3, 9)], 4, 40, (some [.int .i64 0, .int .i64 0, .int .i64 0, .str []]), none⟩
 .nil) 29 ⟨.other, 1, 0, none, none⟩
 .nil)))) 30 ⟨.other, 1, 8, (some [.val .nilFunc]), none⟩
 (.node (.node (.node (.node (.node .nil 31 ⟨.other, 1, 8, (some [.val .nilFunc]), none⟩
 .nil) 32 ⟨.slice 5, 1, 24, (some [.list .byte []]), (some .byte)⟩
 (.node .nil 33 ⟨.other, 1, 8, (some [.val .nilFunc]), none⟩
 .nil)) 34 ⟨.other, 1, 8, (some [.val .nilFunc]), none⟩
 (.node (.node .nil 35 ⟨.slice 38, 1, 24, (some [.list .upl []]), (some .upl)⟩
 .nil) 36 ⟨.other, 1, 8, (some [.val .nilFunc]), none⟩
 .nil)) 37 ⟨.struct [(0, 3), (1, 3), (2, 9), (3, 32), (4, 3)], 5, 64, (some [.int .i64 0, .int .i64 0, .str [], .list .byte [], .int .i64 0]), none⟩
 (.node (.node (.node .nil 38 ⟨.struct [(0, 3), (1, 3), (2, 9), (3, 32), (4, 3)], 5, 64, (some [.int .i64 0, .int .i64 0, .str [], .list .byte [], .int .i64 0]), none⟩
 .nil) 39 ⟨.other, 1, 8, (some [.val .nilFunc]), none⟩
 .nil) 40 ⟨.other, 1, 8, (some [.val .nilFunc]), none⟩
 (.node (.node .nil 41 ⟨.ptr, 1, 8, (some [.val (.pointer none)]), none⟩
 .nil) 42 ⟨.struct [(0, 35), (1, 3)], 2, 32, (some [.list .upl [], .int .i64 0]), none⟩
 .nil))) 43 ⟨.struct [(0, 35), (1, 3)], 2, 32, (some [.list .upl [], .int .i64 0]), none⟩
 (.node (.node (.node (.node .nil 44 ⟨.other, 1, 8, (some [.val .nilFunc]), none⟩
 .nil) 45 ⟨.other, 1, 8, (some [.val .nilFunc]), none⟩
 .nil) 46 ⟨.other, 1, 0, none, none⟩
 (.node (.node .nil 47 ⟨.other, 1, 8, (some [.val .nilFunc]), none⟩
 .nil) 48 ⟨.slice 60, 1, 24, (some [.list .fld []]), (some .fld)⟩
 .nil)) 49 ⟨.struct [(0, 3), (1, 48), (2, 32)], 3, 56, (some [.int .i64 0, .list .fld [], .list .byte []]), none⟩
 (.node (.node (.node .nil 50 ⟨.struct [(0, 3), (1, 48), (2, 32)], 3, 56, (some [.int .i64 0, .list .fld [], .list .byte []]), none⟩
 .nil) 51 ⟨.other, 1, 8, (some [.val .nilFunc]), none⟩
 .nil) 52 ⟨.other, 1, 0, none, none⟩
 (.node (.node .nil 53 ⟨.other, 1, 8, (some [.val .nilFunc]), none⟩
 .nil) 54 ⟨.other, 1, 8, (some [.val .nilFunc]), none⟩
 .nil))))) 55 ⟨.other, 1, 8, (some [.val .nilFunc]), none⟩
 (.node (.node (.node (.node (.node (.node .nil 56 ⟨.other, 1, 8, (some [.val .nilFunc]), none⟩
 .nil) 57 ⟨.other, 1, 0, none, none⟩
 (.node .nil 58 ⟨.other, 1, 8, (some [.val .nilFunc]), none⟩
 .nil)) 59 ⟨.struct [(0, 9), (1, 9)], 2, 32, (some [.str [], .str []]), none⟩
 (.node (.node .nil 60 ⟨.struct [(0, 9), (1, 9)], 2, 32, (some [.str [], .str []]), none⟩
 .nil) 61 ⟨.other, 1, 0, none, none⟩
 .nil)) 62 ⟨.other, 1, 8, (some [.val .nilFunc]), none⟩
 (.node (.node (.node .nil 63 ⟨.other, 1, 8, (some [.val .nilFunc]), none⟩
 .nil) 64 ⟨.other, 1, 8, (some [.val .nilFunc]), none⟩
 .nil) 65 ⟨.slice 74, 1, 24, (some [.list .sst []]), (some .sst)⟩
 (.node (.node .nil 66 ⟨.other, 1, 8, (some [.val .nilFunc]), none⟩
 .nil) 67 ⟨.ptr, 1, 8, (some [.val (.pointer none)]), none⟩
 .nil))) 68 ⟨.other, 1, 8, (some [.val .nilFunc]), none⟩
 (.node (.node (.node (.node .nil 69 ⟨.slice 35, 1, 24, (some [.list .upls []]), (some .upls)⟩
 .nil) 70 ⟨.ptr, 1, 8, (some [.val (.pointer none)]), none⟩
 .nil) 71 ⟨.struct [(0, 25), (1, 70)], 2, 16, (some [.val (.pointer none), .val (.pointer none)]), none⟩
 (.node (.node .nil 72 ⟨.struct [(0, 25), (1, 70)], 2, 16, (some [.val (.pointer none), .val (.pointer none)]), none⟩
 .nil) 73 ⟨.other, 1, 8, (some [.val .nilFunc]), none⟩
 .nil)) 74 ⟨.struct [(0, 3), (1, 3), (2, 3), (3, 9)], 4, 40, (some [.int .i64 0, .int .i64 0, .int .i64 0, .str []]), none⟩
 (.node (.node (.node .nil 75 ⟨.other, 1, 8, (some [.val .nilFunc]), none⟩
 .nil) 76 ⟨.int .u64, 1, 8, (some [.int .u64 0]), none⟩
 .nil) 77 ⟨.other, 1, 8, (some [.val .nilFunc]), none⟩
 (.node (.node .nil 78 ⟨.other, 1, 8, (some [.val .nilFunc]), none⟩
 .nil) 79 ⟨.slice 83, 1, 24, (some [.list .ent []]), (some .ent)⟩
 .nil)))) 80 ⟨.other, 1, 0, none, none⟩
 (.node (.node (.node (.node (.node .nil 81 ⟨.other, 1, 8, (some [.val .nilFunc]), none⟩
 .nil) 82 ⟨.struct [(0, 3), (1, 3), (2, 3), (3, 32)], 4, 48, (some [.int .i64 0, .int .i64 0, .int .i64 0, .list .byte []]), none⟩
 (.node .nil 83 ⟨.struct [(0, 3), (1, 3), (2, 3), (3, 32)], 4, 48, (some [.int .i64 0, .int .i64 0, .int .i64 0, .list .byte []]), none⟩
 .nil)) 84 ⟨.other, 1, 8, (some [.val .nilFunc]), none⟩
 (.node (.node .nil 85 ⟨.slice 32, 1, 24, (some [.list .bytes []]), (some .bytes)⟩
 .nil) 86 ⟨.other, 1, 8, (some [.val .nilFunc]), none⟩
 .nil)) 87 ⟨.other, 1, 0, none, none⟩
 (.node (.node (.node .nil 88 ⟨.other, 1, 8, (some [.val .nilFunc]), none⟩
 .nil) 89 ⟨.ptr, 1, 8, (some [.val (.pointer none)]), none⟩
 .nil) 90 ⟨.other, 1, 8, (some [.val .nilFunc]), none⟩
 (.node (.node .nil 91 ⟨.other, 1, 0, none, none⟩
 .nil) 92 ⟨.other, 1, 8, (some [.val .nilFunc]), none⟩
 .nil))) 93 ⟨.other, 1, 8, (some [.val .nilFunc]), none⟩
 (.node (.node (.node (.node .nil 94 ⟨.other, 1, 8, (some [.val .nilFunc]), none⟩
 .nil) 95 ⟨.struct [(0, 35), (1, 3)], 2, 32, (some [.list .upl [], .int .i64 0]), none⟩
 .nil) 96 ⟨.struct [(0, 35), (1, 3)], 2, 32, (some [.list .upl [], .int .i64 0]), none⟩
 (.node (.node .nil 97 ⟨.other, 1, 8, (some [.val .nilFunc]), none⟩
 .nil) 98 ⟨.other, 1, 8, (some [.val .nilFunc]), none⟩
 .nil)) 99 ⟨.ptr, 1, 8, (some [.val (.pointer none)]), none⟩
 (.node (.node (.node .nil 100 ⟨.other, 1, 0, none, none⟩
 .nil) 101 ⟨.other, 1, 8, (some [.val .nilFunc]), none⟩
 .nil) 102 ⟨.other, 1, 8, (some [.val .nilFunc]), none⟩
 (.node (.node .nil 103 ⟨.other, 1, 8, (some [.val .nilFunc]), none⟩
 .nil) 104 ⟨.other, 1, 8, (some [.val .nilFunc]), none⟩
 .nil)))))) 105 ⟨.other, 1, 8, (some [.val .nilFunc]), none⟩
 (.node (.node (.node (.node (.node (.node (.node .nil 106 ⟨.slice 9, 1, 24, (some [.list .str []]), (some .str)⟩
 .nil) 107 ⟨.other, 1, 8, (some [.val .nilFunc]), none⟩
 (.node .nil 108 ⟨.other, 1, 0, none, none⟩
 .nil)) 109 ⟨.other, 1, 8, (some [.val .nilFunc]), none⟩
 (.node (.node .nil 110 ⟨.slice 3, 1, 24, (some [.list .int []]), (some .int)⟩
 .nil) 111 ⟨.other, 1, 8, (some [.val .nilFunc]), none⟩
 .nil)) 112 ⟨.other, 1, 8, (some [.val .nilFunc]), none⟩
 (.node (.node (.node .nil 113 ⟨.other, 1, 8, (some [.val .nilFunc]), none⟩
 .nil) 114 ⟨.slice 118, 1, 24, (some [.list .ent []]), (some .ent)⟩
 .nil) 115 ⟨.other, 1, 0, none, none⟩
 (.node (.node .nil 116 ⟨.other, 1, 8, (some [.val .nilFunc]), none⟩
 .nil) 117 ⟨.other, 1, 8, (some [.val .nilFunc]), none⟩
 .nil))) 118 ⟨.struct [(0, 3), (1, 3), (2, 3), (3, 32)], 4, 48, (some [.int .i64 0, .int .i64 0, .int .i64 0, .list .byte []]), none⟩
 (.node (.node (.node (.node .nil 119 ⟨.other, 1, 8, (some [.val .nilFunc]), none⟩
 .nil) 120 ⟨.other, 1, 8, (some [.val .nilFunc]), none⟩
 .nil) 121 ⟨.array 3 3, 3, 24, (some [.int .i64 0, .int .i64 0, .int .i64 0]), none⟩
 (.node (.node .nil 122 ⟨.other, 1, 8, (some [.val .nilFunc]), none⟩
 .nil) 123 ⟨.other, 1, 8, (some [.val .nilFunc]), none⟩
 .nil)) 124 ⟨.other, 1, 0, none, none⟩
 (.node (.node (.node .nil 125 ⟨.other, 1, 8, (some [.val .nilFunc]), none⟩
 .nil) 126 ⟨.ptr, 1, 8, (some [.val (.pointer none)]), none⟩
 .nil) 127 ⟨.other, 1, 8, (some [.val .nilFunc]), none⟩
 (.node (.node .nil 128 ⟨.struct [(0, 126), (1, 3), (2, 3), (3, 3), (4, 3), (5, 3)], 6, 48, (some [.val (.pointer none), .int .i64 0, .int .i64 0, .int .i64 0, .int .i64 0, .int .i64 0]), none⟩
 .nil) 129 ⟨.struct [(0, 126), (1, 3), (2, 3), (3, 3), (4, 3), (5, 3)], 6, 48, (some [.val (.pointer none), .int .i64 0, .int .i64 0, .int .i64 0, .int .i64 0, .int .i64 0]), none⟩
 .nil)))) 130 ⟨.other, 1, 8, (some [.val .nilFunc]), none⟩
 (.node (.node (.node (.node (.node .nil 131 ⟨.other, 1, 0, none, none⟩
 .nil) 132 ⟨.other, 1, 8, (some [.val .nilFunc]), none⟩
 (.node .nil 133 ⟨.other, 1, 8, (some [.val .nilFunc]), none⟩
 .nil)) 134 ⟨.other, 1, 8, (some [.val .nilFunc]), none⟩
 (.node (.node .nil 135 ⟨.other, 1, 8, (some [.val .nilFunc]), none⟩
 .nil) 136 ⟨.other, 1, 8, (some [.val .nilFunc]), none⟩
 .nil)) 137 ⟨.other, 1, 8, (some [.val .nilFunc]), none⟩
 (.node (.node (.node .nil 138 ⟨.other, 1, 8, (some [.val .nilFunc]), none⟩
 .nil) 139 ⟨.struct [(0, 32), (1, 3)], 2, 32, (some [.list .byte [], .int .i64 0]), none⟩
 .nil) 140 ⟨.struct [(0, 32), (1, 3)], 2, 32, (some [.list .byte [], .int .i64 0]), none⟩
 (.node (.node .nil 141 ⟨.other, 1, 0, none, none⟩
 .nil) 142 ⟨.other, 1, 8, (some [.val .nilFunc]), none⟩
 .nil))) 143 ⟨.other, 1, 8, (some [.val .nilFunc]), none⟩
 (.node (.node (.node (.node .nil 144 ⟨.other, 1, 8, (some [.val .nilFunc]), none⟩
 .nil) 145 ⟨.struct [(0, 32), (1, 4), (2, 3)], 3, 40, (some [.list .byte [], .bool false, .int .i64 0]), none⟩
 .nil) 146 ⟨.struct [(0, 32), (1, 4), (2, 3)], 3, 40, (some [.list .byte [], .bool false, .int .i64 0]), none⟩
 (.node (.node .nil 147 ⟨.other, 1, 8, (some [.val .nilFunc]), none⟩
 .nil) 148 ⟨.other, 1, 8, (some [.val .nilFunc]), none⟩
 .nil)) 149 ⟨.other, 1, 8, (some [.val .nilFunc]), none⟩
 (.node (.node (.node .nil 150 ⟨.array 256 4, 256, 256, none, none⟩
 .nil) 151 ⟨.array 256 4, 256, 256, none, none⟩
 .nil) 152 ⟨.other, 1, 0, none, none⟩
 (.node (.node .nil 153 ⟨.other, 1, 8, (some [.val .nilFunc]), none⟩
 .nil) 154 ⟨.other, 1, 8, (some [.val .nilFunc]), none⟩
 .nil))))) 155 ⟨.ptr, 1, 8, (some [.val (.pointer none)]), none⟩
 (.node (.node (.node (.node (.node (.node .nil 156 ⟨.other, 1, 8, (some [.val .nilFunc]), none⟩
 .nil) 157 ⟨.other, 1, 8, (some [.val .nilFunc]), none⟩
 (.node .nil 158 ⟨.other, 1, 8, (some [.val .nilFunc]), none⟩
 .nil)) 159 ⟨.other, 1, 8, (some [.val .nilFunc]), none⟩
 (.node (.node .nil 160 ⟨.other, 1, 0, none, none⟩
 .nil) 161 ⟨.other, 1, 8, (some [.val .nilFunc]), none⟩
 .nil)) 162 ⟨.other, 1, 8, (some [.val .nilFunc]), none⟩
 (.node (.node (.node .nil 163 ⟨.array 24 5, 24, 24, (some [.int .u8 0, .int .u8 0, .int .u8 0, .int .u8 0, .int .u8 0, .int .u8 0, .int .u8 0, .int .u8 0, .int .u8 0, .int .u8 0, .int .u8 0, .int .u8 0, .int .u8 0, .int .u8 0, .int .u8 0, .int .u8 0, .int .u8 0, .int .u8 0, .int .u8 0, .int .u8 0, .int .u8 0, .int .u8 0, .int .u8 0, .int .u8 0]), none⟩
 .nil) 164 ⟨.int .u64, 1, 8, (some [.int .u64 0]), none⟩
 .nil) 165 ⟨.other, 1, 8, (some [.val .nilFunc]), none⟩
 (.node (.node .nil 166 ⟨.other, 1, 8, (some [.val .nilFunc]), none⟩
 .nil) 167 ⟨.other, 1, 0, none, none⟩
 .nil))) 168 ⟨.other, 1, 8, (some [.val .nilFunc]), none⟩
 (.node (.node (.node (.node .nil 169 ⟨.other, 1, 0, none, none⟩
 .nil) 170 ⟨.other, 1, 8, (some [.val .nilFunc]), none⟩
 .nil) 171 ⟨.other, 1, 0, none, none⟩
 (.node (.node .nil 172 ⟨.other, 1, 8, (some [.val .nilFunc]), none⟩
 .nil) 173 ⟨.other, 1, 8, (some [.val .nilFunc]), none⟩
 .nil)) 174 ⟨.other, 1, 8, (some [.val .nilFunc]), none⟩
 (.node (.node (.node .nil 175 ⟨.other, 1, 8, (some [.val .nilFunc]), none⟩
 .nil) 176 ⟨.other, 1, 8, (some [.val .nilFunc]), none⟩
 .nil) 177 ⟨.array 20 164, 20, 160, (some [.int .u64 0, .int .u64 0, .int .u64 0, .int .u64 0, .int .u64 0, .int .u64 0, .int .u64 0, .int .u64 0, .int .u64 0, .int .u64 0, .int .u64 0, .int .u64 0, .int .u64 0, .int .u64 0, .int .u64 0, .int .u64 0, .int .u64 0, .int .u64 0, .int .u64 0, .int .u64 0]), none⟩
 (.node (.node .nil 178 ⟨.int .u32, 1, 4, (some [.int .u32 0]), none⟩
 .nil) 179 ⟨.array 65 5, 65, 65, (some [.int .u8 0, .int .u8 0, .int .u8 0, .int .u8 0, .int .u8 0, .int .u8 0, .int .u8 0, .int .u8 0, .int .u8 0, .int .u8 0, .int .u8 0, .int .u8 0, .int .u8 0, .int .u8 0, .int .u8 0, .int .u8 0, .int .u8 0, .int .u8 0, .int .u8 0, .int .u8 0, .int .u8 0, .int .u8 0, .int .u8 0, .int .u8 0, .int .u8 0, .int .u8 0, .int .u8 0, .int .u8 0, .int .u8 0, .int .u8 0, .int .u8 0, .int .u8 0, .int .u8 0, .int .u8 0, .int .u8 0, .int .u8 0, .int .u8 0, .int .u8 0, .int .u8 0, .int .u8 0, .int .u8 0, .int .u8 0, .int .u8 0, .int .u8 0, .int .u8 0, .int .u8 0, .int .u8 0, .int .u8 0, .int .u8 0, .int .u8 0, .int .u8 0, .int .u8 0, .int .u8 0, .int .u8 0, .int .u8 0, .int .u8 0, .int .u8 0, .int .u8 0, .int .u8 0, .int .u8 0, .int .u8 0, .int .u8 0, .int .u8 0, .int .u8 0, .int .u8 0]), none⟩
 .nil)))) 180 ⟨.other, 1, 8, (some [.val .nilFunc]), none⟩
 (.node (.node (.node (.node (.node .nil 181 ⟨.other, 1, 8, (some [.val .nilFunc]), none⟩
 .nil) 182 ⟨.other, 1, 8, (some [.val .nilFunc]), none⟩
 (.node .nil 183 ⟨.other, 1, 8, (some [.val .nilFunc]), none⟩
 .nil)) 184 ⟨.other, 1, 8, (some [.val .nilFunc]), none⟩
 (.node (.node .nil 185 ⟨.array 256 5, 256, 256, none, none⟩
 .nil) 186 ⟨.struct [(0, 5), (1, 5)], 2, 2, (some [.int .u8 0, .int .u8 0]), none⟩
 .nil)) 187 ⟨.struct [(0, 5), (1, 5)], 2, 2, (some [.int .u8 0, .int .u8 0]), none⟩
 (.node (.node (.node .nil 188 ⟨.array 16 187, 32, 32, (some [.int .u8 0, .int .u8 0, .int .u8 0, .int .u8 0, .int .u8 0, .int .u8 0, .int .u8 0, .int .u8 0, .int .u8 0, .int .u8 0, .int .u8 0, .int .u8 0, .int .u8 0, .int .u8 0, .int .u8 0, .int .u8 0, .int .u8 0, .int .u8 0, .int .u8 0, .int .u8 0, .int .u8 0, .int .u8 0, .int .u8 0, .int .u8 0, .int .u8 0, .int .u8 0, .int .u8 0, .int .u8 0, .int .u8 0, .int .u8 0, .int .u8 0, .int .u8 0]), none⟩
 .nil) 189 ⟨.other, 1, 8, (some [.val .nilFunc]), none⟩
 .nil) 190 ⟨.array 32 5, 32, 32, (some [.int .u8 0, .int .u8 0, .int .u8 0, .int .u8 0, .int .u8 0, .int .u8 0, .int .u8 0, .int .u8 0, .int .u8 0, .int .u8 0, .int .u8 0, .int .u8 0, .int .u8 0, .int .u8 0, .int .u8 0, .int .u8 0, .int .u8 0, .int .u8 0, .int .u8 0, .int .u8 0, .int .u8 0, .int .u8 0, .int .u8 0, .int .u8 0, .int .u8 0, .int .u8 0, .int .u8 0, .int .u8 0, .int .u8 0, .int .u8 0, .int .u8 0, .int .u8 0]), none⟩
 (.node (.node .nil 191 ⟨.array 64 5, 64, 64, (some [.int .u8 0, .int .u8 0, .int .u8 0, .int .u8 0, .int .u8 0, .int .u8 0, .int .u8 0, .int .u8 0, .int .u8 0, .int .u8 0, .int .u8 0, .int .u8 0, .int .u8 0, .int .u8 0, .int .u8 0, .int .u8 0, .int .u8 0, .int .u8 0, .int .u8 0, .int .u8 0, .int .u8 0, .int .u8 0, .int .u8 0, .int .u8 0, .int .u8 0, .int .u8 0, .int .u8 0, .int .u8 0, .int .u8 0, .int .u8 0, .int .u8 0, .int .u8 0, .int .u8 0, .int .u8 0, .int .u8 0, .int .u8 0, .int .u8 0, .int .u8 0, .int .u8 0, .int .u8 0, .int .u8 0, .int .u8 0, .int .u8 0, .int .u8 0, .int .u8 0, .int .u8 0, .int .u8 0, .int .u8 0, .int .u8 0, .int .u8 0, .int .u8 0, .int .u8 0, .int .u8 0, .int .u8 0, .int .u8 0, .int .u8 0, .int .u8 0, .int .u8 0, .int .u8 0, .int .u8 0, .int .u8 0, .int .u8 0, .int .u8 0, .int .u8 0]), none⟩
 .nil) 192 ⟨.other, 1, 0, none, none⟩
 .nil))) 193 ⟨.other, 1, 8, (some [.val .nilFunc]), none⟩
 (.node (.node (.node (.node .nil 194 ⟨.other, 1, 8, (some [.val .nilFunc]), none⟩
 .nil) 197 ⟨.array 0 16, 0, 0, (some []), none⟩
 .nil) 200 ⟨.int .u8, 1, 1, (some [.int .u8 0]), none⟩
 (.node (.node .nil 201 ⟨.int .u8, 1, 1, (some [.int .u8 0]), none⟩
 .nil) 202 ⟨.other, 1, 8, (some [.val .nilFunc]), none⟩
 .nil)) 203 ⟨.ptr, 1, 8, (some [.val (.pointer none)]), none⟩
 (.node (.node (.node .nil 204 ⟨.int .i32, 1, 4, (some [.int .i32 0]), none⟩
 .nil) 205 ⟨.int .i32, 1, 4, (some [.int .i32 0]), none⟩
 .nil) 206 ⟨.struct [(0, 12), (1, 12), (2, 178), (3, 200), (4, 5), (5, 5), (6, 201), (7, 202), (8, 203), (9, 204), (10, 205)], 11, 48, (some [.int .u64 0, .int .u64 0, .int .u32 0, .int .u8 0, .int .u8 0, .int .u8 0, .int .u8 0, .val .nilFunc, .val (.pointer none), .int .i32 0, .int .i32 0]), none⟩
 (.node (.node .nil 207 ⟨.struct [(0, 12), (1, 12), (2, 178), (3, 200), (4, 5), (5, 5), (6, 201), (7, 202), (8, 203), (9, 204), (10, 205)], 11, 48, (some [.int .u64 0, .int .u64 0, .int .u32 0, .int .u8 0, .int .u8 0, .int .u8 0, .int .u8 0, .val .nilFunc, .val (.pointer none), .int .i32 0, .int .i32 0]), none⟩
 .nil) 208 ⟨.other, 1, 8, none, none⟩
 .nil)))))))
def tab : Tab := tabT.get
theorem tab_ok : tab.fits Tryd.prog := Tab.fits_tt (by kernel_rfl)
theorem mixed : Tryd.prog.follows .mixedOrders = true := by kernel_rfl
end Go.Proofs.YtjapkdcomcgamaaDoor
