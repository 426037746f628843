/- The types of the seat, as the abstract machine sees them (printed by wip/tools/gentab.py). -/
import Derived.Test.YtjapkdcomcgamaaGreatDoorProg
import Derived.Test.YtjapkdcomcgamaaGreatDoorAbP
import Derived.WalkKit
set_option linter.all false
namespace Go.Proofs.YtjapkdcomcgamaaGreatDoor
open Go Go.Ab
instance facts : Facts := { p := fun w => True, sh := fun _ => [], ab := fun _ => none, abok := fun _ _ h => by cases h }
def tabT : TT :=
 (.node (.node (.node (.node (.node (.node (.node (.node .nil 0 ⟨.other, 1, 0, none, none⟩
 .nil) 1 ⟨.other, 1, 8, (some [.val .nilFunc]), none⟩
 (.node .nil 2 ⟨.int .i64, 1, 8, (some [.int .i64 0]), none⟩
 .nil)) 3 ⟨.int .i64, 1, 8, (some [.int .i64 0]), none⟩
 (.node (.node .nil 4 ⟨.bool, 1, 1, (some [.bool false]), none⟩
 .nil) 5 ⟨.int .u8, 1, 1, (some [.int .u8 0]), none⟩
 (.node .nil 6 ⟨.int .u8, 1, 1, (some [.int .u8 0]), none⟩
 .nil))) 9 ⟨.str, 1, 16, (some [.str []]), none⟩
 (.node (.node (.node .nil 10 ⟨.str, 1, 16, (some [.str []]), none⟩
 .nil) 11 ⟨.str, 1, 16, (some [.str []]), none⟩
 (.node .nil 12 ⟨.int .u64, 1, 8, (some [.int .u64 0]), none⟩
 .nil)) 15 ⟨.ptr, 1, 8, (some [.val (.pointer none)]), none⟩
 (.node (.node .nil 16 ⟨.ptr, 1, 8, (some [.val (.pointer none)]), none⟩
 .nil) 17 ⟨.ptr, 1, 8, (some [.val (.pointer none)]), none⟩
 (.node .nil 20 ⟨.iface, 1, 16, (some [.val .nilIface]), none⟩
 .nil)))) 21 ⟨.int .i32, 1, 4, (some [.int .i32 0]), none⟩
 (.node (.node (.node (.node .nil 22 ⟨.slice 32, 1, 24, (some [.list .sst []]), (some .sst)⟩
 .nil) 23 ⟨.other, 1, 8, (some [.val .nilFunc]), none⟩
 (.node .nil 24 ⟨.other, 1, 8, (some [.val .nilFunc]), none⟩
 .nil)) 25 ⟨.ptr, 1, 8, (some [.val (.pointer none)]), none⟩
 (.node (.node .nil 26 ⟨.other, 1, 8, (some [.val .nilFunc]), none⟩
 .nil) 27 ⟨.ptr, 1, 8, (some [.val (.pointer none)]), none⟩
 (.node .nil 28 ⟨.other, 1, 8, (some [.val .nilFunc]), none⟩
 .nil))) 29 ⟨.other, 1, 0, none, none⟩
 (.node (.node (.node .nil 30 ⟨.other, 1, 8, (some [.val .nilFunc]), none⟩
 .nil) 31 ⟨.struct [(0, 3), (1, 3), (2, 3), (3, 9)], 4, 40, (some [.int .i64 0, .int .i64 0, .int .i64 0, .str []]), none⟩
 (.node .nil 32 ⟨.struct [(0, 3), (1, 3), (2, 3), (3, 9)], 4, 40, (some [.int .i64 0, .int .i64 0, .int .i64 0, .str []]), none⟩
 .nil)) 33 ⟨.other, 1, 8, (some [.val .nilFunc]), none⟩
 (.node (.node .nil 34 ⟨.slice 5, 1, 24, (some [.list .byte []]), (some .byte)⟩
 .nil) 35 ⟨.other, 1, 0, none, none⟩
 (.node .nil 36 ⟨.other, 1, 8, (some [.val .nilFunc]), none⟩
 .nil))))) 37 ⟨.other, 1, 8, (some [.val .nilFunc]), none⟩
 (.node (.node (.node (.node (.node .nil 38 ⟨.ptr, 1, 8, (some [.val (.pointer none)]), none⟩
 .nil) 39 ⟨.struct [(0, 38), (1, 34), (2, 3)], 3, 40, (some [.val (.pointer none), .list .byte [], .int .i64 0]), none⟩
 (.node .nil 40 ⟨.struct [(0, 38), (1, 34), (2, 3)], 3, 40, (some [.val (.pointer none), .list .byte [], .int .i64 0]), none⟩
 .nil)) 41 ⟨.other, 1, 8, (some [.val .nilFunc]), none⟩
 (.node (.node .nil 42 ⟨.slice 70, 1, 24, (some [.list .upl []]), (some .upl)⟩
 .nil) 43 ⟨.other, 1, 8, (some [.val .nilFunc]), none⟩
 (.node .nil 44 ⟨.ptr, 1, 8, (some [.val (.pointer none)]), none⟩
 .nil))) 45 ⟨.ptr, 1, 8, (some [.val (.pointer none)]), none⟩
 (.node (.node (.node .nil 46 ⟨.struct [(0, 44), (1, 45)], 2, 16, (some [.val (.pointer none), .val (.pointer none)]), none⟩
 .nil) 47 ⟨.struct [(0, 44), (1, 45)], 2, 16, (some [.val (.pointer none), .val (.pointer none)]), none⟩
 (.node .nil 48 ⟨.struct [(0, 42), (1, 3)], 2, 32, (some [.list .upl [], .int .i64 0]), none⟩
 .nil)) 49 ⟨.struct [(0, 42), (1, 3)], 2, 32, (some [.list .upl [], .int .i64 0]), none⟩
 (.node (.node .nil 50 ⟨.other, 1, 8, (some [.val .nilFunc]), none⟩
 .nil) 51 ⟨.other, 1, 8, (some [.val .nilFunc]), none⟩
 (.node .nil 52 ⟨.other, 1, 8, (some [.val .nilFunc]), none⟩
 .nil)))) 53 ⟨.slice 81, 1, 24, (some [.list .fld []]), (some .fld)⟩
 (.node (.node (.node (.node .nil 54 ⟨.struct [(0, 9), (1, 53)], 2, 40, (some [.str [], .list .fld []]), none⟩
 .nil) 55 ⟨.struct [(0, 9), (1, 53)], 2, 40, (some [.str [], .list .fld []]), none⟩
 (.node .nil 56 ⟨.other, 1, 8, (some [.val .nilFunc]), none⟩
 .nil)) 57 ⟨.other, 1, 0, none, none⟩
 (.node (.node .nil 58 ⟨.other, 1, 8, (some [.val .nilFunc]), none⟩
 .nil) 59 ⟨.other, 1, 0, none, none⟩
 (.node .nil 60 ⟨.other, 1, 8, (some [.val .nilFunc]), none⟩
 .nil))) 61 ⟨.other, 1, 0, none, none⟩
 (.node (.node (.node .nil 62 ⟨.other, 1, 8, (some [.val .nilFunc]), none⟩
 .nil) 63 ⟨.other, 1, 8, (some [.val .nilFunc]), none⟩
 (.node .nil 64 ⟨.other, 1, 8, (some [.val .nilFunc]), none⟩
 .nil)) 65 ⟨.other, 1, 8, (some [.val .nilFunc]), none⟩
 (.node (.node .nil 66 ⟨.other, 1, 8, (some [.val .nilFunc]), none⟩
 .nil) 67 ⟨.other, 1, 8, (some [.val .nilFunc]), none⟩
 (.node .nil 68 ⟨.other, 1, 8, (some [.val .nilFunc]), none⟩
 .nil)))))) 69 ⟨.struct [(0, 3), (1, 3), (2, 9), (3, 34), (4, 3)], 5, 64, (some [.int .i64 0, .int .i64 0, .str [], .list .byte [], .int .i64 0]), none⟩
 (.node (.node (.node (.node (.node (.node .nil 70 ⟨.struct [(0, 3), (1, 3), (2, 9), (3, 34), (4, 3)], 5, 64, (some [.int .i64 0, .int .i64 0, .str [], .list .byte [], .int .i64 0]), none⟩
 .nil) 71 ⟨.other, 1, 0, none, none⟩
 (.node .nil 72 ⟨.other, 1, 8, (some [.val .nilFunc]), none⟩
 .nil)) 73 ⟨.other, 1, 8, (some [.val .nilFunc]), none⟩
 (.node (.node .nil 74 ⟨.other, 1, 8, (some [.val .nilFunc]), none⟩
 .nil) 75 ⟨.other, 1, 8, (some [.val .nilFunc]), none⟩
 (.node .nil 76 ⟨.other, 1, 8, (some [.val .nilFunc]), none⟩
 .nil))) 77 ⟨.other, 1, 8, (some [.val .nilFunc]), none⟩
 (.node (.node (.node .nil 78 ⟨.struct [(0, 42), (1, 3)], 2, 32, (some [.list .upl [], .int .i64 0]), none⟩
 .nil) 79 ⟨.struct [(0, 42), (1, 3)], 2, 32, (some [.list .upl [], .int .i64 0]), none⟩
 (.node .nil 80 ⟨.struct [(0, 9), (1, 9)], 2, 32, (some [.str [], .str []]), none⟩
 .nil)) 81 ⟨.struct [(0, 9), (1, 9)], 2, 32, (some [.str [], .str []]), none⟩
 (.node (.node .nil 82 ⟨.other, 1, 8, (some [.val .nilFunc]), none⟩
 .nil) 83 ⟨.int .i64, 1, 8, (some [.int .i64 0]), none⟩
 (.node .nil 84 ⟨.other, 1, 0, none, none⟩
 .nil)))) 85 ⟨.ptr, 1, 8, (some [.val (.pointer none)]), none⟩
 (.node (.node (.node (.node .nil 86 ⟨.struct [(0, 9)], 1, 16, (some [.str []]), none⟩
 .nil) 87 ⟨.struct [(0, 9)], 1, 16, (some [.str []]), none⟩
 (.node .nil 88 ⟨.other, 1, 8, (some [.val .nilFunc]), none⟩
 .nil)) 89 ⟨.other, 1, 8, (some [.val .nilFunc]), none⟩
 (.node (.node .nil 90 ⟨.other, 1, 8, (some [.val .nilFunc]), none⟩
 .nil) 91 ⟨.other, 1, 8, (some [.val .nilFunc]), none⟩
 (.node .nil 92 ⟨.other, 1, 8, (some [.val .nilFunc]), none⟩
 .nil))) 93 ⟨.other, 1, 8, (some [.val .nilFunc]), none⟩
 (.node (.node (.node .nil 94 ⟨.other, 1, 8, (some [.val .nilFunc]), none⟩
 .nil) 95 ⟨.other, 1, 8, (some [.val .nilFunc]), none⟩
 (.node .nil 96 ⟨.struct [(0, 3), (1, 3), (2, 3), (3, 34)], 4, 48, (some [.int .i64 0, .int .i64 0, .int .i64 0, .list .byte []]), none⟩
 .nil)) 97 ⟨.struct [(0, 3), (1, 3), (2, 3), (3, 34)], 4, 48, (some [.int .i64 0, .int .i64 0, .int .i64 0, .list .byte []]), none⟩
 (.node (.node .nil 98 ⟨.slice 97, 1, 24, (some [.list .ent []]), (some .ent)⟩
 .nil) 99 ⟨.other, 1, 0, none, none⟩
 (.node .nil 100 ⟨.other, 1, 8, (some [.val .nilFunc]), none⟩
 .nil))))) 101 ⟨.other, 1, 8, (some [.val .nilFunc]), none⟩
 (.node (.node (.node (.node (.node .nil 102 ⟨.ptr, 1, 8, (some [.val (.pointer none)]), none⟩
 .nil) 103 ⟨.other, 1, 0, none, none⟩
 (.node .nil 104 ⟨.other, 1, 8, (some [.val .nilFunc]), none⟩
 .nil)) 105 ⟨.other, 1, 8, (some [.val .nilFunc]), none⟩
 (.node (.node .nil 106 ⟨.struct [(0, 34), (1, 3)], 2, 32, (some [.list .byte [], .int .i64 0]), none⟩
 .nil) 107 ⟨.struct [(0, 34), (1, 3)], 2, 32, (some [.list .byte [], .int .i64 0]), none⟩
 (.node .nil 108 ⟨.other, 1, 8, (some [.val .nilFunc]), none⟩
 .nil))) 109 ⟨.struct [(0, 3), (1, 3), (2, 3), (3, 34)], 4, 48, (some [.int .i64 0, .int .i64 0, .int .i64 0, .list .byte []]), none⟩
 (.node (.node (.node .nil 110 ⟨.other, 1, 8, (some [.val .nilFunc]), none⟩
 .nil) 111 ⟨.slice 109, 1, 24, (some [.list .ent []]), (some .ent)⟩
 (.node .nil 112 ⟨.other, 1, 0, none, none⟩
 .nil)) 113 ⟨.other, 1, 8, (some [.val .nilFunc]), none⟩
 (.node (.node .nil 114 ⟨.other, 1, 8, (some [.val .nilFunc]), none⟩
 .nil) 115 ⟨.other, 1, 8, (some [.val .nilFunc]), none⟩
 (.node .nil 116 ⟨.other, 1, 8, (some [.val .nilFunc]), none⟩
 .nil)))) 117 ⟨.other, 1, 8, (some [.val .nilFunc]), none⟩
 (.node (.node (.node (.node .nil 118 ⟨.other, 1, 8, (some [.val .nilFunc]), none⟩
 .nil) 119 ⟨.other, 1, 0, none, none⟩
 (.node .nil 120 ⟨.other, 1, 8, (some [.val .nilFunc]), none⟩
 .nil)) 121 ⟨.other, 1, 8, (some [.val .nilFunc]), none⟩
 (.node (.node .nil 122 ⟨.ptr, 1, 8, (some [.val (.pointer none)]), none⟩
 .nil) 123 ⟨.other, 1, 8, (some [.val .nilFunc]), none⟩
 (.node .nil 124 ⟨.other, 1, 8, (some [.val .nilFunc]), none⟩
 .nil))) 125 ⟨.other, 1, 8, (some [.val .nilFunc]), none⟩
 (.node (.node (.node .nil 126 ⟨.other, 1, 0, none, none⟩
 .nil) 127 ⟨.other, 1, 8, (some [.val .nilFunc]), none⟩
 (.node .nil 128 ⟨.other, 1, 8, (some [.val .nilFunc]), none⟩
 .nil)) 129 ⟨.other, 1, 8, (some [.val .nilFunc]), none⟩
 (.node (.node .nil 130 ⟨.other, 1, 8, (some [.val .nilFunc]), none⟩
 .nil) 131 ⟨.other, 1, 8, (some [.val .nilFunc]), none⟩
 (.node .nil 132 ⟨.other, 1, 8, (some [.val .nilFunc]), none⟩
 .nil))))))) 133 ⟨.array 3 3, 3, 24, (some [.int .i64 0, .int .i64 0, .int .i64 0]), none⟩
 (.node (.node (.node (.node (.node (.node (.node .nil 134 ⟨.other, 1, 8, (some [.val .nilFunc]), none⟩
 .nil) 135 ⟨.other, 1, 8, (some [.val .nilFunc]), none⟩
 (.node .nil 136 ⟨.other, 1, 8, (some [.val .nilFunc]), none⟩
 .nil)) 137 ⟨.slice 9, 1, 24, (some [.list .str []]), (some .str)⟩
 (.node (.node .nil 138 ⟨.struct [], 0, 0, (some []), none⟩
 .nil) 139 ⟨.struct [], 0, 0, (some []), none⟩
 (.node .nil 140 ⟨.struct [], 0, 0, (some []), none⟩
 .nil))) 141 ⟨.int .u32, 1, 4, (some [.int .u32 0]), none⟩
 (.node (.node (.node .nil 142 ⟨.struct [(0, 140), (0, 141)], 1, 4, (some [.int .u32 0]), none⟩
 .nil) 143 ⟨.struct [(0, 140), (0, 141)], 1, 4, (some [.int .u32 0]), none⟩
 (.node .nil 144 ⟨.struct [(0, 21), (1, 141)], 2, 8, (some [.int .i32 0, .int .u32 0]), none⟩
 .nil)) 145 ⟨.struct [(0, 21), (1, 141)], 2, 8, (some [.int .i32 0, .int .u32 0]), none⟩
 (.node (.node .nil 146 ⟨.struct [(0, 139), (0, 145)], 2, 8, (some [.int .i32 0, .int .u32 0]), none⟩
 .nil) 147 ⟨.struct [(0, 139), (0, 145)], 2, 8, (some [.int .i32 0, .int .u32 0]), none⟩
 (.node .nil 148 ⟨.struct [(0, 139), (0, 143), (1, 147)], 3, 12, (some [.int .u32 0, .int .i32 0, .int .u32 0]), none⟩
 .nil)))) 149 ⟨.struct [(0, 139), (0, 143), (1, 147)], 3, 12, (some [.int .u32 0, .int .i32 0, .int .u32 0]), none⟩
 (.node (.node (.node (.node .nil 150 ⟨.iface, 1, 16, (some [.val .nilIface]), none⟩
 .nil) 151 ⟨.iface, 1, 16, (some [.val .nilIface]), none⟩
 (.node .nil 152 ⟨.struct [(0, 149), (3, 151), (4, 137)], 5, 56, (some [.int .u32 0, .int .i32 0, .int .u32 0, .val .nilIface, .list .str []]), none⟩
 .nil)) 153 ⟨.struct [(0, 149), (3, 151), (4, 137)], 5, 56, (some [.int .u32 0, .int .i32 0, .int .u32 0, .val .nilIface, .list .str []]), none⟩
 (.node (.node .nil 154 ⟨.other, 1, 8, (some [.val .nilFunc]), none⟩
 .nil) 155 ⟨.other, 1, 8, (some [.val .nilFunc]), none⟩
 (.node .nil 156 ⟨.slice 3, 1, 24, (some [.list .int []]), (some .int)⟩
 .nil))) 157 ⟨.other, 1, 8, (some [.val .nilFunc]), none⟩
 (.node (.node (.node .nil 158 ⟨.other, 1, 0, none, none⟩
 .nil) 159 ⟨.other, 1, 8, (some [.val .nilFunc]), none⟩
 (.node .nil 160 ⟨.other, 1, 8, (some [.val .nilFunc]), none⟩
 .nil)) 161 ⟨.other, 1, 8, (some [.val .nilFunc]), none⟩
 (.node (.node .nil 162 ⟨.other, 1, 8, (some [.val .nilFunc]), none⟩
 .nil) 163 ⟨.other, 1, 8, (some [.val .nilFunc]), none⟩
 (.node .nil 164 ⟨.array 256 4, 256, 256, none, none⟩
 .nil))))) 165 ⟨.array 256 4, 256, 256, none, none⟩
 (.node (.node (.node (.node (.node .nil 166 ⟨.other, 1, 0, none, none⟩
 .nil) 167 ⟨.other, 1, 8, (some [.val .nilFunc]), none⟩
 (.node .nil 168 ⟨.other, 1, 8, (some [.val .nilFunc]), none⟩
 .nil)) 169 ⟨.ptr, 1, 8, (some [.val (.pointer none)]), none⟩
 (.node (.node .nil 170 ⟨.other, 1, 8, (some [.val .nilFunc]), none⟩
 .nil) 171 ⟨.ptr, 1, 8, (some [.val (.pointer none)]), none⟩
 (.node .nil 172 ⟨.other, 1, 8, (some [.val .nilFunc]), none⟩
 .nil))) 173 ⟨.int .u64, 1, 8, (some [.int .u64 0]), none⟩
 (.node (.node (.node .nil 174 ⟨.int .u64, 1, 8, (some [.int .u64 0]), none⟩
 .nil) 175 ⟨.slice 34, 1, 24, (some [.list .bytes []]), (some .bytes)⟩
 (.node .nil 176 ⟨.other, 1, 0, none, none⟩
 .nil)) 177 ⟨.other, 1, 8, (some [.val .nilFunc]), none⟩
 (.node (.node .nil 178 ⟨.other, 1, 8, (some [.val .nilFunc]), none⟩
 .nil) 179 ⟨.ptr, 1, 8, (some [.val (.pointer none)]), none⟩
 (.node .nil 180 ⟨.other, 1, 8, (some [.val .nilFunc]), none⟩
 .nil)))) 181 ⟨.ptr, 1, 8, (some [.val (.pointer none)]), none⟩
 (.node (.node (.node (.node .nil 182 ⟨.other, 1, 8, (some [.val .nilFunc]), none⟩
 .nil) 183 ⟨.ptr, 1, 8, (some [.val (.pointer none)]), none⟩
 (.node .nil 184 ⟨.other, 1, 8, (some [.val .nilFunc]), none⟩
 .nil)) 185 ⟨.ptr, 1, 8, (some [.val (.pointer none)]), none⟩
 (.node (.node .nil 186 ⟨.other, 1, 8, (some [.val .nilFunc]), none⟩
 .nil) 187 ⟨.array 256 5, 256, 256, none, none⟩
 (.node .nil 188 ⟨.array 256 5, 256, 256, none, none⟩
 .nil))) 189 ⟨.ptr, 1, 8, (some [.val (.pointer none)]), none⟩
 (.node (.node (.node .nil 190 ⟨.array 256 34, 256, 6144, none, none⟩
 .nil) 191 ⟨.struct [(0, 190), (256, 137)], 257, 6168, none, none⟩
 (.node .nil 192 ⟨.struct [(0, 190), (256, 137)], 257, 6168, none, none⟩
 .nil)) 193 ⟨.ptr, 1, 8, (some [.val (.pointer none)]), none⟩
 (.node (.node .nil 194 ⟨.other, 1, 8, (some [.val .nilFunc]), none⟩
 .nil) 195 ⟨.other, 1, 0, none, none⟩
 (.node .nil 196 ⟨.other, 1, 8, (some [.val .nilFunc]), none⟩
 .nil)))))) 197 ⟨.ptr, 1, 8, (some [.val (.pointer none)]), none⟩
 (.node (.node (.node (.node (.node (.node .nil 198 ⟨.other, 1, 8, (some [.val .nilFunc]), none⟩
 .nil) 199 ⟨.other, 1, 8, (some [.val .nilFunc]), none⟩
 (.node .nil 200 ⟨.ptr, 1, 8, (some [.val (.pointer none)]), none⟩
 .nil)) 201 ⟨.other, 1, 8, (some [.val .nilFunc]), none⟩
 (.node (.node .nil 202 ⟨.struct [(0, 200), (1, 9)], 2, 24, (some [.val (.pointer none), .str []]), none⟩
 .nil) 203 ⟨.struct [(0, 200), (1, 9)], 2, 24, (some [.val (.pointer none), .str []]), none⟩
 (.node .nil 204 ⟨.ptr, 1, 8, (some [.val (.pointer none)]), none⟩
 .nil))) 205 ⟨.slice 204, 1, 24, none, none⟩
 (.node (.node (.node .nil 206 ⟨.struct [(0, 9), (1, 3), (2, 9), (3, 204), (4, 205)], 5, 72, none, none⟩
 .nil) 207 ⟨.struct [(0, 9), (1, 3), (2, 9), (3, 204), (4, 205)], 5, 72, none, none⟩
 (.node .nil 208 ⟨.struct [(0, 207), (5, 3), (6, 187)], 262, 336, none, none⟩
 .nil)) 209 ⟨.struct [(0, 207), (5, 3), (6, 187)], 262, 336, none, none⟩
 (.node (.node .nil 210 ⟨.other, 1, 8, (some [.val .nilFunc]), none⟩
 .nil) 211 ⟨.struct [(0, 5), (1, 5)], 2, 2, (some [.int .u8 0, .int .u8 0]), none⟩
 (.node .nil 212 ⟨.struct [(0, 5), (1, 5)], 2, 2, (some [.int .u8 0, .int .u8 0]), none⟩
 .nil)))) 213 ⟨.array 16 212, 32, 32, (some [.int .u8 0, .int .u8 0, .int .u8 0, .int .u8 0, .int .u8 0, .int .u8 0, .int .u8 0, .int .u8 0, .int .u8 0, .int .u8 0, .int .u8 0, .int .u8 0, .int .u8 0, .int .u8 0, .int .u8 0, .int .u8 0, .int .u8 0, .int .u8 0, .int .u8 0, .int .u8 0, .int .u8 0, .int .u8 0, .int .u8 0, .int .u8 0, .int .u8 0, .int .u8 0, .int .u8 0, .int .u8 0, .int .u8 0, .int .u8 0, .int .u8 0, .int .u8 0]), none⟩
 (.node (.node (.node (.node .nil 214 ⟨.other, 1, 8, (some [.val .nilFunc]), none⟩
 .nil) 215 ⟨.ptr, 1, 8, (some [.val (.pointer none)]), none⟩
 (.node .nil 216 ⟨.other, 1, 8, (some [.val .nilFunc]), none⟩
 .nil)) 217 ⟨.ptr, 1, 8, (some [.val (.pointer none)]), none⟩
 (.node (.node .nil 218 ⟨.other, 1, 8, (some [.val .nilFunc]), none⟩
 .nil) 219 ⟨.other, 1, 8, none, none⟩
 (.node .nil 220 ⟨.other, 1, 8, (some [.val .nilFunc]), none⟩
 .nil))) 221 ⟨.other, 1, 8, (some [.val .nilFunc]), none⟩
 (.node (.node (.node .nil 222 ⟨.array 256 3, 256, 2048, none, none⟩
 .nil) 223 ⟨.struct [(0, 9), (1, 222), (257, 156)], 258, 2088, none, none⟩
 (.node .nil 224 ⟨.struct [(0, 9), (1, 222), (257, 156)], 258, 2088, none, none⟩
 .nil)) 225 ⟨.other, 1, 8, (some [.val .nilFunc]), none⟩
 (.node (.node .nil 226 ⟨.other, 1, 8, (some [.val .nilFunc]), none⟩
 .nil) 227 ⟨.other, 1, 8, (some [.val .nilFunc]), none⟩
 (.node .nil 228 ⟨.other, 1, 8, (some [.val .nilFunc]), none⟩
 .nil))))) 231 ⟨.array 0 16, 0, 0, (some []), none⟩
 (.node (.node (.node (.node (.node .nil 234 ⟨.int .u8, 1, 1, (some [.int .u8 0]), none⟩
 .nil) 235 ⟨.int .u8, 1, 1, (some [.int .u8 0]), none⟩
 (.node .nil 236 ⟨.other, 1, 8, (some [.val .nilFunc]), none⟩
 .nil)) 237 ⟨.ptr, 1, 8, (some [.val (.pointer none)]), none⟩
 (.node (.node .nil 238 ⟨.int .i32, 1, 4, (some [.int .i32 0]), none⟩
 .nil) 239 ⟨.int .i32, 1, 4, (some [.int .i32 0]), none⟩
 (.node .nil 240 ⟨.struct [(0, 12), (1, 12), (2, 141), (3, 234), (4, 5), (5, 5), (6, 235), (7, 236), (8, 237), (9, 238), (10, 239)], 11, 48, (some [.int .u64 0, .int .u64 0, .int .u32 0, .int .u8 0, .int .u8 0, .int .u8 0, .int .u8 0, .val .nilFunc, .val (.pointer none), .int .i32 0, .int .i32 0]), none⟩
 .nil))) 241 ⟨.struct [(0, 12), (1, 12), (2, 141), (3, 234), (4, 5), (5, 5), (6, 235), (7, 236), (8, 237), (9, 238), (10, 239)], 11, 48, (some [.int .u64 0, .int .u64 0, .int .u32 0, .int .u8 0, .int .u8 0, .int .u8 0, .int .u8 0, .val .nilFunc, .val (.pointer none), .int .i32 0, .int .i32 0]), none⟩
 (.node (.node (.node .nil 242 ⟨.other, 1, 8, (some [.val .nilFunc]), none⟩
 .nil) 243 ⟨.ptr, 1, 8, (some [.val (.pointer none)]), none⟩
 (.node .nil 244 ⟨.struct [(0, 243), (1, 34)], 2, 32, (some [.val (.pointer none), .list .byte []]), none⟩
 .nil)) 245 ⟨.struct [(0, 243), (1, 34)], 2, 32, (some [.val (.pointer none), .list .byte []]), none⟩
 (.node (.node .nil 246 ⟨.other, 1, 8, (some [.val .nilFunc]), none⟩
 .nil) 247 ⟨.iface, 1, 16, (some [.val .nilIface]), none⟩
 (.node .nil 248 ⟨.iface, 1, 16, (some [.val .nilIface]), none⟩
 .nil)))) 249 ⟨.other, 1, 0, none, none⟩
 (.node (.node (.node (.node .nil 250 ⟨.other, 1, 8, (some [.val .nilFunc]), none⟩
 .nil) 251 ⟨.other, 1, 8, (some [.val .nilFunc]), none⟩
 (.node .nil 252 ⟨.slice 5, 1, 24, (some [.list .byte []]), (some .byte)⟩
 .nil)) 253 ⟨.ptr, 1, 8, (some [.val (.pointer none)]), none⟩
 (.node (.node .nil 254 ⟨.iface, 1, 16, (some [.val .nilIface]), none⟩
 .nil) 255 ⟨.iface, 1, 16, (some [.val .nilIface]), none⟩
 (.node .nil 256 ⟨.iface, 1, 16, (some [.val .nilIface]), none⟩
 .nil))) 257 ⟨.iface, 1, 16, (some [.val .nilIface]), none⟩
 (.node (.node (.node .nil 258 ⟨.other, 1, 8, (some [.val .nilFunc]), none⟩
 .nil) 259 ⟨.other, 1, 0, none, none⟩
 (.node .nil 260 ⟨.other, 1, 8, (some [.val .nilFunc]), none⟩
 .nil)) 261 ⟨.other, 1, 0, none, none⟩
 (.node (.node .nil 262 ⟨.struct [(0, 255)], 1, 16, (some [.val .nilIface]), none⟩
 .nil) 263 ⟨.struct [(0, 255)], 1, 16, (some [.val .nilIface]), none⟩
 (.node .nil 264 ⟨.other, 1, 8, (some [.val .nilFunc]), none⟩
 .nil))))))))
def tab : Tab := tabT.get
theorem tab_ok : tab.fits Tryz.prog := Tab.fits_tt (by kernel_rfl)
theorem mixed : Tryz.prog.follows .mixedOrders = true := by kernel_rfl
end Go.Proofs.YtjapkdcomcgamaaGreatDoor
