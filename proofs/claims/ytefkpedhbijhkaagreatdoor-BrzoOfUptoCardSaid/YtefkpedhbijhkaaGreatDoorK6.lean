/- A part of the proof, joined of several texts: the verification layer, contracts of functions, plain law. -/
import Derived.Test.YtefkpedhbijhkaaGreatDoorK5
import Derived.Test.YtefkpedhbijhkaaGreatDoorProg
set_option maxHeartbeats 64000000
set_option linter.unusedSimpArgs false
set_option linter.unusedVariables false
set_option linter.unusedSectionVars false
set_option maxRecDepth 20000
namespace Go.Proofs.YtefkpedhbijhkaaGreatDoor
open Go Go.V Go.Proofs
def T : Tys := fun t => match t with
 | 1 => ⟨.func, 1, 8, [.nilFunc], false⟩
 | 2 => ⟨.int .i64, 1, 8, [(.int .i64 0)], false⟩
 | 3 => ⟨.int .i64, 1, 8, [(.int .i64 0)], false⟩
 | 4 => ⟨.bool, 1, 1, [(.bool false)], false⟩
 | 5 => ⟨.int .u8, 1, 1, [(.int .u8 0)], false⟩
 | 9 => ⟨.string, 1, 16, [(.string ⟨#[]⟩)], false⟩
 | 12 => ⟨.int .u64, 1, 8, [(.int .u64 0)], false⟩
 | 13 => ⟨.struct [(0, 9), (1, 12)], 2, 24, [(.string ⟨#[]⟩), (.int .u64 0)], false⟩
 | 20 => ⟨.iface, 1, 16, [.nilIface], false⟩
 | 21 => ⟨.int .i32, 1, 4, [(.int .i32 0)], false⟩
 | 22 => ⟨.arr 256 5, 256, 256, List.replicate 256 (.int .u8 0), true⟩
 | 23 => ⟨.slice 24, 1, 24, [(.slice none 0 0)], false⟩
 | 24 => ⟨.slice 3, 1, 24, [(.slice none 0 0)], false⟩
 | 25 => ⟨.slice 9, 1, 24, [(.slice none 0 0)], false⟩
 | 26 => ⟨.struct [(0, 22), (256, 3), (257, 23), (258, 24), (259, 25)], 260, 336, List.replicate 256 (.int .u8 0) ++ [(.int .i64 0), (.slice none 0 0), (.slice none 0 0), (.slice none 0 0)], false⟩
 | 27 => ⟨.struct [(0, 22), (256, 3), (257, 23), (258, 24), (259, 25)], 260, 336, List.replicate 256 (.int .u8 0) ++ [(.int .i64 0), (.slice none 0 0), (.slice none 0 0), (.slice none 0 0)], false⟩
 | 28 => ⟨.func, 1, 8, [.nilFunc], false⟩
 | 29 => ⟨.func, 1, 8, [.nilFunc], false⟩
 | 30 => ⟨.int .i64, 1, 8, [(.int .i64 0)], false⟩
 | 32 => ⟨.func, 1, 8, [.nilFunc], false⟩
 | 33 => ⟨.func, 1, 8, [.nilFunc], false⟩
 | 34 => ⟨.func, 1, 8, [.nilFunc], false⟩
 | 35 => ⟨.func, 1, 8, [.nilFunc], false⟩
 | 36 => ⟨.func, 1, 8, [.nilFunc], false⟩
 | 37 => ⟨.func, 1, 8, [.nilFunc], false⟩
 | 38 => ⟨.func, 1, 8, [.nilFunc], false⟩
 | 39 => ⟨.slice 5, 1, 24, [(.slice none 0 0)], false⟩
 | 40 => ⟨.func, 1, 8, [.nilFunc], false⟩
 | 42 => ⟨.func, 1, 8, [.nilFunc], false⟩
 | 43 => ⟨.func, 1, 8, [.nilFunc], false⟩
 | 44 => ⟨.func, 1, 8, [.nilFunc], false⟩
 | 45 => ⟨.slice 35, 1, 24, [(.slice none 0 0)], false⟩
 | 46 => ⟨.func, 1, 8, [.nilFunc], false⟩
 | 47 => ⟨.func, 1, 8, [.nilFunc], false⟩
 | 48 => ⟨.func, 1, 8, [.nilFunc], false⟩
 | 49 => ⟨.func, 1, 8, [.nilFunc], false⟩
 | 50 => ⟨.func, 1, 8, [.nilFunc], false⟩
 | 51 => ⟨.func, 1, 8, [.nilFunc], false⟩
 | 53 => ⟨.func, 1, 8, [.nilFunc], false⟩
 | 54 => ⟨.func, 1, 8, [.nilFunc], false⟩
 | 55 => ⟨.func, 1, 8, [.nilFunc], false⟩
 | 56 => ⟨.ptr 85, 1, 8, [(.pointer none)], false⟩
 | 57 => ⟨.func, 1, 8, [.nilFunc], false⟩
 | 58 => ⟨.slice 39, 1, 24, [(.slice none 0 0)], false⟩
 | 59 => ⟨.struct [(0, 56), (1, 58)], 2, 32, [(.pointer none), (.slice none 0 0)], false⟩
 | 60 => ⟨.struct [(0, 56), (1, 58)], 2, 32, [(.pointer none), (.slice none 0 0)], false⟩
 | 61 => ⟨.func, 1, 8, [.nilFunc], false⟩
 | 62 => ⟨.func, 1, 8, [.nilFunc], false⟩
 | 63 => ⟨.func, 1, 8, [.nilFunc], false⟩
 | 64 => ⟨.func, 1, 8, [.nilFunc], false⟩
 | 65 => ⟨.func, 1, 8, [.nilFunc], false⟩
 | 66 => ⟨.func, 1, 8, [.nilFunc], false⟩
 | 67 => ⟨.func, 1, 8, [.nilFunc], false⟩
 | 68 => ⟨.func, 1, 8, [.nilFunc], false⟩
 | 69 => ⟨.func, 1, 8, [.nilFunc], false⟩
 | 71 => ⟨.func, 1, 8, [.nilFunc], false⟩
 | 72 => ⟨.func, 1, 8, [.nilFunc], false⟩
 | 73 => ⟨.func, 1, 8, [.nilFunc], false⟩
 | 74 => ⟨.func, 1, 8, [.nilFunc], false⟩
 | 75 => ⟨.func, 1, 8, [.nilFunc], false⟩
 | 76 => ⟨.slice 49, 1, 24, [(.slice none 0 0)], false⟩
 | 77 => ⟨.func, 1, 8, [.nilFunc], false⟩
 | 78 => ⟨.func, 1, 8, [.nilFunc], false⟩
 | 79 => ⟨.func, 1, 8, [.nilFunc], false⟩
 | 80 => ⟨.slice 97, 1, 24, [(.slice none 0 0)], false⟩
 | 81 => ⟨.func, 1, 8, [.nilFunc], false⟩
 | 82 => ⟨.func, 1, 8, [.nilFunc], false⟩
 | 83 => ⟨.map 9 3, 1, 8, [(.map none)], false⟩
 | 84 => ⟨.struct [(0, 83), (1, 25)], 2, 32, [(.map none), (.slice none 0 0)], false⟩
 | 85 => ⟨.struct [(0, 83), (1, 25)], 2, 32, [(.map none), (.slice none 0 0)], false⟩
 | 86 => ⟨.ptr 60, 1, 8, [(.pointer none)], false⟩
 | 88 => ⟨.func, 1, 8, [.nilFunc], false⟩
 | 89 => ⟨.func, 1, 8, [.nilFunc], false⟩
 | 90 => ⟨.func, 1, 8, [.nilFunc], false⟩
 | 91 => ⟨.func, 1, 8, [.nilFunc], false⟩
 | 92 => ⟨.func, 1, 8, [.nilFunc], false⟩
 | 93 => ⟨.func, 1, 8, [.nilFunc], false⟩
 | 94 => ⟨.func, 1, 8, [.nilFunc], false⟩
 | 95 => ⟨.int .u64, 1, 8, [(.int .u64 0)], false⟩
 | 96 => ⟨.arr 4 95, 4, 32, [(.int .u64 0), (.int .u64 0), (.int .u64 0), (.int .u64 0)], true⟩
 | 97 => ⟨.arr 4 95, 4, 32, [(.int .u64 0), (.int .u64 0), (.int .u64 0), (.int .u64 0)], true⟩
 | 98 => ⟨.func, 1, 8, [.nilFunc], false⟩
 | 99 => ⟨.func, 1, 8, [.nilFunc], false⟩
 | 100 => ⟨.func, 1, 8, [.nilFunc], false⟩
 | 101 => ⟨.func, 1, 8, [.nilFunc], false⟩
 | 102 => ⟨.func, 1, 8, [.nilFunc], false⟩
 | 103 => ⟨.slice 4, 1, 24, [(.slice none 0 0)], false⟩
 | 104 => ⟨.func, 1, 8, [.nilFunc], false⟩
 | 105 => ⟨.ptr 112, 1, 8, [(.pointer none)], false⟩
 | 106 => ⟨.func, 1, 8, [.nilFunc], false⟩
 | 107 => ⟨.slice 139, 1, 24, [(.slice none 0 0)], false⟩
 | 108 => ⟨.slice 23, 1, 24, [(.slice none 0 0)], false⟩
 | 109 => ⟨.slice 114, 1, 24, [(.slice none 0 0)], false⟩
 | 110 => ⟨.map 114 3, 1, 8, [(.map none)], false⟩
 | 111 => ⟨.struct [(0, 24), (1, 24), (2, 24), (3, 107), (4, 108), (5, 109), (6, 110), (7, 3)], 8, 160, [(.slice none 0 0), (.slice none 0 0), (.slice none 0 0), (.slice none 0 0), (.slice none 0 0), (.slice none 0 0), (.map none), (.int .i64 0)], false⟩
 | 112 => ⟨.struct [(0, 24), (1, 24), (2, 24), (3, 107), (4, 108), (5, 109), (6, 110), (7, 3)], 8, 160, [(.slice none 0 0), (.slice none 0 0), (.slice none 0 0), (.slice none 0 0), (.slice none 0 0), (.slice none 0 0), (.map none), (.int .i64 0)], false⟩
 | 113 => ⟨.func, 1, 8, [.nilFunc], false⟩
 | 114 => ⟨.arr 2 3, 2, 16, [(.int .i64 0), (.int .i64 0)], true⟩
 | 115 => ⟨.func, 1, 8, [.nilFunc], false⟩
 | 116 => ⟨.func, 1, 8, [.nilFunc], false⟩
 | 117 => ⟨.arr 256 4, 256, 256, List.replicate 256 (.bool false), true⟩
 | 118 => ⟨.func, 1, 8, [.nilFunc], false⟩
 | 119 => ⟨.func, 1, 8, [.nilFunc], false⟩
 | 120 => ⟨.func, 1, 8, [.nilFunc], false⟩
 | 121 => ⟨.int .u64, 1, 8, [(.int .u64 0)], false⟩
 | 122 => ⟨.func, 1, 8, [.nilFunc], false⟩
 | 123 => ⟨.func, 1, 8, [.nilFunc], false⟩
 | 124 => ⟨.func, 1, 8, [.nilFunc], false⟩
 | 125 => ⟨.func, 1, 8, [.nilFunc], false⟩
 | 126 => ⟨.func, 1, 8, [.nilFunc], false⟩
 | 127 => ⟨.func, 1, 8, [.nilFunc], false⟩
 | 128 => ⟨.func, 1, 8, [.nilFunc], false⟩
 | 129 => ⟨.func, 1, 8, [.nilFunc], false⟩
 | 130 => ⟨.func, 1, 8, [.nilFunc], false⟩
 | 131 => ⟨.func, 1, 8, [.nilFunc], false⟩
 | 133 => ⟨.func, 1, 8, [.nilFunc], false⟩
 | 134 => ⟨.func, 1, 8, [.nilFunc], false⟩
 | 135 => ⟨.func, 1, 8, [.nilFunc], false⟩
 | 136 => ⟨.func, 1, 8, [.nilFunc], false⟩
 | 137 => ⟨.func, 1, 8, [.nilFunc], false⟩
 | 138 => ⟨.struct [(0, 3), (1, 3), (2, 3)], 3, 24, [(.int .i64 0), (.int .i64 0), (.int .i64 0)], false⟩
 | 139 => ⟨.struct [(0, 3), (1, 3), (2, 3)], 3, 24, [(.int .i64 0), (.int .i64 0), (.int .i64 0)], false⟩
 | 140 => ⟨.func, 1, 8, [.nilFunc], false⟩
 | 141 => ⟨.func, 1, 8, [.nilFunc], false⟩
 | 142 => ⟨.int .i64, 1, 8, [(.int .i64 0)], false⟩
 | 144 => ⟨.func, 1, 8, [.nilFunc], false⟩
 | 145 => ⟨.func, 1, 8, [.nilFunc], false⟩
 | 146 => ⟨.func, 1, 8, [.nilFunc], false⟩
 | 147 => ⟨.func, 1, 8, [.nilFunc], false⟩
 | 148 => ⟨.func, 1, 8, [.nilFunc], false⟩
 | 149 => ⟨.func, 1, 8, [.nilFunc], false⟩
 | 150 => ⟨.int .u32, 1, 4, [(.int .u32 0)], false⟩
 | 151 => ⟨.func, 1, 8, [.nilFunc], false⟩
 | 152 => ⟨.map 5 5, 1, 8, [(.map none)], false⟩
 | 154 => ⟨.func, 1, 8, [.nilFunc], false⟩
 | 156 => ⟨.func, 1, 8, [.nilFunc], false⟩
 | 158 => ⟨.func, 1, 8, [.nilFunc], false⟩
 | 159 => ⟨.func, 1, 8, [.nilFunc], false⟩
 | 160 => ⟨.func, 1, 8, [.nilFunc], false⟩
 | 161 => ⟨.map 3 3, 1, 8, [(.map none)], false⟩
 | 162 => ⟨.func, 1, 8, [.nilFunc], false⟩
 | 163 => ⟨.ptr 139, 1, 8, [(.pointer none)], false⟩
 | 164 => ⟨.int .u64, 1, 8, [(.int .u64 0)], false⟩
 | 165 => ⟨.func, 1, 8, [.nilFunc], false⟩
 | 166 => ⟨.func, 1, 8, [.nilFunc], false⟩
 | 167 => ⟨.func, 1, 8, [.nilFunc], false⟩
 | 168 => ⟨.ptr 3, 1, 8, [(.pointer none)], false⟩
 | 169 => ⟨.func, 1, 8, [.nilFunc], false⟩
 | 170 => ⟨.arr 64 5, 64, 64, List.replicate 64 (.int .u8 0), true⟩
 | 171 => ⟨.func, 1, 8, [.nilFunc], false⟩
 | 172 => ⟨.func, 1, 8, [.nilFunc], false⟩
 | 173 => ⟨.ptr 164, 1, 8, [(.pointer none)], false⟩
 | 175 => ⟨.func, 1, 8, [.nilFunc], false⟩
 | 176 => ⟨.func, 1, 8, [.nilFunc], false⟩
 | 179 => ⟨.arr 0 16, 0, 0, [], false⟩
 | 180 => ⟨.struct [(0, 179)], 0, 0, [], false⟩
 | 182 => ⟨.func, 1, 8, [.nilFunc], false⟩
 | 185 => ⟨.func, 1, 8, [.nilFunc], false⟩
 | 186 => ⟨.ptr 5, 1, 8, [(.pointer none)], false⟩
 | 191 => ⟨.func, 1, 8, [.nilFunc], false⟩
 | _ => ⟨.none, 0, 0, [], false⟩
theorem T1 : T 1 = ⟨.func, 1, 8, [.nilFunc], false⟩ := rfl
theorem T2 : T 2 = ⟨.int .i64, 1, 8, [(.int .i64 0)], false⟩ := rfl
theorem T3 : T 3 = ⟨.int .i64, 1, 8, [(.int .i64 0)], false⟩ := rfl
theorem T4 : T 4 = ⟨.bool, 1, 1, [(.bool false)], false⟩ := rfl
theorem T5 : T 5 = ⟨.int .u8, 1, 1, [(.int .u8 0)], false⟩ := rfl
theorem T9 : T 9 = ⟨.string, 1, 16, [(.string ⟨#[]⟩)], false⟩ := rfl
theorem T12 : T 12 = ⟨.int .u64, 1, 8, [(.int .u64 0)], false⟩ := rfl
theorem T13 : T 13 = ⟨.struct [(0, 9), (1, 12)], 2, 24, [(.string ⟨#[]⟩), (.int .u64 0)], false⟩ := rfl
theorem T20 : T 20 = ⟨.iface, 1, 16, [.nilIface], false⟩ := rfl
theorem T21 : T 21 = ⟨.int .i32, 1, 4, [(.int .i32 0)], false⟩ := rfl
theorem T22 : T 22 = ⟨.arr 256 5, 256, 256, List.replicate 256 (.int .u8 0), true⟩ := rfl
theorem T23 : T 23 = ⟨.slice 24, 1, 24, [(.slice none 0 0)], false⟩ := rfl
theorem T24 : T 24 = ⟨.slice 3, 1, 24, [(.slice none 0 0)], false⟩ := rfl
theorem T25 : T 25 = ⟨.slice 9, 1, 24, [(.slice none 0 0)], false⟩ := rfl
theorem T26 : T 26 = ⟨.struct [(0, 22), (256, 3), (257, 23), (258, 24), (259, 25)], 260, 336, List.replicate 256 (.int .u8 0) ++ [(.int .i64 0), (.slice none 0 0), (.slice none 0 0), (.slice none 0 0)], false⟩ := rfl
theorem T27 : T 27 = ⟨.struct [(0, 22), (256, 3), (257, 23), (258, 24), (259, 25)], 260, 336, List.replicate 256 (.int .u8 0) ++ [(.int .i64 0), (.slice none 0 0), (.slice none 0 0), (.slice none 0 0)], false⟩ := rfl
theorem T28 : T 28 = ⟨.func, 1, 8, [.nilFunc], false⟩ := rfl
theorem T29 : T 29 = ⟨.func, 1, 8, [.nilFunc], false⟩ := rfl
theorem T30 : T 30 = ⟨.int .i64, 1, 8, [(.int .i64 0)], false⟩ := rfl
theorem T32 : T 32 = ⟨.func, 1, 8, [.nilFunc], false⟩ := rfl
theorem T33 : T 33 = ⟨.func, 1, 8, [.nilFunc], false⟩ := rfl
theorem T34 : T 34 = ⟨.func, 1, 8, [.nilFunc], false⟩ := rfl
theorem T35 : T 35 = ⟨.func, 1, 8, [.nilFunc], false⟩ := rfl
theorem T36 : T 36 = ⟨.func, 1, 8, [.nilFunc], false⟩ := rfl
theorem T37 : T 37 = ⟨.func, 1, 8, [.nilFunc], false⟩ := rfl
theorem T38 : T 38 = ⟨.func, 1, 8, [.nilFunc], false⟩ := rfl
theorem T39 : T 39 = ⟨.slice 5, 1, 24, [(.slice none 0 0)], false⟩ := rfl
theorem T40 : T 40 = ⟨.func, 1, 8, [.nilFunc], false⟩ := rfl
theorem T42 : T 42 = ⟨.func, 1, 8, [.nilFunc], false⟩ := rfl
theorem T43 : T 43 = ⟨.func, 1, 8, [.nilFunc], false⟩ := rfl
theorem T44 : T 44 = ⟨.func, 1, 8, [.nilFunc], false⟩ := rfl
theorem T45 : T 45 = ⟨.slice 35, 1, 24, [(.slice none 0 0)], false⟩ := rfl
theorem T46 : T 46 = ⟨.func, 1, 8, [.nilFunc], false⟩ := rfl
theorem T47 : T 47 = ⟨.func, 1, 8, [.nilFunc], false⟩ := rfl
theorem T48 : T 48 = ⟨.func, 1, 8, [.nilFunc], false⟩ := rfl
theorem T49 : T 49 = ⟨.func, 1, 8, [.nilFunc], false⟩ := rfl
theorem T50 : T 50 = ⟨.func, 1, 8, [.nilFunc], false⟩ := rfl
theorem T51 : T 51 = ⟨.func, 1, 8, [.nilFunc], false⟩ := rfl
theorem T53 : T 53 = ⟨.func, 1, 8, [.nilFunc], false⟩ := rfl
theorem T54 : T 54 = ⟨.func, 1, 8, [.nilFunc], false⟩ := rfl
theorem T55 : T 55 = ⟨.func, 1, 8, [.nilFunc], false⟩ := rfl
theorem T56 : T 56 = ⟨.ptr 85, 1, 8, [(.pointer none)], false⟩ := rfl
theorem T57 : T 57 = ⟨.func, 1, 8, [.nilFunc], false⟩ := rfl
theorem T58 : T 58 = ⟨.slice 39, 1, 24, [(.slice none 0 0)], false⟩ := rfl
theorem T59 : T 59 = ⟨.struct [(0, 56), (1, 58)], 2, 32, [(.pointer none), (.slice none 0 0)], false⟩ := rfl
theorem T60 : T 60 = ⟨.struct [(0, 56), (1, 58)], 2, 32, [(.pointer none), (.slice none 0 0)], false⟩ := rfl
theorem T61 : T 61 = ⟨.func, 1, 8, [.nilFunc], false⟩ := rfl
theorem T62 : T 62 = ⟨.func, 1, 8, [.nilFunc], false⟩ := rfl
theorem T63 : T 63 = ⟨.func, 1, 8, [.nilFunc], false⟩ := rfl
theorem T64 : T 64 = ⟨.func, 1, 8, [.nilFunc], false⟩ := rfl
theorem T65 : T 65 = ⟨.func, 1, 8, [.nilFunc], false⟩ := rfl
theorem T66 : T 66 = ⟨.func, 1, 8, [.nilFunc], false⟩ := rfl
theorem T67 : T 67 = ⟨.func, 1, 8, [.nilFunc], false⟩ := rfl
theorem T68 : T 68 = ⟨.func, 1, 8, [.nilFunc], false⟩ := rfl
theorem T69 : T 69 = ⟨.func, 1, 8, [.nilFunc], false⟩ := rfl
theorem T71 : T 71 = ⟨.func, 1, 8, [.nilFunc], false⟩ := rfl
theorem T72 : T 72 = ⟨.func, 1, 8, [.nilFunc], false⟩ := rfl
theorem T73 : T 73 = ⟨.func, 1, 8, [.nilFunc], false⟩ := rfl
theorem T74 : T 74 = ⟨.func, 1, 8, [.nilFunc], false⟩ := rfl
theorem T75 : T 75 = ⟨.func, 1, 8, [.nilFunc], false⟩ := rfl
theorem T76 : T 76 = ⟨.slice 49, 1, 24, [(.slice none 0 0)], false⟩ := rfl
theorem T77 : T 77 = ⟨.func, 1, 8, [.nilFunc], false⟩ := rfl
theorem T78 : T 78 = ⟨.func, 1, 8, [.nilFunc], false⟩ := rfl
theorem T79 : T 79 = ⟨.func, 1, 8, [.nilFunc], false⟩ := rfl
theorem T80 : T 80 = ⟨.slice 97, 1, 24, [(.slice none 0 0)], false⟩ := rfl
theorem T81 : T 81 = ⟨.func, 1, 8, [.nilFunc], false⟩ := rfl
theorem T82 : T 82 = ⟨.func, 1, 8, [.nilFunc], false⟩ := rfl
theorem T83 : T 83 = ⟨.map 9 3, 1, 8, [(.map none)], false⟩ := rfl
theorem T84 : T 84 = ⟨.struct [(0, 83), (1, 25)], 2, 32, [(.map none), (.slice none 0 0)], false⟩ := rfl
theorem T85 : T 85 = ⟨.struct [(0, 83), (1, 25)], 2, 32, [(.map none), (.slice none 0 0)], false⟩ := rfl
theorem T86 : T 86 = ⟨.ptr 60, 1, 8, [(.pointer none)], false⟩ := rfl
theorem T88 : T 88 = ⟨.func, 1, 8, [.nilFunc], false⟩ := rfl
theorem T89 : T 89 = ⟨.func, 1, 8, [.nilFunc], false⟩ := rfl
theorem T90 : T 90 = ⟨.func, 1, 8, [.nilFunc], false⟩ := rfl
theorem T91 : T 91 = ⟨.func, 1, 8, [.nilFunc], false⟩ := rfl
theorem T92 : T 92 = ⟨.func, 1, 8, [.nilFunc], false⟩ := rfl
theorem T93 : T 93 = ⟨.func, 1, 8, [.nilFunc], false⟩ := rfl
theorem T94 : T 94 = ⟨.func, 1, 8, [.nilFunc], false⟩ := rfl
theorem T95 : T 95 = ⟨.int .u64, 1, 8, [(.int .u64 0)], false⟩ := rfl
theorem T96 : T 96 = ⟨.arr 4 95, 4, 32, [(.int .u64 0), (.int .u64 0), (.int .u64 0), (.int .u64 0)], true⟩ := rfl
theorem T97 : T 97 = ⟨.arr 4 95, 4, 32, [(.int .u64 0), (.int .u64 0), (.int .u64 0), (.int .u64 0)], true⟩ := rfl
theorem T98 : T 98 = ⟨.func, 1, 8, [.nilFunc], false⟩ := rfl
theorem T99 : T 99 = ⟨.func, 1, 8, [.nilFunc], false⟩ := rfl
theorem T100 : T 100 = ⟨.func, 1, 8, [.nilFunc], false⟩ := rfl
theorem T101 : T 101 = ⟨.func, 1, 8, [.nilFunc], false⟩ := rfl
theorem T102 : T 102 = ⟨.func, 1, 8, [.nilFunc], false⟩ := rfl
theorem T103 : T 103 = ⟨.slice 4, 1, 24, [(.slice none 0 0)], false⟩ := rfl
theorem T104 : T 104 = ⟨.func, 1, 8, [.nilFunc], false⟩ := rfl
theorem T105 : T 105 = ⟨.ptr 112, 1, 8, [(.pointer none)], false⟩ := rfl
theorem T106 : T 106 = ⟨.func, 1, 8, [.nilFunc], false⟩ := rfl
theorem T107 : T 107 = ⟨.slice 139, 1, 24, [(.slice none 0 0)], false⟩ := rfl
theorem T108 : T 108 = ⟨.slice 23, 1, 24, [(.slice none 0 0)], false⟩ := rfl
theorem T109 : T 109 = ⟨.slice 114, 1, 24, [(.slice none 0 0)], false⟩ := rfl
theorem T110 : T 110 = ⟨.map 114 3, 1, 8, [(.map none)], false⟩ := rfl
theorem T111 : T 111 = ⟨.struct [(0, 24), (1, 24), (2, 24), (3, 107), (4, 108), (5, 109), (6, 110), (7, 3)], 8, 160, [(.slice none 0 0), (.slice none 0 0), (.slice none 0 0), (.slice none 0 0), (.slice none 0 0), (.slice none 0 0), (.map none), (.int .i64 0)], false⟩ := rfl
theorem T112 : T 112 = ⟨.struct [(0, 24), (1, 24), (2, 24), (3, 107), (4, 108), (5, 109), (6, 110), (7, 3)], 8, 160, [(.slice none 0 0), (.slice none 0 0), (.slice none 0 0), (.slice none 0 0), (.slice none 0 0), (.slice none 0 0), (.map none), (.int .i64 0)], false⟩ := rfl
theorem T113 : T 113 = ⟨.func, 1, 8, [.nilFunc], false⟩ := rfl
theorem T114 : T 114 = ⟨.arr 2 3, 2, 16, [(.int .i64 0), (.int .i64 0)], true⟩ := rfl
theorem T115 : T 115 = ⟨.func, 1, 8, [.nilFunc], false⟩ := rfl
theorem T116 : T 116 = ⟨.func, 1, 8, [.nilFunc], false⟩ := rfl
theorem T117 : T 117 = ⟨.arr 256 4, 256, 256, List.replicate 256 (.bool false), true⟩ := rfl
theorem T118 : T 118 = ⟨.func, 1, 8, [.nilFunc], false⟩ := rfl
theorem T119 : T 119 = ⟨.func, 1, 8, [.nilFunc], false⟩ := rfl
theorem T120 : T 120 = ⟨.func, 1, 8, [.nilFunc], false⟩ := rfl
theorem T121 : T 121 = ⟨.int .u64, 1, 8, [(.int .u64 0)], false⟩ := rfl
theorem T122 : T 122 = ⟨.func, 1, 8, [.nilFunc], false⟩ := rfl
theorem T123 : T 123 = ⟨.func, 1, 8, [.nilFunc], false⟩ := rfl
theorem T124 : T 124 = ⟨.func, 1, 8, [.nilFunc], false⟩ := rfl
theorem T125 : T 125 = ⟨.func, 1, 8, [.nilFunc], false⟩ := rfl
theorem T126 : T 126 = ⟨.func, 1, 8, [.nilFunc], false⟩ := rfl
theorem T127 : T 127 = ⟨.func, 1, 8, [.nilFunc], false⟩ := rfl
theorem T128 : T 128 = ⟨.func, 1, 8, [.nilFunc], false⟩ := rfl
theorem T129 : T 129 = ⟨.func, 1, 8, [.nilFunc], false⟩ := rfl
theorem T130 : T 130 = ⟨.func, 1, 8, [.nilFunc], false⟩ := rfl
theorem T131 : T 131 = ⟨.func, 1, 8, [.nilFunc], false⟩ := rfl
theorem T133 : T 133 = ⟨.func, 1, 8, [.nilFunc], false⟩ := rfl
theorem T134 : T 134 = ⟨.func, 1, 8, [.nilFunc], false⟩ := rfl
theorem T135 : T 135 = ⟨.func, 1, 8, [.nilFunc], false⟩ := rfl
theorem T136 : T 136 = ⟨.func, 1, 8, [.nilFunc], false⟩ := rfl
theorem T137 : T 137 = ⟨.func, 1, 8, [.nilFunc], false⟩ := rfl
theorem T138 : T 138 = ⟨.struct [(0, 3), (1, 3), (2, 3)], 3, 24, [(.int .i64 0), (.int .i64 0), (.int .i64 0)], false⟩ := rfl
theorem T139 : T 139 = ⟨.struct [(0, 3), (1, 3), (2, 3)], 3, 24, [(.int .i64 0), (.int .i64 0), (.int .i64 0)], false⟩ := rfl
theorem T140 : T 140 = ⟨.func, 1, 8, [.nilFunc], false⟩ := rfl
theorem T141 : T 141 = ⟨.func, 1, 8, [.nilFunc], false⟩ := rfl
theorem T142 : T 142 = ⟨.int .i64, 1, 8, [(.int .i64 0)], false⟩ := rfl
theorem T144 : T 144 = ⟨.func, 1, 8, [.nilFunc], false⟩ := rfl
theorem T145 : T 145 = ⟨.func, 1, 8, [.nilFunc], false⟩ := rfl
theorem T146 : T 146 = ⟨.func, 1, 8, [.nilFunc], false⟩ := rfl
theorem T147 : T 147 = ⟨.func, 1, 8, [.nilFunc], false⟩ := rfl
theorem T148 : T 148 = ⟨.func, 1, 8, [.nilFunc], false⟩ := rfl
theorem T149 : T 149 = ⟨.func, 1, 8, [.nilFunc], false⟩ := rfl
theorem T150 : T 150 = ⟨.int .u32, 1, 4, [(.int .u32 0)], false⟩ := rfl
theorem T151 : T 151 = ⟨.func, 1, 8, [.nilFunc], false⟩ := rfl
theorem T152 : T 152 = ⟨.map 5 5, 1, 8, [(.map none)], false⟩ := rfl
theorem T154 : T 154 = ⟨.func, 1, 8, [.nilFunc], false⟩ := rfl
theorem T156 : T 156 = ⟨.func, 1, 8, [.nilFunc], false⟩ := rfl
theorem T158 : T 158 = ⟨.func, 1, 8, [.nilFunc], false⟩ := rfl
theorem T159 : T 159 = ⟨.func, 1, 8, [.nilFunc], false⟩ := rfl
theorem T160 : T 160 = ⟨.func, 1, 8, [.nilFunc], false⟩ := rfl
theorem T161 : T 161 = ⟨.map 3 3, 1, 8, [(.map none)], false⟩ := rfl
theorem T162 : T 162 = ⟨.func, 1, 8, [.nilFunc], false⟩ := rfl
theorem T163 : T 163 = ⟨.ptr 139, 1, 8, [(.pointer none)], false⟩ := rfl
theorem T164 : T 164 = ⟨.int .u64, 1, 8, [(.int .u64 0)], false⟩ := rfl
theorem T165 : T 165 = ⟨.func, 1, 8, [.nilFunc], false⟩ := rfl
theorem T166 : T 166 = ⟨.func, 1, 8, [.nilFunc], false⟩ := rfl
theorem T167 : T 167 = ⟨.func, 1, 8, [.nilFunc], false⟩ := rfl
theorem T168 : T 168 = ⟨.ptr 3, 1, 8, [(.pointer none)], false⟩ := rfl
theorem T169 : T 169 = ⟨.func, 1, 8, [.nilFunc], false⟩ := rfl
theorem T170 : T 170 = ⟨.arr 64 5, 64, 64, List.replicate 64 (.int .u8 0), true⟩ := rfl
theorem T171 : T 171 = ⟨.func, 1, 8, [.nilFunc], false⟩ := rfl
theorem T172 : T 172 = ⟨.func, 1, 8, [.nilFunc], false⟩ := rfl
theorem T173 : T 173 = ⟨.ptr 164, 1, 8, [(.pointer none)], false⟩ := rfl
theorem T175 : T 175 = ⟨.func, 1, 8, [.nilFunc], false⟩ := rfl
theorem T176 : T 176 = ⟨.func, 1, 8, [.nilFunc], false⟩ := rfl
theorem T179 : T 179 = ⟨.arr 0 16, 0, 0, [], false⟩ := rfl
theorem T180 : T 180 = ⟨.struct [(0, 179)], 0, 0, [], false⟩ := rfl
theorem T182 : T 182 = ⟨.func, 1, 8, [.nilFunc], false⟩ := rfl
theorem T185 : T 185 = ⟨.func, 1, 8, [.nilFunc], false⟩ := rfl
theorem T186 : T 186 = ⟨.ptr 5, 1, 8, [(.pointer none)], false⟩ := rfl
theorem T191 : T 191 = ⟨.func, 1, 8, [.nilFunc], false⟩ := rfl
attribute [go_sem] T1 T2 T3 T4 T5 T9 T12 T13 T20 T21 T22 T23 T24 T25 T26 T27 T28 T29 T30 T32 T33 T34 T35 T36 T37 T38 T39 T40 T42 T43 T44 T45 T46 T47 T48 T49 T50 T51 T53 T54 T55 T56 T57 T58 T59 T60 T61 T62 T63 T64 T65 T66 T67 T68 T69 T71 T72 T73 T74 T75 T76 T77 T78 T79 T80 T81 T82 T83 T84 T85 T86 T88 T89 T90 T91 T92 T93 T94 T95 T96 T97 T98 T99 T100 T101 T102 T103 T104 T105 T106 T107 T108 T109 T110 T111 T112 T113 T114 T115 T116 T117 T118 T119 T120 T121 T122 T123 T124 T125 T126 T127 T128 T129 T130 T131 T133 T134 T135 T136 T137 T138 T139 T140 T141 T142 T144 T145 T146 T147 T148 T149 T150 T151 T152 T154 T156 T158 T159 T160 T161 T162 T163 T164 T165 T166 T167 T168 T169 T170 T171 T172 T173 T175 T176 T179 T180 T182 T185 T186 T191
theorem ok1 : ∃ d i z, Tryz.prog.underlying 1 = some d ∧ (T 1).k.fits d ∧ Tryz.prog.info? 1 = some i ∧ i.size = (T 1).size ∧ i.bytes = (T 1).bytes ∧ i.zero = some z ∧ z.cells.toList = (T 1).zero ∧ z = zeroVal (T 1) ∧ ((T 1).eq = true → eqB Tryz.prog 1 d = true) :=
 ⟨_, Tryz.t1, _, Tryz.underlying1, ⟨_, _, _, rfl⟩, Tryz.type1, rfl, rfl, rfl, rfl, rfl, fun h => by cases h⟩
theorem ok2 : ∃ d i z, Tryz.prog.underlying 2 = some d ∧ (T 2).k.fits d ∧ Tryz.prog.info? 2 = some i ∧ i.size = (T 2).size ∧ i.bytes = (T 2).bytes ∧ i.zero = some z ∧ z.cells.toList = (T 2).zero ∧ z = zeroVal (T 2) ∧ ((T 2).eq = true → eqB Tryz.prog 2 d = true) :=
 ⟨_, Tryz.t2, _, Tryz.underlying2, rfl, Tryz.type2, rfl, rfl, rfl, rfl, rfl, fun h => by cases h⟩
theorem ok3 : ∃ d i z, Tryz.prog.underlying 3 = some d ∧ (T 3).k.fits d ∧ Tryz.prog.info? 3 = some i ∧ i.size = (T 3).size ∧ i.bytes = (T 3).bytes ∧ i.zero = some z ∧ z.cells.toList = (T 3).zero ∧ z = zeroVal (T 3) ∧ ((T 3).eq = true → eqB Tryz.prog 3 d = true) :=
 ⟨_, Tryz.t3, _, Tryz.underlying3, rfl, Tryz.type3, rfl, rfl, rfl, rfl, rfl, fun h => by cases h⟩
theorem ok4 : ∃ d i z, Tryz.prog.underlying 4 = some d ∧ (T 4).k.fits d ∧ Tryz.prog.info? 4 = some i ∧ i.size = (T 4).size ∧ i.bytes = (T 4).bytes ∧ i.zero = some z ∧ z.cells.toList = (T 4).zero ∧ z = zeroVal (T 4) ∧ ((T 4).eq = true → eqB Tryz.prog 4 d = true) :=
 ⟨_, Tryz.t4, _, Tryz.underlying4, rfl, Tryz.type4, rfl, rfl, rfl, rfl, rfl, fun h => by cases h⟩
theorem ok5 : ∃ d i z, Tryz.prog.underlying 5 = some d ∧ (T 5).k.fits d ∧ Tryz.prog.info? 5 = some i ∧ i.size = (T 5).size ∧ i.bytes = (T 5).bytes ∧ i.zero = some z ∧ z.cells.toList = (T 5).zero ∧ z = zeroVal (T 5) ∧ ((T 5).eq = true → eqB Tryz.prog 5 d = true) :=
 ⟨_, Tryz.t5, _, Tryz.underlying5, rfl, Tryz.type5, rfl, rfl, rfl, rfl, rfl, fun h => by cases h⟩
theorem ok9 : ∃ d i z, Tryz.prog.underlying 9 = some d ∧ (T 9).k.fits d ∧ Tryz.prog.info? 9 = some i ∧ i.size = (T 9).size ∧ i.bytes = (T 9).bytes ∧ i.zero = some z ∧ z.cells.toList = (T 9).zero ∧ z = zeroVal (T 9) ∧ ((T 9).eq = true → eqB Tryz.prog 9 d = true) :=
 ⟨_, Tryz.t9, _, Tryz.underlying9, rfl, Tryz.type9, rfl, rfl, rfl, rfl, rfl, fun h => by cases h⟩
theorem ok12 : ∃ d i z, Tryz.prog.underlying 12 = some d ∧ (T 12).k.fits d ∧ Tryz.prog.info? 12 = some i ∧ i.size = (T 12).size ∧ i.bytes = (T 12).bytes ∧ i.zero = some z ∧ z.cells.toList = (T 12).zero ∧ z = zeroVal (T 12) ∧ ((T 12).eq = true → eqB Tryz.prog 12 d = true) :=
 ⟨_, Tryz.t12, _, Tryz.underlying12, rfl, Tryz.type12, rfl, rfl, rfl, rfl, rfl, fun h => by cases h⟩
theorem ok13 : ∃ d i z, Tryz.prog.underlying 13 = some d ∧ (T 13).k.fits d ∧ Tryz.prog.info? 13 = some i ∧ i.size = (T 13).size ∧ i.bytes = (T 13).bytes ∧ i.zero = some z ∧ z.cells.toList = (T 13).zero ∧ z = zeroVal (T 13) ∧ ((T 13).eq = true → eqB Tryz.prog 13 d = true) :=
 ⟨_, Tryz.t13, _, Tryz.underlying13, ⟨_, rfl, rfl⟩, Tryz.type13, rfl, rfl, rfl, rfl, rfl, fun h => by cases h⟩
theorem ok20 : ∃ d i z, Tryz.prog.underlying 20 = some d ∧ (T 20).k.fits d ∧ Tryz.prog.info? 20 = some i ∧ i.size = (T 20).size ∧ i.bytes = (T 20).bytes ∧ i.zero = some z ∧ z.cells.toList = (T 20).zero ∧ z = zeroVal (T 20) ∧ ((T 20).eq = true → eqB Tryz.prog 20 d = true) :=
 ⟨_, Tryz.t20, _, Tryz.underlying20, ⟨_, rfl⟩, Tryz.type20, rfl, rfl, rfl, rfl, rfl, fun h => by cases h⟩
theorem ok21 : ∃ d i z, Tryz.prog.underlying 21 = some d ∧ (T 21).k.fits d ∧ Tryz.prog.info? 21 = some i ∧ i.size = (T 21).size ∧ i.bytes = (T 21).bytes ∧ i.zero = some z ∧ z.cells.toList = (T 21).zero ∧ z = zeroVal (T 21) ∧ ((T 21).eq = true → eqB Tryz.prog 21 d = true) :=
 ⟨_, Tryz.t21, _, Tryz.underlying21, rfl, Tryz.type21, rfl, rfl, rfl, rfl, rfl, fun h => by cases h⟩
theorem ok22 : ∃ d i z, Tryz.prog.underlying 22 = some d ∧ (T 22).k.fits d ∧ Tryz.prog.info? 22 = some i ∧ i.size = (T 22).size ∧ i.bytes = (T 22).bytes ∧ i.zero = some z ∧ z.cells.toList = (T 22).zero ∧ z = zeroVal (T 22) ∧ ((T 22).eq = true → eqB Tryz.prog 22 d = true) :=
 ⟨_, Tryz.t22, _, Tryz.underlying22, rfl, Tryz.type22, rfl, rfl, rfl, rfl, rfl, fun _ => by kernel_rfl⟩
theorem ok23 : ∃ d i z, Tryz.prog.underlying 23 = some d ∧ (T 23).k.fits d ∧ Tryz.prog.info? 23 = some i ∧ i.size = (T 23).size ∧ i.bytes = (T 23).bytes ∧ i.zero = some z ∧ z.cells.toList = (T 23).zero ∧ z = zeroVal (T 23) ∧ ((T 23).eq = true → eqB Tryz.prog 23 d = true) :=
 ⟨_, Tryz.t23, _, Tryz.underlying23, rfl, Tryz.type23, rfl, rfl, rfl, rfl, rfl, fun h => by cases h⟩
theorem ok24 : ∃ d i z, Tryz.prog.underlying 24 = some d ∧ (T 24).k.fits d ∧ Tryz.prog.info? 24 = some i ∧ i.size = (T 24).size ∧ i.bytes = (T 24).bytes ∧ i.zero = some z ∧ z.cells.toList = (T 24).zero ∧ z = zeroVal (T 24) ∧ ((T 24).eq = true → eqB Tryz.prog 24 d = true) :=
 ⟨_, Tryz.t24, _, Tryz.underlying24, rfl, Tryz.type24, rfl, rfl, rfl, rfl, rfl, fun h => by cases h⟩
theorem ok25 : ∃ d i z, Tryz.prog.underlying 25 = some d ∧ (T 25).k.fits d ∧ Tryz.prog.info? 25 = some i ∧ i.size = (T 25).size ∧ i.bytes = (T 25).bytes ∧ i.zero = some z ∧ z.cells.toList = (T 25).zero ∧ z = zeroVal (T 25) ∧ ((T 25).eq = true → eqB Tryz.prog 25 d = true) :=
 ⟨_, Tryz.t25, _, Tryz.underlying25, rfl, Tryz.type25, rfl, rfl, rfl, rfl, rfl, fun h => by cases h⟩
theorem ok26 : ∃ d i z, Tryz.prog.underlying 26 = some d ∧ (T 26).k.fits d ∧ Tryz.prog.info? 26 = some i ∧ i.size = (T 26).size ∧ i.bytes = (T 26).bytes ∧ i.zero = some z ∧ z.cells.toList = (T 26).zero ∧ z = zeroVal (T 26) ∧ ((T 26).eq = true → eqB Tryz.prog 26 d = true) :=
 ⟨_, Tryz.t26, _, Tryz.underlying26, ⟨_, rfl, rfl⟩, Tryz.type26, rfl, rfl, rfl, rfl, rfl, fun h => by cases h⟩
theorem ok27 : ∃ d i z, Tryz.prog.underlying 27 = some d ∧ (T 27).k.fits d ∧ Tryz.prog.info? 27 = some i ∧ i.size = (T 27).size ∧ i.bytes = (T 27).bytes ∧ i.zero = some z ∧ z.cells.toList = (T 27).zero ∧ z = zeroVal (T 27) ∧ ((T 27).eq = true → eqB Tryz.prog 27 d = true) :=
 ⟨_, Tryz.t27, _, Tryz.underlying27, ⟨_, rfl, rfl⟩, Tryz.type27, rfl, rfl, rfl, rfl, rfl, fun h => by cases h⟩
theorem ok28 : ∃ d i z, Tryz.prog.underlying 28 = some d ∧ (T 28).k.fits d ∧ Tryz.prog.info? 28 = some i ∧ i.size = (T 28).size ∧ i.bytes = (T 28).bytes ∧ i.zero = some z ∧ z.cells.toList = (T 28).zero ∧ z = zeroVal (T 28) ∧ ((T 28).eq = true → eqB Tryz.prog 28 d = true) :=
 ⟨_, Tryz.t28, _, Tryz.underlying28, ⟨_, _, _, rfl⟩, Tryz.type28, rfl, rfl, rfl, rfl, rfl, fun h => by cases h⟩
theorem ok29 : ∃ d i z, Tryz.prog.underlying 29 = some d ∧ (T 29).k.fits d ∧ Tryz.prog.info? 29 = some i ∧ i.size = (T 29).size ∧ i.bytes = (T 29).bytes ∧ i.zero = some z ∧ z.cells.toList = (T 29).zero ∧ z = zeroVal (T 29) ∧ ((T 29).eq = true → eqB Tryz.prog 29 d = true) :=
 ⟨_, Tryz.t29, _, Tryz.underlying29, ⟨_, _, _, rfl⟩, Tryz.type29, rfl, rfl, rfl, rfl, rfl, fun h => by cases h⟩
theorem ok30 : ∃ d i z, Tryz.prog.underlying 30 = some d ∧ (T 30).k.fits d ∧ Tryz.prog.info? 30 = some i ∧ i.size = (T 30).size ∧ i.bytes = (T 30).bytes ∧ i.zero = some z ∧ z.cells.toList = (T 30).zero ∧ z = zeroVal (T 30) ∧ ((T 30).eq = true → eqB Tryz.prog 30 d = true) :=
 ⟨_, Tryz.t30, _, Tryz.underlying30, rfl, Tryz.type30, rfl, rfl, rfl, rfl, rfl, fun h => by cases h⟩
theorem ok32 : ∃ d i z, Tryz.prog.underlying 32 = some d ∧ (T 32).k.fits d ∧ Tryz.prog.info? 32 = some i ∧ i.size = (T 32).size ∧ i.bytes = (T 32).bytes ∧ i.zero = some z ∧ z.cells.toList = (T 32).zero ∧ z = zeroVal (T 32) ∧ ((T 32).eq = true → eqB Tryz.prog 32 d = true) :=
 ⟨_, Tryz.t32, _, Tryz.underlying32, ⟨_, _, _, rfl⟩, Tryz.type32, rfl, rfl, rfl, rfl, rfl, fun h => by cases h⟩
theorem ok33 : ∃ d i z, Tryz.prog.underlying 33 = some d ∧ (T 33).k.fits d ∧ Tryz.prog.info? 33 = some i ∧ i.size = (T 33).size ∧ i.bytes = (T 33).bytes ∧ i.zero = some z ∧ z.cells.toList = (T 33).zero ∧ z = zeroVal (T 33) ∧ ((T 33).eq = true → eqB Tryz.prog 33 d = true) :=
 ⟨_, Tryz.t33, _, Tryz.underlying33, ⟨_, _, _, rfl⟩, Tryz.type33, rfl, rfl, rfl, rfl, rfl, fun h => by cases h⟩
theorem ok34 : ∃ d i z, Tryz.prog.underlying 34 = some d ∧ (T 34).k.fits d ∧ Tryz.prog.info? 34 = some i ∧ i.size = (T 34).size ∧ i.bytes = (T 34).bytes ∧ i.zero = some z ∧ z.cells.toList = (T 34).zero ∧ z = zeroVal (T 34) ∧ ((T 34).eq = true → eqB Tryz.prog 34 d = true) :=
 ⟨_, Tryz.t34, _, Tryz.underlying34, ⟨_, _, _, rfl⟩, Tryz.type34, rfl, rfl, rfl, rfl, rfl, fun h => by cases h⟩
theorem ok35 : ∃ d i z, Tryz.prog.underlying 35 = some d ∧ (T 35).k.fits d ∧ Tryz.prog.info? 35 = some i ∧ i.size = (T 35).size ∧ i.bytes = (T 35).bytes ∧ i.zero = some z ∧ z.cells.toList = (T 35).zero ∧ z = zeroVal (T 35) ∧ ((T 35).eq = true → eqB Tryz.prog 35 d = true) :=
 ⟨_, Tryz.t35, _, Tryz.underlying35, ⟨_, _, _, rfl⟩, Tryz.type35, rfl, rfl, rfl, rfl, rfl, fun h => by cases h⟩
theorem ok36 : ∃ d i z, Tryz.prog.underlying 36 = some d ∧ (T 36).k.fits d ∧ Tryz.prog.info? 36 = some i ∧ i.size = (T 36).size ∧ i.bytes = (T 36).bytes ∧ i.zero = some z ∧ z.cells.toList = (T 36).zero ∧ z = zeroVal (T 36) ∧ ((T 36).eq = true → eqB Tryz.prog 36 d = true) :=
 ⟨_, Tryz.t36, _, Tryz.underlying36, ⟨_, _, _, rfl⟩, Tryz.type36, rfl, rfl, rfl, rfl, rfl, fun h => by cases h⟩
theorem ok37 : ∃ d i z, Tryz.prog.underlying 37 = some d ∧ (T 37).k.fits d ∧ Tryz.prog.info? 37 = some i ∧ i.size = (T 37).size ∧ i.bytes = (T 37).bytes ∧ i.zero = some z ∧ z.cells.toList = (T 37).zero ∧ z = zeroVal (T 37) ∧ ((T 37).eq = true → eqB Tryz.prog 37 d = true) :=
 ⟨_, Tryz.t37, _, Tryz.underlying37, ⟨_, _, _, rfl⟩, Tryz.type37, rfl, rfl, rfl, rfl, rfl, fun h => by cases h⟩
theorem ok38 : ∃ d i z, Tryz.prog.underlying 38 = some d ∧ (T 38).k.fits d ∧ Tryz.prog.info? 38 = some i ∧ i.size = (T 38).size ∧ i.bytes = (T 38).bytes ∧ i.zero = some z ∧ z.cells.toList = (T 38).zero ∧ z = zeroVal (T 38) ∧ ((T 38).eq = true → eqB Tryz.prog 38 d = true) :=
 ⟨_, Tryz.t38, _, Tryz.underlying38, ⟨_, _, _, rfl⟩, Tryz.type38, rfl, rfl, rfl, rfl, rfl, fun h => by cases h⟩
theorem ok39 : ∃ d i z, Tryz.prog.underlying 39 = some d ∧ (T 39).k.fits d ∧ Tryz.prog.info? 39 = some i ∧ i.size = (T 39).size ∧ i.bytes = (T 39).bytes ∧ i.zero = some z ∧ z.cells.toList = (T 39).zero ∧ z = zeroVal (T 39) ∧ ((T 39).eq = true → eqB Tryz.prog 39 d = true) :=
 ⟨_, Tryz.t39, _, Tryz.underlying39, rfl, Tryz.type39, rfl, rfl, rfl, rfl, rfl, fun h => by cases h⟩
theorem ok40 : ∃ d i z, Tryz.prog.underlying 40 = some d ∧ (T 40).k.fits d ∧ Tryz.prog.info? 40 = some i ∧ i.size = (T 40).size ∧ i.bytes = (T 40).bytes ∧ i.zero = some z ∧ z.cells.toList = (T 40).zero ∧ z = zeroVal (T 40) ∧ ((T 40).eq = true → eqB Tryz.prog 40 d = true) :=
 ⟨_, Tryz.t40, _, Tryz.underlying40, ⟨_, _, _, rfl⟩, Tryz.type40, rfl, rfl, rfl, rfl, rfl, fun h => by cases h⟩
theorem ok42 : ∃ d i z, Tryz.prog.underlying 42 = some d ∧ (T 42).k.fits d ∧ Tryz.prog.info? 42 = some i ∧ i.size = (T 42).size ∧ i.bytes = (T 42).bytes ∧ i.zero = some z ∧ z.cells.toList = (T 42).zero ∧ z = zeroVal (T 42) ∧ ((T 42).eq = true → eqB Tryz.prog 42 d = true) :=
 ⟨_, Tryz.t42, _, Tryz.underlying42, ⟨_, _, _, rfl⟩, Tryz.type42, rfl, rfl, rfl, rfl, rfl, fun h => by cases h⟩
theorem ok43 : ∃ d i z, Tryz.prog.underlying 43 = some d ∧ (T 43).k.fits d ∧ Tryz.prog.info? 43 = some i ∧ i.size = (T 43).size ∧ i.bytes = (T 43).bytes ∧ i.zero = some z ∧ z.cells.toList = (T 43).zero ∧ z = zeroVal (T 43) ∧ ((T 43).eq = true → eqB Tryz.prog 43 d = true) :=
 ⟨_, Tryz.t43, _, Tryz.underlying43, ⟨_, _, _, rfl⟩, Tryz.type43, rfl, rfl, rfl, rfl, rfl, fun h => by cases h⟩
theorem ok44 : ∃ d i z, Tryz.prog.underlying 44 = some d ∧ (T 44).k.fits d ∧ Tryz.prog.info? 44 = some i ∧ i.size = (T 44).size ∧ i.bytes = (T 44).bytes ∧ i.zero = some z ∧ z.cells.toList = (T 44).zero ∧ z = zeroVal (T 44) ∧ ((T 44).eq = true → eqB Tryz.prog 44 d = true) :=
 ⟨_, Tryz.t44, _, Tryz.underlying44, ⟨_, _, _, rfl⟩, Tryz.type44, rfl, rfl, rfl, rfl, rfl, fun h => by cases h⟩
theorem ok45 : ∃ d i z, Tryz.prog.underlying 45 = some d ∧ (T 45).k.fits d ∧ Tryz.prog.info? 45 = some i ∧ i.size = (T 45).size ∧ i.bytes = (T 45).bytes ∧ i.zero = some z ∧ z.cells.toList = (T 45).zero ∧ z = zeroVal (T 45) ∧ ((T 45).eq = true → eqB Tryz.prog 45 d = true) :=
 ⟨_, Tryz.t45, _, Tryz.underlying45, rfl, Tryz.type45, rfl, rfl, rfl, rfl, rfl, fun h => by cases h⟩
theorem ok46 : ∃ d i z, Tryz.prog.underlying 46 = some d ∧ (T 46).k.fits d ∧ Tryz.prog.info? 46 = some i ∧ i.size = (T 46).size ∧ i.bytes = (T 46).bytes ∧ i.zero = some z ∧ z.cells.toList = (T 46).zero ∧ z = zeroVal (T 46) ∧ ((T 46).eq = true → eqB Tryz.prog 46 d = true) :=
 ⟨_, Tryz.t46, _, Tryz.underlying46, ⟨_, _, _, rfl⟩, Tryz.type46, rfl, rfl, rfl, rfl, rfl, fun h => by cases h⟩
theorem ok47 : ∃ d i z, Tryz.prog.underlying 47 = some d ∧ (T 47).k.fits d ∧ Tryz.prog.info? 47 = some i ∧ i.size = (T 47).size ∧ i.bytes = (T 47).bytes ∧ i.zero = some z ∧ z.cells.toList = (T 47).zero ∧ z = zeroVal (T 47) ∧ ((T 47).eq = true → eqB Tryz.prog 47 d = true) :=
 ⟨_, Tryz.t47, _, Tryz.underlying47, ⟨_, _, _, rfl⟩, Tryz.type47, rfl, rfl, rfl, rfl, rfl, fun h => by cases h⟩
theorem ok48 : ∃ d i z, Tryz.prog.underlying 48 = some d ∧ (T 48).k.fits d ∧ Tryz.prog.info? 48 = some i ∧ i.size = (T 48).size ∧ i.bytes = (T 48).bytes ∧ i.zero = some z ∧ z.cells.toList = (T 48).zero ∧ z = zeroVal (T 48) ∧ ((T 48).eq = true → eqB Tryz.prog 48 d = true) :=
 ⟨_, Tryz.t48, _, Tryz.underlying48, ⟨_, _, _, rfl⟩, Tryz.type48, rfl, rfl, rfl, rfl, rfl, fun h => by cases h⟩
theorem ok49 : ∃ d i z, Tryz.prog.underlying 49 = some d ∧ (T 49).k.fits d ∧ Tryz.prog.info? 49 = some i ∧ i.size = (T 49).size ∧ i.bytes = (T 49).bytes ∧ i.zero = some z ∧ z.cells.toList = (T 49).zero ∧ z = zeroVal (T 49) ∧ ((T 49).eq = true → eqB Tryz.prog 49 d = true) :=
 ⟨_, Tryz.t49, _, Tryz.underlying49, ⟨_, _, _, rfl⟩, Tryz.type49, rfl, rfl, rfl, rfl, rfl, fun h => by cases h⟩
theorem ok50 : ∃ d i z, Tryz.prog.underlying 50 = some d ∧ (T 50).k.fits d ∧ Tryz.prog.info? 50 = some i ∧ i.size = (T 50).size ∧ i.bytes = (T 50).bytes ∧ i.zero = some z ∧ z.cells.toList = (T 50).zero ∧ z = zeroVal (T 50) ∧ ((T 50).eq = true → eqB Tryz.prog 50 d = true) :=
 ⟨_, Tryz.t50, _, Tryz.underlying50, ⟨_, _, _, rfl⟩, Tryz.type50, rfl, rfl, rfl, rfl, rfl, fun h => by cases h⟩
theorem ok51 : ∃ d i z, Tryz.prog.underlying 51 = some d ∧ (T 51).k.fits d ∧ Tryz.prog.info? 51 = some i ∧ i.size = (T 51).size ∧ i.bytes = (T 51).bytes ∧ i.zero = some z ∧ z.cells.toList = (T 51).zero ∧ z = zeroVal (T 51) ∧ ((T 51).eq = true → eqB Tryz.prog 51 d = true) :=
 ⟨_, Tryz.t51, _, Tryz.underlying51, ⟨_, _, _, rfl⟩, Tryz.type51, rfl, rfl, rfl, rfl, rfl, fun h => by cases h⟩
theorem ok53 : ∃ d i z, Tryz.prog.underlying 53 = some d ∧ (T 53).k.fits d ∧ Tryz.prog.info? 53 = some i ∧ i.size = (T 53).size ∧ i.bytes = (T 53).bytes ∧ i.zero = some z ∧ z.cells.toList = (T 53).zero ∧ z = zeroVal (T 53) ∧ ((T 53).eq = true → eqB Tryz.prog 53 d = true) :=
 ⟨_, Tryz.t53, _, Tryz.underlying53, ⟨_, _, _, rfl⟩, Tryz.type53, rfl, rfl, rfl, rfl, rfl, fun h => by cases h⟩
theorem ok54 : ∃ d i z, Tryz.prog.underlying 54 = some d ∧ (T 54).k.fits d ∧ Tryz.prog.info? 54 = some i ∧ i.size = (T 54).size ∧ i.bytes = (T 54).bytes ∧ i.zero = some z ∧ z.cells.toList = (T 54).zero ∧ z = zeroVal (T 54) ∧ ((T 54).eq = true → eqB Tryz.prog 54 d = true) :=
 ⟨_, Tryz.t54, _, Tryz.underlying54, ⟨_, _, _, rfl⟩, Tryz.type54, rfl, rfl, rfl, rfl, rfl, fun h => by cases h⟩
theorem ok55 : ∃ d i z, Tryz.prog.underlying 55 = some d ∧ (T 55).k.fits d ∧ Tryz.prog.info? 55 = some i ∧ i.size = (T 55).size ∧ i.bytes = (T 55).bytes ∧ i.zero = some z ∧ z.cells.toList = (T 55).zero ∧ z = zeroVal (T 55) ∧ ((T 55).eq = true → eqB Tryz.prog 55 d = true) :=
 ⟨_, Tryz.t55, _, Tryz.underlying55, ⟨_, _, _, rfl⟩, Tryz.type55, rfl, rfl, rfl, rfl, rfl, fun h => by cases h⟩
theorem ok56 : ∃ d i z, Tryz.prog.underlying 56 = some d ∧ (T 56).k.fits d ∧ Tryz.prog.info? 56 = some i ∧ i.size = (T 56).size ∧ i.bytes = (T 56).bytes ∧ i.zero = some z ∧ z.cells.toList = (T 56).zero ∧ z = zeroVal (T 56) ∧ ((T 56).eq = true → eqB Tryz.prog 56 d = true) :=
 ⟨_, Tryz.t56, _, Tryz.underlying56, rfl, Tryz.type56, rfl, rfl, rfl, rfl, rfl, fun h => by cases h⟩
theorem ok57 : ∃ d i z, Tryz.prog.underlying 57 = some d ∧ (T 57).k.fits d ∧ Tryz.prog.info? 57 = some i ∧ i.size = (T 57).size ∧ i.bytes = (T 57).bytes ∧ i.zero = some z ∧ z.cells.toList = (T 57).zero ∧ z = zeroVal (T 57) ∧ ((T 57).eq = true → eqB Tryz.prog 57 d = true) :=
 ⟨_, Tryz.t57, _, Tryz.underlying57, ⟨_, _, _, rfl⟩, Tryz.type57, rfl, rfl, rfl, rfl, rfl, fun h => by cases h⟩
theorem ok58 : ∃ d i z, Tryz.prog.underlying 58 = some d ∧ (T 58).k.fits d ∧ Tryz.prog.info? 58 = some i ∧ i.size = (T 58).size ∧ i.bytes = (T 58).bytes ∧ i.zero = some z ∧ z.cells.toList = (T 58).zero ∧ z = zeroVal (T 58) ∧ ((T 58).eq = true → eqB Tryz.prog 58 d = true) :=
 ⟨_, Tryz.t58, _, Tryz.underlying58, rfl, Tryz.type58, rfl, rfl, rfl, rfl, rfl, fun h => by cases h⟩
theorem ok59 : ∃ d i z, Tryz.prog.underlying 59 = some d ∧ (T 59).k.fits d ∧ Tryz.prog.info? 59 = some i ∧ i.size = (T 59).size ∧ i.bytes = (T 59).bytes ∧ i.zero = some z ∧ z.cells.toList = (T 59).zero ∧ z = zeroVal (T 59) ∧ ((T 59).eq = true → eqB Tryz.prog 59 d = true) :=
 ⟨_, Tryz.t59, _, Tryz.underlying59, ⟨_, rfl, rfl⟩, Tryz.type59, rfl, rfl, rfl, rfl, rfl, fun h => by cases h⟩
theorem ok60 : ∃ d i z, Tryz.prog.underlying 60 = some d ∧ (T 60).k.fits d ∧ Tryz.prog.info? 60 = some i ∧ i.size = (T 60).size ∧ i.bytes = (T 60).bytes ∧ i.zero = some z ∧ z.cells.toList = (T 60).zero ∧ z = zeroVal (T 60) ∧ ((T 60).eq = true → eqB Tryz.prog 60 d = true) :=
 ⟨_, Tryz.t60, _, Tryz.underlying60, ⟨_, rfl, rfl⟩, Tryz.type60, rfl, rfl, rfl, rfl, rfl, fun h => by cases h⟩
theorem ok61 : ∃ d i z, Tryz.prog.underlying 61 = some d ∧ (T 61).k.fits d ∧ Tryz.prog.info? 61 = some i ∧ i.size = (T 61).size ∧ i.bytes = (T 61).bytes ∧ i.zero = some z ∧ z.cells.toList = (T 61).zero ∧ z = zeroVal (T 61) ∧ ((T 61).eq = true → eqB Tryz.prog 61 d = true) :=
 ⟨_, Tryz.t61, _, Tryz.underlying61, ⟨_, _, _, rfl⟩, Tryz.type61, rfl, rfl, rfl, rfl, rfl, fun h => by cases h⟩
theorem ok62 : ∃ d i z, Tryz.prog.underlying 62 = some d ∧ (T 62).k.fits d ∧ Tryz.prog.info? 62 = some i ∧ i.size = (T 62).size ∧ i.bytes = (T 62).bytes ∧ i.zero = some z ∧ z.cells.toList = (T 62).zero ∧ z = zeroVal (T 62) ∧ ((T 62).eq = true → eqB Tryz.prog 62 d = true) :=
 ⟨_, Tryz.t62, _, Tryz.underlying62, ⟨_, _, _, rfl⟩, Tryz.type62, rfl, rfl, rfl, rfl, rfl, fun h => by cases h⟩
theorem ok63 : ∃ d i z, Tryz.prog.underlying 63 = some d ∧ (T 63).k.fits d ∧ Tryz.prog.info? 63 = some i ∧ i.size = (T 63).size ∧ i.bytes = (T 63).bytes ∧ i.zero = some z ∧ z.cells.toList = (T 63).zero ∧ z = zeroVal (T 63) ∧ ((T 63).eq = true → eqB Tryz.prog 63 d = true) :=
 ⟨_, Tryz.t63, _, Tryz.underlying63, ⟨_, _, _, rfl⟩, Tryz.type63, rfl, rfl, rfl, rfl, rfl, fun h => by cases h⟩
theorem ok64 : ∃ d i z, Tryz.prog.underlying 64 = some d ∧ (T 64).k.fits d ∧ Tryz.prog.info? 64 = some i ∧ i.size = (T 64).size ∧ i.bytes = (T 64).bytes ∧ i.zero = some z ∧ z.cells.toList = (T 64).zero ∧ z = zeroVal (T 64) ∧ ((T 64).eq = true → eqB Tryz.prog 64 d = true) :=
 ⟨_, Tryz.t64, _, Tryz.underlying64, ⟨_, _, _, rfl⟩, Tryz.type64, rfl, rfl, rfl, rfl, rfl, fun h => by cases h⟩
theorem ok65 : ∃ d i z, Tryz.prog.underlying 65 = some d ∧ (T 65).k.fits d ∧ Tryz.prog.info? 65 = some i ∧ i.size = (T 65).size ∧ i.bytes = (T 65).bytes ∧ i.zero = some z ∧ z.cells.toList = (T 65).zero ∧ z = zeroVal (T 65) ∧ ((T 65).eq = true → eqB Tryz.prog 65 d = true) :=
 ⟨_, Tryz.t65, _, Tryz.underlying65, ⟨_, _, _, rfl⟩, Tryz.type65, rfl, rfl, rfl, rfl, rfl, fun h => by cases h⟩
theorem ok66 : ∃ d i z, Tryz.prog.underlying 66 = some d ∧ (T 66).k.fits d ∧ Tryz.prog.info? 66 = some i ∧ i.size = (T 66).size ∧ i.bytes = (T 66).bytes ∧ i.zero = some z ∧ z.cells.toList = (T 66).zero ∧ z = zeroVal (T 66) ∧ ((T 66).eq = true → eqB Tryz.prog 66 d = true) :=
 ⟨_, Tryz.t66, _, Tryz.underlying66, ⟨_, _, _, rfl⟩, Tryz.type66, rfl, rfl, rfl, rfl, rfl, fun h => by cases h⟩
theorem ok67 : ∃ d i z, Tryz.prog.underlying 67 = some d ∧ (T 67).k.fits d ∧ Tryz.prog.info? 67 = some i ∧ i.size = (T 67).size ∧ i.bytes = (T 67).bytes ∧ i.zero = some z ∧ z.cells.toList = (T 67).zero ∧ z = zeroVal (T 67) ∧ ((T 67).eq = true → eqB Tryz.prog 67 d = true) :=
 ⟨_, Tryz.t67, _, Tryz.underlying67, ⟨_, _, _, rfl⟩, Tryz.type67, rfl, rfl, rfl, rfl, rfl, fun h => by cases h⟩
theorem ok68 : ∃ d i z, Tryz.prog.underlying 68 = some d ∧ (T 68).k.fits d ∧ Tryz.prog.info? 68 = some i ∧ i.size = (T 68).size ∧ i.bytes = (T 68).bytes ∧ i.zero = some z ∧ z.cells.toList = (T 68).zero ∧ z = zeroVal (T 68) ∧ ((T 68).eq = true → eqB Tryz.prog 68 d = true) :=
 ⟨_, Tryz.t68, _, Tryz.underlying68, ⟨_, _, _, rfl⟩, Tryz.type68, rfl, rfl, rfl, rfl, rfl, fun h => by cases h⟩
theorem ok69 : ∃ d i z, Tryz.prog.underlying 69 = some d ∧ (T 69).k.fits d ∧ Tryz.prog.info? 69 = some i ∧ i.size = (T 69).size ∧ i.bytes = (T 69).bytes ∧ i.zero = some z ∧ z.cells.toList = (T 69).zero ∧ z = zeroVal (T 69) ∧ ((T 69).eq = true → eqB Tryz.prog 69 d = true) :=
 ⟨_, Tryz.t69, _, Tryz.underlying69, ⟨_, _, _, rfl⟩, Tryz.type69, rfl, rfl, rfl, rfl, rfl, fun h => by cases h⟩
theorem ok71 : ∃ d i z, Tryz.prog.underlying 71 = some d ∧ (T 71).k.fits d ∧ Tryz.prog.info? 71 = some i ∧ i.size = (T 71).size ∧ i.bytes = (T 71).bytes ∧ i.zero = some z ∧ z.cells.toList = (T 71).zero ∧ z = zeroVal (T 71) ∧ ((T 71).eq = true → eqB Tryz.prog 71 d = true) :=
 ⟨_, Tryz.t71, _, Tryz.underlying71, ⟨_, _, _, rfl⟩, Tryz.type71, rfl, rfl, rfl, rfl, rfl, fun h => by cases h⟩
theorem ok72 : ∃ d i z, Tryz.prog.underlying 72 = some d ∧ (T 72).k.fits d ∧ Tryz.prog.info? 72 = some i ∧ i.size = (T 72).size ∧ i.bytes = (T 72).bytes ∧ i.zero = some z ∧ z.cells.toList = (T 72).zero ∧ z = zeroVal (T 72) ∧ ((T 72).eq = true → eqB Tryz.prog 72 d = true) :=
 ⟨_, Tryz.t72, _, Tryz.underlying72, ⟨_, _, _, rfl⟩, Tryz.type72, rfl, rfl, rfl, rfl, rfl, fun h => by cases h⟩
theorem ok73 : ∃ d i z, Tryz.prog.underlying 73 = some d ∧ (T 73).k.fits d ∧ Tryz.prog.info? 73 = some i ∧ i.size = (T 73).size ∧ i.bytes = (T 73).bytes ∧ i.zero = some z ∧ z.cells.toList = (T 73).zero ∧ z = zeroVal (T 73) ∧ ((T 73).eq = true → eqB Tryz.prog 73 d = true) :=
 ⟨_, Tryz.t73, _, Tryz.underlying73, ⟨_, _, _, rfl⟩, Tryz.type73, rfl, rfl, rfl, rfl, rfl, fun h => by cases h⟩
theorem ok74 : ∃ d i z, Tryz.prog.underlying 74 = some d ∧ (T 74).k.fits d ∧ Tryz.prog.info? 74 = some i ∧ i.size = (T 74).size ∧ i.bytes = (T 74).bytes ∧ i.zero = some z ∧ z.cells.toList = (T 74).zero ∧ z = zeroVal (T 74) ∧ ((T 74).eq = true → eqB Tryz.prog 74 d = true) :=
 ⟨_, Tryz.t74, _, Tryz.underlying74, ⟨_, _, _, rfl⟩, Tryz.type74, rfl, rfl, rfl, rfl, rfl, fun h => by cases h⟩
theorem ok75 : ∃ d i z, Tryz.prog.underlying 75 = some d ∧ (T 75).k.fits d ∧ Tryz.prog.info? 75 = some i ∧ i.size = (T 75).size ∧ i.bytes = (T 75).bytes ∧ i.zero = some z ∧ z.cells.toList = (T 75).zero ∧ z = zeroVal (T 75) ∧ ((T 75).eq = true → eqB Tryz.prog 75 d = true) :=
 ⟨_, Tryz.t75, _, Tryz.underlying75, ⟨_, _, _, rfl⟩, Tryz.type75, rfl, rfl, rfl, rfl, rfl, fun h => by cases h⟩
theorem ok76 : ∃ d i z, Tryz.prog.underlying 76 = some d ∧ (T 76).k.fits d ∧ Tryz.prog.info? 76 = some i ∧ i.size = (T 76).size ∧ i.bytes = (T 76).bytes ∧ i.zero = some z ∧ z.cells.toList = (T 76).zero ∧ z = zeroVal (T 76) ∧ ((T 76).eq = true → eqB Tryz.prog 76 d = true) :=
 ⟨_, Tryz.t76, _, Tryz.underlying76, rfl, Tryz.type76, rfl, rfl, rfl, rfl, rfl, fun h => by cases h⟩
theorem ok77 : ∃ d i z, Tryz.prog.underlying 77 = some d ∧ (T 77).k.fits d ∧ Tryz.prog.info? 77 = some i ∧ i.size = (T 77).size ∧ i.bytes = (T 77).bytes ∧ i.zero = some z ∧ z.cells.toList = (T 77).zero ∧ z = zeroVal (T 77) ∧ ((T 77).eq = true → eqB Tryz.prog 77 d = true) :=
 ⟨_, Tryz.t77, _, Tryz.underlying77, ⟨_, _, _, rfl⟩, Tryz.type77, rfl, rfl, rfl, rfl, rfl, fun h => by cases h⟩
theorem ok78 : ∃ d i z, Tryz.prog.underlying 78 = some d ∧ (T 78).k.fits d ∧ Tryz.prog.info? 78 = some i ∧ i.size = (T 78).size ∧ i.bytes = (T 78).bytes ∧ i.zero = some z ∧ z.cells.toList = (T 78).zero ∧ z = zeroVal (T 78) ∧ ((T 78).eq = true → eqB Tryz.prog 78 d = true) :=
 ⟨_, Tryz.t78, _, Tryz.underlying78, ⟨_, _, _, rfl⟩, Tryz.type78, rfl, rfl, rfl, rfl, rfl, fun h => by cases h⟩
theorem ok79 : ∃ d i z, Tryz.prog.underlying 79 = some d ∧ (T 79).k.fits d ∧ Tryz.prog.info? 79 = some i ∧ i.size = (T 79).size ∧ i.bytes = (T 79).bytes ∧ i.zero = some z ∧ z.cells.toList = (T 79).zero ∧ z = zeroVal (T 79) ∧ ((T 79).eq = true → eqB Tryz.prog 79 d = true) :=
 ⟨_, Tryz.t79, _, Tryz.underlying79, ⟨_, _, _, rfl⟩, Tryz.type79, rfl, rfl, rfl, rfl, rfl, fun h => by cases h⟩
theorem ok80 : ∃ d i z, Tryz.prog.underlying 80 = some d ∧ (T 80).k.fits d ∧ Tryz.prog.info? 80 = some i ∧ i.size = (T 80).size ∧ i.bytes = (T 80).bytes ∧ i.zero = some z ∧ z.cells.toList = (T 80).zero ∧ z = zeroVal (T 80) ∧ ((T 80).eq = true → eqB Tryz.prog 80 d = true) :=
 ⟨_, Tryz.t80, _, Tryz.underlying80, rfl, Tryz.type80, rfl, rfl, rfl, rfl, rfl, fun h => by cases h⟩
theorem ok81 : ∃ d i z, Tryz.prog.underlying 81 = some d ∧ (T 81).k.fits d ∧ Tryz.prog.info? 81 = some i ∧ i.size = (T 81).size ∧ i.bytes = (T 81).bytes ∧ i.zero = some z ∧ z.cells.toList = (T 81).zero ∧ z = zeroVal (T 81) ∧ ((T 81).eq = true → eqB Tryz.prog 81 d = true) :=
 ⟨_, Tryz.t81, _, Tryz.underlying81, ⟨_, _, _, rfl⟩, Tryz.type81, rfl, rfl, rfl, rfl, rfl, fun h => by cases h⟩
theorem ok82 : ∃ d i z, Tryz.prog.underlying 82 = some d ∧ (T 82).k.fits d ∧ Tryz.prog.info? 82 = some i ∧ i.size = (T 82).size ∧ i.bytes = (T 82).bytes ∧ i.zero = some z ∧ z.cells.toList = (T 82).zero ∧ z = zeroVal (T 82) ∧ ((T 82).eq = true → eqB Tryz.prog 82 d = true) :=
 ⟨_, Tryz.t82, _, Tryz.underlying82, ⟨_, _, _, rfl⟩, Tryz.type82, rfl, rfl, rfl, rfl, rfl, fun h => by cases h⟩
theorem ok83 : ∃ d i z, Tryz.prog.underlying 83 = some d ∧ (T 83).k.fits d ∧ Tryz.prog.info? 83 = some i ∧ i.size = (T 83).size ∧ i.bytes = (T 83).bytes ∧ i.zero = some z ∧ z.cells.toList = (T 83).zero ∧ z = zeroVal (T 83) ∧ ((T 83).eq = true → eqB Tryz.prog 83 d = true) :=
 ⟨_, Tryz.t83, _, Tryz.underlying83, rfl, Tryz.type83, rfl, rfl, rfl, rfl, rfl, fun h => by cases h⟩
theorem ok84 : ∃ d i z, Tryz.prog.underlying 84 = some d ∧ (T 84).k.fits d ∧ Tryz.prog.info? 84 = some i ∧ i.size = (T 84).size ∧ i.bytes = (T 84).bytes ∧ i.zero = some z ∧ z.cells.toList = (T 84).zero ∧ z = zeroVal (T 84) ∧ ((T 84).eq = true → eqB Tryz.prog 84 d = true) :=
 ⟨_, Tryz.t84, _, Tryz.underlying84, ⟨_, rfl, rfl⟩, Tryz.type84, rfl, rfl, rfl, rfl, rfl, fun h => by cases h⟩
theorem ok85 : ∃ d i z, Tryz.prog.underlying 85 = some d ∧ (T 85).k.fits d ∧ Tryz.prog.info? 85 = some i ∧ i.size = (T 85).size ∧ i.bytes = (T 85).bytes ∧ i.zero = some z ∧ z.cells.toList = (T 85).zero ∧ z = zeroVal (T 85) ∧ ((T 85).eq = true → eqB Tryz.prog 85 d = true) :=
 ⟨_, Tryz.t85, _, Tryz.underlying85, ⟨_, rfl, rfl⟩, Tryz.type85, rfl, rfl, rfl, rfl, rfl, fun h => by cases h⟩
theorem ok86 : ∃ d i z, Tryz.prog.underlying 86 = some d ∧ (T 86).k.fits d ∧ Tryz.prog.info? 86 = some i ∧ i.size = (T 86).size ∧ i.bytes = (T 86).bytes ∧ i.zero = some z ∧ z.cells.toList = (T 86).zero ∧ z = zeroVal (T 86) ∧ ((T 86).eq = true → eqB Tryz.prog 86 d = true) :=
 ⟨_, Tryz.t86, _, Tryz.underlying86, rfl, Tryz.type86, rfl, rfl, rfl, rfl, rfl, fun h => by cases h⟩
theorem ok88 : ∃ d i z, Tryz.prog.underlying 88 = some d ∧ (T 88).k.fits d ∧ Tryz.prog.info? 88 = some i ∧ i.size = (T 88).size ∧ i.bytes = (T 88).bytes ∧ i.zero = some z ∧ z.cells.toList = (T 88).zero ∧ z = zeroVal (T 88) ∧ ((T 88).eq = true → eqB Tryz.prog 88 d = true) :=
 ⟨_, Tryz.t88, _, Tryz.underlying88, ⟨_, _, _, rfl⟩, Tryz.type88, rfl, rfl, rfl, rfl, rfl, fun h => by cases h⟩
theorem ok89 : ∃ d i z, Tryz.prog.underlying 89 = some d ∧ (T 89).k.fits d ∧ Tryz.prog.info? 89 = some i ∧ i.size = (T 89).size ∧ i.bytes = (T 89).bytes ∧ i.zero = some z ∧ z.cells.toList = (T 89).zero ∧ z = zeroVal (T 89) ∧ ((T 89).eq = true → eqB Tryz.prog 89 d = true) :=
 ⟨_, Tryz.t89, _, Tryz.underlying89, ⟨_, _, _, rfl⟩, Tryz.type89, rfl, rfl, rfl, rfl, rfl, fun h => by cases h⟩
theorem ok90 : ∃ d i z, Tryz.prog.underlying 90 = some d ∧ (T 90).k.fits d ∧ Tryz.prog.info? 90 = some i ∧ i.size = (T 90).size ∧ i.bytes = (T 90).bytes ∧ i.zero = some z ∧ z.cells.toList = (T 90).zero ∧ z = zeroVal (T 90) ∧ ((T 90).eq = true → eqB Tryz.prog 90 d = true) :=
 ⟨_, Tryz.t90, _, Tryz.underlying90, ⟨_, _, _, rfl⟩, Tryz.type90, rfl, rfl, rfl, rfl, rfl, fun h => by cases h⟩
theorem ok91 : ∃ d i z, Tryz.prog.underlying 91 = some d ∧ (T 91).k.fits d ∧ Tryz.prog.info? 91 = some i ∧ i.size = (T 91).size ∧ i.bytes = (T 91).bytes ∧ i.zero = some z ∧ z.cells.toList = (T 91).zero ∧ z = zeroVal (T 91) ∧ ((T 91).eq = true → eqB Tryz.prog 91 d = true) :=
 ⟨_, Tryz.t91, _, Tryz.underlying91, ⟨_, _, _, rfl⟩, Tryz.type91, rfl, rfl, rfl, rfl, rfl, fun h => by cases h⟩
theorem ok92 : ∃ d i z, Tryz.prog.underlying 92 = some d ∧ (T 92).k.fits d ∧ Tryz.prog.info? 92 = some i ∧ i.size = (T 92).size ∧ i.bytes = (T 92).bytes ∧ i.zero = some z ∧ z.cells.toList = (T 92).zero ∧ z = zeroVal (T 92) ∧ ((T 92).eq = true → eqB Tryz.prog 92 d = true) :=
 ⟨_, Tryz.t92, _, Tryz.underlying92, ⟨_, _, _, rfl⟩, Tryz.type92, rfl, rfl, rfl, rfl, rfl, fun h => by cases h⟩
theorem ok93 : ∃ d i z, Tryz.prog.underlying 93 = some d ∧ (T 93).k.fits d ∧ Tryz.prog.info? 93 = some i ∧ i.size = (T 93).size ∧ i.bytes = (T 93).bytes ∧ i.zero = some z ∧ z.cells.toList = (T 93).zero ∧ z = zeroVal (T 93) ∧ ((T 93).eq = true → eqB Tryz.prog 93 d = true) :=
 ⟨_, Tryz.t93, _, Tryz.underlying93, ⟨_, _, _, rfl⟩, Tryz.type93, rfl, rfl, rfl, rfl, rfl, fun h => by cases h⟩
theorem ok94 : ∃ d i z, Tryz.prog.underlying 94 = some d ∧ (T 94).k.fits d ∧ Tryz.prog.info? 94 = some i ∧ i.size = (T 94).size ∧ i.bytes = (T 94).bytes ∧ i.zero = some z ∧ z.cells.toList = (T 94).zero ∧ z = zeroVal (T 94) ∧ ((T 94).eq = true → eqB Tryz.prog 94 d = true) :=
 ⟨_, Tryz.t94, _, Tryz.underlying94, ⟨_, _, _, rfl⟩, Tryz.type94, rfl, rfl, rfl, rfl, rfl, fun h => by cases h⟩
theorem ok95 : ∃ d i z, Tryz.prog.underlying 95 = some d ∧ (T 95).k.fits d ∧ Tryz.prog.info? 95 = some i ∧ i.size = (T 95).size ∧ i.bytes = (T 95).bytes ∧ i.zero = some z ∧ z.cells.toList = (T 95).zero ∧ z = zeroVal (T 95) ∧ ((T 95).eq = true → eqB Tryz.prog 95 d = true) :=
 ⟨_, Tryz.t95, _, Tryz.underlying95, rfl, Tryz.type95, rfl, rfl, rfl, rfl, rfl, fun h => by cases h⟩
theorem ok96 : ∃ d i z, Tryz.prog.underlying 96 = some d ∧ (T 96).k.fits d ∧ Tryz.prog.info? 96 = some i ∧ i.size = (T 96).size ∧ i.bytes = (T 96).bytes ∧ i.zero = some z ∧ z.cells.toList = (T 96).zero ∧ z = zeroVal (T 96) ∧ ((T 96).eq = true → eqB Tryz.prog 96 d = true) :=
 ⟨_, Tryz.t96, _, Tryz.underlying96, rfl, Tryz.type96, rfl, rfl, rfl, rfl, rfl, fun _ => by kernel_rfl⟩
theorem ok97 : ∃ d i z, Tryz.prog.underlying 97 = some d ∧ (T 97).k.fits d ∧ Tryz.prog.info? 97 = some i ∧ i.size = (T 97).size ∧ i.bytes = (T 97).bytes ∧ i.zero = some z ∧ z.cells.toList = (T 97).zero ∧ z = zeroVal (T 97) ∧ ((T 97).eq = true → eqB Tryz.prog 97 d = true) :=
 ⟨_, Tryz.t97, _, Tryz.underlying97, rfl, Tryz.type97, rfl, rfl, rfl, rfl, rfl, fun _ => by kernel_rfl⟩
theorem ok98 : ∃ d i z, Tryz.prog.underlying 98 = some d ∧ (T 98).k.fits d ∧ Tryz.prog.info? 98 = some i ∧ i.size = (T 98).size ∧ i.bytes = (T 98).bytes ∧ i.zero = some z ∧ z.cells.toList = (T 98).zero ∧ z = zeroVal (T 98) ∧ ((T 98).eq = true → eqB Tryz.prog 98 d = true) :=
 ⟨_, Tryz.t98, _, Tryz.underlying98, ⟨_, _, _, rfl⟩, Tryz.type98, rfl, rfl, rfl, rfl, rfl, fun h => by cases h⟩
theorem ok99 : ∃ d i z, Tryz.prog.underlying 99 = some d ∧ (T 99).k.fits d ∧ Tryz.prog.info? 99 = some i ∧ i.size = (T 99).size ∧ i.bytes = (T 99).bytes ∧ i.zero = some z ∧ z.cells.toList = (T 99).zero ∧ z = zeroVal (T 99) ∧ ((T 99).eq = true → eqB Tryz.prog 99 d = true) :=
 ⟨_, Tryz.t99, _, Tryz.underlying99, ⟨_, _, _, rfl⟩, Tryz.type99, rfl, rfl, rfl, rfl, rfl, fun h => by cases h⟩
theorem ok100 : ∃ d i z, Tryz.prog.underlying 100 = some d ∧ (T 100).k.fits d ∧ Tryz.prog.info? 100 = some i ∧ i.size = (T 100).size ∧ i.bytes = (T 100).bytes ∧ i.zero = some z ∧ z.cells.toList = (T 100).zero ∧ z = zeroVal (T 100) ∧ ((T 100).eq = true → eqB Tryz.prog 100 d = true) :=
 ⟨_, Tryz.t100, _, Tryz.underlying100, ⟨_, _, _, rfl⟩, Tryz.type100, rfl, rfl, rfl, rfl, rfl, fun h => by cases h⟩
theorem ok101 : ∃ d i z, Tryz.prog.underlying 101 = some d ∧ (T 101).k.fits d ∧ Tryz.prog.info? 101 = some i ∧ i.size = (T 101).size ∧ i.bytes = (T 101).bytes ∧ i.zero = some z ∧ z.cells.toList = (T 101).zero ∧ z = zeroVal (T 101) ∧ ((T 101).eq = true → eqB Tryz.prog 101 d = true) :=
 ⟨_, Tryz.t101, _, Tryz.underlying101, ⟨_, _, _, rfl⟩, Tryz.type101, rfl, rfl, rfl, rfl, rfl, fun h => by cases h⟩
theorem ok102 : ∃ d i z, Tryz.prog.underlying 102 = some d ∧ (T 102).k.fits d ∧ Tryz.prog.info? 102 = some i ∧ i.size = (T 102).size ∧ i.bytes = (T 102).bytes ∧ i.zero = some z ∧ z.cells.toList = (T 102).zero ∧ z = zeroVal (T 102) ∧ ((T 102).eq = true → eqB Tryz.prog 102 d = true) :=
 ⟨_, Tryz.t102, _, Tryz.underlying102, ⟨_, _, _, rfl⟩, Tryz.type102, rfl, rfl, rfl, rfl, rfl, fun h => by cases h⟩
theorem ok103 : ∃ d i z, Tryz.prog.underlying 103 = some d ∧ (T 103).k.fits d ∧ Tryz.prog.info? 103 = some i ∧ i.size = (T 103).size ∧ i.bytes = (T 103).bytes ∧ i.zero = some z ∧ z.cells.toList = (T 103).zero ∧ z = zeroVal (T 103) ∧ ((T 103).eq = true → eqB Tryz.prog 103 d = true) :=
 ⟨_, Tryz.t103, _, Tryz.underlying103, rfl, Tryz.type103, rfl, rfl, rfl, rfl, rfl, fun h => by cases h⟩
theorem ok104 : ∃ d i z, Tryz.prog.underlying 104 = some d ∧ (T 104).k.fits d ∧ Tryz.prog.info? 104 = some i ∧ i.size = (T 104).size ∧ i.bytes = (T 104).bytes ∧ i.zero = some z ∧ z.cells.toList = (T 104).zero ∧ z = zeroVal (T 104) ∧ ((T 104).eq = true → eqB Tryz.prog 104 d = true) :=
 ⟨_, Tryz.t104, _, Tryz.underlying104, ⟨_, _, _, rfl⟩, Tryz.type104, rfl, rfl, rfl, rfl, rfl, fun h => by cases h⟩
theorem ok105 : ∃ d i z, Tryz.prog.underlying 105 = some d ∧ (T 105).k.fits d ∧ Tryz.prog.info? 105 = some i ∧ i.size = (T 105).size ∧ i.bytes = (T 105).bytes ∧ i.zero = some z ∧ z.cells.toList = (T 105).zero ∧ z = zeroVal (T 105) ∧ ((T 105).eq = true → eqB Tryz.prog 105 d = true) :=
 ⟨_, Tryz.t105, _, Tryz.underlying105, rfl, Tryz.type105, rfl, rfl, rfl, rfl, rfl, fun h => by cases h⟩
theorem ok106 : ∃ d i z, Tryz.prog.underlying 106 = some d ∧ (T 106).k.fits d ∧ Tryz.prog.info? 106 = some i ∧ i.size = (T 106).size ∧ i.bytes = (T 106).bytes ∧ i.zero = some z ∧ z.cells.toList = (T 106).zero ∧ z = zeroVal (T 106) ∧ ((T 106).eq = true → eqB Tryz.prog 106 d = true) :=
 ⟨_, Tryz.t106, _, Tryz.underlying106, ⟨_, _, _, rfl⟩, Tryz.type106, rfl, rfl, rfl, rfl, rfl, fun h => by cases h⟩
theorem ok107 : ∃ d i z, Tryz.prog.underlying 107 = some d ∧ (T 107).k.fits d ∧ Tryz.prog.info? 107 = some i ∧ i.size = (T 107).size ∧ i.bytes = (T 107).bytes ∧ i.zero = some z ∧ z.cells.toList = (T 107).zero ∧ z = zeroVal (T 107) ∧ ((T 107).eq = true → eqB Tryz.prog 107 d = true) :=
 ⟨_, Tryz.t107, _, Tryz.underlying107, rfl, Tryz.type107, rfl, rfl, rfl, rfl, rfl, fun h => by cases h⟩
theorem ok108 : ∃ d i z, Tryz.prog.underlying 108 = some d ∧ (T 108).k.fits d ∧ Tryz.prog.info? 108 = some i ∧ i.size = (T 108).size ∧ i.bytes = (T 108).bytes ∧ i.zero = some z ∧ z.cells.toList = (T 108).zero ∧ z = zeroVal (T 108) ∧ ((T 108).eq = true → eqB Tryz.prog 108 d = true) :=
 ⟨_, Tryz.t108, _, Tryz.underlying108, rfl, Tryz.type108, rfl, rfl, rfl, rfl, rfl, fun h => by cases h⟩
theorem ok109 : ∃ d i z, Tryz.prog.underlying 109 = some d ∧ (T 109).k.fits d ∧ Tryz.prog.info? 109 = some i ∧ i.size = (T 109).size ∧ i.bytes = (T 109).bytes ∧ i.zero = some z ∧ z.cells.toList = (T 109).zero ∧ z = zeroVal (T 109) ∧ ((T 109).eq = true → eqB Tryz.prog 109 d = true) :=
 ⟨_, Tryz.t109, _, Tryz.underlying109, rfl, Tryz.type109, rfl, rfl, rfl, rfl, rfl, fun h => by cases h⟩
theorem ok110 : ∃ d i z, Tryz.prog.underlying 110 = some d ∧ (T 110).k.fits d ∧ Tryz.prog.info? 110 = some i ∧ i.size = (T 110).size ∧ i.bytes = (T 110).bytes ∧ i.zero = some z ∧ z.cells.toList = (T 110).zero ∧ z = zeroVal (T 110) ∧ ((T 110).eq = true → eqB Tryz.prog 110 d = true) :=
 ⟨_, Tryz.t110, _, Tryz.underlying110, rfl, Tryz.type110, rfl, rfl, rfl, rfl, rfl, fun h => by cases h⟩
theorem ok111 : ∃ d i z, Tryz.prog.underlying 111 = some d ∧ (T 111).k.fits d ∧ Tryz.prog.info? 111 = some i ∧ i.size = (T 111).size ∧ i.bytes = (T 111).bytes ∧ i.zero = some z ∧ z.cells.toList = (T 111).zero ∧ z = zeroVal (T 111) ∧ ((T 111).eq = true → eqB Tryz.prog 111 d = true) :=
 ⟨_, Tryz.t111, _, Tryz.underlying111, ⟨_, rfl, rfl⟩, Tryz.type111, rfl, rfl, rfl, rfl, rfl, fun h => by cases h⟩
theorem ok112 : ∃ d i z, Tryz.prog.underlying 112 = some d ∧ (T 112).k.fits d ∧ Tryz.prog.info? 112 = some i ∧ i.size = (T 112).size ∧ i.bytes = (T 112).bytes ∧ i.zero = some z ∧ z.cells.toList = (T 112).zero ∧ z = zeroVal (T 112) ∧ ((T 112).eq = true → eqB Tryz.prog 112 d = true) :=
 ⟨_, Tryz.t112, _, Tryz.underlying112, ⟨_, rfl, rfl⟩, Tryz.type112, rfl, rfl, rfl, rfl, rfl, fun h => by cases h⟩
theorem ok113 : ∃ d i z, Tryz.prog.underlying 113 = some d ∧ (T 113).k.fits d ∧ Tryz.prog.info? 113 = some i ∧ i.size = (T 113).size ∧ i.bytes = (T 113).bytes ∧ i.zero = some z ∧ z.cells.toList = (T 113).zero ∧ z = zeroVal (T 113) ∧ ((T 113).eq = true → eqB Tryz.prog 113 d = true) :=
 ⟨_, Tryz.t113, _, Tryz.underlying113, ⟨_, _, _, rfl⟩, Tryz.type113, rfl, rfl, rfl, rfl, rfl, fun h => by cases h⟩
theorem ok114 : ∃ d i z, Tryz.prog.underlying 114 = some d ∧ (T 114).k.fits d ∧ Tryz.prog.info? 114 = some i ∧ i.size = (T 114).size ∧ i.bytes = (T 114).bytes ∧ i.zero = some z ∧ z.cells.toList = (T 114).zero ∧ z = zeroVal (T 114) ∧ ((T 114).eq = true → eqB Tryz.prog 114 d = true) :=
 ⟨_, Tryz.t114, _, Tryz.underlying114, rfl, Tryz.type114, rfl, rfl, rfl, rfl, rfl, fun _ => by kernel_rfl⟩
theorem ok115 : ∃ d i z, Tryz.prog.underlying 115 = some d ∧ (T 115).k.fits d ∧ Tryz.prog.info? 115 = some i ∧ i.size = (T 115).size ∧ i.bytes = (T 115).bytes ∧ i.zero = some z ∧ z.cells.toList = (T 115).zero ∧ z = zeroVal (T 115) ∧ ((T 115).eq = true → eqB Tryz.prog 115 d = true) :=
 ⟨_, Tryz.t115, _, Tryz.underlying115, ⟨_, _, _, rfl⟩, Tryz.type115, rfl, rfl, rfl, rfl, rfl, fun h => by cases h⟩
theorem ok116 : ∃ d i z, Tryz.prog.underlying 116 = some d ∧ (T 116).k.fits d ∧ Tryz.prog.info? 116 = some i ∧ i.size = (T 116).size ∧ i.bytes = (T 116).bytes ∧ i.zero = some z ∧ z.cells.toList = (T 116).zero ∧ z = zeroVal (T 116) ∧ ((T 116).eq = true → eqB Tryz.prog 116 d = true) :=
 ⟨_, Tryz.t116, _, Tryz.underlying116, ⟨_, _, _, rfl⟩, Tryz.type116, rfl, rfl, rfl, rfl, rfl, fun h => by cases h⟩
theorem ok117 : ∃ d i z, Tryz.prog.underlying 117 = some d ∧ (T 117).k.fits d ∧ Tryz.prog.info? 117 = some i ∧ i.size = (T 117).size ∧ i.bytes = (T 117).bytes ∧ i.zero = some z ∧ z.cells.toList = (T 117).zero ∧ z = zeroVal (T 117) ∧ ((T 117).eq = true → eqB Tryz.prog 117 d = true) :=
 ⟨_, Tryz.t117, _, Tryz.underlying117, rfl, Tryz.type117, rfl, rfl, rfl, rfl, rfl, fun _ => by kernel_rfl⟩
theorem ok118 : ∃ d i z, Tryz.prog.underlying 118 = some d ∧ (T 118).k.fits d ∧ Tryz.prog.info? 118 = some i ∧ i.size = (T 118).size ∧ i.bytes = (T 118).bytes ∧ i.zero = some z ∧ z.cells.toList = (T 118).zero ∧ z = zeroVal (T 118) ∧ ((T 118).eq = true → eqB Tryz.prog 118 d = true) :=
 ⟨_, Tryz.t118, _, Tryz.underlying118, ⟨_, _, _, rfl⟩, Tryz.type118, rfl, rfl, rfl, rfl, rfl, fun h => by cases h⟩
theorem ok119 : ∃ d i z, Tryz.prog.underlying 119 = some d ∧ (T 119).k.fits d ∧ Tryz.prog.info? 119 = some i ∧ i.size = (T 119).size ∧ i.bytes = (T 119).bytes ∧ i.zero = some z ∧ z.cells.toList = (T 119).zero ∧ z = zeroVal (T 119) ∧ ((T 119).eq = true → eqB Tryz.prog 119 d = true) :=
 ⟨_, Tryz.t119, _, Tryz.underlying119, ⟨_, _, _, rfl⟩, Tryz.type119, rfl, rfl, rfl, rfl, rfl, fun h => by cases h⟩
theorem ok120 : ∃ d i z, Tryz.prog.underlying 120 = some d ∧ (T 120).k.fits d ∧ Tryz.prog.info? 120 = some i ∧ i.size = (T 120).size ∧ i.bytes = (T 120).bytes ∧ i.zero = some z ∧ z.cells.toList = (T 120).zero ∧ z = zeroVal (T 120) ∧ ((T 120).eq = true → eqB Tryz.prog 120 d = true) :=
 ⟨_, Tryz.t120, _, Tryz.underlying120, ⟨_, _, _, rfl⟩, Tryz.type120, rfl, rfl, rfl, rfl, rfl, fun h => by cases h⟩
theorem ok121 : ∃ d i z, Tryz.prog.underlying 121 = some d ∧ (T 121).k.fits d ∧ Tryz.prog.info? 121 = some i ∧ i.size = (T 121).size ∧ i.bytes = (T 121).bytes ∧ i.zero = some z ∧ z.cells.toList = (T 121).zero ∧ z = zeroVal (T 121) ∧ ((T 121).eq = true → eqB Tryz.prog 121 d = true) :=
 ⟨_, Tryz.t121, _, Tryz.underlying121, rfl, Tryz.type121, rfl, rfl, rfl, rfl, rfl, fun h => by cases h⟩
theorem ok122 : ∃ d i z, Tryz.prog.underlying 122 = some d ∧ (T 122).k.fits d ∧ Tryz.prog.info? 122 = some i ∧ i.size = (T 122).size ∧ i.bytes = (T 122).bytes ∧ i.zero = some z ∧ z.cells.toList = (T 122).zero ∧ z = zeroVal (T 122) ∧ ((T 122).eq = true → eqB Tryz.prog 122 d = true) :=
 ⟨_, Tryz.t122, _, Tryz.underlying122, ⟨_, _, _, rfl⟩, Tryz.type122, rfl, rfl, rfl, rfl, rfl, fun h => by cases h⟩
theorem ok123 : ∃ d i z, Tryz.prog.underlying 123 = some d ∧ (T 123).k.fits d ∧ Tryz.prog.info? 123 = some i ∧ i.size = (T 123).size ∧ i.bytes = (T 123).bytes ∧ i.zero = some z ∧ z.cells.toList = (T 123).zero ∧ z = zeroVal (T 123) ∧ ((T 123).eq = true → eqB Tryz.prog 123 d = true) :=
 ⟨_, Tryz.t123, _, Tryz.underlying123, ⟨_, _, _, rfl⟩, Tryz.type123, rfl, rfl, rfl, rfl, rfl, fun h => by cases h⟩
theorem ok124 : ∃ d i z, Tryz.prog.underlying 124 = some d ∧ (T 124).k.fits d ∧ Tryz.prog.info? 124 = some i ∧ i.size = (T 124).size ∧ i.bytes = (T 124).bytes ∧ i.zero = some z ∧ z.cells.toList = (T 124).zero ∧ z = zeroVal (T 124) ∧ ((T 124).eq = true → eqB Tryz.prog 124 d = true) :=
 ⟨_, Tryz.t124, _, Tryz.underlying124, ⟨_, _, _, rfl⟩, Tryz.type124, rfl, rfl, rfl, rfl, rfl, fun h => by cases h⟩
theorem ok125 : ∃ d i z, Tryz.prog.underlying 125 = some d ∧ (T 125).k.fits d ∧ Tryz.prog.info? 125 = some i ∧ i.size = (T 125).size ∧ i.bytes = (T 125).bytes ∧ i.zero = some z ∧ z.cells.toList = (T 125).zero ∧ z = zeroVal (T 125) ∧ ((T 125).eq = true → eqB Tryz.prog 125 d = true) :=
 ⟨_, Tryz.t125, _, Tryz.underlying125, ⟨_, _, _, rfl⟩, Tryz.type125, rfl, rfl, rfl, rfl, rfl, fun h => by cases h⟩
theorem ok126 : ∃ d i z, Tryz.prog.underlying 126 = some d ∧ (T 126).k.fits d ∧ Tryz.prog.info? 126 = some i ∧ i.size = (T 126).size ∧ i.bytes = (T 126).bytes ∧ i.zero = some z ∧ z.cells.toList = (T 126).zero ∧ z = zeroVal (T 126) ∧ ((T 126).eq = true → eqB Tryz.prog 126 d = true) :=
 ⟨_, Tryz.t126, _, Tryz.underlying126, ⟨_, _, _, rfl⟩, Tryz.type126, rfl, rfl, rfl, rfl, rfl, fun h => by cases h⟩
theorem ok127 : ∃ d i z, Tryz.prog.underlying 127 = some d ∧ (T 127).k.fits d ∧ Tryz.prog.info? 127 = some i ∧ i.size = (T 127).size ∧ i.bytes = (T 127).bytes ∧ i.zero = some z ∧ z.cells.toList = (T 127).zero ∧ z = zeroVal (T 127) ∧ ((T 127).eq = true → eqB Tryz.prog 127 d = true) :=
 ⟨_, Tryz.t127, _, Tryz.underlying127, ⟨_, _, _, rfl⟩, Tryz.type127, rfl, rfl, rfl, rfl, rfl, fun h => by cases h⟩
theorem ok128 : ∃ d i z, Tryz.prog.underlying 128 = some d ∧ (T 128).k.fits d ∧ Tryz.prog.info? 128 = some i ∧ i.size = (T 128).size ∧ i.bytes = (T 128).bytes ∧ i.zero = some z ∧ z.cells.toList = (T 128).zero ∧ z = zeroVal (T 128) ∧ ((T 128).eq = true → eqB Tryz.prog 128 d = true) :=
 ⟨_, Tryz.t128, _, Tryz.underlying128, ⟨_, _, _, rfl⟩, Tryz.type128, rfl, rfl, rfl, rfl, rfl, fun h => by cases h⟩
theorem ok129 : ∃ d i z, Tryz.prog.underlying 129 = some d ∧ (T 129).k.fits d ∧ Tryz.prog.info? 129 = some i ∧ i.size = (T 129).size ∧ i.bytes = (T 129).bytes ∧ i.zero = some z ∧ z.cells.toList = (T 129).zero ∧ z = zeroVal (T 129) ∧ ((T 129).eq = true → eqB Tryz.prog 129 d = true) :=
 ⟨_, Tryz.t129, _, Tryz.underlying129, ⟨_, _, _, rfl⟩, Tryz.type129, rfl, rfl, rfl, rfl, rfl, fun h => by cases h⟩
theorem ok130 : ∃ d i z, Tryz.prog.underlying 130 = some d ∧ (T 130).k.fits d ∧ Tryz.prog.info? 130 = some i ∧ i.size = (T 130).size ∧ i.bytes = (T 130).bytes ∧ i.zero = some z ∧ z.cells.toList = (T 130).zero ∧ z = zeroVal (T 130) ∧ ((T 130).eq = true → eqB Tryz.prog 130 d = true) :=
 ⟨_, Tryz.t130, _, Tryz.underlying130, ⟨_, _, _, rfl⟩, Tryz.type130, rfl, rfl, rfl, rfl, rfl, fun h => by cases h⟩
theorem ok131 : ∃ d i z, Tryz.prog.underlying 131 = some d ∧ (T 131).k.fits d ∧ Tryz.prog.info? 131 = some i ∧ i.size = (T 131).size ∧ i.bytes = (T 131).bytes ∧ i.zero = some z ∧ z.cells.toList = (T 131).zero ∧ z = zeroVal (T 131) ∧ ((T 131).eq = true → eqB Tryz.prog 131 d = true) :=
 ⟨_, Tryz.t131, _, Tryz.underlying131, ⟨_, _, _, rfl⟩, Tryz.type131, rfl, rfl, rfl, rfl, rfl, fun h => by cases h⟩
theorem ok133 : ∃ d i z, Tryz.prog.underlying 133 = some d ∧ (T 133).k.fits d ∧ Tryz.prog.info? 133 = some i ∧ i.size = (T 133).size ∧ i.bytes = (T 133).bytes ∧ i.zero = some z ∧ z.cells.toList = (T 133).zero ∧ z = zeroVal (T 133) ∧ ((T 133).eq = true → eqB Tryz.prog 133 d = true) :=
 ⟨_, Tryz.t133, _, Tryz.underlying133, ⟨_, _, _, rfl⟩, Tryz.type133, rfl, rfl, rfl, rfl, rfl, fun h => by cases h⟩
theorem ok134 : ∃ d i z, Tryz.prog.underlying 134 = some d ∧ (T 134).k.fits d ∧ Tryz.prog.info? 134 = some i ∧ i.size = (T 134).size ∧ i.bytes = (T 134).bytes ∧ i.zero = some z ∧ z.cells.toList = (T 134).zero ∧ z = zeroVal (T 134) ∧ ((T 134).eq = true → eqB Tryz.prog 134 d = true) :=
 ⟨_, Tryz.t134, _, Tryz.underlying134, ⟨_, _, _, rfl⟩, Tryz.type134, rfl, rfl, rfl, rfl, rfl, fun h => by cases h⟩
theorem ok135 : ∃ d i z, Tryz.prog.underlying 135 = some d ∧ (T 135).k.fits d ∧ Tryz.prog.info? 135 = some i ∧ i.size = (T 135).size ∧ i.bytes = (T 135).bytes ∧ i.zero = some z ∧ z.cells.toList = (T 135).zero ∧ z = zeroVal (T 135) ∧ ((T 135).eq = true → eqB Tryz.prog 135 d = true) :=
 ⟨_, Tryz.t135, _, Tryz.underlying135, ⟨_, _, _, rfl⟩, Tryz.type135, rfl, rfl, rfl, rfl, rfl, fun h => by cases h⟩
theorem ok136 : ∃ d i z, Tryz.prog.underlying 136 = some d ∧ (T 136).k.fits d ∧ Tryz.prog.info? 136 = some i ∧ i.size = (T 136).size ∧ i.bytes = (T 136).bytes ∧ i.zero = some z ∧ z.cells.toList = (T 136).zero ∧ z = zeroVal (T 136) ∧ ((T 136).eq = true → eqB Tryz.prog 136 d = true) :=
 ⟨_, Tryz.t136, _, Tryz.underlying136, ⟨_, _, _, rfl⟩, Tryz.type136, rfl, rfl, rfl, rfl, rfl, fun h => by cases h⟩
theorem ok137 : ∃ d i z, Tryz.prog.underlying 137 = some d ∧ (T 137).k.fits d ∧ Tryz.prog.info? 137 = some i ∧ i.size = (T 137).size ∧ i.bytes = (T 137).bytes ∧ i.zero = some z ∧ z.cells.toList = (T 137).zero ∧ z = zeroVal (T 137) ∧ ((T 137).eq = true → eqB Tryz.prog 137 d = true) :=
 ⟨_, Tryz.t137, _, Tryz.underlying137, ⟨_, _, _, rfl⟩, Tryz.type137, rfl, rfl, rfl, rfl, rfl, fun h => by cases h⟩
theorem ok138 : ∃ d i z, Tryz.prog.underlying 138 = some d ∧ (T 138).k.fits d ∧ Tryz.prog.info? 138 = some i ∧ i.size = (T 138).size ∧ i.bytes = (T 138).bytes ∧ i.zero = some z ∧ z.cells.toList = (T 138).zero ∧ z = zeroVal (T 138) ∧ ((T 138).eq = true → eqB Tryz.prog 138 d = true) :=
 ⟨_, Tryz.t138, _, Tryz.underlying138, ⟨_, rfl, rfl⟩, Tryz.type138, rfl, rfl, rfl, rfl, rfl, fun h => by cases h⟩
theorem ok139 : ∃ d i z, Tryz.prog.underlying 139 = some d ∧ (T 139).k.fits d ∧ Tryz.prog.info? 139 = some i ∧ i.size = (T 139).size ∧ i.bytes = (T 139).bytes ∧ i.zero = some z ∧ z.cells.toList = (T 139).zero ∧ z = zeroVal (T 139) ∧ ((T 139).eq = true → eqB Tryz.prog 139 d = true) :=
 ⟨_, Tryz.t139, _, Tryz.underlying139, ⟨_, rfl, rfl⟩, Tryz.type139, rfl, rfl, rfl, rfl, rfl, fun h => by cases h⟩
theorem ok140 : ∃ d i z, Tryz.prog.underlying 140 = some d ∧ (T 140).k.fits d ∧ Tryz.prog.info? 140 = some i ∧ i.size = (T 140).size ∧ i.bytes = (T 140).bytes ∧ i.zero = some z ∧ z.cells.toList = (T 140).zero ∧ z = zeroVal (T 140) ∧ ((T 140).eq = true → eqB Tryz.prog 140 d = true) :=
 ⟨_, Tryz.t140, _, Tryz.underlying140, ⟨_, _, _, rfl⟩, Tryz.type140, rfl, rfl, rfl, rfl, rfl, fun h => by cases h⟩
theorem ok141 : ∃ d i z, Tryz.prog.underlying 141 = some d ∧ (T 141).k.fits d ∧ Tryz.prog.info? 141 = some i ∧ i.size = (T 141).size ∧ i.bytes = (T 141).bytes ∧ i.zero = some z ∧ z.cells.toList = (T 141).zero ∧ z = zeroVal (T 141) ∧ ((T 141).eq = true → eqB Tryz.prog 141 d = true) :=
 ⟨_, Tryz.t141, _, Tryz.underlying141, ⟨_, _, _, rfl⟩, Tryz.type141, rfl, rfl, rfl, rfl, rfl, fun h => by cases h⟩
theorem ok142 : ∃ d i z, Tryz.prog.underlying 142 = some d ∧ (T 142).k.fits d ∧ Tryz.prog.info? 142 = some i ∧ i.size = (T 142).size ∧ i.bytes = (T 142).bytes ∧ i.zero = some z ∧ z.cells.toList = (T 142).zero ∧ z = zeroVal (T 142) ∧ ((T 142).eq = true → eqB Tryz.prog 142 d = true) :=
 ⟨_, Tryz.t142, _, Tryz.underlying142, rfl, Tryz.type142, rfl, rfl, rfl, rfl, rfl, fun h => by cases h⟩
theorem ok144 : ∃ d i z, Tryz.prog.underlying 144 = some d ∧ (T 144).k.fits d ∧ Tryz.prog.info? 144 = some i ∧ i.size = (T 144).size ∧ i.bytes = (T 144).bytes ∧ i.zero = some z ∧ z.cells.toList = (T 144).zero ∧ z = zeroVal (T 144) ∧ ((T 144).eq = true → eqB Tryz.prog 144 d = true) :=
 ⟨_, Tryz.t144, _, Tryz.underlying144, ⟨_, _, _, rfl⟩, Tryz.type144, rfl, rfl, rfl, rfl, rfl, fun h => by cases h⟩
theorem ok145 : ∃ d i z, Tryz.prog.underlying 145 = some d ∧ (T 145).k.fits d ∧ Tryz.prog.info? 145 = some i ∧ i.size = (T 145).size ∧ i.bytes = (T 145).bytes ∧ i.zero = some z ∧ z.cells.toList = (T 145).zero ∧ z = zeroVal (T 145) ∧ ((T 145).eq = true → eqB Tryz.prog 145 d = true) :=
 ⟨_, Tryz.t145, _, Tryz.underlying145, ⟨_, _, _, rfl⟩, Tryz.type145, rfl, rfl, rfl, rfl, rfl, fun h => by cases h⟩
theorem ok146 : ∃ d i z, Tryz.prog.underlying 146 = some d ∧ (T 146).k.fits d ∧ Tryz.prog.info? 146 = some i ∧ i.size = (T 146).size ∧ i.bytes = (T 146).bytes ∧ i.zero = some z ∧ z.cells.toList = (T 146).zero ∧ z = zeroVal (T 146) ∧ ((T 146).eq = true → eqB Tryz.prog 146 d = true) :=
 ⟨_, Tryz.t146, _, Tryz.underlying146, ⟨_, _, _, rfl⟩, Tryz.type146, rfl, rfl, rfl, rfl, rfl, fun h => by cases h⟩
theorem ok147 : ∃ d i z, Tryz.prog.underlying 147 = some d ∧ (T 147).k.fits d ∧ Tryz.prog.info? 147 = some i ∧ i.size = (T 147).size ∧ i.bytes = (T 147).bytes ∧ i.zero = some z ∧ z.cells.toList = (T 147).zero ∧ z = zeroVal (T 147) ∧ ((T 147).eq = true → eqB Tryz.prog 147 d = true) :=
 ⟨_, Tryz.t147, _, Tryz.underlying147, ⟨_, _, _, rfl⟩, Tryz.type147, rfl, rfl, rfl, rfl, rfl, fun h => by cases h⟩
theorem ok148 : ∃ d i z, Tryz.prog.underlying 148 = some d ∧ (T 148).k.fits d ∧ Tryz.prog.info? 148 = some i ∧ i.size = (T 148).size ∧ i.bytes = (T 148).bytes ∧ i.zero = some z ∧ z.cells.toList = (T 148).zero ∧ z = zeroVal (T 148) ∧ ((T 148).eq = true → eqB Tryz.prog 148 d = true) :=
 ⟨_, Tryz.t148, _, Tryz.underlying148, ⟨_, _, _, rfl⟩, Tryz.type148, rfl, rfl, rfl, rfl, rfl, fun h => by cases h⟩
theorem ok149 : ∃ d i z, Tryz.prog.underlying 149 = some d ∧ (T 149).k.fits d ∧ Tryz.prog.info? 149 = some i ∧ i.size = (T 149).size ∧ i.bytes = (T 149).bytes ∧ i.zero = some z ∧ z.cells.toList = (T 149).zero ∧ z = zeroVal (T 149) ∧ ((T 149).eq = true → eqB Tryz.prog 149 d = true) :=
 ⟨_, Tryz.t149, _, Tryz.underlying149, ⟨_, _, _, rfl⟩, Tryz.type149, rfl, rfl, rfl, rfl, rfl, fun h => by cases h⟩
theorem ok150 : ∃ d i z, Tryz.prog.underlying 150 = some d ∧ (T 150).k.fits d ∧ Tryz.prog.info? 150 = some i ∧ i.size = (T 150).size ∧ i.bytes = (T 150).bytes ∧ i.zero = some z ∧ z.cells.toList = (T 150).zero ∧ z = zeroVal (T 150) ∧ ((T 150).eq = true → eqB Tryz.prog 150 d = true) :=
 ⟨_, Tryz.t150, _, Tryz.underlying150, rfl, Tryz.type150, rfl, rfl, rfl, rfl, rfl, fun h => by cases h⟩
theorem ok151 : ∃ d i z, Tryz.prog.underlying 151 = some d ∧ (T 151).k.fits d ∧ Tryz.prog.info? 151 = some i ∧ i.size = (T 151).size ∧ i.bytes = (T 151).bytes ∧ i.zero = some z ∧ z.cells.toList = (T 151).zero ∧ z = zeroVal (T 151) ∧ ((T 151).eq = true → eqB Tryz.prog 151 d = true) :=
 ⟨_, Tryz.t151, _, Tryz.underlying151, ⟨_, _, _, rfl⟩, Tryz.type151, rfl, rfl, rfl, rfl, rfl, fun h => by cases h⟩
theorem ok152 : ∃ d i z, Tryz.prog.underlying 152 = some d ∧ (T 152).k.fits d ∧ Tryz.prog.info? 152 = some i ∧ i.size = (T 152).size ∧ i.bytes = (T 152).bytes ∧ i.zero = some z ∧ z.cells.toList = (T 152).zero ∧ z = zeroVal (T 152) ∧ ((T 152).eq = true → eqB Tryz.prog 152 d = true) :=
 ⟨_, Tryz.t152, _, Tryz.underlying152, rfl, Tryz.type152, rfl, rfl, rfl, rfl, rfl, fun h => by cases h⟩
theorem ok154 : ∃ d i z, Tryz.prog.underlying 154 = some d ∧ (T 154).k.fits d ∧ Tryz.prog.info? 154 = some i ∧ i.size = (T 154).size ∧ i.bytes = (T 154).bytes ∧ i.zero = some z ∧ z.cells.toList = (T 154).zero ∧ z = zeroVal (T 154) ∧ ((T 154).eq = true → eqB Tryz.prog 154 d = true) :=
 ⟨_, Tryz.t154, _, Tryz.underlying154, ⟨_, _, _, rfl⟩, Tryz.type154, rfl, rfl, rfl, rfl, rfl, fun h => by cases h⟩
theorem ok156 : ∃ d i z, Tryz.prog.underlying 156 = some d ∧ (T 156).k.fits d ∧ Tryz.prog.info? 156 = some i ∧ i.size = (T 156).size ∧ i.bytes = (T 156).bytes ∧ i.zero = some z ∧ z.cells.toList = (T 156).zero ∧ z = zeroVal (T 156) ∧ ((T 156).eq = true → eqB Tryz.prog 156 d = true) :=
 ⟨_, Tryz.t156, _, Tryz.underlying156, ⟨_, _, _, rfl⟩, Tryz.type156, rfl, rfl, rfl, rfl, rfl, fun h => by cases h⟩
theorem ok158 : ∃ d i z, Tryz.prog.underlying 158 = some d ∧ (T 158).k.fits d ∧ Tryz.prog.info? 158 = some i ∧ i.size = (T 158).size ∧ i.bytes = (T 158).bytes ∧ i.zero = some z ∧ z.cells.toList = (T 158).zero ∧ z = zeroVal (T 158) ∧ ((T 158).eq = true → eqB Tryz.prog 158 d = true) :=
 ⟨_, Tryz.t158, _, Tryz.underlying158, ⟨_, _, _, rfl⟩, Tryz.type158, rfl, rfl, rfl, rfl, rfl, fun h => by cases h⟩
theorem ok159 : ∃ d i z, Tryz.prog.underlying 159 = some d ∧ (T 159).k.fits d ∧ Tryz.prog.info? 159 = some i ∧ i.size = (T 159).size ∧ i.bytes = (T 159).bytes ∧ i.zero = some z ∧ z.cells.toList = (T 159).zero ∧ z = zeroVal (T 159) ∧ ((T 159).eq = true → eqB Tryz.prog 159 d = true) :=
 ⟨_, Tryz.t159, _, Tryz.underlying159, ⟨_, _, _, rfl⟩, Tryz.type159, rfl, rfl, rfl, rfl, rfl, fun h => by cases h⟩
theorem ok160 : ∃ d i z, Tryz.prog.underlying 160 = some d ∧ (T 160).k.fits d ∧ Tryz.prog.info? 160 = some i ∧ i.size = (T 160).size ∧ i.bytes = (T 160).bytes ∧ i.zero = some z ∧ z.cells.toList = (T 160).zero ∧ z = zeroVal (T 160) ∧ ((T 160).eq = true → eqB Tryz.prog 160 d = true) :=
 ⟨_, Tryz.t160, _, Tryz.underlying160, ⟨_, _, _, rfl⟩, Tryz.type160, rfl, rfl, rfl, rfl, rfl, fun h => by cases h⟩
theorem ok161 : ∃ d i z, Tryz.prog.underlying 161 = some d ∧ (T 161).k.fits d ∧ Tryz.prog.info? 161 = some i ∧ i.size = (T 161).size ∧ i.bytes = (T 161).bytes ∧ i.zero = some z ∧ z.cells.toList = (T 161).zero ∧ z = zeroVal (T 161) ∧ ((T 161).eq = true → eqB Tryz.prog 161 d = true) :=
 ⟨_, Tryz.t161, _, Tryz.underlying161, rfl, Tryz.type161, rfl, rfl, rfl, rfl, rfl, fun h => by cases h⟩
theorem ok162 : ∃ d i z, Tryz.prog.underlying 162 = some d ∧ (T 162).k.fits d ∧ Tryz.prog.info? 162 = some i ∧ i.size = (T 162).size ∧ i.bytes = (T 162).bytes ∧ i.zero = some z ∧ z.cells.toList = (T 162).zero ∧ z = zeroVal (T 162) ∧ ((T 162).eq = true → eqB Tryz.prog 162 d = true) :=
 ⟨_, Tryz.t162, _, Tryz.underlying162, ⟨_, _, _, rfl⟩, Tryz.type162, rfl, rfl, rfl, rfl, rfl, fun h => by cases h⟩
theorem ok163 : ∃ d i z, Tryz.prog.underlying 163 = some d ∧ (T 163).k.fits d ∧ Tryz.prog.info? 163 = some i ∧ i.size = (T 163).size ∧ i.bytes = (T 163).bytes ∧ i.zero = some z ∧ z.cells.toList = (T 163).zero ∧ z = zeroVal (T 163) ∧ ((T 163).eq = true → eqB Tryz.prog 163 d = true) :=
 ⟨_, Tryz.t163, _, Tryz.underlying163, rfl, Tryz.type163, rfl, rfl, rfl, rfl, rfl, fun h => by cases h⟩
theorem ok164 : ∃ d i z, Tryz.prog.underlying 164 = some d ∧ (T 164).k.fits d ∧ Tryz.prog.info? 164 = some i ∧ i.size = (T 164).size ∧ i.bytes = (T 164).bytes ∧ i.zero = some z ∧ z.cells.toList = (T 164).zero ∧ z = zeroVal (T 164) ∧ ((T 164).eq = true → eqB Tryz.prog 164 d = true) :=
 ⟨_, Tryz.t164, _, Tryz.underlying164, rfl, Tryz.type164, rfl, rfl, rfl, rfl, rfl, fun h => by cases h⟩
theorem ok165 : ∃ d i z, Tryz.prog.underlying 165 = some d ∧ (T 165).k.fits d ∧ Tryz.prog.info? 165 = some i ∧ i.size = (T 165).size ∧ i.bytes = (T 165).bytes ∧ i.zero = some z ∧ z.cells.toList = (T 165).zero ∧ z = zeroVal (T 165) ∧ ((T 165).eq = true → eqB Tryz.prog 165 d = true) :=
 ⟨_, Tryz.t165, _, Tryz.underlying165, ⟨_, _, _, rfl⟩, Tryz.type165, rfl, rfl, rfl, rfl, rfl, fun h => by cases h⟩
theorem ok166 : ∃ d i z, Tryz.prog.underlying 166 = some d ∧ (T 166).k.fits d ∧ Tryz.prog.info? 166 = some i ∧ i.size = (T 166).size ∧ i.bytes = (T 166).bytes ∧ i.zero = some z ∧ z.cells.toList = (T 166).zero ∧ z = zeroVal (T 166) ∧ ((T 166).eq = true → eqB Tryz.prog 166 d = true) :=
 ⟨_, Tryz.t166, _, Tryz.underlying166, ⟨_, _, _, rfl⟩, Tryz.type166, rfl, rfl, rfl, rfl, rfl, fun h => by cases h⟩
theorem ok167 : ∃ d i z, Tryz.prog.underlying 167 = some d ∧ (T 167).k.fits d ∧ Tryz.prog.info? 167 = some i ∧ i.size = (T 167).size ∧ i.bytes = (T 167).bytes ∧ i.zero = some z ∧ z.cells.toList = (T 167).zero ∧ z = zeroVal (T 167) ∧ ((T 167).eq = true → eqB Tryz.prog 167 d = true) :=
 ⟨_, Tryz.t167, _, Tryz.underlying167, ⟨_, _, _, rfl⟩, Tryz.type167, rfl, rfl, rfl, rfl, rfl, fun h => by cases h⟩
theorem ok168 : ∃ d i z, Tryz.prog.underlying 168 = some d ∧ (T 168).k.fits d ∧ Tryz.prog.info? 168 = some i ∧ i.size = (T 168).size ∧ i.bytes = (T 168).bytes ∧ i.zero = some z ∧ z.cells.toList = (T 168).zero ∧ z = zeroVal (T 168) ∧ ((T 168).eq = true → eqB Tryz.prog 168 d = true) :=
 ⟨_, Tryz.t168, _, Tryz.underlying168, rfl, Tryz.type168, rfl, rfl, rfl, rfl, rfl, fun h => by cases h⟩
theorem ok169 : ∃ d i z, Tryz.prog.underlying 169 = some d ∧ (T 169).k.fits d ∧ Tryz.prog.info? 169 = some i ∧ i.size = (T 169).size ∧ i.bytes = (T 169).bytes ∧ i.zero = some z ∧ z.cells.toList = (T 169).zero ∧ z = zeroVal (T 169) ∧ ((T 169).eq = true → eqB Tryz.prog 169 d = true) :=
 ⟨_, Tryz.t169, _, Tryz.underlying169, ⟨_, _, _, rfl⟩, Tryz.type169, rfl, rfl, rfl, rfl, rfl, fun h => by cases h⟩
theorem ok170 : ∃ d i z, Tryz.prog.underlying 170 = some d ∧ (T 170).k.fits d ∧ Tryz.prog.info? 170 = some i ∧ i.size = (T 170).size ∧ i.bytes = (T 170).bytes ∧ i.zero = some z ∧ z.cells.toList = (T 170).zero ∧ z = zeroVal (T 170) ∧ ((T 170).eq = true → eqB Tryz.prog 170 d = true) :=
 ⟨_, Tryz.t170, _, Tryz.underlying170, rfl, Tryz.type170, rfl, rfl, rfl, rfl, rfl, fun _ => by kernel_rfl⟩
theorem ok171 : ∃ d i z, Tryz.prog.underlying 171 = some d ∧ (T 171).k.fits d ∧ Tryz.prog.info? 171 = some i ∧ i.size = (T 171).size ∧ i.bytes = (T 171).bytes ∧ i.zero = some z ∧ z.cells.toList = (T 171).zero ∧ z = zeroVal (T 171) ∧ ((T 171).eq = true → eqB Tryz.prog 171 d = true) :=
 ⟨_, Tryz.t171, _, Tryz.underlying171, ⟨_, _, _, rfl⟩, Tryz.type171, rfl, rfl, rfl, rfl, rfl, fun h => by cases h⟩
theorem ok172 : ∃ d i z, Tryz.prog.underlying 172 = some d ∧ (T 172).k.fits d ∧ Tryz.prog.info? 172 = some i ∧ i.size = (T 172).size ∧ i.bytes = (T 172).bytes ∧ i.zero = some z ∧ z.cells.toList = (T 172).zero ∧ z = zeroVal (T 172) ∧ ((T 172).eq = true → eqB Tryz.prog 172 d = true) :=
 ⟨_, Tryz.t172, _, Tryz.underlying172, ⟨_, _, _, rfl⟩, Tryz.type172, rfl, rfl, rfl, rfl, rfl, fun h => by cases h⟩
theorem ok173 : ∃ d i z, Tryz.prog.underlying 173 = some d ∧ (T 173).k.fits d ∧ Tryz.prog.info? 173 = some i ∧ i.size = (T 173).size ∧ i.bytes = (T 173).bytes ∧ i.zero = some z ∧ z.cells.toList = (T 173).zero ∧ z = zeroVal (T 173) ∧ ((T 173).eq = true → eqB Tryz.prog 173 d = true) :=
 ⟨_, Tryz.t173, _, Tryz.underlying173, rfl, Tryz.type173, rfl, rfl, rfl, rfl, rfl, fun h => by cases h⟩
theorem ok175 : ∃ d i z, Tryz.prog.underlying 175 = some d ∧ (T 175).k.fits d ∧ Tryz.prog.info? 175 = some i ∧ i.size = (T 175).size ∧ i.bytes = (T 175).bytes ∧ i.zero = some z ∧ z.cells.toList = (T 175).zero ∧ z = zeroVal (T 175) ∧ ((T 175).eq = true → eqB Tryz.prog 175 d = true) :=
 ⟨_, Tryz.t175, _, Tryz.underlying175, ⟨_, _, _, rfl⟩, Tryz.type175, rfl, rfl, rfl, rfl, rfl, fun h => by cases h⟩
theorem ok176 : ∃ d i z, Tryz.prog.underlying 176 = some d ∧ (T 176).k.fits d ∧ Tryz.prog.info? 176 = some i ∧ i.size = (T 176).size ∧ i.bytes = (T 176).bytes ∧ i.zero = some z ∧ z.cells.toList = (T 176).zero ∧ z = zeroVal (T 176) ∧ ((T 176).eq = true → eqB Tryz.prog 176 d = true) :=
 ⟨_, Tryz.t176, _, Tryz.underlying176, ⟨_, _, _, rfl⟩, Tryz.type176, rfl, rfl, rfl, rfl, rfl, fun h => by cases h⟩
theorem ok179 : ∃ d i z, Tryz.prog.underlying 179 = some d ∧ (T 179).k.fits d ∧ Tryz.prog.info? 179 = some i ∧ i.size = (T 179).size ∧ i.bytes = (T 179).bytes ∧ i.zero = some z ∧ z.cells.toList = (T 179).zero ∧ z = zeroVal (T 179) ∧ ((T 179).eq = true → eqB Tryz.prog 179 d = true) :=
 ⟨_, Tryz.t179, _, Tryz.underlying179, rfl, Tryz.type179, rfl, rfl, rfl, rfl, rfl, fun h => by cases h⟩
theorem ok180 : ∃ d i z, Tryz.prog.underlying 180 = some d ∧ (T 180).k.fits d ∧ Tryz.prog.info? 180 = some i ∧ i.size = (T 180).size ∧ i.bytes = (T 180).bytes ∧ i.zero = some z ∧ z.cells.toList = (T 180).zero ∧ z = zeroVal (T 180) ∧ ((T 180).eq = true → eqB Tryz.prog 180 d = true) :=
 ⟨_, Tryz.t180, _, Tryz.underlying180, ⟨_, rfl, rfl⟩, Tryz.type180, rfl, rfl, rfl, rfl, rfl, fun h => by cases h⟩
theorem ok182 : ∃ d i z, Tryz.prog.underlying 182 = some d ∧ (T 182).k.fits d ∧ Tryz.prog.info? 182 = some i ∧ i.size = (T 182).size ∧ i.bytes = (T 182).bytes ∧ i.zero = some z ∧ z.cells.toList = (T 182).zero ∧ z = zeroVal (T 182) ∧ ((T 182).eq = true → eqB Tryz.prog 182 d = true) :=
 ⟨_, Tryz.t182, _, Tryz.underlying182, ⟨_, _, _, rfl⟩, Tryz.type182, rfl, rfl, rfl, rfl, rfl, fun h => by cases h⟩
theorem ok185 : ∃ d i z, Tryz.prog.underlying 185 = some d ∧ (T 185).k.fits d ∧ Tryz.prog.info? 185 = some i ∧ i.size = (T 185).size ∧ i.bytes = (T 185).bytes ∧ i.zero = some z ∧ z.cells.toList = (T 185).zero ∧ z = zeroVal (T 185) ∧ ((T 185).eq = true → eqB Tryz.prog 185 d = true) :=
 ⟨_, Tryz.t185, _, Tryz.underlying185, ⟨_, _, _, rfl⟩, Tryz.type185, rfl, rfl, rfl, rfl, rfl, fun h => by cases h⟩
theorem ok186 : ∃ d i z, Tryz.prog.underlying 186 = some d ∧ (T 186).k.fits d ∧ Tryz.prog.info? 186 = some i ∧ i.size = (T 186).size ∧ i.bytes = (T 186).bytes ∧ i.zero = some z ∧ z.cells.toList = (T 186).zero ∧ z = zeroVal (T 186) ∧ ((T 186).eq = true → eqB Tryz.prog 186 d = true) :=
 ⟨_, Tryz.t186, _, Tryz.underlying186, rfl, Tryz.type186, rfl, rfl, rfl, rfl, rfl, fun h => by cases h⟩
theorem ok191 : ∃ d i z, Tryz.prog.underlying 191 = some d ∧ (T 191).k.fits d ∧ Tryz.prog.info? 191 = some i ∧ i.size = (T 191).size ∧ i.bytes = (T 191).bytes ∧ i.zero = some z ∧ z.cells.toList = (T 191).zero ∧ z = zeroVal (T 191) ∧ ((T 191).eq = true → eqB Tryz.prog 191 d = true) :=
 ⟨_, Tryz.t191, _, Tryz.underlying191, ⟨_, _, _, rfl⟩, Tryz.type191, rfl, rfl, rfl, rfl, rfl, fun h => by cases h⟩
theorem tok : TyOk Tryz.prog T := by
 intro t
 by_cases h : (T t).k = .none
 ·exact .inl h
 ·refine .inr ?_
  unfold T at h
  split at h
  ·exact ok1
  ·exact ok2
  ·exact ok3
  ·exact ok4
  ·exact ok5
  ·exact ok9
  ·exact ok12
  ·exact ok13
  ·exact ok20
  ·exact ok21
  ·exact ok22
  ·exact ok23
  ·exact ok24
  ·exact ok25
  ·exact ok26
  ·exact ok27
  ·exact ok28
  ·exact ok29
  ·exact ok30
  ·exact ok32
  ·exact ok33
  ·exact ok34
  ·exact ok35
  ·exact ok36
  ·exact ok37
  ·exact ok38
  ·exact ok39
  ·exact ok40
  ·exact ok42
  ·exact ok43
  ·exact ok44
  ·exact ok45
  ·exact ok46
  ·exact ok47
  ·exact ok48
  ·exact ok49
  ·exact ok50
  ·exact ok51
  ·exact ok53
  ·exact ok54
  ·exact ok55
  ·exact ok56
  ·exact ok57
  ·exact ok58
  ·exact ok59
  ·exact ok60
  ·exact ok61
  ·exact ok62
  ·exact ok63
  ·exact ok64
  ·exact ok65
  ·exact ok66
  ·exact ok67
  ·exact ok68
  ·exact ok69
  ·exact ok71
  ·exact ok72
  ·exact ok73
  ·exact ok74
  ·exact ok75
  ·exact ok76
  ·exact ok77
  ·exact ok78
  ·exact ok79
  ·exact ok80
  ·exact ok81
  ·exact ok82
  ·exact ok83
  ·exact ok84
  ·exact ok85
  ·exact ok86
  ·exact ok88
  ·exact ok89
  ·exact ok90
  ·exact ok91
  ·exact ok92
  ·exact ok93
  ·exact ok94
  ·exact ok95
  ·exact ok96
  ·exact ok97
  ·exact ok98
  ·exact ok99
  ·exact ok100
  ·exact ok101
  ·exact ok102
  ·exact ok103
  ·exact ok104
  ·exact ok105
  ·exact ok106
  ·exact ok107
  ·exact ok108
  ·exact ok109
  ·exact ok110
  ·exact ok111
  ·exact ok112
  ·exact ok113
  ·exact ok114
  ·exact ok115
  ·exact ok116
  ·exact ok117
  ·exact ok118
  ·exact ok119
  ·exact ok120
  ·exact ok121
  ·exact ok122
  ·exact ok123
  ·exact ok124
  ·exact ok125
  ·exact ok126
  ·exact ok127
  ·exact ok128
  ·exact ok129
  ·exact ok130
  ·exact ok131
  ·exact ok133
  ·exact ok134
  ·exact ok135
  ·exact ok136
  ·exact ok137
  ·exact ok138
  ·exact ok139
  ·exact ok140
  ·exact ok141
  ·exact ok142
  ·exact ok144
  ·exact ok145
  ·exact ok146
  ·exact ok147
  ·exact ok148
  ·exact ok149
  ·exact ok150
  ·exact ok151
  ·exact ok152
  ·exact ok154
  ·exact ok156
  ·exact ok158
  ·exact ok159
  ·exact ok160
  ·exact ok161
  ·exact ok162
  ·exact ok163
  ·exact ok164
  ·exact ok165
  ·exact ok166
  ·exact ok167
  ·exact ok168
  ·exact ok169
  ·exact ok170
  ·exact ok171
  ·exact ok172
  ·exact ok173
  ·exact ok175
  ·exact ok176
  ·exact ok179
  ·exact ok180
  ·exact ok182
  ·exact ok185
  ·exact ok186
  ·exact ok191
  ·exact absurd rfl h
theorem mixed : Tryz.prog.follows .mixedOrders = true := by kernel_rfl
theorem seatok : SeatOk Tryz.prog := ⟨by kernel_rfl, by kernel_rfl, by kernel_rfl⟩
end Go.Proofs.YtefkpedhbijhkaaGreatDoor
namespace Go.Proofs.YtefkpedhbijhkaaGreatDoor
open Go Go.V Go.Proofs
section bare
variable {α : Type}
def numb : Nat → List α → List (α × Int)
 | _, [] => []
 | i, k :: ks => (k, (i : Int)) :: numb (i + 1) ks
theorem numb_len (i : Nat) (ks : List α) : (numb i ks).length = ks.length := by
 induction ks generalizing i with
 | nil => rfl
 | cons k ks ih => simp [numb, ih]
theorem numb_nil : numb 0 ([] : List α) = [] := rfl
end bare
section plain
variable {α : Type} [DecidableEq α]
def place (ks : List α) (k : α) : Option Nat := ks.findIdx? (fun x => decide (k = x))
theorem aget_numb (k : α) : ∀ (ks : List α) (i : Nat), aget k (numb i ks) = Option.map (fun n : Nat => ((i + n : Nat) : Int)) (place ks k)
 | [], i => rfl
 | x :: ks, i => by
  simp only [numb, aget, place, List.findIdx?_cons]
  by_cases h : k = x
  ·simp [h]
  ·have ih := aget_numb k ks (i + 1)
   unfold place at ih
   rw [if_neg h, ih]
   simp only [h, decide_false, Bool.false_eq_true, if_false, Option.map_map]
   congr 1; funext n; simp; omega
theorem aget_numb0 (k : α) (ks : List α) : aget k (numb 0 ks) = Option.map (fun n : Nat => (n : Int)) (place ks k) := by
 rw [aget_numb]; cases place ks k <;> simp
theorem place_none {k : α} {ks : List α} (h : place ks k = none) : k ∉ ks := fun hk => by
 unfold place at h
 rw [List.findIdx?_eq_none_iff] at h
 have := h k hk
 simp at this
theorem place_some {k : α} {ks : List α} {n : Nat} (h : place ks k = some n) : n < ks.length ∧ ks[n]? = some k := by
 unfold place at h
 rw [List.findIdx?_eq_some_iff_getElem] at h
 obtain ⟨h1, h2, _⟩ := h
 exact ⟨h1, by rw [List.getElem?_eq_getElem h1]; simpa using (of_decide_eq_true h2).symm⟩
theorem place_mem {k : α} {ks : List α} (h : k ∈ ks) : ∃ n, place ks k = some n := by
 cases hp : place ks k with
 | none => exact absurd h (place_none hp)
 | some n => exact ⟨n, rfl⟩
theorem place_no {k : α} {ks : List α} (h : k ∉ ks) : place ks k = none := by
 cases hp : place ks k with
 | none => rfl
 | some n =>
  obtain ⟨h1, h2⟩ := place_some hp
  rw [List.getElem?_eq_getElem h1, Option.some.injEq] at h2
  exact absurd (h2 ▸ List.getElem_mem h1) h
theorem place_get {ks : List α} (hnd : ks.Nodup) {n : Nat} (h : n < ks.length) : place ks ks[n] = some n := by
 obtain ⟨m, hm⟩ := place_mem (List.getElem_mem h)
 obtain ⟨h1, h2⟩ := place_some hm
 rw [List.getElem?_eq_getElem h1, Option.some.injEq] at h2
 rw [hm, (List.getElem_inj hnd).1 h2]
theorem place_app {k : α} {ks : List α} (h : k ∈ ks) (ls : List α) : place (ks ++ ls) k = place ks k := by
 obtain ⟨n, hn⟩ := place_mem h
 rw [hn]
 unfold place at hn ⊢
 rw [List.findIdx?_append, hn]; rfl
theorem place_end {k : α} {ks : List α} (h : k ∉ ks) : place (ks ++ [k]) k = some ks.length := by
 have hn := place_no h
 unfold place at hn ⊢
 rw [List.findIdx?_append, hn]
 simp
theorem aput_numb (k : α) : ∀ (ks : List α) (i : Nat), k ∉ ks → aput k ((i + ks.length : Nat) : Int) (numb i ks) = numb i (ks ++ [k])
 | [], i, _ => by simp [numb, aput]
 | x :: ks, i, h => by
  simp only [List.mem_cons, not_or] at h
  have ih := aput_numb k ks (i + 1) h.2
  simp only [numb, aput, List.cons_append, if_neg h.1, List.length_cons]
  rw [show i + (ks.length + 1) = i + 1 + ks.length by omega, ih]
theorem aput_numb0 (k : α) (ks : List α) (h : k ∉ ks) : aput k (ks.length : Int) (numb 0 ks) = numb 0 (ks ++ [k]) := by
 have := aput_numb k ks 0 h
 rwa [Nat.zero_add] at this
theorem aput_new {k : α} {ks : List α} (h : place ks k = none) : aput k (ks.length : Int) (numb 0 ks) = numb 0 (ks ++ [k]) := aput_numb0 k ks (place_none h)
theorem place_nil (k : α) : place [] k = none := rfl
def findF (ks : List α) (k : α) : Int := match place ks k with | some n => (n : Int) | none => -1
theorem findF_some {ks : List α} {k : α} {n : Nat} (h : place ks k = some n) : findF ks k = n := by unfold findF; rw [h]
theorem findF_none {ks : List α} {k : α} (h : place ks k = none) : findF ks k = -1 := by unfold findF; rw [h]
theorem findF_app {k : α} {ks : List α} (h : k ∈ ks) (ls : List α) : findF (ks ++ ls) k = findF ks k := by unfold findF; rw [place_app h]
theorem findF_inj {ks : List α} {x y : α} (hx : x ∈ ks) (hy : y ∈ ks) (h : findF ks x = findF ks y) : x = y := by
 obtain ⟨a, ha⟩ := place_mem hx
 obtain ⟨b, hb⟩ := place_mem hy
 rw [findF_some ha, findF_some hb] at h
 obtain rfl : a = b := by omega
 have := (place_some ha).2.symm.trans (place_some hb).2
 exact Option.some.inj this
def tabO (l : List α) : List α := l.foldl (fun t k => if k ∈ t then t else t ++ [k]) []
theorem tabO_nil : tabO ([] : List α) = [] := rfl
theorem tabO_snoc (l : List α) (k : α) : tabO (l ++ [k]) = if k ∈ tabO l then tabO l else tabO l ++ [k] := by unfold tabO; rw [List.foldl_append]; rfl
theorem snocI {P : List α → Prop} (h0 : P []) (h1 : ∀ l k, P l → P (l ++ [k])) (l : List α) : P l := by
 have : ∀ n, ∀ l : List α, l.length = n → P l := fun n => by
  induction n with
  | zero => intro l hl; rw [List.eq_nil_of_length_eq_zero hl]; exact h0
  | succ n ih =>
   intro l hl
   have hne : l ≠ [] := fun e => by rw [e] at hl; cases hl
   rw [← List.dropLast_concat_getLast hne]
   exact h1 _ _ (ih _ (by simp [hl]))
 exact this _ l rfl
theorem mem_tabO {x : α} (l : List α) : x ∈ tabO l ↔ x ∈ l := by
 induction l using snocI with
 | h0 => simp [tabO_nil]
 | h1 l k ih =>
  rw [tabO_snoc, List.mem_append, List.mem_singleton]
  split
  ·rename_i hk
   rw [ih]
   constructor
   ·exact .inl
   ·rintro (h | h)
    ·exact h
    ·subst h; exact ih.1 hk
  ·rw [List.mem_append, ih, List.mem_singleton]
theorem tabO_nodup (l : List α) : (tabO l).Nodup := by
 induction l using snocI with
 | h0 => exact List.nodup_nil
 | h1 l k ih =>
  rw [tabO_snoc]
  split
  ·exact ih
  ·rename_i hk
   exact List.nodup_append.2 ⟨ih, by simp, fun a ha b hb => by
    obtain rfl : b = k := by simpa using hb
    intro e; subst e; exact hk ha⟩
theorem tabO_len (l : List α) : (tabO l).length ≤ l.length := by
 induction l using snocI with
 | h0 => exact Nat.le_refl _
 | h1 l k ih =>
  rw [tabO_snoc]
  split <;> simp <;> omega
def nums (l : List α) : List Int := l.map fun k => findF (tabO l) k
theorem nums_len (l : List α) : (nums l).length = l.length := by simp [nums]
theorem nums_nil : nums ([] : List α) = [] := rfl
theorem nums_snoc (l : List α) (k : α) : nums (l ++ [k]) = nums l ++ [findF (tabO (l ++ [k])) k] := by
 unfold nums
 rw [List.map_append, List.map_singleton]
 congr 1
 refine List.map_congr_left fun x hx => ?_
 rw [tabO_snoc]
 split
 ·rfl
 ·exact findF_app ((mem_tabO l).2 hx) _
theorem nums_old {l : List α} {k : α} {n : Nat} (h : place (tabO l) k = some n) : tabO (l ++ [k]) = tabO l ∧ nums (l ++ [k]) = nums l ++ [(n : Int)] := by
 obtain ⟨h1, h2⟩ := place_some h
 rw [List.getElem?_eq_getElem h1, Option.some.injEq] at h2
 have hm : k ∈ tabO l := h2 ▸ List.getElem_mem h1
 have : tabO (l ++ [k]) = tabO l := by rw [tabO_snoc, if_pos hm]
 exact ⟨this, by rw [nums_snoc, this, findF_some h]⟩
theorem nums_new {l : List α} {k : α} (h : place (tabO l) k = none) : tabO (l ++ [k]) = tabO l ++ [k] ∧ nums (l ++ [k]) = nums l ++ [((tabO l).length : Int)] := by
 have hm := place_none h
 have : tabO (l ++ [k]) = tabO l ++ [k] := by rw [tabO_snoc, if_neg hm]
 exact ⟨this, by rw [nums_snoc, this, findF_some (place_end hm)]⟩
theorem nums_get {l : List α} {i : Nat} (h : i < l.length) : (nums l)[i]'(by rw [nums_len]; exact h) = findF (tabO l) l[i] := by simp [nums]
theorem nums_iff {l : List α} {i j : Nat} (hi : i < l.length) (hj : j < l.length) : (nums l)[i]'(by rw [nums_len]; exact hi) = (nums l)[j]'(by rw [nums_len]; exact hj) ↔ l[i] = l[j] := by
 rw [nums_get hi, nums_get hj]
 constructor
 ·exact findF_inj ((mem_tabO l).2 (List.getElem_mem hi)) ((mem_tabO l).2 (List.getElem_mem hj))
 ·intro h; rw [h]
theorem nums_bound {l : List α} {n : Int} (h : n ∈ nums l) : 0 ≤ n ∧ n < (tabO l).length := by
 unfold nums at h
 rw [List.mem_map] at h
 obtain ⟨x, hx, rfl⟩ := h
 obtain ⟨m, hm⟩ := place_mem ((mem_tabO l).2 hx)
 rw [findF_some hm]
 have := (place_some hm).1
 omega
end plain
section two
variable {α β : Type} [DecidableEq α] [DecidableEq β]
theorem mem_take_iff {l : List α} {k : Nat} (hk : k < l.length) : l[k] ∈ l.take k ↔ ∃ j : Nat, ∃ h : j < k, l[j]'(Nat.lt_trans h hk) = l[k] := by
 rw [List.mem_iff_getElem]
 constructor
 ·rintro ⟨j, hj, e⟩
  rw [List.length_take] at hj
  rw [List.getElem_take] at e
  exact ⟨j, by omega, e⟩
 ·rintro ⟨j, hj, e⟩
  exact ⟨j, by rw [List.length_take]; omega, by rw [List.getElem_take]; exact e⟩
theorem nums_same {l : List α} {m : List β} (hlen : l.length = m.length) (h : ∀ i j (hi : i < l.length) (hj : j < l.length), l[i] = l[j] ↔ m[i]'(hlen ▸ hi) = m[j]'(hlen ▸ hj)) : nums l = nums m := by
 have key : ∀ k, k ≤ l.length → nums (l.take k) = nums (m.take k) ∧ (tabO (l.take k)).length = (tabO (m.take k)).length := fun k => by
  induction k with
  | zero => intro _; simp [nums_nil, tabO_nil]
  | succ k ih =>
   intro hk
   have hk' : k < l.length := by omega
   have hkm : k < m.length := by omega
   obtain ⟨h1, h2⟩ := ih (by omega)
   rw [List.take_succ_eq_append_getElem hk', List.take_succ_eq_append_getElem hkm]
   by_cases hmem : l[k] ∈ l.take k
   ·obtain ⟨j, hj, e⟩ := (mem_take_iff hk').1 hmem
    have e2 := (h j k (by omega) hk').1 e
    have hmem2 : m[k] ∈ m.take k := (mem_take_iff hkm).2 ⟨j, hj, e2⟩
    obtain ⟨n, hn⟩ := place_mem ((mem_tabO _).2 hmem)
    obtain ⟨n', hn'⟩ := place_mem ((mem_tabO _).2 hmem2)
    rw [(nums_old hn).1, (nums_old hn).2, (nums_old hn').1, (nums_old hn').2, h1, h2]
    refine ⟨?_, rfl⟩
    have g1 := nums_get (l := l.take k) (i := j) (by rw [List.length_take]; omega)
    have g2 := nums_get (l := m.take k) (i := j) (by rw [List.length_take]; omega)
    rw [List.getElem_take, e, findF_some hn] at g1
    rw [List.getElem_take, e2, findF_some hn'] at g2
    have g3 : (nums (l.take k))[j]'(by rw [nums_len, List.length_take]; omega) = (nums (m.take k))[j]'(by rw [nums_len, List.length_take]; omega) := by simp only [h1]
    rw [g1, g2] at g3
    rw [g3]
   ·have hmem2 : m[k] ∉ m.take k := fun hm => by
     obtain ⟨j, hj, e⟩ := (mem_take_iff hkm).1 hm
     exact hmem ((mem_take_iff hk').2 ⟨j, hj, (h j k (by omega) hk').2 e⟩)
    have p1 := place_no fun hm => hmem ((mem_tabO _).1 hm)
    have p2 := place_no fun hm => hmem2 ((mem_tabO _).1 hm)
    rw [(nums_new p1).1, (nums_new p1).2, (nums_new p2).1, (nums_new p2).2, h1, h2]
    exact ⟨rfl, by simp [h2]⟩
 have := (key l.length (Nat.le_refl _)).1
 rwa [List.take_length, hlen, List.take_length] at this
end two
end Go.Proofs.YtefkpedhbijhkaaGreatDoor
namespace Go.Proofs.YtefkpedhbijhkaaGreatDoor
open Go Go.V Go.Proofs
end Go.Proofs.YtefkpedhbijhkaaGreatDoor
namespace Go.Proofs.YtefkpedhbijhkaaGreatDoor
open Go Go.V Go.Proofs
end Go.Proofs.YtefkpedhbijhkaaGreatDoor
namespace Go.Proofs.YtefkpedhbijhkaaGreatDoor
open Go Go.V Go.Proofs
theorem same17_t (xs ys : List Int) (hlen : xs.length ≤ 2000000) {G : PHeap} {H : Heap} {R : Value → PHeap → Heap → Prop} {v w : Value} (hv : Sl G (Value.int .i64) v xs) (hw : Sl G (Value.int .i64) w ys) (hR : R (.bool (decide (xs = ys))) G H) : FnT Tryz.prog 24 [v, w] G H R := by
 obtain ⟨a, cap, rfl, hrow, hcap⟩ := hv
 obtain ⟨a', cap', rfl, hrow', hcap'⟩ := hw
 refine FnT.body tok [0, 1, 4, 5, 10, 14, 25] Tryz.func24 rfl (by kernel_rfl) (by kernel_rfl) (by show _ ≤ 26; simp) fun hsep => ?_
 rw [Tryz.results24]
 have hsE := hsep
 try simp only [zzs] at hsE
 repeat (obtain ⟨hsx, hsE⟩ := hsE)
 repeat' first
  | (with_reducible first | refine Nx.go ?_ | refine Bk.go (fun _ => ?_) fun _ => ?_)
  | (with_reducible refine NewB.mk2 fun nb hnb hnb1 hnb2 => ?_; try simp only [zzn] at hnb2)
  | simp -dsimp -implicitDefEqProofs (disch := first | assumption | (simp only [zzm]; done) | omega | (try with_reducible refine Row.adr (by assumption) ?_); simp only [zzl, Nat.reduceAdd]; first | done | omega) only [go_sem, ↓reduceIte, seval]
 ·rename_i hne
  have hxy : xs.length = ys.length := by omega
  refine Tri.loopU tok [0, 1, 4, 5, 10, 14, 25] (by kernel_rfl) [0, 1, 4, 5] (fun n G' l H' => ∃ i : Nat, i + n = xs.length ∧ (∀ j (h : j < xs.length), j < i → xs[j] = ys[j]) ∧ G' = G ∧ H' = H ∧ l = [(0, .slice a xs.length cap), (1, .slice a' ys.length cap'), (4, .bool false), (5, .int .i64 i)]) (xs.length) (Upd.now ?_) ?_
  ·exact ⟨0, by omega, fun j _ h => by omega, rfl, rfl, rfl⟩
  ·rintro n G' l H' hle hs ⟨i, hi, hno, rfl, rfl, rfl⟩
   by_cases hil : i < xs.length
   ·have hil' : i < ys.length := by omega
    repeat' first
     | (with_reducible first | refine Nx.go ?_ | refine Bk.go (fun _ => ?_) fun _ => ?_)
     | (with_reducible refine NewB.mk2 fun nb hnb hnb1 hnb2 => ?_; try simp only [zzn] at hnb2)
     | with_reducible refine Tri.drawH tok mixed [0, 1, 4, 5, 10, 14, 25] 6 [3, 7] (.op 0 .plain (.op 1 .plain (.op 2 .plain (.op 3 .held (.op 4 .plain (.op 5 .plain (.op 6 .plain (.op 7 .held (.op 8 .plain .nil))))))))) (by kernel_rfl) [0, 1] ?_
     | simp -dsimp -implicitDefEqProofs (disch := first | assumption | (simp only [zzm]; done) | omega | (try with_reducible refine Row.adr (by assumption) ?_); simp only [zzl, Nat.reduceAdd]; first | done | omega) only [go_sem, ↓reduceIte, seval, Row.obj hrow, Row.obj hrow', List.getElem_map]
    ·rename_i he
     exact Upd.now ⟨n - 1, by omega, i + 1, by omega, fun j h hj => by
      by_cases e : j = i
      ·subst e; exact he
      ·exact hno j h (by omega), rfl, rfl, rfl⟩
    ·rename_i he
     rw [decide_eq_false (fun e => he (by subst e; rfl))] at hR
     all_goals refine Upd.finL ?_ hR ?_
     any_goals (intro fsum; first | exact Nat.le_refl _ | (simp only [zzq]; omega))
     rfl
   ·obtain rfl : i = xs.length := by omega
    rw [decide_eq_true (List.ext_getElem hxy fun j h1 h2 => hno j h1 h1)] at hR
    repeat' first
     | (with_reducible first | refine Nx.go ?_ | refine Bk.go (fun _ => ?_) fun _ => ?_)
     | (with_reducible refine NewB.mk2 fun nb hnb hnb1 hnb2 => ?_; try simp only [zzn] at hnb2)
     | simp -dsimp -implicitDefEqProofs (disch := first | assumption | (simp only [zzm]; done) | omega | (try with_reducible refine Row.adr (by assumption) ?_); simp only [zzl, Nat.reduceAdd]; first | done | omega) only [go_sem, ↓reduceIte, seval]
    all_goals refine Upd.finL ?_ hR ?_
    any_goals (intro fsum; first | exact Nat.le_refl _ | (simp only [zzq]; omega))
    rfl
 ·rename_i hne
  rw [decide_eq_false (fun e => hne (by subst e; rfl))] at hR
  all_goals refine Upd.finL ?_ hR ?_
  any_goals (intro fsum; first | exact Nat.le_refl _ | (simp only [zzq]; omega))
  rfl
theorem equal_t (xs ys : List Int) (hlen : xs.length ≤ 2000000) {G : PHeap} {H : Heap} {R : Value → PHeap → Heap → Prop} {v w : Value} (hv : Sl G (Value.int .i64) v xs) (hw : Sl G (Value.int .i64) w ys) (hR : R (.bool (decide (xs = ys))) G H) : FnT Tryz.prog 35 [v, w] G H R := by
 obtain ⟨a, cap, rfl, hrow, hcap⟩ := hv
 obtain ⟨a', cap', rfl, hrow', hcap'⟩ := hw
 refine FnT.body tok [0, 1, 4, 5, 10, 12, 13, 14, 24] Tryz.func35 rfl (by kernel_rfl) (by kernel_rfl) (by show _ ≤ 26; simp) fun hsep => ?_
 rw [Tryz.results35]
 have hsE := hsep
 try simp only [zzs] at hsE
 repeat (obtain ⟨hsx, hsE⟩ := hsE)
 repeat' first
  | (with_reducible first | refine Nx.go ?_ | refine Bk.go (fun _ => ?_) fun _ => ?_)
  | (with_reducible refine NewB.mk2 fun nb hnb hnb1 hnb2 => ?_; try simp only [zzn] at hnb2)
  | simp -dsimp -implicitDefEqProofs (disch := first | assumption | (simp only [zzm]; done) | omega | (try with_reducible refine Row.adr (by assumption) ?_); simp only [zzl, Nat.reduceAdd]; first | done | omega) only [go_sem, ↓reduceIte, seval]
 ·rename_i hne
  have hxy : xs.length = ys.length := by omega
  refine Tri.loopU tok [0, 1, 4, 5, 10, 12, 13, 14, 24] (by kernel_rfl) [0, 1, 4, 12, 13] (fun n G' l H' => ∃ i : Nat, i + n = xs.length ∧ (∀ j (h : j < xs.length), j < i → xs[j] = ys[j]) ∧ G' = G ∧ H' = H ∧ l = [(0, .slice a xs.length cap), (1, .slice a' ys.length cap'), (4, .bool false), (12, .int .i64 xs.length), (13, .int .i64 i)]) (xs.length) (Upd.now ?_) ?_
  ·exact ⟨0, by omega, fun j _ h => by omega, rfl, rfl, rfl⟩
  ·rintro n G' l H' hle hs ⟨i, hi, hno, rfl, rfl, rfl⟩
   by_cases hil : i < xs.length
   ·have hil' : i < ys.length := by omega
    repeat' first
     | (with_reducible first | refine Nx.go ?_ | refine Bk.go (fun _ => ?_) fun _ => ?_)
     | (with_reducible refine NewB.mk2 fun nb hnb hnb1 hnb2 => ?_; try simp only [zzn] at hnb2)
     | with_reducible refine Tri.drawH tok mixed [0, 1, 4, 5, 10, 12, 13, 14, 24] 6 [3, 7] (.op 0 .plain (.op 1 .plain (.op 2 .plain (.op 3 .held (.op 4 .plain (.op 5 .plain (.op 6 .plain (.op 7 .held (.op 8 .plain .nil))))))))) (by kernel_rfl) [0, 1] ?_
     | simp -dsimp -implicitDefEqProofs (disch := first | assumption | (simp only [zzm]; done) | omega | (try with_reducible refine Row.adr (by assumption) ?_); simp only [zzl, Nat.reduceAdd]; first | done | omega) only [go_sem, ↓reduceIte, seval, Row.obj hrow, Row.obj hrow', List.getElem_map]
    ·rename_i he
     exact Upd.now ⟨n - 1, by omega, i + 1, by omega, fun j h hj => by
      by_cases e : j = i
      ·subst e; exact he
      ·exact hno j h (by omega), rfl, rfl, rfl⟩
    ·rename_i he
     rw [decide_eq_false (fun e => he (by subst e; rfl))] at hR
     all_goals refine Upd.finL ?_ hR ?_
     any_goals (intro fsum; first | exact Nat.le_refl _ | (simp only [zzq]; omega))
     rfl
   ·obtain rfl : i = xs.length := by omega
    rw [decide_eq_true (List.ext_getElem hxy fun j h1 h2 => hno j h1 h1)] at hR
    repeat' first
     | (with_reducible first | refine Nx.go ?_ | refine Bk.go (fun _ => ?_) fun _ => ?_)
     | (with_reducible refine NewB.mk2 fun nb hnb hnb1 hnb2 => ?_; try simp only [zzn] at hnb2)
     | simp -dsimp -implicitDefEqProofs (disch := first | assumption | (simp only [zzm]; done) | omega | (try with_reducible refine Row.adr (by assumption) ?_); simp only [zzl, Nat.reduceAdd]; first | done | omega) only [go_sem, ↓reduceIte, seval]
    all_goals refine Upd.finL ?_ hR ?_
    any_goals (intro fsum; first | exact Nat.le_refl _ | (simp only [zzq]; omega))
    rfl
 ·rename_i hne
  rw [decide_eq_false (fun e => hne (by subst e; rfl))] at hR
  all_goals refine Upd.finL ?_ hR ?_
  any_goals (intro fsum; first | exact Nat.le_refl _ | (simp only [zzq]; omega))
  rfl
theorem place_first {α : Type} [DecidableEq α] {l : List α} {i : Nat} (hi : i < l.length) : ∃ p, place l l[i] = some p ∧ p ≤ i ∧ (∃ h : p < l.length, l[p] = l[i]) ∧ (p = i ↔ l[i] ∉ l.take i) := by
 obtain ⟨p, hp⟩ := place_mem (List.getElem_mem hi)
 have hp' := hp
 unfold place at hp'
 rw [List.findIdx?_eq_some_iff_getElem] at hp'
 obtain ⟨h1, h2, h3⟩ := hp'
 have h2 := of_decide_eq_true h2
 have hle : p ≤ i := by
  rcases Nat.lt_or_ge i p with h | h
  ·have := h3 i h; simp at this
  ·exact h
 refine ⟨p, hp, hle, ⟨h1, h2.symm⟩, ?_⟩
 constructor
 ·rintro rfl hm
  obtain ⟨j, hj, e⟩ := (mem_take_iff hi).1 hm
  have := h3 j hj
  simp [e] at this
 ·intro hm
  rcases Nat.lt_or_ge p i with h | h
  ·exact absurd ((mem_take_iff hi).2 ⟨p, h, h2.symm⟩) hm
  ·omega
end Go.Proofs.YtefkpedhbijhkaaGreatDoor
namespace Go.Proofs.YtefkpedhbijhkaaGreatDoor
open Go Go.V Go.Proofs
section plain
variable {α : Type} [DecidableEq α]
theorem place_at {l : List α} {i p : Nat} (hi : i < l.length) (h1 : ∃ h : p < l.length, l[p] = l[i]) (h2 : ∀ j (h : j < l.length), j < p → l[j] ≠ l[i]) : place l l[i] = some p := by
 obtain ⟨hp, e⟩ := h1
 unfold place
 rw [List.findIdx?_eq_some_iff_getElem]
 exact ⟨hp, by simp [e], fun j hj => by have := h2 j (by omega) hj; simp; exact fun e => this e.symm⟩
end plain
end Go.Proofs.YtefkpedhbijhkaaGreatDoor
namespace Go.Proofs.YtefkpedhbijhkaaGreatDoor
open Go Go.V Go.Proofs
theorem eqT_ints {d : Nat} {t e n : Nat} {k : IntKind} (ht : (T t).k = .arr n e) (he : (T e).k = .int k) (hs : (T e).size = 1) {xs ys : List Int} (hx : xs.length = n) (hy : ys.length = n) :
  eqT T (d + 2) t (.agg (xs.map (Value.int k)).toArray) (.agg (ys.map (Value.int k)).toArray) = some (decide (xs = ys)) := by
 have := allEq_ints (T := T) (d := d) he hs xs ys [] [] (by omega) rfl
 simp only [List.length_nil, List.nil_append] at this
 unfold eqT
 simp only [ht, he, TK.known, if_true, ← hx, List.toList_toArray]
 exact this
abbrev u8L (l : List Int) : List Value := l.map (Value.int .u8)
abbrev agg8 (l : List Int) : Value := .agg (u8L l).toArray
theorem u8_get {l : List Int} {i : Nat} (h : i < l.length) (sp : List Value) : (u8L l ++ sp)[i]? = some (.int .u8 l[i]) := by
 rw [List.getElem?_append_left (by simpa using h), List.getElem?_map, List.getElem?_eq_getElem h]; rfl
theorem he8 : KeyEnc T 5 (Value.int .u8) := keyEnc_int (T := T) (t := 5) rfl
theorem pnormk_t {l : List Int} {b1 i : Nat} (hl : l.length = 256) (hi : i < l.length) {G : PHeap} {H : Heap} {R : Value → PHeap → Heap → Prop}
  (hg1 : G b1 = none) (hf : findH H b1 = some (.cells (u8L l) [] 22)) (hR : R (.int .u8 l[i]) G H) : FnT Tryz.prog 108 [.int .i64 (i : Nat), .pointer (some ⟨b1, 0, none⟩)] G H R := by
 have hget := u8_get hi []
 rw [List.append_nil] at hget
 refine FnT.body tok [0, 1, 3] Tryz.func108 rfl (by kernel_rfl) (by kernel_rfl) (by show _ ≤ 7; simp) fun hsep => ?_
 rw [Tryz.results108]
 have hsE := hsep
 try simp only [zzs] at hsE
 repeat (obtain ⟨hsx, hsE⟩ := hsE)
 repeat' first
  | (with_reducible first | refine Nx.go ?_ | refine Bk.go (fun _ => ?_) fun _ => ?_)
  | simp -dsimp -implicitDefEqProofs (disch := first | assumption | (simp only [zzm]; done) | omega | (try with_reducible refine Row.adr (by assumption) ?_); simp only [zzl, Nat.reduceAdd]; first | done | omega) only [go_sem, ↓reduceIte, seval, -List.reduceReplicate, hf, hget, List.append_nil]
 all_goals refine Upd.finL ?_ hR ?_
 any_goals (intro fsum; first | exact Nat.le_refl _ | (simp only [zzq]; omega))
 rfl
theorem u8_wrap {n : Nat} (h : n < 256) : IntKind.u8.wrap (n : Int) = n := by
 simp only [IntKind.wrap, IntKind.bits, IntKind.signed]; simp; omega
def part8 (l : List Int) (i : Nat) : List Int := nums (l.take i) ++ List.replicate (256 - i) 0
theorem part8_len {l : List Int} (hl : l.length = 256) {i : Nat} (hi : i ≤ 256) : (part8 l i).length = 256 := by
 unfold part8; rw [List.length_append, nums_len, List.length_take, List.length_replicate]; omega
theorem part8_put {l : List Int} (hl : l.length = 256) {i : Nat} (hi : i < 256) {n : Int} (h : nums (l.take (i + 1)) = nums (l.take i) ++ [n]) : splice (u8L (part8 l i)) i [.int .u8 n] = u8L (part8 l (i + 1)) := by
 have hn : (nums (l.take i)).length = i := by rw [nums_len, List.length_take]; omega
 unfold splice part8 u8L
 rw [h, List.map_append, List.map_append, List.map_append, List.map_replicate, List.map_replicate, show 256 - i = (256 - (i + 1)) + 1 by omega, List.replicate_succ]
 rw [List.take_append_of_le_length (by rw [List.length_map]; omega), List.take_of_length_le (by rw [List.length_map]; omega)]
 rw [List.drop_append, List.drop_of_length_le (by rw [List.length_map]; simp; omega)]
 simp [hn]
theorem part8_zero (l : List Int) : List.replicate 256 (Value.int .u8 0) = u8L (part8 l 0) := by
 unfold part8 u8L; rw [List.take_zero, nums_nil, List.nil_append, List.map_replicate]
theorem part8_all {l : List Int} (hl : l.length = 256) : part8 l 256 = nums l := by
 unfold part8; rw [← hl, List.take_length]; simp
theorem num8_t {l : List Int} (hl : l.length = 256) {b1 : Nat} {G : PHeap} {H : Heap} {R : Value → PHeap → Heap → Prop} (hg1 : G b1 = none) (hf : findH H b1 = some (.cells (u8L l) [] 22))
  (hR : R (.tuple #[agg8 (nums l), .int .i64 (tabO l).length]) G H) : FnT Tryz.prog 107 [.func (.func 108) #[] #[.pointer (some ⟨b1, 0, none⟩)]] G H R := by
 refine FnT.body tok [0, 2, 3, 4, 5, 6, 7, 8, 9, 11, 12, 24] Tryz.func107 rfl (by kernel_rfl) (by kernel_rfl) (by show _ ≤ 38; simp) fun hsep => ?_
 rw [Tryz.results107]
 have hsE := hsep
 try simp only [zzs] at hsE
 repeat (obtain ⟨hsx, hsE⟩ := hsE)
 repeat' first
  | (with_reducible first | refine Nx.go ?_ | refine Bk.go (fun _ => ?_) fun _ => ?_ | refine foundO.mk (fun _ _ => ?_) (fun _ => ?_))
  | ((with_reducible first | refine NewB.mk2 fun nb hnb hnb1 hnb2 => ?_ | refine NewRow.mk2 fun nb nsp ncap hnb hncap hnb1 hnb2 => ?_); try simp only [zzn] at hnb2)
  | simp -dsimp -implicitDefEqProofs (disch := first | assumption | (simp only [zzm]; done) | omega | (try with_reducible refine Row.adr (by assumption) ?_); simp only [zzl, Nat.reduceAdd]; first | done | omega) only [go_sem, ↓reduceIte, seval, -List.reduceReplicate]
 rename_i b2 hb20 hb21 hb22 b4 hb40 hb41 hb42
 revert nb
 intro bm hbm hbm1 hbm2
 have n2 := NotIn.neFind hb22 hf
 have n4 := NotIn.neFind hb42.2 hf
 have nm := NotIn.neFind hbm2.2.2 hf
 rw [part8_zero l]
 refine Tri.loopU tok [0, 2, 3, 4, 5, 6, 7, 8, 9, 11, 12, 24] (by kernel_rfl) [0, 2, 3, 4, 5, 11] (fun q G' fr H' => ∃ (i : Nat), i + q = 256 ∧ G' = G ∧ H' = (bm, .map ((numb 0 (tabO (l.take i))).map fun p => ((Value.int .u8) p.1, Value.int .u8 p.2))) :: (b4, .cells (u8L (part8 l i)) [] 22) :: (b2, .cells (u8L (part8 l 0)) [] 22) :: H ∧ fr = [(0, .func (.func 108) #[] #[.pointer (some ⟨b1, 0, none⟩)]), (2, .pointer (some ⟨b2, 0, none⟩)), (3, .int .i64 0), (4, .pointer (some ⟨b4, 0, none⟩)), (5, .map (some bm)), (11, .int .i64 i)]) (256) ?_ ?_
 ·exact Upd.now ⟨0, by omega, rfl, rfl, rfl⟩
 ·rintro q G1 fr H' hle hs ⟨i, hi, rfl, rfl, rfl⟩
  have hsE := hs
  try simp only [zzs] at hsE
  repeat (obtain ⟨hsx, hsE⟩ := hsE)
  have htl := tabO_len (l.take i)
  rw [List.length_take] at htl
  have h8 : (part8 l i).length = 256 := part8_len hl (by omega)
  by_cases hil : i < 256
  ·have hil2 : i < l.length := by omega
   have htk := List.take_succ_eq_append_getElem hil2
   have hw := u8_wrap (n := (tabO (l.take i)).length) (by omega)
   rcases hp : place (tabO (l.take i)) l[i] with _ | n
   ·have hnn := nums_new hp
    rw [← htk] at hnn
    have hput := part8_put hl hil hnn.2
    repeat' first
     | (with_reducible first | refine Nx.go ?_ | refine Bk.go (fun _ => ?_) fun _ => ?_ | refine foundO.mk (fun _ _ => ?_) (fun _ => ?_))
     | ((with_reducible first | refine NewB.mk2 fun nb hnb hnb1 hnb2 => ?_ | refine NewRow.mk2 fun nb nsp ncap hnb hncap hnb1 hnb2 => ?_); try simp only [zzn] at hnb2)
     | simp -dsimp -implicitDefEqProofs (disch := first | assumption | (simp only [zzm]; done) | omega | (try with_reducible refine Row.adr (by assumption) ?_); simp only [zzl, Nat.reduceAdd]; first | done | omega) only [go_sem, ↓reduceIte, seval, -List.reduceReplicate, findV_enc he8 (Value.int .u8), keyOk_enc he8, aget_numb0, Option.map_map, putV_enc he8 (Value.int .u8), aput_new, hp, List.length_map, numb_len, hw, hput]
     | with_reducible refine pnormk_t hl hil2 (by assumption) ?_ ?_
     | exact hf
    rw [← hnn.1]
    exact Upd.now ⟨q - 1, by omega, i + 1, by omega, rfl, rfl, rfl⟩
   ·have hnn := nums_old hp
    rw [← htk] at hnn
    have hput := part8_put hl hil hnn.2
    repeat' first
     | (with_reducible first | refine Nx.go ?_ | refine Bk.go (fun _ => ?_) fun _ => ?_ | refine foundO.mk (fun _ _ => ?_) (fun _ => ?_))
     | ((with_reducible first | refine NewB.mk2 fun nb hnb hnb1 hnb2 => ?_ | refine NewRow.mk2 fun nb nsp ncap hnb hncap hnb1 hnb2 => ?_); try simp only [zzn] at hnb2)
     | simp -dsimp -implicitDefEqProofs (disch := first | assumption | (simp only [zzm]; done) | omega | (try with_reducible refine Row.adr (by assumption) ?_); simp only [zzl, Nat.reduceAdd]; first | done | omega) only [go_sem, ↓reduceIte, seval, -List.reduceReplicate, findV_enc he8 (Value.int .u8), keyOk_enc he8, aget_numb0, Option.map_map, putV_enc he8 (Value.int .u8), aput_new, hp, List.length_map, numb_len, hput]
     | with_reducible refine pnormk_t hl hil2 (by assumption) ?_ ?_
     | exact hf
    exact Upd.now ⟨q - 1, by omega, i + 1, by omega, rfl, by rw [hnn.1], rfl⟩
  ·obtain rfl : i = 256 := by omega
   have hnl : (nums l).length = 256 := by rw [nums_len, hl]
   have htake : List.take 256 (u8L (nums l)) = u8L (nums l) := List.take_of_length_le (by rw [List.length_map, hnl]; omega)
   have h80 : (part8 l 0).length = 256 := part8_len hl (by omega)
   have hspl : splice (u8L (part8 l 0)) 0 (u8L (nums l)) = u8L (nums l) := by
    unfold splice
    rw [List.take_zero, List.nil_append, List.drop_of_length_le (by simp [hnl, h80]), List.append_nil]
   have h256 : List.take 256 l = l := List.take_of_length_le (by omega)
   rw [part8_all hl, h256]
   repeat' first
    | (with_reducible first | refine Nx.go ?_ | refine Bk.go (fun _ => ?_) fun _ => ?_ | refine foundO.mk (fun _ _ => ?_) (fun _ => ?_))
    | ((with_reducible first | refine NewB.mk2 fun nb hnb hnb1 hnb2 => ?_ | refine NewRow.mk2 fun nb nsp ncap hnb hncap hnb1 hnb2 => ?_); try simp only [zzn] at hnb2)
    | simp -dsimp -implicitDefEqProofs (disch := first | assumption | (simp only [zzm]; done) | omega | (try with_reducible refine Row.adr (by assumption) ?_); simp only [zzl, Nat.reduceAdd]; first | done | omega) only [go_sem, ↓reduceIte, seval, -List.reduceReplicate, htake, List.length_map, hnl, h80, hspl, numb_len]
   all_goals refine Upd.finL ?_ hR ?_
   any_goals (intro fsum; first | exact Nat.le_refl _ | (simp only [zzq]; omega))
   rfl
theorem pnorm_t {l : List Int} (hl : l.length = 256) {G : PHeap} {H : Heap} {R : Value → PHeap → Heap → Prop}
  (hR : R (.tuple #[agg8 (nums l), .int .i64 (tabO l).length]) G H) : FnT Tryz.prog 79 [agg8 l] G H R := by
 have hnl : (nums l).length = 256 := by rw [nums_len, hl]
 have h80 : (part8 l 0).length = 256 := part8_len hl (by omega)
 have hspl : splice (u8L (part8 l 0)) 0 (u8L (nums l)) = u8L (nums l) := by
  unfold splice
  rw [List.take_zero, List.nil_append, List.drop_of_length_le (by simp [hnl, h80]), List.append_nil]
 have htake : List.take 256 (u8L (nums l)) = u8L (nums l) := List.take_of_length_le (by rw [List.length_map, hnl]; omega)
 refine FnT.body tok [0, 1, 2, 3] Tryz.func79 rfl (by kernel_rfl) (by kernel_rfl) (by show _ ≤ 8; simp) fun hsep => ?_
 rw [Tryz.results79]
 have hsE := hsep
 try simp only [zzs] at hsE
 repeat (obtain ⟨hsx, hsE⟩ := hsE)
 repeat' first
  | (with_reducible first | refine Nx.go ?_ | refine Bk.go (fun _ => ?_) fun _ => ?_)
  | (with_reducible refine NewB.mk2 fun nb hnb hnb1 hnb2 => ?_; try simp only [zzn] at hnb2)
  | simp -dsimp -implicitDefEqProofs (disch := first | assumption | (simp only [zzm]; done) | omega | (try with_reducible refine Row.adr (by assumption) ?_); simp only [zzl, Nat.reduceAdd]; first | done | omega) only [go_sem, ↓reduceIte, seval, -List.reduceReplicate, List.toList_toArray, List.length_map, hl, part8_zero l, hspl, h80, hnl, htake]
  | with_reducible refine num8_t hl (by assumption) ?_ ?_
 all_goals refine Upd.finL ?_ hR ?_
 any_goals (intro fsum; first | exact Nat.le_refl _ | (simp only [zzq]; omega))
 rfl
theorem pright_t {l : List Int} (hl : l.length = 256) (w : Int) {G : PHeap} {H : Heap} {R : Value → PHeap → Heap → Prop}
  (hR : R (.bool (decide (nums l = l) && decide (((tabO l).length : Int) = w))) G H) : FnT Tryz.prog 67 [agg8 l, .int .i64 w] G H R := by
 have hnl : (nums l).length = 256 := by rw [nums_len, hl]
 have hspl : splice (List.replicate 256 (Value.int .u8 0)) 0 (u8L (nums l)) = u8L (nums l) := by
  unfold splice
  rw [List.take_zero, List.nil_append, List.drop_of_length_le (by rw [List.length_replicate, List.length_map, hnl]; exact Nat.le_refl _), List.append_nil]
 have htake : List.take 256 (u8L (nums l)) = u8L (nums l) := List.take_of_length_le (by rw [List.length_map, hnl]; omega)
 have htake2 : List.take 256 (u8L l) = u8L l := List.take_of_length_le (by rw [List.length_map, hl]; omega)
 have heq : eqT T 9 22 (agg8 (nums l)) (agg8 l) = some (decide (nums l = l)) := eqT_ints (d := 7) (t := 22) (e := 5) (n := 256) (k := .u8) rfl rfl rfl hnl hl
 refine FnT.body tok [0, 1, 2, 4, 5, 6] Tryz.func67 rfl (by kernel_rfl) (by kernel_rfl) (by show _ ≤ 20; simp) fun hsep => ?_
 rw [Tryz.results67]
 have hsE := hsep
 try simp only [zzs] at hsE
 repeat (obtain ⟨hsx, hsE⟩ := hsE)
 repeat' first
  | (with_reducible first | refine Nx.go ?_ | refine Bk.go (fun _ => ?_) fun _ => ?_)
  | (with_reducible refine NewB.mk2 fun nb hnb hnb1 hnb2 => ?_; try simp only [zzn] at hnb2)
  | simp -dsimp -implicitDefEqProofs (disch := first | assumption | (simp only [zzm]; done) | omega | (try with_reducible refine Row.adr (by assumption) ?_); simp only [zzl, Nat.reduceAdd]; first | done | omega) only [go_sem, ↓reduceIte, seval, -List.reduceReplicate, List.toList_toArray, List.length_map, hl, hnl, htake, htake2, hspl, heq, List.length_replicate]
  | with_reducible refine pnorm_t hl ?_
 ·rename_i he
  rw [decide_eq_true he, Bool.true_and] at hR
  all_goals refine Upd.finL ?_ hR ?_
  any_goals (intro fsum; first | exact Nat.le_refl _ | (simp only [zzq]; omega))
  rfl
 ·rename_i he
  rw [decide_eq_false he, Bool.false_and] at hR
  all_goals refine Upd.finL ?_ hR ?_
  any_goals (intro fsum; first | exact Nat.le_refl _ | (simp only [zzq]; omega))
  rfl
end Go.Proofs.YtefkpedhbijhkaaGreatDoor
namespace Go.Proofs.YtefkpedhbijhkaaGreatDoor
open Go Go.V Go.Proofs
def letterN (n : Nat) : Bool := decide (97 ≤ n ∧ n ≤ 122) || decide (65 ≤ n ∧ n ≤ 90) || decide (n = 95)
def mayN (n : Nat) (first : Bool) : Bool := if 48 ≤ n ∧ n ≤ 57 then !first else letterN n
theorem letter_or : ∀ c : Fin 256, letterN c.val = (decide (c.val = 95) || (decide (97 ≤ c.val ||| 32) && decide (c.val ||| 32 ≤ 122))) := by decide +kernel
theorem may_or : ∀ c : Fin 256, ∀ b : Bool, mayN c.val b = (letterN c.val || (!b && decide (48 ≤ c.val) && decide (c.val ≤ 57))) := by decide +kernel
theorem or_byte {x y : Nat} (hx : x < 256) (hy : y < 256) : bitsOp .or .u8 (x : Int) (y : Int) = ((x ||| y : Nat) : Int) := by
 simp only [bitsOp, BitVec.ofInt_natCast]
 have : (BitVec.ofNat IntKind.u8.bits x ||| BitVec.ofNat IntKind.u8.bits y).toNat = x ||| y := by
  show (BitVec.ofNat 8 x ||| BitVec.ofNat 8 y).toNat = x ||| y
  rw [BitVec.toNat_or, BitVec.toNat_ofNat, BitVec.toNat_ofNat, Nat.mod_eq_of_lt (by omega), Nat.mod_eq_of_lt (by omega)]
 rw [this]
 have h2 : x ||| y < 256 := show x ||| y < 2 ^ 8 from Nat.or_lt_two_pow (by omega) (by omega)
 exact u8_wrap h2
theorem letter_t (n : Nat) (hn : n < 256) {G : PHeap} {H : Heap} {R : Value → PHeap → Heap → Prop} (hR : R (.bool (letterN n)) G H) : FnT Tryz.prog 143 [.int .u8 (n : Nat)] G H R := by
 have ho := or_byte hn (y := 32) (by omega)
 have hl := letter_or ⟨n, hn⟩
 simp only [] at hl
 generalize n ||| 32 = m at ho hl
 have ho' : bitsOp .or .u8 (n : Int) 32 = (m : Int) := ho
 rw [hl] at hR
 refine FnT.body tok [0, 2] Tryz.func143 rfl (by kernel_rfl) (by kernel_rfl) (by show _ ≤ 15; simp) fun hsep => ?_
 rw [Tryz.results143]
 have hsE := hsep
 try simp only [zzs] at hsE
 repeat (obtain ⟨hsx, hsE⟩ := hsE)
 repeat' first
  | (with_reducible first | refine Nx.go ?_ | refine Bk.go (fun _ => ?_) fun _ => ?_)
  | simp -dsimp -implicitDefEqProofs (disch := first | assumption | (simp only [zzm]; done) | omega | (try with_reducible refine Row.adr (by assumption) ?_); simp only [zzl, Nat.reduceAdd]; first | done | omega) only [go_sem, ↓reduceIte, seval, ho']
 all_goals refine Upd.finL ?_ hR ?_
 any_goals (intro fsum; first | exact Nat.le_refl _ | (simp only [zzq]; omega))
 all_goals (simp only [Value.bool.injEq]; rw [Bool.eq_iff_iff]; simp; omega)
def okS (s : List UInt8) : Prop := ∀ i (h : i < s.length), mayN s[i].toNat (decide (i = 0)) = true
noncomputable def nameB (s : List UInt8) : Bool := @decide (1 ≤ s.length ∧ s.length ≤ 32 ∧ okS s) (Classical.propDecidable _)
theorem nameB_iff {s : List UInt8} : nameB s = true ↔ 1 ≤ s.length ∧ s.length ≤ 32 ∧ okS s := by unfold nameB; exact @decide_eq_true_iff _ (Classical.propDecidable _)
theorem nameB_no {s : List UInt8} (h : ¬ (1 ≤ s.length ∧ s.length ≤ 32 ∧ okS s)) : nameB s = false := by
 cases hb : nameB s with
 | false => rfl
 | true => exact absurd (nameB_iff.1 hb) h
theorem run_t (s : List UInt8) (hlen : s.length ≤ 2000000) {G : PHeap} {H : Heap} {R : Value → PHeap → Heap → Prop} (hR : ∀ n : Nat, n ≤ s.length → (n = s.length ↔ okS s) → R (.int .i64 n) G H) : FnT Tryz.prog 123 [str s] G H R := by
  refine FnT.body tok [0, 2, 3, 29] Tryz.func123 rfl (by kernel_rfl) (by kernel_rfl) (by show _ ≤ 33; simp) fun hsep => ?_
  rw [Tryz.results123]
  have hsE := hsep
  try simp only [zzs] at hsE
  repeat (obtain ⟨hsx, hsE⟩ := hsE)
  repeat' first
    | (with_reducible first | refine Nx.go ?_ | refine Bk.go (fun _ => ?_) fun _ => ?_)
    | (with_reducible refine NewB.mk2 fun nb hnb hnb1 hnb2 => ?_; try simp only [zzn] at hnb2)
    | simp -dsimp -implicitDefEqProofs (disch := first | assumption | (simp only [zzm]; done) | omega | (try with_reducible refine Row.adr (by assumption) ?_); simp only [zzl, Nat.reduceAdd]; first | done | omega) only [go_sem, ↓reduceIte, seval]
  refine Tri.loopU tok [0, 2, 3, 29] (by kernel_rfl) [0, 2, 3] (fun q G' fr H' => ∃ i : Nat, i + q = s.length ∧ (∀ j (h : j < s.length), j < i → mayN s[j].toNat (decide (j = 0)) = true) ∧ G' = G ∧ H' = H ∧ fr = [(0, str s), (2, .int .i64 0), (3, .int .i64 i)]) (s.length) (Upd.now ?_) ?_
  · exact ⟨0, by omega, fun j _ h => by omega, rfl, rfl, rfl⟩
  · rintro q G' fr H' hle hs ⟨i, hi, hno, rfl, rfl, rfl⟩
    by_cases hil : i < s.length
    · have hb : s[i].toNat < 256 := s[i].toNat_lt
      have hmay := may_or ⟨s[i].toNat, hb⟩ (decide (i = 0))
      simp only [] at hmay
      cases hL : letterN s[i].toNat with
      | true =>
        have hm : mayN s[i].toNat (decide (i = 0)) = true := by rw [hmay, hL]; rfl
        repeat' first
          | (with_reducible first | refine Nx.go ?_ | refine Bk.go (fun _ => ?_) fun _ => ?_)
          | (with_reducible refine NewB.mk2 fun nb hnb hnb1 hnb2 => ?_; try simp only [zzn] at hnb2)
          | simp -dsimp -implicitDefEqProofs (disch := first | assumption | (simp only [zzm]; done) | omega | (try with_reducible refine Row.adr (by assumption) ?_); simp only [zzl, Nat.reduceAdd]; first | done | omega) only [go_sem, ↓reduceIte, seval, hL]
          | with_reducible refine letter_t _ hb ?_
        exact Upd.now ⟨q - 1, by omega, i + 1, by omega, fun j h hj => by
            by_cases e : j = i
            · subst e; exact hm
            · exact hno j h (by omega), rfl, rfl, rfl⟩
      | false =>
        rw [hL, Bool.false_or] at hmay
        have hmp : mayN s[i].toNat (decide (i = 0)) = true ↔ (i ≠ 0 ∧ 48 ≤ s[i].toNat) ∧ s[i].toNat ≤ 57 := by rw [hmay]; simp
        repeat' first
          | (with_reducible first | refine Nx.go ?_ | refine Bk.go (fun _ => ?_) fun _ => ?_)
          | (with_reducible refine NewB.mk2 fun nb hnb hnb1 hnb2 => ?_; try simp only [zzn] at hnb2)
          | simp -dsimp -implicitDefEqProofs (disch := first | assumption | (simp only [zzm]; done) | omega | (try with_reducible refine Row.adr (by assumption) ?_); simp only [zzl, Nat.reduceAdd]; first | done | omega) only [go_sem, ↓reduceIte, seval, hL]
          | with_reducible refine letter_t _ hb ?_
        all_goals first
          | (have hm : mayN s[i].toNat (decide (i = 0)) = true := hmp.2 (by omega)
             exact Upd.now ⟨q - 1, by omega, i + 1, by omega, fun j h hj => by
            by_cases e : j = i
            · subst e; exact hm
            · exact hno j h (by omega), rfl, rfl, rfl⟩)
          | (have hm : ¬ mayN s[i].toNat (decide (i = 0)) = true := fun h => by
               have := hmp.1 h
               omega
             exact Upd.finL (by intro fsum; first | exact Nat.le_refl _ | (simp only [zzq]; omega)) (hR i (by omega) ⟨fun e => by omega, fun hok => absurd (hok i hil) hm⟩) rfl)
    · obtain rfl : i = s.length := by omega
      repeat' first
        | (with_reducible first | refine Nx.go ?_ | refine Bk.go (fun _ => ?_) fun _ => ?_)
        | (with_reducible refine NewB.mk2 fun nb hnb hnb1 hnb2 => ?_; try simp only [zzn] at hnb2)
        | simp -dsimp -implicitDefEqProofs (disch := first | assumption | (simp only [zzm]; done) | omega | (try with_reducible refine Row.adr (by assumption) ?_); simp only [zzl, Nat.reduceAdd]; first | done | omega) only [go_sem, ↓reduceIte, seval]
      all_goals refine Upd.finL ?_ (hR s.length (Nat.le_refl _) ⟨fun _ j h => hno j h h, fun _ => rfl⟩) ?_
      any_goals (intro fsum; first | exact Nat.le_refl _ | (simp only [zzq]; omega))
      rfl
theorem name_t (s : List UInt8) (hlen : s.length ≤ 2000000) {G : PHeap} {H : Heap} {R : Value → PHeap → Heap → Prop} (hR : R (.bool (nameB s)) G H) : FnT Tryz.prog 101 [str s] G H R := by
  by_cases h1 : 1 ≤ s.length
  · have hs0 : s ≠ [] := fun e => by subst e; simp at h1
    by_cases h2 : s.length ≤ 32
    · refine FnT.body tok [0, 2] Tryz.func101 rfl (by kernel_rfl) (by kernel_rfl) (by show _ ≤ 17; simp) fun hsep => ?_
      rw [Tryz.results101]
      have hsE := hsep
      try simp only [zzs] at hsE
      repeat (obtain ⟨hsx, hsE⟩ := hsE)
      repeat' first
        | (with_reducible first | refine Nx.go ?_ | refine Bk.go (fun _ => ?_) fun _ => ?_)
        | simp -dsimp -implicitDefEqProofs (disch := first | assumption | (simp only [zzm]; done) | omega | (try with_reducible refine Row.adr (by assumption) ?_); simp only [zzl, Nat.reduceAdd]; first | done | omega) only [go_sem, ↓reduceIte, seval]
        | with_reducible refine run_t s hlen fun n hn hok => ?_
      all_goals first
        | exact absurd (by assumption) hs0
        | (refine Upd.finL (by intro fsum; first | exact Nat.le_refl _ | (simp only [zzq]; omega)) hR ?_
           simp only [Value.bool.injEq]
           rw [Bool.eq_iff_iff, nameB_iff, decide_eq_true_eq, ← hok]
           omega)
        | (exfalso; omega)
    · rw [nameB_no fun h => h2 h.2.1] at hR
      refine FnT.body tok [0, 2] Tryz.func101 rfl (by kernel_rfl) (by kernel_rfl) (by show _ ≤ 17; simp) fun hsep => ?_
      rw [Tryz.results101]
      have hsE := hsep
      try simp only [zzs] at hsE
      repeat (obtain ⟨hsx, hsE⟩ := hsE)
      repeat' first
        | (with_reducible first | refine Nx.go ?_ | refine Bk.go (fun _ => ?_) fun _ => ?_)
        | simp -dsimp -implicitDefEqProofs (disch := first | assumption | (simp only [zzm]; done) | omega | (try with_reducible refine Row.adr (by assumption) ?_); simp only [zzl, Nat.reduceAdd]; first | done | omega) only [go_sem, ↓reduceIte, seval]
      all_goals try (exfalso; omega)
      all_goals refine Upd.finL ?_ hR ?_
      any_goals (intro fsum; first | exact Nat.le_refl _ | (simp only [zzq]; omega))
      all_goals rfl
  · rw [nameB_no fun h => h1 h.1] at hR
    obtain rfl : s = [] := List.eq_nil_of_length_eq_zero (by omega)
    refine FnT.body tok [0, 2] Tryz.func101 rfl (by kernel_rfl) (by kernel_rfl) (by show _ ≤ 17; simp) fun hsep => ?_
    rw [Tryz.results101]
    have hsE := hsep
    try simp only [zzs] at hsE
    repeat (obtain ⟨hsx, hsE⟩ := hsE)
    repeat' first
      | (with_reducible first | refine Nx.go ?_ | refine Bk.go (fun _ => ?_) fun _ => ?_)
      | simp -dsimp -implicitDefEqProofs (disch := first | assumption | (simp only [zzm]; done) | omega | (try with_reducible refine Row.adr (by assumption) ?_); simp only [zzl, Nat.reduceAdd]; first | done | omega) only [go_sem, ↓reduceIte, seval]
    all_goals try (rename_i hno; exact absurd rfl hno)
    all_goals refine Upd.finL ?_ hR ?_
    any_goals (intro fsum; first | exact Nat.le_refl _ | (simp only [zzq]; omega))
    all_goals rfl
theorem index_t (l : List (List UInt8)) (x : List UInt8) (hlen : l.length ≤ 2000000) {G : PHeap} {H : Heap} {R : Value → PHeap → Heap → Prop} {v : Value} (hv : Sl G str v l) (hR : R (.int .i64 (findF l x)) G H) : FnT Tryz.prog 75 [v, str x] G H R := by
 obtain ⟨a, cap, rfl, hrow, hcap⟩ := hv
 refine FnT.body tok [0, 1, 4, 5, 7, 8, 9, 16] Tryz.func75 rfl (by kernel_rfl) (by kernel_rfl) (by show _ ≤ 19; simp) fun hsep => ?_
 rw [Tryz.results75]
 have hsE := hsep
 try simp only [zzs] at hsE
 repeat (obtain ⟨hsx, hsE⟩ := hsE)
 repeat' first
  | (with_reducible first | refine Nx.go ?_ | refine Bk.go (fun _ => ?_) fun _ => ?_)
  | (with_reducible refine NewB.mk2 fun nb hnb hnb1 hnb2 => ?_; try simp only [zzn] at hnb2)
  | simp -dsimp -implicitDefEqProofs (disch := first | assumption | (simp only [zzm]; done) | omega | (try with_reducible refine Row.adr (by assumption) ?_); simp only [zzl, Nat.reduceAdd]; first | done | omega) only [go_sem, ↓reduceIte, seval]
 refine Tri.loopU tok [0, 1, 4, 5, 7, 8, 9, 16] (by kernel_rfl) [0, 1, 4, 7, 8] (fun n G' fr H' => ∃ i : Nat, i + n = l.length ∧ (∀ j (h : j < l.length), j < i → l[j] ≠ x) ∧ G' = G ∧ H' = H ∧ fr = [(0, .slice a l.length cap), (1, str x), (4, .int .i64 0), (7, .int .i64 l.length), (8, .int .i64 i)]) (l.length) (Upd.now ?_) ?_
 ·exact ⟨0, by omega, fun j _ h => by omega, rfl, rfl, rfl⟩
 ·rintro n G' fr H' hle hs ⟨i, hi, hno, rfl, rfl, rfl⟩
  by_cases hil : i < l.length
  ·have had : Adr a := hrow.adr (by rw [List.length_map]; omega)
   repeat' first
    | (with_reducible first | refine Nx.go ?_ | refine Bk.go (fun _ => ?_) fun _ => ?_)
    | (with_reducible refine NewB.mk2 fun nb hnb hnb1 hnb2 => ?_; try simp only [zzn] at hnb2)
    | simp -dsimp -implicitDefEqProofs (disch := first | assumption | (simp only [zzm]; done) | omega | (try with_reducible refine Row.adr (by assumption) ?_); simp only [zzl, Nat.reduceAdd]; first | done | omega) only [go_sem, ↓reduceIte, seval, Row.obj hrow, List.getElem_map]
   ·rename_i he
    have hp : place l x = some i := by
     unfold place
     rw [List.findIdx?_eq_some_iff_getElem]
     exact ⟨hil, by simp [he], fun j hj => by have := hno j (by omega) hj; simp; exact fun e => this e.symm⟩
    rw [findF_some hp] at hR
    all_goals refine Upd.finL ?_ hR ?_
    any_goals (intro fsum; first | exact Nat.le_refl _ | (simp only [zzq]; omega))
    rfl
   ·rename_i he
    exact Upd.now ⟨n - 1, by omega, i + 1, by omega, fun j h hj => by
     by_cases e : j = i
     ·subst e; exact fun e => he e.symm
     ·exact hno j h (by omega), rfl, rfl, rfl⟩
  ·obtain rfl : i = l.length := by omega
   have hp : place l x = none := place_no fun hm => by
    obtain ⟨j, hj, e⟩ := List.getElem_of_mem hm
    exact hno j hj hj e
   rw [findF_none hp] at hR
   repeat' first
    | (with_reducible first | refine Nx.go ?_ | refine Bk.go (fun _ => ?_) fun _ => ?_)
    | (with_reducible refine NewB.mk2 fun nb hnb hnb1 hnb2 => ?_; try simp only [zzn] at hnb2)
    | simp -dsimp -implicitDefEqProofs (disch := first | assumption | (simp only [zzm]; done) | omega | (try with_reducible refine Row.adr (by assumption) ?_); simp only [zzl, Nat.reduceAdd]; first | done | omega) only [go_sem, ↓reduceIte, seval]
   all_goals refine Upd.finL ?_ hR ?_
   any_goals (intro fsum; first | exact Nat.le_refl _ | (simp only [zzq]; omega))
   rfl
theorem contains_t (l : List (List UInt8)) (x : List UInt8) (hlen : l.length ≤ 2000000) {G : PHeap} {H : Heap} {R : Value → PHeap → Heap → Prop} {v : Value} (hv : Sl G str v l) (hR : R (.bool (decide (x ∈ l))) G H) : FnT Tryz.prog 72 [v, str x] G H R := by
 have hv0 := hv
 obtain ⟨a, cap, rfl, hrow, hcap⟩ := hv
 refine FnT.body tok [0, 1, 4] Tryz.func72 rfl (by kernel_rfl) (by kernel_rfl) (by show _ ≤ 9; simp) fun hsep => ?_
 rw [Tryz.results72]
 have hsE := hsep
 try simp only [zzs] at hsE
 repeat (obtain ⟨hsx, hsE⟩ := hsE)
 repeat' first
  | (with_reducible first | refine Nx.go ?_ | refine Bk.go (fun _ => ?_) fun _ => ?_)
  | simp -dsimp -implicitDefEqProofs (disch := first | assumption | (simp only [zzm]; done) | omega | (try with_reducible refine Row.adr (by assumption) ?_); simp only [zzl, Nat.reduceAdd]; first | done | omega) only [go_sem, ↓reduceIte, seval]
  | with_reducible refine index_t l x hlen hv0 ?_
 all_goals refine Upd.finL ?_ hR ?_
 any_goals (intro fsum; first | exact Nat.le_refl _ | (simp only [zzq]; omega))
 simp only [Value.bool.injEq]
 rw [Bool.eq_iff_iff, decide_eq_true_eq, decide_eq_true_eq]
 constructor
 ·intro h
  cases hp : place l x with
  | none => rw [findF_none hp] at h; omega
  | some n =>
   obtain ⟨h1, h2⟩ := place_some hp
   rw [List.getElem?_eq_getElem h1, Option.some.injEq] at h2
   exact h2 ▸ List.getElem_mem h1
 ·intro h
  obtain ⟨n, hn⟩ := place_mem h
  rw [findF_some hn]; omega
end Go.Proofs.YtefkpedhbijhkaaGreatDoor
namespace Go.Proofs.YtefkpedhbijhkaaGreatDoor
open Go Go.V Go.Proofs
def namesOk (l : List (List UInt8)) : Prop := l.length ≤ 64 ∧ ∀ i (h : i < l.length), nameB l[i] = true ∧ l[i] ∉ l.take i
noncomputable def boolOf (p : Prop) : Bool := @decide p (Classical.propDecidable p)
theorem boolOf_iff {p : Prop} : boolOf p = true ↔ p := by unfold boolOf; exact @decide_eq_true_iff p (Classical.propDecidable p)
theorem boolOf_yes {p : Prop} (h : p) : boolOf p = true := boolOf_iff.2 h
theorem boolOf_no {p : Prop} (h : ¬ p) : boolOf p = false := by
 cases hb : boolOf p with
 | false => rfl
 | true => exact absurd (boolOf_iff.1 hb) h
theorem names_t (l : List (List UInt8)) (hlen : l.length ≤ 2000000) (hstr : ∀ s ∈ l, s.length ≤ 2000000) {G : PHeap} {H : Heap} {R : Value → PHeap → Heap → Prop} {v : Value} (hv : Sl G str v l) (hR : R (.bool (boolOf (namesOk l))) G H) : FnT Tryz.prog 68 [v] G H R := by
 obtain ⟨a, cap, rfl, hrow, hcap⟩ := hv
 by_cases h64 : l.length ≤ 64
 ·refine FnT.body tok [0, 2, 3, 4, 7, 8, 9, 10, 11, 24] Tryz.func68 rfl (by kernel_rfl) (by kernel_rfl) (by show _ ≤ 26; simp) fun hsep => ?_
  rw [Tryz.results68]
  have hsE := hsep
  try simp only [zzs] at hsE
  repeat (obtain ⟨hsx, hsE⟩ := hsE)
  repeat' first
   | (with_reducible first | refine Nx.go ?_ | refine Bk.go (fun _ => ?_) fun _ => ?_)
   | (with_reducible refine NewB.mk2 fun nb hnb hnb1 hnb2 => ?_; try simp only [zzn] at hnb2)
   | simp -dsimp -implicitDefEqProofs (disch := first | assumption | (simp only [zzm]; done) | omega | (try with_reducible refine Row.adr (by assumption) ?_); simp only [zzl, Nat.reduceAdd]; first | done | omega) only [go_sem, ↓reduceIte, seval]
  refine Tri.loopU tok [0, 2, 3, 4, 7, 8, 9, 10, 11, 24] (by kernel_rfl) [0, 2, 8, 9, 10] (fun n G' fr H' => ∃ i : Nat, i + n = l.length ∧ (∀ j (h : j < l.length), j < i → nameB l[j] = true ∧ l[j] ∉ l.take j) ∧ G' = G ∧ H' = H ∧ fr = [(0, .slice a l.length cap), (2, .bool false), (8, .slice a l.length cap), (9, .int .i64 l.length), (10, .int .i64 i)]) (l.length) (Upd.now ?_) ?_
  ·exact ⟨0, by omega, fun j _ h => by omega, rfl, rfl, rfl⟩
  ·rintro n G' fr H' hle hs ⟨i, hi, hno, rfl, rfl, rfl⟩
   by_cases hil : i < l.length
   ·have had : Adr a := hrow.adr (by rw [List.length_map]; omega)
    have hsub : Sl G' str (.slice (subOb a 0 cap 0) (i - 0) (cap - 0)) (l.take i) := ⟨_, _, by rw [List.length_take, Nat.min_eq_left (by omega)]; rfl, by
     have h1 := (Row.drop hrow (l := 0) (m := cap) (s := 1) (fun e => by rw [List.length_map]; omega)).take i
     rw [List.map_take]
     exact h1, by rw [List.length_take]; omega⟩
    have hsi := hstr l[i] (List.getElem_mem hil)
    repeat' first
     | (with_reducible first | refine Nx.go ?_ | refine Bk.go (fun _ => ?_) fun _ => ?_)
     | (with_reducible refine NewB.mk2 fun nb hnb hnb1 hnb2 => ?_; try simp only [zzn] at hnb2)
     | simp -dsimp -implicitDefEqProofs (disch := first | assumption | (simp only [zzm]; done) | omega | (try with_reducible refine Row.adr (by assumption) ?_); simp only [zzl, Nat.reduceAdd]; first | done | omega) only [go_sem, ↓reduceIte, seval, Row.obj hrow, List.getElem_map]
     | with_reducible refine name_t l[i] hsi ?_
     | with_reducible refine contains_t (l.take i) l[i] (by rw [List.length_take]; omega) hsub ?_
    ·rename_i hct
     rw [boolOf_no fun h => (h.2 i hil).2 hct] at hR
     all_goals refine Upd.finL ?_ hR ?_
     any_goals (intro fsum; first | exact Nat.le_refl _ | (simp only [zzq]; omega))
     rfl
    ·rename_i hnm hct
     exact Upd.now ⟨n - 1, by omega, i + 1, by omega, fun j h hj => by
      by_cases e : j = i
      ·subst e; exact ⟨hnm, hct⟩
      ·exact hno j h (by omega), rfl, rfl, rfl⟩
    ·rename_i hnm
     rw [boolOf_no fun h => by have := (h.2 i hil).1; rw [hnm] at this; cases this] at hR
     all_goals refine Upd.finL ?_ hR ?_
     any_goals (intro fsum; first | exact Nat.le_refl _ | (simp only [zzq]; omega))
     rfl
   ·obtain rfl : i = l.length := by omega
    rw [boolOf_yes ⟨h64, fun i h => hno i h h⟩] at hR
    repeat' first
     | (with_reducible first | refine Nx.go ?_ | refine Bk.go (fun _ => ?_) fun _ => ?_)
     | (with_reducible refine NewB.mk2 fun nb hnb hnb1 hnb2 => ?_; try simp only [zzn] at hnb2)
     | simp -dsimp -implicitDefEqProofs (disch := first | assumption | (simp only [zzm]; done) | omega | (try with_reducible refine Row.adr (by assumption) ?_); simp only [zzl, Nat.reduceAdd]; first | done | omega) only [go_sem, ↓reduceIte, seval]
    all_goals refine Upd.finL ?_ hR ?_
    any_goals (intro fsum; first | exact Nat.le_refl _ | (simp only [zzq]; omega))
    rfl
 ·rw [boolOf_no fun h => h64 h.1] at hR
  refine FnT.body tok [0, 2, 3, 4, 7, 8, 9, 10, 11, 24] Tryz.func68 rfl (by kernel_rfl) (by kernel_rfl) (by show _ ≤ 26; simp) fun hsep => ?_
  rw [Tryz.results68]
  have hsE := hsep
  try simp only [zzs] at hsE
  repeat (obtain ⟨hsx, hsE⟩ := hsE)
  repeat' first
   | (with_reducible first | refine Nx.go ?_ | refine Bk.go (fun _ => ?_) fun _ => ?_)
   | (with_reducible refine NewB.mk2 fun nb hnb hnb1 hnb2 => ?_; try simp only [zzn] at hnb2)
   | simp -dsimp -implicitDefEqProofs (disch := first | assumption | (simp only [zzm]; done) | omega | (try with_reducible refine Row.adr (by assumption) ?_); simp only [zzl, Nat.reduceAdd]; first | done | omega) only [go_sem, ↓reduceIte, seval]
  all_goals try (exfalso; omega)
  all_goals refine Upd.finL ?_ hR ?_
  any_goals (intro fsum; first | exact Nat.le_refl _ | (simp only [zzq]; omega))
  rfl
structure DfaT where
 of : List Int
 width : Int
 next : List (List Int)
 label : List Int
 names : List (List UInt8)
def SlS (G : PHeap) (v : Value) (xss : List (List Int)) : Prop := ∃ a cap vs, v = .slice a xss.length cap ∧ Row G a vs ∧ vs.length = xss.length ∧ xss.length ≤ cap ∧ ∀ i (h : i < xss.length) (h2 : i < vs.length), ∃ b c, vs[i] = .slice b xss[i].length c ∧ Row G b (xss[i].map (Value.int .i64)) ∧ xss[i].length ≤ c
theorem SlS.mono {G G' : PHeap} (hle : PLe G G') {v : Value} {xss : List (List Int)} (h : SlS G v xss) : SlS G' v xss := by
 obtain ⟨a, cap, vs, h1, h2, h3, h4, h5⟩ := h
 refine ⟨a, cap, vs, h1, h2.mono hle, h3, h4, fun i h h' => ?_⟩
 obtain ⟨b, c, e1, e2, e3⟩ := h5 i h h'
 exact ⟨b, c, e1, e2.mono hle, e3⟩
def cellsD (d : DfaT) (vn vl vs : Value) : List Value := u8L d.of ++ [.int .i64 d.width, vn, vl, vs]
def IsD (G : PHeap) (d : DfaT) (v : Value) : Prop := d.of.length = 256 ∧ (∀ x ∈ d.of, 0 ≤ x ∧ x ≤ 255) ∧ ∃ vn vl vs, v = .agg (cellsD d vn vl vs).toArray ∧ SlS G vn d.next ∧ Sl G (Value.int .i64) vl d.label ∧ Sl G str vs d.names
theorem IsD.mono {G G' : PHeap} (hle : PLe G G') {d : DfaT} {v : Value} (h : IsD G d v) : IsD G' d v := by
 obtain ⟨h1, h2, vn, vl, vs, h3, h4, h5, h6⟩ := h
 exact ⟨h1, h2, vn, vl, vs, h3, h4.mono hle, h5.mono hle, h6.mono hle⟩
def SmallD (d : DfaT) : Prop := d.next.length ≤ 2000000 ∧ (∀ r ∈ d.next, r.length ≤ 2000000) ∧ d.label.length ≤ 2000000 ∧ d.names.length ≤ 2000000 ∧ ∀ s ∈ d.names, s.length ≤ 2000000
theorem cellsD_len {d : DfaT} (h : d.of.length = 256) (vn vl vs : Value) : (cellsD d vn vl vs).length = 260 := by unfold cellsD; rw [List.length_append, List.length_map, h]; rfl
theorem cellsD_w {d : DfaT} (h : d.of.length = 256) (vn vl vs : Value) : (cellsD d vn vl vs)[256]? = some (.int .i64 d.width) := by unfold cellsD; rw [List.getElem?_append_right (by rw [List.length_map, h]; omega), List.length_map, h]; rfl
theorem cellsD_n {d : DfaT} (h : d.of.length = 256) (vn vl vs : Value) : (cellsD d vn vl vs)[257]? = some vn := by unfold cellsD; rw [List.getElem?_append_right (by rw [List.length_map, h]; omega), List.length_map, h]; rfl
theorem cellsD_l {d : DfaT} (h : d.of.length = 256) (vn vl vs : Value) : (cellsD d vn vl vs)[258]? = some vl := by unfold cellsD; rw [List.getElem?_append_right (by rw [List.length_map, h]; omega), List.length_map, h]; rfl
theorem cellsD_s {d : DfaT} (h : d.of.length = 256) (vn vl vs : Value) : (cellsD d vn vl vs)[259]? = some vs := by unfold cellsD; rw [List.getElem?_append_right (by rw [List.length_map, h]; omega), List.length_map, h]; rfl
theorem cellsD_of {d : DfaT} (h : d.of.length = 256) (vn vl vs : Value) : (cellsD d vn vl vs).take 256 = u8L d.of := by unfold cellsD; rw [List.take_append_of_le_length (by rw [List.length_map, h]; omega), List.take_of_length_le (by rw [List.length_map, h]; omega)]
theorem cellsD_all {d : DfaT} (h : d.of.length = 256) (vn vl vs : Value) : (cellsD d vn vl vs).take 260 = cellsD d vn vl vs := List.take_of_length_le (by rw [cellsD_len h]; omega)
end Go.Proofs.YtefkpedhbijhkaaGreatDoor
namespace Go.Proofs.YtefkpedhbijhkaaGreatDoor
open Go Go.V Go.Proofs Go.ChangeShapes Go.WideShapes Go.RowKit
section
variable {H : Type} {enc : TypeId × Value → H} {W : World} {held : Bool} {sp : Nat → Bool}
theorem bulk_at {l : List (DataW H)} {i : Nat} (h : i < l.length) : bulkV l[i] ≤ bulkVs l := by
 induction l generalizing i with
 | nil => cases h
 | cons d l ih =>
  cases i with
  | zero => simp only [List.getElem_cons_zero, bulkVs]; omega
  | succ i =>
   have := ih (i := i) (by simpa using h)
   simp only [List.getElem_cons_succ, bulkVs]; omega
theorem rd_fints {n : Nat} {cs : List Value} {x : DataW H × List MemPlace} (h : DataW.trod enc Tryz.prog W 0 sp held n 24 cs = some x) :
  ∃ (a : Option Addr) (cap : Nat) (xs : List Int), cs = [.slice a xs.length cap] ∧ Row (fun b => W.heap[b]?) a (xs.map (Value.int .i64)) ∧ xs.length ≤ cap ∧ xs.length + 1 ≤ bulkV x.1 := by
 obtain ⟨d1, hd1, hf1⟩ := tok.und (t := 24) (k := .slice 3) rfl (by simp)
 simp only [TK.fits] at hf1; subst hf1
 obtain ⟨a, cap, ds, xs, h1, h2, h3, h4, h5, h6⟩ := rd_slice_enc hd1 (m := 1) (by kernel_rfl) (by omega) (fun n : Int => [Value.int .i64 n]) (fun d _ => 1 ≤ bulkV d) (fun n cs y hl hy => by
  obtain ⟨z, e, _, _, hb⟩ := rd_fint tok (t := 3) (k := .i64) rfl hy
  exact ⟨z, e, by omega⟩) h
 refine ⟨a, cap, xs, h1, by rw [List.map_eq_flatMap]; exact h3, h2, ?_⟩
 have := bulkVs_len ds fun d hd => by
  obtain ⟨i, hi, rfl⟩ := List.getElem_of_mem hd
  exact h5 i hi (by omega)
 omega
theorem rd_fstrs {n : Nat} {cs : List Value} {x : DataW H × List MemPlace} (h : DataW.trod enc Tryz.prog W 0 sp held n 25 cs = some x) :
  ∃ (a : Option Addr) (cap : Nat) (xs : List (List UInt8)), cs = [.slice a xs.length cap] ∧ Row (fun b => W.heap[b]?) a (xs.map str) ∧ xs.length ≤ cap ∧ xs.length + 1 ≤ bulkV x.1 ∧ ∀ s ∈ xs, s.length ≤ bulkV x.1 := by
 obtain ⟨d1, hd1, hf1⟩ := tok.und (t := 25) (k := .slice 9) rfl (by simp)
 simp only [TK.fits] at hf1; subst hf1
 obtain ⟨a, cap, ds, xs, h1, h2, h3, h4, h5, h6⟩ := rd_slice_enc hd1 (m := 1) (by kernel_rfl) (by omega) (fun s : List UInt8 => [str s]) (fun d s => s.length + 1 ≤ bulkV d) (fun n cs y hl hy => by
  obtain ⟨s, e, hb⟩ := rd_fstr tok (t := 9) rfl hy
  exact ⟨s, e, by omega⟩) h
 refine ⟨a, cap, xs, h1, by rw [List.map_eq_flatMap]; exact h3, h2, ?_, fun s hs => ?_⟩
 ·have := bulkVs_len ds fun d hd => by
   obtain ⟨i, hi, rfl⟩ := List.getElem_of_mem hd
   have := h5 i hi (by omega)
   omega
  omega
 ·obtain ⟨i, hi, rfl⟩ := List.getElem_of_mem hs
  have h7 := h5 i (by omega) hi
  have h8 := bulk_at (l := ds) (i := i) (by omega)
  omega
theorem rd_frows {n : Nat} {cs : List Value} {x : DataW H × List MemPlace} (h : DataW.trod enc Tryz.prog W 0 sp held n 23 cs = some x) :
  ∃ (v : Value) (xss : List (List Int)), cs = [v] ∧ SlS (fun b => W.heap[b]?) v xss ∧ xss.length + 1 ≤ bulkV x.1 ∧ ∀ r ∈ xss, r.length ≤ bulkV x.1 := by
 obtain ⟨d1, hd1, hf1⟩ := tok.und (t := 23) (k := .slice 24) rfl (by simp)
 simp only [TK.fits] at hf1; subst hf1
 obtain ⟨a, cap, rows, ds, spare, xs, h1, h2, h3, h4, h5, h6, h7⟩ := rd_slice hd1 (m := 1) (by kernel_rfl) (by omega) (fun cs d (r : List Int) => ∃ b c, cs = [.slice b r.length c] ∧ Row (fun b => W.heap[b]?) b (r.map (Value.int .i64)) ∧ r.length ≤ c ∧ r.length + 1 ≤ bulkV d) (fun n cs y hl hy => by
  obtain ⟨b, c, r, e, g1, g2, g3⟩ := rd_fints hy
  exact ⟨r, b, c, e, g1, g2, g3⟩) h
 have hfl : rows.flatten.length = rows.length := by
  have : ∀ l : List (List Value), (∀ i (h : i < l.length), l[i].length = 1) → l.flatten.length = l.length := fun l => by
   induction l with
   | nil => intro _; rfl
   | cons r l ih =>
    intro hh
    have h0 := hh 0 (by simp)
    have := ih fun i hi => by have := hh (i + 1) (by simp; omega); simpa using this
    simp only [List.flatten_cons, List.length_append, List.length_cons, List.getElem_cons_zero] at h0 ⊢
    omega
  exact this rows fun i hi => (h6 i hi (by omega) (by omega)).1
 have hfg : ∀ i (h : i < rows.length), rows[i] = [rows.flatten[i]'(by omega)] := by
  have : ∀ l : List (List Value), (∀ i (h : i < l.length), l[i].length = 1) → ∀ i (h : i < l.length) (h2 : i < l.flatten.length), l[i] = [l.flatten[i]] := fun l => by
   induction l with
   | nil => intro _ i h; cases h
   | cons r l ih =>
    intro hh i hi h2
    have h0 := hh 0 (by simp)
    simp only [List.getElem_cons_zero] at h0
    match r, h0 with
    | [v], _ =>
     cases i with
     | zero => simp
     | succ i =>
      have := ih (fun i hi => by have := hh (i + 1) (by simp; omega); simpa using this) i (by simpa using hi) (by simpa using h2)
      simpa using this
  exact fun i h => this rows (fun i hi => (h6 i hi (by omega) (by omega)).1) i h _
 refine ⟨_, xs, h1, ⟨a, cap, rows.flatten, rfl, h3, by omega, h2, fun i hi hi2 => ?_⟩, ?_, fun r hr => ?_⟩
 ·obtain ⟨_, b, c, e, g1, g2, _⟩ := h6 i (by omega) (by omega) hi
  rw [hfg i (by omega)] at e
  exact ⟨b, c, by simpa using e, g1, g2⟩
 ·have := bulkVs_len ds fun d hd => by
   obtain ⟨i, hi, rfl⟩ := List.getElem_of_mem hd
   obtain ⟨_, b, c, e, g1, g2, g3⟩ := h6 i (by omega) hi (by omega)
   omega
  omega
 ·obtain ⟨i, hi, rfl⟩ := List.getElem_of_mem hr
  obtain ⟨_, b, c, e, g1, g2, g3⟩ := h6 i (by omega) (by omega) hi
  have := bulk_at (l := ds) (i := i) (by omega)
  omega
theorem rd_fu8s {n : Nat} {cs : List Value} (hl : cs.length = 256) {x : DataW H × List MemPlace} (h : DataW.trod enc Tryz.prog W 0 sp held n 22 cs = some x) :
  ∃ xs : List Int, cs = xs.map (Value.int .u8) ∧ ∀ x ∈ xs, 0 ≤ x ∧ x ≤ 255 := by
 have key : ∀ k, k ≤ 256 → ∃ xs : List Int, cs.take k = xs.map (Value.int .u8) ∧ ∀ x ∈ xs, 0 ≤ x ∧ x ≤ 255 := fun k => by
  induction k with
  | zero => intro _; exact ⟨[], by simp, fun x hx => by cases hx⟩
  | succ k ih =>
   intro hk
   obtain ⟨xs, h1, h2⟩ := ih (by omega)
   obtain ⟨q, y, hy, _⟩ := rd_elem tok (t := 22) (e := 5) (m := 256) rfl h (i := k) (by omega)
   rw [show Tryz.prog.cellsOf 5 = 1 by kernel_rfl] at hy
   obtain ⟨z, e, w0, w1, _⟩ := rd_fint tok (t := 5) (k := .u8) rfl hy
   have hk2 : k < cs.length := by omega
   rw [Nat.mul_one, List.drop_eq_getElem_cons hk2] at e
   simp only [List.take_succ_cons, List.take_zero, List.cons.injEq, and_true] at e
   refine ⟨xs ++ [z], by rw [List.take_succ_eq_append_getElem hk2, h1, List.map_append, e]; rfl, fun x hx => ?_⟩
   rcases List.mem_append.1 hx with hx | hx
   ·exact h2 x hx
   ·rw [List.mem_singleton.1 hx]
    exact ⟨w0, w1⟩
 obtain ⟨xs, h1, h2⟩ := key 256 (Nat.le_refl _)
 rw [List.take_of_length_le (by omega)] at h1
 exact ⟨xs, h1, h2⟩
set_option maxRecDepth 8000 in
theorem rd_dfa {r : Reach} {b0 : Nat} {v : Value} {dt : DataW H} {ps : List MemPlace}
  (hval : Value.okWide Tryz.prog W r b0 27 v) (h : DataW.Trod enc Tryz.prog W 0 sp held 27 v dt ps) : ∃ d : DfaT, IsD (fun b => W.heap[b]?) d v ∧ (bulkV dt ≤ 1048576 → SmallD d) := by
 obtain ⟨d1, hd1, f, rfl, hf1⟩ := tok.und (t := 27) (k := .struct [(0, 22), (256, 3), (257, 23), (258, 24), (259, 25)]) rfl (by simp)
 obtain ⟨C, rfl, hC⟩ := okWide_struct hd1 hval
 rw [show Tryz.prog.cellsOf 27 = 260 by kernel_rfl] at hC
 obtain ⟨fuel, hf⟩ := h
 have hC2 : C.toList.length = 260 := by simpa using hC
 have hf' : DataW.trod enc Tryz.prog W 0 sp held fuel 27 C.toList = some (dt, ps) := hf
 obtain ⟨m0, y0, g0, w0⟩ := rd_field tok (t := 27) (fs := [(0, 22), (256, 3), (257, 23), (258, 24), (259, 25)]) rfl (i := 0) rfl hf'
 obtain ⟨m1, y1, g1, w1⟩ := rd_field tok (t := 27) (fs := [(0, 22), (256, 3), (257, 23), (258, 24), (259, 25)]) rfl (i := 1) rfl hf'
 obtain ⟨m2, y2, g2, w2⟩ := rd_field tok (t := 27) (fs := [(0, 22), (256, 3), (257, 23), (258, 24), (259, 25)]) rfl (i := 2) rfl hf'
 obtain ⟨m3, y3, g3, w3⟩ := rd_field tok (t := 27) (fs := [(0, 22), (256, 3), (257, 23), (258, 24), (259, 25)]) rfl (i := 3) rfl hf'
 obtain ⟨m4, y4, g4, w4⟩ := rd_field tok (t := 27) (fs := [(0, 22), (256, 3), (257, 23), (258, 24), (259, 25)]) rfl (i := 4) rfl hf'
 rw [show Tryz.prog.cellsOf 22 = 256 by kernel_rfl] at g0
 rw [show Tryz.prog.cellsOf 3 = 1 by kernel_rfl] at g1
 rw [show Tryz.prog.cellsOf 23 = 1 by kernel_rfl] at g2
 rw [show Tryz.prog.cellsOf 24 = 1 by kernel_rfl] at g3
 rw [show Tryz.prog.cellsOf 25 = 1 by kernel_rfl] at g4
 obtain ⟨of, e0, hb0⟩ := rd_fu8s (by rw [List.length_take, List.length_drop, hC2]; omega) g0
 obtain ⟨w, e1, _⟩ := rd_fint tok (t := 3) (k := .i64) rfl g1
 obtain ⟨vn, next, e2, hn, hn1, hn2⟩ := rd_frows g2
 obtain ⟨al, cl, label, e3, hl, hl1, hl2⟩ := rd_fints g3
 obtain ⟨ay, cy, names, e4, hy, hy1, hy2, hy3⟩ := rd_fstrs g4
 rw [List.drop_zero] at e0
 have hofl : of.length = 256 := by
  have := congrArg List.length e0
  rw [List.length_take, hC2, List.length_map] at this
  omega
 have split1 : ∀ {k : Nat} {z : Value}, k < 260 → (C.toList.drop k).take 1 = [z] → C.toList.drop k = z :: C.toList.drop (k + 1) := fun {k z} hk e => by
  rw [List.drop_eq_getElem_cons (by omega)] at e ⊢
  simp only [List.take_succ_cons, List.take_zero, List.cons.injEq, and_true] at e
  rw [e]
 have hCe : C.toList = cellsD ⟨of, w, next, label, names⟩ vn (.slice al label.length cl) (.slice ay names.length cy) := by
  rw [← List.take_append_drop 256 C.toList, e0, split1 (by omega) e1, split1 (by omega) e2, split1 (by omega) e3, split1 (by omega) e4, List.drop_of_length_le (by omega)]
  rfl
 refine ⟨⟨of, w, next, label, names⟩, ⟨hofl, hb0, vn, _, _, ?_, hn, ⟨al, cl, rfl, hl, hl1⟩, ⟨ay, cy, rfl, hy, hy1⟩⟩, fun hbk => ?_⟩
 ·rw [← hCe]
 ·simp only [] at w0 w1 w2 w3 w4
  refine ⟨by show next.length ≤ _; omega, fun r hr => by have := hn2 r hr; omega, by show label.length ≤ _; omega, by show names.length ≤ _; omega, fun s hs => by have := hy3 s hs; omega⟩
end
end Go.Proofs.YtefkpedhbijhkaaGreatDoor
namespace Go.Proofs.YtefkpedhbijhkaaGreatDoor
open Go Go.V Go.Proofs
def rowOk (d : DfaT) (s : Nat) : Prop := ∀ (h : s < d.next.length) (h2 : s < d.label.length), (d.next[s].length : Int) = d.width ∧ 0 ≤ d.label[s] ∧ d.label[s] ≤ d.names.length ∧ ∀ t ∈ d.next[s], 0 ≤ t ∧ t < d.label.length
def rowsOk (d : DfaT) : Prop := ∀ s, rowOk d s
theorem rows_t {d : DfaT} (hsm : SmallD d) (hnl : d.next.length = d.label.length) {G : PHeap} {H : Heap} {R : Value → PHeap → Heap → Prop} {v : Value} (hv : IsD G d v) (hR : R (.bool (boolOf (rowsOk d))) G H) : FnT Tryz.prog 69 [v] G H R := by
  obtain ⟨hof, hofb, vn, vl, vs, rfl, ⟨an, cn, rs, rfl, hrn, hrl, hcn, hrs⟩, ⟨al, cl, rfl, hrl', hcl⟩, ⟨ay, cs, rfl, hrs', hcs⟩⟩ := hv
  obtain ⟨hm1, hm2, hm3, hm4, hm5⟩ := hsm
  obtain ⟨C, hC⟩ : ∃ C, C = cellsD d (.slice an d.next.length cn) (.slice al d.label.length cl) (.slice ay d.names.length cs) := ⟨_, rfl⟩
  have hCl : C.length = 260 := by rw [hC]; exact cellsD_len hof _ _ _
  have hCw : C[256]? = some (.int .i64 d.width) := by rw [hC]; exact cellsD_w hof _ _ _
  have hCn : C[257]? = some (.slice an d.next.length cn) := by rw [hC]; exact cellsD_n hof _ _ _
  have hCx : C[258]? = some (.slice al d.label.length cl) := by rw [hC]; exact cellsD_l hof _ _ _
  have hCs : C[259]? = some (.slice ay d.names.length cs) := by rw [hC]; exact cellsD_s hof _ _ _
  rw [← hC]
  refine FnT.body tok [0, 1, 2, 3, 4, 5, 7, 12, 13, 14, 15, 42, 43, 44, 45, 46, 55] Tryz.func69 rfl (by kernel_rfl) (by kernel_rfl) (by show _ ≤ 58; simp) fun hsep => ?_
  rw [Tryz.results69]
  have hsE := hsep
  try simp only [zzs] at hsE
  repeat (obtain ⟨hsx, hsE⟩ := hsE)
  repeat' first
    | (with_reducible first | refine Nx.go ?_ | refine Bk.go (fun _ => ?_) fun _ => ?_)
    | (with_reducible refine NewB.mk2 fun nb hnb hnb1 hnb2 => ?_; try simp only [zzn] at hnb2)
    | simp -dsimp -implicitDefEqProofs (disch := first | assumption | (simp only [zzm]; done) | omega | (try with_reducible refine Row.adr (by assumption) ?_); simp only [zzl, Nat.reduceAdd]; first | done | omega) only [go_sem, ↓reduceIte, seval, -List.reduceReplicate, List.toList_toArray, hCl, hCw, hCn, hCx, hCs]
  refine Tri.loopU tok [0, 1, 2, 3, 4, 5, 7, 12, 13, 14, 15, 42, 43, 44, 45, 46, 55] (by kernel_rfl) [1, 2, 3, 12, 13, 14] (fun q G' fr H' => ∃ s : Nat, s + q = d.next.length ∧ (∀ j, j < s → rowOk d j) ∧ G' = G ∧ H' = (nb, .cells C [] 27) :: H ∧ fr = [(1, .pointer (some ⟨nb, 0, none⟩)), (2, .bool false), (3, .int .i64 d.label.length), (12, .slice an d.next.length cn), (13, .int .i64 d.next.length), (14, .int .i64 s)]) (d.next.length) ?_ ?_
  · exact Upd.now ⟨0, by omega, fun j h => by omega, rfl, rfl, rfl⟩
  · rintro q G1 fr H' hle hs ⟨s, hi, hno, rfl, rfl, rfl⟩
    have hsE := hs
    try simp only [zzs] at hsE
    repeat (obtain ⟨hsx, hsE⟩ := hsE)
    by_cases hsl : s < d.next.length
    · have hsv : s < rs.length := by omega
      have hsL : s < d.label.length := by omega
      obtain ⟨b, c, e1, e2, e3⟩ := hrs s hsl hsv
      have hrm := hm2 _ (List.getElem_mem hsl)
      have had : Adr an := hrn.adr (by omega)
      have had2 : Adr al := hrl'.adr (by rw [List.length_map]; omega)
      repeat' first
        | (with_reducible first | refine Nx.go ?_ | refine Bk.go (fun _ => ?_) fun _ => ?_)
        | (with_reducible refine NewB.mk2 fun nb hnb hnb1 hnb2 => ?_; try simp only [zzn] at hnb2)
        | with_reducible refine Tri.drawM tok mixed [0, 1, 2, 3, 4, 5, 7, 12, 13, 14, 15, 42, 43, 44, 45, 46, 55] 5 [3, 7, 10, 15, 18, 20] (.op 0 .plain (.op 1 .plain (.op 2 .plain (.op 3 .held (.op 4 .plain (.op 5 .plain (.op 6 .plain (.op 7 .held (.op 8 .plain (.op 9 .plain (.op 10 .held (.op 11 .plain (.op 12 .plain (.op 13 .plain (.op 14 .plain (.op 15 .held (.op 16 .plain (.op 17 .plain (.op 18 .held (.op 19 .plain (.op 20 .held (.op 21 .plain (.op 22 .plain (.op 23 .plain .nil)))))))))))))))))))))))) (by kernel_rfl) _ (List.Sublist.refl _) ?_
        | simp -dsimp -implicitDefEqProofs (disch := first | assumption | (simp only [zzm]; done) | omega | (try with_reducible refine Row.adr (by assumption) ?_); simp only [zzl, Nat.reduceAdd]; first | done | omega) only [go_sem, ↓reduceIte, seval, -List.reduceReplicate, List.toList_toArray, hCl, hCw, hCn, hCx, hCs, Row.obj hrn, e1, Row.obj hrl', List.getElem_map]
      all_goals try (
        rw [boolOf_no (p := rowsOk d) fun h => by
          obtain ⟨r1, r2, r3, r4⟩ := h s hsl hsL
          omega] at hR
        exact Upd.finL (by intro fsum; first | exact Nat.le_refl _ | (simp only [zzq]; omega)) hR rfl)
      obtain ⟨row, hrow⟩ : ∃ row, row = d.next[s] := ⟨_, rfl⟩
      have hrw : (row.length : Int) = d.width ∧ 0 ≤ d.label[s] ∧ d.label[s] ≤ d.names.length := by rw [hrow]; omega
      rw [← hrow] at e2 e3 hrm ⊢
      refine Tri.loopU tok [0, 1, 2, 3, 4, 5, 7, 12, 13, 14, 15, 42, 43, 44, 45, 46, 55] (by kernel_rfl) [1, 2, 3, 12, 13, 14, 43, 44, 45] (fun q2 G' fr H' => ∃ k : Nat, k + q2 = row.length ∧ (∀ j (h : j < row.length), j < k → 0 ≤ row[j] ∧ row[j] < d.label.length) ∧ G' = G1 ∧ H' = (nb, .cells C [] 27) :: H ∧ fr = [(1, .pointer (some ⟨nb, 0, none⟩)), (2, .bool false), (3, .int .i64 d.label.length), (12, .slice an d.next.length cn), (13, .int .i64 d.next.length), (14, .int .i64 s), (43, .slice b row.length c), (44, .int .i64 row.length), (45, .int .i64 k)]) (row.length) ?_ ?_
      · exact Upd.now ⟨0, by omega, fun j _ h => by omega, rfl, rfl, rfl⟩
      · rintro q2 G2 fr H' hle2 hs2 ⟨k, hk, hno2, rfl, rfl, rfl⟩
        by_cases hkl : k < row.length
        · have had3 : Adr b := e2.adr (by rw [List.length_map]; omega)
          repeat' first
            | (with_reducible first | refine Nx.go ?_ | refine Bk.go (fun _ => ?_) fun _ => ?_)
            | (with_reducible refine NewB.mk2 fun nb hnb hnb1 hnb2 => ?_; try simp only [zzn] at hnb2)
            | simp -dsimp -implicitDefEqProofs (disch := first | assumption | (simp only [zzm]; done) | omega | (try with_reducible refine Row.adr (by assumption) ?_); simp only [zzl, Nat.reduceAdd]; first | done | omega) only [go_sem, ↓reduceIte, seval, -List.reduceReplicate, Row.obj e2, List.getElem_map]
          all_goals first
            | (rw [boolOf_no (p := rowsOk d) fun h => by
                obtain ⟨r1, r2, r3, r4⟩ := h s hsl hsL
                have := r4 row[k] (by rw [← hrow]; exact List.getElem_mem hkl)
                omega] at hR
               exact Upd.finL (by intro fsum; first | exact Nat.le_refl _ | (simp only [zzq]; omega)) hR rfl)
            | exact Upd.now ⟨q2 - 1, by omega, k + 1, by omega, fun j h hj => by
                by_cases e : j = k
                · subst e; omega
                · exact hno2 j h (by omega), rfl, rfl, rfl⟩
        · obtain rfl : k = row.length := by omega
          repeat' first
            | (with_reducible first | refine Nx.go ?_ | refine Bk.go (fun _ => ?_) fun _ => ?_)
            | (with_reducible refine NewB.mk2 fun nb hnb hnb1 hnb2 => ?_; try simp only [zzn] at hnb2)
            | simp -dsimp -implicitDefEqProofs (disch := first | assumption | (simp only [zzm]; done) | omega | (try with_reducible refine Row.adr (by assumption) ?_); simp only [zzl, Nat.reduceAdd]; first | done | omega) only [go_sem, ↓reduceIte, seval, -List.reduceReplicate]
          exact Upd.now ⟨q - 1, by omega, s + 1, by omega, fun j hj => by
            by_cases e : j = s
            · subst e
              exact fun h1 h2 => ⟨by rw [← hrow]; omega, by omega, by omega, fun t ht => by
                rw [← hrow] at ht
                obtain ⟨j, hj, rfl⟩ := List.getElem_of_mem ht
                exact hno2 j hj hj⟩
            · exact hno j (by omega), rfl, rfl, rfl⟩
    · obtain rfl : s = d.next.length := by omega
      rw [boolOf_yes (p := rowsOk d) fun s => by
        rcases Nat.lt_or_ge s d.next.length with h | h
        · exact hno s h
        · exact fun h2 => by omega] at hR
      repeat' first
        | (with_reducible first | refine Nx.go ?_ | refine Bk.go (fun _ => ?_) fun _ => ?_)
        | (with_reducible refine NewB.mk2 fun nb hnb hnb1 hnb2 => ?_; try simp only [zzn] at hnb2)
        | simp -dsimp -implicitDefEqProofs (disch := first | assumption | (simp only [zzm]; done) | omega | (try with_reducible refine Row.adr (by assumption) ?_); simp only [zzl, Nat.reduceAdd]; first | done | omega) only [go_sem, ↓reduceIte, seval, -List.reduceReplicate]
      all_goals refine Upd.finL ?_ hR ?_
      any_goals (intro fsum; first | exact Nat.le_refl _ | (simp only [zzq]; omega))
      rfl
end Go.Proofs.YtefkpedhbijhkaaGreatDoor
namespace Go.Proofs.YtefkpedhbijhkaaGreatDoor
open Go Go.V Go.Proofs
def RightP (d : DfaT) : Prop := 1 ≤ d.label.length ∧ d.label.length ≤ 65536 ∧ d.next.length = d.label.length ∧ nums d.of = d.of ∧ ((tabO d.of).length : Int) = d.width ∧ namesOk d.names ∧ rowsOk d
structure OpenD (G : PHeap) (d : DfaT) (C : List Value) (an al ay : Option Addr) (cn cl cs : Nat) (rs : List Value) : Prop where
 len : C.length = 260
 w : C[256]? = some (.int .i64 d.width)
 n : C[257]? = some (.slice an d.next.length cn)
 l : C[258]? = some (.slice al d.label.length cl)
 s : C[259]? = some (.slice ay d.names.length cs)
 of : C.take 256 = u8L d.of
 all : C.take 260 = C
 is : IsD G d (.agg C.toArray)
 ofl : d.of.length = 256
 ofb : ∀ x ∈ d.of, 0 ≤ x ∧ x ≤ 255
 rn : Row G an rs
 rnl : rs.length = d.next.length
 rnc : d.next.length ≤ cn
 rs : ∀ i (h : i < d.next.length) (h2 : i < rs.length), ∃ b c, rs[i] = .slice b d.next[i].length c ∧ Row G b (d.next[i].map (Value.int .i64)) ∧ d.next[i].length ≤ c
 rl : Row G al (d.label.map (Value.int .i64))
 rlc : d.label.length ≤ cl
 ry : Row G ay (d.names.map str)
 ryc : d.names.length ≤ cs
theorem IsD.opened {G : PHeap} {d : DfaT} {v : Value} (h : IsD G d v) : ∃ C an al ay cn cl cs rs, v = .agg (List.toArray C) ∧ OpenD G d C an al ay cn cl cs rs := by
 have h0 := h
 obtain ⟨hof, hofb, vn, vl, vs, rfl, ⟨an, cn, rs, rfl, hrn, hrl, hcn, hrs⟩, ⟨al, cl, rfl, hrl', hcl⟩, ⟨ay, cs, rfl, hrs', hcs⟩⟩ := h
 exact ⟨_, an, al, ay, cn, cl, cs, rs, rfl, cellsD_len hof _ _ _, cellsD_w hof _ _ _, cellsD_n hof _ _ _, cellsD_l hof _ _ _, cellsD_s hof _ _ _, cellsD_of hof _ _ _, cellsD_all hof _ _ _, h0, hof, hofb, hrn, hrl, hcn, hrs, hrl', hcl, hrs', hcs⟩
theorem OpenD.mono {G G' : PHeap} (hle : PLe G G') {d : DfaT} {C : List Value} {an al ay : Option Addr} {cn cl cs : Nat} {rs : List Value} (h : OpenD G d C an al ay cn cl cs rs) : OpenD G' d C an al ay cn cl cs rs :=
 ⟨h.len, h.w, h.n, h.l, h.s, h.of, h.all, h.is.mono hle, h.ofl, h.ofb, h.rn.mono hle, h.rnl, h.rnc, fun i h1 h2 => by
  obtain ⟨b, c, e1, e2, e3⟩ := h.rs i h1 h2
  exact ⟨b, c, e1, e2.mono hle, e3⟩, h.rl.mono hle, h.rlc, h.ry.mono hle, h.ryc⟩
theorem OpenD.label {G : PHeap} {d : DfaT} {C : List Value} {an al ay : Option Addr} {cn cl cs : Nat} {rs : List Value} (h : OpenD G d C an al ay cn cl cs rs) : Sl G (Value.int .i64) (.slice al d.label.length cl) d.label := ⟨al, cl, rfl, h.rl, h.rlc⟩
theorem OpenD.names {G : PHeap} {d : DfaT} {C : List Value} {an al ay : Option Addr} {cn cl cs : Nat} {rs : List Value} (h : OpenD G d C an al ay cn cl cs rs) : Sl G str (.slice ay d.names.length cs) d.names := ⟨ay, cs, rfl, h.ry, h.ryc⟩
theorem OpenD.get {G : PHeap} {d : DfaT} {C : List Value} {an al ay : Option Addr} {cn cl cs : Nat} {rs : List Value} (h : OpenD G d C an al ay cn cl cs rs) (i : Nat) : C[i]? = C[i]? := rfl
theorem right_t {d : DfaT} (hsm : SmallD d) {G : PHeap} {H : Heap} {R : Value → PHeap → Heap → Prop} {v : Value} (hv : IsD G d v) (hR : R (.bool (boolOf (RightP d))) G H) : FnT Tryz.prog 41 [v] G H R := by
 obtain ⟨C, an, al, ay, cn, cl, cs, rs, rfl, O⟩ := hv.opened
 obtain ⟨hm1, hm2, hm3, hm4, hm5⟩ := id hsm
 have hCl := O.len
 have hCw := O.w
 have hCn := O.n
 have hCx := O.l
 have hCs := O.s
 have hCo := O.of
 have hCa := O.all
 by_cases h1 : 1 ≤ d.label.length ∧ d.label.length ≤ 65536 ∧ d.next.length = d.label.length
 ·obtain ⟨h1a, h1b, h1c⟩ := h1
  refine FnT.body tok [0, 1, 2, 3] Tryz.func41 rfl (by kernel_rfl) (by kernel_rfl) (by show _ ≤ 36; simp) fun hsep => ?_
  rw [Tryz.results41]
  have hsE := hsep
  try simp only [zzs] at hsE
  repeat (obtain ⟨hsx, hsE⟩ := hsE)
  repeat' first
   | (with_reducible first | refine Nx.go ?_ | refine Bk.go (fun _ => ?_) fun _ => ?_)
   | (with_reducible refine NewB.mk2 fun nb hnb hnb1 hnb2 => ?_; try simp only [zzn] at hnb2)
   | simp -dsimp -implicitDefEqProofs (disch := first | assumption | (simp only [zzm]; done) | omega | (try with_reducible refine Row.adr (by assumption) ?_); simp only [zzl, Nat.reduceAdd]; first | done | omega) only [go_sem, ↓reduceIte, seval, -List.reduceReplicate, List.toList_toArray, hCl, hCw, hCn, hCx, hCs, hCo, hCa]
   | with_reducible refine pright_t O.ofl d.width ?_
   | with_reducible refine names_t d.names hm4 hm5 O.names ?_
   | with_reducible refine rows_t hsm h1c O.is ?_
  ·rename_i hp hq
   refine Upd.finL (by intro fsum; first | exact Nat.le_refl _ | (simp only [zzq]; omega)) hR ?_
   rw [Bool.and_eq_true, decide_eq_true_eq, decide_eq_true_eq] at hp
   simp only [Value.bool.injEq]
   rw [Bool.eq_iff_iff, boolOf_iff, boolOf_iff]
   exact ⟨fun h => ⟨h1a, h1b, h1c, hp.1, hp.2, boolOf_iff.1 hq, h⟩, fun h => h.2.2.2.2.2.2⟩
  ·rename_i hp hq
   rw [boolOf_no fun h => by rw [boolOf_yes h.2.2.2.2.2.1] at hq; cases hq] at hR
   all_goals refine Upd.finL ?_ hR ?_
   any_goals (intro fsum; first | exact Nat.le_refl _ | (simp only [zzq]; omega))
   rfl
  ·rename_i hp
   rw [boolOf_no fun h => by rw [decide_eq_true h.2.2.2.1, decide_eq_true h.2.2.2.2.1] at hp; cases hp] at hR
   all_goals refine Upd.finL ?_ hR ?_
   any_goals (intro fsum; first | exact Nat.le_refl _ | (simp only [zzq]; omega))
   rfl
 ·rw [boolOf_no fun h => h1 ⟨h.1, h.2.1, h.2.2.1⟩] at hR
  refine FnT.body tok [0, 1, 2, 3] Tryz.func41 rfl (by kernel_rfl) (by kernel_rfl) (by show _ ≤ 36; simp) fun hsep => ?_
  rw [Tryz.results41]
  have hsE := hsep
  try simp only [zzs] at hsE
  repeat (obtain ⟨hsx, hsE⟩ := hsE)
  repeat' first
   | (with_reducible first | refine Nx.go ?_ | refine Bk.go (fun _ => ?_) fun _ => ?_)
   | (with_reducible refine NewB.mk2 fun nb hnb hnb1 hnb2 => ?_; try simp only [zzn] at hnb2)
   | simp -dsimp -implicitDefEqProofs (disch := first | assumption | (simp only [zzm]; done) | omega | (try with_reducible refine Row.adr (by assumption) ?_); simp only [zzl, Nat.reduceAdd]; first | done | omega) only [go_sem, ↓reduceIte, seval, -List.reduceReplicate, List.toList_toArray, hCl, hCw, hCn, hCx, hCs, hCo, hCa]
  all_goals try (exfalso; omega)
  all_goals refine Upd.finL ?_ hR ?_
  any_goals (intro fsum; first | exact Nat.le_refl _ | (simp only [zzq]; omega))
  all_goals rfl
end Go.Proofs.YtefkpedhbijhkaaGreatDoor
namespace Go.Proofs.YtefkpedhbijhkaaGreatDoor
open Go Go.V Go.Proofs
theorem mem_take_of {m : List Int} {i k : Nat} (h3 : i < k) (hk : k ≤ m.length) : m[i]'(by omega) ∈ m.take k := by
 rw [List.mem_iff_getElem]
 exact ⟨i, by rw [List.length_take]; omega, by rw [List.getElem_take]⟩
end Go.Proofs.YtefkpedhbijhkaaGreatDoor
namespace Go.Proofs.YtefkpedhbijhkaaGreatDoor
open Go Go.V Go.Proofs
def atL (l : List Int) (x : Int) : Int := l.getD x.toNat 0
theorem atL_get {l : List Int} {x : Int} (h : x.toNat < l.length) : atL l x = l[x.toNat] := by unfold atL; rw [List.getD_eq_getElem?_getD, List.getElem?_eq_getElem h]; rfl
end Go.Proofs.YtefkpedhbijhkaaGreatDoor
namespace Go.Proofs.YtefkpedhbijhkaaGreatDoor
open Go Go.V Go.Proofs
def toD (d : DfaT) (s : Int) (c : Nat) : Int := atL (d.next.getD s.toNat []) (d.of.getD c 0)
theorem of_bound {d : DfaT} (hok : RightP d) {x : Int} (hx : x ∈ d.of) : 0 ≤ x ∧ x < d.width := by
 obtain ⟨hk1, hk2, hk3, hk4, hk5, hk6, hk7⟩ := hok
 rw [← hk4] at hx
 have := nums_bound hx
 omega
theorem to_facts {d : DfaT} (hok : RightP d) {C : List Value} {an al ay : Option Addr} {cn cl cs : Nat} {rs : List Value} {G : PHeap} (O : OpenD G d C an al ay cn cl cs rs) {t c : Nat} (ht : t < d.label.length) (hc : c < 256) :
  ∃ (y : Nat) (z : Int) (b : Option Addr) (cc : Nat) (htn : t < d.next.length) (htv : t < rs.length) (hyk : y < d.next[t].length), y < 256 ∧ C[c]? = some (.int .u8 y) ∧ rs[t] = .slice b d.next[t].length cc ∧ Row G b (d.next[t].map (Value.int .i64)) ∧ d.next[t].length ≤ cc ∧ d.next[t][y] = z ∧ toD d (t : Nat) c = z ∧ 0 ≤ z ∧ z < d.label.length ∧ Adr an ∧ Adr b := by
 obtain ⟨hk1, hk2, hk3, hk4, hk5, hk6, hk7⟩ := id hok
 have htn : t < d.next.length := by omega
 have htv : t < rs.length := by have := O.rnl; omega
 obtain ⟨b, cc, e1, e2, e3⟩ := O.rs t htn htv
 obtain ⟨hw0, _, _, hrng⟩ := hk7 t htn ht
 have hco : c < d.of.length := by rw [O.ofl]; exact hc
 have hox := of_bound hok (List.getElem_mem hco)
 have hob := O.ofb _ (List.getElem_mem hco)
 obtain ⟨y, hy⟩ := Int.eq_ofNat_of_zero_le hox.1
 have hyk : y < (d.next[t]).length := by omega
 have hCc : C[c]? = some (.int .u8 d.of[c]) := by
  have h1 : (C.take 256)[c]? = C[c]? := by rw [List.getElem?_take, if_pos hc]
  rw [← h1, O.of]
  unfold u8L
  rw [List.getElem?_map, List.getElem?_eq_getElem hco]; rfl
 rw [hy] at hCc
 have hval : toD d (t : Nat) c = (d.next[t])[y] := by
  unfold toD
  rw [Int.toNat_natCast, List.getD_eq_getElem?_getD, List.getElem?_eq_getElem htn, List.getD_eq_getElem?_getD, List.getElem?_eq_getElem hco]
  show atL d.next[t] d.of[c] = _
  rw [hy, atL_get (by simpa using hyk)]
  simp only [Int.toNat_natCast]
 have hz := hrng _ (List.getElem_mem hyk)
 exact ⟨y, d.next[t][y], b, cc, htn, htv, hyk, by omega, hCc, e1, e2, e3, rfl, hval, hz.1, hz.2, O.rn.adr (by omega), e2.adr (by rw [List.length_map]; omega)⟩
end Go.Proofs.YtefkpedhbijhkaaGreatDoor
namespace Go.Proofs.YtefkpedhbijhkaaGreatDoor
open Go Go.V Go.Proofs
theorem DfaT.ext2 {d e : DfaT} (h1 : d.of = e.of) (h2 : d.width = e.width) (h3 : d.next = e.next) (h4 : d.label = e.label) (h5 : d.names = e.names) : d = e := by
 cases d; cases e; simp only at h1 h2 h3 h4 h5; subst h1 h2 h3 h4 h5; rfl
def runD (d : DfaT) (w : List UInt8) : Int := w.foldl (fun s b => toD d s b.toNat) 0
theorem runD_take (d : DfaT) (w : List UInt8) {i : Nat} (h : i < w.length) : runD d (w.take (i + 1)) = toD d (runD d (w.take i)) w[i].toNat := by
 unfold runD; rw [List.take_succ_eq_append_getElem h, List.foldl_append]; rfl
theorem toD_ok {d : DfaT} (hok : RightP d) (hof : d.of.length = 256) {s : Int} (hs : 0 ≤ s ∧ s < d.label.length) {c : Nat} (hc : c < 256) : 0 ≤ toD d s c ∧ toD d s c < d.label.length := by
 obtain ⟨t, rfl⟩ := Int.eq_ofNat_of_zero_le hs.1
 obtain ⟨hk1, hk2, hk3, hk4, hk5, hk6, hk7⟩ := id hok
 have htn : t < d.next.length := by omega
 have hco : c < d.of.length := by omega
 have hox := of_bound hok (List.getElem_mem hco)
 obtain ⟨y, hy⟩ := Int.eq_ofNat_of_zero_le hox.1
 obtain ⟨hw0, _, _, hrng⟩ := hk7 t htn (by omega)
 have hyk : y < (d.next[t]).length := by omega
 have hval : toD d (t : Nat) c = (d.next[t])[y] := by
  unfold toD
  rw [Int.toNat_natCast, List.getD_eq_getElem?_getD, List.getElem?_eq_getElem htn, List.getD_eq_getElem?_getD, List.getElem?_eq_getElem hco]
  show atL d.next[t] d.of[c] = _
  rw [hy, atL_get (by simpa using hyk)]
  simp only [Int.toNat_natCast]
 rw [hval]
 exact hrng _ (List.getElem_mem hyk)
theorem runD_ok {d : DfaT} (hok : RightP d) (hof : d.of.length = 256) (w : List UInt8) : 0 ≤ runD d w ∧ runD d w < d.label.length := by
 have key : ∀ i, i ≤ w.length → 0 ≤ runD d (w.take i) ∧ runD d (w.take i) < d.label.length := by
  intro i
  induction i with
  | zero => intro _; rw [List.take_zero]; have := hok.1; exact ⟨Int.le_refl 0, by show (0 : Int) < _; omega⟩
  | succ i ih =>
   intro h
   rw [runD_take d w h]
   exact toD_ok hok hof (ih (by omega)) w[i].toNat_lt
 have := key w.length (Nat.le_refl _)
 rwa [List.take_length] at this
noncomputable def runB (d : DfaT) (w : List UInt8) : Int := if boolOf (RightP d) = true then runD d w else -1
def tellD (d : DfaT) (w : List UInt8) : Int := atL d.label (runD d w)
noncomputable def tellB (d : DfaT) (w : List UInt8) : Int := if boolOf (RightP d) = true then tellD d w else 0
def nameD (d : DfaT) (k : Int) : List UInt8 := if 0 < k then d.names.getD (k - 1).toNat [] else []
theorem tellD_ok {d : DfaT} (hok : RightP d) (hof : d.of.length = 256) (w : List UInt8) : 0 ≤ tellD d w ∧ tellD d w ≤ d.names.length := by
 obtain ⟨h1, h2⟩ := runD_ok hok hof w
 unfold tellD
 obtain ⟨i, hi⟩ := Int.eq_ofNat_of_zero_le h1
 rw [hi] at h2 ⊢
 obtain ⟨hk1, hk2, hk3, hk4, hk5, hk6, hk7⟩ := id hok
 obtain ⟨_, g1, g2, _⟩ := hk7 i (by omega) (by omega)
 rw [atL_get (by simpa using h2)]
 simp only [Int.toNat_natCast]
 exact ⟨g1, g2⟩
theorem drun_t {d : DfaT} (hsm : SmallD d) {w : List UInt8} (hwl : w.length ≤ 2000000) {G : PHeap} {H : Heap} {R : Value → PHeap → Heap → Prop} {v vw : Value} (hv : IsD G d v) (hw : Sl G byteV vw w)
  (hR : R (.int .i64 (runB d w)) G H) : FnT Tryz.prog 66 [v, vw] G H R := by
 obtain ⟨C, an, al, ay, cn, cl, cs, rs, rfl, O⟩ := hv.opened
 obtain ⟨aw, cw, rfl, hwr, hwc⟩ := hw
 have hCl := O.len
 have hCa := O.all
 have hCn := O.n
 by_cases hok : RightP d
 ·have hb := boolOf_yes hok
  have hz : runB d w = runD d w := by unfold runB; rw [if_pos hb]
  rw [hz] at hR
  have hk2 := hok.2.1
  have hrnl := O.rnl
  refine FnT.body tok [0, 1, 2, 4, 5, 7, 10, 11, 12, 13, 14] Tryz.func66 rfl (by kernel_rfl) (by kernel_rfl) (by show _ ≤ 30; simp) fun hsep => ?_
  rw [Tryz.results66]
  have hsE := hsep
  try simp only [zzs] at hsE
  repeat (obtain ⟨hsx, hsE⟩ := hsE)
  repeat' first
   | (with_reducible first | refine Nx.go ?_ | refine Bk.go (fun _ => ?_) fun _ => ?_)
   | (with_reducible refine NewB.mk2 fun nb hnb hnb1 hnb2 => ?_; try simp only [zzn] at hnb2)
   | simp -dsimp -implicitDefEqProofs (disch := first | assumption | (simp only [zzm]; done) | omega | (try with_reducible refine Row.adr (by assumption) ?_); simp only [zzl, Nat.reduceAdd]; first | done | omega) only [go_sem, ↓reduceIte, seval, -List.reduceReplicate, List.toList_toArray, hCl, hCa, hb]
   | with_reducible refine right_t hsm O.is ?_
  refine Tri.loopU tok [0, 1, 2, 4, 5, 7, 10, 11, 12, 13, 14] (by kernel_rfl) [1, 2, 4, 5, 11, 12, 13] (fun q G' fr H' => ∃ i : Nat, i + q = w.length ∧ G' = G ∧ H' = (nb, .cells C [] 27) :: H ∧ fr = [(1, .slice aw w.length cw), (2, .pointer (some ⟨nb, 0, none⟩)), (4, .int .i64 0), (5, .int .i64 (runD d (w.take i))), (11, .slice aw w.length cw), (12, .int .i64 w.length), (13, .int .i64 (i : Nat))]) (w.length) (Upd.now ?_) ?_
  ·exact ⟨0, by omega, rfl, rfl, by rw [List.take_zero]; rfl⟩
  ·rintro q G1 fr H' hle hs1 ⟨i, hiq, rfl, rfl, rfl⟩
   by_cases hil : i < w.length
   ·have hadw : Adr aw := hwr.adr (by rw [List.length_map]; omega)
    have hrun := runD_take d w hil
    obtain ⟨h1, h2⟩ := runD_ok hok O.ofl (w.take i)
    obtain ⟨t, ht⟩ := Int.eq_ofNat_of_zero_le h1
    rw [ht] at h2 hrun ⊢
    have hc := w[i].toNat_lt
    generalize hcc : w[i].toNat = c at *
    obtain ⟨y, z, b, cc, htn, htv, hyk, hyb, hCc, e1, e2, e3, hz1, hval, hz2, hz3, had, had2⟩ := to_facts hok O (t := t) (by omega) hc
    have hrl := hsm.2.1 _ (List.getElem_mem htn)
    rw [hval] at hrun
    repeat' first
     | (with_reducible first | refine Nx.go ?_ | refine Bk.go (fun _ => ?_) fun _ => ?_)
     | (with_reducible refine NewB.mk2 fun nb hnb hnb1 hnb2 => ?_; try simp only [zzn] at hnb2)
     | with_reducible refine Tri.drawM tok mixed [0, 1, 2, 4, 5, 7, 10, 11, 12, 13, 14] 7 [1, 4, 8, 10] (.op 0 .plain (.op 1 .held (.op 2 .plain (.op 3 .plain (.op 4 .held (.op 5 .plain (.op 6 .plain (.op 7 .plain (.op 8 .held (.op 9 .plain (.op 10 .held (.op 11 .plain .nil)))))))))))) (by kernel_rfl) _ (List.Sublist.refl _) ?_
     | simp -dsimp -implicitDefEqProofs (disch := first | assumption | (simp only [zzm]; done) | omega | (try with_reducible refine Row.adr (by assumption) ?_); simp only [zzl, Nat.reduceAdd]; first | done | omega) only [go_sem, ↓reduceIte, seval, -List.reduceReplicate, List.toList_toArray, hCl, hCa, hCn, hCc, Row.obj hwr, byteV, hcc, Row.obj O.rn, e1, Row.obj e2, List.getElem_map, hz1]
    exact Upd.now ⟨q - 1, by omega, i + 1, by omega, rfl, rfl, by rw [hrun]; rfl⟩
   ·obtain rfl : i = w.length := by omega
    rw [List.take_length]
    repeat' first
     | (with_reducible first | refine Nx.go ?_ | refine Bk.go (fun _ => ?_) fun _ => ?_)
     | (with_reducible refine NewB.mk2 fun nb hnb hnb1 hnb2 => ?_; try simp only [zzn] at hnb2)
     | simp -dsimp -implicitDefEqProofs (disch := first | assumption | (simp only [zzm]; done) | omega | (try with_reducible refine Row.adr (by assumption) ?_); simp only [zzl, Nat.reduceAdd]; first | done | omega) only [go_sem, ↓reduceIte, seval]
    all_goals refine Upd.finL ?_ hR ?_
    any_goals (intro fsum; first | exact Nat.le_refl _ | (simp only [zzq]; omega))
    all_goals rfl
 ·have hb := boolOf_no hok
  have hz : runB d w = -1 := by unfold runB; rw [if_neg (by rw [hb]; exact Bool.false_ne_true)]
  rw [hz] at hR
  refine FnT.body tok [0, 1, 2, 4, 5, 7, 10, 11, 12, 13, 14] Tryz.func66 rfl (by kernel_rfl) (by kernel_rfl) (by show _ ≤ 30; simp) fun hsep => ?_
  rw [Tryz.results66]
  have hsE := hsep
  try simp only [zzs] at hsE
  repeat (obtain ⟨hsx, hsE⟩ := hsE)
  repeat' first
   | (with_reducible first | refine Nx.go ?_ | refine Bk.go (fun _ => ?_) fun _ => ?_)
   | (with_reducible refine NewB.mk2 fun nb hnb hnb1 hnb2 => ?_; try simp only [zzn] at hnb2)
   | simp -dsimp -implicitDefEqProofs (disch := first | assumption | (simp only [zzm]; done) | omega | (try with_reducible refine Row.adr (by assumption) ?_); simp only [zzl, Nat.reduceAdd]; first | done | omega) only [go_sem, ↓reduceIte, seval, -List.reduceReplicate, List.toList_toArray, hCl, hCa, hb]
   | with_reducible refine right_t hsm O.is ?_
  all_goals refine Upd.finL ?_ hR ?_
  any_goals (intro fsum; first | exact Nat.le_refl _ | (simp only [zzq]; omega))
  all_goals rfl
theorem dtell_t {d : DfaT} (hsm : SmallD d) {w : List UInt8} (hwl : w.length ≤ 2000000) {G : PHeap} {H : Heap} {R : Value → PHeap → Heap → Prop} {v vw : Value} (hv : IsD G d v) (hw : Sl G byteV vw w)
  (hR : R (.int .i64 (tellB d w)) G H) : FnT Tryz.prog 40 [v, vw] G H R := by
 obtain ⟨C, an, al, ay, cn, cl, cs, rs, rfl, O⟩ := hv.opened
 have hCl := O.len
 have hCa := O.all
 have hCx := O.l
 by_cases hok : RightP d
 ·have hb := boolOf_yes hok
  have hz : tellB d w = tellD d w := by unfold tellB; rw [if_pos hb]
  have hz2 : runB d w = runD d w := by unfold runB; rw [if_pos hb]
  rw [hz] at hR
  obtain ⟨h1, h2⟩ := runD_ok hok O.ofl w
  have had : Adr al := O.rl.adr (by rw [List.length_map]; omega)
  unfold tellD at hR
  obtain ⟨t, ht⟩ := Int.eq_ofNat_of_zero_le h1
  rw [ht] at h2 hz2 hR
  rw [atL_get (by simpa using h2)] at hR
  simp only [Int.toNat_natCast] at hR
  refine FnT.body tok [0, 1, 2, 4, 5, 10] Tryz.func40 rfl (by kernel_rfl) (by kernel_rfl) (by show _ ≤ 16; simp) fun hsep => ?_
  rw [Tryz.results40]
  have hsE := hsep
  try simp only [zzs] at hsE
  repeat (obtain ⟨hsx, hsE⟩ := hsE)
  repeat' first
   | (with_reducible first | refine Nx.go ?_ | refine Bk.go (fun _ => ?_) fun _ => ?_)
   | (with_reducible refine NewB.mk2 fun nb hnb hnb1 hnb2 => ?_; try simp only [zzn] at hnb2)
   | simp -dsimp -implicitDefEqProofs (disch := first | assumption | (simp only [zzm]; done) | omega | (try with_reducible refine Row.adr (by assumption) ?_); simp only [zzl, Nat.reduceAdd]; first | done | omega) only [go_sem, ↓reduceIte, seval, -List.reduceReplicate, List.toList_toArray, hCl, hCa, hCx, hz2, Row.obj O.rl, List.getElem_map]
   | with_reducible refine drun_t hsm hwl O.is hw ?_
  all_goals try (exfalso; omega)
  all_goals refine Upd.finL ?_ hR ?_
  any_goals (intro fsum; first | exact Nat.le_refl _ | (simp only [zzq]; omega))
  all_goals rfl
 ·have hb := boolOf_no hok
  have hz : tellB d w = 0 := by unfold tellB; rw [if_neg (by rw [hb]; exact Bool.false_ne_true)]
  have hz2 : runB d w = -1 := by unfold runB; rw [if_neg (by rw [hb]; exact Bool.false_ne_true)]
  rw [hz] at hR
  refine FnT.body tok [0, 1, 2, 4, 5, 10] Tryz.func40 rfl (by kernel_rfl) (by kernel_rfl) (by show _ ≤ 16; simp) fun hsep => ?_
  rw [Tryz.results40]
  have hsE := hsep
  try simp only [zzs] at hsE
  repeat (obtain ⟨hsx, hsE⟩ := hsE)
  repeat' first
   | (with_reducible first | refine Nx.go ?_ | refine Bk.go (fun _ => ?_) fun _ => ?_)
   | (with_reducible refine NewB.mk2 fun nb hnb hnb1 hnb2 => ?_; try simp only [zzn] at hnb2)
   | simp -dsimp -implicitDefEqProofs (disch := first | assumption | (simp only [zzm]; done) | omega | (try with_reducible refine Row.adr (by assumption) ?_); simp only [zzl, Nat.reduceAdd]; first | done | omega) only [go_sem, ↓reduceIte, seval, -List.reduceReplicate, List.toList_toArray, hCl, hCa, hCx, hz2]
   | with_reducible refine drun_t hsm hwl O.is hw ?_
  all_goals try (exfalso; omega)
  all_goals refine Upd.finL ?_ hR ?_
  any_goals (intro fsum; first | exact Nat.le_refl _ | (simp only [zzq]; omega))
  all_goals rfl
theorem dname_t {d : DfaT} (hsm : SmallD d) {w : List UInt8} (hwl : w.length ≤ 2000000) {G : PHeap} {H : Heap} {R : Value → PHeap → Heap → Prop} {v vw : Value} (hv : IsD G d v) (hw : Sl G byteV vw w)
  (hR : R (str (nameD d (tellB d w))) G H) : FnT Tryz.prog 19 [v, vw] G H R := by
 obtain ⟨C, an, al, ay, cn, cl, cs, rs, rfl, O⟩ := hv.opened
 have hCl := O.len
 have hCa := O.all
 have hCy := O.s
 have hbnd : 0 ≤ tellB d w ∧ tellB d w ≤ d.names.length := by
  by_cases hok : RightP d
  ·have hz : tellB d w = tellD d w := by unfold tellB; rw [if_pos (boolOf_yes hok)]
   rw [hz]; exact tellD_ok hok O.ofl w
  ·have hz : tellB d w = 0 := by unfold tellB; rw [if_neg (by rw [boolOf_no hok]; exact Bool.false_ne_true)]
   rw [hz]; omega
 have hsml := hsm.2.2.2.1
 obtain ⟨k, hk⟩ := Int.eq_ofNat_of_zero_le hbnd.1
 rw [hk] at hR hbnd
 by_cases hk0 : k = 0
 ·subst hk0
  have hnn : nameD d ((0 : Nat) : Int) = [] := by unfold nameD; rw [if_neg (by omega)]
  rw [hnn] at hR
  refine FnT.body tok [0, 1, 2, 4, 5, 10] Tryz.func19 rfl (by kernel_rfl) (by kernel_rfl) (by show _ ≤ 17; simp) fun hsep => ?_
  rw [Tryz.results19]
  have hsE := hsep
  try simp only [zzs] at hsE
  repeat (obtain ⟨hsx, hsE⟩ := hsE)
  repeat' first
   | (with_reducible first | refine Nx.go ?_ | refine Bk.go (fun _ => ?_) fun _ => ?_)
   | (with_reducible refine NewB.mk2 fun nb hnb hnb1 hnb2 => ?_; try simp only [zzn] at hnb2)
   | simp -dsimp -implicitDefEqProofs (disch := first | assumption | (simp only [zzm]; done) | omega | (try with_reducible refine Row.adr (by assumption) ?_); simp only [zzl, Nat.reduceAdd]; first | done | omega) only [go_sem, ↓reduceIte, seval, -List.reduceReplicate, List.toList_toArray, hCl, hCa, hCy, hk]
   | with_reducible refine dtell_t hsm hwl O.is hw ?_
  all_goals try (exfalso; omega)
  all_goals refine Upd.finL ?_ hR ?_
  any_goals (intro fsum; first | exact Nat.le_refl _ | (simp only [zzq]; omega))
  all_goals rfl
 ·obtain ⟨j, rfl⟩ : ∃ j, k = j + 1 := ⟨k - 1, by omega⟩
  have hj : j < d.names.length := by omega
  have had : Adr ay := O.ry.adr (by rw [List.length_map]; omega)
  have hnn : nameD d ((j + 1 : Nat) : Int) = d.names[j] := by
   unfold nameD
   rw [if_pos (by omega), show (((j + 1 : Nat) : Int) - 1).toNat = j by omega, List.getD_eq_getElem?_getD, List.getElem?_eq_getElem hj, Option.getD_some]
  rw [hnn] at hR
  have hsub : ((j + 1 : Nat) : Int) - 1 = (j : Nat) := by omega
  refine FnT.body tok [0, 1, 2, 4, 5, 10] Tryz.func19 rfl (by kernel_rfl) (by kernel_rfl) (by show _ ≤ 17; simp) fun hsep => ?_
  rw [Tryz.results19]
  have hsE := hsep
  try simp only [zzs] at hsE
  repeat (obtain ⟨hsx, hsE⟩ := hsE)
  repeat' first
   | (with_reducible first | refine Nx.go ?_ | refine Bk.go (fun _ => ?_) fun _ => ?_)
   | (with_reducible refine NewB.mk2 fun nb hnb hnb1 hnb2 => ?_; try simp only [zzn] at hnb2)
   | simp -dsimp -implicitDefEqProofs (disch := first | assumption | (simp only [zzm]; done) | omega | (try with_reducible refine Row.adr (by assumption) ?_); simp only [zzl, Nat.reduceAdd]; first | done | omega) only [go_sem, ↓reduceIte, seval, -List.reduceReplicate, List.toList_toArray, hCl, hCa, hCy, hk, hsub, Row.obj O.ry, List.getElem_map]
   | with_reducible refine dtell_t hsm hwl O.is hw ?_
  all_goals try (exfalso; omega)
  all_goals refine Upd.finL ?_ hR ?_
  any_goals (intro fsum; first | exact Nat.le_refl _ | (simp only [zzq]; omega))
  all_goals rfl
end Go.Proofs.YtefkpedhbijhkaaGreatDoor
namespace Go.Proofs.YtefkpedhbijhkaaGreatDoor
open Go Go.V Go.Proofs
section bare
variable {α : Type}
theorem tab_len {cell : α → List Value} {m : Nat} (hm : ∀ x, (cell x).length = m) (ks : List α) (k : α) : ((ks ++ [k]).flatMap cell).length = (ks ++ [k]).length * m := flatMap_len hm _
theorem tab_cap {cell : α → List Value} {m : Nat} (hm : ∀ x, (cell x).length = m) (ks : List α) (k : α) {s c : Nat} (h : (ks.length + 1) * m + s = c) : ((ks ++ [k]).flatMap cell).length + s = c := by
 rw [flatMap_len hm]; simpa using h
end bare
section plain
variable {α : Type} [DecidableEq α]
def putF (ks : List α) (k : α) : List α × Int × Bool := match place ks k with | some n => (ks, (n : Int), false) | none => (ks ++ [k], (ks.length : Int), true)
theorem putF_nodup {ks : List α} (h : ks.Nodup) (k : α) : (putF ks k).1.Nodup := by
 unfold putF
 split
 ·exact h
 ·rename_i hn
  exact List.nodup_append.2 ⟨h, by simp, fun a ha b hb => by
   obtain rfl : b = k := by simpa using hb
   intro e; subst e; exact place_none hn ha⟩
theorem putF_old {ks : List α} {k : α} {n : Nat} (h : place ks k = some n) : putF ks k = (ks, (n : Int), false) := by unfold putF; rw [h]
theorem putF_new {ks : List α} {k : α} (h : place ks k = none) : putF ks k = (ks ++ [k], (ks.length : Int), true) := by unfold putF; rw [h]
end plain
def Tab {α : Type} [DecidableEq α] (enc : α → Value) (cell : α → List Value) (m : Nat) (st et : TypeId) (tb : Heap) (pt : Value) (ks : List α) : Prop :=
 ks.Nodup ∧ ∃ bt bm v kb, pt = .pointer (some ⟨bt, 0, none⟩) ∧ tb = (bt, .cells [.map (some bm), v] [] st) :: (bm, .map ((numb 0 ks).map fun p => (enc p.1, Value.int .i64 p.2))) :: kb ∧ SliceO [] et m v ks.length (ks.flatMap cell) kb
theorem findV_nil (T : Tys) (t : TypeId) (k : Value) : findV T t k [] = some none := rfl
theorem putV_nil (T : Tys) (t : TypeId) (k v : Value) : putV T t k v [] = some [(k, v)] := rfl
theorem hesB : KeyEnc T 9 str := keyEnc_str (T := T) (t := 9) rfl
abbrev Tabs (tb : Heap) (pt : Value) (ks : List (List UInt8)) : Prop := Tab str (fun k => [str k]) 1 85 9 tb pt ks
theorem news_t {G : PHeap} {H : Heap} {R : Value → PHeap → Heap → Prop} (hR : ∀ tb pt, Sep G (keys (tb ++ H)) → Tabs tb pt [] → R pt G (tb ++ H)) : FnT Tryz.prog 42 [] G H R := by
 refine FnT.sep ?_
 refine FnT.body tok [0] Tryz.func42 rfl (by kernel_rfl) (by kernel_rfl) (by show _ ≤ 4; simp) fun hsep => ?_
 rw [Tryz.results42]
 have hsE := hsep
 try simp only [zzs] at hsE
 repeat (obtain ⟨hsx, hsE⟩ := hsE)
 repeat' first
  | (with_reducible first | refine Nx.go ?_ | refine Bk.go (fun _ => ?_) fun _ => ?_)
  | ((with_reducible first | refine NewB.mk2 fun nb hnb hnb1 hnb2 => ?_ | refine NewRow.mk2 fun nb nsp ncap hnb hncap hnb1 hnb2 => ?_); try simp only [zzn] at hnb2)
  | simp -dsimp -implicitDefEqProofs (disch := first | assumption | (simp only [zzm]; done) | omega | (try with_reducible refine Row.adr (by assumption) ?_); simp only [zzl, Nat.reduceAdd]; first | done | omega) only [go_sem, ↓reduceIte, seval]
 rename_i b0 hb0 _ _
 refine Upd.now (fun _ hs => hR [(nb, _), (b0, _)] _ hs ⟨List.nodup_nil, nb, b0, _, [], rfl, rfl, .inl ⟨_, rfl, rfl, rfl, rfl⟩⟩)
theorem puts_t (k : List UInt8) {tb : Heap} {pt : Value} {ks : List (List UInt8)} (ht : Tabs tb pt ks) (hlen : ks.length ≤ 1000000) {G : PHeap} {H : Heap} {R : Value → PHeap → Heap → Prop}
  (hR : ∀ tb', Sep G (keys (tb' ++ H)) → Tabs tb' pt (putF ks k).1 → R (.tuple #[.int .i64 (putF ks k).2.1, .bool (putF ks k).2.2]) G (tb' ++ H)) : FnT Tryz.prog 70 [pt, (str k)] G (tb ++ H) R := by
 obtain ⟨hnd, bt, bm, v, kb, rfl, rfl, hv⟩ := ht
 refine FnT.sep ?_
 have hnd' := putF_nodup hnd k
 have hfl := flatMap_len (enc := (fun k => [str k])) (m := 1) (fun _ => rfl) ks
 rcases hv with ⟨a0, rfl, hn, hx, rfl⟩ | ⟨b1, cap, sp, rfl, rfl, hx, hc⟩
 ·obtain rfl : ks = [] := List.eq_nil_of_length_eq_zero hn
  rw [putF_new (place_nil _)] at hR hnd'
  refine FnT.body tok [0, 1, 4, 5, 6, 7, 8, 10, 20] Tryz.func70 rfl (by kernel_rfl) (by kernel_rfl) (by show _ ≤ 44; simp) fun hsep => ?_
  rw [Tryz.results70]
  have hsE := hsep
  try simp only [zzs] at hsE
  repeat (obtain ⟨hsx, hsE⟩ := hsE)
  repeat' first
   | (with_reducible first | refine Nx.go ?_ | refine Bk.go (fun _ => ?_) fun _ => ?_ | refine foundO.mk (fun _ _ => ?_) (fun _ => ?_))
   | ((with_reducible first | refine NewB.mk2 fun nb hnb hnb1 hnb2 => ?_ | refine NewRow.mk2 fun nb nsp ncap hnb hncap hnb1 hnb2 => ?_); try simp only [zzn] at hnb2)
   | simp -dsimp -implicitDefEqProofs (disch := first | assumption | (simp only [zzm]; done) | omega | (try with_reducible refine Row.adr (by assumption) ?_); simp only [zzl, Nat.reduceAdd]; first | done | omega) only [go_sem, ↓reduceIte, seval, findV_nil, putV_nil, keyOk_enc hesB, numb_nil]
  try unfold UpdR
  refine Upd.pick [bt, bm, nb] ?_
  simp -dsimp -implicitDefEqProofs (disch := first | assumption | (simp only [zzm]; done) | omega | (try with_reducible refine Row.adr (by assumption) ?_); simp only [zzl, Nat.reduceAdd]; first | done | omega) only [go_sem, ↓reduceIte, seval]
  refine Upd.sub (H' := _ :: _ :: _ :: H) (by repeat (first | exact List.Sublist.refl _ | refine List.Sublist.cons_cons _ ?_ | refine List.Sublist.cons _ ?_)) ?_
  exact fun _ hs => cast_R (R := R) (hR [(bt, .cells [.map (some bm), .slice (some ⟨nb, 0, none⟩) (1) ncap] [] 85), (bm, .map [((str k), .int .i64 0)]), (nb, .cells ([str k]) nsp 9)] hs ⟨hnd', bt, bm, _, [_], rfl, rfl, .inr ⟨nb, ncap, nsp, rfl, rfl, rfl, hncap⟩⟩) rfl
 ·refine FnT.body tok [0, 1, 4, 5, 6, 7, 8, 10, 20] Tryz.func70 rfl (by kernel_rfl) (by kernel_rfl) (by show _ ≤ 44; simp) fun hsep => ?_
  rw [Tryz.results70]
  have hsE := hsep
  try simp only [zzs] at hsE
  repeat (obtain ⟨hsx, hsE⟩ := hsE)
  repeat' first
   | (with_reducible first | refine Nx.go ?_ | refine Bk.go (fun _ => ?_) fun _ => ?_ | refine foundO.mk (fun _ _ => ?_) (fun _ => ?_))
   | ((with_reducible first | refine NewB.mk2 fun nb hnb hnb1 hnb2 => ?_ | refine NewRow.mk2 fun nb nsp ncap hnb hncap hnb1 hnb2 => ?_); try simp only [zzn] at hnb2)
   | simp -dsimp -implicitDefEqProofs (disch := first | assumption | (simp only [zzm]; done) | omega | (try with_reducible refine Row.adr (by assumption) ?_); simp only [zzl, Nat.reduceAdd]; first | done | omega) only [go_sem, ↓reduceIte, seval, findV_enc hesB (Value.int .i64), keyOk_enc hesB, aget_numb0, Option.map_map, putV_enc hesB (Value.int .i64), aput_new]
  ·rename_i n hp
   rw [putF_old hp] at hR
   try unfold UpdR
   refine Upd.pick [bt, bm, b1] ?_
   simp -dsimp -implicitDefEqProofs (disch := first | assumption | (simp only [zzm]; done) | omega | (try with_reducible refine Row.adr (by assumption) ?_); simp only [zzl, Nat.reduceAdd]; first | done | omega) only [go_sem, ↓reduceIte, seval]
   refine Upd.sub (H' := _ :: _ :: _ :: H) (by repeat (first | exact List.Sublist.refl _ | refine List.Sublist.cons_cons _ ?_ | refine List.Sublist.cons _ ?_)) ?_
   exact fun _ hs => cast_R (R := R) (hR [(bt, .cells [.map (some bm), .slice (some ⟨b1, 0, none⟩) (ks.length) cap] [] 85), (bm, .map ((numb 0 (ks)).map fun p => (str p.1, Value.int .i64 p.2))), (b1, .cells (ks.flatMap (fun k => [str k])) sp 9)] hs ⟨hnd, bt, bm, _, [_], rfl, rfl, .inr ⟨b1, cap, sp, rfl, rfl, hx, hc⟩⟩) rfl
  ·have hp : place ks k = none := by assumption
   rw [putF_new hp] at hR hnd'
   have el : (ks ++ [k]).length = ks.length + 1 := by simp
   have ef : (ks ++ [k]).flatMap (fun k => [str k]) = ks.flatMap (fun k => [str k]) ++ (fun k => [str k]) k := by simp
   try unfold UpdR
   refine Upd.pick [bt, bm, nb] ?_
   simp -dsimp -implicitDefEqProofs (disch := first | assumption | (simp only [zzm]; done) | omega | (try with_reducible refine Row.adr (by assumption) ?_); simp only [zzl, Nat.reduceAdd]; first | done | omega) only [go_sem, ↓reduceIte, seval]
   refine Upd.sub (H' := _ :: _ :: _ :: H) (by repeat (first | exact List.Sublist.refl _ | refine List.Sublist.cons_cons _ ?_ | refine List.Sublist.cons _ ?_)) ?_
   exact fun _ hs => cast_R (R := R) (hR [(bt, .cells [.map (some bm), .slice (some ⟨nb, 0, none⟩) (ks.length + 1) ncap] [] 85), (bm, .map ((numb 0 (ks ++ [k])).map fun p => (str p.1, Value.int .i64 p.2))), (nb, .cells (ks.flatMap (fun k => [str k]) ++ [str k]) nsp 9)] hs ⟨hnd', bt, bm, _, [_], rfl, rfl, .inr ⟨nb, ncap, nsp, by rw [el], by first | (rw [ef]; done) | (rw [ef]; rfl), tab_len (cell := (fun k => [str k])) (m := 1) (fun _ => rfl) ks k, tab_cap (cell := (fun k => [str k])) (m := 1) (fun _ => rfl) ks k hncap⟩⟩) rfl
end Go.Proofs.YtefkpedhbijhkaaGreatDoor
namespace Go.Proofs.YtefkpedhbijhkaaGreatDoor
open Go Go.V Go.Proofs
section lists
variable {α : Type} [DecidableEq α] (z : α)
def behA (next : List (List Int)) (f : List α) (k : Nat) : List α := next.map fun row => f.getD (row.getD k 0).toNat z
def behsA (next : List (List Int)) (w : Nat) (f : List α) : List (List α) := (List.range w).map (behA z next f)
def metA (ls : List (List α)) (x : List α) : List (List α) := if x ∈ ls then ls else ls ++ [x]
def lsA (next : List (List Int)) (w : Nat) (f0 : List α) : Nat → List (List α)
 | 0 => [f0]
 | i + 1 => match (lsA next w f0 i)[i]? with
  | some f => (behsA z next w f).foldl metA (lsA next w f0 i)
  | none => lsA next w f0 i
end lists
section plain
variable {α : Type} [DecidableEq α] {z : α}
theorem metA_prefix (ls : List (List α)) (x : List α) : ls <+: metA ls x := by
 unfold metA; split
 ·exact List.prefix_refl _
 ·exact List.prefix_append _ _
theorem metA_mem (ls : List (List α)) (x : List α) : x ∈ metA ls x := by
 unfold metA; split
 ·assumption
 ·simp
theorem metA_nodup {ls : List (List α)} (h : ls.Nodup) (x : List α) : (metA ls x).Nodup := by
 unfold metA; split
 ·exact h
 ·rename_i hn
  exact List.nodup_append.2 ⟨h, by simp, fun a ha b hb => by
   rw [List.mem_singleton] at hb
   intro e; subst e; subst hb; exact hn ha⟩
theorem metA_of {ls : List (List α)} {x y : List α} (h : y ∈ metA ls x) : y ∈ ls ∨ y = x := by
 unfold metA at h; split at h
 ·exact .inl h
 ·simpa using h
theorem foldA_prefix (xs : List (List α)) : ∀ ls : List (List α), ls <+: xs.foldl metA ls := by
 induction xs with
 | nil => intro ls; exact List.prefix_refl _
 | cons x xs ih => intro ls; exact (metA_prefix ls x).trans (ih _)
theorem foldA_mem {xs : List (List α)} {x : List α} (hx : x ∈ xs) : ∀ ls : List (List α), x ∈ xs.foldl metA ls := by
 induction xs with
 | nil => cases hx
 | cons y xs ih =>
  intro ls
  rcases List.mem_cons.1 hx with rfl | hx
  ·exact (foldA_prefix xs _).subset (metA_mem ls x)
  ·exact ih hx _
theorem foldA_nodup (xs : List (List α)) : ∀ {ls : List (List α)}, ls.Nodup → (xs.foldl metA ls).Nodup := by
 induction xs with
 | nil => intro ls h; exact h
 | cons x xs ih => intro ls h; exact ih (metA_nodup h x)
theorem foldA_of {xs : List (List α)} {y : List α} : ∀ {ls : List (List α)}, y ∈ xs.foldl metA ls → y ∈ ls ∨ y ∈ xs := by
 induction xs with
 | nil => intro ls h; exact .inl h
 | cons x xs ih =>
  intro ls h
  rcases ih h with h | h
  ·rcases metA_of h with h | rfl
   ·exact .inl h
   ·exact .inr (List.mem_cons_self ..)
  ·exact .inr (List.mem_cons_of_mem _ h)
theorem lsA_succ {next : List (List Int)} {w : Nat} {f0 : List α} {i : Nat} (h : i < (lsA z next w f0 i).length) : lsA z next w f0 (i + 1) = (behsA z next w (lsA z next w f0 i)[i]).foldl metA (lsA z next w f0 i) := by
 show (match (lsA z next w f0 i)[i]? with | some f => _ | none => _) = _
 rw [List.getElem?_eq_getElem h]
theorem lsA_still {next : List (List Int)} {w : Nat} {f0 : List α} {i : Nat} (h : (lsA z next w f0 i).length ≤ i) : lsA z next w f0 (i + 1) = lsA z next w f0 i := by
 show (match (lsA z next w f0 i)[i]? with | some f => _ | none => _) = _
 rw [List.getElem?_eq_none h]
theorem lsA_prefix1 (next : List (List Int)) (w : Nat) (f0 : List α) (i : Nat) : lsA z next w f0 i <+: lsA z next w f0 (i + 1) := by
 by_cases h : i < (lsA z next w f0 i).length
 ·rw [lsA_succ h]; exact foldA_prefix _ _
 ·rw [lsA_still (by omega)]; exact List.prefix_refl _
theorem lsA_prefix (next : List (List Int)) (w : Nat) (f0 : List α) {i j : Nat} (h : i ≤ j) : lsA z next w f0 i <+: lsA z next w f0 j := by
 obtain ⟨k, rfl⟩ := Nat.exists_eq_add_of_le h
 induction k with
 | zero => exact List.prefix_refl _
 | succ k ih => exact (ih (by omega)).trans (lsA_prefix1 next w f0 (i + k))
theorem lsA_nodup (next : List (List Int)) (w : Nat) (f0 : List α) : ∀ i, (lsA z next w f0 i).Nodup
 | 0 => by simp [lsA]
 | i + 1 => by
  by_cases h : i < (lsA z next w f0 i).length
  ·rw [lsA_succ h]; exact foldA_nodup _ (lsA_nodup next w f0 i)
  ·rw [lsA_still (by omega)]; exact lsA_nodup next w f0 i
theorem lsA_pos (next : List (List Int)) (w : Nat) (f0 : List α) (i : Nat) : 0 < (lsA z next w f0 i).length := by
 have := (lsA_prefix (z := z) next w f0 (Nat.zero_le i)).length_le
 have h1 : (lsA z next w f0 0).length = 1 := rfl
 omega
theorem lsA_len {next : List (List Int)} {w : Nat} {f0 : List α} (h0 : f0.length = next.length) : ∀ i, ∀ f ∈ lsA z next w f0 i, f.length = next.length
 | 0, f, hf => by
  have : f = f0 := by simpa [lsA] using hf
  rw [this, h0]
 | i + 1, f, hf => by
  by_cases h : i < (lsA z next w f0 i).length
  ·rw [lsA_succ h] at hf
   rcases foldA_of hf with hf | hf
   ·exact lsA_len h0 i f hf
   ·obtain ⟨k, _, rfl⟩ := List.mem_map.1 hf
    unfold behA; rw [List.length_map]
  ·rw [lsA_still (by omega)] at hf
   exact lsA_len h0 i f hf
theorem lsA_stop {next : List (List Int)} {w : Nat} {f0 : List α} {i : Nat} (h : (lsA z next w f0 i).length ≤ i) : ∀ j, i ≤ j → lsA z next w f0 j = lsA z next w f0 i := by
 intro j hj
 obtain ⟨k, rfl⟩ := Nat.exists_eq_add_of_le hj
 induction k with
 | zero => rfl
 | succ k ih =>
  have ih := ih (by omega)
  rw [show i + (k + 1) = (i + k) + 1 by omega, lsA_still (by rw [ih]; omega), ih]
theorem lsA_closed {next : List (List Int)} {w : Nat} {f0 : List α} {m i k : Nat} (hi : i < m) (hl : i < (lsA z next w f0 m).length) (hk : k < w) : behA z next ((lsA z next w f0 m)[i]) k ∈ lsA z next w f0 m := by
 have h1 : i < (lsA z next w f0 i).length := by
  apply Classical.byContradiction
  intro hn
  have := lsA_stop (z := z) (next := next) (w := w) (f0 := f0) (i := i) (by omega) m (by omega)
  rw [this] at hl
  omega
 have h2 : (lsA z next w f0 i)[i] = (lsA z next w f0 m)[i] := (lsA_prefix (z := z) next w f0 (by omega : i ≤ m)).getElem h1
 have h3 : behA z next (lsA z next w f0 i)[i] k ∈ lsA z next w f0 (i + 1) := by
  rw [lsA_succ h1]
  exact foldA_mem (List.mem_map.2 ⟨k, List.mem_range.2 hk, rfl⟩) _
 rw [h2] at h3
 exact (lsA_prefix (z := z) next w f0 (by omega : i + 1 ≤ m)).subset h3
theorem lsA_word {next : List (List Int)} {w : Nat} {f0 : List α} : ∀ m, ∀ f ∈ lsA z next w f0 m, ∃ ks : List Nat, (∀ k ∈ ks, k < w) ∧ f = ks.foldl (behA z next) f0
 | 0, f, hf => ⟨[], by simp, by simpa [lsA] using hf⟩
 | m + 1, f, hf => by
  by_cases h : m < (lsA z next w f0 m).length
  ·rw [lsA_succ h] at hf
   rcases foldA_of hf with hf | hf
   ·exact lsA_word m f hf
   ·obtain ⟨k, hk, rfl⟩ := List.mem_map.1 hf
    obtain ⟨ks, h1, h2⟩ := lsA_word m _ (List.getElem_mem h)
    refine ⟨ks ++ [k], fun x hx => ?_, ?_⟩
    ·rcases List.mem_append.1 hx with hx | hx
     ·exact h1 x hx
     ·rw [List.mem_singleton] at hx; rw [hx]; exact List.mem_range.1 hk
    ·rw [List.foldl_append, ← h2]; rfl
  ·rw [lsA_still (by omega)] at hf
   exact lsA_word m f hf
end plain
end Go.Proofs.YtefkpedhbijhkaaGreatDoor
namespace Go.Proofs.YtefkpedhbijhkaaGreatDoor
open Go Go.V Go.Proofs
end Go.Proofs.YtefkpedhbijhkaaGreatDoor
namespace Go.Proofs.YtefkpedhbijhkaaGreatDoor
open Go Go.V Go.Proofs
end Go.Proofs.YtefkpedhbijhkaaGreatDoor
namespace Go.Proofs.YtefkpedhbijhkaaGreatDoor
open Go Go.V Go.Proofs
theorem clones_t (l : List (List UInt8)) (hlen : l.length ≤ 2000000) {G : PHeap} {H : Heap} {R : Value → PHeap → Heap → Prop} {v : Value} (hv : Sl G str v l)
  (hR : ∀ G' v', PLe G G' → Sep G' (keys H) → Sl G' str v' l → R v' G' H) : FnT Tryz.prog 44 [v] G H R := by
 obtain ⟨a, cap, rfl, hrow, hcap⟩ := hv
 refine FnT.sep ?_
 rcases a with _ | a
 ·have h0 : l = [] := List.eq_nil_of_length_eq_zero (by
   rcases Nat.eq_zero_or_pos l.length with h | h
   ·exact h
   ·have := hrow.adr (by rw [List.length_map]; exact h)
    cases this)
  subst h0
  refine FnT.body tok [0, 2, 4] Tryz.func44 rfl (by kernel_rfl) (by kernel_rfl) (by show _ ≤ 8; simp) fun hsep => ?_
  rw [Tryz.results44]
  have hsE := hsep
  try simp only [zzs] at hsE
  repeat (obtain ⟨hsx, hsE⟩ := hsE)
  repeat' first
   | (with_reducible first | refine Nx.go ?_ | refine Bk.go (fun _ => ?_) fun _ => ?_)
   | ((with_reducible first | refine NewB.mk2 fun nb hnb hnb1 hnb2 => ?_ | refine NewRow.mk2 fun nb nsp ncap hnb hncap hnb1 hnb2 => ?_); try simp only [zzn] at hnb2)
   | simp -dsimp -implicitDefEqProofs (disch := first | assumption | (simp only [zzm]; done) | omega | (try with_reducible refine Row.adr (by assumption) ?_); simp only [zzl, Nat.reduceAdd]; first | done | omega) only [go_sem, ↓reduceIte, seval]
  unfold UpdR
  refine Upd.leave (H' := H) (by intro fsum; first | exact Nat.le_refl _ | (simp only [zzq]; omega)) ?_
  exact fun hle hs => hR G _ (PLe.refl _) hs (Sl.nil _ _)
 ·refine FnT.body tok [0, 2, 4] Tryz.func44 rfl (by kernel_rfl) (by kernel_rfl) (by show _ ≤ 8; simp) fun hsep => ?_
  rw [Tryz.results44]
  have hsE := hsep
  try simp only [zzs] at hsE
  repeat (obtain ⟨hsx, hsE⟩ := hsE)
  repeat' first
   | (with_reducible first | refine Nx.go ?_ | refine Bk.go (fun _ => ?_) fun _ => ?_)
   | ((with_reducible first | refine NewB.mk2 fun nb hnb hnb1 hnb2 => ?_ | refine NewRow.mk2 fun nb nsp ncap hnb hncap hnb1 hnb2 => ?_); try simp only [zzn] at hnb2)
   | simp -dsimp -implicitDefEqProofs (disch := first | assumption | (simp only [zzm]; done) | omega | (try with_reducible refine Row.adr (by assumption) ?_); simp only [zzl, Nat.reduceAdd]; first | done | omega) only [go_sem, ↓reduceIte, seval, Row.rdSlAll hrow, List.length_map]
  ·rename_i h0
   have h0 : l = [] := List.eq_nil_of_length_eq_zero h0
   subst h0
   unfold UpdR
   refine Upd.leave (H' := H) (by intro fsum; first | exact Nat.le_refl _ | (simp only [zzq]; omega)) ?_
   exact fun hle hs => hR G _ (PLe.refl _) hs ⟨_, 0, rfl, Row.nil _ _, Nat.le_refl _⟩
  ·unfold UpdR
   refine Upd.go (H' := (nb, .cells (l.map str) nsp 9) :: H) (by intro fsum; first | exact Nat.le_refl _ | (simp only [zzq]; omega)) (Upd.shareRow (by assumption) fun G2 hle2 hs2 hr2 => ?_)
   exact fun hle hs => hR G2 _ hle2 hs ⟨some ⟨nb, 0, none⟩, ncap, rfl, hr2, by omega⟩
def zeroD : DfaT := ⟨List.replicate 256 0, 0, [], [], []⟩
abbrev zeroC : List Value := List.replicate 256 (Value.int .u8 0) ++ [Value.int .i64 0, Value.slice none 0 0, Value.slice none 0 0, Value.slice none 0 0]
theorem zeroC_len : zeroC.length = 260 := by rw [List.length_append, List.length_replicate]; rfl
theorem zeroC_one : zeroC.all oneV = true := by rw [List.all_append, List.all_replicate]; rfl
theorem zeroC_take : List.take 260 zeroC = zeroC := List.take_of_length_le (by rw [zeroC_len]; omega)
theorem zeroC_put : splice zeroC 0 zeroC = zeroC := by
 unfold splice
 rw [List.take_zero, List.nil_append, List.drop_of_length_le (by rw [zeroC_len]; omega), List.append_nil]
theorem zeroD_cells : cellsD zeroD (.slice none 0 0) (.slice none 0 0) (.slice none 0 0) = zeroC := by
 unfold cellsD zeroD u8L
 rw [List.map_replicate]
theorem zeroD_is (G : PHeap) : IsD G zeroD (.agg (List.toArray zeroC)) := by
 rw [← zeroD_cells]
 refine ⟨List.length_replicate .., fun x hx => ?_, _, _, _, rfl, ⟨none, 0, [], rfl, Row.nil _ _, rfl, Nat.le_refl _, fun i h => by cases h⟩, Sl.nil _ _, Sl.nil _ _⟩
 have : x = 0 := by
  unfold zeroD at hx
  exact List.eq_of_mem_replicate hx
 omega
theorem cellsD_putN {d : DfaT} (h : d.of.length = 256) (vn vl vs x : Value) : splice (cellsD d vn vl vs) 257 [x] = cellsD d x vl vs := by
 unfold splice cellsD
 have hl : (u8L d.of).length = 256 := by rw [List.length_map, h]
 rw [show 257 = (u8L d.of).length + 1 by omega, List.take_length_add_append, List.length_singleton, show (u8L d.of).length + 1 + 1 = (u8L d.of).length + 2 by omega, List.drop_length_add_append, List.append_assoc, List.append_assoc]
 rfl
theorem cellsD_putL {d : DfaT} (h : d.of.length = 256) (vn vl vs x : Value) : splice (cellsD d vn vl vs) 258 [x] = cellsD d vn x vs := by
 unfold splice cellsD
 have hl : (u8L d.of).length = 256 := by rw [List.length_map, h]
 rw [show 258 = (u8L d.of).length + 2 by omega, List.take_length_add_append, List.length_singleton, show (u8L d.of).length + 2 + 1 = (u8L d.of).length + 3 by omega, List.drop_length_add_append, List.append_assoc, List.append_assoc]
 rfl
end Go.Proofs.YtefkpedhbijhkaaGreatDoor
namespace Go.Proofs.YtefkpedhbijhkaaGreatDoor
open Go Go.V Go.Proofs
theorem map_inj {α β : Type} {g : α → β} (hg : ∀ a b, g a = g b → a = b) : ∀ {xs ys : List α}, xs.map g = ys.map g → xs = ys := fun {xs ys} h => by
 induction xs generalizing ys with
 | nil => cases ys with
  | nil => rfl
  | cons y ys => cases h
 | cons x xs ih =>
  cases ys with
  | nil => cases h
  | cons y ys =>
   simp only [List.map_cons, List.cons.injEq] at h
   rw [hg _ _ h.1, ih h.2]
section maps
variable {α β : Type} [DecidableEq α] [DecidableEq β] {g : α → β} (hg : ∀ a b, g a = g b → a = b) {z : α}
theorem behA_map (next : List (List Int)) (f : List α) (k : Nat) : behA (g z) next (f.map g) k = (behA z next f k).map g := by
 unfold behA
 rw [List.map_map]
 refine List.map_congr_left fun row _ => ?_
 have h : ∀ n, (f.map g).getD n (g z) = g (f.getD n z) := fun n => by
  rw [List.getD_eq_getElem?_getD, List.getD_eq_getElem?_getD, List.getElem?_map]
  cases f[n]? <;> rfl
 exact h _
include hg
theorem metA_map (ls : List (List α)) (x : List α) : metA (ls.map (List.map g)) (x.map g) = (metA ls x).map (List.map g) := by
 have hm : x.map g ∈ ls.map (List.map g) ↔ x ∈ ls := by
  rw [List.mem_map]
  constructor
  ·rintro ⟨y, hy, e⟩
   rw [← map_inj hg e]; exact hy
  ·exact fun h => ⟨x, h, rfl⟩
 unfold metA
 by_cases h : x ∈ ls
 ·rw [if_pos h, if_pos (hm.2 h)]
 ·rw [if_neg h, if_neg fun e => h (hm.1 e), List.map_append]; rfl
theorem foldA_map (xs : List (List α)) : ∀ ls : List (List α), (xs.map (List.map g)).foldl metA (ls.map (List.map g)) = (xs.foldl metA ls).map (List.map g) := by
 induction xs with
 | nil => intro ls; rfl
 | cons x xs ih =>
  intro ls
  rw [List.map_cons, List.foldl_cons, List.foldl_cons, metA_map hg, ih]
theorem lsA_map (next : List (List Int)) (w : Nat) (f0 : List α) : ∀ i, lsA (g z) next w (f0.map g) i = (lsA z next w f0 i).map (List.map g)
 | 0 => rfl
 | i + 1 => by
  have ih := lsA_map next w f0 i
  by_cases h : i < (lsA z next w f0 i).length
  ·have h' : i < (lsA (g z) next w (f0.map g) i).length := by rw [ih, List.length_map]; exact h
   rw [lsA_succ h, lsA_succ h', ← foldA_map hg]
   have hget : (lsA (g z) next w (f0.map g) i)[i]'h' = ((lsA z next w f0 i)[i]).map g := by simp only [ih, List.getElem_map]
   rw [hget, ih]
   congr 1
   unfold behsA
   rw [List.map_map]
   exact List.map_congr_left fun k _ => behA_map next _ k
  ·rw [lsA_still (z := g z) (by rw [ih, List.length_map]; omega), lsA_still (z := z) (by omega), ih]
theorem place_map (ls : List (List α)) (x : List α) : place (ls.map (List.map g)) (x.map g) = place ls x := by
 unfold place
 rw [List.findIdx?_map]
 congr 1
 funext y
 show decide (x.map g = y.map g) = decide (x = y)
 rw [decide_eq_decide]
 exact ⟨fun e => map_inj hg e, fun e => by rw [e]⟩
theorem findF_map (ls : List (List α)) (x : List α) : findF (ls.map (List.map g)) (x.map g) = findF ls x := by
 unfold findF
 rw [place_map hg]
end maps
def turnM (d : DfaT) (ls : List (List Int)) : DfaT := ⟨d.of, d.width, ls.map fun f => (behsA 0 d.next d.width.toNat f).map (findF ls), ls.map fun f => f.headD 0, d.names⟩
def turnL (d : DfaT) (most : Nat) : List (List Int) := lsA 0 d.next d.width.toNat d.label most
def turnR (d : DfaT) (most : Nat) : DfaT × Bool := if (turnL d most).length ≤ most then (turnM d (turnL d most), true) else (zeroD, false)
theorem turnL_pos (d : DfaT) (most : Nat) : 0 < (turnL d most).length := lsA_pos _ _ _ _
theorem turnL_vals {d : DfaT} (hok : RightP d) (m : Nat) : ∀ f ∈ turnL d m, ∀ e ∈ f, 0 ≤ e ∧ e ≤ d.names.length := by
 obtain ⟨hk1, hk2, hk3, hk4, hk5, hk6, hk7⟩ := id hok
 unfold turnL
 induction m with
 | zero =>
  intro f hf e he
  have : f = d.label := by simpa [lsA] using hf
  subst this
  obtain ⟨i, hi, rfl⟩ := List.getElem_of_mem he
  obtain ⟨_, w2, w3, _⟩ := hk7 i (by omega) hi
  exact ⟨w2, w3⟩
 | succ m ih =>
  intro f hf e he
  by_cases h : m < (lsA 0 d.next d.width.toNat d.label m).length
  ·rw [lsA_succ h] at hf
   rcases foldA_of hf with hf | hf
   ·exact ih f hf e he
   ·obtain ⟨k, _, rfl⟩ := List.mem_map.1 hf
    unfold behA at he
    obtain ⟨row, _, rfl⟩ := List.mem_map.1 he
    rw [List.getD_eq_getElem?_getD]
    cases hg : (lsA 0 d.next d.width.toNat d.label m)[m][(row.getD k 0).toNat]? with
    | none => exact ⟨Int.le_refl 0, by show (0 : Int) ≤ _; omega⟩
    | some x => exact ih _ (List.getElem_mem h) x (List.mem_of_getElem? hg)
  ·rw [lsA_still (by omega)] at hf
   exact ih f hf e he
theorem turnL_len {d : DfaT} (hok : RightP d) (m : Nat) : ∀ f ∈ turnL d m, f.length = d.next.length := lsA_len (by have := hok.2.2.1; omega) m
theorem turnL_nodup (d : DfaT) (m : Nat) : (turnL d m).Nodup := lsA_nodup _ _ _ _
theorem turnL_closed {d : DfaT} {m : Nat} (h : (turnL d m).length ≤ m) {i : Nat} (hi : i < (turnL d m).length) {k : Nat} (hk : k < d.width.toNat) : behA 0 d.next ((turnL d m)[i]) k ∈ turnL d m := lsA_closed (by omega) hi hk
theorem headD_in {f : List Int} (h : 0 < f.length) : f.headD 0 = f[0] := by
 cases f with
 | nil => cases h
 | cons a l => rfl
theorem turnM_right {d : DfaT} (hok : RightP d) (hof : d.of.length = 256) {m : Nat} (hm : m ≤ 65536) (h : (turnL d m).length ≤ m) : RightP (turnM d (turnL d m)) := by
 obtain ⟨hk1, hk2, hk3, hk4, hk5, hk6, hk7⟩ := id hok
 have hp := turnL_pos d m
 have hl : (turnM d (turnL d m)).label.length = (turnL d m).length := List.length_map _
 have hn : (turnM d (turnL d m)).next.length = (turnL d m).length := List.length_map _
 refine ⟨by omega, by omega, by omega, hk4, hk5, hk6, fun s h1 h2 => ?_⟩
 have hs : s < (turnL d m).length := by rw [hn] at h1; exact h1
 have g1 : (turnM d (turnL d m)).next[s]'h1 = (behsA 0 d.next d.width.toNat (turnL d m)[s]).map (findF (turnL d m)) := by
  have hnx : (turnM d (turnL d m)).next = (turnL d m).map fun f => (behsA 0 d.next d.width.toNat f).map (findF (turnL d m)) := rfl
  simp only [hnx, List.getElem_map]
 have g2 : (turnM d (turnL d m)).label[s]'h2 = ((turnL d m)[s]).headD 0 := by
  have hlx : (turnM d (turnL d m)).label = (turnL d m).map fun f => f.headD 0 := rfl
  simp only [hlx, List.getElem_map]
 have hfl := turnL_len hok m _ (List.getElem_mem hs)
 have hv := turnL_vals hok m _ (List.getElem_mem hs) (((turnL d m)[s])[0]'(by omega)) (List.getElem_mem _)
 rw [g1, g2, headD_in (by omega)]
 refine ⟨?_, hv.1, hv.2, fun t ht => ?_⟩
 ·rw [List.length_map]
  unfold behsA
  rw [List.length_map, List.length_range]
  show ((d.width.toNat : Nat) : Int) = d.width
  omega
 ·obtain ⟨x, hx, rfl⟩ := List.mem_map.1 ht
  obtain ⟨k, hk, rfl⟩ := List.mem_map.1 hx
  obtain ⟨n, hn2⟩ := place_mem (turnL_closed h hs (List.mem_range.1 hk))
  have := (place_some hn2).1
  rw [findF_some hn2, hl]
  omega
def runS' (d : DfaT) (s : Int) (w : List UInt8) : Int := w.foldl (fun s b => toD d s b.toNat) s
end Go.Proofs.YtefkpedhbijhkaaGreatDoor
namespace Go.Proofs.YtefkpedhbijhkaaGreatDoor
open Go Go.V Go.Proofs
def RwB (G : PHeap) (av : List Value) (ls : List (List UInt8)) : Prop := av.length = ls.length ∧ ∀ i (h : i < ls.length) (h2 : i < av.length), ∃ b c, av[i] = .slice b ls[i].length c ∧ Row G b (ls[i].map byteV) ∧ ls[i].length ≤ c
theorem RwB.nil (G : PHeap) : RwB G [] [] := ⟨rfl, fun i h => by cases h⟩
theorem RwB.mono {G G' : PHeap} (hle : PLe G G') {av : List Value} {ls : List (List UInt8)} (h : RwB G av ls) : RwB G' av ls := by
 refine ⟨h.1, fun i h1 h2 => ?_⟩
 obtain ⟨b, c, e1, e2, e3⟩ := h.2 i h1 h2
 exact ⟨b, c, e1, e2.mono hle, e3⟩
theorem RwB.snoc {G : PHeap} {av : List Value} {ls : List (List UInt8)} (h : RwB G av ls) {b : Option Addr} {c : Nat} {r : List UInt8} (hr : Row G b (r.map byteV)) (hc : r.length ≤ c) : RwB G (av ++ [.slice b r.length c]) (ls ++ [r]) := by
 have h1 := h.1
 refine ⟨by simp [h1], fun i hi hi2 => ?_⟩
 rcases Nat.lt_or_ge i ls.length with g | g
 ·obtain ⟨b', c', e1, e2, e3⟩ := h.2 i g (by omega)
  refine ⟨b', c', ?_, ?_, ?_⟩
  ·rw [List.getElem_append_left (by omega), List.getElem_append_left g]; exact e1
  ·rw [List.getElem_append_left g]; exact e2
  ·rw [List.getElem_append_left g]; exact e3
 ·rw [List.length_append, List.length_singleton] at hi
  obtain rfl : i = ls.length := by omega
  refine ⟨b, c, ?_, ?_, ?_⟩
  ·rw [List.getElem_append_right (by omega), List.getElem_append_right (by omega)]; simp [h1]
  ·rw [List.getElem_append_right (by omega)]; simp; exact hr
  ·rw [List.getElem_append_right (by omega)]; simp; exact hc
theorem RwB.one {G : PHeap} {av : List Value} {ls : List (List UInt8)} (h : RwB G av ls) : av.all oneV = true := by
 refine List.all_eq_true.2 fun v hv => ?_
 obtain ⟨i, hi, rfl⟩ := List.getElem_of_mem hv
 obtain ⟨a, c, e, _⟩ := h.2 i (by have := h.1; omega) hi
 rw [e]; rfl
theorem putF_met {α : Type} [DecidableEq α] (ls : List (List α)) (x : List α) : (putF ls x).1 = metA ls x ∧ (putF ls x).2.1 = findF (metA ls x) x := by
 by_cases h : x ∈ ls
 ·obtain ⟨n, hn⟩ := place_mem h
  rw [putF_old hn]
  unfold metA
  rw [if_pos h, findF_some hn]
  exact ⟨rfl, rfl⟩
 ·rw [putF_new (place_no h)]
  unfold metA
  rw [if_neg h, findF_some (place_end h)]
  exact ⟨rfl, rfl⟩
theorem lnumber_t {x : List UInt8} (hxl : x.length ≤ 70000) (hx0 : 0 < x.length) {a : Option Addr} {n c : Nat} (hn : n = x.length) {tb : Heap} {pt : Value} {ks : List (List UInt8)} (ht : Tabs tb pt ks) (hlen : ks.length ≤ 70000) {vall : Value} {av : List Value} {ka : Heap} {b7 : Nat} {G : PHeap} {H : Heap} {R : Value → PHeap → Heap → Prop} (hx : Row G a (x.map byteV)) (hc : x.length ≤ c)
  (hka : SliceO [] 39 1 vall ks.length av ka) (hav : RwB G av ks)
  (hR : ∀ tb' vall' av' ka', Sep G (keys ((b7, Res.cells [pt, vall'] [] 60) :: (tb' ++ (ka' ++ H)))) → Tabs tb' pt (putF ks x).1 → SliceO [] 39 1 vall' (putF ks x).1.length av' ka' → RwB G av' (putF ks x).1 → R (.int .i64 (putF ks x).2.1) G ((b7, .cells [pt, vall'] [] 60) :: (tb' ++ (ka' ++ H)))) :
  FnT Tryz.prog 43 [.pointer (some ⟨b7, 0, none⟩), .slice a n c] G ((b7, .cells [pt, vall] [] 60) :: (tb ++ (ka ++ H))) R := by
 subst hn
 obtain ⟨hnd, bt, bm, v, kb, rfl, htb, hv⟩ := id ht
 have hada : Adr a := hx.adr (by rw [List.length_map]; exact hx0)
 refine FnT.sep ?_
 have hrd : ∀ (H : Heap) (k : List Value → Prop), rdSl G H a x.length k = k (x.map byteV) := fun H k => hx.rdSlAll (by rw [List.length_map]) H k
 refine FnT.body tok [0, 1, 4, 5, 6, 17] Tryz.func43 rfl (by kernel_rfl) (by kernel_rfl) (by show _ ≤ 29; simp) fun hsep => ?_
 rw [Tryz.results43]
 have hsE := hsep
 try simp only [zzs] at hsE
 repeat (obtain ⟨hsx, hsE⟩ := hsE)
 repeat' first
  | (with_reducible first | refine Nx.go ?_ | refine Bk.go (fun _ => ?_) fun _ => ?_)
  | ((with_reducible first | refine NewB.mk2 fun nb hnb hnb1 hnb2 => ?_ | refine NewRow.mk2 fun nb nsp ncap hnb hncap hnb1 hnb2 => ?_); try simp only [zzn] at hnb2)
  | with_reducible refine Tri.drawH tok mixed [0, 1, 4, 5, 6, 17] 1 [3] (.op 0 .plain (.op 1 .plain (.op 2 .plain (.op 3 .held (.op 4 .plain (.op 5 .keeps (.op 6 .plain (.op 7 .plain (.op 8 .plain (.op 9 .plain (.op 10 .plain (.op 11 .plain .nil)))))))))))) (by kernel_rfl) [0] ?_
  | simp -dsimp -implicitDefEqProofs (disch := first | assumption | (simp only [zzm]; done) | omega | (try with_reducible refine Row.adr (by assumption) ?_); simp only [zzl, Nat.reduceAdd]; first | done | omega) only [go_sem, ↓reduceIte, seval, hrd]
 refine FnT.sep (FnT.leave (H' := tb ++ ((b7, .cells [.pointer (some ⟨bt, 0, none⟩), vall] [] 60) :: (ka ++ H))) (FnT.upd (puts_t x ht (by omega) fun tb' _ ht' => ?_)) (by intro fsum; simp only [zzq]; omega))
 obtain ⟨hnd', bt', bm', v', kb', e1, htb', hv'⟩ := id ht'
 obtain rfl : bt = bt' := by simpa using e1
 rw [(putF_met ks x).1] at hR ht' hv'
 refine Upd.go (H' := (b7, .cells [.pointer (some ⟨bt, 0, none⟩), vall] [] 60) :: (ka ++ (tb' ++ H))) (by intro fsum; simp only [zzq]; omega) (Upd.now fun _ hs2 => ?_)
 by_cases hm : x ∈ ks
 ·obtain ⟨n, hn⟩ := place_mem hm
  have e2 : metA ks x = ks := by unfold metA; rw [if_pos hm]
  rw [putF_old hn] at hR ⊢
  rw [e2] at hR ht'
  have hsE := hs2
  try simp only [zzs] at hsE
  repeat (obtain ⟨hsx, hsE⟩ := hsE)
  repeat' first
   | (with_reducible first | refine Nx.go ?_ | refine Bk.go (fun _ => ?_) fun _ => ?_)
   | ((with_reducible first | refine NewB.mk2 fun nb hnb hnb1 hnb2 => ?_ | refine NewRow.mk2 fun nb nsp ncap hnb hncap hnb1 hnb2 => ?_); try simp only [zzn] at hnb2)
   | simp -dsimp -implicitDefEqProofs (disch := first | assumption | (simp only [zzm]; done) | omega | (try with_reducible refine Row.adr (by assumption) ?_); simp only [zzl, Nat.reduceAdd]; first | done | omega) only [go_sem, ↓reduceIte, seval, hrd]
  unfold UpdR
  refine Upd.leave (H' := (b7, .cells [.pointer (some ⟨bt, 0, none⟩), vall] [] 60) :: (tb' ++ (ka ++ H))) (by intro fsum; simp only [zzq]; omega) ?_
  exact fun _ hs => hR tb' vall av ka hs ht' hka hav
 ·have hn := place_no hm
  have e2 : metA ks x = ks ++ [x] := by unfold metA; rw [if_neg hm]
  rw [putF_new hn] at hR ⊢
  rw [e2] at hR ht'
  rcases hka with ⟨aa, rfl, hi0, hxx, rfl⟩ | ⟨bl, cc, sp, rfl, rfl, hxx, hcl⟩
  ·have hsE := hs2
   try simp only [zzs] at hsE
   repeat (obtain ⟨hsx, hsE⟩ := hsE)
   have hk0 : ks = [] := List.eq_nil_of_length_eq_zero hi0
   repeat' first
    | (with_reducible first | refine Nx.go ?_ | refine Bk.go (fun _ => ?_) fun _ => ?_)
    | ((with_reducible first | refine NewB.mk2 fun nb hnb hnb1 hnb2 => ?_ | refine NewRow.mk2 fun nb nsp ncap hnb hncap hnb1 hnb2 => ?_); try simp only [zzn] at hnb2)
    | simp -dsimp -implicitDefEqProofs (disch := first | assumption | (simp only [zzm]; done) | omega | (try with_reducible refine Row.adr (by assumption) ?_); simp only [zzl, Nat.reduceAdd]; first | done | omega) only [go_sem, ↓reduceIte, seval]
   unfold UpdR
   refine Upd.leave (H' := (b7, .cells [.pointer (some ⟨bt, 0, none⟩), .slice (some ⟨nb, 0, none⟩) 1 ncap] [] 60) :: (tb' ++ ([(nb, .cells [.slice a x.length c] nsp 39)] ++ H))) (by intro fsum; simp only [zzq]; omega) ?_
   refine fun _ hs => hR tb' _ [.slice a x.length c] _ hs ht' (.inr ⟨nb, ncap, nsp, ?_, rfl, ?_, ?_⟩) ?_
   ·rw [hk0]; rfl
   ·rw [hk0]; rfl
   ·simp at hncap ⊢; omega
   ·rw [hk0]; exact RwB.snoc (RwB.nil G) hx hc
  ·rw [Nat.mul_one] at hxx hcl
   have hsE := hs2
   try simp only [zzs] at hsE
   repeat (obtain ⟨hsx, hsE⟩ := hsE)
   have hone := hav.one
   repeat' first
    | (with_reducible first | refine Nx.go ?_ | refine Bk.go (fun _ => ?_) fun _ => ?_)
    | ((with_reducible first | refine NewB.mk2 fun nb hnb hnb1 hnb2 => ?_ | refine NewRow.mk2 fun nb nsp ncap hnb hncap hnb1 hnb2 => ?_); try simp only [zzn] at hnb2)
    | simp -dsimp -implicitDefEqProofs (disch := first | assumption | (simp only [zzm]; done) | omega | (try with_reducible refine Row.adr (by assumption) ?_); simp only [zzl, Nat.reduceAdd]; first | done | omega) only [go_sem, ↓reduceIte, seval, hone]
   unfold UpdR
   refine Upd.leave (H' := (b7, .cells [.pointer (some ⟨bt, 0, none⟩), .slice (some ⟨nb, 0, none⟩) (ks.length + 1) ncap] [] 60) :: (tb' ++ ([(nb, .cells (av ++ [.slice a x.length c]) nsp 39)] ++ H))) (by intro fsum; simp only [zzq]; omega) ?_
   refine fun _ hs => hR tb' _ (av ++ [.slice a x.length c]) _ hs ht' (.inr ⟨nb, ncap, nsp, ?_, rfl, ?_, ?_⟩) (hav.snoc hx hc)
   ·rw [List.length_append]; rfl
   ·rw [List.length_append, List.length_append, hxx]; simp
   ·rw [List.length_append, hxx]; simp at hncap ⊢; omega
end Go.Proofs.YtefkpedhbijhkaaGreatDoor
