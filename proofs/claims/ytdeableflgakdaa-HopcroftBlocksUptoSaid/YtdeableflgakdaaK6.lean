/- A part of the proof, joined of several texts: the verification layer, contracts of functions, plain law. -/
import Derived.Test.YtdeableflgakdaaK5
import Derived.Test.YtdeableflgakdaaProg
set_option maxHeartbeats 64000000
set_option linter.unusedSimpArgs false
set_option linter.unusedVariables false
set_option linter.unusedSectionVars false
set_option maxRecDepth 20000
namespace Go.Proofs.Ytdeableflgakdaa
open Go Go.V Go.Proofs
def T : Tys := fun t => match t with
 | 1 => ⟨.func, 1, 8, [.nilFunc], false⟩
 | 2 => ⟨.int .i64, 1, 8, [(.int .i64 0)], false⟩
 | 3 => ⟨.int .i64, 1, 8, [(.int .i64 0)], false⟩
 | 4 => ⟨.bool, 1, 1, [(.bool false)], false⟩
 | 5 => ⟨.int .u8, 1, 1, [(.int .u8 0)], false⟩
 | 9 => ⟨.string, 1, 16, [(.string ⟨#[]⟩)], false⟩
 | 12 => ⟨.int .u64, 1, 8, [(.int .u64 0)], false⟩
 | 13 => ⟨.struct [(0, 9), (1, 12)], 2, 24, [(.string ⟨#[]⟩), (.int .u64 0)], false⟩
 | 20 => ⟨.iface, 1, 16, [.nilIface], false⟩
 | 21 => ⟨.int .i32, 1, 4, [(.int .i32 0)], false⟩
 | 22 => ⟨.arr 256 5, 256, 256, List.replicate 256 (.int .u8 0), true⟩
 | 23 => ⟨.slice 24, 1, 24, [(.slice none 0 0)], false⟩
 | 24 => ⟨.slice 3, 1, 24, [(.slice none 0 0)], false⟩
 | 25 => ⟨.slice 9, 1, 24, [(.slice none 0 0)], false⟩
 | 26 => ⟨.struct [(0, 22), (256, 3), (257, 23), (258, 24), (259, 25)], 260, 336, List.replicate 256 (.int .u8 0) ++ [(.int .i64 0), (.slice none 0 0), (.slice none 0 0), (.slice none 0 0)], false⟩
 | 27 => ⟨.struct [(0, 22), (256, 3), (257, 23), (258, 24), (259, 25)], 260, 336, List.replicate 256 (.int .u8 0) ++ [(.int .i64 0), (.slice none 0 0), (.slice none 0 0), (.slice none 0 0)], false⟩
 | 28 => ⟨.int .i64, 1, 8, [(.int .i64 0)], false⟩
 | 30 => ⟨.func, 1, 8, [.nilFunc], false⟩
 | 31 => ⟨.func, 1, 8, [.nilFunc], false⟩
 | 32 => ⟨.func, 1, 8, [.nilFunc], false⟩
 | 33 => ⟨.func, 1, 8, [.nilFunc], false⟩
 | 34 => ⟨.func, 1, 8, [.nilFunc], false⟩
 | 35 => ⟨.func, 1, 8, [.nilFunc], false⟩
 | 36 => ⟨.func, 1, 8, [.nilFunc], false⟩
 | 37 => ⟨.func, 1, 8, [.nilFunc], false⟩
 | 38 => ⟨.slice 5, 1, 24, [(.slice none 0 0)], false⟩
 | 39 => ⟨.func, 1, 8, [.nilFunc], false⟩
 | 40 => ⟨.func, 1, 8, [.nilFunc], false⟩
 | 41 => ⟨.func, 1, 8, [.nilFunc], false⟩
 | 42 => ⟨.func, 1, 8, [.nilFunc], false⟩
 | 43 => ⟨.func, 1, 8, [.nilFunc], false⟩
 | 44 => ⟨.func, 1, 8, [.nilFunc], false⟩
 | 45 => ⟨.ptr 52, 1, 8, [(.pointer none)], false⟩
 | 46 => ⟨.func, 1, 8, [.nilFunc], false⟩
 | 47 => ⟨.slice 75, 1, 24, [(.slice none 0 0)], false⟩
 | 48 => ⟨.slice 23, 1, 24, [(.slice none 0 0)], false⟩
 | 49 => ⟨.slice 54, 1, 24, [(.slice none 0 0)], false⟩
 | 50 => ⟨.map 54 3, 1, 8, [(.map none)], false⟩
 | 51 => ⟨.struct [(0, 24), (1, 24), (2, 24), (3, 47), (4, 48), (5, 49), (6, 50), (7, 3)], 8, 160, [(.slice none 0 0), (.slice none 0 0), (.slice none 0 0), (.slice none 0 0), (.slice none 0 0), (.slice none 0 0), (.map none), (.int .i64 0)], false⟩
 | 52 => ⟨.struct [(0, 24), (1, 24), (2, 24), (3, 47), (4, 48), (5, 49), (6, 50), (7, 3)], 8, 160, [(.slice none 0 0), (.slice none 0 0), (.slice none 0 0), (.slice none 0 0), (.slice none 0 0), (.slice none 0 0), (.map none), (.int .i64 0)], false⟩
 | 53 => ⟨.func, 1, 8, [.nilFunc], false⟩
 | 54 => ⟨.arr 2 3, 2, 16, [(.int .i64 0), (.int .i64 0)], true⟩
 | 55 => ⟨.func, 1, 8, [.nilFunc], false⟩
 | 56 => ⟨.func, 1, 8, [.nilFunc], false⟩
 | 57 => ⟨.func, 1, 8, [.nilFunc], false⟩
 | 58 => ⟨.func, 1, 8, [.nilFunc], false⟩
 | 59 => ⟨.func, 1, 8, [.nilFunc], false⟩
 | 60 => ⟨.func, 1, 8, [.nilFunc], false⟩
 | 61 => ⟨.func, 1, 8, [.nilFunc], false⟩
 | 62 => ⟨.func, 1, 8, [.nilFunc], false⟩
 | 63 => ⟨.func, 1, 8, [.nilFunc], false⟩
 | 64 => ⟨.func, 1, 8, [.nilFunc], false⟩
 | 65 => ⟨.func, 1, 8, [.nilFunc], false⟩
 | 66 => ⟨.func, 1, 8, [.nilFunc], false⟩
 | 67 => ⟨.func, 1, 8, [.nilFunc], false⟩
 | 69 => ⟨.func, 1, 8, [.nilFunc], false⟩
 | 70 => ⟨.func, 1, 8, [.nilFunc], false⟩
 | 71 => ⟨.func, 1, 8, [.nilFunc], false⟩
 | 72 => ⟨.func, 1, 8, [.nilFunc], false⟩
 | 73 => ⟨.func, 1, 8, [.nilFunc], false⟩
 | 74 => ⟨.struct [(0, 3), (1, 3), (2, 3)], 3, 24, [(.int .i64 0), (.int .i64 0), (.int .i64 0)], false⟩
 | 75 => ⟨.struct [(0, 3), (1, 3), (2, 3)], 3, 24, [(.int .i64 0), (.int .i64 0), (.int .i64 0)], false⟩
 | 76 => ⟨.func, 1, 8, [.nilFunc], false⟩
 | 77 => ⟨.func, 1, 8, [.nilFunc], false⟩
 | 78 => ⟨.func, 1, 8, [.nilFunc], false⟩
 | 79 => ⟨.func, 1, 8, [.nilFunc], false⟩
 | 80 => ⟨.slice 82, 1, 24, [(.slice none 0 0)], false⟩
 | 81 => ⟨.func, 1, 8, [.nilFunc], false⟩
 | 82 => ⟨.slice 4, 1, 24, [(.slice none 0 0)], false⟩
 | 84 => ⟨.func, 1, 8, [.nilFunc], false⟩
 | 85 => ⟨.func, 1, 8, [.nilFunc], false⟩
 | 86 => ⟨.func, 1, 8, [.nilFunc], false⟩
 | 88 => ⟨.func, 1, 8, [.nilFunc], false⟩
 | 89 => ⟨.func, 1, 8, [.nilFunc], false⟩
 | 90 => ⟨.func, 1, 8, [.nilFunc], false⟩
 | 91 => ⟨.func, 1, 8, [.nilFunc], false⟩
 | 92 => ⟨.func, 1, 8, [.nilFunc], false⟩
 | 93 => ⟨.func, 1, 8, [.nilFunc], false⟩
 | 94 => ⟨.ptr 75, 1, 8, [(.pointer none)], false⟩
 | 95 => ⟨.map 3 3, 1, 8, [(.map none)], false⟩
 | 97 => ⟨.func, 1, 8, [.nilFunc], false⟩
 | 98 => ⟨.func, 1, 8, [.nilFunc], false⟩
 | 99 => ⟨.func, 1, 8, [.nilFunc], false⟩
 | 100 => ⟨.func, 1, 8, [.nilFunc], false⟩
 | 101 => ⟨.func, 1, 8, [.nilFunc], false⟩
 | 102 => ⟨.func, 1, 8, [.nilFunc], false⟩
 | 103 => ⟨.func, 1, 8, [.nilFunc], false⟩
 | 104 => ⟨.map 5 5, 1, 8, [(.map none)], false⟩
 | 106 => ⟨.func, 1, 8, [.nilFunc], false⟩
 | 107 => ⟨.func, 1, 8, [.nilFunc], false⟩
 | 108 => ⟨.func, 1, 8, [.nilFunc], false⟩
 | 109 => ⟨.func, 1, 8, [.nilFunc], false⟩
 | 110 => ⟨.slice 120, 1, 24, [(.slice none 0 0)], false⟩
 | 111 => ⟨.func, 1, 8, [.nilFunc], false⟩
 | 112 => ⟨.func, 1, 8, [.nilFunc], false⟩
 | 113 => ⟨.func, 1, 8, [.nilFunc], false⟩
 | 114 => ⟨.int .u64, 1, 8, [(.int .u64 0)], false⟩
 | 116 => ⟨.func, 1, 8, [.nilFunc], false⟩
 | 117 => ⟨.func, 1, 8, [.nilFunc], false⟩
 | 118 => ⟨.int .u64, 1, 8, [(.int .u64 0)], false⟩
 | 119 => ⟨.arr 4 118, 4, 32, [(.int .u64 0), (.int .u64 0), (.int .u64 0), (.int .u64 0)], true⟩
 | 120 => ⟨.arr 4 118, 4, 32, [(.int .u64 0), (.int .u64 0), (.int .u64 0), (.int .u64 0)], true⟩
 | 121 => ⟨.arr 256 4, 256, 256, List.replicate 256 (.bool false), true⟩
 | 122 => ⟨.func, 1, 8, [.nilFunc], false⟩
 | 123 => ⟨.func, 1, 8, [.nilFunc], false⟩
 | 124 => ⟨.int .u32, 1, 4, [(.int .u32 0)], false⟩
 | 126 => ⟨.func, 1, 8, [.nilFunc], false⟩
 | 128 => ⟨.func, 1, 8, [.nilFunc], false⟩
 | 129 => ⟨.func, 1, 8, [.nilFunc], false⟩
 | 130 => ⟨.func, 1, 8, [.nilFunc], false⟩
 | 131 => ⟨.func, 1, 8, [.nilFunc], false⟩
 | 134 => ⟨.arr 0 16, 0, 0, [], false⟩
 | 135 => ⟨.struct [(0, 134)], 0, 0, [], false⟩
 | 137 => ⟨.func, 1, 8, [.nilFunc], false⟩
 | 140 => ⟨.func, 1, 8, [.nilFunc], false⟩
 | 141 => ⟨.ptr 5, 1, 8, [(.pointer none)], false⟩
 | _ => ⟨.none, 0, 0, [], false⟩
theorem T1 : T 1 = ⟨.func, 1, 8, [.nilFunc], false⟩ := rfl
theorem T2 : T 2 = ⟨.int .i64, 1, 8, [(.int .i64 0)], false⟩ := rfl
theorem T3 : T 3 = ⟨.int .i64, 1, 8, [(.int .i64 0)], false⟩ := rfl
theorem T4 : T 4 = ⟨.bool, 1, 1, [(.bool false)], false⟩ := rfl
theorem T5 : T 5 = ⟨.int .u8, 1, 1, [(.int .u8 0)], false⟩ := rfl
theorem T9 : T 9 = ⟨.string, 1, 16, [(.string ⟨#[]⟩)], false⟩ := rfl
theorem T12 : T 12 = ⟨.int .u64, 1, 8, [(.int .u64 0)], false⟩ := rfl
theorem T13 : T 13 = ⟨.struct [(0, 9), (1, 12)], 2, 24, [(.string ⟨#[]⟩), (.int .u64 0)], false⟩ := rfl
theorem T20 : T 20 = ⟨.iface, 1, 16, [.nilIface], false⟩ := rfl
theorem T21 : T 21 = ⟨.int .i32, 1, 4, [(.int .i32 0)], false⟩ := rfl
theorem T22 : T 22 = ⟨.arr 256 5, 256, 256, List.replicate 256 (.int .u8 0), true⟩ := rfl
theorem T23 : T 23 = ⟨.slice 24, 1, 24, [(.slice none 0 0)], false⟩ := rfl
theorem T24 : T 24 = ⟨.slice 3, 1, 24, [(.slice none 0 0)], false⟩ := rfl
theorem T25 : T 25 = ⟨.slice 9, 1, 24, [(.slice none 0 0)], false⟩ := rfl
theorem T26 : T 26 = ⟨.struct [(0, 22), (256, 3), (257, 23), (258, 24), (259, 25)], 260, 336, List.replicate 256 (.int .u8 0) ++ [(.int .i64 0), (.slice none 0 0), (.slice none 0 0), (.slice none 0 0)], false⟩ := rfl
theorem T27 : T 27 = ⟨.struct [(0, 22), (256, 3), (257, 23), (258, 24), (259, 25)], 260, 336, List.replicate 256 (.int .u8 0) ++ [(.int .i64 0), (.slice none 0 0), (.slice none 0 0), (.slice none 0 0)], false⟩ := rfl
theorem T28 : T 28 = ⟨.int .i64, 1, 8, [(.int .i64 0)], false⟩ := rfl
theorem T30 : T 30 = ⟨.func, 1, 8, [.nilFunc], false⟩ := rfl
theorem T31 : T 31 = ⟨.func, 1, 8, [.nilFunc], false⟩ := rfl
theorem T32 : T 32 = ⟨.func, 1, 8, [.nilFunc], false⟩ := rfl
theorem T33 : T 33 = ⟨.func, 1, 8, [.nilFunc], false⟩ := rfl
theorem T34 : T 34 = ⟨.func, 1, 8, [.nilFunc], false⟩ := rfl
theorem T35 : T 35 = ⟨.func, 1, 8, [.nilFunc], false⟩ := rfl
theorem T36 : T 36 = ⟨.func, 1, 8, [.nilFunc], false⟩ := rfl
theorem T37 : T 37 = ⟨.func, 1, 8, [.nilFunc], false⟩ := rfl
theorem T38 : T 38 = ⟨.slice 5, 1, 24, [(.slice none 0 0)], false⟩ := rfl
theorem T39 : T 39 = ⟨.func, 1, 8, [.nilFunc], false⟩ := rfl
theorem T40 : T 40 = ⟨.func, 1, 8, [.nilFunc], false⟩ := rfl
theorem T41 : T 41 = ⟨.func, 1, 8, [.nilFunc], false⟩ := rfl
theorem T42 : T 42 = ⟨.func, 1, 8, [.nilFunc], false⟩ := rfl
theorem T43 : T 43 = ⟨.func, 1, 8, [.nilFunc], false⟩ := rfl
theorem T44 : T 44 = ⟨.func, 1, 8, [.nilFunc], false⟩ := rfl
theorem T45 : T 45 = ⟨.ptr 52, 1, 8, [(.pointer none)], false⟩ := rfl
theorem T46 : T 46 = ⟨.func, 1, 8, [.nilFunc], false⟩ := rfl
theorem T47 : T 47 = ⟨.slice 75, 1, 24, [(.slice none 0 0)], false⟩ := rfl
theorem T48 : T 48 = ⟨.slice 23, 1, 24, [(.slice none 0 0)], false⟩ := rfl
theorem T49 : T 49 = ⟨.slice 54, 1, 24, [(.slice none 0 0)], false⟩ := rfl
theorem T50 : T 50 = ⟨.map 54 3, 1, 8, [(.map none)], false⟩ := rfl
theorem T51 : T 51 = ⟨.struct [(0, 24), (1, 24), (2, 24), (3, 47), (4, 48), (5, 49), (6, 50), (7, 3)], 8, 160, [(.slice none 0 0), (.slice none 0 0), (.slice none 0 0), (.slice none 0 0), (.slice none 0 0), (.slice none 0 0), (.map none), (.int .i64 0)], false⟩ := rfl
theorem T52 : T 52 = ⟨.struct [(0, 24), (1, 24), (2, 24), (3, 47), (4, 48), (5, 49), (6, 50), (7, 3)], 8, 160, [(.slice none 0 0), (.slice none 0 0), (.slice none 0 0), (.slice none 0 0), (.slice none 0 0), (.slice none 0 0), (.map none), (.int .i64 0)], false⟩ := rfl
theorem T53 : T 53 = ⟨.func, 1, 8, [.nilFunc], false⟩ := rfl
theorem T54 : T 54 = ⟨.arr 2 3, 2, 16, [(.int .i64 0), (.int .i64 0)], true⟩ := rfl
theorem T55 : T 55 = ⟨.func, 1, 8, [.nilFunc], false⟩ := rfl
theorem T56 : T 56 = ⟨.func, 1, 8, [.nilFunc], false⟩ := rfl
theorem T57 : T 57 = ⟨.func, 1, 8, [.nilFunc], false⟩ := rfl
theorem T58 : T 58 = ⟨.func, 1, 8, [.nilFunc], false⟩ := rfl
theorem T59 : T 59 = ⟨.func, 1, 8, [.nilFunc], false⟩ := rfl
theorem T60 : T 60 = ⟨.func, 1, 8, [.nilFunc], false⟩ := rfl
theorem T61 : T 61 = ⟨.func, 1, 8, [.nilFunc], false⟩ := rfl
theorem T62 : T 62 = ⟨.func, 1, 8, [.nilFunc], false⟩ := rfl
theorem T63 : T 63 = ⟨.func, 1, 8, [.nilFunc], false⟩ := rfl
theorem T64 : T 64 = ⟨.func, 1, 8, [.nilFunc], false⟩ := rfl
theorem T65 : T 65 = ⟨.func, 1, 8, [.nilFunc], false⟩ := rfl
theorem T66 : T 66 = ⟨.func, 1, 8, [.nilFunc], false⟩ := rfl
theorem T67 : T 67 = ⟨.func, 1, 8, [.nilFunc], false⟩ := rfl
theorem T69 : T 69 = ⟨.func, 1, 8, [.nilFunc], false⟩ := rfl
theorem T70 : T 70 = ⟨.func, 1, 8, [.nilFunc], false⟩ := rfl
theorem T71 : T 71 = ⟨.func, 1, 8, [.nilFunc], false⟩ := rfl
theorem T72 : T 72 = ⟨.func, 1, 8, [.nilFunc], false⟩ := rfl
theorem T73 : T 73 = ⟨.func, 1, 8, [.nilFunc], false⟩ := rfl
theorem T74 : T 74 = ⟨.struct [(0, 3), (1, 3), (2, 3)], 3, 24, [(.int .i64 0), (.int .i64 0), (.int .i64 0)], false⟩ := rfl
theorem T75 : T 75 = ⟨.struct [(0, 3), (1, 3), (2, 3)], 3, 24, [(.int .i64 0), (.int .i64 0), (.int .i64 0)], false⟩ := rfl
theorem T76 : T 76 = ⟨.func, 1, 8, [.nilFunc], false⟩ := rfl
theorem T77 : T 77 = ⟨.func, 1, 8, [.nilFunc], false⟩ := rfl
theorem T78 : T 78 = ⟨.func, 1, 8, [.nilFunc], false⟩ := rfl
theorem T79 : T 79 = ⟨.func, 1, 8, [.nilFunc], false⟩ := rfl
theorem T80 : T 80 = ⟨.slice 82, 1, 24, [(.slice none 0 0)], false⟩ := rfl
theorem T81 : T 81 = ⟨.func, 1, 8, [.nilFunc], false⟩ := rfl
theorem T82 : T 82 = ⟨.slice 4, 1, 24, [(.slice none 0 0)], false⟩ := rfl
theorem T84 : T 84 = ⟨.func, 1, 8, [.nilFunc], false⟩ := rfl
theorem T85 : T 85 = ⟨.func, 1, 8, [.nilFunc], false⟩ := rfl
theorem T86 : T 86 = ⟨.func, 1, 8, [.nilFunc], false⟩ := rfl
theorem T88 : T 88 = ⟨.func, 1, 8, [.nilFunc], false⟩ := rfl
theorem T89 : T 89 = ⟨.func, 1, 8, [.nilFunc], false⟩ := rfl
theorem T90 : T 90 = ⟨.func, 1, 8, [.nilFunc], false⟩ := rfl
theorem T91 : T 91 = ⟨.func, 1, 8, [.nilFunc], false⟩ := rfl
theorem T92 : T 92 = ⟨.func, 1, 8, [.nilFunc], false⟩ := rfl
theorem T93 : T 93 = ⟨.func, 1, 8, [.nilFunc], false⟩ := rfl
theorem T94 : T 94 = ⟨.ptr 75, 1, 8, [(.pointer none)], false⟩ := rfl
theorem T95 : T 95 = ⟨.map 3 3, 1, 8, [(.map none)], false⟩ := rfl
theorem T97 : T 97 = ⟨.func, 1, 8, [.nilFunc], false⟩ := rfl
theorem T98 : T 98 = ⟨.func, 1, 8, [.nilFunc], false⟩ := rfl
theorem T99 : T 99 = ⟨.func, 1, 8, [.nilFunc], false⟩ := rfl
theorem T100 : T 100 = ⟨.func, 1, 8, [.nilFunc], false⟩ := rfl
theorem T101 : T 101 = ⟨.func, 1, 8, [.nilFunc], false⟩ := rfl
theorem T102 : T 102 = ⟨.func, 1, 8, [.nilFunc], false⟩ := rfl
theorem T103 : T 103 = ⟨.func, 1, 8, [.nilFunc], false⟩ := rfl
theorem T104 : T 104 = ⟨.map 5 5, 1, 8, [(.map none)], false⟩ := rfl
theorem T106 : T 106 = ⟨.func, 1, 8, [.nilFunc], false⟩ := rfl
theorem T107 : T 107 = ⟨.func, 1, 8, [.nilFunc], false⟩ := rfl
theorem T108 : T 108 = ⟨.func, 1, 8, [.nilFunc], false⟩ := rfl
theorem T109 : T 109 = ⟨.func, 1, 8, [.nilFunc], false⟩ := rfl
theorem T110 : T 110 = ⟨.slice 120, 1, 24, [(.slice none 0 0)], false⟩ := rfl
theorem T111 : T 111 = ⟨.func, 1, 8, [.nilFunc], false⟩ := rfl
theorem T112 : T 112 = ⟨.func, 1, 8, [.nilFunc], false⟩ := rfl
theorem T113 : T 113 = ⟨.func, 1, 8, [.nilFunc], false⟩ := rfl
theorem T114 : T 114 = ⟨.int .u64, 1, 8, [(.int .u64 0)], false⟩ := rfl
theorem T116 : T 116 = ⟨.func, 1, 8, [.nilFunc], false⟩ := rfl
theorem T117 : T 117 = ⟨.func, 1, 8, [.nilFunc], false⟩ := rfl
theorem T118 : T 118 = ⟨.int .u64, 1, 8, [(.int .u64 0)], false⟩ := rfl
theorem T119 : T 119 = ⟨.arr 4 118, 4, 32, [(.int .u64 0), (.int .u64 0), (.int .u64 0), (.int .u64 0)], true⟩ := rfl
theorem T120 : T 120 = ⟨.arr 4 118, 4, 32, [(.int .u64 0), (.int .u64 0), (.int .u64 0), (.int .u64 0)], true⟩ := rfl
theorem T121 : T 121 = ⟨.arr 256 4, 256, 256, List.replicate 256 (.bool false), true⟩ := rfl
theorem T122 : T 122 = ⟨.func, 1, 8, [.nilFunc], false⟩ := rfl
theorem T123 : T 123 = ⟨.func, 1, 8, [.nilFunc], false⟩ := rfl
theorem T124 : T 124 = ⟨.int .u32, 1, 4, [(.int .u32 0)], false⟩ := rfl
theorem T126 : T 126 = ⟨.func, 1, 8, [.nilFunc], false⟩ := rfl
theorem T128 : T 128 = ⟨.func, 1, 8, [.nilFunc], false⟩ := rfl
theorem T129 : T 129 = ⟨.func, 1, 8, [.nilFunc], false⟩ := rfl
theorem T130 : T 130 = ⟨.func, 1, 8, [.nilFunc], false⟩ := rfl
theorem T131 : T 131 = ⟨.func, 1, 8, [.nilFunc], false⟩ := rfl
theorem T134 : T 134 = ⟨.arr 0 16, 0, 0, [], false⟩ := rfl
theorem T135 : T 135 = ⟨.struct [(0, 134)], 0, 0, [], false⟩ := rfl
theorem T137 : T 137 = ⟨.func, 1, 8, [.nilFunc], false⟩ := rfl
theorem T140 : T 140 = ⟨.func, 1, 8, [.nilFunc], false⟩ := rfl
theorem T141 : T 141 = ⟨.ptr 5, 1, 8, [(.pointer none)], false⟩ := rfl
attribute [go_sem] T1 T2 T3 T4 T5 T9 T12 T13 T20 T21 T22 T23 T24 T25 T26 T27 T28 T30 T31 T32 T33 T34 T35 T36 T37 T38 T39 T40 T41 T42 T43 T44 T45 T46 T47 T48 T49 T50 T51 T52 T53 T54 T55 T56 T57 T58 T59 T60 T61 T62 T63 T64 T65 T66 T67 T69 T70 T71 T72 T73 T74 T75 T76 T77 T78 T79 T80 T81 T82 T84 T85 T86 T88 T89 T90 T91 T92 T93 T94 T95 T97 T98 T99 T100 T101 T102 T103 T104 T106 T107 T108 T109 T110 T111 T112 T113 T114 T116 T117 T118 T119 T120 T121 T122 T123 T124 T126 T128 T129 T130 T131 T134 T135 T137 T140 T141
theorem ok1 : ∃ d i z, Try.prog.underlying 1 = some d ∧ (T 1).k.fits d ∧ Try.prog.info? 1 = some i ∧ i.size = (T 1).size ∧ i.bytes = (T 1).bytes ∧ i.zero = some z ∧ z.cells.toList = (T 1).zero ∧ z = zeroVal (T 1) ∧ ((T 1).eq = true → eqB Try.prog 1 d = true) :=
 ⟨_, Try.t1, _, Try.underlying1, ⟨_, _, _, rfl⟩, Try.type1, rfl, rfl, rfl, rfl, rfl, fun h => by cases h⟩
theorem ok2 : ∃ d i z, Try.prog.underlying 2 = some d ∧ (T 2).k.fits d ∧ Try.prog.info? 2 = some i ∧ i.size = (T 2).size ∧ i.bytes = (T 2).bytes ∧ i.zero = some z ∧ z.cells.toList = (T 2).zero ∧ z = zeroVal (T 2) ∧ ((T 2).eq = true → eqB Try.prog 2 d = true) :=
 ⟨_, Try.t2, _, Try.underlying2, rfl, Try.type2, rfl, rfl, rfl, rfl, rfl, fun h => by cases h⟩
theorem ok3 : ∃ d i z, Try.prog.underlying 3 = some d ∧ (T 3).k.fits d ∧ Try.prog.info? 3 = some i ∧ i.size = (T 3).size ∧ i.bytes = (T 3).bytes ∧ i.zero = some z ∧ z.cells.toList = (T 3).zero ∧ z = zeroVal (T 3) ∧ ((T 3).eq = true → eqB Try.prog 3 d = true) :=
 ⟨_, Try.t3, _, Try.underlying3, rfl, Try.type3, rfl, rfl, rfl, rfl, rfl, fun h => by cases h⟩
theorem ok4 : ∃ d i z, Try.prog.underlying 4 = some d ∧ (T 4).k.fits d ∧ Try.prog.info? 4 = some i ∧ i.size = (T 4).size ∧ i.bytes = (T 4).bytes ∧ i.zero = some z ∧ z.cells.toList = (T 4).zero ∧ z = zeroVal (T 4) ∧ ((T 4).eq = true → eqB Try.prog 4 d = true) :=
 ⟨_, Try.t4, _, Try.underlying4, rfl, Try.type4, rfl, rfl, rfl, rfl, rfl, fun h => by cases h⟩
theorem ok5 : ∃ d i z, Try.prog.underlying 5 = some d ∧ (T 5).k.fits d ∧ Try.prog.info? 5 = some i ∧ i.size = (T 5).size ∧ i.bytes = (T 5).bytes ∧ i.zero = some z ∧ z.cells.toList = (T 5).zero ∧ z = zeroVal (T 5) ∧ ((T 5).eq = true → eqB Try.prog 5 d = true) :=
 ⟨_, Try.t5, _, Try.underlying5, rfl, Try.type5, rfl, rfl, rfl, rfl, rfl, fun h => by cases h⟩
theorem ok9 : ∃ d i z, Try.prog.underlying 9 = some d ∧ (T 9).k.fits d ∧ Try.prog.info? 9 = some i ∧ i.size = (T 9).size ∧ i.bytes = (T 9).bytes ∧ i.zero = some z ∧ z.cells.toList = (T 9).zero ∧ z = zeroVal (T 9) ∧ ((T 9).eq = true → eqB Try.prog 9 d = true) :=
 ⟨_, Try.t9, _, Try.underlying9, rfl, Try.type9, rfl, rfl, rfl, rfl, rfl, fun h => by cases h⟩
theorem ok12 : ∃ d i z, Try.prog.underlying 12 = some d ∧ (T 12).k.fits d ∧ Try.prog.info? 12 = some i ∧ i.size = (T 12).size ∧ i.bytes = (T 12).bytes ∧ i.zero = some z ∧ z.cells.toList = (T 12).zero ∧ z = zeroVal (T 12) ∧ ((T 12).eq = true → eqB Try.prog 12 d = true) :=
 ⟨_, Try.t12, _, Try.underlying12, rfl, Try.type12, rfl, rfl, rfl, rfl, rfl, fun h => by cases h⟩
theorem ok13 : ∃ d i z, Try.prog.underlying 13 = some d ∧ (T 13).k.fits d ∧ Try.prog.info? 13 = some i ∧ i.size = (T 13).size ∧ i.bytes = (T 13).bytes ∧ i.zero = some z ∧ z.cells.toList = (T 13).zero ∧ z = zeroVal (T 13) ∧ ((T 13).eq = true → eqB Try.prog 13 d = true) :=
 ⟨_, Try.t13, _, Try.underlying13, ⟨_, rfl, rfl⟩, Try.type13, rfl, rfl, rfl, rfl, rfl, fun h => by cases h⟩
theorem ok20 : ∃ d i z, Try.prog.underlying 20 = some d ∧ (T 20).k.fits d ∧ Try.prog.info? 20 = some i ∧ i.size = (T 20).size ∧ i.bytes = (T 20).bytes ∧ i.zero = some z ∧ z.cells.toList = (T 20).zero ∧ z = zeroVal (T 20) ∧ ((T 20).eq = true → eqB Try.prog 20 d = true) :=
 ⟨_, Try.t20, _, Try.underlying20, ⟨_, rfl⟩, Try.type20, rfl, rfl, rfl, rfl, rfl, fun h => by cases h⟩
theorem ok21 : ∃ d i z, Try.prog.underlying 21 = some d ∧ (T 21).k.fits d ∧ Try.prog.info? 21 = some i ∧ i.size = (T 21).size ∧ i.bytes = (T 21).bytes ∧ i.zero = some z ∧ z.cells.toList = (T 21).zero ∧ z = zeroVal (T 21) ∧ ((T 21).eq = true → eqB Try.prog 21 d = true) :=
 ⟨_, Try.t21, _, Try.underlying21, rfl, Try.type21, rfl, rfl, rfl, rfl, rfl, fun h => by cases h⟩
theorem ok22 : ∃ d i z, Try.prog.underlying 22 = some d ∧ (T 22).k.fits d ∧ Try.prog.info? 22 = some i ∧ i.size = (T 22).size ∧ i.bytes = (T 22).bytes ∧ i.zero = some z ∧ z.cells.toList = (T 22).zero ∧ z = zeroVal (T 22) ∧ ((T 22).eq = true → eqB Try.prog 22 d = true) :=
 ⟨_, Try.t22, _, Try.underlying22, rfl, Try.type22, rfl, rfl, rfl, rfl, rfl, fun _ => by kernel_rfl⟩
theorem ok23 : ∃ d i z, Try.prog.underlying 23 = some d ∧ (T 23).k.fits d ∧ Try.prog.info? 23 = some i ∧ i.size = (T 23).size ∧ i.bytes = (T 23).bytes ∧ i.zero = some z ∧ z.cells.toList = (T 23).zero ∧ z = zeroVal (T 23) ∧ ((T 23).eq = true → eqB Try.prog 23 d = true) :=
 ⟨_, Try.t23, _, Try.underlying23, rfl, Try.type23, rfl, rfl, rfl, rfl, rfl, fun h => by cases h⟩
theorem ok24 : ∃ d i z, Try.prog.underlying 24 = some d ∧ (T 24).k.fits d ∧ Try.prog.info? 24 = some i ∧ i.size = (T 24).size ∧ i.bytes = (T 24).bytes ∧ i.zero = some z ∧ z.cells.toList = (T 24).zero ∧ z = zeroVal (T 24) ∧ ((T 24).eq = true → eqB Try.prog 24 d = true) :=
 ⟨_, Try.t24, _, Try.underlying24, rfl, Try.type24, rfl, rfl, rfl, rfl, rfl, fun h => by cases h⟩
theorem ok25 : ∃ d i z, Try.prog.underlying 25 = some d ∧ (T 25).k.fits d ∧ Try.prog.info? 25 = some i ∧ i.size = (T 25).size ∧ i.bytes = (T 25).bytes ∧ i.zero = some z ∧ z.cells.toList = (T 25).zero ∧ z = zeroVal (T 25) ∧ ((T 25).eq = true → eqB Try.prog 25 d = true) :=
 ⟨_, Try.t25, _, Try.underlying25, rfl, Try.type25, rfl, rfl, rfl, rfl, rfl, fun h => by cases h⟩
theorem ok26 : ∃ d i z, Try.prog.underlying 26 = some d ∧ (T 26).k.fits d ∧ Try.prog.info? 26 = some i ∧ i.size = (T 26).size ∧ i.bytes = (T 26).bytes ∧ i.zero = some z ∧ z.cells.toList = (T 26).zero ∧ z = zeroVal (T 26) ∧ ((T 26).eq = true → eqB Try.prog 26 d = true) :=
 ⟨_, Try.t26, _, Try.underlying26, ⟨_, rfl, rfl⟩, Try.type26, rfl, rfl, rfl, rfl, rfl, fun h => by cases h⟩
theorem ok27 : ∃ d i z, Try.prog.underlying 27 = some d ∧ (T 27).k.fits d ∧ Try.prog.info? 27 = some i ∧ i.size = (T 27).size ∧ i.bytes = (T 27).bytes ∧ i.zero = some z ∧ z.cells.toList = (T 27).zero ∧ z = zeroVal (T 27) ∧ ((T 27).eq = true → eqB Try.prog 27 d = true) :=
 ⟨_, Try.t27, _, Try.underlying27, ⟨_, rfl, rfl⟩, Try.type27, rfl, rfl, rfl, rfl, rfl, fun h => by cases h⟩
theorem ok28 : ∃ d i z, Try.prog.underlying 28 = some d ∧ (T 28).k.fits d ∧ Try.prog.info? 28 = some i ∧ i.size = (T 28).size ∧ i.bytes = (T 28).bytes ∧ i.zero = some z ∧ z.cells.toList = (T 28).zero ∧ z = zeroVal (T 28) ∧ ((T 28).eq = true → eqB Try.prog 28 d = true) :=
 ⟨_, Try.t28, _, Try.underlying28, rfl, Try.type28, rfl, rfl, rfl, rfl, rfl, fun h => by cases h⟩
theorem ok30 : ∃ d i z, Try.prog.underlying 30 = some d ∧ (T 30).k.fits d ∧ Try.prog.info? 30 = some i ∧ i.size = (T 30).size ∧ i.bytes = (T 30).bytes ∧ i.zero = some z ∧ z.cells.toList = (T 30).zero ∧ z = zeroVal (T 30) ∧ ((T 30).eq = true → eqB Try.prog 30 d = true) :=
 ⟨_, Try.t30, _, Try.underlying30, ⟨_, _, _, rfl⟩, Try.type30, rfl, rfl, rfl, rfl, rfl, fun h => by cases h⟩
theorem ok31 : ∃ d i z, Try.prog.underlying 31 = some d ∧ (T 31).k.fits d ∧ Try.prog.info? 31 = some i ∧ i.size = (T 31).size ∧ i.bytes = (T 31).bytes ∧ i.zero = some z ∧ z.cells.toList = (T 31).zero ∧ z = zeroVal (T 31) ∧ ((T 31).eq = true → eqB Try.prog 31 d = true) :=
 ⟨_, Try.t31, _, Try.underlying31, ⟨_, _, _, rfl⟩, Try.type31, rfl, rfl, rfl, rfl, rfl, fun h => by cases h⟩
theorem ok32 : ∃ d i z, Try.prog.underlying 32 = some d ∧ (T 32).k.fits d ∧ Try.prog.info? 32 = some i ∧ i.size = (T 32).size ∧ i.bytes = (T 32).bytes ∧ i.zero = some z ∧ z.cells.toList = (T 32).zero ∧ z = zeroVal (T 32) ∧ ((T 32).eq = true → eqB Try.prog 32 d = true) :=
 ⟨_, Try.t32, _, Try.underlying32, ⟨_, _, _, rfl⟩, Try.type32, rfl, rfl, rfl, rfl, rfl, fun h => by cases h⟩
theorem ok33 : ∃ d i z, Try.prog.underlying 33 = some d ∧ (T 33).k.fits d ∧ Try.prog.info? 33 = some i ∧ i.size = (T 33).size ∧ i.bytes = (T 33).bytes ∧ i.zero = some z ∧ z.cells.toList = (T 33).zero ∧ z = zeroVal (T 33) ∧ ((T 33).eq = true → eqB Try.prog 33 d = true) :=
 ⟨_, Try.t33, _, Try.underlying33, ⟨_, _, _, rfl⟩, Try.type33, rfl, rfl, rfl, rfl, rfl, fun h => by cases h⟩
theorem ok34 : ∃ d i z, Try.prog.underlying 34 = some d ∧ (T 34).k.fits d ∧ Try.prog.info? 34 = some i ∧ i.size = (T 34).size ∧ i.bytes = (T 34).bytes ∧ i.zero = some z ∧ z.cells.toList = (T 34).zero ∧ z = zeroVal (T 34) ∧ ((T 34).eq = true → eqB Try.prog 34 d = true) :=
 ⟨_, Try.t34, _, Try.underlying34, ⟨_, _, _, rfl⟩, Try.type34, rfl, rfl, rfl, rfl, rfl, fun h => by cases h⟩
theorem ok35 : ∃ d i z, Try.prog.underlying 35 = some d ∧ (T 35).k.fits d ∧ Try.prog.info? 35 = some i ∧ i.size = (T 35).size ∧ i.bytes = (T 35).bytes ∧ i.zero = some z ∧ z.cells.toList = (T 35).zero ∧ z = zeroVal (T 35) ∧ ((T 35).eq = true → eqB Try.prog 35 d = true) :=
 ⟨_, Try.t35, _, Try.underlying35, ⟨_, _, _, rfl⟩, Try.type35, rfl, rfl, rfl, rfl, rfl, fun h => by cases h⟩
theorem ok36 : ∃ d i z, Try.prog.underlying 36 = some d ∧ (T 36).k.fits d ∧ Try.prog.info? 36 = some i ∧ i.size = (T 36).size ∧ i.bytes = (T 36).bytes ∧ i.zero = some z ∧ z.cells.toList = (T 36).zero ∧ z = zeroVal (T 36) ∧ ((T 36).eq = true → eqB Try.prog 36 d = true) :=
 ⟨_, Try.t36, _, Try.underlying36, ⟨_, _, _, rfl⟩, Try.type36, rfl, rfl, rfl, rfl, rfl, fun h => by cases h⟩
theorem ok37 : ∃ d i z, Try.prog.underlying 37 = some d ∧ (T 37).k.fits d ∧ Try.prog.info? 37 = some i ∧ i.size = (T 37).size ∧ i.bytes = (T 37).bytes ∧ i.zero = some z ∧ z.cells.toList = (T 37).zero ∧ z = zeroVal (T 37) ∧ ((T 37).eq = true → eqB Try.prog 37 d = true) :=
 ⟨_, Try.t37, _, Try.underlying37, ⟨_, _, _, rfl⟩, Try.type37, rfl, rfl, rfl, rfl, rfl, fun h => by cases h⟩
theorem ok38 : ∃ d i z, Try.prog.underlying 38 = some d ∧ (T 38).k.fits d ∧ Try.prog.info? 38 = some i ∧ i.size = (T 38).size ∧ i.bytes = (T 38).bytes ∧ i.zero = some z ∧ z.cells.toList = (T 38).zero ∧ z = zeroVal (T 38) ∧ ((T 38).eq = true → eqB Try.prog 38 d = true) :=
 ⟨_, Try.t38, _, Try.underlying38, rfl, Try.type38, rfl, rfl, rfl, rfl, rfl, fun h => by cases h⟩
theorem ok39 : ∃ d i z, Try.prog.underlying 39 = some d ∧ (T 39).k.fits d ∧ Try.prog.info? 39 = some i ∧ i.size = (T 39).size ∧ i.bytes = (T 39).bytes ∧ i.zero = some z ∧ z.cells.toList = (T 39).zero ∧ z = zeroVal (T 39) ∧ ((T 39).eq = true → eqB Try.prog 39 d = true) :=
 ⟨_, Try.t39, _, Try.underlying39, ⟨_, _, _, rfl⟩, Try.type39, rfl, rfl, rfl, rfl, rfl, fun h => by cases h⟩
theorem ok40 : ∃ d i z, Try.prog.underlying 40 = some d ∧ (T 40).k.fits d ∧ Try.prog.info? 40 = some i ∧ i.size = (T 40).size ∧ i.bytes = (T 40).bytes ∧ i.zero = some z ∧ z.cells.toList = (T 40).zero ∧ z = zeroVal (T 40) ∧ ((T 40).eq = true → eqB Try.prog 40 d = true) :=
 ⟨_, Try.t40, _, Try.underlying40, ⟨_, _, _, rfl⟩, Try.type40, rfl, rfl, rfl, rfl, rfl, fun h => by cases h⟩
theorem ok41 : ∃ d i z, Try.prog.underlying 41 = some d ∧ (T 41).k.fits d ∧ Try.prog.info? 41 = some i ∧ i.size = (T 41).size ∧ i.bytes = (T 41).bytes ∧ i.zero = some z ∧ z.cells.toList = (T 41).zero ∧ z = zeroVal (T 41) ∧ ((T 41).eq = true → eqB Try.prog 41 d = true) :=
 ⟨_, Try.t41, _, Try.underlying41, ⟨_, _, _, rfl⟩, Try.type41, rfl, rfl, rfl, rfl, rfl, fun h => by cases h⟩
theorem ok42 : ∃ d i z, Try.prog.underlying 42 = some d ∧ (T 42).k.fits d ∧ Try.prog.info? 42 = some i ∧ i.size = (T 42).size ∧ i.bytes = (T 42).bytes ∧ i.zero = some z ∧ z.cells.toList = (T 42).zero ∧ z = zeroVal (T 42) ∧ ((T 42).eq = true → eqB Try.prog 42 d = true) :=
 ⟨_, Try.t42, _, Try.underlying42, ⟨_, _, _, rfl⟩, Try.type42, rfl, rfl, rfl, rfl, rfl, fun h => by cases h⟩
theorem ok43 : ∃ d i z, Try.prog.underlying 43 = some d ∧ (T 43).k.fits d ∧ Try.prog.info? 43 = some i ∧ i.size = (T 43).size ∧ i.bytes = (T 43).bytes ∧ i.zero = some z ∧ z.cells.toList = (T 43).zero ∧ z = zeroVal (T 43) ∧ ((T 43).eq = true → eqB Try.prog 43 d = true) :=
 ⟨_, Try.t43, _, Try.underlying43, ⟨_, _, _, rfl⟩, Try.type43, rfl, rfl, rfl, rfl, rfl, fun h => by cases h⟩
theorem ok44 : ∃ d i z, Try.prog.underlying 44 = some d ∧ (T 44).k.fits d ∧ Try.prog.info? 44 = some i ∧ i.size = (T 44).size ∧ i.bytes = (T 44).bytes ∧ i.zero = some z ∧ z.cells.toList = (T 44).zero ∧ z = zeroVal (T 44) ∧ ((T 44).eq = true → eqB Try.prog 44 d = true) :=
 ⟨_, Try.t44, _, Try.underlying44, ⟨_, _, _, rfl⟩, Try.type44, rfl, rfl, rfl, rfl, rfl, fun h => by cases h⟩
theorem ok45 : ∃ d i z, Try.prog.underlying 45 = some d ∧ (T 45).k.fits d ∧ Try.prog.info? 45 = some i ∧ i.size = (T 45).size ∧ i.bytes = (T 45).bytes ∧ i.zero = some z ∧ z.cells.toList = (T 45).zero ∧ z = zeroVal (T 45) ∧ ((T 45).eq = true → eqB Try.prog 45 d = true) :=
 ⟨_, Try.t45, _, Try.underlying45, rfl, Try.type45, rfl, rfl, rfl, rfl, rfl, fun h => by cases h⟩
theorem ok46 : ∃ d i z, Try.prog.underlying 46 = some d ∧ (T 46).k.fits d ∧ Try.prog.info? 46 = some i ∧ i.size = (T 46).size ∧ i.bytes = (T 46).bytes ∧ i.zero = some z ∧ z.cells.toList = (T 46).zero ∧ z = zeroVal (T 46) ∧ ((T 46).eq = true → eqB Try.prog 46 d = true) :=
 ⟨_, Try.t46, _, Try.underlying46, ⟨_, _, _, rfl⟩, Try.type46, rfl, rfl, rfl, rfl, rfl, fun h => by cases h⟩
theorem ok47 : ∃ d i z, Try.prog.underlying 47 = some d ∧ (T 47).k.fits d ∧ Try.prog.info? 47 = some i ∧ i.size = (T 47).size ∧ i.bytes = (T 47).bytes ∧ i.zero = some z ∧ z.cells.toList = (T 47).zero ∧ z = zeroVal (T 47) ∧ ((T 47).eq = true → eqB Try.prog 47 d = true) :=
 ⟨_, Try.t47, _, Try.underlying47, rfl, Try.type47, rfl, rfl, rfl, rfl, rfl, fun h => by cases h⟩
theorem ok48 : ∃ d i z, Try.prog.underlying 48 = some d ∧ (T 48).k.fits d ∧ Try.prog.info? 48 = some i ∧ i.size = (T 48).size ∧ i.bytes = (T 48).bytes ∧ i.zero = some z ∧ z.cells.toList = (T 48).zero ∧ z = zeroVal (T 48) ∧ ((T 48).eq = true → eqB Try.prog 48 d = true) :=
 ⟨_, Try.t48, _, Try.underlying48, rfl, Try.type48, rfl, rfl, rfl, rfl, rfl, fun h => by cases h⟩
theorem ok49 : ∃ d i z, Try.prog.underlying 49 = some d ∧ (T 49).k.fits d ∧ Try.prog.info? 49 = some i ∧ i.size = (T 49).size ∧ i.bytes = (T 49).bytes ∧ i.zero = some z ∧ z.cells.toList = (T 49).zero ∧ z = zeroVal (T 49) ∧ ((T 49).eq = true → eqB Try.prog 49 d = true) :=
 ⟨_, Try.t49, _, Try.underlying49, rfl, Try.type49, rfl, rfl, rfl, rfl, rfl, fun h => by cases h⟩
theorem ok50 : ∃ d i z, Try.prog.underlying 50 = some d ∧ (T 50).k.fits d ∧ Try.prog.info? 50 = some i ∧ i.size = (T 50).size ∧ i.bytes = (T 50).bytes ∧ i.zero = some z ∧ z.cells.toList = (T 50).zero ∧ z = zeroVal (T 50) ∧ ((T 50).eq = true → eqB Try.prog 50 d = true) :=
 ⟨_, Try.t50, _, Try.underlying50, rfl, Try.type50, rfl, rfl, rfl, rfl, rfl, fun h => by cases h⟩
theorem ok51 : ∃ d i z, Try.prog.underlying 51 = some d ∧ (T 51).k.fits d ∧ Try.prog.info? 51 = some i ∧ i.size = (T 51).size ∧ i.bytes = (T 51).bytes ∧ i.zero = some z ∧ z.cells.toList = (T 51).zero ∧ z = zeroVal (T 51) ∧ ((T 51).eq = true → eqB Try.prog 51 d = true) :=
 ⟨_, Try.t51, _, Try.underlying51, ⟨_, rfl, rfl⟩, Try.type51, rfl, rfl, rfl, rfl, rfl, fun h => by cases h⟩
theorem ok52 : ∃ d i z, Try.prog.underlying 52 = some d ∧ (T 52).k.fits d ∧ Try.prog.info? 52 = some i ∧ i.size = (T 52).size ∧ i.bytes = (T 52).bytes ∧ i.zero = some z ∧ z.cells.toList = (T 52).zero ∧ z = zeroVal (T 52) ∧ ((T 52).eq = true → eqB Try.prog 52 d = true) :=
 ⟨_, Try.t52, _, Try.underlying52, ⟨_, rfl, rfl⟩, Try.type52, rfl, rfl, rfl, rfl, rfl, fun h => by cases h⟩
theorem ok53 : ∃ d i z, Try.prog.underlying 53 = some d ∧ (T 53).k.fits d ∧ Try.prog.info? 53 = some i ∧ i.size = (T 53).size ∧ i.bytes = (T 53).bytes ∧ i.zero = some z ∧ z.cells.toList = (T 53).zero ∧ z = zeroVal (T 53) ∧ ((T 53).eq = true → eqB Try.prog 53 d = true) :=
 ⟨_, Try.t53, _, Try.underlying53, ⟨_, _, _, rfl⟩, Try.type53, rfl, rfl, rfl, rfl, rfl, fun h => by cases h⟩
theorem ok54 : ∃ d i z, Try.prog.underlying 54 = some d ∧ (T 54).k.fits d ∧ Try.prog.info? 54 = some i ∧ i.size = (T 54).size ∧ i.bytes = (T 54).bytes ∧ i.zero = some z ∧ z.cells.toList = (T 54).zero ∧ z = zeroVal (T 54) ∧ ((T 54).eq = true → eqB Try.prog 54 d = true) :=
 ⟨_, Try.t54, _, Try.underlying54, rfl, Try.type54, rfl, rfl, rfl, rfl, rfl, fun _ => by kernel_rfl⟩
theorem ok55 : ∃ d i z, Try.prog.underlying 55 = some d ∧ (T 55).k.fits d ∧ Try.prog.info? 55 = some i ∧ i.size = (T 55).size ∧ i.bytes = (T 55).bytes ∧ i.zero = some z ∧ z.cells.toList = (T 55).zero ∧ z = zeroVal (T 55) ∧ ((T 55).eq = true → eqB Try.prog 55 d = true) :=
 ⟨_, Try.t55, _, Try.underlying55, ⟨_, _, _, rfl⟩, Try.type55, rfl, rfl, rfl, rfl, rfl, fun h => by cases h⟩
theorem ok56 : ∃ d i z, Try.prog.underlying 56 = some d ∧ (T 56).k.fits d ∧ Try.prog.info? 56 = some i ∧ i.size = (T 56).size ∧ i.bytes = (T 56).bytes ∧ i.zero = some z ∧ z.cells.toList = (T 56).zero ∧ z = zeroVal (T 56) ∧ ((T 56).eq = true → eqB Try.prog 56 d = true) :=
 ⟨_, Try.t56, _, Try.underlying56, ⟨_, _, _, rfl⟩, Try.type56, rfl, rfl, rfl, rfl, rfl, fun h => by cases h⟩
theorem ok57 : ∃ d i z, Try.prog.underlying 57 = some d ∧ (T 57).k.fits d ∧ Try.prog.info? 57 = some i ∧ i.size = (T 57).size ∧ i.bytes = (T 57).bytes ∧ i.zero = some z ∧ z.cells.toList = (T 57).zero ∧ z = zeroVal (T 57) ∧ ((T 57).eq = true → eqB Try.prog 57 d = true) :=
 ⟨_, Try.t57, _, Try.underlying57, ⟨_, _, _, rfl⟩, Try.type57, rfl, rfl, rfl, rfl, rfl, fun h => by cases h⟩
theorem ok58 : ∃ d i z, Try.prog.underlying 58 = some d ∧ (T 58).k.fits d ∧ Try.prog.info? 58 = some i ∧ i.size = (T 58).size ∧ i.bytes = (T 58).bytes ∧ i.zero = some z ∧ z.cells.toList = (T 58).zero ∧ z = zeroVal (T 58) ∧ ((T 58).eq = true → eqB Try.prog 58 d = true) :=
 ⟨_, Try.t58, _, Try.underlying58, ⟨_, _, _, rfl⟩, Try.type58, rfl, rfl, rfl, rfl, rfl, fun h => by cases h⟩
theorem ok59 : ∃ d i z, Try.prog.underlying 59 = some d ∧ (T 59).k.fits d ∧ Try.prog.info? 59 = some i ∧ i.size = (T 59).size ∧ i.bytes = (T 59).bytes ∧ i.zero = some z ∧ z.cells.toList = (T 59).zero ∧ z = zeroVal (T 59) ∧ ((T 59).eq = true → eqB Try.prog 59 d = true) :=
 ⟨_, Try.t59, _, Try.underlying59, ⟨_, _, _, rfl⟩, Try.type59, rfl, rfl, rfl, rfl, rfl, fun h => by cases h⟩
theorem ok60 : ∃ d i z, Try.prog.underlying 60 = some d ∧ (T 60).k.fits d ∧ Try.prog.info? 60 = some i ∧ i.size = (T 60).size ∧ i.bytes = (T 60).bytes ∧ i.zero = some z ∧ z.cells.toList = (T 60).zero ∧ z = zeroVal (T 60) ∧ ((T 60).eq = true → eqB Try.prog 60 d = true) :=
 ⟨_, Try.t60, _, Try.underlying60, ⟨_, _, _, rfl⟩, Try.type60, rfl, rfl, rfl, rfl, rfl, fun h => by cases h⟩
theorem ok61 : ∃ d i z, Try.prog.underlying 61 = some d ∧ (T 61).k.fits d ∧ Try.prog.info? 61 = some i ∧ i.size = (T 61).size ∧ i.bytes = (T 61).bytes ∧ i.zero = some z ∧ z.cells.toList = (T 61).zero ∧ z = zeroVal (T 61) ∧ ((T 61).eq = true → eqB Try.prog 61 d = true) :=
 ⟨_, Try.t61, _, Try.underlying61, ⟨_, _, _, rfl⟩, Try.type61, rfl, rfl, rfl, rfl, rfl, fun h => by cases h⟩
theorem ok62 : ∃ d i z, Try.prog.underlying 62 = some d ∧ (T 62).k.fits d ∧ Try.prog.info? 62 = some i ∧ i.size = (T 62).size ∧ i.bytes = (T 62).bytes ∧ i.zero = some z ∧ z.cells.toList = (T 62).zero ∧ z = zeroVal (T 62) ∧ ((T 62).eq = true → eqB Try.prog 62 d = true) :=
 ⟨_, Try.t62, _, Try.underlying62, ⟨_, _, _, rfl⟩, Try.type62, rfl, rfl, rfl, rfl, rfl, fun h => by cases h⟩
theorem ok63 : ∃ d i z, Try.prog.underlying 63 = some d ∧ (T 63).k.fits d ∧ Try.prog.info? 63 = some i ∧ i.size = (T 63).size ∧ i.bytes = (T 63).bytes ∧ i.zero = some z ∧ z.cells.toList = (T 63).zero ∧ z = zeroVal (T 63) ∧ ((T 63).eq = true → eqB Try.prog 63 d = true) :=
 ⟨_, Try.t63, _, Try.underlying63, ⟨_, _, _, rfl⟩, Try.type63, rfl, rfl, rfl, rfl, rfl, fun h => by cases h⟩
theorem ok64 : ∃ d i z, Try.prog.underlying 64 = some d ∧ (T 64).k.fits d ∧ Try.prog.info? 64 = some i ∧ i.size = (T 64).size ∧ i.bytes = (T 64).bytes ∧ i.zero = some z ∧ z.cells.toList = (T 64).zero ∧ z = zeroVal (T 64) ∧ ((T 64).eq = true → eqB Try.prog 64 d = true) :=
 ⟨_, Try.t64, _, Try.underlying64, ⟨_, _, _, rfl⟩, Try.type64, rfl, rfl, rfl, rfl, rfl, fun h => by cases h⟩
theorem ok65 : ∃ d i z, Try.prog.underlying 65 = some d ∧ (T 65).k.fits d ∧ Try.prog.info? 65 = some i ∧ i.size = (T 65).size ∧ i.bytes = (T 65).bytes ∧ i.zero = some z ∧ z.cells.toList = (T 65).zero ∧ z = zeroVal (T 65) ∧ ((T 65).eq = true → eqB Try.prog 65 d = true) :=
 ⟨_, Try.t65, _, Try.underlying65, ⟨_, _, _, rfl⟩, Try.type65, rfl, rfl, rfl, rfl, rfl, fun h => by cases h⟩
theorem ok66 : ∃ d i z, Try.prog.underlying 66 = some d ∧ (T 66).k.fits d ∧ Try.prog.info? 66 = some i ∧ i.size = (T 66).size ∧ i.bytes = (T 66).bytes ∧ i.zero = some z ∧ z.cells.toList = (T 66).zero ∧ z = zeroVal (T 66) ∧ ((T 66).eq = true → eqB Try.prog 66 d = true) :=
 ⟨_, Try.t66, _, Try.underlying66, ⟨_, _, _, rfl⟩, Try.type66, rfl, rfl, rfl, rfl, rfl, fun h => by cases h⟩
theorem ok67 : ∃ d i z, Try.prog.underlying 67 = some d ∧ (T 67).k.fits d ∧ Try.prog.info? 67 = some i ∧ i.size = (T 67).size ∧ i.bytes = (T 67).bytes ∧ i.zero = some z ∧ z.cells.toList = (T 67).zero ∧ z = zeroVal (T 67) ∧ ((T 67).eq = true → eqB Try.prog 67 d = true) :=
 ⟨_, Try.t67, _, Try.underlying67, ⟨_, _, _, rfl⟩, Try.type67, rfl, rfl, rfl, rfl, rfl, fun h => by cases h⟩
theorem ok69 : ∃ d i z, Try.prog.underlying 69 = some d ∧ (T 69).k.fits d ∧ Try.prog.info? 69 = some i ∧ i.size = (T 69).size ∧ i.bytes = (T 69).bytes ∧ i.zero = some z ∧ z.cells.toList = (T 69).zero ∧ z = zeroVal (T 69) ∧ ((T 69).eq = true → eqB Try.prog 69 d = true) :=
 ⟨_, Try.t69, _, Try.underlying69, ⟨_, _, _, rfl⟩, Try.type69, rfl, rfl, rfl, rfl, rfl, fun h => by cases h⟩
theorem ok70 : ∃ d i z, Try.prog.underlying 70 = some d ∧ (T 70).k.fits d ∧ Try.prog.info? 70 = some i ∧ i.size = (T 70).size ∧ i.bytes = (T 70).bytes ∧ i.zero = some z ∧ z.cells.toList = (T 70).zero ∧ z = zeroVal (T 70) ∧ ((T 70).eq = true → eqB Try.prog 70 d = true) :=
 ⟨_, Try.t70, _, Try.underlying70, ⟨_, _, _, rfl⟩, Try.type70, rfl, rfl, rfl, rfl, rfl, fun h => by cases h⟩
theorem ok71 : ∃ d i z, Try.prog.underlying 71 = some d ∧ (T 71).k.fits d ∧ Try.prog.info? 71 = some i ∧ i.size = (T 71).size ∧ i.bytes = (T 71).bytes ∧ i.zero = some z ∧ z.cells.toList = (T 71).zero ∧ z = zeroVal (T 71) ∧ ((T 71).eq = true → eqB Try.prog 71 d = true) :=
 ⟨_, Try.t71, _, Try.underlying71, ⟨_, _, _, rfl⟩, Try.type71, rfl, rfl, rfl, rfl, rfl, fun h => by cases h⟩
theorem ok72 : ∃ d i z, Try.prog.underlying 72 = some d ∧ (T 72).k.fits d ∧ Try.prog.info? 72 = some i ∧ i.size = (T 72).size ∧ i.bytes = (T 72).bytes ∧ i.zero = some z ∧ z.cells.toList = (T 72).zero ∧ z = zeroVal (T 72) ∧ ((T 72).eq = true → eqB Try.prog 72 d = true) :=
 ⟨_, Try.t72, _, Try.underlying72, ⟨_, _, _, rfl⟩, Try.type72, rfl, rfl, rfl, rfl, rfl, fun h => by cases h⟩
theorem ok73 : ∃ d i z, Try.prog.underlying 73 = some d ∧ (T 73).k.fits d ∧ Try.prog.info? 73 = some i ∧ i.size = (T 73).size ∧ i.bytes = (T 73).bytes ∧ i.zero = some z ∧ z.cells.toList = (T 73).zero ∧ z = zeroVal (T 73) ∧ ((T 73).eq = true → eqB Try.prog 73 d = true) :=
 ⟨_, Try.t73, _, Try.underlying73, ⟨_, _, _, rfl⟩, Try.type73, rfl, rfl, rfl, rfl, rfl, fun h => by cases h⟩
theorem ok74 : ∃ d i z, Try.prog.underlying 74 = some d ∧ (T 74).k.fits d ∧ Try.prog.info? 74 = some i ∧ i.size = (T 74).size ∧ i.bytes = (T 74).bytes ∧ i.zero = some z ∧ z.cells.toList = (T 74).zero ∧ z = zeroVal (T 74) ∧ ((T 74).eq = true → eqB Try.prog 74 d = true) :=
 ⟨_, Try.t74, _, Try.underlying74, ⟨_, rfl, rfl⟩, Try.type74, rfl, rfl, rfl, rfl, rfl, fun h => by cases h⟩
theorem ok75 : ∃ d i z, Try.prog.underlying 75 = some d ∧ (T 75).k.fits d ∧ Try.prog.info? 75 = some i ∧ i.size = (T 75).size ∧ i.bytes = (T 75).bytes ∧ i.zero = some z ∧ z.cells.toList = (T 75).zero ∧ z = zeroVal (T 75) ∧ ((T 75).eq = true → eqB Try.prog 75 d = true) :=
 ⟨_, Try.t75, _, Try.underlying75, ⟨_, rfl, rfl⟩, Try.type75, rfl, rfl, rfl, rfl, rfl, fun h => by cases h⟩
theorem ok76 : ∃ d i z, Try.prog.underlying 76 = some d ∧ (T 76).k.fits d ∧ Try.prog.info? 76 = some i ∧ i.size = (T 76).size ∧ i.bytes = (T 76).bytes ∧ i.zero = some z ∧ z.cells.toList = (T 76).zero ∧ z = zeroVal (T 76) ∧ ((T 76).eq = true → eqB Try.prog 76 d = true) :=
 ⟨_, Try.t76, _, Try.underlying76, ⟨_, _, _, rfl⟩, Try.type76, rfl, rfl, rfl, rfl, rfl, fun h => by cases h⟩
theorem ok77 : ∃ d i z, Try.prog.underlying 77 = some d ∧ (T 77).k.fits d ∧ Try.prog.info? 77 = some i ∧ i.size = (T 77).size ∧ i.bytes = (T 77).bytes ∧ i.zero = some z ∧ z.cells.toList = (T 77).zero ∧ z = zeroVal (T 77) ∧ ((T 77).eq = true → eqB Try.prog 77 d = true) :=
 ⟨_, Try.t77, _, Try.underlying77, ⟨_, _, _, rfl⟩, Try.type77, rfl, rfl, rfl, rfl, rfl, fun h => by cases h⟩
theorem ok78 : ∃ d i z, Try.prog.underlying 78 = some d ∧ (T 78).k.fits d ∧ Try.prog.info? 78 = some i ∧ i.size = (T 78).size ∧ i.bytes = (T 78).bytes ∧ i.zero = some z ∧ z.cells.toList = (T 78).zero ∧ z = zeroVal (T 78) ∧ ((T 78).eq = true → eqB Try.prog 78 d = true) :=
 ⟨_, Try.t78, _, Try.underlying78, ⟨_, _, _, rfl⟩, Try.type78, rfl, rfl, rfl, rfl, rfl, fun h => by cases h⟩
theorem ok79 : ∃ d i z, Try.prog.underlying 79 = some d ∧ (T 79).k.fits d ∧ Try.prog.info? 79 = some i ∧ i.size = (T 79).size ∧ i.bytes = (T 79).bytes ∧ i.zero = some z ∧ z.cells.toList = (T 79).zero ∧ z = zeroVal (T 79) ∧ ((T 79).eq = true → eqB Try.prog 79 d = true) :=
 ⟨_, Try.t79, _, Try.underlying79, ⟨_, _, _, rfl⟩, Try.type79, rfl, rfl, rfl, rfl, rfl, fun h => by cases h⟩
theorem ok80 : ∃ d i z, Try.prog.underlying 80 = some d ∧ (T 80).k.fits d ∧ Try.prog.info? 80 = some i ∧ i.size = (T 80).size ∧ i.bytes = (T 80).bytes ∧ i.zero = some z ∧ z.cells.toList = (T 80).zero ∧ z = zeroVal (T 80) ∧ ((T 80).eq = true → eqB Try.prog 80 d = true) :=
 ⟨_, Try.t80, _, Try.underlying80, rfl, Try.type80, rfl, rfl, rfl, rfl, rfl, fun h => by cases h⟩
theorem ok81 : ∃ d i z, Try.prog.underlying 81 = some d ∧ (T 81).k.fits d ∧ Try.prog.info? 81 = some i ∧ i.size = (T 81).size ∧ i.bytes = (T 81).bytes ∧ i.zero = some z ∧ z.cells.toList = (T 81).zero ∧ z = zeroVal (T 81) ∧ ((T 81).eq = true → eqB Try.prog 81 d = true) :=
 ⟨_, Try.t81, _, Try.underlying81, ⟨_, _, _, rfl⟩, Try.type81, rfl, rfl, rfl, rfl, rfl, fun h => by cases h⟩
theorem ok82 : ∃ d i z, Try.prog.underlying 82 = some d ∧ (T 82).k.fits d ∧ Try.prog.info? 82 = some i ∧ i.size = (T 82).size ∧ i.bytes = (T 82).bytes ∧ i.zero = some z ∧ z.cells.toList = (T 82).zero ∧ z = zeroVal (T 82) ∧ ((T 82).eq = true → eqB Try.prog 82 d = true) :=
 ⟨_, Try.t82, _, Try.underlying82, rfl, Try.type82, rfl, rfl, rfl, rfl, rfl, fun h => by cases h⟩
theorem ok84 : ∃ d i z, Try.prog.underlying 84 = some d ∧ (T 84).k.fits d ∧ Try.prog.info? 84 = some i ∧ i.size = (T 84).size ∧ i.bytes = (T 84).bytes ∧ i.zero = some z ∧ z.cells.toList = (T 84).zero ∧ z = zeroVal (T 84) ∧ ((T 84).eq = true → eqB Try.prog 84 d = true) :=
 ⟨_, Try.t84, _, Try.underlying84, ⟨_, _, _, rfl⟩, Try.type84, rfl, rfl, rfl, rfl, rfl, fun h => by cases h⟩
theorem ok85 : ∃ d i z, Try.prog.underlying 85 = some d ∧ (T 85).k.fits d ∧ Try.prog.info? 85 = some i ∧ i.size = (T 85).size ∧ i.bytes = (T 85).bytes ∧ i.zero = some z ∧ z.cells.toList = (T 85).zero ∧ z = zeroVal (T 85) ∧ ((T 85).eq = true → eqB Try.prog 85 d = true) :=
 ⟨_, Try.t85, _, Try.underlying85, ⟨_, _, _, rfl⟩, Try.type85, rfl, rfl, rfl, rfl, rfl, fun h => by cases h⟩
theorem ok86 : ∃ d i z, Try.prog.underlying 86 = some d ∧ (T 86).k.fits d ∧ Try.prog.info? 86 = some i ∧ i.size = (T 86).size ∧ i.bytes = (T 86).bytes ∧ i.zero = some z ∧ z.cells.toList = (T 86).zero ∧ z = zeroVal (T 86) ∧ ((T 86).eq = true → eqB Try.prog 86 d = true) :=
 ⟨_, Try.t86, _, Try.underlying86, ⟨_, _, _, rfl⟩, Try.type86, rfl, rfl, rfl, rfl, rfl, fun h => by cases h⟩
theorem ok88 : ∃ d i z, Try.prog.underlying 88 = some d ∧ (T 88).k.fits d ∧ Try.prog.info? 88 = some i ∧ i.size = (T 88).size ∧ i.bytes = (T 88).bytes ∧ i.zero = some z ∧ z.cells.toList = (T 88).zero ∧ z = zeroVal (T 88) ∧ ((T 88).eq = true → eqB Try.prog 88 d = true) :=
 ⟨_, Try.t88, _, Try.underlying88, ⟨_, _, _, rfl⟩, Try.type88, rfl, rfl, rfl, rfl, rfl, fun h => by cases h⟩
theorem ok89 : ∃ d i z, Try.prog.underlying 89 = some d ∧ (T 89).k.fits d ∧ Try.prog.info? 89 = some i ∧ i.size = (T 89).size ∧ i.bytes = (T 89).bytes ∧ i.zero = some z ∧ z.cells.toList = (T 89).zero ∧ z = zeroVal (T 89) ∧ ((T 89).eq = true → eqB Try.prog 89 d = true) :=
 ⟨_, Try.t89, _, Try.underlying89, ⟨_, _, _, rfl⟩, Try.type89, rfl, rfl, rfl, rfl, rfl, fun h => by cases h⟩
theorem ok90 : ∃ d i z, Try.prog.underlying 90 = some d ∧ (T 90).k.fits d ∧ Try.prog.info? 90 = some i ∧ i.size = (T 90).size ∧ i.bytes = (T 90).bytes ∧ i.zero = some z ∧ z.cells.toList = (T 90).zero ∧ z = zeroVal (T 90) ∧ ((T 90).eq = true → eqB Try.prog 90 d = true) :=
 ⟨_, Try.t90, _, Try.underlying90, ⟨_, _, _, rfl⟩, Try.type90, rfl, rfl, rfl, rfl, rfl, fun h => by cases h⟩
theorem ok91 : ∃ d i z, Try.prog.underlying 91 = some d ∧ (T 91).k.fits d ∧ Try.prog.info? 91 = some i ∧ i.size = (T 91).size ∧ i.bytes = (T 91).bytes ∧ i.zero = some z ∧ z.cells.toList = (T 91).zero ∧ z = zeroVal (T 91) ∧ ((T 91).eq = true → eqB Try.prog 91 d = true) :=
 ⟨_, Try.t91, _, Try.underlying91, ⟨_, _, _, rfl⟩, Try.type91, rfl, rfl, rfl, rfl, rfl, fun h => by cases h⟩
theorem ok92 : ∃ d i z, Try.prog.underlying 92 = some d ∧ (T 92).k.fits d ∧ Try.prog.info? 92 = some i ∧ i.size = (T 92).size ∧ i.bytes = (T 92).bytes ∧ i.zero = some z ∧ z.cells.toList = (T 92).zero ∧ z = zeroVal (T 92) ∧ ((T 92).eq = true → eqB Try.prog 92 d = true) :=
 ⟨_, Try.t92, _, Try.underlying92, ⟨_, _, _, rfl⟩, Try.type92, rfl, rfl, rfl, rfl, rfl, fun h => by cases h⟩
theorem ok93 : ∃ d i z, Try.prog.underlying 93 = some d ∧ (T 93).k.fits d ∧ Try.prog.info? 93 = some i ∧ i.size = (T 93).size ∧ i.bytes = (T 93).bytes ∧ i.zero = some z ∧ z.cells.toList = (T 93).zero ∧ z = zeroVal (T 93) ∧ ((T 93).eq = true → eqB Try.prog 93 d = true) :=
 ⟨_, Try.t93, _, Try.underlying93, ⟨_, _, _, rfl⟩, Try.type93, rfl, rfl, rfl, rfl, rfl, fun h => by cases h⟩
theorem ok94 : ∃ d i z, Try.prog.underlying 94 = some d ∧ (T 94).k.fits d ∧ Try.prog.info? 94 = some i ∧ i.size = (T 94).size ∧ i.bytes = (T 94).bytes ∧ i.zero = some z ∧ z.cells.toList = (T 94).zero ∧ z = zeroVal (T 94) ∧ ((T 94).eq = true → eqB Try.prog 94 d = true) :=
 ⟨_, Try.t94, _, Try.underlying94, rfl, Try.type94, rfl, rfl, rfl, rfl, rfl, fun h => by cases h⟩
theorem ok95 : ∃ d i z, Try.prog.underlying 95 = some d ∧ (T 95).k.fits d ∧ Try.prog.info? 95 = some i ∧ i.size = (T 95).size ∧ i.bytes = (T 95).bytes ∧ i.zero = some z ∧ z.cells.toList = (T 95).zero ∧ z = zeroVal (T 95) ∧ ((T 95).eq = true → eqB Try.prog 95 d = true) :=
 ⟨_, Try.t95, _, Try.underlying95, rfl, Try.type95, rfl, rfl, rfl, rfl, rfl, fun h => by cases h⟩
theorem ok97 : ∃ d i z, Try.prog.underlying 97 = some d ∧ (T 97).k.fits d ∧ Try.prog.info? 97 = some i ∧ i.size = (T 97).size ∧ i.bytes = (T 97).bytes ∧ i.zero = some z ∧ z.cells.toList = (T 97).zero ∧ z = zeroVal (T 97) ∧ ((T 97).eq = true → eqB Try.prog 97 d = true) :=
 ⟨_, Try.t97, _, Try.underlying97, ⟨_, _, _, rfl⟩, Try.type97, rfl, rfl, rfl, rfl, rfl, fun h => by cases h⟩
theorem ok98 : ∃ d i z, Try.prog.underlying 98 = some d ∧ (T 98).k.fits d ∧ Try.prog.info? 98 = some i ∧ i.size = (T 98).size ∧ i.bytes = (T 98).bytes ∧ i.zero = some z ∧ z.cells.toList = (T 98).zero ∧ z = zeroVal (T 98) ∧ ((T 98).eq = true → eqB Try.prog 98 d = true) :=
 ⟨_, Try.t98, _, Try.underlying98, ⟨_, _, _, rfl⟩, Try.type98, rfl, rfl, rfl, rfl, rfl, fun h => by cases h⟩
theorem ok99 : ∃ d i z, Try.prog.underlying 99 = some d ∧ (T 99).k.fits d ∧ Try.prog.info? 99 = some i ∧ i.size = (T 99).size ∧ i.bytes = (T 99).bytes ∧ i.zero = some z ∧ z.cells.toList = (T 99).zero ∧ z = zeroVal (T 99) ∧ ((T 99).eq = true → eqB Try.prog 99 d = true) :=
 ⟨_, Try.t99, _, Try.underlying99, ⟨_, _, _, rfl⟩, Try.type99, rfl, rfl, rfl, rfl, rfl, fun h => by cases h⟩
theorem ok100 : ∃ d i z, Try.prog.underlying 100 = some d ∧ (T 100).k.fits d ∧ Try.prog.info? 100 = some i ∧ i.size = (T 100).size ∧ i.bytes = (T 100).bytes ∧ i.zero = some z ∧ z.cells.toList = (T 100).zero ∧ z = zeroVal (T 100) ∧ ((T 100).eq = true → eqB Try.prog 100 d = true) :=
 ⟨_, Try.t100, _, Try.underlying100, ⟨_, _, _, rfl⟩, Try.type100, rfl, rfl, rfl, rfl, rfl, fun h => by cases h⟩
theorem ok101 : ∃ d i z, Try.prog.underlying 101 = some d ∧ (T 101).k.fits d ∧ Try.prog.info? 101 = some i ∧ i.size = (T 101).size ∧ i.bytes = (T 101).bytes ∧ i.zero = some z ∧ z.cells.toList = (T 101).zero ∧ z = zeroVal (T 101) ∧ ((T 101).eq = true → eqB Try.prog 101 d = true) :=
 ⟨_, Try.t101, _, Try.underlying101, ⟨_, _, _, rfl⟩, Try.type101, rfl, rfl, rfl, rfl, rfl, fun h => by cases h⟩
theorem ok102 : ∃ d i z, Try.prog.underlying 102 = some d ∧ (T 102).k.fits d ∧ Try.prog.info? 102 = some i ∧ i.size = (T 102).size ∧ i.bytes = (T 102).bytes ∧ i.zero = some z ∧ z.cells.toList = (T 102).zero ∧ z = zeroVal (T 102) ∧ ((T 102).eq = true → eqB Try.prog 102 d = true) :=
 ⟨_, Try.t102, _, Try.underlying102, ⟨_, _, _, rfl⟩, Try.type102, rfl, rfl, rfl, rfl, rfl, fun h => by cases h⟩
theorem ok103 : ∃ d i z, Try.prog.underlying 103 = some d ∧ (T 103).k.fits d ∧ Try.prog.info? 103 = some i ∧ i.size = (T 103).size ∧ i.bytes = (T 103).bytes ∧ i.zero = some z ∧ z.cells.toList = (T 103).zero ∧ z = zeroVal (T 103) ∧ ((T 103).eq = true → eqB Try.prog 103 d = true) :=
 ⟨_, Try.t103, _, Try.underlying103, ⟨_, _, _, rfl⟩, Try.type103, rfl, rfl, rfl, rfl, rfl, fun h => by cases h⟩
theorem ok104 : ∃ d i z, Try.prog.underlying 104 = some d ∧ (T 104).k.fits d ∧ Try.prog.info? 104 = some i ∧ i.size = (T 104).size ∧ i.bytes = (T 104).bytes ∧ i.zero = some z ∧ z.cells.toList = (T 104).zero ∧ z = zeroVal (T 104) ∧ ((T 104).eq = true → eqB Try.prog 104 d = true) :=
 ⟨_, Try.t104, _, Try.underlying104, rfl, Try.type104, rfl, rfl, rfl, rfl, rfl, fun h => by cases h⟩
theorem ok106 : ∃ d i z, Try.prog.underlying 106 = some d ∧ (T 106).k.fits d ∧ Try.prog.info? 106 = some i ∧ i.size = (T 106).size ∧ i.bytes = (T 106).bytes ∧ i.zero = some z ∧ z.cells.toList = (T 106).zero ∧ z = zeroVal (T 106) ∧ ((T 106).eq = true → eqB Try.prog 106 d = true) :=
 ⟨_, Try.t106, _, Try.underlying106, ⟨_, _, _, rfl⟩, Try.type106, rfl, rfl, rfl, rfl, rfl, fun h => by cases h⟩
theorem ok107 : ∃ d i z, Try.prog.underlying 107 = some d ∧ (T 107).k.fits d ∧ Try.prog.info? 107 = some i ∧ i.size = (T 107).size ∧ i.bytes = (T 107).bytes ∧ i.zero = some z ∧ z.cells.toList = (T 107).zero ∧ z = zeroVal (T 107) ∧ ((T 107).eq = true → eqB Try.prog 107 d = true) :=
 ⟨_, Try.t107, _, Try.underlying107, ⟨_, _, _, rfl⟩, Try.type107, rfl, rfl, rfl, rfl, rfl, fun h => by cases h⟩
theorem ok108 : ∃ d i z, Try.prog.underlying 108 = some d ∧ (T 108).k.fits d ∧ Try.prog.info? 108 = some i ∧ i.size = (T 108).size ∧ i.bytes = (T 108).bytes ∧ i.zero = some z ∧ z.cells.toList = (T 108).zero ∧ z = zeroVal (T 108) ∧ ((T 108).eq = true → eqB Try.prog 108 d = true) :=
 ⟨_, Try.t108, _, Try.underlying108, ⟨_, _, _, rfl⟩, Try.type108, rfl, rfl, rfl, rfl, rfl, fun h => by cases h⟩
theorem ok109 : ∃ d i z, Try.prog.underlying 109 = some d ∧ (T 109).k.fits d ∧ Try.prog.info? 109 = some i ∧ i.size = (T 109).size ∧ i.bytes = (T 109).bytes ∧ i.zero = some z ∧ z.cells.toList = (T 109).zero ∧ z = zeroVal (T 109) ∧ ((T 109).eq = true → eqB Try.prog 109 d = true) :=
 ⟨_, Try.t109, _, Try.underlying109, ⟨_, _, _, rfl⟩, Try.type109, rfl, rfl, rfl, rfl, rfl, fun h => by cases h⟩
theorem ok110 : ∃ d i z, Try.prog.underlying 110 = some d ∧ (T 110).k.fits d ∧ Try.prog.info? 110 = some i ∧ i.size = (T 110).size ∧ i.bytes = (T 110).bytes ∧ i.zero = some z ∧ z.cells.toList = (T 110).zero ∧ z = zeroVal (T 110) ∧ ((T 110).eq = true → eqB Try.prog 110 d = true) :=
 ⟨_, Try.t110, _, Try.underlying110, rfl, Try.type110, rfl, rfl, rfl, rfl, rfl, fun h => by cases h⟩
theorem ok111 : ∃ d i z, Try.prog.underlying 111 = some d ∧ (T 111).k.fits d ∧ Try.prog.info? 111 = some i ∧ i.size = (T 111).size ∧ i.bytes = (T 111).bytes ∧ i.zero = some z ∧ z.cells.toList = (T 111).zero ∧ z = zeroVal (T 111) ∧ ((T 111).eq = true → eqB Try.prog 111 d = true) :=
 ⟨_, Try.t111, _, Try.underlying111, ⟨_, _, _, rfl⟩, Try.type111, rfl, rfl, rfl, rfl, rfl, fun h => by cases h⟩
theorem ok112 : ∃ d i z, Try.prog.underlying 112 = some d ∧ (T 112).k.fits d ∧ Try.prog.info? 112 = some i ∧ i.size = (T 112).size ∧ i.bytes = (T 112).bytes ∧ i.zero = some z ∧ z.cells.toList = (T 112).zero ∧ z = zeroVal (T 112) ∧ ((T 112).eq = true → eqB Try.prog 112 d = true) :=
 ⟨_, Try.t112, _, Try.underlying112, ⟨_, _, _, rfl⟩, Try.type112, rfl, rfl, rfl, rfl, rfl, fun h => by cases h⟩
theorem ok113 : ∃ d i z, Try.prog.underlying 113 = some d ∧ (T 113).k.fits d ∧ Try.prog.info? 113 = some i ∧ i.size = (T 113).size ∧ i.bytes = (T 113).bytes ∧ i.zero = some z ∧ z.cells.toList = (T 113).zero ∧ z = zeroVal (T 113) ∧ ((T 113).eq = true → eqB Try.prog 113 d = true) :=
 ⟨_, Try.t113, _, Try.underlying113, ⟨_, _, _, rfl⟩, Try.type113, rfl, rfl, rfl, rfl, rfl, fun h => by cases h⟩
theorem ok114 : ∃ d i z, Try.prog.underlying 114 = some d ∧ (T 114).k.fits d ∧ Try.prog.info? 114 = some i ∧ i.size = (T 114).size ∧ i.bytes = (T 114).bytes ∧ i.zero = some z ∧ z.cells.toList = (T 114).zero ∧ z = zeroVal (T 114) ∧ ((T 114).eq = true → eqB Try.prog 114 d = true) :=
 ⟨_, Try.t114, _, Try.underlying114, rfl, Try.type114, rfl, rfl, rfl, rfl, rfl, fun h => by cases h⟩
theorem ok116 : ∃ d i z, Try.prog.underlying 116 = some d ∧ (T 116).k.fits d ∧ Try.prog.info? 116 = some i ∧ i.size = (T 116).size ∧ i.bytes = (T 116).bytes ∧ i.zero = some z ∧ z.cells.toList = (T 116).zero ∧ z = zeroVal (T 116) ∧ ((T 116).eq = true → eqB Try.prog 116 d = true) :=
 ⟨_, Try.t116, _, Try.underlying116, ⟨_, _, _, rfl⟩, Try.type116, rfl, rfl, rfl, rfl, rfl, fun h => by cases h⟩
theorem ok117 : ∃ d i z, Try.prog.underlying 117 = some d ∧ (T 117).k.fits d ∧ Try.prog.info? 117 = some i ∧ i.size = (T 117).size ∧ i.bytes = (T 117).bytes ∧ i.zero = some z ∧ z.cells.toList = (T 117).zero ∧ z = zeroVal (T 117) ∧ ((T 117).eq = true → eqB Try.prog 117 d = true) :=
 ⟨_, Try.t117, _, Try.underlying117, ⟨_, _, _, rfl⟩, Try.type117, rfl, rfl, rfl, rfl, rfl, fun h => by cases h⟩
theorem ok118 : ∃ d i z, Try.prog.underlying 118 = some d ∧ (T 118).k.fits d ∧ Try.prog.info? 118 = some i ∧ i.size = (T 118).size ∧ i.bytes = (T 118).bytes ∧ i.zero = some z ∧ z.cells.toList = (T 118).zero ∧ z = zeroVal (T 118) ∧ ((T 118).eq = true → eqB Try.prog 118 d = true) :=
 ⟨_, Try.t118, _, Try.underlying118, rfl, Try.type118, rfl, rfl, rfl, rfl, rfl, fun h => by cases h⟩
theorem ok119 : ∃ d i z, Try.prog.underlying 119 = some d ∧ (T 119).k.fits d ∧ Try.prog.info? 119 = some i ∧ i.size = (T 119).size ∧ i.bytes = (T 119).bytes ∧ i.zero = some z ∧ z.cells.toList = (T 119).zero ∧ z = zeroVal (T 119) ∧ ((T 119).eq = true → eqB Try.prog 119 d = true) :=
 ⟨_, Try.t119, _, Try.underlying119, rfl, Try.type119, rfl, rfl, rfl, rfl, rfl, fun _ => by kernel_rfl⟩
theorem ok120 : ∃ d i z, Try.prog.underlying 120 = some d ∧ (T 120).k.fits d ∧ Try.prog.info? 120 = some i ∧ i.size = (T 120).size ∧ i.bytes = (T 120).bytes ∧ i.zero = some z ∧ z.cells.toList = (T 120).zero ∧ z = zeroVal (T 120) ∧ ((T 120).eq = true → eqB Try.prog 120 d = true) :=
 ⟨_, Try.t120, _, Try.underlying120, rfl, Try.type120, rfl, rfl, rfl, rfl, rfl, fun _ => by kernel_rfl⟩
theorem ok121 : ∃ d i z, Try.prog.underlying 121 = some d ∧ (T 121).k.fits d ∧ Try.prog.info? 121 = some i ∧ i.size = (T 121).size ∧ i.bytes = (T 121).bytes ∧ i.zero = some z ∧ z.cells.toList = (T 121).zero ∧ z = zeroVal (T 121) ∧ ((T 121).eq = true → eqB Try.prog 121 d = true) :=
 ⟨_, Try.t121, _, Try.underlying121, rfl, Try.type121, rfl, rfl, rfl, rfl, rfl, fun _ => by kernel_rfl⟩
theorem ok122 : ∃ d i z, Try.prog.underlying 122 = some d ∧ (T 122).k.fits d ∧ Try.prog.info? 122 = some i ∧ i.size = (T 122).size ∧ i.bytes = (T 122).bytes ∧ i.zero = some z ∧ z.cells.toList = (T 122).zero ∧ z = zeroVal (T 122) ∧ ((T 122).eq = true → eqB Try.prog 122 d = true) :=
 ⟨_, Try.t122, _, Try.underlying122, ⟨_, _, _, rfl⟩, Try.type122, rfl, rfl, rfl, rfl, rfl, fun h => by cases h⟩
theorem ok123 : ∃ d i z, Try.prog.underlying 123 = some d ∧ (T 123).k.fits d ∧ Try.prog.info? 123 = some i ∧ i.size = (T 123).size ∧ i.bytes = (T 123).bytes ∧ i.zero = some z ∧ z.cells.toList = (T 123).zero ∧ z = zeroVal (T 123) ∧ ((T 123).eq = true → eqB Try.prog 123 d = true) :=
 ⟨_, Try.t123, _, Try.underlying123, ⟨_, _, _, rfl⟩, Try.type123, rfl, rfl, rfl, rfl, rfl, fun h => by cases h⟩
theorem ok124 : ∃ d i z, Try.prog.underlying 124 = some d ∧ (T 124).k.fits d ∧ Try.prog.info? 124 = some i ∧ i.size = (T 124).size ∧ i.bytes = (T 124).bytes ∧ i.zero = some z ∧ z.cells.toList = (T 124).zero ∧ z = zeroVal (T 124) ∧ ((T 124).eq = true → eqB Try.prog 124 d = true) :=
 ⟨_, Try.t124, _, Try.underlying124, rfl, Try.type124, rfl, rfl, rfl, rfl, rfl, fun h => by cases h⟩
theorem ok126 : ∃ d i z, Try.prog.underlying 126 = some d ∧ (T 126).k.fits d ∧ Try.prog.info? 126 = some i ∧ i.size = (T 126).size ∧ i.bytes = (T 126).bytes ∧ i.zero = some z ∧ z.cells.toList = (T 126).zero ∧ z = zeroVal (T 126) ∧ ((T 126).eq = true → eqB Try.prog 126 d = true) :=
 ⟨_, Try.t126, _, Try.underlying126, ⟨_, _, _, rfl⟩, Try.type126, rfl, rfl, rfl, rfl, rfl, fun h => by cases h⟩
theorem ok128 : ∃ d i z, Try.prog.underlying 128 = some d ∧ (T 128).k.fits d ∧ Try.prog.info? 128 = some i ∧ i.size = (T 128).size ∧ i.bytes = (T 128).bytes ∧ i.zero = some z ∧ z.cells.toList = (T 128).zero ∧ z = zeroVal (T 128) ∧ ((T 128).eq = true → eqB Try.prog 128 d = true) :=
 ⟨_, Try.t128, _, Try.underlying128, ⟨_, _, _, rfl⟩, Try.type128, rfl, rfl, rfl, rfl, rfl, fun h => by cases h⟩
theorem ok129 : ∃ d i z, Try.prog.underlying 129 = some d ∧ (T 129).k.fits d ∧ Try.prog.info? 129 = some i ∧ i.size = (T 129).size ∧ i.bytes = (T 129).bytes ∧ i.zero = some z ∧ z.cells.toList = (T 129).zero ∧ z = zeroVal (T 129) ∧ ((T 129).eq = true → eqB Try.prog 129 d = true) :=
 ⟨_, Try.t129, _, Try.underlying129, ⟨_, _, _, rfl⟩, Try.type129, rfl, rfl, rfl, rfl, rfl, fun h => by cases h⟩
theorem ok130 : ∃ d i z, Try.prog.underlying 130 = some d ∧ (T 130).k.fits d ∧ Try.prog.info? 130 = some i ∧ i.size = (T 130).size ∧ i.bytes = (T 130).bytes ∧ i.zero = some z ∧ z.cells.toList = (T 130).zero ∧ z = zeroVal (T 130) ∧ ((T 130).eq = true → eqB Try.prog 130 d = true) :=
 ⟨_, Try.t130, _, Try.underlying130, ⟨_, _, _, rfl⟩, Try.type130, rfl, rfl, rfl, rfl, rfl, fun h => by cases h⟩
theorem ok131 : ∃ d i z, Try.prog.underlying 131 = some d ∧ (T 131).k.fits d ∧ Try.prog.info? 131 = some i ∧ i.size = (T 131).size ∧ i.bytes = (T 131).bytes ∧ i.zero = some z ∧ z.cells.toList = (T 131).zero ∧ z = zeroVal (T 131) ∧ ((T 131).eq = true → eqB Try.prog 131 d = true) :=
 ⟨_, Try.t131, _, Try.underlying131, ⟨_, _, _, rfl⟩, Try.type131, rfl, rfl, rfl, rfl, rfl, fun h => by cases h⟩
theorem ok134 : ∃ d i z, Try.prog.underlying 134 = some d ∧ (T 134).k.fits d ∧ Try.prog.info? 134 = some i ∧ i.size = (T 134).size ∧ i.bytes = (T 134).bytes ∧ i.zero = some z ∧ z.cells.toList = (T 134).zero ∧ z = zeroVal (T 134) ∧ ((T 134).eq = true → eqB Try.prog 134 d = true) :=
 ⟨_, Try.t134, _, Try.underlying134, rfl, Try.type134, rfl, rfl, rfl, rfl, rfl, fun h => by cases h⟩
theorem ok135 : ∃ d i z, Try.prog.underlying 135 = some d ∧ (T 135).k.fits d ∧ Try.prog.info? 135 = some i ∧ i.size = (T 135).size ∧ i.bytes = (T 135).bytes ∧ i.zero = some z ∧ z.cells.toList = (T 135).zero ∧ z = zeroVal (T 135) ∧ ((T 135).eq = true → eqB Try.prog 135 d = true) :=
 ⟨_, Try.t135, _, Try.underlying135, ⟨_, rfl, rfl⟩, Try.type135, rfl, rfl, rfl, rfl, rfl, fun h => by cases h⟩
theorem ok137 : ∃ d i z, Try.prog.underlying 137 = some d ∧ (T 137).k.fits d ∧ Try.prog.info? 137 = some i ∧ i.size = (T 137).size ∧ i.bytes = (T 137).bytes ∧ i.zero = some z ∧ z.cells.toList = (T 137).zero ∧ z = zeroVal (T 137) ∧ ((T 137).eq = true → eqB Try.prog 137 d = true) :=
 ⟨_, Try.t137, _, Try.underlying137, ⟨_, _, _, rfl⟩, Try.type137, rfl, rfl, rfl, rfl, rfl, fun h => by cases h⟩
theorem ok140 : ∃ d i z, Try.prog.underlying 140 = some d ∧ (T 140).k.fits d ∧ Try.prog.info? 140 = some i ∧ i.size = (T 140).size ∧ i.bytes = (T 140).bytes ∧ i.zero = some z ∧ z.cells.toList = (T 140).zero ∧ z = zeroVal (T 140) ∧ ((T 140).eq = true → eqB Try.prog 140 d = true) :=
 ⟨_, Try.t140, _, Try.underlying140, ⟨_, _, _, rfl⟩, Try.type140, rfl, rfl, rfl, rfl, rfl, fun h => by cases h⟩
theorem ok141 : ∃ d i z, Try.prog.underlying 141 = some d ∧ (T 141).k.fits d ∧ Try.prog.info? 141 = some i ∧ i.size = (T 141).size ∧ i.bytes = (T 141).bytes ∧ i.zero = some z ∧ z.cells.toList = (T 141).zero ∧ z = zeroVal (T 141) ∧ ((T 141).eq = true → eqB Try.prog 141 d = true) :=
 ⟨_, Try.t141, _, Try.underlying141, rfl, Try.type141, rfl, rfl, rfl, rfl, rfl, fun h => by cases h⟩
theorem tok : TyOk Try.prog T := by
 intro t
 by_cases h : (T t).k = .none
 ·exact .inl h
 ·refine .inr ?_
  unfold T at h
  split at h
  ·exact ok1
  ·exact ok2
  ·exact ok3
  ·exact ok4
  ·exact ok5
  ·exact ok9
  ·exact ok12
  ·exact ok13
  ·exact ok20
  ·exact ok21
  ·exact ok22
  ·exact ok23
  ·exact ok24
  ·exact ok25
  ·exact ok26
  ·exact ok27
  ·exact ok28
  ·exact ok30
  ·exact ok31
  ·exact ok32
  ·exact ok33
  ·exact ok34
  ·exact ok35
  ·exact ok36
  ·exact ok37
  ·exact ok38
  ·exact ok39
  ·exact ok40
  ·exact ok41
  ·exact ok42
  ·exact ok43
  ·exact ok44
  ·exact ok45
  ·exact ok46
  ·exact ok47
  ·exact ok48
  ·exact ok49
  ·exact ok50
  ·exact ok51
  ·exact ok52
  ·exact ok53
  ·exact ok54
  ·exact ok55
  ·exact ok56
  ·exact ok57
  ·exact ok58
  ·exact ok59
  ·exact ok60
  ·exact ok61
  ·exact ok62
  ·exact ok63
  ·exact ok64
  ·exact ok65
  ·exact ok66
  ·exact ok67
  ·exact ok69
  ·exact ok70
  ·exact ok71
  ·exact ok72
  ·exact ok73
  ·exact ok74
  ·exact ok75
  ·exact ok76
  ·exact ok77
  ·exact ok78
  ·exact ok79
  ·exact ok80
  ·exact ok81
  ·exact ok82
  ·exact ok84
  ·exact ok85
  ·exact ok86
  ·exact ok88
  ·exact ok89
  ·exact ok90
  ·exact ok91
  ·exact ok92
  ·exact ok93
  ·exact ok94
  ·exact ok95
  ·exact ok97
  ·exact ok98
  ·exact ok99
  ·exact ok100
  ·exact ok101
  ·exact ok102
  ·exact ok103
  ·exact ok104
  ·exact ok106
  ·exact ok107
  ·exact ok108
  ·exact ok109
  ·exact ok110
  ·exact ok111
  ·exact ok112
  ·exact ok113
  ·exact ok114
  ·exact ok116
  ·exact ok117
  ·exact ok118
  ·exact ok119
  ·exact ok120
  ·exact ok121
  ·exact ok122
  ·exact ok123
  ·exact ok124
  ·exact ok126
  ·exact ok128
  ·exact ok129
  ·exact ok130
  ·exact ok131
  ·exact ok134
  ·exact ok135
  ·exact ok137
  ·exact ok140
  ·exact ok141
  ·exact absurd rfl h
theorem mixed : Try.prog.follows .mixedOrders = true := by kernel_rfl
theorem seatok : SeatOk Try.prog := ⟨by kernel_rfl, by kernel_rfl, by kernel_rfl⟩
end Go.Proofs.Ytdeableflgakdaa
namespace Go.Proofs.Ytdeableflgakdaa
open Go Go.V Go.Proofs
section bare
variable {α : Type}
def numb : Nat → List α → List (α × Int)
 | _, [] => []
 | i, k :: ks => (k, (i : Int)) :: numb (i + 1) ks
theorem numb_len (i : Nat) (ks : List α) : (numb i ks).length = ks.length := by
 induction ks generalizing i with
 | nil => rfl
 | cons k ks ih => simp [numb, ih]
end bare
section plain
variable {α : Type} [DecidableEq α]
def place (ks : List α) (k : α) : Option Nat := ks.findIdx? (fun x => decide (k = x))
theorem aget_numb (k : α) : ∀ (ks : List α) (i : Nat), aget k (numb i ks) = Option.map (fun n : Nat => ((i + n : Nat) : Int)) (place ks k)
 | [], i => rfl
 | x :: ks, i => by
  simp only [numb, aget, place, List.findIdx?_cons]
  by_cases h : k = x
  ·simp [h]
  ·have ih := aget_numb k ks (i + 1)
   unfold place at ih
   rw [if_neg h, ih]
   simp only [h, decide_false, Bool.false_eq_true, if_false, Option.map_map]
   congr 1; funext n; simp; omega
theorem aget_numb0 (k : α) (ks : List α) : aget k (numb 0 ks) = Option.map (fun n : Nat => (n : Int)) (place ks k) := by
 rw [aget_numb]; cases place ks k <;> simp
theorem place_none {k : α} {ks : List α} (h : place ks k = none) : k ∉ ks := fun hk => by
 unfold place at h
 rw [List.findIdx?_eq_none_iff] at h
 have := h k hk
 simp at this
theorem place_some {k : α} {ks : List α} {n : Nat} (h : place ks k = some n) : n < ks.length ∧ ks[n]? = some k := by
 unfold place at h
 rw [List.findIdx?_eq_some_iff_getElem] at h
 obtain ⟨h1, h2, _⟩ := h
 exact ⟨h1, by rw [List.getElem?_eq_getElem h1]; simpa using (of_decide_eq_true h2).symm⟩
theorem place_mem {k : α} {ks : List α} (h : k ∈ ks) : ∃ n, place ks k = some n := by
 cases hp : place ks k with
 | none => exact absurd h (place_none hp)
 | some n => exact ⟨n, rfl⟩
theorem place_no {k : α} {ks : List α} (h : k ∉ ks) : place ks k = none := by
 cases hp : place ks k with
 | none => rfl
 | some n =>
  obtain ⟨h1, h2⟩ := place_some hp
  rw [List.getElem?_eq_getElem h1, Option.some.injEq] at h2
  exact absurd (h2 ▸ List.getElem_mem h1) h
theorem place_get {ks : List α} (hnd : ks.Nodup) {n : Nat} (h : n < ks.length) : place ks ks[n] = some n := by
 obtain ⟨m, hm⟩ := place_mem (List.getElem_mem h)
 obtain ⟨h1, h2⟩ := place_some hm
 rw [List.getElem?_eq_getElem h1, Option.some.injEq] at h2
 rw [hm, (List.getElem_inj hnd).1 h2]
theorem place_app {k : α} {ks : List α} (h : k ∈ ks) (ls : List α) : place (ks ++ ls) k = place ks k := by
 obtain ⟨n, hn⟩ := place_mem h
 rw [hn]
 unfold place at hn ⊢
 rw [List.findIdx?_append, hn]; rfl
theorem place_end {k : α} {ks : List α} (h : k ∉ ks) : place (ks ++ [k]) k = some ks.length := by
 have hn := place_no h
 unfold place at hn ⊢
 rw [List.findIdx?_append, hn]
 simp
theorem aput_numb (k : α) : ∀ (ks : List α) (i : Nat), k ∉ ks → aput k ((i + ks.length : Nat) : Int) (numb i ks) = numb i (ks ++ [k])
 | [], i, _ => by simp [numb, aput]
 | x :: ks, i, h => by
  simp only [List.mem_cons, not_or] at h
  have ih := aput_numb k ks (i + 1) h.2
  simp only [numb, aput, List.cons_append, if_neg h.1, List.length_cons]
  rw [show i + (ks.length + 1) = i + 1 + ks.length by omega, ih]
theorem aput_numb0 (k : α) (ks : List α) (h : k ∉ ks) : aput k (ks.length : Int) (numb 0 ks) = numb 0 (ks ++ [k]) := by
 have := aput_numb k ks 0 h
 rwa [Nat.zero_add] at this
theorem aput_new {k : α} {ks : List α} (h : place ks k = none) : aput k (ks.length : Int) (numb 0 ks) = numb 0 (ks ++ [k]) := aput_numb0 k ks (place_none h)
theorem place_nil (k : α) : place [] k = none := rfl
def findF (ks : List α) (k : α) : Int := match place ks k with | some n => (n : Int) | none => -1
theorem findF_some {ks : List α} {k : α} {n : Nat} (h : place ks k = some n) : findF ks k = n := by unfold findF; rw [h]
theorem findF_none {ks : List α} {k : α} (h : place ks k = none) : findF ks k = -1 := by unfold findF; rw [h]
theorem findF_app {k : α} {ks : List α} (h : k ∈ ks) (ls : List α) : findF (ks ++ ls) k = findF ks k := by unfold findF; rw [place_app h]
theorem findF_inj {ks : List α} {x y : α} (hx : x ∈ ks) (hy : y ∈ ks) (h : findF ks x = findF ks y) : x = y := by
 obtain ⟨a, ha⟩ := place_mem hx
 obtain ⟨b, hb⟩ := place_mem hy
 rw [findF_some ha, findF_some hb] at h
 obtain rfl : a = b := by omega
 have := (place_some ha).2.symm.trans (place_some hb).2
 exact Option.some.inj this
def tabO (l : List α) : List α := l.foldl (fun t k => if k ∈ t then t else t ++ [k]) []
theorem tabO_nil : tabO ([] : List α) = [] := rfl
theorem tabO_snoc (l : List α) (k : α) : tabO (l ++ [k]) = if k ∈ tabO l then tabO l else tabO l ++ [k] := by unfold tabO; rw [List.foldl_append]; rfl
theorem snocI {P : List α → Prop} (h0 : P []) (h1 : ∀ l k, P l → P (l ++ [k])) (l : List α) : P l := by
 have : ∀ n, ∀ l : List α, l.length = n → P l := fun n => by
  induction n with
  | zero => intro l hl; rw [List.eq_nil_of_length_eq_zero hl]; exact h0
  | succ n ih =>
   intro l hl
   have hne : l ≠ [] := fun e => by rw [e] at hl; cases hl
   rw [← List.dropLast_concat_getLast hne]
   exact h1 _ _ (ih _ (by simp [hl]))
 exact this _ l rfl
theorem mem_tabO {x : α} (l : List α) : x ∈ tabO l ↔ x ∈ l := by
 induction l using snocI with
 | h0 => simp [tabO_nil]
 | h1 l k ih =>
  rw [tabO_snoc, List.mem_append, List.mem_singleton]
  split
  ·rename_i hk
   rw [ih]
   constructor
   ·exact .inl
   ·rintro (h | h)
    ·exact h
    ·subst h; exact ih.1 hk
  ·rw [List.mem_append, ih, List.mem_singleton]
theorem tabO_nodup (l : List α) : (tabO l).Nodup := by
 induction l using snocI with
 | h0 => exact List.nodup_nil
 | h1 l k ih =>
  rw [tabO_snoc]
  split
  ·exact ih
  ·rename_i hk
   exact List.nodup_append.2 ⟨ih, by simp, fun a ha b hb => by
    obtain rfl : b = k := by simpa using hb
    intro e; subst e; exact hk ha⟩
theorem tabO_len (l : List α) : (tabO l).length ≤ l.length := by
 induction l using snocI with
 | h0 => exact Nat.le_refl _
 | h1 l k ih =>
  rw [tabO_snoc]
  split <;> simp <;> omega
def nums (l : List α) : List Int := l.map fun k => findF (tabO l) k
theorem nums_len (l : List α) : (nums l).length = l.length := by simp [nums]
theorem nums_nil : nums ([] : List α) = [] := rfl
theorem nums_snoc (l : List α) (k : α) : nums (l ++ [k]) = nums l ++ [findF (tabO (l ++ [k])) k] := by
 unfold nums
 rw [List.map_append, List.map_singleton]
 congr 1
 refine List.map_congr_left fun x hx => ?_
 rw [tabO_snoc]
 split
 ·rfl
 ·exact findF_app ((mem_tabO l).2 hx) _
theorem nums_old {l : List α} {k : α} {n : Nat} (h : place (tabO l) k = some n) : tabO (l ++ [k]) = tabO l ∧ nums (l ++ [k]) = nums l ++ [(n : Int)] := by
 obtain ⟨h1, h2⟩ := place_some h
 rw [List.getElem?_eq_getElem h1, Option.some.injEq] at h2
 have hm : k ∈ tabO l := h2 ▸ List.getElem_mem h1
 have : tabO (l ++ [k]) = tabO l := by rw [tabO_snoc, if_pos hm]
 exact ⟨this, by rw [nums_snoc, this, findF_some h]⟩
theorem nums_new {l : List α} {k : α} (h : place (tabO l) k = none) : tabO (l ++ [k]) = tabO l ++ [k] ∧ nums (l ++ [k]) = nums l ++ [((tabO l).length : Int)] := by
 have hm := place_none h
 have : tabO (l ++ [k]) = tabO l ++ [k] := by rw [tabO_snoc, if_neg hm]
 exact ⟨this, by rw [nums_snoc, this, findF_some (place_end hm)]⟩
theorem nums_get {l : List α} {i : Nat} (h : i < l.length) : (nums l)[i]'(by rw [nums_len]; exact h) = findF (tabO l) l[i] := by simp [nums]
theorem nums_iff {l : List α} {i j : Nat} (hi : i < l.length) (hj : j < l.length) : (nums l)[i]'(by rw [nums_len]; exact hi) = (nums l)[j]'(by rw [nums_len]; exact hj) ↔ l[i] = l[j] := by
 rw [nums_get hi, nums_get hj]
 constructor
 ·exact findF_inj ((mem_tabO l).2 (List.getElem_mem hi)) ((mem_tabO l).2 (List.getElem_mem hj))
 ·intro h; rw [h]
theorem nums_bound {l : List α} {n : Int} (h : n ∈ nums l) : 0 ≤ n ∧ n < (tabO l).length := by
 unfold nums at h
 rw [List.mem_map] at h
 obtain ⟨x, hx, rfl⟩ := h
 obtain ⟨m, hm⟩ := place_mem ((mem_tabO l).2 hx)
 rw [findF_some hm]
 have := (place_some hm).1
 omega
end plain
section two
variable {α β : Type} [DecidableEq α] [DecidableEq β]
theorem mem_take_iff {l : List α} {k : Nat} (hk : k < l.length) : l[k] ∈ l.take k ↔ ∃ j : Nat, ∃ h : j < k, l[j]'(Nat.lt_trans h hk) = l[k] := by
 rw [List.mem_iff_getElem]
 constructor
 ·rintro ⟨j, hj, e⟩
  rw [List.length_take] at hj
  rw [List.getElem_take] at e
  exact ⟨j, by omega, e⟩
 ·rintro ⟨j, hj, e⟩
  exact ⟨j, by rw [List.length_take]; omega, by rw [List.getElem_take]; exact e⟩
theorem nums_same {l : List α} {m : List β} (hlen : l.length = m.length) (h : ∀ i j (hi : i < l.length) (hj : j < l.length), l[i] = l[j] ↔ m[i]'(hlen ▸ hi) = m[j]'(hlen ▸ hj)) : nums l = nums m := by
 have key : ∀ k, k ≤ l.length → nums (l.take k) = nums (m.take k) ∧ (tabO (l.take k)).length = (tabO (m.take k)).length := fun k => by
  induction k with
  | zero => intro _; simp [nums_nil, tabO_nil]
  | succ k ih =>
   intro hk
   have hk' : k < l.length := by omega
   have hkm : k < m.length := by omega
   obtain ⟨h1, h2⟩ := ih (by omega)
   rw [List.take_succ_eq_append_getElem hk', List.take_succ_eq_append_getElem hkm]
   by_cases hmem : l[k] ∈ l.take k
   ·obtain ⟨j, hj, e⟩ := (mem_take_iff hk').1 hmem
    have e2 := (h j k (by omega) hk').1 e
    have hmem2 : m[k] ∈ m.take k := (mem_take_iff hkm).2 ⟨j, hj, e2⟩
    obtain ⟨n, hn⟩ := place_mem ((mem_tabO _).2 hmem)
    obtain ⟨n', hn'⟩ := place_mem ((mem_tabO _).2 hmem2)
    rw [(nums_old hn).1, (nums_old hn).2, (nums_old hn').1, (nums_old hn').2, h1, h2]
    refine ⟨?_, rfl⟩
    have g1 := nums_get (l := l.take k) (i := j) (by rw [List.length_take]; omega)
    have g2 := nums_get (l := m.take k) (i := j) (by rw [List.length_take]; omega)
    rw [List.getElem_take, e, findF_some hn] at g1
    rw [List.getElem_take, e2, findF_some hn'] at g2
    have g3 : (nums (l.take k))[j]'(by rw [nums_len, List.length_take]; omega) = (nums (m.take k))[j]'(by rw [nums_len, List.length_take]; omega) := by simp only [h1]
    rw [g1, g2] at g3
    rw [g3]
   ·have hmem2 : m[k] ∉ m.take k := fun hm => by
     obtain ⟨j, hj, e⟩ := (mem_take_iff hkm).1 hm
     exact hmem ((mem_take_iff hk').2 ⟨j, hj, (h j k (by omega) hk').2 e⟩)
    have p1 := place_no fun hm => hmem ((mem_tabO _).1 hm)
    have p2 := place_no fun hm => hmem2 ((mem_tabO _).1 hm)
    rw [(nums_new p1).1, (nums_new p1).2, (nums_new p2).1, (nums_new p2).2, h1, h2]
    exact ⟨rfl, by simp [h2]⟩
 have := (key l.length (Nat.le_refl _)).1
 rwa [List.take_length, hlen, List.take_length] at this
end two
end Go.Proofs.Ytdeableflgakdaa
namespace Go.Proofs.Ytdeableflgakdaa
open Go Go.V Go.Proofs
theorem hei : KeyEnc T 3 (Value.int .i64) := keyEnc_int (T := T) (t := 3) rfl
theorem normk_t {l : List Int} {a : Option Addr} {cap b1 i : Nat} (hi : i < l.length) {G : PHeap} {H : Heap} {R : Value → PHeap → Heap → Prop} (hrow : Row G a (l.map (Value.int .i64)))
  (hg1 : G b1 = none) (hf : findH H b1 = some (.cells [.slice a l.length cap] [] 24)) (hR : R (.int .i64 l[i]) G H) : FnT Try.prog 60 [.int .i64 (i : Nat), .pointer (some ⟨b1, 0, none⟩)] G H R := by
 have had : Adr a := hrow.adr (by rw [List.length_map]; omega)
 refine FnT.body tok [0, 1, 3] Try.func60 rfl (by kernel_rfl) (by kernel_rfl) (by show _ ≤ 8; simp) fun hsep => ?_
 rw [Try.results60]
 have hsE := hsep
 try simp only [zzs] at hsE
 repeat (obtain ⟨hsx, hsE⟩ := hsE)
 repeat' first
  | (with_reducible first | refine Nx.go ?_ | refine Bk.go (fun _ => ?_) fun _ => ?_)
  | simp -dsimp -implicitDefEqProofs (disch := first | assumption | (simp only [zzm]; done) | omega | (try with_reducible refine Row.adr (by assumption) ?_); simp only [zzl, Nat.reduceAdd]; first | done | omega) only [go_sem, ↓reduceIte, seval, hf, Row.obj hrow, List.getElem_map]
 all_goals refine Upd.finL ?_ hR ?_
 any_goals (intro fsum; first | exact Nat.le_refl _ | (simp only [zzq]; omega))
 rfl
theorem numO_t {l : List Int} (hlen : l.length ≤ 2000000) {a : Option Addr} {cap b1 : Nat} {G : PHeap} {H : Heap} {R : Value → PHeap → Heap → Prop} (hrow : Row G a (l.map (Value.int .i64)))
  (hR : ∀ v kb, Sep G (keys (kb ++ H)) → SliceO [] 3 1 v l.length ((nums l).map (Value.int .i64)) kb → R v G (kb ++ H)) : FnT Try.prog 59 [.int .i64 l.length, .func (.func 60) #[] #[.pointer (some ⟨b1, 0, none⟩)]] G ((b1, .cells [.slice a l.length cap] [] 24) :: H) R := by
 refine FnT.sep ?_
 refine FnT.body tok [0, 1, 4, 5, 6, 7, 8, 10, 12, 13, 14, 26] Try.func59 rfl (by kernel_rfl) (by kernel_rfl) (by show _ ≤ 39; simp) fun hsep => ?_
 rw [Try.results59]
 have hsE := hsep
 try simp only [zzs] at hsE
 repeat (obtain ⟨hsx, hsE⟩ := hsE)
 repeat' first
  | (with_reducible first | refine Nx.go ?_ | refine Bk.go (fun _ => ?_) fun _ => ?_ | refine foundO.mk (fun _ _ => ?_) (fun _ => ?_))
  | ((with_reducible first | refine NewB.mk2 fun nb hnb hnb1 hnb2 => ?_ | refine NewRow.mk2 fun nb nsp ncap hnb hncap hnb1 hnb2 => ?_); try simp only [zzn] at hnb2)
  | simp -dsimp -implicitDefEqProofs (disch := first | assumption | (simp only [zzm]; done) | omega | (try with_reducible refine Row.adr (by assumption) ?_); simp only [zzl, Nat.reduceAdd]; first | done | omega) only [go_sem, ↓reduceIte, seval]
 revert nb
 intro bm hbm hbm1 hbm2
 refine Tri.loopU tok [0, 1, 4, 5, 6, 7, 8, 10, 12, 13, 14, 26] (by kernel_rfl) [0, 1, 4, 5, 6, 12, 13] (fun q G' fr H' => ∃ (i : Nat) (v : Value) (kb : Heap), i + q = l.length ∧ G' = G ∧ SliceO [] 3 1 v i ((nums (l.take i)).map (Value.int .i64)) kb ∧ H' = (bm, .map ((numb 0 (tabO (l.take i))).map fun p => ((Value.int .i64) p.1, Value.int .i64 p.2))) :: (b1, .cells [.slice a l.length cap] [] 24) :: (kb ++ H) ∧ fr = [(0, .int .i64 l.length), (1, .func (.func 60) #[] #[.pointer (some ⟨b1, 0, none⟩)]), (4, .slice none 0 0), (5, .map (some bm)), (6, v), (12, .int .i64 l.length), (13, .int .i64 i)]) (l.length) ?_ ?_
 ·exact Upd.now ⟨0, _, [], by omega, rfl, .inl ⟨none, rfl, rfl, rfl, rfl⟩, rfl, rfl⟩
 ·rintro q G1 fr H' hle hs ⟨i, v, kb, hi, rfl, hv, rfl, rfl⟩
  have hnl : (nums (l.take i)).length = i := by rw [nums_len, List.length_take]; omega
  have htl := tabO_len (l.take i)
  rw [List.length_take] at htl
  by_cases hil : i < l.length
  ·have htk := List.take_succ_eq_append_getElem hil
   rcases hp : place (tabO (l.take i)) l[i] with _ | n
   ·have hnn := nums_new hp
    have hpe := place_end (place_none hp)
    rw [← htk] at hnn
    rcases hv with ⟨a0, rfl, hn, hx, rfl⟩ | ⟨b2, c2, sp, rfl, rfl, hx, hc⟩
    ·have hsE := hs
     try simp only [zzs] at hsE
     repeat (obtain ⟨hsx, hsE⟩ := hsE)
     repeat' first
      | (with_reducible first | refine Nx.go ?_ | refine Bk.go (fun _ => ?_) fun _ => ?_ | refine foundO.mk (fun _ _ => ?_) (fun _ => ?_))
      | ((with_reducible first | refine NewB.mk2 fun nb hnb hnb1 hnb2 => ?_ | refine NewRow.mk2 fun nb nsp ncap hnb hncap hnb1 hnb2 => ?_); try simp only [zzn] at hnb2)
      | simp -dsimp -implicitDefEqProofs (disch := first | assumption | (simp only [zzm]; done) | omega | (try with_reducible refine Row.adr (by assumption) ?_); simp only [zzl, Nat.reduceAdd]; first | done | omega) only [go_sem, ↓reduceIte, seval, findV_enc hei (Value.int .i64), keyOk_enc hei, aget_numb0, Option.map_map, putV_enc hei (Value.int .i64), aput_new, hp, hpe, List.length_map, numb_len]
      | with_reducible refine normk_t (cap := cap) hil hrow (by assumption) ?_ ?_
     have hce : (nums (l.take (i + 1))).map (Value.int .i64) = [Value.int .i64 (tabO (l.take i)).length] := by rw [hnn.2, List.map_append, hx]; rfl
     rw [← hnn.1, ← hce]
     refine Upd.go (H' := (bm, .map ((numb 0 (tabO (l.take (i + 1)))).map fun p => ((Value.int .i64) p.1, Value.int .i64 p.2))) :: (b1, .cells [.slice a l.length cap] [] 24) :: ([(nb, .cells ((nums (l.take (i + 1))).map (Value.int .i64)) nsp 3)] ++ H)) (by intro fsum; first | exact Nat.le_refl _ | (simp only [zzq]; omega)) (Upd.now ⟨q - 1, by omega, i + 1, .slice (some ⟨nb, 0, none⟩) (i + 1) ncap, [_], by omega, rfl, .inr ⟨nb, ncap, nsp, rfl, rfl, by rw [hce]; simp [hn], by rw [hce]; simp at hncap ⊢; omega⟩, rfl, by obtain rfl : i = 0 := hn; rfl⟩)
    ·have hsE := hs
     try simp only [zzs] at hsE
     repeat (obtain ⟨hsx, hsE⟩ := hsE)
     repeat' first
      | (with_reducible first | refine Nx.go ?_ | refine Bk.go (fun _ => ?_) fun _ => ?_ | refine foundO.mk (fun _ _ => ?_) (fun _ => ?_))
      | ((with_reducible first | refine NewB.mk2 fun nb hnb hnb1 hnb2 => ?_ | refine NewRow.mk2 fun nb nsp ncap hnb hncap hnb1 hnb2 => ?_); try simp only [zzn] at hnb2)
      | simp -dsimp -implicitDefEqProofs (disch := first | assumption | (simp only [zzm]; done) | omega | (try with_reducible refine Row.adr (by assumption) ?_); simp only [zzl, Nat.reduceAdd]; first | done | omega) only [go_sem, ↓reduceIte, seval, findV_enc hei (Value.int .i64), keyOk_enc hei, aget_numb0, Option.map_map, putV_enc hei (Value.int .i64), aput_new, hp, hpe, List.length_map, numb_len]
      | with_reducible refine normk_t (cap := cap) hil hrow (by assumption) ?_ ?_
     have hce : (nums (l.take (i + 1))).map (Value.int .i64) = (nums (l.take i)).map (Value.int .i64) ++ [Value.int .i64 (tabO (l.take i)).length] := by rw [hnn.2, List.map_append]; rfl
     rw [← hnn.1, ← hce]
     refine Upd.go (H' := (bm, .map ((numb 0 (tabO (l.take (i + 1)))).map fun p => ((Value.int .i64) p.1, Value.int .i64 p.2))) :: (b1, .cells [.slice a l.length cap] [] 24) :: ([(nb, .cells ((nums (l.take (i + 1))).map (Value.int .i64)) nsp 3)] ++ H)) (by intro fsum; first | exact Nat.le_refl _ | (simp only [zzq]; omega)) (Upd.now ⟨q - 1, by omega, i + 1, .slice (some ⟨nb, 0, none⟩) (i + 1) ncap, [_], by omega, rfl, .inr ⟨nb, ncap, nsp, rfl, rfl, by rw [hce]; simp [hnl], by rw [hce]; simp [hnl] at hncap ⊢; omega⟩, rfl, rfl⟩)
   ·have hnn := nums_old hp
    rw [← htk] at hnn
    have hn0 : i ≠ 0 := fun e => by subst e; rw [List.take_zero, tabO_nil, place_nil] at hp; cases hp
    rcases hv with ⟨a0, rfl, hn, hx, rfl⟩ | ⟨b2, c2, sp, rfl, rfl, hx, hc⟩
    ·exact absurd hn hn0
    ·have hsE := hs
     try simp only [zzs] at hsE
     repeat (obtain ⟨hsx, hsE⟩ := hsE)
     repeat' first
      | (with_reducible first | refine Nx.go ?_ | refine Bk.go (fun _ => ?_) fun _ => ?_ | refine foundO.mk (fun _ _ => ?_) (fun _ => ?_))
      | ((with_reducible first | refine NewB.mk2 fun nb hnb hnb1 hnb2 => ?_ | refine NewRow.mk2 fun nb nsp ncap hnb hncap hnb1 hnb2 => ?_); try simp only [zzn] at hnb2)
      | simp -dsimp -implicitDefEqProofs (disch := first | assumption | (simp only [zzm]; done) | omega | (try with_reducible refine Row.adr (by assumption) ?_); simp only [zzl, Nat.reduceAdd]; first | done | omega) only [go_sem, ↓reduceIte, seval, findV_enc hei (Value.int .i64), keyOk_enc hei, aget_numb0, Option.map_map, putV_enc hei (Value.int .i64), aput_new, hp, List.length_map, numb_len]
      | with_reducible refine normk_t (cap := cap) hil hrow (by assumption) ?_ ?_
     have hce : (nums (l.take (i + 1))).map (Value.int .i64) = (nums (l.take i)).map (Value.int .i64) ++ [Value.int .i64 n] := by rw [hnn.2, List.map_append]; rfl
     rw [← hnn.1, ← hce]
     refine Upd.go (H' := (bm, .map ((numb 0 (tabO (l.take (i + 1)))).map fun p => ((Value.int .i64) p.1, Value.int .i64 p.2))) :: (b1, .cells [.slice a l.length cap] [] 24) :: ([(nb, .cells ((nums (l.take (i + 1))).map (Value.int .i64)) nsp 3)] ++ H)) (by intro fsum; first | exact Nat.le_refl _ | (simp only [zzq]; omega)) (Upd.now ⟨q - 1, by omega, i + 1, .slice (some ⟨nb, 0, none⟩) (i + 1) ncap, [_], by omega, rfl, .inr ⟨nb, ncap, nsp, rfl, rfl, by rw [hce]; simp [hnl], by rw [hce]; simp [hnl] at hncap ⊢; omega⟩, rfl, rfl⟩)
  ·obtain rfl : i = l.length := by omega
   rw [List.take_length] at hv ⊢
   repeat' first
    | (with_reducible first | refine Nx.go ?_ | refine Bk.go (fun _ => ?_) fun _ => ?_ | refine foundO.mk (fun _ _ => ?_) (fun _ => ?_))
    | ((with_reducible first | refine NewB.mk2 fun nb hnb hnb1 hnb2 => ?_ | refine NewRow.mk2 fun nb nsp ncap hnb hncap hnb1 hnb2 => ?_); try simp only [zzn] at hnb2)
    | simp -dsimp -implicitDefEqProofs (disch := first | assumption | (simp only [zzm]; done) | omega | (try with_reducible refine Row.adr (by assumption) ?_); simp only [zzl, Nat.reduceAdd]; first | done | omega) only [go_sem, ↓reduceIte, seval]
   unfold UpdR
   refine Upd.leave (H' := kb ++ H) (by intro fsum; first | exact Nat.le_refl _ | (simp only [zzq]; omega)) ?_
   exact fun _ hs => hR _ kb hs hv
theorem numI_t {l : List Int} (hlen : l.length ≤ 2000000) {a : Option Addr} {cap b1 : Nat} {G : PHeap} {H : Heap} {R : Value → PHeap → Heap → Prop} (hrow : Row G a (l.map (Value.int .i64)))
  (hR : ∀ G' v, PLe G G' → Sep G' (keys H) → Sl G' (Value.int .i64) v (nums l) → R v G' H) : FnT Try.prog 59 [.int .i64 l.length, .func (.func 60) #[] #[.pointer (some ⟨b1, 0, none⟩)]] G ((b1, .cells [.slice a l.length cap] [] 24) :: H) R := by
 refine FnT.upd (numO_t hlen hrow fun v kb hs hv => ?_)
 rcases hv with ⟨a0, rfl, hn, hx, rfl⟩ | ⟨b2, c2, sp, rfl, rfl, hx, hc⟩
 ·have hl0 : l = [] := List.eq_nil_of_length_eq_zero hn
  subst hl0
  exact Upd.now (hR _ _ (PLe.refl _) hs ⟨a0, 0, rfl, Row.nil _ _, Nat.le_refl _⟩)
 ·refine Upd.shareRow hs.1.1 fun G2 hle2 hs2 hr2 => ?_
  exact hR _ _ hle2 hs2 ⟨some ⟨b2, 0, none⟩, c2, by rw [nums_len], hr2, by rw [nums_len]; rw [List.length_map, nums_len] at hx hc; omega⟩
end Go.Proofs.Ytdeableflgakdaa
namespace Go.Proofs.Ytdeableflgakdaa
open Go Go.V Go.Proofs
theorem normO_t {l : List Int} (hlen : l.length ≤ 2000000) {G : PHeap} {H : Heap} {R : Value → PHeap → Heap → Prop} {v : Value} (hv : Sl G (Value.int .i64) v l)
  (hR : ∀ v kb, Sep G (keys (kb ++ H)) → SliceO [] 3 1 v l.length ((nums l).map (Value.int .i64)) kb → R v G (kb ++ H)) : FnT Try.prog 31 [v] G H R := by
 obtain ⟨a, cap, rfl, hrow, hcap⟩ := hv
 refine FnT.body tok [0, 1, 2] Try.func31 rfl (by kernel_rfl) (by kernel_rfl) (by show _ ≤ 7; simp) fun hsep => ?_
 rw [Try.results31]
 have hsE := hsep
 try simp only [zzs] at hsE
 repeat (obtain ⟨hsx, hsE⟩ := hsE)
 repeat' first
  | (with_reducible first | refine Nx.go ?_ | refine Bk.go (fun _ => ?_) fun _ => ?_)
  | (with_reducible refine NewB.mk2 fun nb hnb hnb1 hnb2 => ?_; try simp only [zzn] at hnb2)
  | simp -dsimp -implicitDefEqProofs (disch := first | assumption | (simp only [zzm]; done) | omega | (try with_reducible refine Row.adr (by assumption) ?_); simp only [zzl, Nat.reduceAdd]; first | done | omega) only [go_sem, ↓reduceIte, seval]
  | with_reducible refine numO_t hlen hrow fun v2 kb2 hs2 hsl2 => ?_
 unfold UpdR
 refine Upd.leave (H' := kb2 ++ H) (by intro fsum; first | exact Nat.le_refl _ | (simp only [zzq]; omega)) ?_
 exact hR v2 kb2 hs2 hsl2
theorem norm_t {l : List Int} (hlen : l.length ≤ 2000000) {G : PHeap} {H : Heap} {R : Value → PHeap → Heap → Prop} {v : Value} (hv : Sl G (Value.int .i64) v l)
  (hR : ∀ G' v', PLe G G' → Sep G' (keys H) → Sl G' (Value.int .i64) v' (nums l) → R v' G' H) : FnT Try.prog 31 [v] G H R := by
 obtain ⟨a, cap, rfl, hrow, hcap⟩ := hv
 refine FnT.body tok [0, 1, 2] Try.func31 rfl (by kernel_rfl) (by kernel_rfl) (by show _ ≤ 7; simp) fun hsep => ?_
 rw [Try.results31]
 have hsE := hsep
 try simp only [zzs] at hsE
 repeat (obtain ⟨hsx, hsE⟩ := hsE)
 repeat' first
  | (with_reducible first | refine Nx.go ?_ | refine Bk.go (fun _ => ?_) fun _ => ?_)
  | (with_reducible refine NewB.mk2 fun nb hnb hnb1 hnb2 => ?_; try simp only [zzn] at hnb2)
  | simp -dsimp -implicitDefEqProofs (disch := first | assumption | (simp only [zzm]; done) | omega | (try with_reducible refine Row.adr (by assumption) ?_); simp only [zzl, Nat.reduceAdd]; first | done | omega) only [go_sem, ↓reduceIte, seval]
  | with_reducible refine numI_t hlen hrow fun G2 v2 hle2 hs2 hsl2 => ?_
 all_goals refine Upd.finL ?_ (hR G2 v2 hle2 hs2 hsl2) ?_
 any_goals (intro fsum; first | exact Nat.le_refl _ | (simp only [zzq]; omega))
 rfl
def enc2 (p : Int × Int) : Value := .agg #[.int .i64 p.1, .int .i64 p.2]
theorem hep : KeyEnc T 54 enc2 := keyEnc_two (T := T) (t := 54) (e := 3) (k := .i64) rfl rfl rfl
end Go.Proofs.Ytdeableflgakdaa
namespace Go.Proofs.Ytdeableflgakdaa
open Go Go.V Go.Proofs
theorem same17_t (xs ys : List Int) (hlen : xs.length ≤ 2000000) {G : PHeap} {H : Heap} {R : Value → PHeap → Heap → Prop} {v w : Value} (hv : Sl G (Value.int .i64) v xs) (hw : Sl G (Value.int .i64) w ys) (hR : R (.bool (decide (xs = ys))) G H) : FnT Try.prog 13 [v, w] G H R := by
 obtain ⟨a, cap, rfl, hrow, hcap⟩ := hv
 obtain ⟨a', cap', rfl, hrow', hcap'⟩ := hw
 refine FnT.body tok [0, 1, 4, 5, 10, 14, 25] Try.func13 rfl (by kernel_rfl) (by kernel_rfl) (by show _ ≤ 26; simp) fun hsep => ?_
 rw [Try.results13]
 have hsE := hsep
 try simp only [zzs] at hsE
 repeat (obtain ⟨hsx, hsE⟩ := hsE)
 repeat' first
  | (with_reducible first | refine Nx.go ?_ | refine Bk.go (fun _ => ?_) fun _ => ?_)
  | (with_reducible refine NewB.mk2 fun nb hnb hnb1 hnb2 => ?_; try simp only [zzn] at hnb2)
  | simp -dsimp -implicitDefEqProofs (disch := first | assumption | (simp only [zzm]; done) | omega | (try with_reducible refine Row.adr (by assumption) ?_); simp only [zzl, Nat.reduceAdd]; first | done | omega) only [go_sem, ↓reduceIte, seval]
 ·rename_i hne
  have hxy : xs.length = ys.length := by omega
  refine Tri.loopU tok [0, 1, 4, 5, 10, 14, 25] (by kernel_rfl) [0, 1, 4, 5] (fun n G' l H' => ∃ i : Nat, i + n = xs.length ∧ (∀ j (h : j < xs.length), j < i → xs[j] = ys[j]) ∧ G' = G ∧ H' = H ∧ l = [(0, .slice a xs.length cap), (1, .slice a' ys.length cap'), (4, .bool false), (5, .int .i64 i)]) (xs.length) (Upd.now ?_) ?_
  ·exact ⟨0, by omega, fun j _ h => by omega, rfl, rfl, rfl⟩
  ·rintro n G' l H' hle hs ⟨i, hi, hno, rfl, rfl, rfl⟩
   by_cases hil : i < xs.length
   ·have hil' : i < ys.length := by omega
    repeat' first
     | (with_reducible first | refine Nx.go ?_ | refine Bk.go (fun _ => ?_) fun _ => ?_)
     | (with_reducible refine NewB.mk2 fun nb hnb hnb1 hnb2 => ?_; try simp only [zzn] at hnb2)
     | with_reducible refine Tri.drawH tok mixed [0, 1, 4, 5, 10, 14, 25] 6 [3, 7] (.op 0 .plain (.op 1 .plain (.op 2 .plain (.op 3 .held (.op 4 .plain (.op 5 .plain (.op 6 .plain (.op 7 .held (.op 8 .plain .nil))))))))) (by kernel_rfl) [0, 1] ?_
     | simp -dsimp -implicitDefEqProofs (disch := first | assumption | (simp only [zzm]; done) | omega | (try with_reducible refine Row.adr (by assumption) ?_); simp only [zzl, Nat.reduceAdd]; first | done | omega) only [go_sem, ↓reduceIte, seval, Row.obj hrow, Row.obj hrow', List.getElem_map]
    ·rename_i he
     exact Upd.now ⟨n - 1, by omega, i + 1, by omega, fun j h hj => by
      by_cases e : j = i
      ·subst e; exact he
      ·exact hno j h (by omega), rfl, rfl, rfl⟩
    ·rename_i he
     rw [decide_eq_false (fun e => he (by subst e; rfl))] at hR
     all_goals refine Upd.finL ?_ hR ?_
     any_goals (intro fsum; first | exact Nat.le_refl _ | (simp only [zzq]; omega))
     rfl
   ·obtain rfl : i = xs.length := by omega
    rw [decide_eq_true (List.ext_getElem hxy fun j h1 h2 => hno j h1 h1)] at hR
    repeat' first
     | (with_reducible first | refine Nx.go ?_ | refine Bk.go (fun _ => ?_) fun _ => ?_)
     | (with_reducible refine NewB.mk2 fun nb hnb hnb1 hnb2 => ?_; try simp only [zzn] at hnb2)
     | simp -dsimp -implicitDefEqProofs (disch := first | assumption | (simp only [zzm]; done) | omega | (try with_reducible refine Row.adr (by assumption) ?_); simp only [zzl, Nat.reduceAdd]; first | done | omega) only [go_sem, ↓reduceIte, seval]
    all_goals refine Upd.finL ?_ hR ?_
    any_goals (intro fsum; first | exact Nat.le_refl _ | (simp only [zzq]; omega))
    rfl
 ·rename_i hne
  rw [decide_eq_false (fun e => hne (by subst e; rfl))] at hR
  all_goals refine Upd.finL ?_ hR ?_
  any_goals (intro fsum; first | exact Nat.le_refl _ | (simp only [zzq]; omega))
  rfl
theorem first_t (l : List Int) (x : Int) (hlen : l.length ≤ 2000000) {G : PHeap} {H : Heap} {R : Value → PHeap → Heap → Prop} {v : Value} (hv : Sl G (Value.int .i64) v l) (hR : R (.int .i64 (findF l x)) G H) : FnT Try.prog 86 [v, .int .i64 x] G H R := by
 obtain ⟨a, cap, rfl, hrow, hcap⟩ := hv
 refine FnT.body tok [0, 1, 4, 5, 9, 17] Try.func86 rfl (by kernel_rfl) (by kernel_rfl) (by show _ ≤ 19; simp) fun hsep => ?_
 rw [Try.results86]
 have hsE := hsep
 try simp only [zzs] at hsE
 repeat (obtain ⟨hsx, hsE⟩ := hsE)
 repeat' first
  | (with_reducible first | refine Nx.go ?_ | refine Bk.go (fun _ => ?_) fun _ => ?_)
  | (with_reducible refine NewB.mk2 fun nb hnb hnb1 hnb2 => ?_; try simp only [zzn] at hnb2)
  | simp -dsimp -implicitDefEqProofs (disch := first | assumption | (simp only [zzm]; done) | omega | (try with_reducible refine Row.adr (by assumption) ?_); simp only [zzl, Nat.reduceAdd]; first | done | omega) only [go_sem, ↓reduceIte, seval]
 refine Tri.loopU tok [0, 1, 4, 5, 9, 17] (by kernel_rfl) [0, 1, 4, 5] (fun n G' fr H' => ∃ i : Nat, i + n = l.length ∧ (∀ j (h : j < l.length), j < i → l[j] ≠ x) ∧ G' = G ∧ H' = H ∧ fr = [(0, .slice a l.length cap), (1, .int .i64 x), (4, .int .i64 0), (5, .int .i64 i)]) (l.length) (Upd.now ?_) ?_
 ·exact ⟨0, by omega, fun j _ h => by omega, rfl, rfl, rfl⟩
 ·rintro n G' fr H' hle hs ⟨i, hi, hno, rfl, rfl, rfl⟩
  by_cases hil : i < l.length
  ·have had : Adr a := hrow.adr (by rw [List.length_map]; omega)
   repeat' first
    | (with_reducible first | refine Nx.go ?_ | refine Bk.go (fun _ => ?_) fun _ => ?_)
    | (with_reducible refine NewB.mk2 fun nb hnb hnb1 hnb2 => ?_; try simp only [zzn] at hnb2)
    | simp -dsimp -implicitDefEqProofs (disch := first | assumption | (simp only [zzm]; done) | omega | (try with_reducible refine Row.adr (by assumption) ?_); simp only [zzl, Nat.reduceAdd]; first | done | omega) only [go_sem, ↓reduceIte, seval, Row.obj hrow, List.getElem_map]
   ·rename_i he
    have hp : place l x = some i := by
     unfold place
     rw [List.findIdx?_eq_some_iff_getElem]
     exact ⟨hil, by simp [he], fun j hj => by have := hno j (by omega) hj; simp; exact fun e => this e.symm⟩
    rw [findF_some hp] at hR
    all_goals refine Upd.finL ?_ hR ?_
    any_goals (intro fsum; first | exact Nat.le_refl _ | (simp only [zzq]; omega))
    rfl
   ·rename_i he
    exact Upd.now ⟨n - 1, by omega, i + 1, by omega, fun j h hj => by
     by_cases e : j = i
     ·subst e; exact he
     ·exact hno j h (by omega), rfl, rfl, rfl⟩
  ·obtain rfl : i = l.length := by omega
   have hp : place l x = none := place_no fun hm => by
    obtain ⟨j, hj, e⟩ := List.getElem_of_mem hm
    exact hno j hj hj e
   rw [findF_none hp] at hR
   repeat' first
    | (with_reducible first | refine Nx.go ?_ | refine Bk.go (fun _ => ?_) fun _ => ?_)
    | (with_reducible refine NewB.mk2 fun nb hnb hnb1 hnb2 => ?_; try simp only [zzn] at hnb2)
    | simp -dsimp -implicitDefEqProofs (disch := first | assumption | (simp only [zzm]; done) | omega | (try with_reducible refine Row.adr (by assumption) ?_); simp only [zzl, Nat.reduceAdd]; first | done | omega) only [go_sem, ↓reduceIte, seval]
   all_goals refine Upd.finL ?_ hR ?_
   any_goals (intro fsum; first | exact Nat.le_refl _ | (simp only [zzq]; omega))
   rfl
theorem place_first {α : Type} [DecidableEq α] {l : List α} {i : Nat} (hi : i < l.length) : ∃ p, place l l[i] = some p ∧ p ≤ i ∧ (∃ h : p < l.length, l[p] = l[i]) ∧ (p = i ↔ l[i] ∉ l.take i) := by
 obtain ⟨p, hp⟩ := place_mem (List.getElem_mem hi)
 have hp' := hp
 unfold place at hp'
 rw [List.findIdx?_eq_some_iff_getElem] at hp'
 obtain ⟨h1, h2, h3⟩ := hp'
 have h2 := of_decide_eq_true h2
 have hle : p ≤ i := by
  rcases Nat.lt_or_ge i p with h | h
  ·have := h3 i h; simp at this
  ·exact h
 refine ⟨p, hp, hle, ⟨h1, h2.symm⟩, ?_⟩
 constructor
 ·rintro rfl hm
  obtain ⟨j, hj, e⟩ := (mem_take_iff hi).1 hm
  have := h3 j hj
  simp [e] at this
 ·intro hm
  rcases Nat.lt_or_ge p i with h | h
  ·exact absurd ((mem_take_iff hi).2 ⟨p, h, h2.symm⟩) hm
  ·omega
theorem map_get {l : List Int} {sp : List Value} {p : Nat} (h : p < l.length) : (l.map (Value.int .i64) ++ sp)[p]? = some (.int .i64 l[p]) := by
 rw [List.getElem?_append_left (by simpa using h), List.getElem?_map, List.getElem?_eq_getElem h]; rfl
theorem rnorm_t {l : List Int} (hlen : l.length ≤ 2000000) {G : PHeap} {H : Heap} {R : Value → PHeap → Heap → Prop} {v : Value} (hv : Sl G (Value.int .i64) v l)
  (hR : ∀ G' v', PLe G G' → Sep G' (keys H) → Sl G' (Value.int .i64) v' (nums l) → R v' G' H) : FnT Try.prog 67 [v] G H R := by
 have hv0 := hv
 obtain ⟨a, cap, rfl, hrow, hcap⟩ := hv
 refine FnT.sep ?_
 refine FnT.body tok [0, 2, 3, 4, 5, 6, 11, 22] Try.func67 rfl (by kernel_rfl) (by kernel_rfl) (by show _ ≤ 37; simp) fun hsep => ?_
 rw [Try.results67]
 have hsE := hsep
 try simp only [zzs] at hsE
 repeat (obtain ⟨hsx, hsE⟩ := hsE)
 repeat' first
  | (with_reducible first | refine Nx.go ?_ | refine Bk.go (fun _ => ?_) fun _ => ?_)
  | ((with_reducible first | refine NewB.mk2 fun nb hnb hnb1 hnb2 => ?_ | refine NewRow.mk2 fun nb nsp ncap hnb hncap hnb1 hnb2 => ?_); try simp only [zzn] at hnb2)
  | simp -dsimp -implicitDefEqProofs (disch := first | assumption | (simp only [zzm]; done) | omega | (try with_reducible refine Row.adr (by assumption) ?_); simp only [zzl, Nat.reduceAdd]; first | done | omega) only [go_sem, ↓reduceIte, seval]
 refine Tri.loopU tok [0, 2, 3, 4, 5, 6, 11, 22] (by kernel_rfl) [0, 2, 3, 4, 5] (fun q G' fr H' => ∃ (i b c : Nat) (sp : List Value), i + q = l.length ∧ i + sp.length = c ∧ G' = G ∧ H' = (b, .cells ((nums (l.take i)).map (Value.int .i64)) sp 3) :: H ∧ fr = [(0, .slice a l.length cap), (2, .slice none 0 0), (3, .slice (some ⟨b, 0, none⟩) i c), (4, .int .i64 (tabO (l.take i)).length), (5, .int .i64 i)]) (l.length) ?_ ?_
 ·exact Upd.now ⟨0, nb, 0, [], by omega, rfl, rfl, rfl, rfl⟩
 ·rintro q G1 fr H' hle hs ⟨i, b, c, sp, hi, hc, rfl, rfl, rfl⟩
  have hsE := hs
  try simp only [zzs] at hsE
  repeat (obtain ⟨hsx, hsE⟩ := hsE)
  have hnl : (nums (l.take i)).length = i := by rw [nums_len, List.length_take]; omega
  have htl := tabO_len (l.take i)
  rw [List.length_take] at htl
  by_cases hil : i < l.length
  ·have had : Adr a := hrow.adr (by rw [List.length_map]; omega)
   have htk := List.take_succ_eq_append_getElem hil
   obtain ⟨p, hp, hpi, ⟨hpl, hpe⟩, hpn⟩ := place_first hil
   have hff := findF_some hp
   by_cases hnew : p = i
   ·have hn := place_no fun hm => (hpn.1 hnew) ((mem_tabO _).1 hm)
    have hnn := nums_new hn
    rw [← htk] at hnn
    have hce : (nums (l.take (i + 1))).map (Value.int .i64) = (nums (l.take i)).map (Value.int .i64) ++ [Value.int .i64 (tabO (l.take i)).length] := by rw [hnn.2, List.map_append]; rfl
    repeat' first
     | (with_reducible first | refine Nx.go ?_ | refine Bk.go (fun _ => ?_) fun _ => ?_)
     | ((with_reducible first | refine NewB.mk2 fun nb hnb hnb1 hnb2 => ?_ | refine NewRow.mk2 fun nb nsp ncap hnb hncap hnb1 hnb2 => ?_); try simp only [zzn] at hnb2)
     | simp -dsimp -implicitDefEqProofs (disch := first | assumption | (simp only [zzm]; done) | omega | (try with_reducible refine Row.adr (by assumption) ?_); simp only [zzl, Nat.reduceAdd]; first | done | omega) only [go_sem, ↓reduceIte, seval, Row.obj hrow, List.getElem_map, hff, hnew]
     | with_reducible refine first_t l l[i] hlen hv0 ?_
    rw [← hce]
    refine Upd.go (H' := _) (by intro fsum; first | exact Nat.le_refl _ | (simp only [zzq]; omega)) (Upd.now ⟨q - 1, by omega, i + 1, nb, ncap, nsp, by omega, by simp [hnl] at hncap ⊢; omega, rfl, rfl, by rw [hnn.1, List.length_append]; rfl⟩)
   ·have hold : l[i] ∈ l.take i := Classical.not_not.1 fun h => hnew (hpn.2 h)
    obtain ⟨n, hn⟩ := place_mem ((mem_tabO _).2 hold)
    have hnn := nums_old hn
    rw [← htk] at hnn
    have hce : (nums (l.take (i + 1))).map (Value.int .i64) = (nums (l.take i)).map (Value.int .i64) ++ [Value.int .i64 n] := by rw [hnn.2, List.map_append]; rfl
    have hpp : p < (nums (l.take i)).length := by omega
    have hget := map_get (sp := sp) hpp
    rw [nums_get (l := l.take i) (i := p) (by rw [List.length_take]; omega), List.getElem_take, hpe, findF_some hn] at hget
    repeat' first
     | (with_reducible first | refine Nx.go ?_ | refine Bk.go (fun _ => ?_) fun _ => ?_)
     | ((with_reducible first | refine NewB.mk2 fun nb hnb hnb1 hnb2 => ?_ | refine NewRow.mk2 fun nb nsp ncap hnb hncap hnb1 hnb2 => ?_); try simp only [zzn] at hnb2)
     | simp -dsimp -implicitDefEqProofs (disch := first | assumption | (simp only [zzm]; done) | omega | (try with_reducible refine Row.adr (by assumption) ?_); simp only [zzl, Nat.reduceAdd]; first | done | omega) only [go_sem, ↓reduceIte, seval, Row.obj hrow, List.getElem_map, hff, hget]
     | with_reducible refine first_t l l[i] hlen hv0 ?_
    rw [← hce]
    refine Upd.go (H' := _) (by intro fsum; first | exact Nat.le_refl _ | (simp only [zzq]; omega)) (Upd.now ⟨q - 1, by omega, i + 1, nb, ncap, nsp, by omega, by simp [hnl] at hncap ⊢; omega, rfl, rfl, by rw [hnn.1]; rfl⟩)
  ·obtain rfl : i = l.length := by omega
   rw [List.take_length] at hnl ⊢
   repeat' first
    | (with_reducible first | refine Nx.go ?_ | refine Bk.go (fun _ => ?_) fun _ => ?_)
    | ((with_reducible first | refine NewB.mk2 fun nb hnb hnb1 hnb2 => ?_ | refine NewRow.mk2 fun nb nsp ncap hnb hncap hnb1 hnb2 => ?_); try simp only [zzn] at hnb2)
    | simp -dsimp -implicitDefEqProofs (disch := first | assumption | (simp only [zzm]; done) | omega | (try with_reducible refine Row.adr (by assumption) ?_); simp only [zzl, Nat.reduceAdd]; first | done | omega) only [go_sem, ↓reduceIte, seval]
   unfold UpdR
   refine Upd.go (H' := (b, .cells ((nums l).map (Value.int .i64)) sp 3) :: H) (by intro fsum; first | exact Nat.le_refl _ | (simp only [zzq]; omega)) (Upd.shareRow (by assumption) fun G2 hle2 hs2 hr2 => fun hle hs => hR G2 _ hle2 hs ⟨some ⟨b, 0, none⟩, c, by rw [nums_len], hr2, by rw [nums_len]; omega⟩)
end Go.Proofs.Ytdeableflgakdaa
namespace Go.Proofs.Ytdeableflgakdaa
open Go Go.V Go.Proofs
section plain
variable {α : Type} [DecidableEq α]
theorem place_at {l : List α} {i p : Nat} (hi : i < l.length) (h1 : ∃ h : p < l.length, l[p] = l[i]) (h2 : ∀ j (h : j < l.length), j < p → l[j] ≠ l[i]) : place l l[i] = some p := by
 obtain ⟨hp, e⟩ := h1
 unfold place
 rw [List.findIdx?_eq_some_iff_getElem]
 exact ⟨hp, by simp [e], fun j hj => by have := h2 j (by omega) hj; simp; exact fun e => this e.symm⟩
end plain
end Go.Proofs.Ytdeableflgakdaa
namespace Go.Proofs.Ytdeableflgakdaa
open Go Go.V Go.Proofs
theorem eqT_ints {d : Nat} {t e n : Nat} {k : IntKind} (ht : (T t).k = .arr n e) (he : (T e).k = .int k) (hs : (T e).size = 1) {xs ys : List Int} (hx : xs.length = n) (hy : ys.length = n) :
  eqT T (d + 2) t (.agg (xs.map (Value.int k)).toArray) (.agg (ys.map (Value.int k)).toArray) = some (decide (xs = ys)) := by
 have := allEq_ints (T := T) (d := d) he hs xs ys [] [] (by omega) rfl
 simp only [List.length_nil, List.nil_append] at this
 unfold eqT
 simp only [ht, he, TK.known, if_true, ← hx, List.toList_toArray]
 exact this
abbrev u8L (l : List Int) : List Value := l.map (Value.int .u8)
abbrev agg8 (l : List Int) : Value := .agg (u8L l).toArray
theorem u8_get {l : List Int} {i : Nat} (h : i < l.length) (sp : List Value) : (u8L l ++ sp)[i]? = some (.int .u8 l[i]) := by
 rw [List.getElem?_append_left (by simpa using h), List.getElem?_map, List.getElem?_eq_getElem h]; rfl
theorem he8 : KeyEnc T 5 (Value.int .u8) := keyEnc_int (T := T) (t := 5) rfl
theorem pnormk_t {l : List Int} {b1 i : Nat} (hl : l.length = 256) (hi : i < l.length) {G : PHeap} {H : Heap} {R : Value → PHeap → Heap → Prop}
  (hg1 : G b1 = none) (hf : findH H b1 = some (.cells (u8L l) [] 22)) (hR : R (.int .u8 l[i]) G H) : FnT Try.prog 77 [.int .i64 (i : Nat), .pointer (some ⟨b1, 0, none⟩)] G H R := by
 have hget := u8_get hi []
 rw [List.append_nil] at hget
 refine FnT.body tok [0, 1, 3] Try.func77 rfl (by kernel_rfl) (by kernel_rfl) (by show _ ≤ 7; simp) fun hsep => ?_
 rw [Try.results77]
 have hsE := hsep
 try simp only [zzs] at hsE
 repeat (obtain ⟨hsx, hsE⟩ := hsE)
 repeat' first
  | (with_reducible first | refine Nx.go ?_ | refine Bk.go (fun _ => ?_) fun _ => ?_)
  | simp -dsimp -implicitDefEqProofs (disch := first | assumption | (simp only [zzm]; done) | omega | (try with_reducible refine Row.adr (by assumption) ?_); simp only [zzl, Nat.reduceAdd]; first | done | omega) only [go_sem, ↓reduceIte, seval, -List.reduceReplicate, hf, hget, List.append_nil]
 all_goals refine Upd.finL ?_ hR ?_
 any_goals (intro fsum; first | exact Nat.le_refl _ | (simp only [zzq]; omega))
 rfl
theorem u8_wrap {n : Nat} (h : n < 256) : IntKind.u8.wrap (n : Int) = n := by
 simp only [IntKind.wrap, IntKind.bits, IntKind.signed]; simp; omega
def part8 (l : List Int) (i : Nat) : List Int := nums (l.take i) ++ List.replicate (256 - i) 0
theorem part8_len {l : List Int} (hl : l.length = 256) {i : Nat} (hi : i ≤ 256) : (part8 l i).length = 256 := by
 unfold part8; rw [List.length_append, nums_len, List.length_take, List.length_replicate]; omega
theorem part8_put {l : List Int} (hl : l.length = 256) {i : Nat} (hi : i < 256) {n : Int} (h : nums (l.take (i + 1)) = nums (l.take i) ++ [n]) : splice (u8L (part8 l i)) i [.int .u8 n] = u8L (part8 l (i + 1)) := by
 have hn : (nums (l.take i)).length = i := by rw [nums_len, List.length_take]; omega
 unfold splice part8 u8L
 rw [h, List.map_append, List.map_append, List.map_append, List.map_replicate, List.map_replicate, show 256 - i = (256 - (i + 1)) + 1 by omega, List.replicate_succ]
 rw [List.take_append_of_le_length (by rw [List.length_map]; omega), List.take_of_length_le (by rw [List.length_map]; omega)]
 rw [List.drop_append, List.drop_of_length_le (by rw [List.length_map]; simp; omega)]
 simp [hn]
theorem part8_zero (l : List Int) : List.replicate 256 (Value.int .u8 0) = u8L (part8 l 0) := by
 unfold part8 u8L; rw [List.take_zero, nums_nil, List.nil_append, List.map_replicate]
theorem part8_all {l : List Int} (hl : l.length = 256) : part8 l 256 = nums l := by
 unfold part8; rw [← hl, List.take_length]; simp
theorem num8_t {l : List Int} (hl : l.length = 256) {b1 : Nat} {G : PHeap} {H : Heap} {R : Value → PHeap → Heap → Prop} (hg1 : G b1 = none) (hf : findH H b1 = some (.cells (u8L l) [] 22))
  (hR : R (.tuple #[agg8 (nums l), .int .i64 (tabO l).length]) G H) : FnT Try.prog 76 [.func (.func 77) #[] #[.pointer (some ⟨b1, 0, none⟩)]] G H R := by
 refine FnT.body tok [0, 2, 3, 4, 5, 6, 7, 8, 9, 11, 12, 24] Try.func76 rfl (by kernel_rfl) (by kernel_rfl) (by show _ ≤ 38; simp) fun hsep => ?_
 rw [Try.results76]
 have hsE := hsep
 try simp only [zzs] at hsE
 repeat (obtain ⟨hsx, hsE⟩ := hsE)
 repeat' first
  | (with_reducible first | refine Nx.go ?_ | refine Bk.go (fun _ => ?_) fun _ => ?_ | refine foundO.mk (fun _ _ => ?_) (fun _ => ?_))
  | ((with_reducible first | refine NewB.mk2 fun nb hnb hnb1 hnb2 => ?_ | refine NewRow.mk2 fun nb nsp ncap hnb hncap hnb1 hnb2 => ?_); try simp only [zzn] at hnb2)
  | simp -dsimp -implicitDefEqProofs (disch := first | assumption | (simp only [zzm]; done) | omega | (try with_reducible refine Row.adr (by assumption) ?_); simp only [zzl, Nat.reduceAdd]; first | done | omega) only [go_sem, ↓reduceIte, seval, -List.reduceReplicate]
 rename_i b2 hb20 hb21 hb22 b4 hb40 hb41 hb42
 revert nb
 intro bm hbm hbm1 hbm2
 have n2 := NotIn.neFind hb22 hf
 have n4 := NotIn.neFind hb42.2 hf
 have nm := NotIn.neFind hbm2.2.2 hf
 rw [part8_zero l]
 refine Tri.loopU tok [0, 2, 3, 4, 5, 6, 7, 8, 9, 11, 12, 24] (by kernel_rfl) [0, 2, 3, 4, 5, 11] (fun q G' fr H' => ∃ (i : Nat), i + q = 256 ∧ G' = G ∧ H' = (bm, .map ((numb 0 (tabO (l.take i))).map fun p => ((Value.int .u8) p.1, Value.int .u8 p.2))) :: (b4, .cells (u8L (part8 l i)) [] 22) :: (b2, .cells (u8L (part8 l 0)) [] 22) :: H ∧ fr = [(0, .func (.func 77) #[] #[.pointer (some ⟨b1, 0, none⟩)]), (2, .pointer (some ⟨b2, 0, none⟩)), (3, .int .i64 0), (4, .pointer (some ⟨b4, 0, none⟩)), (5, .map (some bm)), (11, .int .i64 i)]) (256) ?_ ?_
 ·exact Upd.now ⟨0, by omega, rfl, rfl, rfl⟩
 ·rintro q G1 fr H' hle hs ⟨i, hi, rfl, rfl, rfl⟩
  have hsE := hs
  try simp only [zzs] at hsE
  repeat (obtain ⟨hsx, hsE⟩ := hsE)
  have htl := tabO_len (l.take i)
  rw [List.length_take] at htl
  have h8 : (part8 l i).length = 256 := part8_len hl (by omega)
  by_cases hil : i < 256
  ·have hil2 : i < l.length := by omega
   have htk := List.take_succ_eq_append_getElem hil2
   have hw := u8_wrap (n := (tabO (l.take i)).length) (by omega)
   rcases hp : place (tabO (l.take i)) l[i] with _ | n
   ·have hnn := nums_new hp
    rw [← htk] at hnn
    have hput := part8_put hl hil hnn.2
    repeat' first
     | (with_reducible first | refine Nx.go ?_ | refine Bk.go (fun _ => ?_) fun _ => ?_ | refine foundO.mk (fun _ _ => ?_) (fun _ => ?_))
     | ((with_reducible first | refine NewB.mk2 fun nb hnb hnb1 hnb2 => ?_ | refine NewRow.mk2 fun nb nsp ncap hnb hncap hnb1 hnb2 => ?_); try simp only [zzn] at hnb2)
     | simp -dsimp -implicitDefEqProofs (disch := first | assumption | (simp only [zzm]; done) | omega | (try with_reducible refine Row.adr (by assumption) ?_); simp only [zzl, Nat.reduceAdd]; first | done | omega) only [go_sem, ↓reduceIte, seval, -List.reduceReplicate, findV_enc he8 (Value.int .u8), keyOk_enc he8, aget_numb0, Option.map_map, putV_enc he8 (Value.int .u8), aput_new, hp, List.length_map, numb_len, hw, hput]
     | with_reducible refine pnormk_t hl hil2 (by assumption) ?_ ?_
     | exact hf
    rw [← hnn.1]
    exact Upd.now ⟨q - 1, by omega, i + 1, by omega, rfl, rfl, rfl⟩
   ·have hnn := nums_old hp
    rw [← htk] at hnn
    have hput := part8_put hl hil hnn.2
    repeat' first
     | (with_reducible first | refine Nx.go ?_ | refine Bk.go (fun _ => ?_) fun _ => ?_ | refine foundO.mk (fun _ _ => ?_) (fun _ => ?_))
     | ((with_reducible first | refine NewB.mk2 fun nb hnb hnb1 hnb2 => ?_ | refine NewRow.mk2 fun nb nsp ncap hnb hncap hnb1 hnb2 => ?_); try simp only [zzn] at hnb2)
     | simp -dsimp -implicitDefEqProofs (disch := first | assumption | (simp only [zzm]; done) | omega | (try with_reducible refine Row.adr (by assumption) ?_); simp only [zzl, Nat.reduceAdd]; first | done | omega) only [go_sem, ↓reduceIte, seval, -List.reduceReplicate, findV_enc he8 (Value.int .u8), keyOk_enc he8, aget_numb0, Option.map_map, putV_enc he8 (Value.int .u8), aput_new, hp, List.length_map, numb_len, hput]
     | with_reducible refine pnormk_t hl hil2 (by assumption) ?_ ?_
     | exact hf
    exact Upd.now ⟨q - 1, by omega, i + 1, by omega, rfl, by rw [hnn.1], rfl⟩
  ·obtain rfl : i = 256 := by omega
   have hnl : (nums l).length = 256 := by rw [nums_len, hl]
   have htake : List.take 256 (u8L (nums l)) = u8L (nums l) := List.take_of_length_le (by rw [List.length_map, hnl]; omega)
   have h80 : (part8 l 0).length = 256 := part8_len hl (by omega)
   have hspl : splice (u8L (part8 l 0)) 0 (u8L (nums l)) = u8L (nums l) := by
    unfold splice
    rw [List.take_zero, List.nil_append, List.drop_of_length_le (by simp [hnl, h80]), List.append_nil]
   have h256 : List.take 256 l = l := List.take_of_length_le (by omega)
   rw [part8_all hl, h256]
   repeat' first
    | (with_reducible first | refine Nx.go ?_ | refine Bk.go (fun _ => ?_) fun _ => ?_ | refine foundO.mk (fun _ _ => ?_) (fun _ => ?_))
    | ((with_reducible first | refine NewB.mk2 fun nb hnb hnb1 hnb2 => ?_ | refine NewRow.mk2 fun nb nsp ncap hnb hncap hnb1 hnb2 => ?_); try simp only [zzn] at hnb2)
    | simp -dsimp -implicitDefEqProofs (disch := first | assumption | (simp only [zzm]; done) | omega | (try with_reducible refine Row.adr (by assumption) ?_); simp only [zzl, Nat.reduceAdd]; first | done | omega) only [go_sem, ↓reduceIte, seval, -List.reduceReplicate, htake, List.length_map, hnl, h80, hspl, numb_len]
   all_goals refine Upd.finL ?_ hR ?_
   any_goals (intro fsum; first | exact Nat.le_refl _ | (simp only [zzq]; omega))
   rfl
theorem pnorm_t {l : List Int} (hl : l.length = 256) {G : PHeap} {H : Heap} {R : Value → PHeap → Heap → Prop}
  (hR : R (.tuple #[agg8 (nums l), .int .i64 (tabO l).length]) G H) : FnT Try.prog 50 [agg8 l] G H R := by
 have hnl : (nums l).length = 256 := by rw [nums_len, hl]
 have h80 : (part8 l 0).length = 256 := part8_len hl (by omega)
 have hspl : splice (u8L (part8 l 0)) 0 (u8L (nums l)) = u8L (nums l) := by
  unfold splice
  rw [List.take_zero, List.nil_append, List.drop_of_length_le (by simp [hnl, h80]), List.append_nil]
 have htake : List.take 256 (u8L (nums l)) = u8L (nums l) := List.take_of_length_le (by rw [List.length_map, hnl]; omega)
 refine FnT.body tok [0, 1, 2, 3] Try.func50 rfl (by kernel_rfl) (by kernel_rfl) (by show _ ≤ 8; simp) fun hsep => ?_
 rw [Try.results50]
 have hsE := hsep
 try simp only [zzs] at hsE
 repeat (obtain ⟨hsx, hsE⟩ := hsE)
 repeat' first
  | (with_reducible first | refine Nx.go ?_ | refine Bk.go (fun _ => ?_) fun _ => ?_)
  | (with_reducible refine NewB.mk2 fun nb hnb hnb1 hnb2 => ?_; try simp only [zzn] at hnb2)
  | simp -dsimp -implicitDefEqProofs (disch := first | assumption | (simp only [zzm]; done) | omega | (try with_reducible refine Row.adr (by assumption) ?_); simp only [zzl, Nat.reduceAdd]; first | done | omega) only [go_sem, ↓reduceIte, seval, -List.reduceReplicate, List.toList_toArray, List.length_map, hl, part8_zero l, hspl, h80, hnl, htake]
  | with_reducible refine num8_t hl (by assumption) ?_ ?_
 all_goals refine Upd.finL ?_ hR ?_
 any_goals (intro fsum; first | exact Nat.le_refl _ | (simp only [zzq]; omega))
 rfl
theorem pright_t {l : List Int} (hl : l.length = 256) (w : Int) {G : PHeap} {H : Heap} {R : Value → PHeap → Heap → Prop}
  (hR : R (.bool (decide (nums l = l) && decide (((tabO l).length : Int) = w))) G H) : FnT Try.prog 24 [agg8 l, .int .i64 w] G H R := by
 have hnl : (nums l).length = 256 := by rw [nums_len, hl]
 have hspl : splice (List.replicate 256 (Value.int .u8 0)) 0 (u8L (nums l)) = u8L (nums l) := by
  unfold splice
  rw [List.take_zero, List.nil_append, List.drop_of_length_le (by rw [List.length_replicate, List.length_map, hnl]; exact Nat.le_refl _), List.append_nil]
 have htake : List.take 256 (u8L (nums l)) = u8L (nums l) := List.take_of_length_le (by rw [List.length_map, hnl]; omega)
 have htake2 : List.take 256 (u8L l) = u8L l := List.take_of_length_le (by rw [List.length_map, hl]; omega)
 have heq : eqT T 9 22 (agg8 (nums l)) (agg8 l) = some (decide (nums l = l)) := eqT_ints (d := 7) (t := 22) (e := 5) (n := 256) (k := .u8) rfl rfl rfl hnl hl
 refine FnT.body tok [0, 1, 2, 4, 5, 6] Try.func24 rfl (by kernel_rfl) (by kernel_rfl) (by show _ ≤ 20; simp) fun hsep => ?_
 rw [Try.results24]
 have hsE := hsep
 try simp only [zzs] at hsE
 repeat (obtain ⟨hsx, hsE⟩ := hsE)
 repeat' first
  | (with_reducible first | refine Nx.go ?_ | refine Bk.go (fun _ => ?_) fun _ => ?_)
  | (with_reducible refine NewB.mk2 fun nb hnb hnb1 hnb2 => ?_; try simp only [zzn] at hnb2)
  | simp -dsimp -implicitDefEqProofs (disch := first | assumption | (simp only [zzm]; done) | omega | (try with_reducible refine Row.adr (by assumption) ?_); simp only [zzl, Nat.reduceAdd]; first | done | omega) only [go_sem, ↓reduceIte, seval, -List.reduceReplicate, List.toList_toArray, List.length_map, hl, hnl, htake, htake2, hspl, heq, List.length_replicate]
  | with_reducible refine pnorm_t hl ?_
 ·rename_i he
  rw [decide_eq_true he, Bool.true_and] at hR
  all_goals refine Upd.finL ?_ hR ?_
  any_goals (intro fsum; first | exact Nat.le_refl _ | (simp only [zzq]; omega))
  rfl
 ·rename_i he
  rw [decide_eq_false he, Bool.false_and] at hR
  all_goals refine Upd.finL ?_ hR ?_
  any_goals (intro fsum; first | exact Nat.le_refl _ | (simp only [zzq]; omega))
  rfl
end Go.Proofs.Ytdeableflgakdaa
namespace Go.Proofs.Ytdeableflgakdaa
open Go Go.V Go.Proofs
def letterN (n : Nat) : Bool := decide (97 ≤ n ∧ n ≤ 122) || decide (65 ≤ n ∧ n ≤ 90) || decide (n = 95)
def mayN (n : Nat) (first : Bool) : Bool := if 48 ≤ n ∧ n ≤ 57 then !first else letterN n
theorem letter_or : ∀ c : Fin 256, letterN c.val = (decide (c.val = 95) || (decide (97 ≤ c.val ||| 32) && decide (c.val ||| 32 ≤ 122))) := by decide +kernel
theorem may_or : ∀ c : Fin 256, ∀ b : Bool, mayN c.val b = (letterN c.val || (!b && decide (48 ≤ c.val) && decide (c.val ≤ 57))) := by decide +kernel
theorem or_byte {x y : Nat} (hx : x < 256) (hy : y < 256) : bitsOp .or .u8 (x : Int) (y : Int) = ((x ||| y : Nat) : Int) := by
 simp only [bitsOp, BitVec.ofInt_natCast]
 have : (BitVec.ofNat IntKind.u8.bits x ||| BitVec.ofNat IntKind.u8.bits y).toNat = x ||| y := by
  show (BitVec.ofNat 8 x ||| BitVec.ofNat 8 y).toNat = x ||| y
  rw [BitVec.toNat_or, BitVec.toNat_ofNat, BitVec.toNat_ofNat, Nat.mod_eq_of_lt (by omega), Nat.mod_eq_of_lt (by omega)]
 rw [this]
 have h2 : x ||| y < 256 := show x ||| y < 2 ^ 8 from Nat.or_lt_two_pow (by omega) (by omega)
 exact u8_wrap h2
theorem letter_t (n : Nat) (hn : n < 256) {G : PHeap} {H : Heap} {R : Value → PHeap → Heap → Prop} (hR : R (.bool (letterN n)) G H) : FnT Try.prog 89 [.int .u8 (n : Nat)] G H R := by
 have ho := or_byte hn (y := 32) (by omega)
 have hl := letter_or ⟨n, hn⟩
 simp only [] at hl
 generalize n ||| 32 = m at ho hl
 have ho' : bitsOp .or .u8 (n : Int) 32 = (m : Int) := ho
 rw [hl] at hR
 refine FnT.body tok [0, 2] Try.func89 rfl (by kernel_rfl) (by kernel_rfl) (by show _ ≤ 15; simp) fun hsep => ?_
 rw [Try.results89]
 have hsE := hsep
 try simp only [zzs] at hsE
 repeat (obtain ⟨hsx, hsE⟩ := hsE)
 repeat' first
  | (with_reducible first | refine Nx.go ?_ | refine Bk.go (fun _ => ?_) fun _ => ?_)
  | simp -dsimp -implicitDefEqProofs (disch := first | assumption | (simp only [zzm]; done) | omega | (try with_reducible refine Row.adr (by assumption) ?_); simp only [zzl, Nat.reduceAdd]; first | done | omega) only [go_sem, ↓reduceIte, seval, ho']
 all_goals refine Upd.finL ?_ hR ?_
 any_goals (intro fsum; first | exact Nat.le_refl _ | (simp only [zzq]; omega))
 all_goals (simp only [Value.bool.injEq]; rw [Bool.eq_iff_iff]; simp; omega)
def okS (s : List UInt8) : Prop := ∀ i (h : i < s.length), mayN s[i].toNat (decide (i = 0)) = true
noncomputable def nameB (s : List UInt8) : Bool := @decide (1 ≤ s.length ∧ s.length ≤ 32 ∧ okS s) (Classical.propDecidable _)
theorem nameB_iff {s : List UInt8} : nameB s = true ↔ 1 ≤ s.length ∧ s.length ≤ 32 ∧ okS s := by unfold nameB; exact @decide_eq_true_iff _ (Classical.propDecidable _)
theorem nameB_no {s : List UInt8} (h : ¬ (1 ≤ s.length ∧ s.length ≤ 32 ∧ okS s)) : nameB s = false := by
 cases hb : nameB s with
 | false => rfl
 | true => exact absurd (nameB_iff.1 hb) h
theorem run_t (s : List UInt8) (hlen : s.length ≤ 2000000) {G : PHeap} {H : Heap} {R : Value → PHeap → Heap → Prop} (hR : ∀ n : Nat, n ≤ s.length → (n = s.length ↔ okS s) → R (.int .i64 n) G H) : FnT Try.prog 78 [str s] G H R := by
  refine FnT.body tok [0, 2, 3, 29] Try.func78 rfl (by kernel_rfl) (by kernel_rfl) (by show _ ≤ 33; simp) fun hsep => ?_
  rw [Try.results78]
  have hsE := hsep
  try simp only [zzs] at hsE
  repeat (obtain ⟨hsx, hsE⟩ := hsE)
  repeat' first
    | (with_reducible first | refine Nx.go ?_ | refine Bk.go (fun _ => ?_) fun _ => ?_)
    | (with_reducible refine NewB.mk2 fun nb hnb hnb1 hnb2 => ?_; try simp only [zzn] at hnb2)
    | simp -dsimp -implicitDefEqProofs (disch := first | assumption | (simp only [zzm]; done) | omega | (try with_reducible refine Row.adr (by assumption) ?_); simp only [zzl, Nat.reduceAdd]; first | done | omega) only [go_sem, ↓reduceIte, seval]
  refine Tri.loopU tok [0, 2, 3, 29] (by kernel_rfl) [0, 2, 3] (fun q G' fr H' => ∃ i : Nat, i + q = s.length ∧ (∀ j (h : j < s.length), j < i → mayN s[j].toNat (decide (j = 0)) = true) ∧ G' = G ∧ H' = H ∧ fr = [(0, str s), (2, .int .i64 0), (3, .int .i64 i)]) (s.length) (Upd.now ?_) ?_
  · exact ⟨0, by omega, fun j _ h => by omega, rfl, rfl, rfl⟩
  · rintro q G' fr H' hle hs ⟨i, hi, hno, rfl, rfl, rfl⟩
    by_cases hil : i < s.length
    · have hb : s[i].toNat < 256 := s[i].toNat_lt
      have hmay := may_or ⟨s[i].toNat, hb⟩ (decide (i = 0))
      simp only [] at hmay
      cases hL : letterN s[i].toNat with
      | true =>
        have hm : mayN s[i].toNat (decide (i = 0)) = true := by rw [hmay, hL]; rfl
        repeat' first
          | (with_reducible first | refine Nx.go ?_ | refine Bk.go (fun _ => ?_) fun _ => ?_)
          | (with_reducible refine NewB.mk2 fun nb hnb hnb1 hnb2 => ?_; try simp only [zzn] at hnb2)
          | simp -dsimp -implicitDefEqProofs (disch := first | assumption | (simp only [zzm]; done) | omega | (try with_reducible refine Row.adr (by assumption) ?_); simp only [zzl, Nat.reduceAdd]; first | done | omega) only [go_sem, ↓reduceIte, seval, hL]
          | with_reducible refine letter_t _ hb ?_
        exact Upd.now ⟨q - 1, by omega, i + 1, by omega, fun j h hj => by
            by_cases e : j = i
            · subst e; exact hm
            · exact hno j h (by omega), rfl, rfl, rfl⟩
      | false =>
        rw [hL, Bool.false_or] at hmay
        have hmp : mayN s[i].toNat (decide (i = 0)) = true ↔ (i ≠ 0 ∧ 48 ≤ s[i].toNat) ∧ s[i].toNat ≤ 57 := by rw [hmay]; simp
        repeat' first
          | (with_reducible first | refine Nx.go ?_ | refine Bk.go (fun _ => ?_) fun _ => ?_)
          | (with_reducible refine NewB.mk2 fun nb hnb hnb1 hnb2 => ?_; try simp only [zzn] at hnb2)
          | simp -dsimp -implicitDefEqProofs (disch := first | assumption | (simp only [zzm]; done) | omega | (try with_reducible refine Row.adr (by assumption) ?_); simp only [zzl, Nat.reduceAdd]; first | done | omega) only [go_sem, ↓reduceIte, seval, hL]
          | with_reducible refine letter_t _ hb ?_
        all_goals first
          | (have hm : mayN s[i].toNat (decide (i = 0)) = true := hmp.2 (by omega)
             exact Upd.now ⟨q - 1, by omega, i + 1, by omega, fun j h hj => by
            by_cases e : j = i
            · subst e; exact hm
            · exact hno j h (by omega), rfl, rfl, rfl⟩)
          | (have hm : ¬ mayN s[i].toNat (decide (i = 0)) = true := fun h => by
               have := hmp.1 h
               omega
             exact Upd.finL (by intro fsum; first | exact Nat.le_refl _ | (simp only [zzq]; omega)) (hR i (by omega) ⟨fun e => by omega, fun hok => absurd (hok i hil) hm⟩) rfl)
    · obtain rfl : i = s.length := by omega
      repeat' first
        | (with_reducible first | refine Nx.go ?_ | refine Bk.go (fun _ => ?_) fun _ => ?_)
        | (with_reducible refine NewB.mk2 fun nb hnb hnb1 hnb2 => ?_; try simp only [zzn] at hnb2)
        | simp -dsimp -implicitDefEqProofs (disch := first | assumption | (simp only [zzm]; done) | omega | (try with_reducible refine Row.adr (by assumption) ?_); simp only [zzl, Nat.reduceAdd]; first | done | omega) only [go_sem, ↓reduceIte, seval]
      all_goals refine Upd.finL ?_ (hR s.length (Nat.le_refl _) ⟨fun _ j h => hno j h h, fun _ => rfl⟩) ?_
      any_goals (intro fsum; first | exact Nat.le_refl _ | (simp only [zzq]; omega))
      rfl
theorem name_t (s : List UInt8) (hlen : s.length ≤ 2000000) {G : PHeap} {H : Heap} {R : Value → PHeap → Heap → Prop} (hR : R (.bool (nameB s)) G H) : FnT Try.prog 51 [str s] G H R := by
  by_cases h1 : 1 ≤ s.length
  · have hs0 : s ≠ [] := fun e => by subst e; simp at h1
    by_cases h2 : s.length ≤ 32
    · refine FnT.body tok [0, 2] Try.func51 rfl (by kernel_rfl) (by kernel_rfl) (by show _ ≤ 17; simp) fun hsep => ?_
      rw [Try.results51]
      have hsE := hsep
      try simp only [zzs] at hsE
      repeat (obtain ⟨hsx, hsE⟩ := hsE)
      repeat' first
        | (with_reducible first | refine Nx.go ?_ | refine Bk.go (fun _ => ?_) fun _ => ?_)
        | simp -dsimp -implicitDefEqProofs (disch := first | assumption | (simp only [zzm]; done) | omega | (try with_reducible refine Row.adr (by assumption) ?_); simp only [zzl, Nat.reduceAdd]; first | done | omega) only [go_sem, ↓reduceIte, seval]
        | with_reducible refine run_t s hlen fun n hn hok => ?_
      all_goals first
        | exact absurd (by assumption) hs0
        | (refine Upd.finL (by intro fsum; first | exact Nat.le_refl _ | (simp only [zzq]; omega)) hR ?_
           simp only [Value.bool.injEq]
           rw [Bool.eq_iff_iff, nameB_iff, decide_eq_true_eq, ← hok]
           omega)
        | (exfalso; omega)
    · rw [nameB_no fun h => h2 h.2.1] at hR
      refine FnT.body tok [0, 2] Try.func51 rfl (by kernel_rfl) (by kernel_rfl) (by show _ ≤ 17; simp) fun hsep => ?_
      rw [Try.results51]
      have hsE := hsep
      try simp only [zzs] at hsE
      repeat (obtain ⟨hsx, hsE⟩ := hsE)
      repeat' first
        | (with_reducible first | refine Nx.go ?_ | refine Bk.go (fun _ => ?_) fun _ => ?_)
        | simp -dsimp -implicitDefEqProofs (disch := first | assumption | (simp only [zzm]; done) | omega | (try with_reducible refine Row.adr (by assumption) ?_); simp only [zzl, Nat.reduceAdd]; first | done | omega) only [go_sem, ↓reduceIte, seval]
      all_goals try (exfalso; omega)
      all_goals refine Upd.finL ?_ hR ?_
      any_goals (intro fsum; first | exact Nat.le_refl _ | (simp only [zzq]; omega))
      all_goals rfl
  · rw [nameB_no fun h => h1 h.1] at hR
    obtain rfl : s = [] := List.eq_nil_of_length_eq_zero (by omega)
    refine FnT.body tok [0, 2] Try.func51 rfl (by kernel_rfl) (by kernel_rfl) (by show _ ≤ 17; simp) fun hsep => ?_
    rw [Try.results51]
    have hsE := hsep
    try simp only [zzs] at hsE
    repeat (obtain ⟨hsx, hsE⟩ := hsE)
    repeat' first
      | (with_reducible first | refine Nx.go ?_ | refine Bk.go (fun _ => ?_) fun _ => ?_)
      | simp -dsimp -implicitDefEqProofs (disch := first | assumption | (simp only [zzm]; done) | omega | (try with_reducible refine Row.adr (by assumption) ?_); simp only [zzl, Nat.reduceAdd]; first | done | omega) only [go_sem, ↓reduceIte, seval]
    all_goals try (rename_i hno; exact absurd rfl hno)
    all_goals refine Upd.finL ?_ hR ?_
    any_goals (intro fsum; first | exact Nat.le_refl _ | (simp only [zzq]; omega))
    all_goals rfl
theorem index_t (l : List (List UInt8)) (x : List UInt8) (hlen : l.length ≤ 2000000) {G : PHeap} {H : Heap} {R : Value → PHeap → Heap → Prop} {v : Value} (hv : Sl G str v l) (hR : R (.int .i64 (findF l x)) G H) : FnT Try.prog 79 [v, str x] G H R := by
 obtain ⟨a, cap, rfl, hrow, hcap⟩ := hv
 refine FnT.body tok [0, 1, 4, 5, 7, 8, 9, 16] Try.func79 rfl (by kernel_rfl) (by kernel_rfl) (by show _ ≤ 19; simp) fun hsep => ?_
 rw [Try.results79]
 have hsE := hsep
 try simp only [zzs] at hsE
 repeat (obtain ⟨hsx, hsE⟩ := hsE)
 repeat' first
  | (with_reducible first | refine Nx.go ?_ | refine Bk.go (fun _ => ?_) fun _ => ?_)
  | (with_reducible refine NewB.mk2 fun nb hnb hnb1 hnb2 => ?_; try simp only [zzn] at hnb2)
  | simp -dsimp -implicitDefEqProofs (disch := first | assumption | (simp only [zzm]; done) | omega | (try with_reducible refine Row.adr (by assumption) ?_); simp only [zzl, Nat.reduceAdd]; first | done | omega) only [go_sem, ↓reduceIte, seval]
 refine Tri.loopU tok [0, 1, 4, 5, 7, 8, 9, 16] (by kernel_rfl) [0, 1, 4, 7, 8] (fun n G' fr H' => ∃ i : Nat, i + n = l.length ∧ (∀ j (h : j < l.length), j < i → l[j] ≠ x) ∧ G' = G ∧ H' = H ∧ fr = [(0, .slice a l.length cap), (1, str x), (4, .int .i64 0), (7, .int .i64 l.length), (8, .int .i64 i)]) (l.length) (Upd.now ?_) ?_
 ·exact ⟨0, by omega, fun j _ h => by omega, rfl, rfl, rfl⟩
 ·rintro n G' fr H' hle hs ⟨i, hi, hno, rfl, rfl, rfl⟩
  by_cases hil : i < l.length
  ·have had : Adr a := hrow.adr (by rw [List.length_map]; omega)
   repeat' first
    | (with_reducible first | refine Nx.go ?_ | refine Bk.go (fun _ => ?_) fun _ => ?_)
    | (with_reducible refine NewB.mk2 fun nb hnb hnb1 hnb2 => ?_; try simp only [zzn] at hnb2)
    | simp -dsimp -implicitDefEqProofs (disch := first | assumption | (simp only [zzm]; done) | omega | (try with_reducible refine Row.adr (by assumption) ?_); simp only [zzl, Nat.reduceAdd]; first | done | omega) only [go_sem, ↓reduceIte, seval, Row.obj hrow, List.getElem_map]
   ·rename_i he
    have hp : place l x = some i := by
     unfold place
     rw [List.findIdx?_eq_some_iff_getElem]
     exact ⟨hil, by simp [he], fun j hj => by have := hno j (by omega) hj; simp; exact fun e => this e.symm⟩
    rw [findF_some hp] at hR
    all_goals refine Upd.finL ?_ hR ?_
    any_goals (intro fsum; first | exact Nat.le_refl _ | (simp only [zzq]; omega))
    rfl
   ·rename_i he
    exact Upd.now ⟨n - 1, by omega, i + 1, by omega, fun j h hj => by
     by_cases e : j = i
     ·subst e; exact fun e => he e.symm
     ·exact hno j h (by omega), rfl, rfl, rfl⟩
  ·obtain rfl : i = l.length := by omega
   have hp : place l x = none := place_no fun hm => by
    obtain ⟨j, hj, e⟩ := List.getElem_of_mem hm
    exact hno j hj hj e
   rw [findF_none hp] at hR
   repeat' first
    | (with_reducible first | refine Nx.go ?_ | refine Bk.go (fun _ => ?_) fun _ => ?_)
    | (with_reducible refine NewB.mk2 fun nb hnb hnb1 hnb2 => ?_; try simp only [zzn] at hnb2)
    | simp -dsimp -implicitDefEqProofs (disch := first | assumption | (simp only [zzm]; done) | omega | (try with_reducible refine Row.adr (by assumption) ?_); simp only [zzl, Nat.reduceAdd]; first | done | omega) only [go_sem, ↓reduceIte, seval]
   all_goals refine Upd.finL ?_ hR ?_
   any_goals (intro fsum; first | exact Nat.le_refl _ | (simp only [zzq]; omega))
   rfl
theorem contains_t (l : List (List UInt8)) (x : List UInt8) (hlen : l.length ≤ 2000000) {G : PHeap} {H : Heap} {R : Value → PHeap → Heap → Prop} {v : Value} (hv : Sl G str v l) (hR : R (.bool (decide (x ∈ l))) G H) : FnT Try.prog 52 [v, str x] G H R := by
 have hv0 := hv
 obtain ⟨a, cap, rfl, hrow, hcap⟩ := hv
 refine FnT.body tok [0, 1, 4] Try.func52 rfl (by kernel_rfl) (by kernel_rfl) (by show _ ≤ 9; simp) fun hsep => ?_
 rw [Try.results52]
 have hsE := hsep
 try simp only [zzs] at hsE
 repeat (obtain ⟨hsx, hsE⟩ := hsE)
 repeat' first
  | (with_reducible first | refine Nx.go ?_ | refine Bk.go (fun _ => ?_) fun _ => ?_)
  | simp -dsimp -implicitDefEqProofs (disch := first | assumption | (simp only [zzm]; done) | omega | (try with_reducible refine Row.adr (by assumption) ?_); simp only [zzl, Nat.reduceAdd]; first | done | omega) only [go_sem, ↓reduceIte, seval]
  | with_reducible refine index_t l x hlen hv0 ?_
 all_goals refine Upd.finL ?_ hR ?_
 any_goals (intro fsum; first | exact Nat.le_refl _ | (simp only [zzq]; omega))
 simp only [Value.bool.injEq]
 rw [Bool.eq_iff_iff, decide_eq_true_eq, decide_eq_true_eq]
 constructor
 ·intro h
  cases hp : place l x with
  | none => rw [findF_none hp] at h; omega
  | some n =>
   obtain ⟨h1, h2⟩ := place_some hp
   rw [List.getElem?_eq_getElem h1, Option.some.injEq] at h2
   exact h2 ▸ List.getElem_mem h1
 ·intro h
  obtain ⟨n, hn⟩ := place_mem h
  rw [findF_some hn]; omega
end Go.Proofs.Ytdeableflgakdaa
namespace Go.Proofs.Ytdeableflgakdaa
open Go Go.V Go.Proofs
def namesOk (l : List (List UInt8)) : Prop := l.length ≤ 64 ∧ ∀ i (h : i < l.length), nameB l[i] = true ∧ l[i] ∉ l.take i
noncomputable def boolOf (p : Prop) : Bool := @decide p (Classical.propDecidable p)
theorem boolOf_iff {p : Prop} : boolOf p = true ↔ p := by unfold boolOf; exact @decide_eq_true_iff p (Classical.propDecidable p)
theorem boolOf_yes {p : Prop} (h : p) : boolOf p = true := boolOf_iff.2 h
theorem boolOf_no {p : Prop} (h : ¬ p) : boolOf p = false := by
 cases hb : boolOf p with
 | false => rfl
 | true => exact absurd (boolOf_iff.1 hb) h
theorem names_t (l : List (List UInt8)) (hlen : l.length ≤ 2000000) (hstr : ∀ s ∈ l, s.length ≤ 2000000) {G : PHeap} {H : Heap} {R : Value → PHeap → Heap → Prop} {v : Value} (hv : Sl G str v l) (hR : R (.bool (boolOf (namesOk l))) G H) : FnT Try.prog 25 [v] G H R := by
 obtain ⟨a, cap, rfl, hrow, hcap⟩ := hv
 by_cases h64 : l.length ≤ 64
 ·refine FnT.body tok [0, 2, 3, 4, 7, 8, 9, 10, 11, 24] Try.func25 rfl (by kernel_rfl) (by kernel_rfl) (by show _ ≤ 26; simp) fun hsep => ?_
  rw [Try.results25]
  have hsE := hsep
  try simp only [zzs] at hsE
  repeat (obtain ⟨hsx, hsE⟩ := hsE)
  repeat' first
   | (with_reducible first | refine Nx.go ?_ | refine Bk.go (fun _ => ?_) fun _ => ?_)
   | (with_reducible refine NewB.mk2 fun nb hnb hnb1 hnb2 => ?_; try simp only [zzn] at hnb2)
   | simp -dsimp -implicitDefEqProofs (disch := first | assumption | (simp only [zzm]; done) | omega | (try with_reducible refine Row.adr (by assumption) ?_); simp only [zzl, Nat.reduceAdd]; first | done | omega) only [go_sem, ↓reduceIte, seval]
  refine Tri.loopU tok [0, 2, 3, 4, 7, 8, 9, 10, 11, 24] (by kernel_rfl) [0, 2, 8, 9, 10] (fun n G' fr H' => ∃ i : Nat, i + n = l.length ∧ (∀ j (h : j < l.length), j < i → nameB l[j] = true ∧ l[j] ∉ l.take j) ∧ G' = G ∧ H' = H ∧ fr = [(0, .slice a l.length cap), (2, .bool false), (8, .slice a l.length cap), (9, .int .i64 l.length), (10, .int .i64 i)]) (l.length) (Upd.now ?_) ?_
  ·exact ⟨0, by omega, fun j _ h => by omega, rfl, rfl, rfl⟩
  ·rintro n G' fr H' hle hs ⟨i, hi, hno, rfl, rfl, rfl⟩
   by_cases hil : i < l.length
   ·have had : Adr a := hrow.adr (by rw [List.length_map]; omega)
    have hsub : Sl G' str (.slice (subOb a 0 cap 0) (i - 0) (cap - 0)) (l.take i) := ⟨_, _, by rw [List.length_take, Nat.min_eq_left (by omega)]; rfl, by
     have h1 := (Row.drop hrow (l := 0) (m := cap) (s := 1) (fun e => by rw [List.length_map]; omega)).take i
     rw [List.map_take]
     exact h1, by rw [List.length_take]; omega⟩
    have hsi := hstr l[i] (List.getElem_mem hil)
    repeat' first
     | (with_reducible first | refine Nx.go ?_ | refine Bk.go (fun _ => ?_) fun _ => ?_)
     | (with_reducible refine NewB.mk2 fun nb hnb hnb1 hnb2 => ?_; try simp only [zzn] at hnb2)
     | simp -dsimp -implicitDefEqProofs (disch := first | assumption | (simp only [zzm]; done) | omega | (try with_reducible refine Row.adr (by assumption) ?_); simp only [zzl, Nat.reduceAdd]; first | done | omega) only [go_sem, ↓reduceIte, seval, Row.obj hrow, List.getElem_map]
     | with_reducible refine name_t l[i] hsi ?_
     | with_reducible refine contains_t (l.take i) l[i] (by rw [List.length_take]; omega) hsub ?_
    ·rename_i hct
     rw [boolOf_no fun h => (h.2 i hil).2 hct] at hR
     all_goals refine Upd.finL ?_ hR ?_
     any_goals (intro fsum; first | exact Nat.le_refl _ | (simp only [zzq]; omega))
     rfl
    ·rename_i hnm hct
     exact Upd.now ⟨n - 1, by omega, i + 1, by omega, fun j h hj => by
      by_cases e : j = i
      ·subst e; exact ⟨hnm, hct⟩
      ·exact hno j h (by omega), rfl, rfl, rfl⟩
    ·rename_i hnm
     rw [boolOf_no fun h => by have := (h.2 i hil).1; rw [hnm] at this; cases this] at hR
     all_goals refine Upd.finL ?_ hR ?_
     any_goals (intro fsum; first | exact Nat.le_refl _ | (simp only [zzq]; omega))
     rfl
   ·obtain rfl : i = l.length := by omega
    rw [boolOf_yes ⟨h64, fun i h => hno i h h⟩] at hR
    repeat' first
     | (with_reducible first | refine Nx.go ?_ | refine Bk.go (fun _ => ?_) fun _ => ?_)
     | (with_reducible refine NewB.mk2 fun nb hnb hnb1 hnb2 => ?_; try simp only [zzn] at hnb2)
     | simp -dsimp -implicitDefEqProofs (disch := first | assumption | (simp only [zzm]; done) | omega | (try with_reducible refine Row.adr (by assumption) ?_); simp only [zzl, Nat.reduceAdd]; first | done | omega) only [go_sem, ↓reduceIte, seval]
    all_goals refine Upd.finL ?_ hR ?_
    any_goals (intro fsum; first | exact Nat.le_refl _ | (simp only [zzq]; omega))
    rfl
 ·rw [boolOf_no fun h => h64 h.1] at hR
  refine FnT.body tok [0, 2, 3, 4, 7, 8, 9, 10, 11, 24] Try.func25 rfl (by kernel_rfl) (by kernel_rfl) (by show _ ≤ 26; simp) fun hsep => ?_
  rw [Try.results25]
  have hsE := hsep
  try simp only [zzs] at hsE
  repeat (obtain ⟨hsx, hsE⟩ := hsE)
  repeat' first
   | (with_reducible first | refine Nx.go ?_ | refine Bk.go (fun _ => ?_) fun _ => ?_)
   | (with_reducible refine NewB.mk2 fun nb hnb hnb1 hnb2 => ?_; try simp only [zzn] at hnb2)
   | simp -dsimp -implicitDefEqProofs (disch := first | assumption | (simp only [zzm]; done) | omega | (try with_reducible refine Row.adr (by assumption) ?_); simp only [zzl, Nat.reduceAdd]; first | done | omega) only [go_sem, ↓reduceIte, seval]
  all_goals try (exfalso; omega)
  all_goals refine Upd.finL ?_ hR ?_
  any_goals (intro fsum; first | exact Nat.le_refl _ | (simp only [zzq]; omega))
  rfl
structure DfaT where
 of : List Int
 width : Int
 next : List (List Int)
 label : List Int
 names : List (List UInt8)
def SlS (G : PHeap) (v : Value) (xss : List (List Int)) : Prop := ∃ a cap vs, v = .slice a xss.length cap ∧ Row G a vs ∧ vs.length = xss.length ∧ xss.length ≤ cap ∧ ∀ i (h : i < xss.length) (h2 : i < vs.length), ∃ b c, vs[i] = .slice b xss[i].length c ∧ Row G b (xss[i].map (Value.int .i64)) ∧ xss[i].length ≤ c
theorem SlS.mono {G G' : PHeap} (hle : PLe G G') {v : Value} {xss : List (List Int)} (h : SlS G v xss) : SlS G' v xss := by
 obtain ⟨a, cap, vs, h1, h2, h3, h4, h5⟩ := h
 refine ⟨a, cap, vs, h1, h2.mono hle, h3, h4, fun i h h' => ?_⟩
 obtain ⟨b, c, e1, e2, e3⟩ := h5 i h h'
 exact ⟨b, c, e1, e2.mono hle, e3⟩
def cellsD (d : DfaT) (vn vl vs : Value) : List Value := u8L d.of ++ [.int .i64 d.width, vn, vl, vs]
def IsD (G : PHeap) (d : DfaT) (v : Value) : Prop := d.of.length = 256 ∧ (∀ x ∈ d.of, 0 ≤ x ∧ x ≤ 255) ∧ ∃ vn vl vs, v = .agg (cellsD d vn vl vs).toArray ∧ SlS G vn d.next ∧ Sl G (Value.int .i64) vl d.label ∧ Sl G str vs d.names
theorem IsD.mono {G G' : PHeap} (hle : PLe G G') {d : DfaT} {v : Value} (h : IsD G d v) : IsD G' d v := by
 obtain ⟨h1, h2, vn, vl, vs, h3, h4, h5, h6⟩ := h
 exact ⟨h1, h2, vn, vl, vs, h3, h4.mono hle, h5.mono hle, h6.mono hle⟩
def SmallD (d : DfaT) : Prop := d.next.length ≤ 2000000 ∧ (∀ r ∈ d.next, r.length ≤ 2000000) ∧ d.label.length ≤ 2000000 ∧ d.names.length ≤ 2000000 ∧ ∀ s ∈ d.names, s.length ≤ 2000000
theorem cellsD_len {d : DfaT} (h : d.of.length = 256) (vn vl vs : Value) : (cellsD d vn vl vs).length = 260 := by unfold cellsD; rw [List.length_append, List.length_map, h]; rfl
theorem cellsD_w {d : DfaT} (h : d.of.length = 256) (vn vl vs : Value) : (cellsD d vn vl vs)[256]? = some (.int .i64 d.width) := by unfold cellsD; rw [List.getElem?_append_right (by rw [List.length_map, h]; omega), List.length_map, h]; rfl
theorem cellsD_n {d : DfaT} (h : d.of.length = 256) (vn vl vs : Value) : (cellsD d vn vl vs)[257]? = some vn := by unfold cellsD; rw [List.getElem?_append_right (by rw [List.length_map, h]; omega), List.length_map, h]; rfl
theorem cellsD_l {d : DfaT} (h : d.of.length = 256) (vn vl vs : Value) : (cellsD d vn vl vs)[258]? = some vl := by unfold cellsD; rw [List.getElem?_append_right (by rw [List.length_map, h]; omega), List.length_map, h]; rfl
theorem cellsD_s {d : DfaT} (h : d.of.length = 256) (vn vl vs : Value) : (cellsD d vn vl vs)[259]? = some vs := by unfold cellsD; rw [List.getElem?_append_right (by rw [List.length_map, h]; omega), List.length_map, h]; rfl
theorem cellsD_of {d : DfaT} (h : d.of.length = 256) (vn vl vs : Value) : (cellsD d vn vl vs).take 256 = u8L d.of := by unfold cellsD; rw [List.take_append_of_le_length (by rw [List.length_map, h]; omega), List.take_of_length_le (by rw [List.length_map, h]; omega)]
theorem cellsD_all {d : DfaT} (h : d.of.length = 256) (vn vl vs : Value) : (cellsD d vn vl vs).take 260 = cellsD d vn vl vs := List.take_of_length_le (by rw [cellsD_len h]; omega)
end Go.Proofs.Ytdeableflgakdaa
namespace Go.Proofs.Ytdeableflgakdaa
open Go Go.V Go.Proofs Go.ChangeShapes Go.WideShapes Go.RowKit
section
variable {H : Type} {enc : TypeId × Value → H} {W : World} {held : Bool} {sp : Nat → Bool}
theorem bulk_at {l : List (DataW H)} {i : Nat} (h : i < l.length) : bulkV l[i] ≤ bulkVs l := by
 induction l generalizing i with
 | nil => cases h
 | cons d l ih =>
  cases i with
  | zero => simp only [List.getElem_cons_zero, bulkVs]; omega
  | succ i =>
   have := ih (i := i) (by simpa using h)
   simp only [List.getElem_cons_succ, bulkVs]; omega
theorem rd_fints {n : Nat} {cs : List Value} {x : DataW H × List MemPlace} (h : DataW.trod enc Try.prog W 0 sp held n 24 cs = some x) :
  ∃ (a : Option Addr) (cap : Nat) (xs : List Int), cs = [.slice a xs.length cap] ∧ Row (fun b => W.heap[b]?) a (xs.map (Value.int .i64)) ∧ xs.length ≤ cap ∧ xs.length + 1 ≤ bulkV x.1 := by
 obtain ⟨d1, hd1, hf1⟩ := tok.und (t := 24) (k := .slice 3) rfl (by simp)
 simp only [TK.fits] at hf1; subst hf1
 obtain ⟨a, cap, ds, xs, h1, h2, h3, h4, h5, h6⟩ := rd_slice_enc hd1 (m := 1) (by kernel_rfl) (by omega) (fun n : Int => [Value.int .i64 n]) (fun d _ => 1 ≤ bulkV d) (fun n cs y hl hy => by
  obtain ⟨z, e, _, _, hb⟩ := rd_fint tok (t := 3) (k := .i64) rfl hy
  exact ⟨z, e, by omega⟩) h
 refine ⟨a, cap, xs, h1, by rw [List.map_eq_flatMap]; exact h3, h2, ?_⟩
 have := bulkVs_len ds fun d hd => by
  obtain ⟨i, hi, rfl⟩ := List.getElem_of_mem hd
  exact h5 i hi (by omega)
 omega
theorem rd_fstrs {n : Nat} {cs : List Value} {x : DataW H × List MemPlace} (h : DataW.trod enc Try.prog W 0 sp held n 25 cs = some x) :
  ∃ (a : Option Addr) (cap : Nat) (xs : List (List UInt8)), cs = [.slice a xs.length cap] ∧ Row (fun b => W.heap[b]?) a (xs.map str) ∧ xs.length ≤ cap ∧ xs.length + 1 ≤ bulkV x.1 ∧ ∀ s ∈ xs, s.length ≤ bulkV x.1 := by
 obtain ⟨d1, hd1, hf1⟩ := tok.und (t := 25) (k := .slice 9) rfl (by simp)
 simp only [TK.fits] at hf1; subst hf1
 obtain ⟨a, cap, ds, xs, h1, h2, h3, h4, h5, h6⟩ := rd_slice_enc hd1 (m := 1) (by kernel_rfl) (by omega) (fun s : List UInt8 => [str s]) (fun d s => s.length + 1 ≤ bulkV d) (fun n cs y hl hy => by
  obtain ⟨s, e, hb⟩ := rd_fstr tok (t := 9) rfl hy
  exact ⟨s, e, by omega⟩) h
 refine ⟨a, cap, xs, h1, by rw [List.map_eq_flatMap]; exact h3, h2, ?_, fun s hs => ?_⟩
 ·have := bulkVs_len ds fun d hd => by
   obtain ⟨i, hi, rfl⟩ := List.getElem_of_mem hd
   have := h5 i hi (by omega)
   omega
  omega
 ·obtain ⟨i, hi, rfl⟩ := List.getElem_of_mem hs
  have h7 := h5 i (by omega) hi
  have h8 := bulk_at (l := ds) (i := i) (by omega)
  omega
theorem rd_frows {n : Nat} {cs : List Value} {x : DataW H × List MemPlace} (h : DataW.trod enc Try.prog W 0 sp held n 23 cs = some x) :
  ∃ (v : Value) (xss : List (List Int)), cs = [v] ∧ SlS (fun b => W.heap[b]?) v xss ∧ xss.length + 1 ≤ bulkV x.1 ∧ ∀ r ∈ xss, r.length ≤ bulkV x.1 := by
 obtain ⟨d1, hd1, hf1⟩ := tok.und (t := 23) (k := .slice 24) rfl (by simp)
 simp only [TK.fits] at hf1; subst hf1
 obtain ⟨a, cap, rows, ds, spare, xs, h1, h2, h3, h4, h5, h6, h7⟩ := rd_slice hd1 (m := 1) (by kernel_rfl) (by omega) (fun cs d (r : List Int) => ∃ b c, cs = [.slice b r.length c] ∧ Row (fun b => W.heap[b]?) b (r.map (Value.int .i64)) ∧ r.length ≤ c ∧ r.length + 1 ≤ bulkV d) (fun n cs y hl hy => by
  obtain ⟨b, c, r, e, g1, g2, g3⟩ := rd_fints hy
  exact ⟨r, b, c, e, g1, g2, g3⟩) h
 have hfl : rows.flatten.length = rows.length := by
  have : ∀ l : List (List Value), (∀ i (h : i < l.length), l[i].length = 1) → l.flatten.length = l.length := fun l => by
   induction l with
   | nil => intro _; rfl
   | cons r l ih =>
    intro hh
    have h0 := hh 0 (by simp)
    have := ih fun i hi => by have := hh (i + 1) (by simp; omega); simpa using this
    simp only [List.flatten_cons, List.length_append, List.length_cons, List.getElem_cons_zero] at h0 ⊢
    omega
  exact this rows fun i hi => (h6 i hi (by omega) (by omega)).1
 have hfg : ∀ i (h : i < rows.length), rows[i] = [rows.flatten[i]'(by omega)] := by
  have : ∀ l : List (List Value), (∀ i (h : i < l.length), l[i].length = 1) → ∀ i (h : i < l.length) (h2 : i < l.flatten.length), l[i] = [l.flatten[i]] := fun l => by
   induction l with
   | nil => intro _ i h; cases h
   | cons r l ih =>
    intro hh i hi h2
    have h0 := hh 0 (by simp)
    simp only [List.getElem_cons_zero] at h0
    match r, h0 with
    | [v], _ =>
     cases i with
     | zero => simp
     | succ i =>
      have := ih (fun i hi => by have := hh (i + 1) (by simp; omega); simpa using this) i (by simpa using hi) (by simpa using h2)
      simpa using this
  exact fun i h => this rows (fun i hi => (h6 i hi (by omega) (by omega)).1) i h _
 refine ⟨_, xs, h1, ⟨a, cap, rows.flatten, rfl, h3, by omega, h2, fun i hi hi2 => ?_⟩, ?_, fun r hr => ?_⟩
 ·obtain ⟨_, b, c, e, g1, g2, _⟩ := h6 i (by omega) (by omega) hi
  rw [hfg i (by omega)] at e
  exact ⟨b, c, by simpa using e, g1, g2⟩
 ·have := bulkVs_len ds fun d hd => by
   obtain ⟨i, hi, rfl⟩ := List.getElem_of_mem hd
   obtain ⟨_, b, c, e, g1, g2, g3⟩ := h6 i (by omega) hi (by omega)
   omega
  omega
 ·obtain ⟨i, hi, rfl⟩ := List.getElem_of_mem hr
  obtain ⟨_, b, c, e, g1, g2, g3⟩ := h6 i (by omega) (by omega) hi
  have := bulk_at (l := ds) (i := i) (by omega)
  omega
theorem rd_fu8s {n : Nat} {cs : List Value} (hl : cs.length = 256) {x : DataW H × List MemPlace} (h : DataW.trod enc Try.prog W 0 sp held n 22 cs = some x) :
  ∃ xs : List Int, cs = xs.map (Value.int .u8) ∧ ∀ x ∈ xs, 0 ≤ x ∧ x ≤ 255 := by
 have key : ∀ k, k ≤ 256 → ∃ xs : List Int, cs.take k = xs.map (Value.int .u8) ∧ ∀ x ∈ xs, 0 ≤ x ∧ x ≤ 255 := fun k => by
  induction k with
  | zero => intro _; exact ⟨[], by simp, fun x hx => by cases hx⟩
  | succ k ih =>
   intro hk
   obtain ⟨xs, h1, h2⟩ := ih (by omega)
   obtain ⟨q, y, hy, _⟩ := rd_elem tok (t := 22) (e := 5) (m := 256) rfl h (i := k) (by omega)
   rw [show Try.prog.cellsOf 5 = 1 by kernel_rfl] at hy
   obtain ⟨z, e, w0, w1, _⟩ := rd_fint tok (t := 5) (k := .u8) rfl hy
   have hk2 : k < cs.length := by omega
   rw [Nat.mul_one, List.drop_eq_getElem_cons hk2] at e
   simp only [List.take_succ_cons, List.take_zero, List.cons.injEq, and_true] at e
   refine ⟨xs ++ [z], by rw [List.take_succ_eq_append_getElem hk2, h1, List.map_append, e]; rfl, fun x hx => ?_⟩
   rcases List.mem_append.1 hx with hx | hx
   ·exact h2 x hx
   ·rw [List.mem_singleton.1 hx]
    exact ⟨w0, w1⟩
 obtain ⟨xs, h1, h2⟩ := key 256 (Nat.le_refl _)
 rw [List.take_of_length_le (by omega)] at h1
 exact ⟨xs, h1, h2⟩
set_option maxRecDepth 8000 in
theorem rd_dfa {r : Reach} {b0 : Nat} {v : Value} {dt : DataW H} {ps : List MemPlace}
  (hval : Value.okWide Try.prog W r b0 27 v) (h : DataW.Trod enc Try.prog W 0 sp held 27 v dt ps) : ∃ d : DfaT, IsD (fun b => W.heap[b]?) d v ∧ (bulkV dt ≤ 1048576 → SmallD d) := by
 obtain ⟨d1, hd1, f, rfl, hf1⟩ := tok.und (t := 27) (k := .struct [(0, 22), (256, 3), (257, 23), (258, 24), (259, 25)]) rfl (by simp)
 obtain ⟨C, rfl, hC⟩ := okWide_struct hd1 hval
 rw [show Try.prog.cellsOf 27 = 260 by kernel_rfl] at hC
 obtain ⟨fuel, hf⟩ := h
 have hC2 : C.toList.length = 260 := by simpa using hC
 have hf' : DataW.trod enc Try.prog W 0 sp held fuel 27 C.toList = some (dt, ps) := hf
 obtain ⟨m0, y0, g0, w0⟩ := rd_field tok (t := 27) (fs := [(0, 22), (256, 3), (257, 23), (258, 24), (259, 25)]) rfl (i := 0) rfl hf'
 obtain ⟨m1, y1, g1, w1⟩ := rd_field tok (t := 27) (fs := [(0, 22), (256, 3), (257, 23), (258, 24), (259, 25)]) rfl (i := 1) rfl hf'
 obtain ⟨m2, y2, g2, w2⟩ := rd_field tok (t := 27) (fs := [(0, 22), (256, 3), (257, 23), (258, 24), (259, 25)]) rfl (i := 2) rfl hf'
 obtain ⟨m3, y3, g3, w3⟩ := rd_field tok (t := 27) (fs := [(0, 22), (256, 3), (257, 23), (258, 24), (259, 25)]) rfl (i := 3) rfl hf'
 obtain ⟨m4, y4, g4, w4⟩ := rd_field tok (t := 27) (fs := [(0, 22), (256, 3), (257, 23), (258, 24), (259, 25)]) rfl (i := 4) rfl hf'
 rw [show Try.prog.cellsOf 22 = 256 by kernel_rfl] at g0
 rw [show Try.prog.cellsOf 3 = 1 by kernel_rfl] at g1
 rw [show Try.prog.cellsOf 23 = 1 by kernel_rfl] at g2
 rw [show Try.prog.cellsOf 24 = 1 by kernel_rfl] at g3
 rw [show Try.prog.cellsOf 25 = 1 by kernel_rfl] at g4
 obtain ⟨of, e0, hb0⟩ := rd_fu8s (by rw [List.length_take, List.length_drop, hC2]; omega) g0
 obtain ⟨w, e1, _⟩ := rd_fint tok (t := 3) (k := .i64) rfl g1
 obtain ⟨vn, next, e2, hn, hn1, hn2⟩ := rd_frows g2
 obtain ⟨al, cl, label, e3, hl, hl1, hl2⟩ := rd_fints g3
 obtain ⟨ay, cy, names, e4, hy, hy1, hy2, hy3⟩ := rd_fstrs g4
 rw [List.drop_zero] at e0
 have hofl : of.length = 256 := by
  have := congrArg List.length e0
  rw [List.length_take, hC2, List.length_map] at this
  omega
 have split1 : ∀ {k : Nat} {z : Value}, k < 260 → (C.toList.drop k).take 1 = [z] → C.toList.drop k = z :: C.toList.drop (k + 1) := fun {k z} hk e => by
  rw [List.drop_eq_getElem_cons (by omega)] at e ⊢
  simp only [List.take_succ_cons, List.take_zero, List.cons.injEq, and_true] at e
  rw [e]
 have hCe : C.toList = cellsD ⟨of, w, next, label, names⟩ vn (.slice al label.length cl) (.slice ay names.length cy) := by
  rw [← List.take_append_drop 256 C.toList, e0, split1 (by omega) e1, split1 (by omega) e2, split1 (by omega) e3, split1 (by omega) e4, List.drop_of_length_le (by omega)]
  rfl
 refine ⟨⟨of, w, next, label, names⟩, ⟨hofl, hb0, vn, _, _, ?_, hn, ⟨al, cl, rfl, hl, hl1⟩, ⟨ay, cy, rfl, hy, hy1⟩⟩, fun hbk => ?_⟩
 ·rw [← hCe]
 ·simp only [] at w0 w1 w2 w3 w4
  refine ⟨by show next.length ≤ _; omega, fun r hr => by have := hn2 r hr; omega, by show label.length ≤ _; omega, by show names.length ≤ _; omega, fun s hs => by have := hy3 s hs; omega⟩
end
end Go.Proofs.Ytdeableflgakdaa
namespace Go.Proofs.Ytdeableflgakdaa
open Go Go.V Go.Proofs
def rowOk (d : DfaT) (s : Nat) : Prop := ∀ (h : s < d.next.length) (h2 : s < d.label.length), (d.next[s].length : Int) = d.width ∧ 0 ≤ d.label[s] ∧ d.label[s] ≤ d.names.length ∧ ∀ t ∈ d.next[s], 0 ≤ t ∧ t < d.label.length
def rowsOk (d : DfaT) : Prop := ∀ s, rowOk d s
theorem rows_t {d : DfaT} (hsm : SmallD d) (hnl : d.next.length = d.label.length) {G : PHeap} {H : Heap} {R : Value → PHeap → Heap → Prop} {v : Value} (hv : IsD G d v) (hR : R (.bool (boolOf (rowsOk d))) G H) : FnT Try.prog 26 [v] G H R := by
  obtain ⟨hof, hofb, vn, vl, vs, rfl, ⟨an, cn, rs, rfl, hrn, hrl, hcn, hrs⟩, ⟨al, cl, rfl, hrl', hcl⟩, ⟨ay, cs, rfl, hrs', hcs⟩⟩ := hv
  obtain ⟨hm1, hm2, hm3, hm4, hm5⟩ := hsm
  obtain ⟨C, hC⟩ : ∃ C, C = cellsD d (.slice an d.next.length cn) (.slice al d.label.length cl) (.slice ay d.names.length cs) := ⟨_, rfl⟩
  have hCl : C.length = 260 := by rw [hC]; exact cellsD_len hof _ _ _
  have hCw : C[256]? = some (.int .i64 d.width) := by rw [hC]; exact cellsD_w hof _ _ _
  have hCn : C[257]? = some (.slice an d.next.length cn) := by rw [hC]; exact cellsD_n hof _ _ _
  have hCx : C[258]? = some (.slice al d.label.length cl) := by rw [hC]; exact cellsD_l hof _ _ _
  have hCs : C[259]? = some (.slice ay d.names.length cs) := by rw [hC]; exact cellsD_s hof _ _ _
  rw [← hC]
  refine FnT.body tok [0, 1, 2, 3, 4, 5, 7, 12, 13, 14, 15, 42, 43, 44, 45, 46, 55] Try.func26 rfl (by kernel_rfl) (by kernel_rfl) (by show _ ≤ 58; simp) fun hsep => ?_
  rw [Try.results26]
  have hsE := hsep
  try simp only [zzs] at hsE
  repeat (obtain ⟨hsx, hsE⟩ := hsE)
  repeat' first
    | (with_reducible first | refine Nx.go ?_ | refine Bk.go (fun _ => ?_) fun _ => ?_)
    | (with_reducible refine NewB.mk2 fun nb hnb hnb1 hnb2 => ?_; try simp only [zzn] at hnb2)
    | simp -dsimp -implicitDefEqProofs (disch := first | assumption | (simp only [zzm]; done) | omega | (try with_reducible refine Row.adr (by assumption) ?_); simp only [zzl, Nat.reduceAdd]; first | done | omega) only [go_sem, ↓reduceIte, seval, -List.reduceReplicate, List.toList_toArray, hCl, hCw, hCn, hCx, hCs]
  refine Tri.loopU tok [0, 1, 2, 3, 4, 5, 7, 12, 13, 14, 15, 42, 43, 44, 45, 46, 55] (by kernel_rfl) [1, 2, 3, 12, 13, 14] (fun q G' fr H' => ∃ s : Nat, s + q = d.next.length ∧ (∀ j, j < s → rowOk d j) ∧ G' = G ∧ H' = (nb, .cells C [] 27) :: H ∧ fr = [(1, .pointer (some ⟨nb, 0, none⟩)), (2, .bool false), (3, .int .i64 d.label.length), (12, .slice an d.next.length cn), (13, .int .i64 d.next.length), (14, .int .i64 s)]) (d.next.length) ?_ ?_
  · exact Upd.now ⟨0, by omega, fun j h => by omega, rfl, rfl, rfl⟩
  · rintro q G1 fr H' hle hs ⟨s, hi, hno, rfl, rfl, rfl⟩
    have hsE := hs
    try simp only [zzs] at hsE
    repeat (obtain ⟨hsx, hsE⟩ := hsE)
    by_cases hsl : s < d.next.length
    · have hsv : s < rs.length := by omega
      have hsL : s < d.label.length := by omega
      obtain ⟨b, c, e1, e2, e3⟩ := hrs s hsl hsv
      have hrm := hm2 _ (List.getElem_mem hsl)
      have had : Adr an := hrn.adr (by omega)
      have had2 : Adr al := hrl'.adr (by rw [List.length_map]; omega)
      repeat' first
        | (with_reducible first | refine Nx.go ?_ | refine Bk.go (fun _ => ?_) fun _ => ?_)
        | (with_reducible refine NewB.mk2 fun nb hnb hnb1 hnb2 => ?_; try simp only [zzn] at hnb2)
        | with_reducible refine Tri.drawM tok mixed [0, 1, 2, 3, 4, 5, 7, 12, 13, 14, 15, 42, 43, 44, 45, 46, 55] 5 [3, 7, 10, 15, 18, 20] (.op 0 .plain (.op 1 .plain (.op 2 .plain (.op 3 .held (.op 4 .plain (.op 5 .plain (.op 6 .plain (.op 7 .held (.op 8 .plain (.op 9 .plain (.op 10 .held (.op 11 .plain (.op 12 .plain (.op 13 .plain (.op 14 .plain (.op 15 .held (.op 16 .plain (.op 17 .plain (.op 18 .held (.op 19 .plain (.op 20 .held (.op 21 .plain (.op 22 .plain (.op 23 .plain .nil)))))))))))))))))))))))) (by kernel_rfl) _ (List.Sublist.refl _) ?_
        | simp -dsimp -implicitDefEqProofs (disch := first | assumption | (simp only [zzm]; done) | omega | (try with_reducible refine Row.adr (by assumption) ?_); simp only [zzl, Nat.reduceAdd]; first | done | omega) only [go_sem, ↓reduceIte, seval, -List.reduceReplicate, List.toList_toArray, hCl, hCw, hCn, hCx, hCs, Row.obj hrn, e1, Row.obj hrl', List.getElem_map]
      all_goals try (
        rw [boolOf_no (p := rowsOk d) fun h => by
          obtain ⟨r1, r2, r3, r4⟩ := h s hsl hsL
          omega] at hR
        exact Upd.finL (by intro fsum; first | exact Nat.le_refl _ | (simp only [zzq]; omega)) hR rfl)
      obtain ⟨row, hrow⟩ : ∃ row, row = d.next[s] := ⟨_, rfl⟩
      have hrw : (row.length : Int) = d.width ∧ 0 ≤ d.label[s] ∧ d.label[s] ≤ d.names.length := by rw [hrow]; omega
      rw [← hrow] at e2 e3 hrm ⊢
      refine Tri.loopU tok [0, 1, 2, 3, 4, 5, 7, 12, 13, 14, 15, 42, 43, 44, 45, 46, 55] (by kernel_rfl) [1, 2, 3, 12, 13, 14, 43, 44, 45] (fun q2 G' fr H' => ∃ k : Nat, k + q2 = row.length ∧ (∀ j (h : j < row.length), j < k → 0 ≤ row[j] ∧ row[j] < d.label.length) ∧ G' = G1 ∧ H' = (nb, .cells C [] 27) :: H ∧ fr = [(1, .pointer (some ⟨nb, 0, none⟩)), (2, .bool false), (3, .int .i64 d.label.length), (12, .slice an d.next.length cn), (13, .int .i64 d.next.length), (14, .int .i64 s), (43, .slice b row.length c), (44, .int .i64 row.length), (45, .int .i64 k)]) (row.length) ?_ ?_
      · exact Upd.now ⟨0, by omega, fun j _ h => by omega, rfl, rfl, rfl⟩
      · rintro q2 G2 fr H' hle2 hs2 ⟨k, hk, hno2, rfl, rfl, rfl⟩
        by_cases hkl : k < row.length
        · have had3 : Adr b := e2.adr (by rw [List.length_map]; omega)
          repeat' first
            | (with_reducible first | refine Nx.go ?_ | refine Bk.go (fun _ => ?_) fun _ => ?_)
            | (with_reducible refine NewB.mk2 fun nb hnb hnb1 hnb2 => ?_; try simp only [zzn] at hnb2)
            | simp -dsimp -implicitDefEqProofs (disch := first | assumption | (simp only [zzm]; done) | omega | (try with_reducible refine Row.adr (by assumption) ?_); simp only [zzl, Nat.reduceAdd]; first | done | omega) only [go_sem, ↓reduceIte, seval, -List.reduceReplicate, Row.obj e2, List.getElem_map]
          all_goals first
            | (rw [boolOf_no (p := rowsOk d) fun h => by
                obtain ⟨r1, r2, r3, r4⟩ := h s hsl hsL
                have := r4 row[k] (by rw [← hrow]; exact List.getElem_mem hkl)
                omega] at hR
               exact Upd.finL (by intro fsum; first | exact Nat.le_refl _ | (simp only [zzq]; omega)) hR rfl)
            | exact Upd.now ⟨q2 - 1, by omega, k + 1, by omega, fun j h hj => by
                by_cases e : j = k
                · subst e; omega
                · exact hno2 j h (by omega), rfl, rfl, rfl⟩
        · obtain rfl : k = row.length := by omega
          repeat' first
            | (with_reducible first | refine Nx.go ?_ | refine Bk.go (fun _ => ?_) fun _ => ?_)
            | (with_reducible refine NewB.mk2 fun nb hnb hnb1 hnb2 => ?_; try simp only [zzn] at hnb2)
            | simp -dsimp -implicitDefEqProofs (disch := first | assumption | (simp only [zzm]; done) | omega | (try with_reducible refine Row.adr (by assumption) ?_); simp only [zzl, Nat.reduceAdd]; first | done | omega) only [go_sem, ↓reduceIte, seval, -List.reduceReplicate]
          exact Upd.now ⟨q - 1, by omega, s + 1, by omega, fun j hj => by
            by_cases e : j = s
            · subst e
              exact fun h1 h2 => ⟨by rw [← hrow]; omega, by omega, by omega, fun t ht => by
                rw [← hrow] at ht
                obtain ⟨j, hj, rfl⟩ := List.getElem_of_mem ht
                exact hno2 j hj hj⟩
            · exact hno j (by omega), rfl, rfl, rfl⟩
    · obtain rfl : s = d.next.length := by omega
      rw [boolOf_yes (p := rowsOk d) fun s => by
        rcases Nat.lt_or_ge s d.next.length with h | h
        · exact hno s h
        · exact fun h2 => by omega] at hR
      repeat' first
        | (with_reducible first | refine Nx.go ?_ | refine Bk.go (fun _ => ?_) fun _ => ?_)
        | (with_reducible refine NewB.mk2 fun nb hnb hnb1 hnb2 => ?_; try simp only [zzn] at hnb2)
        | simp -dsimp -implicitDefEqProofs (disch := first | assumption | (simp only [zzm]; done) | omega | (try with_reducible refine Row.adr (by assumption) ?_); simp only [zzl, Nat.reduceAdd]; first | done | omega) only [go_sem, ↓reduceIte, seval, -List.reduceReplicate]
      all_goals refine Upd.finL ?_ hR ?_
      any_goals (intro fsum; first | exact Nat.le_refl _ | (simp only [zzq]; omega))
      rfl
end Go.Proofs.Ytdeableflgakdaa
namespace Go.Proofs.Ytdeableflgakdaa
open Go Go.V Go.Proofs
def RightP (d : DfaT) : Prop := 1 ≤ d.label.length ∧ d.label.length ≤ 65536 ∧ d.next.length = d.label.length ∧ nums d.of = d.of ∧ ((tabO d.of).length : Int) = d.width ∧ namesOk d.names ∧ rowsOk d
structure OpenD (G : PHeap) (d : DfaT) (C : List Value) (an al ay : Option Addr) (cn cl cs : Nat) (rs : List Value) : Prop where
 len : C.length = 260
 w : C[256]? = some (.int .i64 d.width)
 n : C[257]? = some (.slice an d.next.length cn)
 l : C[258]? = some (.slice al d.label.length cl)
 s : C[259]? = some (.slice ay d.names.length cs)
 of : C.take 256 = u8L d.of
 all : C.take 260 = C
 is : IsD G d (.agg C.toArray)
 ofl : d.of.length = 256
 ofb : ∀ x ∈ d.of, 0 ≤ x ∧ x ≤ 255
 rn : Row G an rs
 rnl : rs.length = d.next.length
 rnc : d.next.length ≤ cn
 rs : ∀ i (h : i < d.next.length) (h2 : i < rs.length), ∃ b c, rs[i] = .slice b d.next[i].length c ∧ Row G b (d.next[i].map (Value.int .i64)) ∧ d.next[i].length ≤ c
 rl : Row G al (d.label.map (Value.int .i64))
 rlc : d.label.length ≤ cl
 ry : Row G ay (d.names.map str)
 ryc : d.names.length ≤ cs
theorem IsD.opened {G : PHeap} {d : DfaT} {v : Value} (h : IsD G d v) : ∃ C an al ay cn cl cs rs, v = .agg (List.toArray C) ∧ OpenD G d C an al ay cn cl cs rs := by
 have h0 := h
 obtain ⟨hof, hofb, vn, vl, vs, rfl, ⟨an, cn, rs, rfl, hrn, hrl, hcn, hrs⟩, ⟨al, cl, rfl, hrl', hcl⟩, ⟨ay, cs, rfl, hrs', hcs⟩⟩ := h
 exact ⟨_, an, al, ay, cn, cl, cs, rs, rfl, cellsD_len hof _ _ _, cellsD_w hof _ _ _, cellsD_n hof _ _ _, cellsD_l hof _ _ _, cellsD_s hof _ _ _, cellsD_of hof _ _ _, cellsD_all hof _ _ _, h0, hof, hofb, hrn, hrl, hcn, hrs, hrl', hcl, hrs', hcs⟩
theorem OpenD.mono {G G' : PHeap} (hle : PLe G G') {d : DfaT} {C : List Value} {an al ay : Option Addr} {cn cl cs : Nat} {rs : List Value} (h : OpenD G d C an al ay cn cl cs rs) : OpenD G' d C an al ay cn cl cs rs :=
 ⟨h.len, h.w, h.n, h.l, h.s, h.of, h.all, h.is.mono hle, h.ofl, h.ofb, h.rn.mono hle, h.rnl, h.rnc, fun i h1 h2 => by
  obtain ⟨b, c, e1, e2, e3⟩ := h.rs i h1 h2
  exact ⟨b, c, e1, e2.mono hle, e3⟩, h.rl.mono hle, h.rlc, h.ry.mono hle, h.ryc⟩
theorem OpenD.label {G : PHeap} {d : DfaT} {C : List Value} {an al ay : Option Addr} {cn cl cs : Nat} {rs : List Value} (h : OpenD G d C an al ay cn cl cs rs) : Sl G (Value.int .i64) (.slice al d.label.length cl) d.label := ⟨al, cl, rfl, h.rl, h.rlc⟩
theorem OpenD.names {G : PHeap} {d : DfaT} {C : List Value} {an al ay : Option Addr} {cn cl cs : Nat} {rs : List Value} (h : OpenD G d C an al ay cn cl cs rs) : Sl G str (.slice ay d.names.length cs) d.names := ⟨ay, cs, rfl, h.ry, h.ryc⟩
theorem OpenD.get {G : PHeap} {d : DfaT} {C : List Value} {an al ay : Option Addr} {cn cl cs : Nat} {rs : List Value} (h : OpenD G d C an al ay cn cl cs rs) (i : Nat) : C[i]? = C[i]? := rfl
theorem right_t {d : DfaT} (hsm : SmallD d) {G : PHeap} {H : Heap} {R : Value → PHeap → Heap → Prop} {v : Value} (hv : IsD G d v) (hR : R (.bool (boolOf (RightP d))) G H) : FnT Try.prog 7 [v] G H R := by
 obtain ⟨C, an, al, ay, cn, cl, cs, rs, rfl, O⟩ := hv.opened
 obtain ⟨hm1, hm2, hm3, hm4, hm5⟩ := id hsm
 have hCl := O.len
 have hCw := O.w
 have hCn := O.n
 have hCx := O.l
 have hCs := O.s
 have hCo := O.of
 have hCa := O.all
 by_cases h1 : 1 ≤ d.label.length ∧ d.label.length ≤ 65536 ∧ d.next.length = d.label.length
 ·obtain ⟨h1a, h1b, h1c⟩ := h1
  refine FnT.body tok [0, 1, 2, 3] Try.func7 rfl (by kernel_rfl) (by kernel_rfl) (by show _ ≤ 36; simp) fun hsep => ?_
  rw [Try.results7]
  have hsE := hsep
  try simp only [zzs] at hsE
  repeat (obtain ⟨hsx, hsE⟩ := hsE)
  repeat' first
   | (with_reducible first | refine Nx.go ?_ | refine Bk.go (fun _ => ?_) fun _ => ?_)
   | (with_reducible refine NewB.mk2 fun nb hnb hnb1 hnb2 => ?_; try simp only [zzn] at hnb2)
   | simp -dsimp -implicitDefEqProofs (disch := first | assumption | (simp only [zzm]; done) | omega | (try with_reducible refine Row.adr (by assumption) ?_); simp only [zzl, Nat.reduceAdd]; first | done | omega) only [go_sem, ↓reduceIte, seval, -List.reduceReplicate, List.toList_toArray, hCl, hCw, hCn, hCx, hCs, hCo, hCa]
   | with_reducible refine pright_t O.ofl d.width ?_
   | with_reducible refine names_t d.names hm4 hm5 O.names ?_
   | with_reducible refine rows_t hsm h1c O.is ?_
  ·rename_i hp hq
   refine Upd.finL (by intro fsum; first | exact Nat.le_refl _ | (simp only [zzq]; omega)) hR ?_
   rw [Bool.and_eq_true, decide_eq_true_eq, decide_eq_true_eq] at hp
   simp only [Value.bool.injEq]
   rw [Bool.eq_iff_iff, boolOf_iff, boolOf_iff]
   exact ⟨fun h => ⟨h1a, h1b, h1c, hp.1, hp.2, boolOf_iff.1 hq, h⟩, fun h => h.2.2.2.2.2.2⟩
  ·rename_i hp hq
   rw [boolOf_no fun h => by rw [boolOf_yes h.2.2.2.2.2.1] at hq; cases hq] at hR
   all_goals refine Upd.finL ?_ hR ?_
   any_goals (intro fsum; first | exact Nat.le_refl _ | (simp only [zzq]; omega))
   rfl
  ·rename_i hp
   rw [boolOf_no fun h => by rw [decide_eq_true h.2.2.2.1, decide_eq_true h.2.2.2.2.1] at hp; cases hp] at hR
   all_goals refine Upd.finL ?_ hR ?_
   any_goals (intro fsum; first | exact Nat.le_refl _ | (simp only [zzq]; omega))
   rfl
 ·rw [boolOf_no fun h => h1 ⟨h.1, h.2.1, h.2.2.1⟩] at hR
  refine FnT.body tok [0, 1, 2, 3] Try.func7 rfl (by kernel_rfl) (by kernel_rfl) (by show _ ≤ 36; simp) fun hsep => ?_
  rw [Try.results7]
  have hsE := hsep
  try simp only [zzs] at hsE
  repeat (obtain ⟨hsx, hsE⟩ := hsE)
  repeat' first
   | (with_reducible first | refine Nx.go ?_ | refine Bk.go (fun _ => ?_) fun _ => ?_)
   | (with_reducible refine NewB.mk2 fun nb hnb hnb1 hnb2 => ?_; try simp only [zzn] at hnb2)
   | simp -dsimp -implicitDefEqProofs (disch := first | assumption | (simp only [zzm]; done) | omega | (try with_reducible refine Row.adr (by assumption) ?_); simp only [zzl, Nat.reduceAdd]; first | done | omega) only [go_sem, ↓reduceIte, seval, -List.reduceReplicate, List.toList_toArray, hCl, hCw, hCn, hCx, hCs, hCo, hCa]
  all_goals try (exfalso; omega)
  all_goals refine Upd.finL ?_ hR ?_
  any_goals (intro fsum; first | exact Nat.le_refl _ | (simp only [zzq]; omega))
  all_goals rfl
end Go.Proofs.Ytdeableflgakdaa
namespace Go.Proofs.Ytdeableflgakdaa
open Go Go.V Go.Proofs
def headsM (m : List Int) : List Int := (tabO m).map (findF m)
theorem mem_take_of {m : List Int} {i k : Nat} (h3 : i < k) (hk : k ≤ m.length) : m[i]'(by omega) ∈ m.take k := by
 rw [List.mem_iff_getElem]
 exact ⟨i, by rw [List.length_take]; omega, by rw [List.getElem_take]⟩
theorem nums_take_get {m : List Int} {i : Nat} (h : i < m.length) : (nums m)[i]'(by rw [nums_len]; exact h) = findF (tabO (m.take (i + 1))) m[i] := by
 have key : ∀ k, i < k → k ≤ m.length → findF (tabO (m.take k)) m[i] = findF (tabO (m.take (i + 1))) m[i] := fun k => by
  induction k with
  | zero => intro h1; omega
  | succ k ih =>
   intro h1 h2
   rcases Nat.lt_or_ge i k with h3 | h3
   ·rw [← ih h3 (by omega), List.take_succ_eq_append_getElem (by omega), tabO_snoc]
    split
    ·rfl
    ·exact findF_app ((mem_tabO _).2 (mem_take_of h3 (by omega))) _
   ·obtain rfl : k = i := by omega
    rfl
 rw [nums_get h, ← key m.length h (Nat.le_refl _), List.take_length]
theorem new_iff {m : List Int} {i : Nat} (h : i < m.length) : (nums m)[i]'(by rw [nums_len]; exact h) = ((tabO (m.take i)).length : Int) ↔ m[i] ∉ m.take i := by
 rw [nums_take_get h, List.take_succ_eq_append_getElem h]
 constructor
 ·intro e hm
  obtain ⟨n, hn⟩ := place_mem ((mem_tabO _).2 hm)
  rw [(nums_old hn).1, findF_some hn] at e
  have := (place_some hn).1
  omega
 ·intro hm
  have hp := place_no fun h => hm ((mem_tabO _).1 h)
  rw [(nums_new hp).1, findF_some (place_end (place_none hp))]
theorem heads_t {m : List Int} (hlen : m.length ≤ 2000000) {G : PHeap} {H : Heap} {R : Value → PHeap → Heap → Prop} {v : Value} (hv : Sl G (Value.int .i64) v (nums m))
  (hR : ∀ G' v', PLe G G' → Sep G' (keys H) → Sl G' (Value.int .i64) v' (headsM m) → R v' G' H) : FnT Try.prog 49 [v] G H R := by
 obtain ⟨a, cap, rfl, hrow, hcap⟩ := hv
 have hnl := nums_len m
 rw [hnl] at hcap ⊢
 refine FnT.sep ?_
 refine FnT.body tok [0, 2, 3, 4, 5, 6, 7, 8, 9, 16] Try.func49 rfl (by kernel_rfl) (by kernel_rfl) (by show _ ≤ 23; simp) fun hsep => ?_
 rw [Try.results49]
 have hsE := hsep
 try simp only [zzs] at hsE
 repeat (obtain ⟨hsx, hsE⟩ := hsE)
 repeat' first
  | (with_reducible first | refine Nx.go ?_ | refine Bk.go (fun _ => ?_) fun _ => ?_)
  | ((with_reducible first | refine NewB.mk2 fun nb hnb hnb1 hnb2 => ?_ | refine NewRow.mk2 fun nb nsp ncap hnb hncap hnb1 hnb2 => ?_); try simp only [zzn] at hnb2)
  | simp -dsimp -implicitDefEqProofs (disch := first | assumption | (simp only [zzm]; done) | omega | (try with_reducible refine Row.adr (by assumption) ?_); simp only [zzl, Nat.reduceAdd]; first | done | omega) only [go_sem, ↓reduceIte, seval]
 refine Tri.loopU tok [0, 2, 3, 4, 5, 6, 7, 8, 9, 16] (by kernel_rfl) [0, 2, 3, 6, 7, 8] (fun q G' fr H' => ∃ (i : Nat) (v : Value) (kb : Heap), i + q = m.length ∧ G' = G ∧ SliceO [] 3 1 v (tabO (m.take i)).length (((tabO (m.take i)).map (findF m)).map (Value.int .i64)) kb ∧ H' = kb ++ H ∧ fr = [(0, .slice a m.length cap), (2, .slice none 0 0), (3, v), (6, .slice a m.length cap), (7, .int .i64 m.length), (8, .int .i64 i)]) (m.length) ?_ ?_
 ·exact Upd.now ⟨0, _, [], by omega, rfl, .inl ⟨none, rfl, rfl, rfl, rfl⟩, rfl, rfl⟩
 ·rintro q G1 fr H' hle hs ⟨i, v, kb, hi, rfl, hv, rfl, rfl⟩
  have htl := tabO_len (m.take i)
  rw [List.length_take] at htl
  by_cases hil : i < m.length
  ·have had : Adr a := hrow.adr (by rw [List.length_map, hnl]; omega)
   have hin : i < (nums m).length := by omega
   have htk := List.take_succ_eq_append_getElem hil
   have hni := new_iff hil
   by_cases hnew : m[i] ∈ m.take i
   ·have hno : (nums m)[i] ≠ ((tabO (m.take i)).length : Int) := fun e => (hni.1 e) hnew
    have ht : tabO (m.take (i + 1)) = tabO (m.take i) := by rw [htk, tabO_snoc, if_pos ((mem_tabO _).2 hnew)]
    rcases hv with ⟨a0, rfl, hn, hx, rfl⟩ | ⟨b2, c2, sp, rfl, rfl, hx, hc⟩
    ·have : m[i] ∈ tabO (m.take i) := (mem_tabO _).2 hnew
     rw [List.eq_nil_of_length_eq_zero hn] at this; cases this
    ·have hsE := hs
     try simp only [zzs] at hsE
     repeat (obtain ⟨hsx, hsE⟩ := hsE)
     repeat' first
      | (with_reducible first | refine Nx.go ?_ | refine Bk.go (fun _ => ?_) fun _ => ?_)
      | ((with_reducible first | refine NewB.mk2 fun nb hnb hnb1 hnb2 => ?_ | refine NewRow.mk2 fun nb nsp ncap hnb hncap hnb1 hnb2 => ?_); try simp only [zzn] at hnb2)
      | simp -dsimp -implicitDefEqProofs (disch := first | assumption | (simp only [zzm]; done) | omega | (try with_reducible refine Row.adr (by assumption) ?_); simp only [zzl, Nat.reduceAdd]; first | done | omega) only [go_sem, ↓reduceIte, seval, Row.obj hrow, List.getElem_map, List.length_map, hnl]
     exact Upd.now ⟨q - 1, by omega, i + 1, _, [(b2, .cells (((tabO (m.take (i + 1))).map (findF m)).map (Value.int .i64)) sp 3)], by omega, rfl, .inr ⟨b2, c2, sp, by rw [ht], rfl, by rw [ht]; exact hx, by rw [ht]; exact hc⟩, by rw [ht]; rfl, rfl⟩
   ·have hyes := hni.2 hnew
    have hp := place_no fun h => hnew ((mem_tabO _).1 h)
    have ht : tabO (m.take (i + 1)) = tabO (m.take i) ++ [m[i]] := by rw [htk]; exact (nums_new hp).1
    obtain ⟨p, hpp, _, _, hpn⟩ := place_first hil
    obtain rfl : p = i := hpn.2 hnew
    have hce : ((tabO (m.take (p + 1))).map (findF m)).map (Value.int .i64) = ((tabO (m.take p)).map (findF m)).map (Value.int .i64) ++ [Value.int .i64 p] := by rw [ht, List.map_append, List.map_append, List.map_singleton, findF_some hpp]; rfl
    have hcl : (tabO (m.take (p + 1))).length = (tabO (m.take p)).length + 1 := by rw [ht, List.length_append]; rfl
    rcases hv with ⟨a0, rfl, hn, hx, rfl⟩ | ⟨b2, c2, sp, rfl, rfl, hx, hc⟩
    ·have hsE := hs
     try simp only [zzs] at hsE
     repeat (obtain ⟨hsx, hsE⟩ := hsE)
     repeat' first
      | (with_reducible first | refine Nx.go ?_ | refine Bk.go (fun _ => ?_) fun _ => ?_)
      | ((with_reducible first | refine NewB.mk2 fun nb hnb hnb1 hnb2 => ?_ | refine NewRow.mk2 fun nb nsp ncap hnb hncap hnb1 hnb2 => ?_); try simp only [zzn] at hnb2)
      | simp -dsimp -implicitDefEqProofs (disch := first | assumption | (simp only [zzm]; done) | omega | (try with_reducible refine Row.adr (by assumption) ?_); simp only [zzl, Nat.reduceAdd]; first | done | omega) only [go_sem, ↓reduceIte, seval, Row.obj hrow, List.getElem_map, List.length_map, hnl, hyes, hn]
     rw [hx, List.nil_append] at hce
     rw [← hce]
     exact Upd.go (H' := (nb, .cells (((tabO (m.take (p + 1))).map (findF m)).map (Value.int .i64)) nsp 3) :: H) (by intro fsum; first | exact Nat.le_refl _ | (simp only [zzq]; omega)) (Upd.now ⟨q - 1, by omega, p + 1, .slice (some ⟨nb, 0, none⟩) (tabO (m.take (p + 1))).length ncap, [(nb, .cells (((tabO (m.take (p + 1))).map (findF m)).map (Value.int .i64)) nsp 3)], by omega, rfl, .inr ⟨nb, ncap, nsp, rfl, rfl, by rw [List.length_map, List.length_map]; omega, by rw [List.length_map, List.length_map]; simp at hncap ⊢; omega⟩, rfl, by rw [hcl, hn]; rfl⟩)
    ·have hsE := hs
     try simp only [zzs] at hsE
     repeat (obtain ⟨hsx, hsE⟩ := hsE)
     repeat' first
      | (with_reducible first | refine Nx.go ?_ | refine Bk.go (fun _ => ?_) fun _ => ?_)
      | ((with_reducible first | refine NewB.mk2 fun nb hnb hnb1 hnb2 => ?_ | refine NewRow.mk2 fun nb nsp ncap hnb hncap hnb1 hnb2 => ?_); try simp only [zzn] at hnb2)
      | simp -dsimp -implicitDefEqProofs (disch := first | assumption | (simp only [zzm]; done) | omega | (try with_reducible refine Row.adr (by assumption) ?_); simp only [zzl, Nat.reduceAdd]; first | done | omega) only [go_sem, ↓reduceIte, seval, Row.obj hrow, List.getElem_map, List.length_map, hnl, hyes]
     rw [← hce]
     exact Upd.go (H' := (nb, .cells (((tabO (m.take (p + 1))).map (findF m)).map (Value.int .i64)) nsp 3) :: H) (by intro fsum; first | exact Nat.le_refl _ | (simp only [zzq]; omega)) (Upd.now ⟨q - 1, by omega, p + 1, .slice (some ⟨nb, 0, none⟩) (tabO (m.take (p + 1))).length ncap, [(nb, .cells (((tabO (m.take (p + 1))).map (findF m)).map (Value.int .i64)) nsp 3)], by omega, rfl, .inr ⟨nb, ncap, nsp, rfl, rfl, by rw [List.length_map, List.length_map]; omega, by rw [List.length_map, List.length_map]; simp at hncap ⊢; omega⟩, rfl, by rw [hcl]; rfl⟩)
  ·obtain rfl : i = m.length := by omega
   rw [List.take_length] at hv
   repeat' first
    | (with_reducible first | refine Nx.go ?_ | refine Bk.go (fun _ => ?_) fun _ => ?_)
    | ((with_reducible first | refine NewB.mk2 fun nb hnb hnb1 hnb2 => ?_ | refine NewRow.mk2 fun nb nsp ncap hnb hncap hnb1 hnb2 => ?_); try simp only [zzn] at hnb2)
    | simp -dsimp -implicitDefEqProofs (disch := first | assumption | (simp only [zzm]; done) | omega | (try with_reducible refine Row.adr (by assumption) ?_); simp only [zzl, Nat.reduceAdd]; first | done | omega) only [go_sem, ↓reduceIte, seval]
   unfold UpdR
   refine Upd.go (H' := kb ++ H) (by intro fsum; first | exact Nat.le_refl _ | (simp only [zzq]; omega)) ?_
   rcases hv with ⟨a0, rfl, hn, hx, rfl⟩ | ⟨b2, c2, sp, rfl, rfl, hx, hc⟩
   ·refine Upd.now ?_
    have hh : headsM m = [] := by unfold headsM; rw [List.eq_nil_of_length_eq_zero hn]; rfl
    exact fun hle hs => hR _ _ (PLe.refl _) hs ⟨a0, 0, by rw [hh]; rfl, by rw [hh]; exact Row.nil _ _, by rw [hh]; exact Nat.le_refl _⟩
   ·have hsE := hs
    try simp only [zzs] at hsE
    repeat (obtain ⟨hsx, hsE⟩ := hsE)
    refine Upd.shareRow (by assumption) fun G2 hle2 hs2 hr2 => ?_
    exact fun hle hs => hR _ _ hle2 hs ⟨some ⟨b2, 0, none⟩, c2, by unfold headsM; rw [List.length_map], hr2, by unfold headsM; rw [List.length_map] at hx hc ⊢; rw [List.length_map] at hx hc; omega⟩
end Go.Proofs.Ytdeableflgakdaa
namespace Go.Proofs.Ytdeableflgakdaa
open Go Go.V Go.Proofs
def atL (l : List Int) (x : Int) : Int := l.getD x.toNat 0
theorem atL_get {l : List Int} {x : Int} (h : x.toNat < l.length) : atL l x = l[x.toNat] := by unfold atL; rw [List.getD_eq_getElem?_getD, List.getElem?_eq_getElem h]; rfl
theorem samef_t {L : List Int} {a : Option Addr} {cap b1 : Nat} {x y : Int} (hx : 0 ≤ x ∧ x < L.length) (hy : 0 ≤ y ∧ y < L.length) {G : PHeap} {H : Heap} {R : Value → PHeap → Heap → Prop} (hrow : Row G a (L.map (Value.int .i64)))
  (hg1 : G b1 = none) (hf : findH H b1 = some (.cells [.slice a L.length cap] [] 24)) (hR : R (.bool (decide (atL L x = atL L y))) G H) : FnT Try.prog 73 [.int .i64 x, .int .i64 y, .pointer (some ⟨b1, 0, none⟩)] G H R := by
 obtain ⟨i, rfl⟩ := Int.eq_ofNat_of_zero_le hx.1
 obtain ⟨j, rfl⟩ := Int.eq_ofNat_of_zero_le hy.1
 have hi : i < L.length := by omega
 have hj : j < L.length := by omega
 rw [atL_get (by simpa using hi), atL_get (by simpa using hj)] at hR
 simp only [Int.toNat_natCast] at hR
 have had : Adr a := hrow.adr (by rw [List.length_map]; omega)
 refine FnT.body tok [0, 1, 2, 5] Try.func73 rfl (by kernel_rfl) (by kernel_rfl) (by show _ ≤ 15; simp) fun hsep => ?_
 rw [Try.results73]
 have hsE := hsep
 try simp only [zzs] at hsE
 repeat (obtain ⟨hsx, hsE⟩ := hsE)
 repeat' first
  | (with_reducible first | refine Nx.go ?_ | refine Bk.go (fun _ => ?_) fun _ => ?_)
  | with_reducible refine Tri.drawM tok mixed [0, 1, 2, 5] 1 [0, 3, 4, 7] (.op 0 .held (.op 1 .plain (.op 2 .plain (.op 3 .held (.op 4 .held (.op 5 .plain (.op 6 .plain (.op 7 .held (.op 8 .plain (.op 9 .plain .nil)))))))))) (by kernel_rfl) _ (List.Sublist.refl _) ?_
  | simp -dsimp -implicitDefEqProofs (disch := first | assumption | (simp only [zzm]; done) | omega | (try with_reducible refine Row.adr (by assumption) ?_); simp only [zzl, Nat.reduceAdd]; first | done | omega) only [go_sem, ↓reduceIte, seval, hf, Row.obj hrow, List.getElem_map]
 all_goals refine Upd.finL ?_ hR ?_
 any_goals (intro fsum; first | exact Nat.le_refl _ | (simp only [zzq]; omega))
 rfl
def sameRows (L xs ys : List Int) : Prop := ∃ h : xs.length = ys.length, ∀ k (hk : k < xs.length), atL L xs[k] = atL L (ys[k]'(h ▸ hk))
theorem eqf_t {L xs ys : List Int} (hlen : xs.length ≤ 2000000) (hxs : ∀ x ∈ xs, 0 ≤ x ∧ x < L.length) (hys : ∀ y ∈ ys, 0 ≤ y ∧ y < L.length) {a ax ay : Option Addr} {cap cx cy b1 : Nat} {G : PHeap} {H : Heap} {R : Value → PHeap → Heap → Prop} (hrow : Row G a (L.map (Value.int .i64)))
  (hrx : Row G ax (xs.map (Value.int .i64))) (hry : Row G ay (ys.map (Value.int .i64))) (hg1 : G b1 = none) (hf : findH H b1 = some (.cells [.slice a L.length cap] [] 24)) (hR : R (.bool (boolOf (sameRows L xs ys))) G H) : FnT Try.prog 74 [.slice ax xs.length cx, .slice ay ys.length cy, .func (.func 73) #[] #[.pointer (some ⟨b1, 0, none⟩)]] G H R := by
 by_cases hxy : xs.length = ys.length
 ·refine FnT.body tok [0, 1, 2, 6, 7, 8, 9, 14, 15, 16, 17, 18, 30] Try.func74 rfl (by kernel_rfl) (by kernel_rfl) (by show _ ≤ 32; simp) fun hsep => ?_
  rw [Try.results74]
  have hsE := hsep
  try simp only [zzs] at hsE
  repeat (obtain ⟨hsx, hsE⟩ := hsE)
  repeat' first
   | (with_reducible first | refine Nx.go ?_ | refine Bk.go (fun _ => ?_) fun _ => ?_)
   | (with_reducible refine NewB.mk2 fun nb hnb hnb1 hnb2 => ?_; try simp only [zzn] at hnb2)
   | simp -dsimp -implicitDefEqProofs (disch := first | assumption | (simp only [zzm]; done) | omega | (try with_reducible refine Row.adr (by assumption) ?_); simp only [zzl, Nat.reduceAdd]; first | done | omega) only [go_sem, ↓reduceIte, seval]
  all_goals try (exfalso; omega)
  refine Tri.loopU tok [0, 1, 2, 6, 7, 8, 9, 14, 15, 16, 17, 18, 30] (by kernel_rfl) [0, 1, 2, 6, 15, 16, 17] (fun n G' l H' => ∃ i : Nat, i + n = xs.length ∧ (∀ j (h : j < xs.length), j < i → atL L xs[j] = atL L (ys[j]'(hxy ▸ h))) ∧ G' = G ∧ H' = H ∧ l = [(0, .slice ax xs.length cx), (1, .slice ay ys.length cy), (2, .func (.func 73) #[] #[.pointer (some ⟨b1, 0, none⟩)]), (6, .bool false), (15, .slice ax xs.length cx), (16, .int .i64 xs.length), (17, .int .i64 i)]) (xs.length) (Upd.now ?_) ?_
  ·exact ⟨0, by omega, fun j _ h => by omega, rfl, rfl, rfl⟩
  ·rintro n G' l H' hle hs ⟨i, hi, hno, rfl, rfl, rfl⟩
   by_cases hil : i < xs.length
   ·have hil' : i < ys.length := by omega
    have hx := hxs _ (List.getElem_mem hil)
    have hy := hys _ (List.getElem_mem hil')
    have had : Adr ax := hrx.adr (by rw [List.length_map]; omega)
    have had2 : Adr ay := hry.adr (by rw [List.length_map]; omega)
    repeat' first
     | (with_reducible first | refine Nx.go ?_ | refine Bk.go (fun _ => ?_) fun _ => ?_)
     | (with_reducible refine NewB.mk2 fun nb hnb hnb1 hnb2 => ?_; try simp only [zzn] at hnb2)
     | simp -dsimp -implicitDefEqProofs (disch := first | assumption | (simp only [zzm]; done) | omega | (try with_reducible refine Row.adr (by assumption) ?_); simp only [zzl, Nat.reduceAdd]; first | done | omega) only [go_sem, ↓reduceIte, seval, Row.obj hrx, Row.obj hry, List.getElem_map]
     | with_reducible refine samef_t (cap := cap) hx hy hrow hg1 hf ?_
    ·rename_i he
     exact Upd.now ⟨n - 1, by omega, i + 1, by omega, fun j h hj => by
      by_cases e : j = i
      ·subst e; exact he
      ·exact hno j h (by omega), rfl, rfl, rfl⟩
    ·rename_i he
     rw [boolOf_no fun h => he (h.2 i hil)] at hR
     all_goals refine Upd.finL ?_ hR ?_
     any_goals (intro fsum; first | exact Nat.le_refl _ | (simp only [zzq]; omega))
     rfl
   ·obtain rfl : i = xs.length := by omega
    rw [boolOf_yes (p := sameRows L xs ys) ⟨hxy, fun k hk => hno k hk hk⟩] at hR
    repeat' first
     | (with_reducible first | refine Nx.go ?_ | refine Bk.go (fun _ => ?_) fun _ => ?_)
     | (with_reducible refine NewB.mk2 fun nb hnb hnb1 hnb2 => ?_; try simp only [zzn] at hnb2)
     | simp -dsimp -implicitDefEqProofs (disch := first | assumption | (simp only [zzm]; done) | omega | (try with_reducible refine Row.adr (by assumption) ?_); simp only [zzl, Nat.reduceAdd]; first | done | omega) only [go_sem, ↓reduceIte, seval]
    all_goals refine Upd.finL ?_ hR ?_
    any_goals (intro fsum; first | exact Nat.le_refl _ | (simp only [zzq]; omega))
    rfl
 ·rw [boolOf_no fun h => hxy h.1] at hR
  refine FnT.body tok [0, 1, 2, 6, 7, 8, 9, 14, 15, 16, 17, 18, 30] Try.func74 rfl (by kernel_rfl) (by kernel_rfl) (by show _ ≤ 32; simp) fun hsep => ?_
  rw [Try.results74]
  have hsE := hsep
  try simp only [zzs] at hsE
  repeat (obtain ⟨hsx, hsE⟩ := hsE)
  repeat' first
   | (with_reducible first | refine Nx.go ?_ | refine Bk.go (fun _ => ?_) fun _ => ?_)
   | (with_reducible refine NewB.mk2 fun nb hnb hnb1 hnb2 => ?_; try simp only [zzn] at hnb2)
   | simp -dsimp -implicitDefEqProofs (disch := first | assumption | (simp only [zzm]; done) | omega | (try with_reducible refine Row.adr (by assumption) ?_); simp only [zzl, Nat.reduceAdd]; first | done | omega) only [go_sem, ↓reduceIte, seval]
  all_goals try (exfalso; omega)
  all_goals refine Upd.finL ?_ hR ?_
  any_goals (intro fsum; first | exact Nat.le_refl _ | (simp only [zzq]; omega))
  rfl
end Go.Proofs.Ytdeableflgakdaa
namespace Go.Proofs.Ytdeableflgakdaa
open Go Go.V Go.Proofs
def stableP (d : DfaT) (m : List Int) : Prop := ∀ s t (hs : s < m.length) (h1 : s < d.label.length) (h2 : t < d.label.length) (h3 : s < d.next.length) (h4 : t < d.next.length), place m m[s] = some t → d.label[s] = d.label[t] ∧ sameRows (nums m) d.next[s] d.next[t]
theorem stable_t {d : DfaT} (hsm : SmallD d) (hok : RightP d) {m : List Int} (hm : m.length = d.label.length) {G : PHeap} {H : Heap} {R : Value → PHeap → Heap → Prop} {v w : Value} (hv : IsD G d v) (hw : Sl G (Value.int .i64) w (nums m))
  (hR : ∀ G', PLe G G' → Sep G' (keys H) → R (.bool (boolOf (stableP d m))) G' H) : FnT Try.prog 46 [v, w] G H R := by
 obtain ⟨C, an, al, ay, cn, cl, cs, rs, rfl, O⟩ := hv.opened
 obtain ⟨hm1, hm2, hm3, hm4, hm5⟩ := id hsm
 obtain ⟨hk1, hk2, hk3, hk4, hk5, hk6, hk7⟩ := id hok
 have hCl := O.len
 have hCn := O.n
 have hCx := O.l
 have hnl := nums_len m
 have hw0 := hw
 obtain ⟨a, cap, rfl, hrow, hcap⟩ := hw
 refine FnT.sep ?_
 refine FnT.body tok [0, 1, 2, 3, 4, 5, 6, 7, 8, 9, 13, 14, 15, 16, 49] Try.func46 rfl (by kernel_rfl) (by kernel_rfl) (by show _ ≤ 51; simp) fun hsep => ?_
 rw [Try.results46]
 have hsE := hsep
 try simp only [zzs] at hsE
 repeat (obtain ⟨hsx, hsE⟩ := hsE)
 repeat' first
  | (with_reducible first | refine Nx.go ?_ | refine Bk.go (fun _ => ?_) fun _ => ?_)
  | (with_reducible refine NewB.mk2 fun nb hnb hnb1 hnb2 => ?_; try simp only [zzn] at hnb2)
  | simp -dsimp -implicitDefEqProofs (disch := first | assumption | (simp only [zzm]; done) | omega | (try with_reducible refine Row.adr (by assumption) ?_); simp only [zzl, Nat.reduceAdd]; first | done | omega) only [go_sem, ↓reduceIte, seval, -List.reduceReplicate, List.toList_toArray, hCl, hCn, hCx]
 rename_i b2 hb20 hb21 hb22
 refine heads_t (by omega) hw0 fun G2 v2 hle2 hs2 hsl2 => ?_
 obtain ⟨ah, ch, rfl, hrh, hch⟩ := hsl2
 have hsE := hs2
 try simp only [zzs] at hsE
 repeat (obtain ⟨hsx, hsE⟩ := hsE)
 repeat' first
  | (with_reducible first | refine Nx.go ?_ | refine Bk.go (fun _ => ?_) fun _ => ?_)
  | (with_reducible refine NewB.mk2 fun nb hnb hnb1 hnb2 => ?_; try simp only [zzn] at hnb2)
  | simp -dsimp -implicitDefEqProofs (disch := first | assumption | (simp only [zzm]; done) | omega | (try with_reducible refine Row.adr (by assumption) ?_); simp only [zzl, Nat.reduceAdd]; first | done | omega) only [go_sem, ↓reduceIte, seval, -List.reduceReplicate, List.toList_toArray, hCl, hCn, hCx]
 have hhl : (headsM m).length = (tabO m).length := by unfold headsM; rw [List.length_map]
 refine Tri.loopU tok [0, 1, 2, 3, 4, 5, 6, 7, 8, 9, 13, 14, 15, 16, 49] (by kernel_rfl) [2, 3, 4, 5, 13, 14, 15] (fun q G' fr H' => ∃ s : Nat, s + q = d.next.length ∧ (∀ j t (hj : j < s) (hs : j < m.length) (h1 : j < d.label.length) (h2 : t < d.label.length) (h3 : j < d.next.length) (h4 : t < d.next.length), place m m[j] = some t → d.label[j] = d.label[t] ∧ sameRows (nums m) d.next[j] d.next[t]) ∧ G' = G2 ∧ H' = (nb, .cells [.slice a (nums m).length cap] [] 24) :: (b2, .cells C [] 27) :: H ∧ fr = [(2, .pointer (some ⟨b2, 0, none⟩)), (3, .pointer (some ⟨nb, 0, none⟩)), (4, .bool false), (5, .slice ah (headsM m).length ch), (13, .slice an d.next.length cn), (14, .int .i64 d.next.length), (15, .int .i64 s)]) (d.next.length) ?_ ?_
 ·exact Upd.now ⟨0, by omega, fun j t hj => by omega, rfl, rfl, rfl⟩
 ·rintro q G1 fr H' hle hs ⟨s, hi, hno, rfl, rfl, rfl⟩
  have hsE := hs
  try simp only [zzs] at hsE
  repeat (obtain ⟨hsx, hsE⟩ := hsE)
  by_cases hsl : s < d.next.length
  ·have hsv : s < rs.length := by have := O.rnl; omega
   have hsl2 : s < d.label.length := by omega
   have hsm' : s < m.length := by omega
   obtain ⟨b, c, e1, e2, e3⟩ := O.rs s hsl hsv
   obtain ⟨t, hpt, htl, ⟨htl2, hte⟩, _⟩ := place_first hsm'
   have htn : t < d.next.length := by omega
   have htv : t < rs.length := by have := O.rnl; omega
   have htl3 : t < d.label.length := by omega
   obtain ⟨b', c', f1, f2, f3⟩ := O.rs t htn htv
   obtain ⟨n, hn⟩ := place_mem ((mem_tabO m).2 (List.getElem_mem hsm'))
   obtain ⟨hn1, hn2⟩ := place_some hn
   rw [List.getElem?_eq_getElem hn1, Option.some.injEq] at hn2
   have hns : (nums m)[s]'(by omega) = (n : Int) := by rw [nums_get hsm', findF_some hn]
   have hht : (headsM m)[n]'(by omega) = (t : Int) := by simp only [headsM, List.getElem_map]; rw [hn2, findF_some hpt]
   have hnh : n < (headsM m).length := by omega
   have hrow2 := hrow.mono hle2
   have hrn2 := O.rn.mono hle2
   have hrl2 := O.rl.mono hle2
   have had : Adr an := O.rn.adr (by omega)
   have had2 : Adr al := O.rl.adr (by rw [List.length_map]; omega)
   have had3 : Adr a := hrow.adr (by rw [List.length_map]; omega)
   have had4 : Adr ah := hrh.adr (by rw [List.length_map]; omega)
   have hr1 := (hk7 s hsl hsl2).2.2.2
   have hr2 := (hk7 t htn htl3).2.2.2
   rw [← hm, ← hnl] at hr1 hr2
   repeat' first
    | (with_reducible first | refine Nx.go ?_ | refine Bk.go (fun _ => ?_) fun _ => ?_)
    | (with_reducible refine NewB.mk2 fun nb hnb hnb1 hnb2 => ?_; try simp only [zzn] at hnb2)
    | with_reducible refine Tri.drawM tok mixed [0, 1, 2, 3, 4, 5, 6, 7, 8, 9, 13, 14, 15, 16, 49] 7 [1, 4, 6, 9, 14, 17] (.op 0 .plain (.op 1 .held (.op 2 .plain (.op 3 .plain (.op 4 .held (.op 5 .plain (.op 6 .held (.op 7 .plain (.op 8 .plain (.op 9 .held (.op 10 .plain (.op 11 .plain (.op 12 .plain (.op 13 .plain (.op 14 .held (.op 15 .plain (.op 16 .plain (.op 17 .held (.op 18 .plain (.op 19 .keeps (.op 20 .plain (.op 21 .plain .nil)))))))))))))))))))))) (by kernel_rfl) _ (List.Sublist.refl _) ?_
    | simp -dsimp -implicitDefEqProofs (disch := first | assumption | (simp only [zzm]; done) | omega | (try with_reducible refine Row.adr (by assumption) ?_); simp only [zzl, Nat.reduceAdd]; first | done | omega) only [go_sem, ↓reduceIte, seval, -List.reduceReplicate, List.toList_toArray, hCl, hCn, hCx, Row.obj hrn2, e1, f1, Row.obj hrl2, Row.obj hrow2, Row.obj hrh, List.getElem_map, hns, hht]
    | with_reducible refine eqf_t (cap := cap) (hm2 _ (List.getElem_mem hsl)) hr1 hr2 hrow2 (e2.mono hle2) (f2.mono hle2) (by assumption) ?_ ?_
   ·rename_i he1 he2
    exact Upd.now ⟨q - 1, by omega, s + 1, by omega, fun j t' hj hs h1 h2 h3 h4 hp => by
     by_cases e : j = s
     ·subst e
      rw [hpt, Option.some.injEq] at hp
      subst hp
      exact ⟨he1, boolOf_iff.1 he2⟩
     ·exact hno j t' (by omega) hs h1 h2 h3 h4 hp, rfl, rfl, rfl⟩
   ·rename_i he1 he2
    have hfin : ¬ stableP d m := fun h => by
     rw [boolOf_yes (h s t hsm' hsl2 htl3 hsl htn hpt).2] at he2; cases he2
    unfold UpdR
    refine Upd.leave (H' := H) (by intro fsum; first | exact Nat.le_refl _ | (simp only [zzq]; omega)) ?_
    rw [boolOf_no hfin] at hR
    exact fun _ hs => hR _ hle2 hs
   ·rename_i he1
    have hfin : ¬ stableP d m := fun h => he1 (h s t hsm' hsl2 htl3 hsl htn hpt).1
    unfold UpdR
    refine Upd.leave (H' := H) (by intro fsum; first | exact Nat.le_refl _ | (simp only [zzq]; omega)) ?_
    rw [boolOf_no hfin] at hR
    exact fun _ hs => hR _ hle2 hs
  ·obtain rfl : s = d.next.length := by omega
   have hfin : stableP d m := fun s t hs h1 h2 h3 h4 hp => hno s t (by omega) hs h1 h2 h3 h4 hp
   repeat' first
    | (with_reducible first | refine Nx.go ?_ | refine Bk.go (fun _ => ?_) fun _ => ?_)
    | (with_reducible refine NewB.mk2 fun nb hnb hnb1 hnb2 => ?_; try simp only [zzn] at hnb2)
    | simp -dsimp -implicitDefEqProofs (disch := first | assumption | (simp only [zzm]; done) | omega | (try with_reducible refine Row.adr (by assumption) ?_); simp only [zzl, Nat.reduceAdd]; first | done | omega) only [go_sem, ↓reduceIte, seval, -List.reduceReplicate]
   unfold UpdR
   refine Upd.leave (H' := H) (by intro fsum; first | exact Nat.le_refl _ | (simp only [zzq]; omega)) ?_
   rw [boolOf_yes hfin] at hR
   exact fun _ hs => hR _ hle2 hs
end Go.Proofs.Ytdeableflgakdaa
namespace Go.Proofs.Ytdeableflgakdaa
open Go Go.V Go.Proofs
def StableP (d : DfaT) (l : List Int) : Prop := RightP d ∧ l.length = d.label.length ∧ stableP d l
theorem Stable_t {d : DfaT} (hsm : SmallD d) {m : List Int} (hml : m.length ≤ 2000000) {G : PHeap} {H : Heap} {R : Value → PHeap → Heap → Prop} {v w : Value} (hv : IsD G d v) (hw : Sl G (Value.int .i64) w m)
  (hR : ∀ G', PLe G G' → Sep G' (keys H) → R (.bool (boolOf (StableP d m))) G' H) : FnT Try.prog 21 [v, w] G H R := by
 obtain ⟨C, an, al, ay, cn, cl, cs, rs, rfl, O⟩ := hv.opened
 have hCl := O.len
 have hCx := O.l
 have hCa := O.all
 have hw0 := hw
 obtain ⟨a, cap, rfl, hrow, hcap⟩ := hw
 refine FnT.sep ?_
 by_cases hok : RightP d
 ·have hb := boolOf_yes hok
  by_cases hm : m.length = d.label.length
  ·refine FnT.body tok [0, 1, 2, 4] Try.func21 rfl (by kernel_rfl) (by kernel_rfl) (by show _ ≤ 21; simp) fun hsep => ?_
   rw [Try.results21]
   have hsE := hsep
   try simp only [zzs] at hsE
   repeat (obtain ⟨hsx, hsE⟩ := hsE)
   repeat' first
    | (with_reducible first | refine Nx.go ?_ | refine Bk.go (fun _ => ?_) fun _ => ?_)
    | (with_reducible refine NewB.mk2 fun nb hnb hnb1 hnb2 => ?_; try simp only [zzn] at hnb2)
    | simp -dsimp -implicitDefEqProofs (disch := first | assumption | (simp only [zzm]; done) | omega | (try with_reducible refine Row.adr (by assumption) ?_); simp only [zzl, Nat.reduceAdd]; first | done | omega) only [go_sem, ↓reduceIte, seval, -List.reduceReplicate, List.toList_toArray, hCl, hCx, hCa, hb]
    | with_reducible refine Tri.drawH tok mixed [0, 1, 2, 4] 1 [0, 6, 11] (.op 0 .held (.op 1 .keeps (.op 2 .plain (.op 3 .plain (.op 4 .plain (.op 5 .plain (.op 6 .held (.op 7 .plain (.op 8 .plain (.op 9 .plain (.op 10 .plain (.op 11 .held (.op 12 .plain (.op 13 .keeps (.op 14 .keeps (.op 15 .plain (.op 16 .plain .nil))))))))))))))))) (by kernel_rfl) [2] ?_
    | with_reducible refine right_t hsm O.is ?_
    | ((with_reducible refine norm_t hml hw0 fun G2 v2 hle2 hs2 hsl2 => ?_); obtain ⟨a2, c2, rfl, hr2, hc2⟩ := hsl2; have hsl2 : Sl G2 (Value.int .i64) (.slice a2 (nums m).length c2) (nums m) := ⟨a2, c2, rfl, hr2, hc2⟩; (have hsE := hs2; try simp only [zzs] at hsE; repeat (obtain ⟨hsx, hsE⟩ := hsE)))
    | ((with_reducible refine stable_t hsm hok hm (O.is.mono hle2) hsl2 fun G3 hle3 hs3 => ?_); (have hsE := hs3; try simp only [zzs] at hsE; repeat (obtain ⟨hsx, hsE⟩ := hsE)))
   unfold UpdR
   refine Upd.leave (H' := H) (by intro fsum; first | exact Nat.le_refl _ | (simp only [zzq]; omega)) ?_
   have hfin : boolOf (StableP d m) = boolOf (stableP d m) := by
    rw [Bool.eq_iff_iff, boolOf_iff, boolOf_iff]
    exact ⟨fun h => h.2.2, fun h => ⟨hok, hm, h⟩⟩
   rw [← hfin]
   exact fun _ hs => hR G3 (hle2.trans hle3) hs
  ·rw [boolOf_no fun h => hm h.2.1] at hR
   refine FnT.body tok [0, 1, 2, 4] Try.func21 rfl (by kernel_rfl) (by kernel_rfl) (by show _ ≤ 21; simp) fun hsep => ?_
   rw [Try.results21]
   have hsE := hsep
   try simp only [zzs] at hsE
   repeat (obtain ⟨hsx, hsE⟩ := hsE)
   repeat' first
    | (with_reducible first | refine Nx.go ?_ | refine Bk.go (fun _ => ?_) fun _ => ?_)
    | (with_reducible refine NewB.mk2 fun nb hnb hnb1 hnb2 => ?_; try simp only [zzn] at hnb2)
    | simp -dsimp -implicitDefEqProofs (disch := first | assumption | (simp only [zzm]; done) | omega | (try with_reducible refine Row.adr (by assumption) ?_); simp only [zzl, Nat.reduceAdd]; first | done | omega) only [go_sem, ↓reduceIte, seval, -List.reduceReplicate, List.toList_toArray, hCl, hCx, hCa, hb]
    | with_reducible refine Tri.drawH tok mixed [0, 1, 2, 4] 1 [0, 6, 11] (.op 0 .held (.op 1 .keeps (.op 2 .plain (.op 3 .plain (.op 4 .plain (.op 5 .plain (.op 6 .held (.op 7 .plain (.op 8 .plain (.op 9 .plain (.op 10 .plain (.op 11 .held (.op 12 .plain (.op 13 .keeps (.op 14 .keeps (.op 15 .plain (.op 16 .plain .nil))))))))))))))))) (by kernel_rfl) [2] ?_
    | with_reducible refine right_t hsm O.is ?_
   all_goals try (exfalso; omega)
   unfold UpdR
   refine Upd.leave (H' := H) (by intro fsum; first | exact Nat.le_refl _ | (simp only [zzq]; omega)) ?_
   exact fun _ hs => hR G (PLe.refl _) hs
 ·have hb := boolOf_no hok
  rw [boolOf_no fun h => hok h.1] at hR
  refine FnT.body tok [0, 1, 2, 4] Try.func21 rfl (by kernel_rfl) (by kernel_rfl) (by show _ ≤ 21; simp) fun hsep => ?_
  rw [Try.results21]
  have hsE := hsep
  try simp only [zzs] at hsE
  repeat (obtain ⟨hsx, hsE⟩ := hsE)
  repeat' first
   | (with_reducible first | refine Nx.go ?_ | refine Bk.go (fun _ => ?_) fun _ => ?_)
   | (with_reducible refine NewB.mk2 fun nb hnb hnb1 hnb2 => ?_; try simp only [zzn] at hnb2)
   | simp -dsimp -implicitDefEqProofs (disch := first | assumption | (simp only [zzm]; done) | omega | (try with_reducible refine Row.adr (by assumption) ?_); simp only [zzl, Nat.reduceAdd]; first | done | omega) only [go_sem, ↓reduceIte, seval, -List.reduceReplicate, List.toList_toArray, hCl, hCx, hCa, hb]
   | with_reducible refine Tri.drawH tok mixed [0, 1, 2, 4] 1 [0, 6, 11] (.op 0 .held (.op 1 .keeps (.op 2 .plain (.op 3 .plain (.op 4 .plain (.op 5 .plain (.op 6 .held (.op 7 .plain (.op 8 .plain (.op 9 .plain (.op 10 .plain (.op 11 .held (.op 12 .plain (.op 13 .keeps (.op 14 .keeps (.op 15 .plain (.op 16 .plain .nil))))))))))))))))) (by kernel_rfl) [2] ?_
   | with_reducible refine right_t hsm O.is ?_
  unfold UpdR
  refine Upd.leave (H' := H) (by intro fsum; first | exact Nat.le_refl _ | (simp only [zzq]; omega)) ?_
  exact fun _ hs => hR G (PLe.refl _) hs
end Go.Proofs.Ytdeableflgakdaa
namespace Go.Proofs.Ytdeableflgakdaa
open Go Go.V Go.Proofs
section
variable {α : Type} [DecidableEq α] {β : Type} [DecidableEq β]
theorem nums_numsM (l : List α) : nums (nums l) = nums l :=
 nums_same (nums_len l) fun i j hi hj => by
  rw [nums_len] at hi hj
  exact nums_iff hi hj
theorem tabO_snoc_len (l : List α) {i : Nat} (h : i < l.length) : (tabO (l.take (i + 1))).length = (tabO (l.take i)).length + if l[i] ∈ l.take i then 0 else 1 := by
 rw [List.take_succ_eq_append_getElem h, tabO_snoc]
 simp only [mem_tabO]
 split
 ·rfl
 ·rw [List.length_append]; rfl
theorem more_blocks {a : List α} {b : List β} (hlen : b.length = a.length) (hf : ∀ i j (hi : i < b.length) (hj : j < b.length), b[i] = b[j] → a[i]'(hlen ▸ hi) = a[j]'(hlen ▸ hj)) :
  ∀ k, k ≤ a.length → (tabO (a.take k)).length ≤ (tabO (b.take k)).length ∧ ((tabO (a.take k)).length = (tabO (b.take k)).length → ∀ i (hi : i < k) (h1 : i < a.length) (h2 : i < b.length), a[i] ∈ a.take i → b[i] ∈ b.take i)
 | 0, _ => ⟨Nat.le_refl _, fun _ i hi => by omega⟩
 | k + 1, hk => by
  obtain ⟨h1, h2⟩ := more_blocks hlen hf k (by omega)
  have hka : k < a.length := hk
  have hkb : k < b.length := by omega
  rw [tabO_snoc_len a hka, tabO_snoc_len b hkb]
  have hin : b[k] ∈ b.take k → a[k] ∈ a.take k := fun h => by
   rw [mem_take_iff] at h ⊢
   obtain ⟨j, hj, e⟩ := h
   exact ⟨j, hj, hf j k (by omega) hkb e⟩
  by_cases hb : b[k] ∈ b.take k
  ·rw [if_pos (hin hb), if_pos hb]
   refine ⟨by omega, fun e i hi g1 g2 g3 => ?_⟩
   rcases Nat.lt_or_ge i k with h | h
   ·exact h2 (by omega) i h g1 g2 g3
   ·obtain rfl : i = k := by omega
    exact hb
  ·rw [if_neg hb]
   by_cases ha : a[k] ∈ a.take k
   ·rw [if_pos ha]
    exact ⟨by omega, fun e => by omega⟩
   ·rw [if_neg ha]
    refine ⟨by omega, fun e i hi g1 g2 g3 => ?_⟩
    rcases Nat.lt_or_ge i k with h | h
    ·exact h2 (by omega) i h g1 g2 g3
    ·obtain rfl : i = k := by omega
     exact (ha g3).elim
theorem more_eq {a : List α} {b : List β} (hlen : b.length = a.length) (hf : ∀ i j (hi : i < b.length) (hj : j < b.length), b[i] = b[j] → a[i]'(hlen ▸ hi) = a[j]'(hlen ▸ hj)) (he : (tabO a).length = (tabO b).length) : nums b = nums a := by
 have hm := (more_blocks hlen hf a.length (Nat.le_refl _)).2
 have hbt : b.take a.length = b := by rw [← hlen, List.take_length]
 rw [List.take_length, hbt] at hm
 have hm := hm he
 have key : ∀ i, ∀ (hi : i < a.length) (p : Nat) (hp : p < a.length), p ≤ i → a[p] ∉ a.take p → a[p] = a[i] → b[i]'(hlen ▸ hi) = b[p]'(hlen ▸ hp) := by
  intro i hi p hp hpi hnew hap
  obtain ⟨q, hq1, hq2, ⟨hq3, hq4⟩, hq5⟩ := place_first (l := b) (i := i) (hlen ▸ hi)
  have hqn : b[q] ∉ b.take q := by
   obtain ⟨q', g1, g2, ⟨g3, g4⟩, g5⟩ := place_first (l := b) (i := q) hq3
   rw [← hq4] at hq1
   rw [hq1] at g1
   cases g1
   exact g5.1 rfl
  have hqa : q < a.length := by omega
  have haq : a[q] ∉ a.take q := fun h => hqn (hm q hqa hqa hq3 h)
  have hab : a[q] = a[i] := hf q i hq3 (hlen ▸ hi) hq4
  have : q = p := by
   rcases Nat.lt_trichotomy q p with h | h | h
   ·exact (hnew ((mem_take_iff hp).2 ⟨q, h, by rw [hab, hap]⟩)).elim
   ·exact h
   ·exact (haq ((mem_take_iff hqa).2 ⟨p, h, by rw [hab, hap]⟩)).elim
  subst this
  exact hq4.symm
 refine nums_same hlen fun i j hi hj => ⟨hf i j hi hj, fun e => ?_⟩
 have hia : i < a.length := hlen ▸ hi
 have hja : j < a.length := hlen ▸ hj
 obtain ⟨p, h1, h2, ⟨h3, h4⟩, h5⟩ := place_first hia
 obtain ⟨p', g1, g2, ⟨g3, g4⟩, g5⟩ := place_first hja
 have : p' = p := by
  rw [← e, h1] at g1
  exact (Option.some.inj g1).symm
 subst this
 have hnew : a[p'] ∉ a.take p' := by
  obtain ⟨q', k1, k2, ⟨k3, k4⟩, k5⟩ := place_first h3
  rw [← h4] at h1
  rw [h1] at k1
  cases k1
  exact k5.1 rfl
 rw [key i hia p' h3 h2 hnew h4, key j hja p' h3 g2 hnew g4]
end
def behL (d : DfaT) (l : List Int) (k : Nat) : List Int := d.next.map fun r => atL l (atL r k)
theorem behL_len (d : DfaT) (l : List Int) (k : Nat) : (behL d l k).length = d.next.length := by simp [behL]
def rdk (d : DfaT) (l : List Int) : Nat → List Int
 | 0 => l
 | k + 1 => nums ((rdk d l k).zip (behL d l k))
def rdD (d : DfaT) (l : List Int) : List Int := rdk d l d.width.toNat
def lvl (d : DfaT) : Nat → List Int
 | 0 => nums d.label
 | i + 1 => rdD d (lvl d i)
theorem rdk_len {d : DfaT} {l : List Int} (h : l.length = d.next.length) : ∀ k, (rdk d l k).length = d.next.length
 | 0 => h
 | k + 1 => by
  show (nums _).length = _
  rw [nums_len, List.length_zip, rdk_len h k, behL_len]; omega
theorem rdk_norm {d : DfaT} {l : List Int} (h : nums l = l) : ∀ k, nums (rdk d l k) = rdk d l k
 | 0 => h
 | k + 1 => nums_numsM _
theorem rdk_iff {d : DfaT} {l : List Int} (h : l.length = d.next.length) : ∀ k, ∀ i j (hi : i < d.next.length) (hj : j < d.next.length),
  ((rdk d l k)[i]'(by rw [rdk_len h]; exact hi) = (rdk d l k)[j]'(by rw [rdk_len h]; exact hj) ↔ l[i]'(h ▸ hi) = l[j]'(h ▸ hj) ∧ ∀ c, c < k → atL l (atL d.next[i] c) = atL l (atL d.next[j] c))
 | 0, i, j, hi, hj => ⟨fun e => ⟨e, fun c hc => by omega⟩, fun e => e.1⟩
 | k + 1, i, j, hi, hj => by
  have hz : ((rdk d l k).zip (behL d l k)).length = d.next.length := by rw [List.length_zip, rdk_len h k, behL_len]; omega
  have h1 := nums_iff (l := (rdk d l k).zip (behL d l k)) (i := i) (j := j) (by omega) (by omega)
  refine Iff.trans h1 ?_
  rw [List.getElem_zip, List.getElem_zip, Prod.mk.injEq, rdk_iff h k i j hi hj]
  simp only [behL, List.getElem_map]
  constructor
  ·rintro ⟨⟨e1, e2⟩, e3⟩
   refine ⟨e1, fun c hc => ?_⟩
   rcases Nat.lt_or_ge c k with g | g
   ·exact e2 c g
   ·obtain rfl : c = k := by omega
    exact e3
  ·rintro ⟨e1, e2⟩
   exact ⟨⟨e1, fun c hc => e2 c (by omega)⟩, e2 k (by omega)⟩
theorem lvl_len {d : DfaT} (h : d.next.length = d.label.length) : ∀ i, (lvl d i).length = d.next.length
 | 0 => by rw [h]; exact nums_len _
 | i + 1 => rdk_len (lvl_len h i) _
theorem lvl_norm (d : DfaT) : ∀ i, nums (lvl d i) = lvl d i
 | 0 => nums_numsM _
 | i + 1 => rdk_norm (lvl_norm d i) _
theorem lvl_zero {d : DfaT} (h : d.next.length = d.label.length) {s t : Nat} (hs : s < d.label.length) (ht : t < d.label.length) : ((lvl d 0)[s]'(by rw [lvl_len h]; omega) = (lvl d 0)[t]'(by rw [lvl_len h]; omega)) ↔ d.label[s] = d.label[t] := nums_iff hs ht
theorem lvl_succ {d : DfaT} (h : d.next.length = d.label.length) (i : Nat) {s t : Nat} (hs : s < d.next.length) (ht : t < d.next.length) : ((lvl d (i + 1))[s]'(by rw [lvl_len h]; omega) = (lvl d (i + 1))[t]'(by rw [lvl_len h]; omega)) ↔
  (lvl d i)[s]'(by rw [lvl_len h]; omega) = (lvl d i)[t]'(by rw [lvl_len h]; omega) ∧ ∀ c, c < d.width.toNat → atL (lvl d i) (atL d.next[s] c) = atL (lvl d i) (atL d.next[t] c) := rdk_iff (lvl_len h i) _ s t hs ht
theorem lvl_stop {d : DfaT} {i : Nat} (h : lvl d (i + 1) = lvl d i) : ∀ j, lvl d (i + j) = lvl d i
 | 0 => rfl
 | j + 1 => by
  show rdD d (lvl d (i + j)) = _
  rw [lvl_stop h j]; exact h
theorem lvl_stop' {d : DfaT} {i j : Nat} (h : lvl d (i + 1) = lvl d i) (hj : i ≤ j) : lvl d j = lvl d i := by
 obtain ⟨c, rfl⟩ := Nat.exists_eq_add_of_le hj
 exact lvl_stop h c
theorem lvl_more {d : DfaT} (h : d.next.length = d.label.length) {i : Nat} (hn : lvl d (i + 1) ≠ lvl d i) : (tabO (lvl d i)).length < (tabO (lvl d (i + 1))).length := by
 have hlen : (lvl d (i + 1)).length = (lvl d i).length := by rw [lvl_len h, lvl_len h]
 have hf : ∀ x y (hx : x < (lvl d (i + 1)).length) (hy : y < (lvl d (i + 1)).length), (lvl d (i + 1))[x] = (lvl d (i + 1))[y] → (lvl d i)[x]'(hlen ▸ hx) = (lvl d i)[y]'(hlen ▸ hy) := fun x y hx hy e => by
  rw [lvl_len h] at hx hy
  exact ((lvl_succ h i hx hy).1 e).1
 have h1 := (more_blocks hlen hf _ (Nat.le_refl _)).1
 rw [List.take_length, ← hlen, List.take_length] at h1
 rcases Nat.lt_or_ge (tabO (lvl d i)).length (tabO (lvl d (i + 1))).length with g | g
 ·exact g
 ·have := more_eq hlen hf (by omega)
  rw [lvl_norm, lvl_norm] at this
  exact (hn this).elim
def LastR (d : DfaT) (n : Nat) : Prop := n < d.label.length ∧ lvl d (n + 1) = lvl d n ∧ ∀ i, i < n → lvl d (i + 1) ≠ lvl d i
theorem last_ex {d : DfaT} (h : d.next.length = d.label.length) (h1 : 1 ≤ d.label.length) : ∃ n, LastR d n := by
 have key : ∀ m, (∃ n, n < m ∧ lvl d (n + 1) = lvl d n ∧ ∀ i, i < n → lvl d (i + 1) ≠ lvl d i) ∨ ((∀ i, i < m → lvl d (i + 1) ≠ lvl d i) ∧ m + 1 ≤ (tabO (lvl d m)).length) := by
  intro m
  induction m with
  | zero =>
   refine .inr ⟨fun i hi => by omega, ?_⟩
   have : 0 < (lvl d 0).length := by rw [lvl_len h]; omega
   have hm := (mem_tabO (lvl d 0)).2 (List.getElem_mem this)
   exact List.length_pos_of_mem hm
  | succ m ih =>
   rcases ih with ⟨n, h1, h2, h3⟩ | ⟨h1, h2⟩
   ·exact .inl ⟨n, by omega, h2, h3⟩
   ·by_cases he : lvl d (m + 1) = lvl d m
    ·exact .inl ⟨m, by omega, he, h1⟩
    ·refine .inr ⟨fun i hi => ?_, ?_⟩
     ·rcases Nat.lt_or_ge i m with g | g
      ·exact h1 i g
      ·obtain rfl : i = m := by omega
       exact he
     ·have := lvl_more h he; omega
 rcases key d.label.length with ⟨n, h1, h2, h3⟩ | ⟨_, h2⟩
 ·exact ⟨n, h1, h2, h3⟩
 ·have := tabO_len (lvl d d.label.length)
  rw [lvl_len h] at this
  omega
theorem last_min {d : DfaT} {n : Nat} (hn : LastR d n) (k : Nat) : lvl d (min k n) = lvl d k := by
 rcases Nat.le_total k n with h | h
 ·rw [Nat.min_eq_left h]
 ·rw [Nat.min_eq_right h]; exact (lvl_stop' hn.2.1 h).symm
theorem lvl_fine {d : DfaT} (h : d.next.length = d.label.length) {i : Nat} {s t : Nat} (hs : s < d.next.length) (ht : t < d.next.length) : ∀ j, i ≤ j → (lvl d j)[s]'(by rw [lvl_len h]; omega) = (lvl d j)[t]'(by rw [lvl_len h]; omega) → (lvl d i)[s]'(by rw [lvl_len h]; omega) = (lvl d i)[t]'(by rw [lvl_len h]; omega)
  | 0, hj, e => by obtain rfl : i = 0 := by omega
                   exact e
  | j + 1, hj, e => by
    rcases Nat.lt_or_ge i (j + 1) with g | g
    · exact lvl_fine h hs ht j (by omega) ((lvl_succ h j hs ht).1 e).1
    · obtain rfl : i = j + 1 := by omega
      exact e
end Go.Proofs.Ytdeableflgakdaa
namespace Go.Proofs.Ytdeableflgakdaa
open Go Go.V Go.Proofs
def updN {α : Type} (f : Nat → α) (i : Nat) (x : α) : Nat → α := fun j => if j = i then x else f j
theorem updN_same {α : Type} (f : Nat → α) (i : Nat) (x : α) : updN f i x i = x := if_pos rfl
theorem updN_ne {α : Type} (f : Nat → α) {i j : Nat} (x : α) (h : j ≠ i) : updN f i x j = f j := if_neg h
theorem nodup_bound : ∀ {n : Nat} {l : List Nat}, l.Nodup → (∀ s ∈ l, s < n) → l.length ≤ n
 | 0, l, _, h => by
  cases l with
  | nil => exact Nat.le_refl _
  | cons x l => exact absurd (h x (List.mem_cons_self ..)) (Nat.not_lt_zero _)
 | n + 1, l, hnd, h => by
  have h1 : (l.filter fun x => decide (x ≠ n)).length ≤ n := nodup_bound (hnd.filter _) fun s hs => by
   rw [List.mem_filter, decide_eq_true_eq] at hs
   have := h s hs.1
   omega
  have h2 : ∀ {l : List Nat}, l.Nodup → l.length ≤ (l.filter fun x => decide (x ≠ n)).length + 1 := by
   intro l hl
   induction l with
   | nil => simp
   | cons x l ih =>
    rw [List.nodup_cons] at hl
    by_cases e : x = n
    ·have hf : l.filter (fun y => decide (y ≠ n)) = l := List.filter_eq_self.2 fun y hy => by
      rw [decide_eq_true_eq]
      intro e2; subst e2; subst e; exact hl.1 hy
     rw [List.filter_cons, if_neg (by simp [e]), hf]; simp
    ·rw [List.filter_cons, if_pos (by simp [e])]
     have := ih hl.2
     simp only [List.length_cons]; omega
  have := h2 hnd
  omega
structure PInv (n nb : Nat) (st pl bl fr to mk : Nat → Nat) : Prop where
 st_lt : ∀ i, i < n → st i < n
 pl_lt : ∀ s, s < n → pl s < n
 pl_st : ∀ i, i < n → pl (st i) = i
 st_pl : ∀ s, s < n → st (pl s) = s
 bl_lt : ∀ s, s < n → bl s < nb
 lo : ∀ s, s < n → fr (bl s) ≤ pl s
 hi : ∀ s, s < n → pl s < to (bl s)
 ne : ∀ b, b < nb → fr b < to b
 le : ∀ b, b < nb → to b ≤ n
 mk_le : ∀ b, b < nb → fr b + mk b ≤ to b
 own : ∀ b i, b < nb → fr b ≤ i → i < to b → bl (st i) = b
section
variable {n nb : Nat} {st pl bl fr to mk : Nat → Nat}
theorem PInv.nb_le (h : PInv n nb st pl bl fr to mk) : nb ≤ n := by
 -- each block has a first state
 have key : ∀ m, m ≤ nb → ∃ l : List Nat, l.length = m ∧ l.Nodup ∧ ∀ s ∈ l, s < n ∧ bl s < m := by
  intro m
  induction m with
  | zero => exact fun _ => ⟨[], rfl, List.nodup_nil, fun s hs => by cases hs⟩
  | succ m ih =>
   intro hm
   obtain ⟨l, h1, h2, h3⟩ := ih (by omega)
   have hf := h.ne m (by omega)
   have ht := h.le m (by omega)
   have ho := h.own m (fr m) (by omega) (Nat.le_refl _) hf
   refine ⟨st (fr m) :: l, by simp [h1], List.nodup_cons.2 ⟨fun hx => ?_, h2⟩, fun s hs => ?_⟩
   ·have := (h3 _ hx).2; omega
   ·rcases List.mem_cons.1 hs with rfl | hs
    ·exact ⟨h.st_lt _ (by omega), by omega⟩
    ·have := h3 s hs; exact ⟨this.1, by omega⟩
 obtain ⟨l, h1, h2, h3⟩ := key nb (Nat.le_refl _)
 rw [← h1]
 exact nodup_bound h2 fun s hs => (h3 s hs).1
def Mkd (pl bl fr mk : Nat → Nat) (s : Nat) : Prop := pl s < fr (bl s) + mk (bl s)
theorem PInv.mark (h : PInv n nb st pl bl fr to mk) {s : Nat} (hs : s < n) (hm : ¬ Mkd pl bl fr mk s) :
  PInv n nb (updN (updN st (fr (bl s) + mk (bl s)) s) (pl s) (st (fr (bl s) + mk (bl s)))) (updN (updN pl (st (fr (bl s) + mk (bl s))) (pl s)) s (fr (bl s) + mk (bl s))) bl fr to (updN mk (bl s) (mk (bl s) + 1)) ∧
  (∀ x, x < n → (Mkd (updN (updN pl (st (fr (bl s) + mk (bl s))) (pl s)) s (fr (bl s) + mk (bl s))) bl fr (updN mk (bl s) (mk (bl s) + 1)) x ↔ Mkd pl bl fr mk x ∨ x = s)) := by
 unfold Mkd at hm
 have hb := h.bl_lt s hs
 have hlo := h.lo s hs
 have hhi := h.hi s hs
 have hle := h.le _ hb
 have hps := h.pl_lt s hs
 have hsp := h.st_pl s hs
 have hmk := h.mk_le _ hb
 obtain ⟨p, hp⟩ : ∃ p, p = fr (bl s) + mk (bl s) := ⟨_, rfl⟩
 rw [← hp] at hm hmk ⊢
 have hpn : p < n := by omega
 obtain ⟨t, ht⟩ : ∃ t, t = st p := ⟨_, rfl⟩
 rw [← ht]
 have htn : t < n := by rw [ht]; exact h.st_lt p hpn
 have hpt : pl t = p := by rw [ht]; exact h.pl_st p hpn
 have hbt : bl t = bl s := by rw [ht]; exact h.own _ p hb (by omega) (by omega)
 have hne : t ≠ s → pl s ≠ p := fun e e2 => e (by rw [ht, ← e2, hsp])
 refine ⟨⟨fun i hi => ?_, fun x hx => ?_, fun i hi => ?_, fun x hx => ?_, h.bl_lt, fun x hx => ?_, fun x hx => ?_, h.ne, h.le, fun b hb2 => ?_, fun b i hb2 h1 h2 => ?_⟩, fun x hx => ?_⟩
 ·unfold updN; split
  ·exact htn
  ·split
   ·exact hs
   ·exact h.st_lt i hi
 ·unfold updN; split
  ·exact hpn
  ·split
   ·exact hps
   ·exact h.pl_lt x hx
 ·have h0 := h.pl_st i hi
  unfold updN
  by_cases e1 : i = pl s
  ·rw [if_pos e1]
   by_cases e2 : t = s
   ·rw [if_pos e2, ← hpt, e2, e1]
   ·rw [if_neg e2, if_pos rfl, e1]
  ·rw [if_neg e1]
   by_cases e2 : i = p
   ·rw [if_pos e2, if_pos rfl, e2]
   ·rw [if_neg e2]
    have e3 : st i ≠ s := fun e => e1 (by rw [← e, h0])
    have e4 : st i ≠ t := fun e => e2 (by rw [← h0, e, hpt])
    rw [if_neg e3, if_neg e4, h0]
 ·have h0 := h.st_pl x hx
  unfold updN
  by_cases e1 : x = s
  ·rw [if_pos e1]
   by_cases e2 : p = pl s
   ·rw [if_pos e2, e1, ht, e2, hsp]
   ·rw [if_neg e2, if_pos rfl, e1]
  ·rw [if_neg e1]
   by_cases e2 : x = t
   ·rw [if_pos e2, if_pos rfl, e2]
   ·rw [if_neg e2]
    have e3 : pl x ≠ pl s := fun e => e1 (by rw [← h0, e, hsp])
    have e4 : pl x ≠ p := fun e => e2 (by rw [← h0, e, ht])
    rw [if_neg e3, if_neg e4, h0]
 ·have h0 := h.lo x hx
  unfold updN
  by_cases e1 : x = s
  ·rw [if_pos e1, e1]; omega
  ·rw [if_neg e1]
   by_cases e2 : x = t
   ·rw [if_pos e2, e2, hbt]; omega
   ·rw [if_neg e2]; exact h0
 ·have h0 := h.hi x hx
  unfold updN
  by_cases e1 : x = s
  ·rw [if_pos e1, e1]; omega
  ·rw [if_neg e1]
   by_cases e2 : x = t
   ·rw [if_pos e2, e2, hbt]; omega
   ·rw [if_neg e2]; exact h0
 ·have h0 := h.mk_le b hb2
  unfold updN
  by_cases e1 : b = bl s
  ·rw [if_pos e1, e1]; omega
  ·rw [if_neg e1]; exact h0
 ·have h0 := h.own b i hb2 h1 h2
  unfold updN
  by_cases e1 : i = pl s
  ·rw [if_pos e1, hbt]; rw [e1, hsp] at h0; exact h0
  ·rw [if_neg e1]
   by_cases e2 : i = p
   ·rw [if_pos e2]; rw [e2, ← ht, hbt] at h0; exact h0
   ·rw [if_neg e2]; exact h0
 ·have hpx := h.pl_lt x hx
  have hxp := h.st_pl x hx
  unfold Mkd updN
  by_cases e1 : x = s
  ·rw [if_pos e1, e1, if_pos rfl]
   exact ⟨fun _ => .inr rfl, fun _ => by omega⟩
  ·rw [if_neg e1]
   by_cases e2 : x = t
   ·rw [if_pos e2, e2, hbt, if_pos rfl, hpt]
    have := hne (by rw [← e2]; exact e1)
    exact ⟨fun _ => by omega, fun h => by rcases h with h | h <;> omega⟩
   ·rw [if_neg e2]
    have e4 : pl x ≠ p := fun e => e2 (by rw [← hxp, e, ht])
    by_cases e3 : bl x = bl s
    ·rw [if_pos e3, e3]
     exact ⟨fun _ => .inl (by omega), fun h => by rcases h with h | h <;> omega⟩
    ·rw [if_neg e3]
     exact ⟨.inl, fun h => by rcases h with h | h <;> omega⟩
theorem PInv.part (h : PInv n nb st pl bl fr to mk) {b : Nat} (hb : b < nb) (h1 : 1 ≤ mk b) (h2 : mk b < to b - fr b) :
  PInv n (nb + 1) st pl (fun s => if bl s = b ∧ pl s < fr b + mk b then nb else bl s) (updN (updN fr b (fr b + mk b)) nb (fr b)) (updN to nb (fr b + mk b)) (updN (updN mk b 0) nb 0) := by
 have hne := h.ne b hb
 have hle := h.le b hb
 refine ⟨h.st_lt, h.pl_lt, h.pl_st, h.st_pl, fun s hs => ?_, fun s hs => ?_, fun s hs => ?_, fun c hc => ?_, fun c hc => ?_, fun c hc => ?_, fun c i hc g1 g2 => ?_⟩
 ·have := h.bl_lt s hs
  show (if _ then _ else _) < _
  split <;> omega
 ·have h3 := h.bl_lt s hs
  have h4 := h.lo s hs
  show updN _ nb _ (if _ then _ else _) ≤ _
  unfold updN
  split
  ·rename_i e; rw [if_pos rfl, ← e.1]; exact h4
  ·rename_i e
   rw [if_neg (by omega)]
   by_cases e2 : bl s = b
   ·rw [if_pos e2]
    have : ¬ pl s < fr b + mk b := fun h => e ⟨e2, h⟩
    omega
   ·rw [if_neg e2]; exact h4
 ·have h3 := h.bl_lt s hs
  have h4 := h.hi s hs
  show _ < updN _ nb _ (if _ then _ else _)
  unfold updN
  split
  ·rename_i e; rw [if_pos rfl]; exact e.2
  ·rename_i e
   rw [if_neg (by omega)]; exact h4
 ·have := h.ne c
  unfold updN
  by_cases e : c = nb
  ·rw [if_pos e, if_pos e]; omega
  ·rw [if_neg e, if_neg e]
   by_cases e2 : c = b
   ·rw [if_pos e2, e2]; omega
   ·rw [if_neg e2]; exact this (by omega)
 ·have := h.le c
  unfold updN
  by_cases e : c = nb
  ·rw [if_pos e]; omega
  ·rw [if_neg e]; exact this (by omega)
 ·have h3 := h.mk_le c
  have h4 := h.ne c
  unfold updN
  by_cases e : c = nb
  ·rw [if_pos e, if_pos e, if_pos e]; omega
  ·rw [if_neg e, if_neg e, if_neg e]
   by_cases e2 : c = b
   ·rw [if_pos e2, if_pos e2, e2]; omega
   ·rw [if_neg e2, if_neg e2]; exact h3 (by omega)
 ·have h3 := h.own c i
  have h4 := h.own b i hb
  have hin := h.le c
  unfold updN at g1 g2
  show (if _ then _ else _) = _
  by_cases e : c = nb
  ·rw [if_pos e] at g1 g2
   rw [if_pos ⟨h4 g1 (by omega), by rw [h.pl_st i (by omega)]; exact g2⟩, e]
  ·rw [if_neg e] at g1 g2
   by_cases e2 : c = b
   ·rw [if_pos e2] at g1
    rw [e2] at g2
    rw [if_neg (by rw [h.pl_st i (by omega)]; omega), h4 (by omega) g2, e2]
   ·rw [if_neg e2] at g1
    have h5 := h3 (by omega) g1 g2
    rw [if_neg (by rw [h5]; omega), h5]
theorem PInv.clear (h : PInv n nb st pl bl fr to mk) (b : Nat) : PInv n nb st pl bl fr to (updN mk b 0) := by
 refine ⟨h.st_lt, h.pl_lt, h.pl_st, h.st_pl, h.bl_lt, h.lo, h.hi, h.ne, h.le, fun c hc => ?_, h.own⟩
 have h3 := h.mk_le c hc
 have h4 := h.ne c hc
 unfold updN
 split <;> omega
end
def askW (ws : List (Nat × Nat)) (x : Nat × Nat) : List (Nat × Nat) := if x ∈ ws then ws else ws ++ [x]
theorem askW_mem (ws : List (Nat × Nat)) (x : Nat × Nat) : x ∈ askW ws x := by
 unfold askW; split
 ·assumption
 ·simp
theorem askW_sub {ws : List (Nat × Nat)} {x y : Nat × Nat} (h : y ∈ ws) : y ∈ askW ws x := by
 unfold askW; split
 ·exact h
 ·exact List.mem_append_left _ h
theorem askW_of {ws : List (Nat × Nat)} {x y : Nat × Nat} (h : y ∈ askW ws x) : y ∈ ws ∨ y = x := by
 unfold askW at h; split at h
 ·exact .inl h
 ·rcases List.mem_append.1 h with h | h
  ·exact .inl h
  ·exact .inr (List.mem_singleton.1 h)
theorem askW_nodup {ws : List (Nat × Nat)} {x : Nat × Nat} (h : ws.Nodup) : (askW ws x).Nodup := by
 unfold askW; split
 ·exact h
 ·rename_i hx
  exact List.nodup_append.2 ⟨h, by simp, fun a ha b hb => by rw [List.mem_singleton] at hb; subst hb; intro e; subst e; exact hx ha⟩
theorem askW_len (ws : List (Nat × Nat)) (x : Nat × Nat) : (askW ws x).length ≤ ws.length + 1 := by
 unfold askW; split <;> simp
def lessW (small : Bool) (old fresh : Nat) (ws : List (Nat × Nat)) (k : Nat) : List (Nat × Nat) := if (old, k) ∈ ws ∨ small = true then askW ws (fresh, k) else askW ws (old, k)
def lessA (small : Bool) (old fresh : Nat) (ws : List (Nat × Nat)) (W : Nat) : List (Nat × Nat) := (List.range W).foldl (lessW small old fresh) ws
theorem lessA_succ (small : Bool) (old fresh : Nat) (ws : List (Nat × Nat)) (W : Nat) : lessA small old fresh ws (W + 1) = lessW small old fresh (lessA small old fresh ws W) W := by
 unfold lessA; rw [List.range_succ, List.foldl_append]; rfl
theorem lessW_of {small : Bool} {old fresh : Nat} {ws : List (Nat × Nat)} {k : Nat} {y : Nat × Nat} (h : y ∈ lessW small old fresh ws k) : y ∈ ws ∨ y = (fresh, k) ∨ y = (old, k) := by
 unfold lessW at h; split at h
 ·rcases askW_of h with h | h
  ·exact .inl h
  ·exact .inr (.inl h)
 ·rcases askW_of h with h | h
  ·exact .inl h
  ·exact .inr (.inr h)
theorem lessW_sub {small : Bool} {old fresh : Nat} {ws : List (Nat × Nat)} {k : Nat} {y : Nat × Nat} (h : y ∈ ws) : y ∈ lessW small old fresh ws k := by
 unfold lessW; split <;> exact askW_sub h
theorem lessA_all (small : Bool) (old fresh : Nat) (ws : List (Nat × Nat)) : ∀ W, (∀ y ∈ ws, y ∈ lessA small old fresh ws W) ∧ (∀ y ∈ lessA small old fresh ws W, y ∈ ws ∨ ((y.1 = fresh ∨ y.1 = old) ∧ y.2 < W)) ∧
  (∀ j, j < W → (old, j) ∈ ws → (fresh, j) ∈ lessA small old fresh ws W) ∧ (∀ j, j < W → (fresh, j) ∈ lessA small old fresh ws W ∨ (old, j) ∈ lessA small old fresh ws W) ∧ (lessA small old fresh ws W).length ≤ ws.length + W ∧ (ws.Nodup → (lessA small old fresh ws W).Nodup)
 | 0 => ⟨fun y h => h, fun y h => .inl h, fun j h => by omega, fun j h => by omega, Nat.le_refl _, id⟩
 | W + 1 => by
  obtain ⟨h1, h2, h3, h4, h5, h6⟩ := lessA_all small old fresh ws W
  rw [lessA_succ]
  refine ⟨fun y h => lessW_sub (h1 y h), fun y h => ?_, fun j hj ho => ?_, fun j hj => ?_, ?_, fun hnd => ?_⟩
  ·rcases lessW_of h with h | rfl | rfl
   ·rcases h2 y h with h | h
    ·exact .inl h
    ·exact .inr ⟨h.1, by omega⟩
   ·exact .inr ⟨.inl rfl, Nat.lt_succ_self _⟩
   ·exact .inr ⟨.inr rfl, Nat.lt_succ_self _⟩
  ·rcases Nat.lt_or_ge j W with g | g
   ·exact lessW_sub (h3 j g ho)
   ·obtain rfl : j = W := by omega
    unfold lessW
    rw [if_pos (.inl (h1 _ ho))]
    exact askW_mem _ _
  ·rcases Nat.lt_or_ge j W with g | g
   ·rcases h4 j g with h | h
    ·exact .inl (lessW_sub h)
    ·exact .inr (lessW_sub h)
   ·obtain rfl : j = W := by omega
    unfold lessW
    split
    ·exact .inl (askW_mem _ _)
    ·exact .inr (askW_mem _ _)
  ·unfold lessW
   split
   ·have := askW_len (lessA small old fresh ws W) (fresh, W); omega
   ·have := askW_len (lessA small old fresh ws W) (old, W); omega
  ·unfold lessW
   split <;> exact askW_nodup (h6 hnd)
section law
variable {n W : Nat} {bl : Nat → Nat} {dl : Nat → Nat → Nat}
def PLaw (n W : Nat) (bl : Nat → Nat) (dl : Nat → Nat → Nat) (ws : List (Nat × Nat)) (k0 : Nat) (X : Nat → Prop) : Prop := ∀ s t j, s < n → t < n → j < W → bl s = bl t → bl (dl j s) ≠ bl (dl j t) → (bl (dl j s), j) ∈ ws ∨ (bl (dl j t), j) ∈ ws ∨ (j = k0 ∧ ¬ (X s ↔ X t))
theorem PLaw.take {ws : List (Nat × Nat)} {b k k1 : Nat} (h : PLaw n W bl dl (ws ++ [(b, k)]) k1 fun _ => False) : PLaw n W bl dl ws k fun s => bl (dl k s) = b := by
 intro s t j hs ht hj e ne
 have hm : ∀ u v, bl (dl j u) ≠ bl (dl j v) → (bl (dl j u), j) ∈ ws ++ [(b, k)] → (bl (dl j u), j) ∈ ws ∨ (j = k ∧ bl (dl k u) = b ∧ ¬ bl (dl k v) = b) := fun u v hne hm => by
  rcases List.mem_append.1 hm with hm | hm
  ·exact .inl hm
  ·rw [List.mem_singleton, Prod.mk.injEq] at hm
   obtain ⟨e1, rfl⟩ := hm
   exact .inr ⟨rfl, e1, fun h => hne (by rw [e1, h])⟩
 rcases h s t j hs ht hj e ne with h | h | h
 ·rcases hm s t ne h with h | ⟨h1, h2, h3⟩
  ·exact .inl h
  ·exact .inr (.inr ⟨h1, fun g => h3 (g.1 h2)⟩)
 ·rcases hm t s (Ne.symm ne) h with h | ⟨h1, h2, h3⟩
  ·exact .inr (.inl h)
  ·exact .inr (.inr ⟨h1, fun g => h3 (g.2 h2)⟩)
 ·exact (h.2 Iff.rfl).elim
theorem PLaw.split {ws ws' : List (Nat × Nat)} {k0 : Nat} {X Y : Nat → Prop} {c nb : Nat} [DecidablePred Y] (hdl : ∀ j s, j < W → s < n → dl j s < n) (hbl : ∀ s, s < n → bl s < nb) (h : PLaw n W bl dl ws k0 X)
  (h1 : ∀ y ∈ ws, y ∈ ws') (h2 : ∀ j, j < W → (c, j) ∈ ws → (nb, j) ∈ ws') (h3 : ∀ j, j < W → (nb, j) ∈ ws' ∨ (c, j) ∈ ws') : PLaw n W (fun s => if bl s = c ∧ Y s then nb else bl s) dl ws' k0 X := by
 intro s t j hs ht hj e ne
 simp only at e ne ⊢
 have hss := hbl s hs
 have hts := hbl t ht
 have e0 : bl s = bl t := by
  split at e
  ·rename_i g1
   split at e
   ·rename_i g2; rw [g1.1, g2.1]
   ·omega
  ·split at e
   ·omega
   ·exact e
 have both : ∀ u, u < n → (bl (dl j u), j) ∈ ws → ((if bl (dl j u) = c ∧ Y (dl j u) then nb else bl (dl j u)), j) ∈ ws' := fun u hu hm => by
  split
  ·rename_i g; rw [g.1] at hm; exact h2 j hj hm
  ·exact h1 _ hm
 by_cases e1 : bl (dl j s) = bl (dl j t)
 · -- the targets have just been parted
  rw [e1] at ne ⊢
  by_cases ec : bl (dl j t) = c
  ·rw [ec] at ne ⊢
   simp only [true_and] at ne ⊢
   by_cases y1 : Y (dl j s)
   ·rw [if_pos y1] at ne ⊢
    by_cases y2 : Y (dl j t)
    ·rw [if_pos y2] at ne; exact (ne rfl).elim
    ·rw [if_neg y2]
     rcases h3 j hj with h | h
     ·exact .inl h
     ·exact .inr (.inl h)
   ·rw [if_neg y1] at ne ⊢
    by_cases y2 : Y (dl j t)
    ·rw [if_pos y2]
     rcases h3 j hj with h | h
     ·exact .inr (.inl h)
     ·exact .inl h
    ·rw [if_neg y2] at ne; exact (ne rfl).elim
  ·rw [if_neg (fun g => ec g.1), if_neg (fun g => ec g.1)] at ne
   exact (ne rfl).elim
 ·rcases h s t j hs ht hj e0 e1 with h | h | h
  ·exact .inl (both s hs h)
  ·exact .inr (.inl (both t ht h))
  ·exact .inr (.inr h)
theorem PLaw.same {ws : List (Nat × Nat)} {k0 : Nat} {X : Nat → Prop} {bl' : Nat → Nat} (hdl : ∀ j s, j < W → s < n → dl j s < n) (h : PLaw n W bl dl ws k0 X) (he : ∀ s, s < n → bl' s = bl s) : PLaw n W bl' dl ws k0 X := by
 intro s t j hs ht hj e ne
 have h1 := hdl j s hj hs
 have h2 := hdl j t hj ht
 rw [he s hs, he t ht] at e
 rw [he _ h1, he _ h2] at ne ⊢
 exact h s t j hs ht hj e ne
theorem PLaw.end {ws : List (Nat × Nat)} {k0 k1 : Nat} {X : Nat → Prop} (h : PLaw n W bl dl ws k0 X) (hx : ∀ s t, s < n → t < n → bl s = bl t → (X s ↔ X t)) : PLaw n W bl dl ws k1 fun _ => False := by
 intro s t j hs ht hj e ne
 rcases h s t j hs ht hj e ne with h | h | h
 ·exact .inl h
 ·exact .inr (.inl h)
 ·exact (h.2 (hx s t hs ht e)).elim
theorem PLaw.done {k0 : Nat} (h : PLaw n W bl dl [] k0 fun _ => False) {s t j : Nat} (hs : s < n) (ht : t < n) (hj : j < W) (e : bl s = bl t) : bl (dl j s) = bl (dl j t) := by
 apply Classical.byContradiction
 intro ne
 rcases h s t j hs ht hj e ne with h | h | h
 ·cases h
 ·cases h
 ·exact h.2 Iff.rfl
end law
end Go.Proofs.Ytdeableflgakdaa
