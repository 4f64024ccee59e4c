/-
  The table of this seat's types, for the verification layer; by a program of ours.
-/
import Derived.Test.YtpagkndgjihbbaaProg
import Derived.Test.YtpagkndgjihbbaaVeM
set_option linter.unusedSimpArgs false
set_option maxRecDepth 20000
namespace Go.Proofs.Ytpagkndgjihbbaa
open Go Go.V Go.Proofs

def T : Tys := fun t => match t with
  | 1 => ⟨.func, 1, 8, [.nilFunc], false⟩
  | 2 => ⟨.int .i64, 1, 8, [(.int .i64 0)], false⟩
  | 3 => ⟨.int .i64, 1, 8, [(.int .i64 0)], false⟩
  | 4 => ⟨.bool, 1, 1, [(.bool false)], false⟩
  | 5 => ⟨.int .u8, 1, 1, [(.int .u8 0)], false⟩
  | 9 => ⟨.string, 1, 16, [(.string ⟨#[]⟩)], false⟩
  | 12 => ⟨.int .u64, 1, 8, [(.int .u64 0)], false⟩
  | 13 => ⟨.struct [(0, 9), (1, 12)], 2, 24, [(.string ⟨#[]⟩), (.int .u64 0)], false⟩
  | 20 => ⟨.iface, 1, 16, [.nilIface], false⟩
  | 21 => ⟨.int .i32, 1, 4, [(.int .i32 0)], false⟩
  | 22 => ⟨.arr 256 5, 256, 256, List.replicate 256 (.int .u8 0), true⟩
  | 23 => ⟨.slice 24, 1, 24, [(.slice none 0 0)], false⟩
  | 24 => ⟨.slice 3, 1, 24, [(.slice none 0 0)], false⟩
  | 25 => ⟨.slice 9, 1, 24, [(.slice none 0 0)], false⟩
  | 26 => ⟨.struct [(0, 22), (256, 3), (257, 23), (258, 24), (259, 25)], 260, 336, List.replicate 256 (.int .u8 0) ++ [(.int .i64 0), (.slice none 0 0), (.slice none 0 0), (.slice none 0 0)], false⟩
  | 27 => ⟨.struct [(0, 22), (256, 3), (257, 23), (258, 24), (259, 25)], 260, 336, List.replicate 256 (.int .u8 0) ++ [(.int .i64 0), (.slice none 0 0), (.slice none 0 0), (.slice none 0 0)], false⟩
  | 28 => ⟨.func, 1, 8, [.nilFunc], false⟩
  | 29 => ⟨.func, 1, 8, [.nilFunc], false⟩
  | 30 => ⟨.func, 1, 8, [.nilFunc], false⟩
  | 31 => ⟨.func, 1, 8, [.nilFunc], false⟩
  | 32 => ⟨.slice 25, 1, 24, [(.slice none 0 0)], false⟩
  | 33 => ⟨.func, 1, 8, [.nilFunc], false⟩
  | 34 => ⟨.func, 1, 8, [.nilFunc], false⟩
  | 35 => ⟨.int .i64, 1, 8, [(.int .i64 0)], false⟩
  | 37 => ⟨.func, 1, 8, [.nilFunc], false⟩
  | 38 => ⟨.func, 1, 8, [.nilFunc], false⟩
  | 39 => ⟨.func, 1, 8, [.nilFunc], false⟩
  | 40 => ⟨.func, 1, 8, [.nilFunc], false⟩
  | 41 => ⟨.func, 1, 8, [.nilFunc], false⟩
  | 42 => ⟨.func, 1, 8, [.nilFunc], false⟩
  | 43 => ⟨.slice 5, 1, 24, [(.slice none 0 0)], false⟩
  | 44 => ⟨.func, 1, 8, [.nilFunc], false⟩
  | 45 => ⟨.func, 1, 8, [.nilFunc], false⟩
  | 46 => ⟨.func, 1, 8, [.nilFunc], false⟩
  | 47 => ⟨.func, 1, 8, [.nilFunc], false⟩
  | 48 => ⟨.func, 1, 8, [.nilFunc], false⟩
  | 49 => ⟨.map 9 3, 1, 8, [(.map none)], false⟩
  | 50 => ⟨.func, 1, 8, [.nilFunc], false⟩
  | 51 => ⟨.func, 1, 8, [.nilFunc], false⟩
  | 52 => ⟨.func, 1, 8, [.nilFunc], false⟩
  | 53 => ⟨.func, 1, 8, [.nilFunc], false⟩
  | 54 => ⟨.func, 1, 8, [.nilFunc], false⟩
  | 55 => ⟨.func, 1, 8, [.nilFunc], false⟩
  | 56 => ⟨.func, 1, 8, [.nilFunc], false⟩
  | 57 => ⟨.func, 1, 8, [.nilFunc], false⟩
  | 58 => ⟨.func, 1, 8, [.nilFunc], false⟩
  | 59 => ⟨.func, 1, 8, [.nilFunc], false⟩
  | 60 => ⟨.func, 1, 8, [.nilFunc], false⟩
  | 61 => ⟨.func, 1, 8, [.nilFunc], false⟩
  | 62 => ⟨.func, 1, 8, [.nilFunc], false⟩
  | 63 => ⟨.func, 1, 8, [.nilFunc], false⟩
  | 64 => ⟨.func, 1, 8, [.nilFunc], false⟩
  | 65 => ⟨.int .u64, 1, 8, [(.int .u64 0)], false⟩
  | 66 => ⟨.func, 1, 8, [.nilFunc], false⟩
  | 67 => ⟨.func, 1, 8, [.nilFunc], false⟩
  | 68 => ⟨.func, 1, 8, [.nilFunc], false⟩
  | 69 => ⟨.func, 1, 8, [.nilFunc], false⟩
  | 70 => ⟨.func, 1, 8, [.nilFunc], false⟩
  | 72 => ⟨.func, 1, 8, [.nilFunc], false⟩
  | 73 => ⟨.func, 1, 8, [.nilFunc], false⟩
  | 74 => ⟨.int .i64, 1, 8, [(.int .i64 0)], false⟩
  | 76 => ⟨.func, 1, 8, [.nilFunc], false⟩
  | 77 => ⟨.func, 1, 8, [.nilFunc], false⟩
  | 78 => ⟨.func, 1, 8, [.nilFunc], false⟩
  | 79 => ⟨.func, 1, 8, [.nilFunc], false⟩
  | 81 => ⟨.func, 1, 8, [.nilFunc], false⟩
  | 82 => ⟨.func, 1, 8, [.nilFunc], false⟩
  | 83 => ⟨.int .u32, 1, 4, [(.int .u32 0)], false⟩
  | 84 => ⟨.func, 1, 8, [.nilFunc], false⟩
  | 85 => ⟨.int .u64, 1, 8, [(.int .u64 0)], false⟩
  | 86 => ⟨.func, 1, 8, [.nilFunc], false⟩
  | 87 => ⟨.func, 1, 8, [.nilFunc], false⟩
  | 88 => ⟨.func, 1, 8, [.nilFunc], false⟩
  | 89 => ⟨.int .u64, 1, 8, [(.int .u64 0)], false⟩
  | 90 => ⟨.func, 1, 8, [.nilFunc], false⟩
  | 91 => ⟨.func, 1, 8, [.nilFunc], false⟩
  | 92 => ⟨.func, 1, 8, [.nilFunc], false⟩
  | 93 => ⟨.ptr 3, 1, 8, [(.pointer none)], false⟩
  | 94 => ⟨.func, 1, 8, [.nilFunc], false⟩
  | 95 => ⟨.func, 1, 8, [.nilFunc], false⟩
  | 96 => ⟨.slice 107, 1, 24, [(.slice none 0 0)], false⟩
  | 97 => ⟨.func, 1, 8, [.nilFunc], false⟩
  | 98 => ⟨.func, 1, 8, [.nilFunc], false⟩
  | 99 => ⟨.func, 1, 8, [.nilFunc], false⟩
  | 100 => ⟨.map 5 5, 1, 8, [(.map none)], false⟩
  | 102 => ⟨.ptr 89, 1, 8, [(.pointer none)], false⟩
  | 104 => ⟨.func, 1, 8, [.nilFunc], false⟩
  | 105 => ⟨.func, 1, 8, [.nilFunc], false⟩
  | 106 => ⟨.arr 4 85, 4, 32, [(.int .u64 0), (.int .u64 0), (.int .u64 0), (.int .u64 0)], true⟩
  | 107 => ⟨.arr 4 85, 4, 32, [(.int .u64 0), (.int .u64 0), (.int .u64 0), (.int .u64 0)], true⟩
  | 108 => ⟨.arr 256 4, 256, 256, List.replicate 256 (.bool false), true⟩
  | 109 => ⟨.func, 1, 8, [.nilFunc], false⟩
  | 110 => ⟨.func, 1, 8, [.nilFunc], false⟩
  | 113 => ⟨.arr 0 16, 0, 0, [], false⟩
  | 114 => ⟨.struct [(0, 113)], 0, 0, [], false⟩
  | 116 => ⟨.func, 1, 8, [.nilFunc], false⟩
  | 119 => ⟨.func, 1, 8, [.nilFunc], false⟩
  | 120 => ⟨.ptr 5, 1, 8, [(.pointer none)], false⟩
  | _ => ⟨.none, 0, 0, [], false⟩

theorem T1 : T 1 = ⟨.func, 1, 8, [.nilFunc], false⟩ := rfl
theorem T2 : T 2 = ⟨.int .i64, 1, 8, [(.int .i64 0)], false⟩ := rfl
theorem T3 : T 3 = ⟨.int .i64, 1, 8, [(.int .i64 0)], false⟩ := rfl
theorem T4 : T 4 = ⟨.bool, 1, 1, [(.bool false)], false⟩ := rfl
theorem T5 : T 5 = ⟨.int .u8, 1, 1, [(.int .u8 0)], false⟩ := rfl
theorem T9 : T 9 = ⟨.string, 1, 16, [(.string ⟨#[]⟩)], false⟩ := rfl
theorem T12 : T 12 = ⟨.int .u64, 1, 8, [(.int .u64 0)], false⟩ := rfl
theorem T13 : T 13 = ⟨.struct [(0, 9), (1, 12)], 2, 24, [(.string ⟨#[]⟩), (.int .u64 0)], false⟩ := rfl
theorem T20 : T 20 = ⟨.iface, 1, 16, [.nilIface], false⟩ := rfl
theorem T21 : T 21 = ⟨.int .i32, 1, 4, [(.int .i32 0)], false⟩ := rfl
theorem T22 : T 22 = ⟨.arr 256 5, 256, 256, List.replicate 256 (.int .u8 0), true⟩ := rfl
theorem T23 : T 23 = ⟨.slice 24, 1, 24, [(.slice none 0 0)], false⟩ := rfl
theorem T24 : T 24 = ⟨.slice 3, 1, 24, [(.slice none 0 0)], false⟩ := rfl
theorem T25 : T 25 = ⟨.slice 9, 1, 24, [(.slice none 0 0)], false⟩ := rfl
theorem T26 : T 26 = ⟨.struct [(0, 22), (256, 3), (257, 23), (258, 24), (259, 25)], 260, 336, List.replicate 256 (.int .u8 0) ++ [(.int .i64 0), (.slice none 0 0), (.slice none 0 0), (.slice none 0 0)], false⟩ := rfl
theorem T27 : T 27 = ⟨.struct [(0, 22), (256, 3), (257, 23), (258, 24), (259, 25)], 260, 336, List.replicate 256 (.int .u8 0) ++ [(.int .i64 0), (.slice none 0 0), (.slice none 0 0), (.slice none 0 0)], false⟩ := rfl
theorem T28 : T 28 = ⟨.func, 1, 8, [.nilFunc], false⟩ := rfl
theorem T29 : T 29 = ⟨.func, 1, 8, [.nilFunc], false⟩ := rfl
theorem T30 : T 30 = ⟨.func, 1, 8, [.nilFunc], false⟩ := rfl
theorem T31 : T 31 = ⟨.func, 1, 8, [.nilFunc], false⟩ := rfl
theorem T32 : T 32 = ⟨.slice 25, 1, 24, [(.slice none 0 0)], false⟩ := rfl
theorem T33 : T 33 = ⟨.func, 1, 8, [.nilFunc], false⟩ := rfl
theorem T34 : T 34 = ⟨.func, 1, 8, [.nilFunc], false⟩ := rfl
theorem T35 : T 35 = ⟨.int .i64, 1, 8, [(.int .i64 0)], false⟩ := rfl
theorem T37 : T 37 = ⟨.func, 1, 8, [.nilFunc], false⟩ := rfl
theorem T38 : T 38 = ⟨.func, 1, 8, [.nilFunc], false⟩ := rfl
theorem T39 : T 39 = ⟨.func, 1, 8, [.nilFunc], false⟩ := rfl
theorem T40 : T 40 = ⟨.func, 1, 8, [.nilFunc], false⟩ := rfl
theorem T41 : T 41 = ⟨.func, 1, 8, [.nilFunc], false⟩ := rfl
theorem T42 : T 42 = ⟨.func, 1, 8, [.nilFunc], false⟩ := rfl
theorem T43 : T 43 = ⟨.slice 5, 1, 24, [(.slice none 0 0)], false⟩ := rfl
theorem T44 : T 44 = ⟨.func, 1, 8, [.nilFunc], false⟩ := rfl
theorem T45 : T 45 = ⟨.func, 1, 8, [.nilFunc], false⟩ := rfl
theorem T46 : T 46 = ⟨.func, 1, 8, [.nilFunc], false⟩ := rfl
theorem T47 : T 47 = ⟨.func, 1, 8, [.nilFunc], false⟩ := rfl
theorem T48 : T 48 = ⟨.func, 1, 8, [.nilFunc], false⟩ := rfl
theorem T49 : T 49 = ⟨.map 9 3, 1, 8, [(.map none)], false⟩ := rfl
theorem T50 : T 50 = ⟨.func, 1, 8, [.nilFunc], false⟩ := rfl
theorem T51 : T 51 = ⟨.func, 1, 8, [.nilFunc], false⟩ := rfl
theorem T52 : T 52 = ⟨.func, 1, 8, [.nilFunc], false⟩ := rfl
theorem T53 : T 53 = ⟨.func, 1, 8, [.nilFunc], false⟩ := rfl
theorem T54 : T 54 = ⟨.func, 1, 8, [.nilFunc], false⟩ := rfl
theorem T55 : T 55 = ⟨.func, 1, 8, [.nilFunc], false⟩ := rfl
theorem T56 : T 56 = ⟨.func, 1, 8, [.nilFunc], false⟩ := rfl
theorem T57 : T 57 = ⟨.func, 1, 8, [.nilFunc], false⟩ := rfl
theorem T58 : T 58 = ⟨.func, 1, 8, [.nilFunc], false⟩ := rfl
theorem T59 : T 59 = ⟨.func, 1, 8, [.nilFunc], false⟩ := rfl
theorem T60 : T 60 = ⟨.func, 1, 8, [.nilFunc], false⟩ := rfl
theorem T61 : T 61 = ⟨.func, 1, 8, [.nilFunc], false⟩ := rfl
theorem T62 : T 62 = ⟨.func, 1, 8, [.nilFunc], false⟩ := rfl
theorem T63 : T 63 = ⟨.func, 1, 8, [.nilFunc], false⟩ := rfl
theorem T64 : T 64 = ⟨.func, 1, 8, [.nilFunc], false⟩ := rfl
theorem T65 : T 65 = ⟨.int .u64, 1, 8, [(.int .u64 0)], false⟩ := rfl
theorem T66 : T 66 = ⟨.func, 1, 8, [.nilFunc], false⟩ := rfl
theorem T67 : T 67 = ⟨.func, 1, 8, [.nilFunc], false⟩ := rfl
theorem T68 : T 68 = ⟨.func, 1, 8, [.nilFunc], false⟩ := rfl
theorem T69 : T 69 = ⟨.func, 1, 8, [.nilFunc], false⟩ := rfl
theorem T70 : T 70 = ⟨.func, 1, 8, [.nilFunc], false⟩ := rfl
theorem T72 : T 72 = ⟨.func, 1, 8, [.nilFunc], false⟩ := rfl
theorem T73 : T 73 = ⟨.func, 1, 8, [.nilFunc], false⟩ := rfl
theorem T74 : T 74 = ⟨.int .i64, 1, 8, [(.int .i64 0)], false⟩ := rfl
theorem T76 : T 76 = ⟨.func, 1, 8, [.nilFunc], false⟩ := rfl
theorem T77 : T 77 = ⟨.func, 1, 8, [.nilFunc], false⟩ := rfl
theorem T78 : T 78 = ⟨.func, 1, 8, [.nilFunc], false⟩ := rfl
theorem T79 : T 79 = ⟨.func, 1, 8, [.nilFunc], false⟩ := rfl
theorem T81 : T 81 = ⟨.func, 1, 8, [.nilFunc], false⟩ := rfl
theorem T82 : T 82 = ⟨.func, 1, 8, [.nilFunc], false⟩ := rfl
theorem T83 : T 83 = ⟨.int .u32, 1, 4, [(.int .u32 0)], false⟩ := rfl
theorem T84 : T 84 = ⟨.func, 1, 8, [.nilFunc], false⟩ := rfl
theorem T85 : T 85 = ⟨.int .u64, 1, 8, [(.int .u64 0)], false⟩ := rfl
theorem T86 : T 86 = ⟨.func, 1, 8, [.nilFunc], false⟩ := rfl
theorem T87 : T 87 = ⟨.func, 1, 8, [.nilFunc], false⟩ := rfl
theorem T88 : T 88 = ⟨.func, 1, 8, [.nilFunc], false⟩ := rfl
theorem T89 : T 89 = ⟨.int .u64, 1, 8, [(.int .u64 0)], false⟩ := rfl
theorem T90 : T 90 = ⟨.func, 1, 8, [.nilFunc], false⟩ := rfl
theorem T91 : T 91 = ⟨.func, 1, 8, [.nilFunc], false⟩ := rfl
theorem T92 : T 92 = ⟨.func, 1, 8, [.nilFunc], false⟩ := rfl
theorem T93 : T 93 = ⟨.ptr 3, 1, 8, [(.pointer none)], false⟩ := rfl
theorem T94 : T 94 = ⟨.func, 1, 8, [.nilFunc], false⟩ := rfl
theorem T95 : T 95 = ⟨.func, 1, 8, [.nilFunc], false⟩ := rfl
theorem T96 : T 96 = ⟨.slice 107, 1, 24, [(.slice none 0 0)], false⟩ := rfl
theorem T97 : T 97 = ⟨.func, 1, 8, [.nilFunc], false⟩ := rfl
theorem T98 : T 98 = ⟨.func, 1, 8, [.nilFunc], false⟩ := rfl
theorem T99 : T 99 = ⟨.func, 1, 8, [.nilFunc], false⟩ := rfl
theorem T100 : T 100 = ⟨.map 5 5, 1, 8, [(.map none)], false⟩ := rfl
theorem T102 : T 102 = ⟨.ptr 89, 1, 8, [(.pointer none)], false⟩ := rfl
theorem T104 : T 104 = ⟨.func, 1, 8, [.nilFunc], false⟩ := rfl
theorem T105 : T 105 = ⟨.func, 1, 8, [.nilFunc], false⟩ := rfl
theorem T106 : T 106 = ⟨.arr 4 85, 4, 32, [(.int .u64 0), (.int .u64 0), (.int .u64 0), (.int .u64 0)], true⟩ := rfl
theorem T107 : T 107 = ⟨.arr 4 85, 4, 32, [(.int .u64 0), (.int .u64 0), (.int .u64 0), (.int .u64 0)], true⟩ := rfl
theorem T108 : T 108 = ⟨.arr 256 4, 256, 256, List.replicate 256 (.bool false), true⟩ := rfl
theorem T109 : T 109 = ⟨.func, 1, 8, [.nilFunc], false⟩ := rfl
theorem T110 : T 110 = ⟨.func, 1, 8, [.nilFunc], false⟩ := rfl
theorem T113 : T 113 = ⟨.arr 0 16, 0, 0, [], false⟩ := rfl
theorem T114 : T 114 = ⟨.struct [(0, 113)], 0, 0, [], false⟩ := rfl
theorem T116 : T 116 = ⟨.func, 1, 8, [.nilFunc], false⟩ := rfl
theorem T119 : T 119 = ⟨.func, 1, 8, [.nilFunc], false⟩ := rfl
theorem T120 : T 120 = ⟨.ptr 5, 1, 8, [(.pointer none)], false⟩ := rfl
attribute [go_sem] T1 T2 T3 T4 T5 T9 T12 T13 T20 T21 T22 T23 T24 T25 T26 T27 T28 T29 T30 T31 T32 T33 T34 T35 T37 T38 T39 T40 T41 T42 T43 T44 T45 T46 T47 T48 T49 T50 T51 T52 T53 T54 T55 T56 T57 T58 T59 T60 T61 T62 T63 T64 T65 T66 T67 T68 T69 T70 T72 T73 T74 T76 T77 T78 T79 T81 T82 T83 T84 T85 T86 T87 T88 T89 T90 T91 T92 T93 T94 T95 T96 T97 T98 T99 T100 T102 T104 T105 T106 T107 T108 T109 T110 T113 T114 T116 T119 T120

theorem ok1 : ∃ d i z, Try.prog.underlying 1 = some d ∧ (T 1).k.fits d ∧ Try.prog.info? 1 = some i ∧ i.size = (T 1).size ∧ i.bytes = (T 1).bytes ∧ i.zero = some z ∧ z.cells.toList = (T 1).zero ∧ z = zeroVal (T 1) ∧ ((T 1).eq = true → eqB Try.prog 1 d = true) :=
  ⟨_, Try.t1, _, Try.underlying1, ⟨_, _, _, rfl⟩, Try.type1, rfl, rfl, rfl, rfl, rfl, fun h => by cases h⟩
theorem ok2 : ∃ d i z, Try.prog.underlying 2 = some d ∧ (T 2).k.fits d ∧ Try.prog.info? 2 = some i ∧ i.size = (T 2).size ∧ i.bytes = (T 2).bytes ∧ i.zero = some z ∧ z.cells.toList = (T 2).zero ∧ z = zeroVal (T 2) ∧ ((T 2).eq = true → eqB Try.prog 2 d = true) :=
  ⟨_, Try.t2, _, Try.underlying2, rfl, Try.type2, rfl, rfl, rfl, rfl, rfl, fun h => by cases h⟩
theorem ok3 : ∃ d i z, Try.prog.underlying 3 = some d ∧ (T 3).k.fits d ∧ Try.prog.info? 3 = some i ∧ i.size = (T 3).size ∧ i.bytes = (T 3).bytes ∧ i.zero = some z ∧ z.cells.toList = (T 3).zero ∧ z = zeroVal (T 3) ∧ ((T 3).eq = true → eqB Try.prog 3 d = true) :=
  ⟨_, Try.t3, _, Try.underlying3, rfl, Try.type3, rfl, rfl, rfl, rfl, rfl, fun h => by cases h⟩
theorem ok4 : ∃ d i z, Try.prog.underlying 4 = some d ∧ (T 4).k.fits d ∧ Try.prog.info? 4 = some i ∧ i.size = (T 4).size ∧ i.bytes = (T 4).bytes ∧ i.zero = some z ∧ z.cells.toList = (T 4).zero ∧ z = zeroVal (T 4) ∧ ((T 4).eq = true → eqB Try.prog 4 d = true) :=
  ⟨_, Try.t4, _, Try.underlying4, rfl, Try.type4, rfl, rfl, rfl, rfl, rfl, fun h => by cases h⟩
theorem ok5 : ∃ d i z, Try.prog.underlying 5 = some d ∧ (T 5).k.fits d ∧ Try.prog.info? 5 = some i ∧ i.size = (T 5).size ∧ i.bytes = (T 5).bytes ∧ i.zero = some z ∧ z.cells.toList = (T 5).zero ∧ z = zeroVal (T 5) ∧ ((T 5).eq = true → eqB Try.prog 5 d = true) :=
  ⟨_, Try.t5, _, Try.underlying5, rfl, Try.type5, rfl, rfl, rfl, rfl, rfl, fun h => by cases h⟩
theorem ok9 : ∃ d i z, Try.prog.underlying 9 = some d ∧ (T 9).k.fits d ∧ Try.prog.info? 9 = some i ∧ i.size = (T 9).size ∧ i.bytes = (T 9).bytes ∧ i.zero = some z ∧ z.cells.toList = (T 9).zero ∧ z = zeroVal (T 9) ∧ ((T 9).eq = true → eqB Try.prog 9 d = true) :=
  ⟨_, Try.t9, _, Try.underlying9, rfl, Try.type9, rfl, rfl, rfl, rfl, rfl, fun h => by cases h⟩
theorem ok12 : ∃ d i z, Try.prog.underlying 12 = some d ∧ (T 12).k.fits d ∧ Try.prog.info? 12 = some i ∧ i.size = (T 12).size ∧ i.bytes = (T 12).bytes ∧ i.zero = some z ∧ z.cells.toList = (T 12).zero ∧ z = zeroVal (T 12) ∧ ((T 12).eq = true → eqB Try.prog 12 d = true) :=
  ⟨_, Try.t12, _, Try.underlying12, rfl, Try.type12, rfl, rfl, rfl, rfl, rfl, fun h => by cases h⟩
theorem ok13 : ∃ d i z, Try.prog.underlying 13 = some d ∧ (T 13).k.fits d ∧ Try.prog.info? 13 = some i ∧ i.size = (T 13).size ∧ i.bytes = (T 13).bytes ∧ i.zero = some z ∧ z.cells.toList = (T 13).zero ∧ z = zeroVal (T 13) ∧ ((T 13).eq = true → eqB Try.prog 13 d = true) :=
  ⟨_, Try.t13, _, Try.underlying13, ⟨_, rfl, rfl⟩, Try.type13, rfl, rfl, rfl, rfl, rfl, fun h => by cases h⟩
theorem ok20 : ∃ d i z, Try.prog.underlying 20 = some d ∧ (T 20).k.fits d ∧ Try.prog.info? 20 = some i ∧ i.size = (T 20).size ∧ i.bytes = (T 20).bytes ∧ i.zero = some z ∧ z.cells.toList = (T 20).zero ∧ z = zeroVal (T 20) ∧ ((T 20).eq = true → eqB Try.prog 20 d = true) :=
  ⟨_, Try.t20, _, Try.underlying20, ⟨_, rfl⟩, Try.type20, rfl, rfl, rfl, rfl, rfl, fun h => by cases h⟩
theorem ok21 : ∃ d i z, Try.prog.underlying 21 = some d ∧ (T 21).k.fits d ∧ Try.prog.info? 21 = some i ∧ i.size = (T 21).size ∧ i.bytes = (T 21).bytes ∧ i.zero = some z ∧ z.cells.toList = (T 21).zero ∧ z = zeroVal (T 21) ∧ ((T 21).eq = true → eqB Try.prog 21 d = true) :=
  ⟨_, Try.t21, _, Try.underlying21, rfl, Try.type21, rfl, rfl, rfl, rfl, rfl, fun h => by cases h⟩
theorem ok22 : ∃ d i z, Try.prog.underlying 22 = some d ∧ (T 22).k.fits d ∧ Try.prog.info? 22 = some i ∧ i.size = (T 22).size ∧ i.bytes = (T 22).bytes ∧ i.zero = some z ∧ z.cells.toList = (T 22).zero ∧ z = zeroVal (T 22) ∧ ((T 22).eq = true → eqB Try.prog 22 d = true) :=
  ⟨_, Try.t22, _, Try.underlying22, rfl, Try.type22, rfl, rfl, rfl, rfl, rfl, fun _ => by kernel_rfl⟩
theorem ok23 : ∃ d i z, Try.prog.underlying 23 = some d ∧ (T 23).k.fits d ∧ Try.prog.info? 23 = some i ∧ i.size = (T 23).size ∧ i.bytes = (T 23).bytes ∧ i.zero = some z ∧ z.cells.toList = (T 23).zero ∧ z = zeroVal (T 23) ∧ ((T 23).eq = true → eqB Try.prog 23 d = true) :=
  ⟨_, Try.t23, _, Try.underlying23, rfl, Try.type23, rfl, rfl, rfl, rfl, rfl, fun h => by cases h⟩
theorem ok24 : ∃ d i z, Try.prog.underlying 24 = some d ∧ (T 24).k.fits d ∧ Try.prog.info? 24 = some i ∧ i.size = (T 24).size ∧ i.bytes = (T 24).bytes ∧ i.zero = some z ∧ z.cells.toList = (T 24).zero ∧ z = zeroVal (T 24) ∧ ((T 24).eq = true → eqB Try.prog 24 d = true) :=
  ⟨_, Try.t24, _, Try.underlying24, rfl, Try.type24, rfl, rfl, rfl, rfl, rfl, fun h => by cases h⟩
theorem ok25 : ∃ d i z, Try.prog.underlying 25 = some d ∧ (T 25).k.fits d ∧ Try.prog.info? 25 = some i ∧ i.size = (T 25).size ∧ i.bytes = (T 25).bytes ∧ i.zero = some z ∧ z.cells.toList = (T 25).zero ∧ z = zeroVal (T 25) ∧ ((T 25).eq = true → eqB Try.prog 25 d = true) :=
  ⟨_, Try.t25, _, Try.underlying25, rfl, Try.type25, rfl, rfl, rfl, rfl, rfl, fun h => by cases h⟩
theorem ok26 : ∃ d i z, Try.prog.underlying 26 = some d ∧ (T 26).k.fits d ∧ Try.prog.info? 26 = some i ∧ i.size = (T 26).size ∧ i.bytes = (T 26).bytes ∧ i.zero = some z ∧ z.cells.toList = (T 26).zero ∧ z = zeroVal (T 26) ∧ ((T 26).eq = true → eqB Try.prog 26 d = true) :=
  ⟨_, Try.t26, _, Try.underlying26, ⟨_, rfl, rfl⟩, Try.type26, rfl, rfl, rfl, rfl, rfl, fun h => by cases h⟩
theorem ok27 : ∃ d i z, Try.prog.underlying 27 = some d ∧ (T 27).k.fits d ∧ Try.prog.info? 27 = some i ∧ i.size = (T 27).size ∧ i.bytes = (T 27).bytes ∧ i.zero = some z ∧ z.cells.toList = (T 27).zero ∧ z = zeroVal (T 27) ∧ ((T 27).eq = true → eqB Try.prog 27 d = true) :=
  ⟨_, Try.t27, _, Try.underlying27, ⟨_, rfl, rfl⟩, Try.type27, rfl, rfl, rfl, rfl, rfl, fun h => by cases h⟩
theorem ok28 : ∃ d i z, Try.prog.underlying 28 = some d ∧ (T 28).k.fits d ∧ Try.prog.info? 28 = some i ∧ i.size = (T 28).size ∧ i.bytes = (T 28).bytes ∧ i.zero = some z ∧ z.cells.toList = (T 28).zero ∧ z = zeroVal (T 28) ∧ ((T 28).eq = true → eqB Try.prog 28 d = true) :=
  ⟨_, Try.t28, _, Try.underlying28, ⟨_, _, _, rfl⟩, Try.type28, rfl, rfl, rfl, rfl, rfl, fun h => by cases h⟩
theorem ok29 : ∃ d i z, Try.prog.underlying 29 = some d ∧ (T 29).k.fits d ∧ Try.prog.info? 29 = some i ∧ i.size = (T 29).size ∧ i.bytes = (T 29).bytes ∧ i.zero = some z ∧ z.cells.toList = (T 29).zero ∧ z = zeroVal (T 29) ∧ ((T 29).eq = true → eqB Try.prog 29 d = true) :=
  ⟨_, Try.t29, _, Try.underlying29, ⟨_, _, _, rfl⟩, Try.type29, rfl, rfl, rfl, rfl, rfl, fun h => by cases h⟩
theorem ok30 : ∃ d i z, Try.prog.underlying 30 = some d ∧ (T 30).k.fits d ∧ Try.prog.info? 30 = some i ∧ i.size = (T 30).size ∧ i.bytes = (T 30).bytes ∧ i.zero = some z ∧ z.cells.toList = (T 30).zero ∧ z = zeroVal (T 30) ∧ ((T 30).eq = true → eqB Try.prog 30 d = true) :=
  ⟨_, Try.t30, _, Try.underlying30, ⟨_, _, _, rfl⟩, Try.type30, rfl, rfl, rfl, rfl, rfl, fun h => by cases h⟩
theorem ok31 : ∃ d i z, Try.prog.underlying 31 = some d ∧ (T 31).k.fits d ∧ Try.prog.info? 31 = some i ∧ i.size = (T 31).size ∧ i.bytes = (T 31).bytes ∧ i.zero = some z ∧ z.cells.toList = (T 31).zero ∧ z = zeroVal (T 31) ∧ ((T 31).eq = true → eqB Try.prog 31 d = true) :=
  ⟨_, Try.t31, _, Try.underlying31, ⟨_, _, _, rfl⟩, Try.type31, rfl, rfl, rfl, rfl, rfl, fun h => by cases h⟩
theorem ok32 : ∃ d i z, Try.prog.underlying 32 = some d ∧ (T 32).k.fits d ∧ Try.prog.info? 32 = some i ∧ i.size = (T 32).size ∧ i.bytes = (T 32).bytes ∧ i.zero = some z ∧ z.cells.toList = (T 32).zero ∧ z = zeroVal (T 32) ∧ ((T 32).eq = true → eqB Try.prog 32 d = true) :=
  ⟨_, Try.t32, _, Try.underlying32, rfl, Try.type32, rfl, rfl, rfl, rfl, rfl, fun h => by cases h⟩
theorem ok33 : ∃ d i z, Try.prog.underlying 33 = some d ∧ (T 33).k.fits d ∧ Try.prog.info? 33 = some i ∧ i.size = (T 33).size ∧ i.bytes = (T 33).bytes ∧ i.zero = some z ∧ z.cells.toList = (T 33).zero ∧ z = zeroVal (T 33) ∧ ((T 33).eq = true → eqB Try.prog 33 d = true) :=
  ⟨_, Try.t33, _, Try.underlying33, ⟨_, _, _, rfl⟩, Try.type33, rfl, rfl, rfl, rfl, rfl, fun h => by cases h⟩
theorem ok34 : ∃ d i z, Try.prog.underlying 34 = some d ∧ (T 34).k.fits d ∧ Try.prog.info? 34 = some i ∧ i.size = (T 34).size ∧ i.bytes = (T 34).bytes ∧ i.zero = some z ∧ z.cells.toList = (T 34).zero ∧ z = zeroVal (T 34) ∧ ((T 34).eq = true → eqB Try.prog 34 d = true) :=
  ⟨_, Try.t34, _, Try.underlying34, ⟨_, _, _, rfl⟩, Try.type34, rfl, rfl, rfl, rfl, rfl, fun h => by cases h⟩
theorem ok35 : ∃ d i z, Try.prog.underlying 35 = some d ∧ (T 35).k.fits d ∧ Try.prog.info? 35 = some i ∧ i.size = (T 35).size ∧ i.bytes = (T 35).bytes ∧ i.zero = some z ∧ z.cells.toList = (T 35).zero ∧ z = zeroVal (T 35) ∧ ((T 35).eq = true → eqB Try.prog 35 d = true) :=
  ⟨_, Try.t35, _, Try.underlying35, rfl, Try.type35, rfl, rfl, rfl, rfl, rfl, fun h => by cases h⟩
theorem ok37 : ∃ d i z, Try.prog.underlying 37 = some d ∧ (T 37).k.fits d ∧ Try.prog.info? 37 = some i ∧ i.size = (T 37).size ∧ i.bytes = (T 37).bytes ∧ i.zero = some z ∧ z.cells.toList = (T 37).zero ∧ z = zeroVal (T 37) ∧ ((T 37).eq = true → eqB Try.prog 37 d = true) :=
  ⟨_, Try.t37, _, Try.underlying37, ⟨_, _, _, rfl⟩, Try.type37, rfl, rfl, rfl, rfl, rfl, fun h => by cases h⟩
theorem ok38 : ∃ d i z, Try.prog.underlying 38 = some d ∧ (T 38).k.fits d ∧ Try.prog.info? 38 = some i ∧ i.size = (T 38).size ∧ i.bytes = (T 38).bytes ∧ i.zero = some z ∧ z.cells.toList = (T 38).zero ∧ z = zeroVal (T 38) ∧ ((T 38).eq = true → eqB Try.prog 38 d = true) :=
  ⟨_, Try.t38, _, Try.underlying38, ⟨_, _, _, rfl⟩, Try.type38, rfl, rfl, rfl, rfl, rfl, fun h => by cases h⟩
theorem ok39 : ∃ d i z, Try.prog.underlying 39 = some d ∧ (T 39).k.fits d ∧ Try.prog.info? 39 = some i ∧ i.size = (T 39).size ∧ i.bytes = (T 39).bytes ∧ i.zero = some z ∧ z.cells.toList = (T 39).zero ∧ z = zeroVal (T 39) ∧ ((T 39).eq = true → eqB Try.prog 39 d = true) :=
  ⟨_, Try.t39, _, Try.underlying39, ⟨_, _, _, rfl⟩, Try.type39, rfl, rfl, rfl, rfl, rfl, fun h => by cases h⟩
theorem ok40 : ∃ d i z, Try.prog.underlying 40 = some d ∧ (T 40).k.fits d ∧ Try.prog.info? 40 = some i ∧ i.size = (T 40).size ∧ i.bytes = (T 40).bytes ∧ i.zero = some z ∧ z.cells.toList = (T 40).zero ∧ z = zeroVal (T 40) ∧ ((T 40).eq = true → eqB Try.prog 40 d = true) :=
  ⟨_, Try.t40, _, Try.underlying40, ⟨_, _, _, rfl⟩, Try.type40, rfl, rfl, rfl, rfl, rfl, fun h => by cases h⟩
theorem ok41 : ∃ d i z, Try.prog.underlying 41 = some d ∧ (T 41).k.fits d ∧ Try.prog.info? 41 = some i ∧ i.size = (T 41).size ∧ i.bytes = (T 41).bytes ∧ i.zero = some z ∧ z.cells.toList = (T 41).zero ∧ z = zeroVal (T 41) ∧ ((T 41).eq = true → eqB Try.prog 41 d = true) :=
  ⟨_, Try.t41, _, Try.underlying41, ⟨_, _, _, rfl⟩, Try.type41, rfl, rfl, rfl, rfl, rfl, fun h => by cases h⟩
theorem ok42 : ∃ d i z, Try.prog.underlying 42 = some d ∧ (T 42).k.fits d ∧ Try.prog.info? 42 = some i ∧ i.size = (T 42).size ∧ i.bytes = (T 42).bytes ∧ i.zero = some z ∧ z.cells.toList = (T 42).zero ∧ z = zeroVal (T 42) ∧ ((T 42).eq = true → eqB Try.prog 42 d = true) :=
  ⟨_, Try.t42, _, Try.underlying42, ⟨_, _, _, rfl⟩, Try.type42, rfl, rfl, rfl, rfl, rfl, fun h => by cases h⟩
theorem ok43 : ∃ d i z, Try.prog.underlying 43 = some d ∧ (T 43).k.fits d ∧ Try.prog.info? 43 = some i ∧ i.size = (T 43).size ∧ i.bytes = (T 43).bytes ∧ i.zero = some z ∧ z.cells.toList = (T 43).zero ∧ z = zeroVal (T 43) ∧ ((T 43).eq = true → eqB Try.prog 43 d = true) :=
  ⟨_, Try.t43, _, Try.underlying43, rfl, Try.type43, rfl, rfl, rfl, rfl, rfl, fun h => by cases h⟩
theorem ok44 : ∃ d i z, Try.prog.underlying 44 = some d ∧ (T 44).k.fits d ∧ Try.prog.info? 44 = some i ∧ i.size = (T 44).size ∧ i.bytes = (T 44).bytes ∧ i.zero = some z ∧ z.cells.toList = (T 44).zero ∧ z = zeroVal (T 44) ∧ ((T 44).eq = true → eqB Try.prog 44 d = true) :=
  ⟨_, Try.t44, _, Try.underlying44, ⟨_, _, _, rfl⟩, Try.type44, rfl, rfl, rfl, rfl, rfl, fun h => by cases h⟩
theorem ok45 : ∃ d i z, Try.prog.underlying 45 = some d ∧ (T 45).k.fits d ∧ Try.prog.info? 45 = some i ∧ i.size = (T 45).size ∧ i.bytes = (T 45).bytes ∧ i.zero = some z ∧ z.cells.toList = (T 45).zero ∧ z = zeroVal (T 45) ∧ ((T 45).eq = true → eqB Try.prog 45 d = true) :=
  ⟨_, Try.t45, _, Try.underlying45, ⟨_, _, _, rfl⟩, Try.type45, rfl, rfl, rfl, rfl, rfl, fun h => by cases h⟩
theorem ok46 : ∃ d i z, Try.prog.underlying 46 = some d ∧ (T 46).k.fits d ∧ Try.prog.info? 46 = some i ∧ i.size = (T 46).size ∧ i.bytes = (T 46).bytes ∧ i.zero = some z ∧ z.cells.toList = (T 46).zero ∧ z = zeroVal (T 46) ∧ ((T 46).eq = true → eqB Try.prog 46 d = true) :=
  ⟨_, Try.t46, _, Try.underlying46, ⟨_, _, _, rfl⟩, Try.type46, rfl, rfl, rfl, rfl, rfl, fun h => by cases h⟩
theorem ok47 : ∃ d i z, Try.prog.underlying 47 = some d ∧ (T 47).k.fits d ∧ Try.prog.info? 47 = some i ∧ i.size = (T 47).size ∧ i.bytes = (T 47).bytes ∧ i.zero = some z ∧ z.cells.toList = (T 47).zero ∧ z = zeroVal (T 47) ∧ ((T 47).eq = true → eqB Try.prog 47 d = true) :=
  ⟨_, Try.t47, _, Try.underlying47, ⟨_, _, _, rfl⟩, Try.type47, rfl, rfl, rfl, rfl, rfl, fun h => by cases h⟩
theorem ok48 : ∃ d i z, Try.prog.underlying 48 = some d ∧ (T 48).k.fits d ∧ Try.prog.info? 48 = some i ∧ i.size = (T 48).size ∧ i.bytes = (T 48).bytes ∧ i.zero = some z ∧ z.cells.toList = (T 48).zero ∧ z = zeroVal (T 48) ∧ ((T 48).eq = true → eqB Try.prog 48 d = true) :=
  ⟨_, Try.t48, _, Try.underlying48, ⟨_, _, _, rfl⟩, Try.type48, rfl, rfl, rfl, rfl, rfl, fun h => by cases h⟩
theorem ok49 : ∃ d i z, Try.prog.underlying 49 = some d ∧ (T 49).k.fits d ∧ Try.prog.info? 49 = some i ∧ i.size = (T 49).size ∧ i.bytes = (T 49).bytes ∧ i.zero = some z ∧ z.cells.toList = (T 49).zero ∧ z = zeroVal (T 49) ∧ ((T 49).eq = true → eqB Try.prog 49 d = true) :=
  ⟨_, Try.t49, _, Try.underlying49, rfl, Try.type49, rfl, rfl, rfl, rfl, rfl, fun h => by cases h⟩
theorem ok50 : ∃ d i z, Try.prog.underlying 50 = some d ∧ (T 50).k.fits d ∧ Try.prog.info? 50 = some i ∧ i.size = (T 50).size ∧ i.bytes = (T 50).bytes ∧ i.zero = some z ∧ z.cells.toList = (T 50).zero ∧ z = zeroVal (T 50) ∧ ((T 50).eq = true → eqB Try.prog 50 d = true) :=
  ⟨_, Try.t50, _, Try.underlying50, ⟨_, _, _, rfl⟩, Try.type50, rfl, rfl, rfl, rfl, rfl, fun h => by cases h⟩
theorem ok51 : ∃ d i z, Try.prog.underlying 51 = some d ∧ (T 51).k.fits d ∧ Try.prog.info? 51 = some i ∧ i.size = (T 51).size ∧ i.bytes = (T 51).bytes ∧ i.zero = some z ∧ z.cells.toList = (T 51).zero ∧ z = zeroVal (T 51) ∧ ((T 51).eq = true → eqB Try.prog 51 d = true) :=
  ⟨_, Try.t51, _, Try.underlying51, ⟨_, _, _, rfl⟩, Try.type51, rfl, rfl, rfl, rfl, rfl, fun h => by cases h⟩
theorem ok52 : ∃ d i z, Try.prog.underlying 52 = some d ∧ (T 52).k.fits d ∧ Try.prog.info? 52 = some i ∧ i.size = (T 52).size ∧ i.bytes = (T 52).bytes ∧ i.zero = some z ∧ z.cells.toList = (T 52).zero ∧ z = zeroVal (T 52) ∧ ((T 52).eq = true → eqB Try.prog 52 d = true) :=
  ⟨_, Try.t52, _, Try.underlying52, ⟨_, _, _, rfl⟩, Try.type52, rfl, rfl, rfl, rfl, rfl, fun h => by cases h⟩
theorem ok53 : ∃ d i z, Try.prog.underlying 53 = some d ∧ (T 53).k.fits d ∧ Try.prog.info? 53 = some i ∧ i.size = (T 53).size ∧ i.bytes = (T 53).bytes ∧ i.zero = some z ∧ z.cells.toList = (T 53).zero ∧ z = zeroVal (T 53) ∧ ((T 53).eq = true → eqB Try.prog 53 d = true) :=
  ⟨_, Try.t53, _, Try.underlying53, ⟨_, _, _, rfl⟩, Try.type53, rfl, rfl, rfl, rfl, rfl, fun h => by cases h⟩
theorem ok54 : ∃ d i z, Try.prog.underlying 54 = some d ∧ (T 54).k.fits d ∧ Try.prog.info? 54 = some i ∧ i.size = (T 54).size ∧ i.bytes = (T 54).bytes ∧ i.zero = some z ∧ z.cells.toList = (T 54).zero ∧ z = zeroVal (T 54) ∧ ((T 54).eq = true → eqB Try.prog 54 d = true) :=
  ⟨_, Try.t54, _, Try.underlying54, ⟨_, _, _, rfl⟩, Try.type54, rfl, rfl, rfl, rfl, rfl, fun h => by cases h⟩
theorem ok55 : ∃ d i z, Try.prog.underlying 55 = some d ∧ (T 55).k.fits d ∧ Try.prog.info? 55 = some i ∧ i.size = (T 55).size ∧ i.bytes = (T 55).bytes ∧ i.zero = some z ∧ z.cells.toList = (T 55).zero ∧ z = zeroVal (T 55) ∧ ((T 55).eq = true → eqB Try.prog 55 d = true) :=
  ⟨_, Try.t55, _, Try.underlying55, ⟨_, _, _, rfl⟩, Try.type55, rfl, rfl, rfl, rfl, rfl, fun h => by cases h⟩
theorem ok56 : ∃ d i z, Try.prog.underlying 56 = some d ∧ (T 56).k.fits d ∧ Try.prog.info? 56 = some i ∧ i.size = (T 56).size ∧ i.bytes = (T 56).bytes ∧ i.zero = some z ∧ z.cells.toList = (T 56).zero ∧ z = zeroVal (T 56) ∧ ((T 56).eq = true → eqB Try.prog 56 d = true) :=
  ⟨_, Try.t56, _, Try.underlying56, ⟨_, _, _, rfl⟩, Try.type56, rfl, rfl, rfl, rfl, rfl, fun h => by cases h⟩
theorem ok57 : ∃ d i z, Try.prog.underlying 57 = some d ∧ (T 57).k.fits d ∧ Try.prog.info? 57 = some i ∧ i.size = (T 57).size ∧ i.bytes = (T 57).bytes ∧ i.zero = some z ∧ z.cells.toList = (T 57).zero ∧ z = zeroVal (T 57) ∧ ((T 57).eq = true → eqB Try.prog 57 d = true) :=
  ⟨_, Try.t57, _, Try.underlying57, ⟨_, _, _, rfl⟩, Try.type57, rfl, rfl, rfl, rfl, rfl, fun h => by cases h⟩
theorem ok58 : ∃ d i z, Try.prog.underlying 58 = some d ∧ (T 58).k.fits d ∧ Try.prog.info? 58 = some i ∧ i.size = (T 58).size ∧ i.bytes = (T 58).bytes ∧ i.zero = some z ∧ z.cells.toList = (T 58).zero ∧ z = zeroVal (T 58) ∧ ((T 58).eq = true → eqB Try.prog 58 d = true) :=
  ⟨_, Try.t58, _, Try.underlying58, ⟨_, _, _, rfl⟩, Try.type58, rfl, rfl, rfl, rfl, rfl, fun h => by cases h⟩
theorem ok59 : ∃ d i z, Try.prog.underlying 59 = some d ∧ (T 59).k.fits d ∧ Try.prog.info? 59 = some i ∧ i.size = (T 59).size ∧ i.bytes = (T 59).bytes ∧ i.zero = some z ∧ z.cells.toList = (T 59).zero ∧ z = zeroVal (T 59) ∧ ((T 59).eq = true → eqB Try.prog 59 d = true) :=
  ⟨_, Try.t59, _, Try.underlying59, ⟨_, _, _, rfl⟩, Try.type59, rfl, rfl, rfl, rfl, rfl, fun h => by cases h⟩
theorem ok60 : ∃ d i z, Try.prog.underlying 60 = some d ∧ (T 60).k.fits d ∧ Try.prog.info? 60 = some i ∧ i.size = (T 60).size ∧ i.bytes = (T 60).bytes ∧ i.zero = some z ∧ z.cells.toList = (T 60).zero ∧ z = zeroVal (T 60) ∧ ((T 60).eq = true → eqB Try.prog 60 d = true) :=
  ⟨_, Try.t60, _, Try.underlying60, ⟨_, _, _, rfl⟩, Try.type60, rfl, rfl, rfl, rfl, rfl, fun h => by cases h⟩
theorem ok61 : ∃ d i z, Try.prog.underlying 61 = some d ∧ (T 61).k.fits d ∧ Try.prog.info? 61 = some i ∧ i.size = (T 61).size ∧ i.bytes = (T 61).bytes ∧ i.zero = some z ∧ z.cells.toList = (T 61).zero ∧ z = zeroVal (T 61) ∧ ((T 61).eq = true → eqB Try.prog 61 d = true) :=
  ⟨_, Try.t61, _, Try.underlying61, ⟨_, _, _, rfl⟩, Try.type61, rfl, rfl, rfl, rfl, rfl, fun h => by cases h⟩
theorem ok62 : ∃ d i z, Try.prog.underlying 62 = some d ∧ (T 62).k.fits d ∧ Try.prog.info? 62 = some i ∧ i.size = (T 62).size ∧ i.bytes = (T 62).bytes ∧ i.zero = some z ∧ z.cells.toList = (T 62).zero ∧ z = zeroVal (T 62) ∧ ((T 62).eq = true → eqB Try.prog 62 d = true) :=
  ⟨_, Try.t62, _, Try.underlying62, ⟨_, _, _, rfl⟩, Try.type62, rfl, rfl, rfl, rfl, rfl, fun h => by cases h⟩
theorem ok63 : ∃ d i z, Try.prog.underlying 63 = some d ∧ (T 63).k.fits d ∧ Try.prog.info? 63 = some i ∧ i.size = (T 63).size ∧ i.bytes = (T 63).bytes ∧ i.zero = some z ∧ z.cells.toList = (T 63).zero ∧ z = zeroVal (T 63) ∧ ((T 63).eq = true → eqB Try.prog 63 d = true) :=
  ⟨_, Try.t63, _, Try.underlying63, ⟨_, _, _, rfl⟩, Try.type63, rfl, rfl, rfl, rfl, rfl, fun h => by cases h⟩
theorem ok64 : ∃ d i z, Try.prog.underlying 64 = some d ∧ (T 64).k.fits d ∧ Try.prog.info? 64 = some i ∧ i.size = (T 64).size ∧ i.bytes = (T 64).bytes ∧ i.zero = some z ∧ z.cells.toList = (T 64).zero ∧ z = zeroVal (T 64) ∧ ((T 64).eq = true → eqB Try.prog 64 d = true) :=
  ⟨_, Try.t64, _, Try.underlying64, ⟨_, _, _, rfl⟩, Try.type64, rfl, rfl, rfl, rfl, rfl, fun h => by cases h⟩
theorem ok65 : ∃ d i z, Try.prog.underlying 65 = some d ∧ (T 65).k.fits d ∧ Try.prog.info? 65 = some i ∧ i.size = (T 65).size ∧ i.bytes = (T 65).bytes ∧ i.zero = some z ∧ z.cells.toList = (T 65).zero ∧ z = zeroVal (T 65) ∧ ((T 65).eq = true → eqB Try.prog 65 d = true) :=
  ⟨_, Try.t65, _, Try.underlying65, rfl, Try.type65, rfl, rfl, rfl, rfl, rfl, fun h => by cases h⟩
theorem ok66 : ∃ d i z, Try.prog.underlying 66 = some d ∧ (T 66).k.fits d ∧ Try.prog.info? 66 = some i ∧ i.size = (T 66).size ∧ i.bytes = (T 66).bytes ∧ i.zero = some z ∧ z.cells.toList = (T 66).zero ∧ z = zeroVal (T 66) ∧ ((T 66).eq = true → eqB Try.prog 66 d = true) :=
  ⟨_, Try.t66, _, Try.underlying66, ⟨_, _, _, rfl⟩, Try.type66, rfl, rfl, rfl, rfl, rfl, fun h => by cases h⟩
theorem ok67 : ∃ d i z, Try.prog.underlying 67 = some d ∧ (T 67).k.fits d ∧ Try.prog.info? 67 = some i ∧ i.size = (T 67).size ∧ i.bytes = (T 67).bytes ∧ i.zero = some z ∧ z.cells.toList = (T 67).zero ∧ z = zeroVal (T 67) ∧ ((T 67).eq = true → eqB Try.prog 67 d = true) :=
  ⟨_, Try.t67, _, Try.underlying67, ⟨_, _, _, rfl⟩, Try.type67, rfl, rfl, rfl, rfl, rfl, fun h => by cases h⟩
theorem ok68 : ∃ d i z, Try.prog.underlying 68 = some d ∧ (T 68).k.fits d ∧ Try.prog.info? 68 = some i ∧ i.size = (T 68).size ∧ i.bytes = (T 68).bytes ∧ i.zero = some z ∧ z.cells.toList = (T 68).zero ∧ z = zeroVal (T 68) ∧ ((T 68).eq = true → eqB Try.prog 68 d = true) :=
  ⟨_, Try.t68, _, Try.underlying68, ⟨_, _, _, rfl⟩, Try.type68, rfl, rfl, rfl, rfl, rfl, fun h => by cases h⟩
theorem ok69 : ∃ d i z, Try.prog.underlying 69 = some d ∧ (T 69).k.fits d ∧ Try.prog.info? 69 = some i ∧ i.size = (T 69).size ∧ i.bytes = (T 69).bytes ∧ i.zero = some z ∧ z.cells.toList = (T 69).zero ∧ z = zeroVal (T 69) ∧ ((T 69).eq = true → eqB Try.prog 69 d = true) :=
  ⟨_, Try.t69, _, Try.underlying69, ⟨_, _, _, rfl⟩, Try.type69, rfl, rfl, rfl, rfl, rfl, fun h => by cases h⟩
theorem ok70 : ∃ d i z, Try.prog.underlying 70 = some d ∧ (T 70).k.fits d ∧ Try.prog.info? 70 = some i ∧ i.size = (T 70).size ∧ i.bytes = (T 70).bytes ∧ i.zero = some z ∧ z.cells.toList = (T 70).zero ∧ z = zeroVal (T 70) ∧ ((T 70).eq = true → eqB Try.prog 70 d = true) :=
  ⟨_, Try.t70, _, Try.underlying70, ⟨_, _, _, rfl⟩, Try.type70, rfl, rfl, rfl, rfl, rfl, fun h => by cases h⟩
theorem ok72 : ∃ d i z, Try.prog.underlying 72 = some d ∧ (T 72).k.fits d ∧ Try.prog.info? 72 = some i ∧ i.size = (T 72).size ∧ i.bytes = (T 72).bytes ∧ i.zero = some z ∧ z.cells.toList = (T 72).zero ∧ z = zeroVal (T 72) ∧ ((T 72).eq = true → eqB Try.prog 72 d = true) :=
  ⟨_, Try.t72, _, Try.underlying72, ⟨_, _, _, rfl⟩, Try.type72, rfl, rfl, rfl, rfl, rfl, fun h => by cases h⟩
theorem ok73 : ∃ d i z, Try.prog.underlying 73 = some d ∧ (T 73).k.fits d ∧ Try.prog.info? 73 = some i ∧ i.size = (T 73).size ∧ i.bytes = (T 73).bytes ∧ i.zero = some z ∧ z.cells.toList = (T 73).zero ∧ z = zeroVal (T 73) ∧ ((T 73).eq = true → eqB Try.prog 73 d = true) :=
  ⟨_, Try.t73, _, Try.underlying73, ⟨_, _, _, rfl⟩, Try.type73, rfl, rfl, rfl, rfl, rfl, fun h => by cases h⟩
theorem ok74 : ∃ d i z, Try.prog.underlying 74 = some d ∧ (T 74).k.fits d ∧ Try.prog.info? 74 = some i ∧ i.size = (T 74).size ∧ i.bytes = (T 74).bytes ∧ i.zero = some z ∧ z.cells.toList = (T 74).zero ∧ z = zeroVal (T 74) ∧ ((T 74).eq = true → eqB Try.prog 74 d = true) :=
  ⟨_, Try.t74, _, Try.underlying74, rfl, Try.type74, rfl, rfl, rfl, rfl, rfl, fun h => by cases h⟩
theorem ok76 : ∃ d i z, Try.prog.underlying 76 = some d ∧ (T 76).k.fits d ∧ Try.prog.info? 76 = some i ∧ i.size = (T 76).size ∧ i.bytes = (T 76).bytes ∧ i.zero = some z ∧ z.cells.toList = (T 76).zero ∧ z = zeroVal (T 76) ∧ ((T 76).eq = true → eqB Try.prog 76 d = true) :=
  ⟨_, Try.t76, _, Try.underlying76, ⟨_, _, _, rfl⟩, Try.type76, rfl, rfl, rfl, rfl, rfl, fun h => by cases h⟩
theorem ok77 : ∃ d i z, Try.prog.underlying 77 = some d ∧ (T 77).k.fits d ∧ Try.prog.info? 77 = some i ∧ i.size = (T 77).size ∧ i.bytes = (T 77).bytes ∧ i.zero = some z ∧ z.cells.toList = (T 77).zero ∧ z = zeroVal (T 77) ∧ ((T 77).eq = true → eqB Try.prog 77 d = true) :=
  ⟨_, Try.t77, _, Try.underlying77, ⟨_, _, _, rfl⟩, Try.type77, rfl, rfl, rfl, rfl, rfl, fun h => by cases h⟩
theorem ok78 : ∃ d i z, Try.prog.underlying 78 = some d ∧ (T 78).k.fits d ∧ Try.prog.info? 78 = some i ∧ i.size = (T 78).size ∧ i.bytes = (T 78).bytes ∧ i.zero = some z ∧ z.cells.toList = (T 78).zero ∧ z = zeroVal (T 78) ∧ ((T 78).eq = true → eqB Try.prog 78 d = true) :=
  ⟨_, Try.t78, _, Try.underlying78, ⟨_, _, _, rfl⟩, Try.type78, rfl, rfl, rfl, rfl, rfl, fun h => by cases h⟩
theorem ok79 : ∃ d i z, Try.prog.underlying 79 = some d ∧ (T 79).k.fits d ∧ Try.prog.info? 79 = some i ∧ i.size = (T 79).size ∧ i.bytes = (T 79).bytes ∧ i.zero = some z ∧ z.cells.toList = (T 79).zero ∧ z = zeroVal (T 79) ∧ ((T 79).eq = true → eqB Try.prog 79 d = true) :=
  ⟨_, Try.t79, _, Try.underlying79, ⟨_, _, _, rfl⟩, Try.type79, rfl, rfl, rfl, rfl, rfl, fun h => by cases h⟩
theorem ok81 : ∃ d i z, Try.prog.underlying 81 = some d ∧ (T 81).k.fits d ∧ Try.prog.info? 81 = some i ∧ i.size = (T 81).size ∧ i.bytes = (T 81).bytes ∧ i.zero = some z ∧ z.cells.toList = (T 81).zero ∧ z = zeroVal (T 81) ∧ ((T 81).eq = true → eqB Try.prog 81 d = true) :=
  ⟨_, Try.t81, _, Try.underlying81, ⟨_, _, _, rfl⟩, Try.type81, rfl, rfl, rfl, rfl, rfl, fun h => by cases h⟩
theorem ok82 : ∃ d i z, Try.prog.underlying 82 = some d ∧ (T 82).k.fits d ∧ Try.prog.info? 82 = some i ∧ i.size = (T 82).size ∧ i.bytes = (T 82).bytes ∧ i.zero = some z ∧ z.cells.toList = (T 82).zero ∧ z = zeroVal (T 82) ∧ ((T 82).eq = true → eqB Try.prog 82 d = true) :=
  ⟨_, Try.t82, _, Try.underlying82, ⟨_, _, _, rfl⟩, Try.type82, rfl, rfl, rfl, rfl, rfl, fun h => by cases h⟩
theorem ok83 : ∃ d i z, Try.prog.underlying 83 = some d ∧ (T 83).k.fits d ∧ Try.prog.info? 83 = some i ∧ i.size = (T 83).size ∧ i.bytes = (T 83).bytes ∧ i.zero = some z ∧ z.cells.toList = (T 83).zero ∧ z = zeroVal (T 83) ∧ ((T 83).eq = true → eqB Try.prog 83 d = true) :=
  ⟨_, Try.t83, _, Try.underlying83, rfl, Try.type83, rfl, rfl, rfl, rfl, rfl, fun h => by cases h⟩
theorem ok84 : ∃ d i z, Try.prog.underlying 84 = some d ∧ (T 84).k.fits d ∧ Try.prog.info? 84 = some i ∧ i.size = (T 84).size ∧ i.bytes = (T 84).bytes ∧ i.zero = some z ∧ z.cells.toList = (T 84).zero ∧ z = zeroVal (T 84) ∧ ((T 84).eq = true → eqB Try.prog 84 d = true) :=
  ⟨_, Try.t84, _, Try.underlying84, ⟨_, _, _, rfl⟩, Try.type84, rfl, rfl, rfl, rfl, rfl, fun h => by cases h⟩
theorem ok85 : ∃ d i z, Try.prog.underlying 85 = some d ∧ (T 85).k.fits d ∧ Try.prog.info? 85 = some i ∧ i.size = (T 85).size ∧ i.bytes = (T 85).bytes ∧ i.zero = some z ∧ z.cells.toList = (T 85).zero ∧ z = zeroVal (T 85) ∧ ((T 85).eq = true → eqB Try.prog 85 d = true) :=
  ⟨_, Try.t85, _, Try.underlying85, rfl, Try.type85, rfl, rfl, rfl, rfl, rfl, fun h => by cases h⟩
theorem ok86 : ∃ d i z, Try.prog.underlying 86 = some d ∧ (T 86).k.fits d ∧ Try.prog.info? 86 = some i ∧ i.size = (T 86).size ∧ i.bytes = (T 86).bytes ∧ i.zero = some z ∧ z.cells.toList = (T 86).zero ∧ z = zeroVal (T 86) ∧ ((T 86).eq = true → eqB Try.prog 86 d = true) :=
  ⟨_, Try.t86, _, Try.underlying86, ⟨_, _, _, rfl⟩, Try.type86, rfl, rfl, rfl, rfl, rfl, fun h => by cases h⟩
theorem ok87 : ∃ d i z, Try.prog.underlying 87 = some d ∧ (T 87).k.fits d ∧ Try.prog.info? 87 = some i ∧ i.size = (T 87).size ∧ i.bytes = (T 87).bytes ∧ i.zero = some z ∧ z.cells.toList = (T 87).zero ∧ z = zeroVal (T 87) ∧ ((T 87).eq = true → eqB Try.prog 87 d = true) :=
  ⟨_, Try.t87, _, Try.underlying87, ⟨_, _, _, rfl⟩, Try.type87, rfl, rfl, rfl, rfl, rfl, fun h => by cases h⟩
theorem ok88 : ∃ d i z, Try.prog.underlying 88 = some d ∧ (T 88).k.fits d ∧ Try.prog.info? 88 = some i ∧ i.size = (T 88).size ∧ i.bytes = (T 88).bytes ∧ i.zero = some z ∧ z.cells.toList = (T 88).zero ∧ z = zeroVal (T 88) ∧ ((T 88).eq = true → eqB Try.prog 88 d = true) :=
  ⟨_, Try.t88, _, Try.underlying88, ⟨_, _, _, rfl⟩, Try.type88, rfl, rfl, rfl, rfl, rfl, fun h => by cases h⟩
theorem ok89 : ∃ d i z, Try.prog.underlying 89 = some d ∧ (T 89).k.fits d ∧ Try.prog.info? 89 = some i ∧ i.size = (T 89).size ∧ i.bytes = (T 89).bytes ∧ i.zero = some z ∧ z.cells.toList = (T 89).zero ∧ z = zeroVal (T 89) ∧ ((T 89).eq = true → eqB Try.prog 89 d = true) :=
  ⟨_, Try.t89, _, Try.underlying89, rfl, Try.type89, rfl, rfl, rfl, rfl, rfl, fun h => by cases h⟩
theorem ok90 : ∃ d i z, Try.prog.underlying 90 = some d ∧ (T 90).k.fits d ∧ Try.prog.info? 90 = some i ∧ i.size = (T 90).size ∧ i.bytes = (T 90).bytes ∧ i.zero = some z ∧ z.cells.toList = (T 90).zero ∧ z = zeroVal (T 90) ∧ ((T 90).eq = true → eqB Try.prog 90 d = true) :=
  ⟨_, Try.t90, _, Try.underlying90, ⟨_, _, _, rfl⟩, Try.type90, rfl, rfl, rfl, rfl, rfl, fun h => by cases h⟩
theorem ok91 : ∃ d i z, Try.prog.underlying 91 = some d ∧ (T 91).k.fits d ∧ Try.prog.info? 91 = some i ∧ i.size = (T 91).size ∧ i.bytes = (T 91).bytes ∧ i.zero = some z ∧ z.cells.toList = (T 91).zero ∧ z = zeroVal (T 91) ∧ ((T 91).eq = true → eqB Try.prog 91 d = true) :=
  ⟨_, Try.t91, _, Try.underlying91, ⟨_, _, _, rfl⟩, Try.type91, rfl, rfl, rfl, rfl, rfl, fun h => by cases h⟩
theorem ok92 : ∃ d i z, Try.prog.underlying 92 = some d ∧ (T 92).k.fits d ∧ Try.prog.info? 92 = some i ∧ i.size = (T 92).size ∧ i.bytes = (T 92).bytes ∧ i.zero = some z ∧ z.cells.toList = (T 92).zero ∧ z = zeroVal (T 92) ∧ ((T 92).eq = true → eqB Try.prog 92 d = true) :=
  ⟨_, Try.t92, _, Try.underlying92, ⟨_, _, _, rfl⟩, Try.type92, rfl, rfl, rfl, rfl, rfl, fun h => by cases h⟩
theorem ok93 : ∃ d i z, Try.prog.underlying 93 = some d ∧ (T 93).k.fits d ∧ Try.prog.info? 93 = some i ∧ i.size = (T 93).size ∧ i.bytes = (T 93).bytes ∧ i.zero = some z ∧ z.cells.toList = (T 93).zero ∧ z = zeroVal (T 93) ∧ ((T 93).eq = true → eqB Try.prog 93 d = true) :=
  ⟨_, Try.t93, _, Try.underlying93, rfl, Try.type93, rfl, rfl, rfl, rfl, rfl, fun h => by cases h⟩
theorem ok94 : ∃ d i z, Try.prog.underlying 94 = some d ∧ (T 94).k.fits d ∧ Try.prog.info? 94 = some i ∧ i.size = (T 94).size ∧ i.bytes = (T 94).bytes ∧ i.zero = some z ∧ z.cells.toList = (T 94).zero ∧ z = zeroVal (T 94) ∧ ((T 94).eq = true → eqB Try.prog 94 d = true) :=
  ⟨_, Try.t94, _, Try.underlying94, ⟨_, _, _, rfl⟩, Try.type94, rfl, rfl, rfl, rfl, rfl, fun h => by cases h⟩
theorem ok95 : ∃ d i z, Try.prog.underlying 95 = some d ∧ (T 95).k.fits d ∧ Try.prog.info? 95 = some i ∧ i.size = (T 95).size ∧ i.bytes = (T 95).bytes ∧ i.zero = some z ∧ z.cells.toList = (T 95).zero ∧ z = zeroVal (T 95) ∧ ((T 95).eq = true → eqB Try.prog 95 d = true) :=
  ⟨_, Try.t95, _, Try.underlying95, ⟨_, _, _, rfl⟩, Try.type95, rfl, rfl, rfl, rfl, rfl, fun h => by cases h⟩
theorem ok96 : ∃ d i z, Try.prog.underlying 96 = some d ∧ (T 96).k.fits d ∧ Try.prog.info? 96 = some i ∧ i.size = (T 96).size ∧ i.bytes = (T 96).bytes ∧ i.zero = some z ∧ z.cells.toList = (T 96).zero ∧ z = zeroVal (T 96) ∧ ((T 96).eq = true → eqB Try.prog 96 d = true) :=
  ⟨_, Try.t96, _, Try.underlying96, rfl, Try.type96, rfl, rfl, rfl, rfl, rfl, fun h => by cases h⟩
theorem ok97 : ∃ d i z, Try.prog.underlying 97 = some d ∧ (T 97).k.fits d ∧ Try.prog.info? 97 = some i ∧ i.size = (T 97).size ∧ i.bytes = (T 97).bytes ∧ i.zero = some z ∧ z.cells.toList = (T 97).zero ∧ z = zeroVal (T 97) ∧ ((T 97).eq = true → eqB Try.prog 97 d = true) :=
  ⟨_, Try.t97, _, Try.underlying97, ⟨_, _, _, rfl⟩, Try.type97, rfl, rfl, rfl, rfl, rfl, fun h => by cases h⟩
theorem ok98 : ∃ d i z, Try.prog.underlying 98 = some d ∧ (T 98).k.fits d ∧ Try.prog.info? 98 = some i ∧ i.size = (T 98).size ∧ i.bytes = (T 98).bytes ∧ i.zero = some z ∧ z.cells.toList = (T 98).zero ∧ z = zeroVal (T 98) ∧ ((T 98).eq = true → eqB Try.prog 98 d = true) :=
  ⟨_, Try.t98, _, Try.underlying98, ⟨_, _, _, rfl⟩, Try.type98, rfl, rfl, rfl, rfl, rfl, fun h => by cases h⟩
theorem ok99 : ∃ d i z, Try.prog.underlying 99 = some d ∧ (T 99).k.fits d ∧ Try.prog.info? 99 = some i ∧ i.size = (T 99).size ∧ i.bytes = (T 99).bytes ∧ i.zero = some z ∧ z.cells.toList = (T 99).zero ∧ z = zeroVal (T 99) ∧ ((T 99).eq = true → eqB Try.prog 99 d = true) :=
  ⟨_, Try.t99, _, Try.underlying99, ⟨_, _, _, rfl⟩, Try.type99, rfl, rfl, rfl, rfl, rfl, fun h => by cases h⟩
theorem ok100 : ∃ d i z, Try.prog.underlying 100 = some d ∧ (T 100).k.fits d ∧ Try.prog.info? 100 = some i ∧ i.size = (T 100).size ∧ i.bytes = (T 100).bytes ∧ i.zero = some z ∧ z.cells.toList = (T 100).zero ∧ z = zeroVal (T 100) ∧ ((T 100).eq = true → eqB Try.prog 100 d = true) :=
  ⟨_, Try.t100, _, Try.underlying100, rfl, Try.type100, rfl, rfl, rfl, rfl, rfl, fun h => by cases h⟩
theorem ok102 : ∃ d i z, Try.prog.underlying 102 = some d ∧ (T 102).k.fits d ∧ Try.prog.info? 102 = some i ∧ i.size = (T 102).size ∧ i.bytes = (T 102).bytes ∧ i.zero = some z ∧ z.cells.toList = (T 102).zero ∧ z = zeroVal (T 102) ∧ ((T 102).eq = true → eqB Try.prog 102 d = true) :=
  ⟨_, Try.t102, _, Try.underlying102, rfl, Try.type102, rfl, rfl, rfl, rfl, rfl, fun h => by cases h⟩
theorem ok104 : ∃ d i z, Try.prog.underlying 104 = some d ∧ (T 104).k.fits d ∧ Try.prog.info? 104 = some i ∧ i.size = (T 104).size ∧ i.bytes = (T 104).bytes ∧ i.zero = some z ∧ z.cells.toList = (T 104).zero ∧ z = zeroVal (T 104) ∧ ((T 104).eq = true → eqB Try.prog 104 d = true) :=
  ⟨_, Try.t104, _, Try.underlying104, ⟨_, _, _, rfl⟩, Try.type104, rfl, rfl, rfl, rfl, rfl, fun h => by cases h⟩
theorem ok105 : ∃ d i z, Try.prog.underlying 105 = some d ∧ (T 105).k.fits d ∧ Try.prog.info? 105 = some i ∧ i.size = (T 105).size ∧ i.bytes = (T 105).bytes ∧ i.zero = some z ∧ z.cells.toList = (T 105).zero ∧ z = zeroVal (T 105) ∧ ((T 105).eq = true → eqB Try.prog 105 d = true) :=
  ⟨_, Try.t105, _, Try.underlying105, ⟨_, _, _, rfl⟩, Try.type105, rfl, rfl, rfl, rfl, rfl, fun h => by cases h⟩
theorem ok106 : ∃ d i z, Try.prog.underlying 106 = some d ∧ (T 106).k.fits d ∧ Try.prog.info? 106 = some i ∧ i.size = (T 106).size ∧ i.bytes = (T 106).bytes ∧ i.zero = some z ∧ z.cells.toList = (T 106).zero ∧ z = zeroVal (T 106) ∧ ((T 106).eq = true → eqB Try.prog 106 d = true) :=
  ⟨_, Try.t106, _, Try.underlying106, rfl, Try.type106, rfl, rfl, rfl, rfl, rfl, fun _ => by kernel_rfl⟩
theorem ok107 : ∃ d i z, Try.prog.underlying 107 = some d ∧ (T 107).k.fits d ∧ Try.prog.info? 107 = some i ∧ i.size = (T 107).size ∧ i.bytes = (T 107).bytes ∧ i.zero = some z ∧ z.cells.toList = (T 107).zero ∧ z = zeroVal (T 107) ∧ ((T 107).eq = true → eqB Try.prog 107 d = true) :=
  ⟨_, Try.t107, _, Try.underlying107, rfl, Try.type107, rfl, rfl, rfl, rfl, rfl, fun _ => by kernel_rfl⟩
theorem ok108 : ∃ d i z, Try.prog.underlying 108 = some d ∧ (T 108).k.fits d ∧ Try.prog.info? 108 = some i ∧ i.size = (T 108).size ∧ i.bytes = (T 108).bytes ∧ i.zero = some z ∧ z.cells.toList = (T 108).zero ∧ z = zeroVal (T 108) ∧ ((T 108).eq = true → eqB Try.prog 108 d = true) :=
  ⟨_, Try.t108, _, Try.underlying108, rfl, Try.type108, rfl, rfl, rfl, rfl, rfl, fun _ => by kernel_rfl⟩
theorem ok109 : ∃ d i z, Try.prog.underlying 109 = some d ∧ (T 109).k.fits d ∧ Try.prog.info? 109 = some i ∧ i.size = (T 109).size ∧ i.bytes = (T 109).bytes ∧ i.zero = some z ∧ z.cells.toList = (T 109).zero ∧ z = zeroVal (T 109) ∧ ((T 109).eq = true → eqB Try.prog 109 d = true) :=
  ⟨_, Try.t109, _, Try.underlying109, ⟨_, _, _, rfl⟩, Try.type109, rfl, rfl, rfl, rfl, rfl, fun h => by cases h⟩
theorem ok110 : ∃ d i z, Try.prog.underlying 110 = some d ∧ (T 110).k.fits d ∧ Try.prog.info? 110 = some i ∧ i.size = (T 110).size ∧ i.bytes = (T 110).bytes ∧ i.zero = some z ∧ z.cells.toList = (T 110).zero ∧ z = zeroVal (T 110) ∧ ((T 110).eq = true → eqB Try.prog 110 d = true) :=
  ⟨_, Try.t110, _, Try.underlying110, ⟨_, _, _, rfl⟩, Try.type110, rfl, rfl, rfl, rfl, rfl, fun h => by cases h⟩
theorem ok113 : ∃ d i z, Try.prog.underlying 113 = some d ∧ (T 113).k.fits d ∧ Try.prog.info? 113 = some i ∧ i.size = (T 113).size ∧ i.bytes = (T 113).bytes ∧ i.zero = some z ∧ z.cells.toList = (T 113).zero ∧ z = zeroVal (T 113) ∧ ((T 113).eq = true → eqB Try.prog 113 d = true) :=
  ⟨_, Try.t113, _, Try.underlying113, rfl, Try.type113, rfl, rfl, rfl, rfl, rfl, fun h => by cases h⟩
theorem ok114 : ∃ d i z, Try.prog.underlying 114 = some d ∧ (T 114).k.fits d ∧ Try.prog.info? 114 = some i ∧ i.size = (T 114).size ∧ i.bytes = (T 114).bytes ∧ i.zero = some z ∧ z.cells.toList = (T 114).zero ∧ z = zeroVal (T 114) ∧ ((T 114).eq = true → eqB Try.prog 114 d = true) :=
  ⟨_, Try.t114, _, Try.underlying114, ⟨_, rfl, rfl⟩, Try.type114, rfl, rfl, rfl, rfl, rfl, fun h => by cases h⟩
theorem ok116 : ∃ d i z, Try.prog.underlying 116 = some d ∧ (T 116).k.fits d ∧ Try.prog.info? 116 = some i ∧ i.size = (T 116).size ∧ i.bytes = (T 116).bytes ∧ i.zero = some z ∧ z.cells.toList = (T 116).zero ∧ z = zeroVal (T 116) ∧ ((T 116).eq = true → eqB Try.prog 116 d = true) :=
  ⟨_, Try.t116, _, Try.underlying116, ⟨_, _, _, rfl⟩, Try.type116, rfl, rfl, rfl, rfl, rfl, fun h => by cases h⟩
theorem ok119 : ∃ d i z, Try.prog.underlying 119 = some d ∧ (T 119).k.fits d ∧ Try.prog.info? 119 = some i ∧ i.size = (T 119).size ∧ i.bytes = (T 119).bytes ∧ i.zero = some z ∧ z.cells.toList = (T 119).zero ∧ z = zeroVal (T 119) ∧ ((T 119).eq = true → eqB Try.prog 119 d = true) :=
  ⟨_, Try.t119, _, Try.underlying119, ⟨_, _, _, rfl⟩, Try.type119, rfl, rfl, rfl, rfl, rfl, fun h => by cases h⟩
theorem ok120 : ∃ d i z, Try.prog.underlying 120 = some d ∧ (T 120).k.fits d ∧ Try.prog.info? 120 = some i ∧ i.size = (T 120).size ∧ i.bytes = (T 120).bytes ∧ i.zero = some z ∧ z.cells.toList = (T 120).zero ∧ z = zeroVal (T 120) ∧ ((T 120).eq = true → eqB Try.prog 120 d = true) :=
  ⟨_, Try.t120, _, Try.underlying120, rfl, Try.type120, rfl, rfl, rfl, rfl, rfl, fun h => by cases h⟩

theorem tok : TyOk Try.prog T := by
  intro t
  by_cases h : (T t).k = .none
  · exact .inl h
  · refine .inr ?_
    unfold T at h
    split at h
    · exact ok1
    · exact ok2
    · exact ok3
    · exact ok4
    · exact ok5
    · exact ok9
    · exact ok12
    · exact ok13
    · exact ok20
    · exact ok21
    · exact ok22
    · exact ok23
    · exact ok24
    · exact ok25
    · exact ok26
    · exact ok27
    · exact ok28
    · exact ok29
    · exact ok30
    · exact ok31
    · exact ok32
    · exact ok33
    · exact ok34
    · exact ok35
    · exact ok37
    · exact ok38
    · exact ok39
    · exact ok40
    · exact ok41
    · exact ok42
    · exact ok43
    · exact ok44
    · exact ok45
    · exact ok46
    · exact ok47
    · exact ok48
    · exact ok49
    · exact ok50
    · exact ok51
    · exact ok52
    · exact ok53
    · exact ok54
    · exact ok55
    · exact ok56
    · exact ok57
    · exact ok58
    · exact ok59
    · exact ok60
    · exact ok61
    · exact ok62
    · exact ok63
    · exact ok64
    · exact ok65
    · exact ok66
    · exact ok67
    · exact ok68
    · exact ok69
    · exact ok70
    · exact ok72
    · exact ok73
    · exact ok74
    · exact ok76
    · exact ok77
    · exact ok78
    · exact ok79
    · exact ok81
    · exact ok82
    · exact ok83
    · exact ok84
    · exact ok85
    · exact ok86
    · exact ok87
    · exact ok88
    · exact ok89
    · exact ok90
    · exact ok91
    · exact ok92
    · exact ok93
    · exact ok94
    · exact ok95
    · exact ok96
    · exact ok97
    · exact ok98
    · exact ok99
    · exact ok100
    · exact ok102
    · exact ok104
    · exact ok105
    · exact ok106
    · exact ok107
    · exact ok108
    · exact ok109
    · exact ok110
    · exact ok113
    · exact ok114
    · exact ok116
    · exact ok119
    · exact ok120
    · exact absurd rfl h

theorem mixed : Try.prog.follows .mixedOrders = true := by kernel_rfl

theorem seatok : SeatOk Try.prog := ⟨by kernel_rfl, by kernel_rfl, by kernel_rfl⟩

end Go.Proofs.Ytpagkndgjihbbaa
