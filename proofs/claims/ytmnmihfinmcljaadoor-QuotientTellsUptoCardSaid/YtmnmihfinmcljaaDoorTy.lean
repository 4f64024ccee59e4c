/-
  The table of this seat's types, for the verification layer; by a program of ours.
-/
import Derived.Test.YtmnmihfinmcljaaDoorProg
import Derived.Test.YtmnmihfinmcljaaDoorVeM
set_option linter.unusedSimpArgs false
set_option maxRecDepth 20000
namespace Go.Proofs.YtmnmihfinmcljaaDoor
open Go Go.V Go.Proofs

def T : Tys := fun t => match t with
  | 1 => ⟨.func, 1, 8, [.nilFunc], false⟩
  | 2 => ⟨.int .i64, 1, 8, [(.int .i64 0)], false⟩
  | 3 => ⟨.int .i64, 1, 8, [(.int .i64 0)], false⟩
  | 4 => ⟨.bool, 1, 1, [(.bool false)], false⟩
  | 5 => ⟨.int .u8, 1, 1, [(.int .u8 0)], false⟩
  | 9 => ⟨.string, 1, 16, [(.string ⟨#[]⟩)], false⟩
  | 12 => ⟨.int .u64, 1, 8, [(.int .u64 0)], false⟩
  | 13 => ⟨.struct [(0, 9), (1, 12)], 2, 24, [(.string ⟨#[]⟩), (.int .u64 0)], false⟩
  | 20 => ⟨.iface, 1, 16, [.nilIface], false⟩
  | 21 => ⟨.int .i32, 1, 4, [(.int .i32 0)], false⟩
  | 22 => ⟨.arr 256 5, 256, 256, List.replicate 256 (.int .u8 0), true⟩
  | 23 => ⟨.slice 24, 1, 24, [(.slice none 0 0)], false⟩
  | 24 => ⟨.slice 3, 1, 24, [(.slice none 0 0)], false⟩
  | 25 => ⟨.slice 9, 1, 24, [(.slice none 0 0)], false⟩
  | 26 => ⟨.struct [(0, 22), (256, 3), (257, 23), (258, 24), (259, 25)], 260, 336, List.replicate 256 (.int .u8 0) ++ [(.int .i64 0), (.slice none 0 0), (.slice none 0 0), (.slice none 0 0)], false⟩
  | 27 => ⟨.struct [(0, 22), (256, 3), (257, 23), (258, 24), (259, 25)], 260, 336, List.replicate 256 (.int .u8 0) ++ [(.int .i64 0), (.slice none 0 0), (.slice none 0 0), (.slice none 0 0)], false⟩
  | 28 => ⟨.func, 1, 8, [.nilFunc], false⟩
  | 30 => ⟨.func, 1, 8, [.nilFunc], false⟩
  | 31 => ⟨.int .i64, 1, 8, [(.int .i64 0)], false⟩
  | 33 => ⟨.func, 1, 8, [.nilFunc], false⟩
  | 34 => ⟨.func, 1, 8, [.nilFunc], false⟩
  | 35 => ⟨.func, 1, 8, [.nilFunc], false⟩
  | 36 => ⟨.slice 5, 1, 24, [(.slice none 0 0)], false⟩
  | 37 => ⟨.func, 1, 8, [.nilFunc], false⟩
  | 38 => ⟨.func, 1, 8, [.nilFunc], false⟩
  | 39 => ⟨.func, 1, 8, [.nilFunc], false⟩
  | 40 => ⟨.func, 1, 8, [.nilFunc], false⟩
  | 41 => ⟨.func, 1, 8, [.nilFunc], false⟩
  | 42 => ⟨.func, 1, 8, [.nilFunc], false⟩
  | 43 => ⟨.func, 1, 8, [.nilFunc], false⟩
  | 44 => ⟨.func, 1, 8, [.nilFunc], false⟩
  | 45 => ⟨.func, 1, 8, [.nilFunc], false⟩
  | 46 => ⟨.func, 1, 8, [.nilFunc], false⟩
  | 47 => ⟨.func, 1, 8, [.nilFunc], false⟩
  | 48 => ⟨.func, 1, 8, [.nilFunc], false⟩
  | 49 => ⟨.func, 1, 8, [.nilFunc], false⟩
  | 50 => ⟨.func, 1, 8, [.nilFunc], false⟩
  | 51 => ⟨.func, 1, 8, [.nilFunc], false⟩
  | 52 => ⟨.func, 1, 8, [.nilFunc], false⟩
  | 53 => ⟨.arr 2 3, 2, 16, [(.int .i64 0), (.int .i64 0)], true⟩
  | 54 => ⟨.func, 1, 8, [.nilFunc], false⟩
  | 55 => ⟨.func, 1, 8, [.nilFunc], false⟩
  | 56 => ⟨.func, 1, 8, [.nilFunc], false⟩
  | 57 => ⟨.func, 1, 8, [.nilFunc], false⟩
  | 58 => ⟨.int .u64, 1, 8, [(.int .u64 0)], false⟩
  | 59 => ⟨.func, 1, 8, [.nilFunc], false⟩
  | 60 => ⟨.func, 1, 8, [.nilFunc], false⟩
  | 61 => ⟨.func, 1, 8, [.nilFunc], false⟩
  | 62 => ⟨.func, 1, 8, [.nilFunc], false⟩
  | 63 => ⟨.func, 1, 8, [.nilFunc], false⟩
  | 64 => ⟨.func, 1, 8, [.nilFunc], false⟩
  | 65 => ⟨.slice 69, 1, 24, [(.slice none 0 0)], false⟩
  | 66 => ⟨.func, 1, 8, [.nilFunc], false⟩
  | 67 => ⟨.int .u64, 1, 8, [(.int .u64 0)], false⟩
  | 68 => ⟨.arr 4 67, 4, 32, [(.int .u64 0), (.int .u64 0), (.int .u64 0), (.int .u64 0)], true⟩
  | 69 => ⟨.arr 4 67, 4, 32, [(.int .u64 0), (.int .u64 0), (.int .u64 0), (.int .u64 0)], true⟩
  | 70 => ⟨.func, 1, 8, [.nilFunc], false⟩
  | 71 => ⟨.func, 1, 8, [.nilFunc], false⟩
  | 72 => ⟨.func, 1, 8, [.nilFunc], false⟩
  | 73 => ⟨.func, 1, 8, [.nilFunc], false⟩
  | 74 => ⟨.map 53 3, 1, 8, [(.map none)], false⟩
  | 76 => ⟨.map 3 3, 1, 8, [(.map none)], false⟩
  | 77 => ⟨.map 9 3, 1, 8, [(.map none)], false⟩
  | 78 => ⟨.map 5 5, 1, 8, [(.map none)], false⟩
  | 80 => ⟨.func, 1, 8, [.nilFunc], false⟩
  | 81 => ⟨.func, 1, 8, [.nilFunc], false⟩
  | 82 => ⟨.arr 256 4, 256, 256, List.replicate 256 (.bool false), true⟩
  | 83 => ⟨.func, 1, 8, [.nilFunc], false⟩
  | 84 => ⟨.func, 1, 8, [.nilFunc], false⟩
  | 85 => ⟨.func, 1, 8, [.nilFunc], false⟩
  | 86 => ⟨.func, 1, 8, [.nilFunc], false⟩
  | 87 => ⟨.func, 1, 8, [.nilFunc], false⟩
  | 88 => ⟨.func, 1, 8, [.nilFunc], false⟩
  | 89 => ⟨.func, 1, 8, [.nilFunc], false⟩
  | 90 => ⟨.func, 1, 8, [.nilFunc], false⟩
  | 91 => ⟨.func, 1, 8, [.nilFunc], false⟩
  | 92 => ⟨.func, 1, 8, [.nilFunc], false⟩
  | 93 => ⟨.arr 64 5, 64, 64, List.replicate 64 (.int .u8 0), true⟩
  | 94 => ⟨.func, 1, 8, [.nilFunc], false⟩
  | 97 => ⟨.arr 0 16, 0, 0, [], false⟩
  | 98 => ⟨.struct [(0, 97)], 0, 0, [], false⟩
  | 100 => ⟨.func, 1, 8, [.nilFunc], false⟩
  | 101 => ⟨.int .u32, 1, 4, [(.int .u32 0)], false⟩
  | 104 => ⟨.func, 1, 8, [.nilFunc], false⟩
  | 105 => ⟨.ptr 5, 1, 8, [(.pointer none)], false⟩
  | _ => ⟨.none, 0, 0, [], false⟩

theorem T1 : T 1 = ⟨.func, 1, 8, [.nilFunc], false⟩ := rfl
theorem T2 : T 2 = ⟨.int .i64, 1, 8, [(.int .i64 0)], false⟩ := rfl
theorem T3 : T 3 = ⟨.int .i64, 1, 8, [(.int .i64 0)], false⟩ := rfl
theorem T4 : T 4 = ⟨.bool, 1, 1, [(.bool false)], false⟩ := rfl
theorem T5 : T 5 = ⟨.int .u8, 1, 1, [(.int .u8 0)], false⟩ := rfl
theorem T9 : T 9 = ⟨.string, 1, 16, [(.string ⟨#[]⟩)], false⟩ := rfl
theorem T12 : T 12 = ⟨.int .u64, 1, 8, [(.int .u64 0)], false⟩ := rfl
theorem T13 : T 13 = ⟨.struct [(0, 9), (1, 12)], 2, 24, [(.string ⟨#[]⟩), (.int .u64 0)], false⟩ := rfl
theorem T20 : T 20 = ⟨.iface, 1, 16, [.nilIface], false⟩ := rfl
theorem T21 : T 21 = ⟨.int .i32, 1, 4, [(.int .i32 0)], false⟩ := rfl
theorem T22 : T 22 = ⟨.arr 256 5, 256, 256, List.replicate 256 (.int .u8 0), true⟩ := rfl
theorem T23 : T 23 = ⟨.slice 24, 1, 24, [(.slice none 0 0)], false⟩ := rfl
theorem T24 : T 24 = ⟨.slice 3, 1, 24, [(.slice none 0 0)], false⟩ := rfl
theorem T25 : T 25 = ⟨.slice 9, 1, 24, [(.slice none 0 0)], false⟩ := rfl
theorem T26 : T 26 = ⟨.struct [(0, 22), (256, 3), (257, 23), (258, 24), (259, 25)], 260, 336, List.replicate 256 (.int .u8 0) ++ [(.int .i64 0), (.slice none 0 0), (.slice none 0 0), (.slice none 0 0)], false⟩ := rfl
theorem T27 : T 27 = ⟨.struct [(0, 22), (256, 3), (257, 23), (258, 24), (259, 25)], 260, 336, List.replicate 256 (.int .u8 0) ++ [(.int .i64 0), (.slice none 0 0), (.slice none 0 0), (.slice none 0 0)], false⟩ := rfl
theorem T28 : T 28 = ⟨.func, 1, 8, [.nilFunc], false⟩ := rfl
theorem T30 : T 30 = ⟨.func, 1, 8, [.nilFunc], false⟩ := rfl
theorem T31 : T 31 = ⟨.int .i64, 1, 8, [(.int .i64 0)], false⟩ := rfl
theorem T33 : T 33 = ⟨.func, 1, 8, [.nilFunc], false⟩ := rfl
theorem T34 : T 34 = ⟨.func, 1, 8, [.nilFunc], false⟩ := rfl
theorem T35 : T 35 = ⟨.func, 1, 8, [.nilFunc], false⟩ := rfl
theorem T36 : T 36 = ⟨.slice 5, 1, 24, [(.slice none 0 0)], false⟩ := rfl
theorem T37 : T 37 = ⟨.func, 1, 8, [.nilFunc], false⟩ := rfl
theorem T38 : T 38 = ⟨.func, 1, 8, [.nilFunc], false⟩ := rfl
theorem T39 : T 39 = ⟨.func, 1, 8, [.nilFunc], false⟩ := rfl
theorem T40 : T 40 = ⟨.func, 1, 8, [.nilFunc], false⟩ := rfl
theorem T41 : T 41 = ⟨.func, 1, 8, [.nilFunc], false⟩ := rfl
theorem T42 : T 42 = ⟨.func, 1, 8, [.nilFunc], false⟩ := rfl
theorem T43 : T 43 = ⟨.func, 1, 8, [.nilFunc], false⟩ := rfl
theorem T44 : T 44 = ⟨.func, 1, 8, [.nilFunc], false⟩ := rfl
theorem T45 : T 45 = ⟨.func, 1, 8, [.nilFunc], false⟩ := rfl
theorem T46 : T 46 = ⟨.func, 1, 8, [.nilFunc], false⟩ := rfl
theorem T47 : T 47 = ⟨.func, 1, 8, [.nilFunc], false⟩ := rfl
theorem T48 : T 48 = ⟨.func, 1, 8, [.nilFunc], false⟩ := rfl
theorem T49 : T 49 = ⟨.func, 1, 8, [.nilFunc], false⟩ := rfl
theorem T50 : T 50 = ⟨.func, 1, 8, [.nilFunc], false⟩ := rfl
theorem T51 : T 51 = ⟨.func, 1, 8, [.nilFunc], false⟩ := rfl
theorem T52 : T 52 = ⟨.func, 1, 8, [.nilFunc], false⟩ := rfl
theorem T53 : T 53 = ⟨.arr 2 3, 2, 16, [(.int .i64 0), (.int .i64 0)], true⟩ := rfl
theorem T54 : T 54 = ⟨.func, 1, 8, [.nilFunc], false⟩ := rfl
theorem T55 : T 55 = ⟨.func, 1, 8, [.nilFunc], false⟩ := rfl
theorem T56 : T 56 = ⟨.func, 1, 8, [.nilFunc], false⟩ := rfl
theorem T57 : T 57 = ⟨.func, 1, 8, [.nilFunc], false⟩ := rfl
theorem T58 : T 58 = ⟨.int .u64, 1, 8, [(.int .u64 0)], false⟩ := rfl
theorem T59 : T 59 = ⟨.func, 1, 8, [.nilFunc], false⟩ := rfl
theorem T60 : T 60 = ⟨.func, 1, 8, [.nilFunc], false⟩ := rfl
theorem T61 : T 61 = ⟨.func, 1, 8, [.nilFunc], false⟩ := rfl
theorem T62 : T 62 = ⟨.func, 1, 8, [.nilFunc], false⟩ := rfl
theorem T63 : T 63 = ⟨.func, 1, 8, [.nilFunc], false⟩ := rfl
theorem T64 : T 64 = ⟨.func, 1, 8, [.nilFunc], false⟩ := rfl
theorem T65 : T 65 = ⟨.slice 69, 1, 24, [(.slice none 0 0)], false⟩ := rfl
theorem T66 : T 66 = ⟨.func, 1, 8, [.nilFunc], false⟩ := rfl
theorem T67 : T 67 = ⟨.int .u64, 1, 8, [(.int .u64 0)], false⟩ := rfl
theorem T68 : T 68 = ⟨.arr 4 67, 4, 32, [(.int .u64 0), (.int .u64 0), (.int .u64 0), (.int .u64 0)], true⟩ := rfl
theorem T69 : T 69 = ⟨.arr 4 67, 4, 32, [(.int .u64 0), (.int .u64 0), (.int .u64 0), (.int .u64 0)], true⟩ := rfl
theorem T70 : T 70 = ⟨.func, 1, 8, [.nilFunc], false⟩ := rfl
theorem T71 : T 71 = ⟨.func, 1, 8, [.nilFunc], false⟩ := rfl
theorem T72 : T 72 = ⟨.func, 1, 8, [.nilFunc], false⟩ := rfl
theorem T73 : T 73 = ⟨.func, 1, 8, [.nilFunc], false⟩ := rfl
theorem T74 : T 74 = ⟨.map 53 3, 1, 8, [(.map none)], false⟩ := rfl
theorem T76 : T 76 = ⟨.map 3 3, 1, 8, [(.map none)], false⟩ := rfl
theorem T77 : T 77 = ⟨.map 9 3, 1, 8, [(.map none)], false⟩ := rfl
theorem T78 : T 78 = ⟨.map 5 5, 1, 8, [(.map none)], false⟩ := rfl
theorem T80 : T 80 = ⟨.func, 1, 8, [.nilFunc], false⟩ := rfl
theorem T81 : T 81 = ⟨.func, 1, 8, [.nilFunc], false⟩ := rfl
theorem T82 : T 82 = ⟨.arr 256 4, 256, 256, List.replicate 256 (.bool false), true⟩ := rfl
theorem T83 : T 83 = ⟨.func, 1, 8, [.nilFunc], false⟩ := rfl
theorem T84 : T 84 = ⟨.func, 1, 8, [.nilFunc], false⟩ := rfl
theorem T85 : T 85 = ⟨.func, 1, 8, [.nilFunc], false⟩ := rfl
theorem T86 : T 86 = ⟨.func, 1, 8, [.nilFunc], false⟩ := rfl
theorem T87 : T 87 = ⟨.func, 1, 8, [.nilFunc], false⟩ := rfl
theorem T88 : T 88 = ⟨.func, 1, 8, [.nilFunc], false⟩ := rfl
theorem T89 : T 89 = ⟨.func, 1, 8, [.nilFunc], false⟩ := rfl
theorem T90 : T 90 = ⟨.func, 1, 8, [.nilFunc], false⟩ := rfl
theorem T91 : T 91 = ⟨.func, 1, 8, [.nilFunc], false⟩ := rfl
theorem T92 : T 92 = ⟨.func, 1, 8, [.nilFunc], false⟩ := rfl
theorem T93 : T 93 = ⟨.arr 64 5, 64, 64, List.replicate 64 (.int .u8 0), true⟩ := rfl
theorem T94 : T 94 = ⟨.func, 1, 8, [.nilFunc], false⟩ := rfl
theorem T97 : T 97 = ⟨.arr 0 16, 0, 0, [], false⟩ := rfl
theorem T98 : T 98 = ⟨.struct [(0, 97)], 0, 0, [], false⟩ := rfl
theorem T100 : T 100 = ⟨.func, 1, 8, [.nilFunc], false⟩ := rfl
theorem T101 : T 101 = ⟨.int .u32, 1, 4, [(.int .u32 0)], false⟩ := rfl
theorem T104 : T 104 = ⟨.func, 1, 8, [.nilFunc], false⟩ := rfl
theorem T105 : T 105 = ⟨.ptr 5, 1, 8, [(.pointer none)], false⟩ := rfl
attribute [go_sem] T1 T2 T3 T4 T5 T9 T12 T13 T20 T21 T22 T23 T24 T25 T26 T27 T28 T30 T31 T33 T34 T35 T36 T37 T38 T39 T40 T41 T42 T43 T44 T45 T46 T47 T48 T49 T50 T51 T52 T53 T54 T55 T56 T57 T58 T59 T60 T61 T62 T63 T64 T65 T66 T67 T68 T69 T70 T71 T72 T73 T74 T76 T77 T78 T80 T81 T82 T83 T84 T85 T86 T87 T88 T89 T90 T91 T92 T93 T94 T97 T98 T100 T101 T104 T105

theorem ok1 : ∃ d i z, Tryd.prog.underlying 1 = some d ∧ (T 1).k.fits d ∧ Tryd.prog.info? 1 = some i ∧ i.size = (T 1).size ∧ i.bytes = (T 1).bytes ∧ i.zero = some z ∧ z.cells.toList = (T 1).zero ∧ z = zeroVal (T 1) ∧ ((T 1).eq = true → eqB Tryd.prog 1 d = true) :=
  ⟨_, Tryd.t1, _, Tryd.underlying1, ⟨_, _, _, rfl⟩, Tryd.type1, rfl, rfl, rfl, rfl, rfl, fun h => by cases h⟩
theorem ok2 : ∃ d i z, Tryd.prog.underlying 2 = some d ∧ (T 2).k.fits d ∧ Tryd.prog.info? 2 = some i ∧ i.size = (T 2).size ∧ i.bytes = (T 2).bytes ∧ i.zero = some z ∧ z.cells.toList = (T 2).zero ∧ z = zeroVal (T 2) ∧ ((T 2).eq = true → eqB Tryd.prog 2 d = true) :=
  ⟨_, Tryd.t2, _, Tryd.underlying2, rfl, Tryd.type2, rfl, rfl, rfl, rfl, rfl, fun h => by cases h⟩
theorem ok3 : ∃ d i z, Tryd.prog.underlying 3 = some d ∧ (T 3).k.fits d ∧ Tryd.prog.info? 3 = some i ∧ i.size = (T 3).size ∧ i.bytes = (T 3).bytes ∧ i.zero = some z ∧ z.cells.toList = (T 3).zero ∧ z = zeroVal (T 3) ∧ ((T 3).eq = true → eqB Tryd.prog 3 d = true) :=
  ⟨_, Tryd.t3, _, Tryd.underlying3, rfl, Tryd.type3, rfl, rfl, rfl, rfl, rfl, fun h => by cases h⟩
theorem ok4 : ∃ d i z, Tryd.prog.underlying 4 = some d ∧ (T 4).k.fits d ∧ Tryd.prog.info? 4 = some i ∧ i.size = (T 4).size ∧ i.bytes = (T 4).bytes ∧ i.zero = some z ∧ z.cells.toList = (T 4).zero ∧ z = zeroVal (T 4) ∧ ((T 4).eq = true → eqB Tryd.prog 4 d = true) :=
  ⟨_, Tryd.t4, _, Tryd.underlying4, rfl, Tryd.type4, rfl, rfl, rfl, rfl, rfl, fun h => by cases h⟩
theorem ok5 : ∃ d i z, Tryd.prog.underlying 5 = some d ∧ (T 5).k.fits d ∧ Tryd.prog.info? 5 = some i ∧ i.size = (T 5).size ∧ i.bytes = (T 5).bytes ∧ i.zero = some z ∧ z.cells.toList = (T 5).zero ∧ z = zeroVal (T 5) ∧ ((T 5).eq = true → eqB Tryd.prog 5 d = true) :=
  ⟨_, Tryd.t5, _, Tryd.underlying5, rfl, Tryd.type5, rfl, rfl, rfl, rfl, rfl, fun h => by cases h⟩
theorem ok9 : ∃ d i z, Tryd.prog.underlying 9 = some d ∧ (T 9).k.fits d ∧ Tryd.prog.info? 9 = some i ∧ i.size = (T 9).size ∧ i.bytes = (T 9).bytes ∧ i.zero = some z ∧ z.cells.toList = (T 9).zero ∧ z = zeroVal (T 9) ∧ ((T 9).eq = true → eqB Tryd.prog 9 d = true) :=
  ⟨_, Tryd.t9, _, Tryd.underlying9, rfl, Tryd.type9, rfl, rfl, rfl, rfl, rfl, fun h => by cases h⟩
theorem ok12 : ∃ d i z, Tryd.prog.underlying 12 = some d ∧ (T 12).k.fits d ∧ Tryd.prog.info? 12 = some i ∧ i.size = (T 12).size ∧ i.bytes = (T 12).bytes ∧ i.zero = some z ∧ z.cells.toList = (T 12).zero ∧ z = zeroVal (T 12) ∧ ((T 12).eq = true → eqB Tryd.prog 12 d = true) :=
  ⟨_, Tryd.t12, _, Tryd.underlying12, rfl, Tryd.type12, rfl, rfl, rfl, rfl, rfl, fun h => by cases h⟩
theorem ok13 : ∃ d i z, Tryd.prog.underlying 13 = some d ∧ (T 13).k.fits d ∧ Tryd.prog.info? 13 = some i ∧ i.size = (T 13).size ∧ i.bytes = (T 13).bytes ∧ i.zero = some z ∧ z.cells.toList = (T 13).zero ∧ z = zeroVal (T 13) ∧ ((T 13).eq = true → eqB Tryd.prog 13 d = true) :=
  ⟨_, Tryd.t13, _, Tryd.underlying13, ⟨_, rfl, rfl⟩, Tryd.type13, rfl, rfl, rfl, rfl, rfl, fun h => by cases h⟩
theorem ok20 : ∃ d i z, Tryd.prog.underlying 20 = some d ∧ (T 20).k.fits d ∧ Tryd.prog.info? 20 = some i ∧ i.size = (T 20).size ∧ i.bytes = (T 20).bytes ∧ i.zero = some z ∧ z.cells.toList = (T 20).zero ∧ z = zeroVal (T 20) ∧ ((T 20).eq = true → eqB Tryd.prog 20 d = true) :=
  ⟨_, Tryd.t20, _, Tryd.underlying20, ⟨_, rfl⟩, Tryd.type20, rfl, rfl, rfl, rfl, rfl, fun h => by cases h⟩
theorem ok21 : ∃ d i z, Tryd.prog.underlying 21 = some d ∧ (T 21).k.fits d ∧ Tryd.prog.info? 21 = some i ∧ i.size = (T 21).size ∧ i.bytes = (T 21).bytes ∧ i.zero = some z ∧ z.cells.toList = (T 21).zero ∧ z = zeroVal (T 21) ∧ ((T 21).eq = true → eqB Tryd.prog 21 d = true) :=
  ⟨_, Tryd.t21, _, Tryd.underlying21, rfl, Tryd.type21, rfl, rfl, rfl, rfl, rfl, fun h => by cases h⟩
theorem ok22 : ∃ d i z, Tryd.prog.underlying 22 = some d ∧ (T 22).k.fits d ∧ Tryd.prog.info? 22 = some i ∧ i.size = (T 22).size ∧ i.bytes = (T 22).bytes ∧ i.zero = some z ∧ z.cells.toList = (T 22).zero ∧ z = zeroVal (T 22) ∧ ((T 22).eq = true → eqB Tryd.prog 22 d = true) :=
  ⟨_, Tryd.t22, _, Tryd.underlying22, rfl, Tryd.type22, rfl, rfl, rfl, rfl, rfl, fun _ => by kernel_rfl⟩
theorem ok23 : ∃ d i z, Tryd.prog.underlying 23 = some d ∧ (T 23).k.fits d ∧ Tryd.prog.info? 23 = some i ∧ i.size = (T 23).size ∧ i.bytes = (T 23).bytes ∧ i.zero = some z ∧ z.cells.toList = (T 23).zero ∧ z = zeroVal (T 23) ∧ ((T 23).eq = true → eqB Tryd.prog 23 d = true) :=
  ⟨_, Tryd.t23, _, Tryd.underlying23, rfl, Tryd.type23, rfl, rfl, rfl, rfl, rfl, fun h => by cases h⟩
theorem ok24 : ∃ d i z, Tryd.prog.underlying 24 = some d ∧ (T 24).k.fits d ∧ Tryd.prog.info? 24 = some i ∧ i.size = (T 24).size ∧ i.bytes = (T 24).bytes ∧ i.zero = some z ∧ z.cells.toList = (T 24).zero ∧ z = zeroVal (T 24) ∧ ((T 24).eq = true → eqB Tryd.prog 24 d = true) :=
  ⟨_, Tryd.t24, _, Tryd.underlying24, rfl, Tryd.type24, rfl, rfl, rfl, rfl, rfl, fun h => by cases h⟩
theorem ok25 : ∃ d i z, Tryd.prog.underlying 25 = some d ∧ (T 25).k.fits d ∧ Tryd.prog.info? 25 = some i ∧ i.size = (T 25).size ∧ i.bytes = (T 25).bytes ∧ i.zero = some z ∧ z.cells.toList = (T 25).zero ∧ z = zeroVal (T 25) ∧ ((T 25).eq = true → eqB Tryd.prog 25 d = true) :=
  ⟨_, Tryd.t25, _, Tryd.underlying25, rfl, Tryd.type25, rfl, rfl, rfl, rfl, rfl, fun h => by cases h⟩
theorem ok26 : ∃ d i z, Tryd.prog.underlying 26 = some d ∧ (T 26).k.fits d ∧ Tryd.prog.info? 26 = some i ∧ i.size = (T 26).size ∧ i.bytes = (T 26).bytes ∧ i.zero = some z ∧ z.cells.toList = (T 26).zero ∧ z = zeroVal (T 26) ∧ ((T 26).eq = true → eqB Tryd.prog 26 d = true) :=
  ⟨_, Tryd.t26, _, Tryd.underlying26, ⟨_, rfl, rfl⟩, Tryd.type26, rfl, rfl, rfl, rfl, rfl, fun h => by cases h⟩
theorem ok27 : ∃ d i z, Tryd.prog.underlying 27 = some d ∧ (T 27).k.fits d ∧ Tryd.prog.info? 27 = some i ∧ i.size = (T 27).size ∧ i.bytes = (T 27).bytes ∧ i.zero = some z ∧ z.cells.toList = (T 27).zero ∧ z = zeroVal (T 27) ∧ ((T 27).eq = true → eqB Tryd.prog 27 d = true) :=
  ⟨_, Tryd.t27, _, Tryd.underlying27, ⟨_, rfl, rfl⟩, Tryd.type27, rfl, rfl, rfl, rfl, rfl, fun h => by cases h⟩
theorem ok28 : ∃ d i z, Tryd.prog.underlying 28 = some d ∧ (T 28).k.fits d ∧ Tryd.prog.info? 28 = some i ∧ i.size = (T 28).size ∧ i.bytes = (T 28).bytes ∧ i.zero = some z ∧ z.cells.toList = (T 28).zero ∧ z = zeroVal (T 28) ∧ ((T 28).eq = true → eqB Tryd.prog 28 d = true) :=
  ⟨_, Tryd.t28, _, Tryd.underlying28, ⟨_, _, _, rfl⟩, Tryd.type28, rfl, rfl, rfl, rfl, rfl, fun h => by cases h⟩
theorem ok30 : ∃ d i z, Tryd.prog.underlying 30 = some d ∧ (T 30).k.fits d ∧ Tryd.prog.info? 30 = some i ∧ i.size = (T 30).size ∧ i.bytes = (T 30).bytes ∧ i.zero = some z ∧ z.cells.toList = (T 30).zero ∧ z = zeroVal (T 30) ∧ ((T 30).eq = true → eqB Tryd.prog 30 d = true) :=
  ⟨_, Tryd.t30, _, Tryd.underlying30, ⟨_, _, _, rfl⟩, Tryd.type30, rfl, rfl, rfl, rfl, rfl, fun h => by cases h⟩
theorem ok31 : ∃ d i z, Tryd.prog.underlying 31 = some d ∧ (T 31).k.fits d ∧ Tryd.prog.info? 31 = some i ∧ i.size = (T 31).size ∧ i.bytes = (T 31).bytes ∧ i.zero = some z ∧ z.cells.toList = (T 31).zero ∧ z = zeroVal (T 31) ∧ ((T 31).eq = true → eqB Tryd.prog 31 d = true) :=
  ⟨_, Tryd.t31, _, Tryd.underlying31, rfl, Tryd.type31, rfl, rfl, rfl, rfl, rfl, fun h => by cases h⟩
theorem ok33 : ∃ d i z, Tryd.prog.underlying 33 = some d ∧ (T 33).k.fits d ∧ Tryd.prog.info? 33 = some i ∧ i.size = (T 33).size ∧ i.bytes = (T 33).bytes ∧ i.zero = some z ∧ z.cells.toList = (T 33).zero ∧ z = zeroVal (T 33) ∧ ((T 33).eq = true → eqB Tryd.prog 33 d = true) :=
  ⟨_, Tryd.t33, _, Tryd.underlying33, ⟨_, _, _, rfl⟩, Tryd.type33, rfl, rfl, rfl, rfl, rfl, fun h => by cases h⟩
theorem ok34 : ∃ d i z, Tryd.prog.underlying 34 = some d ∧ (T 34).k.fits d ∧ Tryd.prog.info? 34 = some i ∧ i.size = (T 34).size ∧ i.bytes = (T 34).bytes ∧ i.zero = some z ∧ z.cells.toList = (T 34).zero ∧ z = zeroVal (T 34) ∧ ((T 34).eq = true → eqB Tryd.prog 34 d = true) :=
  ⟨_, Tryd.t34, _, Tryd.underlying34, ⟨_, _, _, rfl⟩, Tryd.type34, rfl, rfl, rfl, rfl, rfl, fun h => by cases h⟩
theorem ok35 : ∃ d i z, Tryd.prog.underlying 35 = some d ∧ (T 35).k.fits d ∧ Tryd.prog.info? 35 = some i ∧ i.size = (T 35).size ∧ i.bytes = (T 35).bytes ∧ i.zero = some z ∧ z.cells.toList = (T 35).zero ∧ z = zeroVal (T 35) ∧ ((T 35).eq = true → eqB Tryd.prog 35 d = true) :=
  ⟨_, Tryd.t35, _, Tryd.underlying35, ⟨_, _, _, rfl⟩, Tryd.type35, rfl, rfl, rfl, rfl, rfl, fun h => by cases h⟩
theorem ok36 : ∃ d i z, Tryd.prog.underlying 36 = some d ∧ (T 36).k.fits d ∧ Tryd.prog.info? 36 = some i ∧ i.size = (T 36).size ∧ i.bytes = (T 36).bytes ∧ i.zero = some z ∧ z.cells.toList = (T 36).zero ∧ z = zeroVal (T 36) ∧ ((T 36).eq = true → eqB Tryd.prog 36 d = true) :=
  ⟨_, Tryd.t36, _, Tryd.underlying36, rfl, Tryd.type36, rfl, rfl, rfl, rfl, rfl, fun h => by cases h⟩
theorem ok37 : ∃ d i z, Tryd.prog.underlying 37 = some d ∧ (T 37).k.fits d ∧ Tryd.prog.info? 37 = some i ∧ i.size = (T 37).size ∧ i.bytes = (T 37).bytes ∧ i.zero = some z ∧ z.cells.toList = (T 37).zero ∧ z = zeroVal (T 37) ∧ ((T 37).eq = true → eqB Tryd.prog 37 d = true) :=
  ⟨_, Tryd.t37, _, Tryd.underlying37, ⟨_, _, _, rfl⟩, Tryd.type37, rfl, rfl, rfl, rfl, rfl, fun h => by cases h⟩
theorem ok38 : ∃ d i z, Tryd.prog.underlying 38 = some d ∧ (T 38).k.fits d ∧ Tryd.prog.info? 38 = some i ∧ i.size = (T 38).size ∧ i.bytes = (T 38).bytes ∧ i.zero = some z ∧ z.cells.toList = (T 38).zero ∧ z = zeroVal (T 38) ∧ ((T 38).eq = true → eqB Tryd.prog 38 d = true) :=
  ⟨_, Tryd.t38, _, Tryd.underlying38, ⟨_, _, _, rfl⟩, Tryd.type38, rfl, rfl, rfl, rfl, rfl, fun h => by cases h⟩
theorem ok39 : ∃ d i z, Tryd.prog.underlying 39 = some d ∧ (T 39).k.fits d ∧ Tryd.prog.info? 39 = some i ∧ i.size = (T 39).size ∧ i.bytes = (T 39).bytes ∧ i.zero = some z ∧ z.cells.toList = (T 39).zero ∧ z = zeroVal (T 39) ∧ ((T 39).eq = true → eqB Tryd.prog 39 d = true) :=
  ⟨_, Tryd.t39, _, Tryd.underlying39, ⟨_, _, _, rfl⟩, Tryd.type39, rfl, rfl, rfl, rfl, rfl, fun h => by cases h⟩
theorem ok40 : ∃ d i z, Tryd.prog.underlying 40 = some d ∧ (T 40).k.fits d ∧ Tryd.prog.info? 40 = some i ∧ i.size = (T 40).size ∧ i.bytes = (T 40).bytes ∧ i.zero = some z ∧ z.cells.toList = (T 40).zero ∧ z = zeroVal (T 40) ∧ ((T 40).eq = true → eqB Tryd.prog 40 d = true) :=
  ⟨_, Tryd.t40, _, Tryd.underlying40, ⟨_, _, _, rfl⟩, Tryd.type40, rfl, rfl, rfl, rfl, rfl, fun h => by cases h⟩
theorem ok41 : ∃ d i z, Tryd.prog.underlying 41 = some d ∧ (T 41).k.fits d ∧ Tryd.prog.info? 41 = some i ∧ i.size = (T 41).size ∧ i.bytes = (T 41).bytes ∧ i.zero = some z ∧ z.cells.toList = (T 41).zero ∧ z = zeroVal (T 41) ∧ ((T 41).eq = true → eqB Tryd.prog 41 d = true) :=
  ⟨_, Tryd.t41, _, Tryd.underlying41, ⟨_, _, _, rfl⟩, Tryd.type41, rfl, rfl, rfl, rfl, rfl, fun h => by cases h⟩
theorem ok42 : ∃ d i z, Tryd.prog.underlying 42 = some d ∧ (T 42).k.fits d ∧ Tryd.prog.info? 42 = some i ∧ i.size = (T 42).size ∧ i.bytes = (T 42).bytes ∧ i.zero = some z ∧ z.cells.toList = (T 42).zero ∧ z = zeroVal (T 42) ∧ ((T 42).eq = true → eqB Tryd.prog 42 d = true) :=
  ⟨_, Tryd.t42, _, Tryd.underlying42, ⟨_, _, _, rfl⟩, Tryd.type42, rfl, rfl, rfl, rfl, rfl, fun h => by cases h⟩
theorem ok43 : ∃ d i z, Tryd.prog.underlying 43 = some d ∧ (T 43).k.fits d ∧ Tryd.prog.info? 43 = some i ∧ i.size = (T 43).size ∧ i.bytes = (T 43).bytes ∧ i.zero = some z ∧ z.cells.toList = (T 43).zero ∧ z = zeroVal (T 43) ∧ ((T 43).eq = true → eqB Tryd.prog 43 d = true) :=
  ⟨_, Tryd.t43, _, Tryd.underlying43, ⟨_, _, _, rfl⟩, Tryd.type43, rfl, rfl, rfl, rfl, rfl, fun h => by cases h⟩
theorem ok44 : ∃ d i z, Tryd.prog.underlying 44 = some d ∧ (T 44).k.fits d ∧ Tryd.prog.info? 44 = some i ∧ i.size = (T 44).size ∧ i.bytes = (T 44).bytes ∧ i.zero = some z ∧ z.cells.toList = (T 44).zero ∧ z = zeroVal (T 44) ∧ ((T 44).eq = true → eqB Tryd.prog 44 d = true) :=
  ⟨_, Tryd.t44, _, Tryd.underlying44, ⟨_, _, _, rfl⟩, Tryd.type44, rfl, rfl, rfl, rfl, rfl, fun h => by cases h⟩
theorem ok45 : ∃ d i z, Tryd.prog.underlying 45 = some d ∧ (T 45).k.fits d ∧ Tryd.prog.info? 45 = some i ∧ i.size = (T 45).size ∧ i.bytes = (T 45).bytes ∧ i.zero = some z ∧ z.cells.toList = (T 45).zero ∧ z = zeroVal (T 45) ∧ ((T 45).eq = true → eqB Tryd.prog 45 d = true) :=
  ⟨_, Tryd.t45, _, Tryd.underlying45, ⟨_, _, _, rfl⟩, Tryd.type45, rfl, rfl, rfl, rfl, rfl, fun h => by cases h⟩
theorem ok46 : ∃ d i z, Tryd.prog.underlying 46 = some d ∧ (T 46).k.fits d ∧ Tryd.prog.info? 46 = some i ∧ i.size = (T 46).size ∧ i.bytes = (T 46).bytes ∧ i.zero = some z ∧ z.cells.toList = (T 46).zero ∧ z = zeroVal (T 46) ∧ ((T 46).eq = true → eqB Tryd.prog 46 d = true) :=
  ⟨_, Tryd.t46, _, Tryd.underlying46, ⟨_, _, _, rfl⟩, Tryd.type46, rfl, rfl, rfl, rfl, rfl, fun h => by cases h⟩
theorem ok47 : ∃ d i z, Tryd.prog.underlying 47 = some d ∧ (T 47).k.fits d ∧ Tryd.prog.info? 47 = some i ∧ i.size = (T 47).size ∧ i.bytes = (T 47).bytes ∧ i.zero = some z ∧ z.cells.toList = (T 47).zero ∧ z = zeroVal (T 47) ∧ ((T 47).eq = true → eqB Tryd.prog 47 d = true) :=
  ⟨_, Tryd.t47, _, Tryd.underlying47, ⟨_, _, _, rfl⟩, Tryd.type47, rfl, rfl, rfl, rfl, rfl, fun h => by cases h⟩
theorem ok48 : ∃ d i z, Tryd.prog.underlying 48 = some d ∧ (T 48).k.fits d ∧ Tryd.prog.info? 48 = some i ∧ i.size = (T 48).size ∧ i.bytes = (T 48).bytes ∧ i.zero = some z ∧ z.cells.toList = (T 48).zero ∧ z = zeroVal (T 48) ∧ ((T 48).eq = true → eqB Tryd.prog 48 d = true) :=
  ⟨_, Tryd.t48, _, Tryd.underlying48, ⟨_, _, _, rfl⟩, Tryd.type48, rfl, rfl, rfl, rfl, rfl, fun h => by cases h⟩
theorem ok49 : ∃ d i z, Tryd.prog.underlying 49 = some d ∧ (T 49).k.fits d ∧ Tryd.prog.info? 49 = some i ∧ i.size = (T 49).size ∧ i.bytes = (T 49).bytes ∧ i.zero = some z ∧ z.cells.toList = (T 49).zero ∧ z = zeroVal (T 49) ∧ ((T 49).eq = true → eqB Tryd.prog 49 d = true) :=
  ⟨_, Tryd.t49, _, Tryd.underlying49, ⟨_, _, _, rfl⟩, Tryd.type49, rfl, rfl, rfl, rfl, rfl, fun h => by cases h⟩
theorem ok50 : ∃ d i z, Tryd.prog.underlying 50 = some d ∧ (T 50).k.fits d ∧ Tryd.prog.info? 50 = some i ∧ i.size = (T 50).size ∧ i.bytes = (T 50).bytes ∧ i.zero = some z ∧ z.cells.toList = (T 50).zero ∧ z = zeroVal (T 50) ∧ ((T 50).eq = true → eqB Tryd.prog 50 d = true) :=
  ⟨_, Tryd.t50, _, Tryd.underlying50, ⟨_, _, _, rfl⟩, Tryd.type50, rfl, rfl, rfl, rfl, rfl, fun h => by cases h⟩
theorem ok51 : ∃ d i z, Tryd.prog.underlying 51 = some d ∧ (T 51).k.fits d ∧ Tryd.prog.info? 51 = some i ∧ i.size = (T 51).size ∧ i.bytes = (T 51).bytes ∧ i.zero = some z ∧ z.cells.toList = (T 51).zero ∧ z = zeroVal (T 51) ∧ ((T 51).eq = true → eqB Tryd.prog 51 d = true) :=
  ⟨_, Tryd.t51, _, Tryd.underlying51, ⟨_, _, _, rfl⟩, Tryd.type51, rfl, rfl, rfl, rfl, rfl, fun h => by cases h⟩
theorem ok52 : ∃ d i z, Tryd.prog.underlying 52 = some d ∧ (T 52).k.fits d ∧ Tryd.prog.info? 52 = some i ∧ i.size = (T 52).size ∧ i.bytes = (T 52).bytes ∧ i.zero = some z ∧ z.cells.toList = (T 52).zero ∧ z = zeroVal (T 52) ∧ ((T 52).eq = true → eqB Tryd.prog 52 d = true) :=
  ⟨_, Tryd.t52, _, Tryd.underlying52, ⟨_, _, _, rfl⟩, Tryd.type52, rfl, rfl, rfl, rfl, rfl, fun h => by cases h⟩
theorem ok53 : ∃ d i z, Tryd.prog.underlying 53 = some d ∧ (T 53).k.fits d ∧ Tryd.prog.info? 53 = some i ∧ i.size = (T 53).size ∧ i.bytes = (T 53).bytes ∧ i.zero = some z ∧ z.cells.toList = (T 53).zero ∧ z = zeroVal (T 53) ∧ ((T 53).eq = true → eqB Tryd.prog 53 d = true) :=
  ⟨_, Tryd.t53, _, Tryd.underlying53, rfl, Tryd.type53, rfl, rfl, rfl, rfl, rfl, fun _ => by kernel_rfl⟩
theorem ok54 : ∃ d i z, Tryd.prog.underlying 54 = some d ∧ (T 54).k.fits d ∧ Tryd.prog.info? 54 = some i ∧ i.size = (T 54).size ∧ i.bytes = (T 54).bytes ∧ i.zero = some z ∧ z.cells.toList = (T 54).zero ∧ z = zeroVal (T 54) ∧ ((T 54).eq = true → eqB Tryd.prog 54 d = true) :=
  ⟨_, Tryd.t54, _, Tryd.underlying54, ⟨_, _, _, rfl⟩, Tryd.type54, rfl, rfl, rfl, rfl, rfl, fun h => by cases h⟩
theorem ok55 : ∃ d i z, Tryd.prog.underlying 55 = some d ∧ (T 55).k.fits d ∧ Tryd.prog.info? 55 = some i ∧ i.size = (T 55).size ∧ i.bytes = (T 55).bytes ∧ i.zero = some z ∧ z.cells.toList = (T 55).zero ∧ z = zeroVal (T 55) ∧ ((T 55).eq = true → eqB Tryd.prog 55 d = true) :=
  ⟨_, Tryd.t55, _, Tryd.underlying55, ⟨_, _, _, rfl⟩, Tryd.type55, rfl, rfl, rfl, rfl, rfl, fun h => by cases h⟩
theorem ok56 : ∃ d i z, Tryd.prog.underlying 56 = some d ∧ (T 56).k.fits d ∧ Tryd.prog.info? 56 = some i ∧ i.size = (T 56).size ∧ i.bytes = (T 56).bytes ∧ i.zero = some z ∧ z.cells.toList = (T 56).zero ∧ z = zeroVal (T 56) ∧ ((T 56).eq = true → eqB Tryd.prog 56 d = true) :=
  ⟨_, Tryd.t56, _, Tryd.underlying56, ⟨_, _, _, rfl⟩, Tryd.type56, rfl, rfl, rfl, rfl, rfl, fun h => by cases h⟩
theorem ok57 : ∃ d i z, Tryd.prog.underlying 57 = some d ∧ (T 57).k.fits d ∧ Tryd.prog.info? 57 = some i ∧ i.size = (T 57).size ∧ i.bytes = (T 57).bytes ∧ i.zero = some z ∧ z.cells.toList = (T 57).zero ∧ z = zeroVal (T 57) ∧ ((T 57).eq = true → eqB Tryd.prog 57 d = true) :=
  ⟨_, Tryd.t57, _, Tryd.underlying57, ⟨_, _, _, rfl⟩, Tryd.type57, rfl, rfl, rfl, rfl, rfl, fun h => by cases h⟩
theorem ok58 : ∃ d i z, Tryd.prog.underlying 58 = some d ∧ (T 58).k.fits d ∧ Tryd.prog.info? 58 = some i ∧ i.size = (T 58).size ∧ i.bytes = (T 58).bytes ∧ i.zero = some z ∧ z.cells.toList = (T 58).zero ∧ z = zeroVal (T 58) ∧ ((T 58).eq = true → eqB Tryd.prog 58 d = true) :=
  ⟨_, Tryd.t58, _, Tryd.underlying58, rfl, Tryd.type58, rfl, rfl, rfl, rfl, rfl, fun h => by cases h⟩
theorem ok59 : ∃ d i z, Tryd.prog.underlying 59 = some d ∧ (T 59).k.fits d ∧ Tryd.prog.info? 59 = some i ∧ i.size = (T 59).size ∧ i.bytes = (T 59).bytes ∧ i.zero = some z ∧ z.cells.toList = (T 59).zero ∧ z = zeroVal (T 59) ∧ ((T 59).eq = true → eqB Tryd.prog 59 d = true) :=
  ⟨_, Tryd.t59, _, Tryd.underlying59, ⟨_, _, _, rfl⟩, Tryd.type59, rfl, rfl, rfl, rfl, rfl, fun h => by cases h⟩
theorem ok60 : ∃ d i z, Tryd.prog.underlying 60 = some d ∧ (T 60).k.fits d ∧ Tryd.prog.info? 60 = some i ∧ i.size = (T 60).size ∧ i.bytes = (T 60).bytes ∧ i.zero = some z ∧ z.cells.toList = (T 60).zero ∧ z = zeroVal (T 60) ∧ ((T 60).eq = true → eqB Tryd.prog 60 d = true) :=
  ⟨_, Tryd.t60, _, Tryd.underlying60, ⟨_, _, _, rfl⟩, Tryd.type60, rfl, rfl, rfl, rfl, rfl, fun h => by cases h⟩
theorem ok61 : ∃ d i z, Tryd.prog.underlying 61 = some d ∧ (T 61).k.fits d ∧ Tryd.prog.info? 61 = some i ∧ i.size = (T 61).size ∧ i.bytes = (T 61).bytes ∧ i.zero = some z ∧ z.cells.toList = (T 61).zero ∧ z = zeroVal (T 61) ∧ ((T 61).eq = true → eqB Tryd.prog 61 d = true) :=
  ⟨_, Tryd.t61, _, Tryd.underlying61, ⟨_, _, _, rfl⟩, Tryd.type61, rfl, rfl, rfl, rfl, rfl, fun h => by cases h⟩
theorem ok62 : ∃ d i z, Tryd.prog.underlying 62 = some d ∧ (T 62).k.fits d ∧ Tryd.prog.info? 62 = some i ∧ i.size = (T 62).size ∧ i.bytes = (T 62).bytes ∧ i.zero = some z ∧ z.cells.toList = (T 62).zero ∧ z = zeroVal (T 62) ∧ ((T 62).eq = true → eqB Tryd.prog 62 d = true) :=
  ⟨_, Tryd.t62, _, Tryd.underlying62, ⟨_, _, _, rfl⟩, Tryd.type62, rfl, rfl, rfl, rfl, rfl, fun h => by cases h⟩
theorem ok63 : ∃ d i z, Tryd.prog.underlying 63 = some d ∧ (T 63).k.fits d ∧ Tryd.prog.info? 63 = some i ∧ i.size = (T 63).size ∧ i.bytes = (T 63).bytes ∧ i.zero = some z ∧ z.cells.toList = (T 63).zero ∧ z = zeroVal (T 63) ∧ ((T 63).eq = true → eqB Tryd.prog 63 d = true) :=
  ⟨_, Tryd.t63, _, Tryd.underlying63, ⟨_, _, _, rfl⟩, Tryd.type63, rfl, rfl, rfl, rfl, rfl, fun h => by cases h⟩
theorem ok64 : ∃ d i z, Tryd.prog.underlying 64 = some d ∧ (T 64).k.fits d ∧ Tryd.prog.info? 64 = some i ∧ i.size = (T 64).size ∧ i.bytes = (T 64).bytes ∧ i.zero = some z ∧ z.cells.toList = (T 64).zero ∧ z = zeroVal (T 64) ∧ ((T 64).eq = true → eqB Tryd.prog 64 d = true) :=
  ⟨_, Tryd.t64, _, Tryd.underlying64, ⟨_, _, _, rfl⟩, Tryd.type64, rfl, rfl, rfl, rfl, rfl, fun h => by cases h⟩
theorem ok65 : ∃ d i z, Tryd.prog.underlying 65 = some d ∧ (T 65).k.fits d ∧ Tryd.prog.info? 65 = some i ∧ i.size = (T 65).size ∧ i.bytes = (T 65).bytes ∧ i.zero = some z ∧ z.cells.toList = (T 65).zero ∧ z = zeroVal (T 65) ∧ ((T 65).eq = true → eqB Tryd.prog 65 d = true) :=
  ⟨_, Tryd.t65, _, Tryd.underlying65, rfl, Tryd.type65, rfl, rfl, rfl, rfl, rfl, fun h => by cases h⟩
theorem ok66 : ∃ d i z, Tryd.prog.underlying 66 = some d ∧ (T 66).k.fits d ∧ Tryd.prog.info? 66 = some i ∧ i.size = (T 66).size ∧ i.bytes = (T 66).bytes ∧ i.zero = some z ∧ z.cells.toList = (T 66).zero ∧ z = zeroVal (T 66) ∧ ((T 66).eq = true → eqB Tryd.prog 66 d = true) :=
  ⟨_, Tryd.t66, _, Tryd.underlying66, ⟨_, _, _, rfl⟩, Tryd.type66, rfl, rfl, rfl, rfl, rfl, fun h => by cases h⟩
theorem ok67 : ∃ d i z, Tryd.prog.underlying 67 = some d ∧ (T 67).k.fits d ∧ Tryd.prog.info? 67 = some i ∧ i.size = (T 67).size ∧ i.bytes = (T 67).bytes ∧ i.zero = some z ∧ z.cells.toList = (T 67).zero ∧ z = zeroVal (T 67) ∧ ((T 67).eq = true → eqB Tryd.prog 67 d = true) :=
  ⟨_, Tryd.t67, _, Tryd.underlying67, rfl, Tryd.type67, rfl, rfl, rfl, rfl, rfl, fun h => by cases h⟩
theorem ok68 : ∃ d i z, Tryd.prog.underlying 68 = some d ∧ (T 68).k.fits d ∧ Tryd.prog.info? 68 = some i ∧ i.size = (T 68).size ∧ i.bytes = (T 68).bytes ∧ i.zero = some z ∧ z.cells.toList = (T 68).zero ∧ z = zeroVal (T 68) ∧ ((T 68).eq = true → eqB Tryd.prog 68 d = true) :=
  ⟨_, Tryd.t68, _, Tryd.underlying68, rfl, Tryd.type68, rfl, rfl, rfl, rfl, rfl, fun _ => by kernel_rfl⟩
theorem ok69 : ∃ d i z, Tryd.prog.underlying 69 = some d ∧ (T 69).k.fits d ∧ Tryd.prog.info? 69 = some i ∧ i.size = (T 69).size ∧ i.bytes = (T 69).bytes ∧ i.zero = some z ∧ z.cells.toList = (T 69).zero ∧ z = zeroVal (T 69) ∧ ((T 69).eq = true → eqB Tryd.prog 69 d = true) :=
  ⟨_, Tryd.t69, _, Tryd.underlying69, rfl, Tryd.type69, rfl, rfl, rfl, rfl, rfl, fun _ => by kernel_rfl⟩
theorem ok70 : ∃ d i z, Tryd.prog.underlying 70 = some d ∧ (T 70).k.fits d ∧ Tryd.prog.info? 70 = some i ∧ i.size = (T 70).size ∧ i.bytes = (T 70).bytes ∧ i.zero = some z ∧ z.cells.toList = (T 70).zero ∧ z = zeroVal (T 70) ∧ ((T 70).eq = true → eqB Tryd.prog 70 d = true) :=
  ⟨_, Tryd.t70, _, Tryd.underlying70, ⟨_, _, _, rfl⟩, Tryd.type70, rfl, rfl, rfl, rfl, rfl, fun h => by cases h⟩
theorem ok71 : ∃ d i z, Tryd.prog.underlying 71 = some d ∧ (T 71).k.fits d ∧ Tryd.prog.info? 71 = some i ∧ i.size = (T 71).size ∧ i.bytes = (T 71).bytes ∧ i.zero = some z ∧ z.cells.toList = (T 71).zero ∧ z = zeroVal (T 71) ∧ ((T 71).eq = true → eqB Tryd.prog 71 d = true) :=
  ⟨_, Tryd.t71, _, Tryd.underlying71, ⟨_, _, _, rfl⟩, Tryd.type71, rfl, rfl, rfl, rfl, rfl, fun h => by cases h⟩
theorem ok72 : ∃ d i z, Tryd.prog.underlying 72 = some d ∧ (T 72).k.fits d ∧ Tryd.prog.info? 72 = some i ∧ i.size = (T 72).size ∧ i.bytes = (T 72).bytes ∧ i.zero = some z ∧ z.cells.toList = (T 72).zero ∧ z = zeroVal (T 72) ∧ ((T 72).eq = true → eqB Tryd.prog 72 d = true) :=
  ⟨_, Tryd.t72, _, Tryd.underlying72, ⟨_, _, _, rfl⟩, Tryd.type72, rfl, rfl, rfl, rfl, rfl, fun h => by cases h⟩
theorem ok73 : ∃ d i z, Tryd.prog.underlying 73 = some d ∧ (T 73).k.fits d ∧ Tryd.prog.info? 73 = some i ∧ i.size = (T 73).size ∧ i.bytes = (T 73).bytes ∧ i.zero = some z ∧ z.cells.toList = (T 73).zero ∧ z = zeroVal (T 73) ∧ ((T 73).eq = true → eqB Tryd.prog 73 d = true) :=
  ⟨_, Tryd.t73, _, Tryd.underlying73, ⟨_, _, _, rfl⟩, Tryd.type73, rfl, rfl, rfl, rfl, rfl, fun h => by cases h⟩
theorem ok74 : ∃ d i z, Tryd.prog.underlying 74 = some d ∧ (T 74).k.fits d ∧ Tryd.prog.info? 74 = some i ∧ i.size = (T 74).size ∧ i.bytes = (T 74).bytes ∧ i.zero = some z ∧ z.cells.toList = (T 74).zero ∧ z = zeroVal (T 74) ∧ ((T 74).eq = true → eqB Tryd.prog 74 d = true) :=
  ⟨_, Tryd.t74, _, Tryd.underlying74, rfl, Tryd.type74, rfl, rfl, rfl, rfl, rfl, fun h => by cases h⟩
theorem ok76 : ∃ d i z, Tryd.prog.underlying 76 = some d ∧ (T 76).k.fits d ∧ Tryd.prog.info? 76 = some i ∧ i.size = (T 76).size ∧ i.bytes = (T 76).bytes ∧ i.zero = some z ∧ z.cells.toList = (T 76).zero ∧ z = zeroVal (T 76) ∧ ((T 76).eq = true → eqB Tryd.prog 76 d = true) :=
  ⟨_, Tryd.t76, _, Tryd.underlying76, rfl, Tryd.type76, rfl, rfl, rfl, rfl, rfl, fun h => by cases h⟩
theorem ok77 : ∃ d i z, Tryd.prog.underlying 77 = some d ∧ (T 77).k.fits d ∧ Tryd.prog.info? 77 = some i ∧ i.size = (T 77).size ∧ i.bytes = (T 77).bytes ∧ i.zero = some z ∧ z.cells.toList = (T 77).zero ∧ z = zeroVal (T 77) ∧ ((T 77).eq = true → eqB Tryd.prog 77 d = true) :=
  ⟨_, Tryd.t77, _, Tryd.underlying77, rfl, Tryd.type77, rfl, rfl, rfl, rfl, rfl, fun h => by cases h⟩
theorem ok78 : ∃ d i z, Tryd.prog.underlying 78 = some d ∧ (T 78).k.fits d ∧ Tryd.prog.info? 78 = some i ∧ i.size = (T 78).size ∧ i.bytes = (T 78).bytes ∧ i.zero = some z ∧ z.cells.toList = (T 78).zero ∧ z = zeroVal (T 78) ∧ ((T 78).eq = true → eqB Tryd.prog 78 d = true) :=
  ⟨_, Tryd.t78, _, Tryd.underlying78, rfl, Tryd.type78, rfl, rfl, rfl, rfl, rfl, fun h => by cases h⟩
theorem ok80 : ∃ d i z, Tryd.prog.underlying 80 = some d ∧ (T 80).k.fits d ∧ Tryd.prog.info? 80 = some i ∧ i.size = (T 80).size ∧ i.bytes = (T 80).bytes ∧ i.zero = some z ∧ z.cells.toList = (T 80).zero ∧ z = zeroVal (T 80) ∧ ((T 80).eq = true → eqB Tryd.prog 80 d = true) :=
  ⟨_, Tryd.t80, _, Tryd.underlying80, ⟨_, _, _, rfl⟩, Tryd.type80, rfl, rfl, rfl, rfl, rfl, fun h => by cases h⟩
theorem ok81 : ∃ d i z, Tryd.prog.underlying 81 = some d ∧ (T 81).k.fits d ∧ Tryd.prog.info? 81 = some i ∧ i.size = (T 81).size ∧ i.bytes = (T 81).bytes ∧ i.zero = some z ∧ z.cells.toList = (T 81).zero ∧ z = zeroVal (T 81) ∧ ((T 81).eq = true → eqB Tryd.prog 81 d = true) :=
  ⟨_, Tryd.t81, _, Tryd.underlying81, ⟨_, _, _, rfl⟩, Tryd.type81, rfl, rfl, rfl, rfl, rfl, fun h => by cases h⟩
theorem ok82 : ∃ d i z, Tryd.prog.underlying 82 = some d ∧ (T 82).k.fits d ∧ Tryd.prog.info? 82 = some i ∧ i.size = (T 82).size ∧ i.bytes = (T 82).bytes ∧ i.zero = some z ∧ z.cells.toList = (T 82).zero ∧ z = zeroVal (T 82) ∧ ((T 82).eq = true → eqB Tryd.prog 82 d = true) :=
  ⟨_, Tryd.t82, _, Tryd.underlying82, rfl, Tryd.type82, rfl, rfl, rfl, rfl, rfl, fun _ => by kernel_rfl⟩
theorem ok83 : ∃ d i z, Tryd.prog.underlying 83 = some d ∧ (T 83).k.fits d ∧ Tryd.prog.info? 83 = some i ∧ i.size = (T 83).size ∧ i.bytes = (T 83).bytes ∧ i.zero = some z ∧ z.cells.toList = (T 83).zero ∧ z = zeroVal (T 83) ∧ ((T 83).eq = true → eqB Tryd.prog 83 d = true) :=
  ⟨_, Tryd.t83, _, Tryd.underlying83, ⟨_, _, _, rfl⟩, Tryd.type83, rfl, rfl, rfl, rfl, rfl, fun h => by cases h⟩
theorem ok84 : ∃ d i z, Tryd.prog.underlying 84 = some d ∧ (T 84).k.fits d ∧ Tryd.prog.info? 84 = some i ∧ i.size = (T 84).size ∧ i.bytes = (T 84).bytes ∧ i.zero = some z ∧ z.cells.toList = (T 84).zero ∧ z = zeroVal (T 84) ∧ ((T 84).eq = true → eqB Tryd.prog 84 d = true) :=
  ⟨_, Tryd.t84, _, Tryd.underlying84, ⟨_, _, _, rfl⟩, Tryd.type84, rfl, rfl, rfl, rfl, rfl, fun h => by cases h⟩
theorem ok85 : ∃ d i z, Tryd.prog.underlying 85 = some d ∧ (T 85).k.fits d ∧ Tryd.prog.info? 85 = some i ∧ i.size = (T 85).size ∧ i.bytes = (T 85).bytes ∧ i.zero = some z ∧ z.cells.toList = (T 85).zero ∧ z = zeroVal (T 85) ∧ ((T 85).eq = true → eqB Tryd.prog 85 d = true) :=
  ⟨_, Tryd.t85, _, Tryd.underlying85, ⟨_, _, _, rfl⟩, Tryd.type85, rfl, rfl, rfl, rfl, rfl, fun h => by cases h⟩
theorem ok86 : ∃ d i z, Tryd.prog.underlying 86 = some d ∧ (T 86).k.fits d ∧ Tryd.prog.info? 86 = some i ∧ i.size = (T 86).size ∧ i.bytes = (T 86).bytes ∧ i.zero = some z ∧ z.cells.toList = (T 86).zero ∧ z = zeroVal (T 86) ∧ ((T 86).eq = true → eqB Tryd.prog 86 d = true) :=
  ⟨_, Tryd.t86, _, Tryd.underlying86, ⟨_, _, _, rfl⟩, Tryd.type86, rfl, rfl, rfl, rfl, rfl, fun h => by cases h⟩
theorem ok87 : ∃ d i z, Tryd.prog.underlying 87 = some d ∧ (T 87).k.fits d ∧ Tryd.prog.info? 87 = some i ∧ i.size = (T 87).size ∧ i.bytes = (T 87).bytes ∧ i.zero = some z ∧ z.cells.toList = (T 87).zero ∧ z = zeroVal (T 87) ∧ ((T 87).eq = true → eqB Tryd.prog 87 d = true) :=
  ⟨_, Tryd.t87, _, Tryd.underlying87, ⟨_, _, _, rfl⟩, Tryd.type87, rfl, rfl, rfl, rfl, rfl, fun h => by cases h⟩
theorem ok88 : ∃ d i z, Tryd.prog.underlying 88 = some d ∧ (T 88).k.fits d ∧ Tryd.prog.info? 88 = some i ∧ i.size = (T 88).size ∧ i.bytes = (T 88).bytes ∧ i.zero = some z ∧ z.cells.toList = (T 88).zero ∧ z = zeroVal (T 88) ∧ ((T 88).eq = true → eqB Tryd.prog 88 d = true) :=
  ⟨_, Tryd.t88, _, Tryd.underlying88, ⟨_, _, _, rfl⟩, Tryd.type88, rfl, rfl, rfl, rfl, rfl, fun h => by cases h⟩
theorem ok89 : ∃ d i z, Tryd.prog.underlying 89 = some d ∧ (T 89).k.fits d ∧ Tryd.prog.info? 89 = some i ∧ i.size = (T 89).size ∧ i.bytes = (T 89).bytes ∧ i.zero = some z ∧ z.cells.toList = (T 89).zero ∧ z = zeroVal (T 89) ∧ ((T 89).eq = true → eqB Tryd.prog 89 d = true) :=
  ⟨_, Tryd.t89, _, Tryd.underlying89, ⟨_, _, _, rfl⟩, Tryd.type89, rfl, rfl, rfl, rfl, rfl, fun h => by cases h⟩
theorem ok90 : ∃ d i z, Tryd.prog.underlying 90 = some d ∧ (T 90).k.fits d ∧ Tryd.prog.info? 90 = some i ∧ i.size = (T 90).size ∧ i.bytes = (T 90).bytes ∧ i.zero = some z ∧ z.cells.toList = (T 90).zero ∧ z = zeroVal (T 90) ∧ ((T 90).eq = true → eqB Tryd.prog 90 d = true) :=
  ⟨_, Tryd.t90, _, Tryd.underlying90, ⟨_, _, _, rfl⟩, Tryd.type90, rfl, rfl, rfl, rfl, rfl, fun h => by cases h⟩
theorem ok91 : ∃ d i z, Tryd.prog.underlying 91 = some d ∧ (T 91).k.fits d ∧ Tryd.prog.info? 91 = some i ∧ i.size = (T 91).size ∧ i.bytes = (T 91).bytes ∧ i.zero = some z ∧ z.cells.toList = (T 91).zero ∧ z = zeroVal (T 91) ∧ ((T 91).eq = true → eqB Tryd.prog 91 d = true) :=
  ⟨_, Tryd.t91, _, Tryd.underlying91, ⟨_, _, _, rfl⟩, Tryd.type91, rfl, rfl, rfl, rfl, rfl, fun h => by cases h⟩
theorem ok92 : ∃ d i z, Tryd.prog.underlying 92 = some d ∧ (T 92).k.fits d ∧ Tryd.prog.info? 92 = some i ∧ i.size = (T 92).size ∧ i.bytes = (T 92).bytes ∧ i.zero = some z ∧ z.cells.toList = (T 92).zero ∧ z = zeroVal (T 92) ∧ ((T 92).eq = true → eqB Tryd.prog 92 d = true) :=
  ⟨_, Tryd.t92, _, Tryd.underlying92, ⟨_, _, _, rfl⟩, Tryd.type92, rfl, rfl, rfl, rfl, rfl, fun h => by cases h⟩
theorem ok93 : ∃ d i z, Tryd.prog.underlying 93 = some d ∧ (T 93).k.fits d ∧ Tryd.prog.info? 93 = some i ∧ i.size = (T 93).size ∧ i.bytes = (T 93).bytes ∧ i.zero = some z ∧ z.cells.toList = (T 93).zero ∧ z = zeroVal (T 93) ∧ ((T 93).eq = true → eqB Tryd.prog 93 d = true) :=
  ⟨_, Tryd.t93, _, Tryd.underlying93, rfl, Tryd.type93, rfl, rfl, rfl, rfl, rfl, fun _ => by kernel_rfl⟩
theorem ok94 : ∃ d i z, Tryd.prog.underlying 94 = some d ∧ (T 94).k.fits d ∧ Tryd.prog.info? 94 = some i ∧ i.size = (T 94).size ∧ i.bytes = (T 94).bytes ∧ i.zero = some z ∧ z.cells.toList = (T 94).zero ∧ z = zeroVal (T 94) ∧ ((T 94).eq = true → eqB Tryd.prog 94 d = true) :=
  ⟨_, Tryd.t94, _, Tryd.underlying94, ⟨_, _, _, rfl⟩, Tryd.type94, rfl, rfl, rfl, rfl, rfl, fun h => by cases h⟩
theorem ok97 : ∃ d i z, Tryd.prog.underlying 97 = some d ∧ (T 97).k.fits d ∧ Tryd.prog.info? 97 = some i ∧ i.size = (T 97).size ∧ i.bytes = (T 97).bytes ∧ i.zero = some z ∧ z.cells.toList = (T 97).zero ∧ z = zeroVal (T 97) ∧ ((T 97).eq = true → eqB Tryd.prog 97 d = true) :=
  ⟨_, Tryd.t97, _, Tryd.underlying97, rfl, Tryd.type97, rfl, rfl, rfl, rfl, rfl, fun h => by cases h⟩
theorem ok98 : ∃ d i z, Tryd.prog.underlying 98 = some d ∧ (T 98).k.fits d ∧ Tryd.prog.info? 98 = some i ∧ i.size = (T 98).size ∧ i.bytes = (T 98).bytes ∧ i.zero = some z ∧ z.cells.toList = (T 98).zero ∧ z = zeroVal (T 98) ∧ ((T 98).eq = true → eqB Tryd.prog 98 d = true) :=
  ⟨_, Tryd.t98, _, Tryd.underlying98, ⟨_, rfl, rfl⟩, Tryd.type98, rfl, rfl, rfl, rfl, rfl, fun h => by cases h⟩
theorem ok100 : ∃ d i z, Tryd.prog.underlying 100 = some d ∧ (T 100).k.fits d ∧ Tryd.prog.info? 100 = some i ∧ i.size = (T 100).size ∧ i.bytes = (T 100).bytes ∧ i.zero = some z ∧ z.cells.toList = (T 100).zero ∧ z = zeroVal (T 100) ∧ ((T 100).eq = true → eqB Tryd.prog 100 d = true) :=
  ⟨_, Tryd.t100, _, Tryd.underlying100, ⟨_, _, _, rfl⟩, Tryd.type100, rfl, rfl, rfl, rfl, rfl, fun h => by cases h⟩
theorem ok101 : ∃ d i z, Tryd.prog.underlying 101 = some d ∧ (T 101).k.fits d ∧ Tryd.prog.info? 101 = some i ∧ i.size = (T 101).size ∧ i.bytes = (T 101).bytes ∧ i.zero = some z ∧ z.cells.toList = (T 101).zero ∧ z = zeroVal (T 101) ∧ ((T 101).eq = true → eqB Tryd.prog 101 d = true) :=
  ⟨_, Tryd.t101, _, Tryd.underlying101, rfl, Tryd.type101, rfl, rfl, rfl, rfl, rfl, fun h => by cases h⟩
theorem ok104 : ∃ d i z, Tryd.prog.underlying 104 = some d ∧ (T 104).k.fits d ∧ Tryd.prog.info? 104 = some i ∧ i.size = (T 104).size ∧ i.bytes = (T 104).bytes ∧ i.zero = some z ∧ z.cells.toList = (T 104).zero ∧ z = zeroVal (T 104) ∧ ((T 104).eq = true → eqB Tryd.prog 104 d = true) :=
  ⟨_, Tryd.t104, _, Tryd.underlying104, ⟨_, _, _, rfl⟩, Tryd.type104, rfl, rfl, rfl, rfl, rfl, fun h => by cases h⟩
theorem ok105 : ∃ d i z, Tryd.prog.underlying 105 = some d ∧ (T 105).k.fits d ∧ Tryd.prog.info? 105 = some i ∧ i.size = (T 105).size ∧ i.bytes = (T 105).bytes ∧ i.zero = some z ∧ z.cells.toList = (T 105).zero ∧ z = zeroVal (T 105) ∧ ((T 105).eq = true → eqB Tryd.prog 105 d = true) :=
  ⟨_, Tryd.t105, _, Tryd.underlying105, rfl, Tryd.type105, rfl, rfl, rfl, rfl, rfl, fun h => by cases h⟩

theorem tok : TyOk Tryd.prog T := by
  intro t
  by_cases h : (T t).k = .none
  · exact .inl h
  · refine .inr ?_
    unfold T at h
    split at h
    · exact ok1
    · exact ok2
    · exact ok3
    · exact ok4
    · exact ok5
    · exact ok9
    · exact ok12
    · exact ok13
    · exact ok20
    · exact ok21
    · exact ok22
    · exact ok23
    · exact ok24
    · exact ok25
    · exact ok26
    · exact ok27
    · exact ok28
    · exact ok30
    · exact ok31
    · exact ok33
    · exact ok34
    · exact ok35
    · exact ok36
    · exact ok37
    · exact ok38
    · exact ok39
    · exact ok40
    · exact ok41
    · exact ok42
    · exact ok43
    · exact ok44
    · exact ok45
    · exact ok46
    · exact ok47
    · exact ok48
    · exact ok49
    · exact ok50
    · exact ok51
    · exact ok52
    · exact ok53
    · exact ok54
    · exact ok55
    · exact ok56
    · exact ok57
    · exact ok58
    · exact ok59
    · exact ok60
    · exact ok61
    · exact ok62
    · exact ok63
    · exact ok64
    · exact ok65
    · exact ok66
    · exact ok67
    · exact ok68
    · exact ok69
    · exact ok70
    · exact ok71
    · exact ok72
    · exact ok73
    · exact ok74
    · exact ok76
    · exact ok77
    · exact ok78
    · exact ok80
    · exact ok81
    · exact ok82
    · exact ok83
    · exact ok84
    · exact ok85
    · exact ok86
    · exact ok87
    · exact ok88
    · exact ok89
    · exact ok90
    · exact ok91
    · exact ok92
    · exact ok93
    · exact ok94
    · exact ok97
    · exact ok98
    · exact ok100
    · exact ok101
    · exact ok104
    · exact ok105
    · exact absurd rfl h

theorem mixed : Tryd.prog.follows .mixedOrders = true := by kernel_rfl

theorem seatok : SeatOk Tryd.prog := ⟨by kernel_rfl, by kernel_rfl, by kernel_rfl⟩

end Go.Proofs.YtmnmihfinmcljaaDoor
