/-
  The table of this seat's types, for the verification layer; by a program of ours.
-/
import Derived.Test.YtomdbjfdbkejoaaProg
import Derived.Test.YtomdbjfdbkejoaaVeM
set_option linter.unusedSimpArgs false
set_option maxRecDepth 20000
namespace Go.Proofs.Ytomdbjfdbkejoaa
open Go Go.V Go.Proofs

def T : Tys := fun t => match t with
  | 1 => ⟨.func, 1, 8, [.nilFunc], false⟩
  | 2 => ⟨.int .i64, 1, 8, [(.int .i64 0)], false⟩
  | 3 => ⟨.int .i64, 1, 8, [(.int .i64 0)], false⟩
  | 4 => ⟨.bool, 1, 1, [(.bool false)], false⟩
  | 5 => ⟨.int .u8, 1, 1, [(.int .u8 0)], false⟩
  | 9 => ⟨.string, 1, 16, [(.string ⟨#[]⟩)], false⟩
  | 12 => ⟨.int .u64, 1, 8, [(.int .u64 0)], false⟩
  | 13 => ⟨.struct [(0, 9), (1, 12)], 2, 24, [(.string ⟨#[]⟩), (.int .u64 0)], false⟩
  | 20 => ⟨.iface, 1, 16, [.nilIface], false⟩
  | 21 => ⟨.int .i32, 1, 4, [(.int .i32 0)], false⟩
  | 22 => ⟨.slice 5, 1, 24, [(.slice none 0 0)], false⟩
  | 23 => ⟨.arr 256 5, 256, 256, List.replicate 256 (.int .u8 0), true⟩
  | 24 => ⟨.slice 25, 1, 24, [(.slice none 0 0)], false⟩
  | 25 => ⟨.slice 3, 1, 24, [(.slice none 0 0)], false⟩
  | 26 => ⟨.slice 9, 1, 24, [(.slice none 0 0)], false⟩
  | 27 => ⟨.struct [(0, 23), (256, 3), (257, 24), (258, 25), (259, 26)], 260, 336, List.replicate 256 (.int .u8 0) ++ [(.int .i64 0), (.slice none 0 0), (.slice none 0 0), (.slice none 0 0)], false⟩
  | 28 => ⟨.struct [(0, 23), (256, 3), (257, 24), (258, 25), (259, 26)], 260, 336, List.replicate 256 (.int .u8 0) ++ [(.int .i64 0), (.slice none 0 0), (.slice none 0 0), (.slice none 0 0)], false⟩
  | 29 => ⟨.int .i64, 1, 8, [(.int .i64 0)], false⟩
  | 31 => ⟨.func, 1, 8, [.nilFunc], false⟩
  | 32 => ⟨.func, 1, 8, [.nilFunc], false⟩
  | 33 => ⟨.int .u32, 1, 4, [(.int .u32 0)], false⟩
  | 34 => ⟨.func, 1, 8, [.nilFunc], false⟩
  | 35 => ⟨.int .u64, 1, 8, [(.int .u64 0)], false⟩
  | 36 => ⟨.func, 1, 8, [.nilFunc], false⟩
  | 37 => ⟨.func, 1, 8, [.nilFunc], false⟩
  | 39 => ⟨.func, 1, 8, [.nilFunc], false⟩
  | 40 => ⟨.func, 1, 8, [.nilFunc], false⟩
  | 41 => ⟨.func, 1, 8, [.nilFunc], false⟩
  | 42 => ⟨.struct [(0, 22), (1, 4)], 2, 32, [(.slice none 0 0), (.bool false)], false⟩
  | 43 => ⟨.struct [(0, 22), (1, 4)], 2, 32, [(.slice none 0 0), (.bool false)], false⟩
  | 44 => ⟨.func, 1, 8, [.nilFunc], false⟩
  | 45 => ⟨.func, 1, 8, [.nilFunc], false⟩
  | 46 => ⟨.func, 1, 8, [.nilFunc], false⟩
  | 47 => ⟨.func, 1, 8, [.nilFunc], false⟩
  | 48 => ⟨.func, 1, 8, [.nilFunc], false⟩
  | 49 => ⟨.func, 1, 8, [.nilFunc], false⟩
  | 50 => ⟨.func, 1, 8, [.nilFunc], false⟩
  | 51 => ⟨.func, 1, 8, [.nilFunc], false⟩
  | 52 => ⟨.func, 1, 8, [.nilFunc], false⟩
  | 53 => ⟨.func, 1, 8, [.nilFunc], false⟩
  | 54 => ⟨.func, 1, 8, [.nilFunc], false⟩
  | 55 => ⟨.ptr 43, 1, 8, [(.pointer none)], false⟩
  | 56 => ⟨.func, 1, 8, [.nilFunc], false⟩
  | 57 => ⟨.func, 1, 8, [.nilFunc], false⟩
  | 59 => ⟨.func, 1, 8, [.nilFunc], false⟩
  | 60 => ⟨.func, 1, 8, [.nilFunc], false⟩
  | 61 => ⟨.func, 1, 8, [.nilFunc], false⟩
  | 62 => ⟨.func, 1, 8, [.nilFunc], false⟩
  | 63 => ⟨.func, 1, 8, [.nilFunc], false⟩
  | 64 => ⟨.func, 1, 8, [.nilFunc], false⟩
  | 65 => ⟨.func, 1, 8, [.nilFunc], false⟩
  | 66 => ⟨.func, 1, 8, [.nilFunc], false⟩
  | 67 => ⟨.func, 1, 8, [.nilFunc], false⟩
  | 68 => ⟨.func, 1, 8, [.nilFunc], false⟩
  | 69 => ⟨.func, 1, 8, [.nilFunc], false⟩
  | 70 => ⟨.func, 1, 8, [.nilFunc], false⟩
  | 71 => ⟨.slice 79, 1, 24, [(.slice none 0 0)], false⟩
  | 72 => ⟨.func, 1, 8, [.nilFunc], false⟩
  | 73 => ⟨.map 5 5, 1, 8, [(.map none)], false⟩
  | 75 => ⟨.func, 1, 8, [.nilFunc], false⟩
  | 76 => ⟨.func, 1, 8, [.nilFunc], false⟩
  | 77 => ⟨.int .u64, 1, 8, [(.int .u64 0)], false⟩
  | 78 => ⟨.arr 4 77, 4, 32, [(.int .u64 0), (.int .u64 0), (.int .u64 0), (.int .u64 0)], true⟩
  | 79 => ⟨.arr 4 77, 4, 32, [(.int .u64 0), (.int .u64 0), (.int .u64 0), (.int .u64 0)], true⟩
  | 80 => ⟨.arr 256 4, 256, 256, List.replicate 256 (.bool false), true⟩
  | 81 => ⟨.func, 1, 8, [.nilFunc], false⟩
  | 82 => ⟨.func, 1, 8, [.nilFunc], false⟩
  | 85 => ⟨.arr 0 16, 0, 0, [], false⟩
  | 86 => ⟨.struct [(0, 85)], 0, 0, [], false⟩
  | 88 => ⟨.func, 1, 8, [.nilFunc], false⟩
  | 91 => ⟨.func, 1, 8, [.nilFunc], false⟩
  | 92 => ⟨.ptr 5, 1, 8, [(.pointer none)], false⟩
  | _ => ⟨.none, 0, 0, [], false⟩

theorem T1 : T 1 = ⟨.func, 1, 8, [.nilFunc], false⟩ := rfl
theorem T2 : T 2 = ⟨.int .i64, 1, 8, [(.int .i64 0)], false⟩ := rfl
theorem T3 : T 3 = ⟨.int .i64, 1, 8, [(.int .i64 0)], false⟩ := rfl
theorem T4 : T 4 = ⟨.bool, 1, 1, [(.bool false)], false⟩ := rfl
theorem T5 : T 5 = ⟨.int .u8, 1, 1, [(.int .u8 0)], false⟩ := rfl
theorem T9 : T 9 = ⟨.string, 1, 16, [(.string ⟨#[]⟩)], false⟩ := rfl
theorem T12 : T 12 = ⟨.int .u64, 1, 8, [(.int .u64 0)], false⟩ := rfl
theorem T13 : T 13 = ⟨.struct [(0, 9), (1, 12)], 2, 24, [(.string ⟨#[]⟩), (.int .u64 0)], false⟩ := rfl
theorem T20 : T 20 = ⟨.iface, 1, 16, [.nilIface], false⟩ := rfl
theorem T21 : T 21 = ⟨.int .i32, 1, 4, [(.int .i32 0)], false⟩ := rfl
theorem T22 : T 22 = ⟨.slice 5, 1, 24, [(.slice none 0 0)], false⟩ := rfl
theorem T23 : T 23 = ⟨.arr 256 5, 256, 256, List.replicate 256 (.int .u8 0), true⟩ := rfl
theorem T24 : T 24 = ⟨.slice 25, 1, 24, [(.slice none 0 0)], false⟩ := rfl
theorem T25 : T 25 = ⟨.slice 3, 1, 24, [(.slice none 0 0)], false⟩ := rfl
theorem T26 : T 26 = ⟨.slice 9, 1, 24, [(.slice none 0 0)], false⟩ := rfl
theorem T27 : T 27 = ⟨.struct [(0, 23), (256, 3), (257, 24), (258, 25), (259, 26)], 260, 336, List.replicate 256 (.int .u8 0) ++ [(.int .i64 0), (.slice none 0 0), (.slice none 0 0), (.slice none 0 0)], false⟩ := rfl
theorem T28 : T 28 = ⟨.struct [(0, 23), (256, 3), (257, 24), (258, 25), (259, 26)], 260, 336, List.replicate 256 (.int .u8 0) ++ [(.int .i64 0), (.slice none 0 0), (.slice none 0 0), (.slice none 0 0)], false⟩ := rfl
theorem T29 : T 29 = ⟨.int .i64, 1, 8, [(.int .i64 0)], false⟩ := rfl
theorem T31 : T 31 = ⟨.func, 1, 8, [.nilFunc], false⟩ := rfl
theorem T32 : T 32 = ⟨.func, 1, 8, [.nilFunc], false⟩ := rfl
theorem T33 : T 33 = ⟨.int .u32, 1, 4, [(.int .u32 0)], false⟩ := rfl
theorem T34 : T 34 = ⟨.func, 1, 8, [.nilFunc], false⟩ := rfl
theorem T35 : T 35 = ⟨.int .u64, 1, 8, [(.int .u64 0)], false⟩ := rfl
theorem T36 : T 36 = ⟨.func, 1, 8, [.nilFunc], false⟩ := rfl
theorem T37 : T 37 = ⟨.func, 1, 8, [.nilFunc], false⟩ := rfl
theorem T39 : T 39 = ⟨.func, 1, 8, [.nilFunc], false⟩ := rfl
theorem T40 : T 40 = ⟨.func, 1, 8, [.nilFunc], false⟩ := rfl
theorem T41 : T 41 = ⟨.func, 1, 8, [.nilFunc], false⟩ := rfl
theorem T42 : T 42 = ⟨.struct [(0, 22), (1, 4)], 2, 32, [(.slice none 0 0), (.bool false)], false⟩ := rfl
theorem T43 : T 43 = ⟨.struct [(0, 22), (1, 4)], 2, 32, [(.slice none 0 0), (.bool false)], false⟩ := rfl
theorem T44 : T 44 = ⟨.func, 1, 8, [.nilFunc], false⟩ := rfl
theorem T45 : T 45 = ⟨.func, 1, 8, [.nilFunc], false⟩ := rfl
theorem T46 : T 46 = ⟨.func, 1, 8, [.nilFunc], false⟩ := rfl
theorem T47 : T 47 = ⟨.func, 1, 8, [.nilFunc], false⟩ := rfl
theorem T48 : T 48 = ⟨.func, 1, 8, [.nilFunc], false⟩ := rfl
theorem T49 : T 49 = ⟨.func, 1, 8, [.nilFunc], false⟩ := rfl
theorem T50 : T 50 = ⟨.func, 1, 8, [.nilFunc], false⟩ := rfl
theorem T51 : T 51 = ⟨.func, 1, 8, [.nilFunc], false⟩ := rfl
theorem T52 : T 52 = ⟨.func, 1, 8, [.nilFunc], false⟩ := rfl
theorem T53 : T 53 = ⟨.func, 1, 8, [.nilFunc], false⟩ := rfl
theorem T54 : T 54 = ⟨.func, 1, 8, [.nilFunc], false⟩ := rfl
theorem T55 : T 55 = ⟨.ptr 43, 1, 8, [(.pointer none)], false⟩ := rfl
theorem T56 : T 56 = ⟨.func, 1, 8, [.nilFunc], false⟩ := rfl
theorem T57 : T 57 = ⟨.func, 1, 8, [.nilFunc], false⟩ := rfl
theorem T59 : T 59 = ⟨.func, 1, 8, [.nilFunc], false⟩ := rfl
theorem T60 : T 60 = ⟨.func, 1, 8, [.nilFunc], false⟩ := rfl
theorem T61 : T 61 = ⟨.func, 1, 8, [.nilFunc], false⟩ := rfl
theorem T62 : T 62 = ⟨.func, 1, 8, [.nilFunc], false⟩ := rfl
theorem T63 : T 63 = ⟨.func, 1, 8, [.nilFunc], false⟩ := rfl
theorem T64 : T 64 = ⟨.func, 1, 8, [.nilFunc], false⟩ := rfl
theorem T65 : T 65 = ⟨.func, 1, 8, [.nilFunc], false⟩ := rfl
theorem T66 : T 66 = ⟨.func, 1, 8, [.nilFunc], false⟩ := rfl
theorem T67 : T 67 = ⟨.func, 1, 8, [.nilFunc], false⟩ := rfl
theorem T68 : T 68 = ⟨.func, 1, 8, [.nilFunc], false⟩ := rfl
theorem T69 : T 69 = ⟨.func, 1, 8, [.nilFunc], false⟩ := rfl
theorem T70 : T 70 = ⟨.func, 1, 8, [.nilFunc], false⟩ := rfl
theorem T71 : T 71 = ⟨.slice 79, 1, 24, [(.slice none 0 0)], false⟩ := rfl
theorem T72 : T 72 = ⟨.func, 1, 8, [.nilFunc], false⟩ := rfl
theorem T73 : T 73 = ⟨.map 5 5, 1, 8, [(.map none)], false⟩ := rfl
theorem T75 : T 75 = ⟨.func, 1, 8, [.nilFunc], false⟩ := rfl
theorem T76 : T 76 = ⟨.func, 1, 8, [.nilFunc], false⟩ := rfl
theorem T77 : T 77 = ⟨.int .u64, 1, 8, [(.int .u64 0)], false⟩ := rfl
theorem T78 : T 78 = ⟨.arr 4 77, 4, 32, [(.int .u64 0), (.int .u64 0), (.int .u64 0), (.int .u64 0)], true⟩ := rfl
theorem T79 : T 79 = ⟨.arr 4 77, 4, 32, [(.int .u64 0), (.int .u64 0), (.int .u64 0), (.int .u64 0)], true⟩ := rfl
theorem T80 : T 80 = ⟨.arr 256 4, 256, 256, List.replicate 256 (.bool false), true⟩ := rfl
theorem T81 : T 81 = ⟨.func, 1, 8, [.nilFunc], false⟩ := rfl
theorem T82 : T 82 = ⟨.func, 1, 8, [.nilFunc], false⟩ := rfl
theorem T85 : T 85 = ⟨.arr 0 16, 0, 0, [], false⟩ := rfl
theorem T86 : T 86 = ⟨.struct [(0, 85)], 0, 0, [], false⟩ := rfl
theorem T88 : T 88 = ⟨.func, 1, 8, [.nilFunc], false⟩ := rfl
theorem T91 : T 91 = ⟨.func, 1, 8, [.nilFunc], false⟩ := rfl
theorem T92 : T 92 = ⟨.ptr 5, 1, 8, [(.pointer none)], false⟩ := rfl
attribute [go_sem] T1 T2 T3 T4 T5 T9 T12 T13 T20 T21 T22 T23 T24 T25 T26 T27 T28 T29 T31 T32 T33 T34 T35 T36 T37 T39 T40 T41 T42 T43 T44 T45 T46 T47 T48 T49 T50 T51 T52 T53 T54 T55 T56 T57 T59 T60 T61 T62 T63 T64 T65 T66 T67 T68 T69 T70 T71 T72 T73 T75 T76 T77 T78 T79 T80 T81 T82 T85 T86 T88 T91 T92

theorem ok1 : ∃ d i z, Try.prog.underlying 1 = some d ∧ (T 1).k.fits d ∧ Try.prog.info? 1 = some i ∧ i.size = (T 1).size ∧ i.bytes = (T 1).bytes ∧ i.zero = some z ∧ z.cells.toList = (T 1).zero ∧ z = zeroVal (T 1) ∧ ((T 1).eq = true → eqB Try.prog 1 d = true) :=
  ⟨_, Try.t1, _, Try.underlying1, ⟨_, _, _, rfl⟩, Try.type1, rfl, rfl, rfl, rfl, rfl, fun h => by cases h⟩
theorem ok2 : ∃ d i z, Try.prog.underlying 2 = some d ∧ (T 2).k.fits d ∧ Try.prog.info? 2 = some i ∧ i.size = (T 2).size ∧ i.bytes = (T 2).bytes ∧ i.zero = some z ∧ z.cells.toList = (T 2).zero ∧ z = zeroVal (T 2) ∧ ((T 2).eq = true → eqB Try.prog 2 d = true) :=
  ⟨_, Try.t2, _, Try.underlying2, rfl, Try.type2, rfl, rfl, rfl, rfl, rfl, fun h => by cases h⟩
theorem ok3 : ∃ d i z, Try.prog.underlying 3 = some d ∧ (T 3).k.fits d ∧ Try.prog.info? 3 = some i ∧ i.size = (T 3).size ∧ i.bytes = (T 3).bytes ∧ i.zero = some z ∧ z.cells.toList = (T 3).zero ∧ z = zeroVal (T 3) ∧ ((T 3).eq = true → eqB Try.prog 3 d = true) :=
  ⟨_, Try.t3, _, Try.underlying3, rfl, Try.type3, rfl, rfl, rfl, rfl, rfl, fun h => by cases h⟩
theorem ok4 : ∃ d i z, Try.prog.underlying 4 = some d ∧ (T 4).k.fits d ∧ Try.prog.info? 4 = some i ∧ i.size = (T 4).size ∧ i.bytes = (T 4).bytes ∧ i.zero = some z ∧ z.cells.toList = (T 4).zero ∧ z = zeroVal (T 4) ∧ ((T 4).eq = true → eqB Try.prog 4 d = true) :=
  ⟨_, Try.t4, _, Try.underlying4, rfl, Try.type4, rfl, rfl, rfl, rfl, rfl, fun h => by cases h⟩
theorem ok5 : ∃ d i z, Try.prog.underlying 5 = some d ∧ (T 5).k.fits d ∧ Try.prog.info? 5 = some i ∧ i.size = (T 5).size ∧ i.bytes = (T 5).bytes ∧ i.zero = some z ∧ z.cells.toList = (T 5).zero ∧ z = zeroVal (T 5) ∧ ((T 5).eq = true → eqB Try.prog 5 d = true) :=
  ⟨_, Try.t5, _, Try.underlying5, rfl, Try.type5, rfl, rfl, rfl, rfl, rfl, fun h => by cases h⟩
theorem ok9 : ∃ d i z, Try.prog.underlying 9 = some d ∧ (T 9).k.fits d ∧ Try.prog.info? 9 = some i ∧ i.size = (T 9).size ∧ i.bytes = (T 9).bytes ∧ i.zero = some z ∧ z.cells.toList = (T 9).zero ∧ z = zeroVal (T 9) ∧ ((T 9).eq = true → eqB Try.prog 9 d = true) :=
  ⟨_, Try.t9, _, Try.underlying9, rfl, Try.type9, rfl, rfl, rfl, rfl, rfl, fun h => by cases h⟩
theorem ok12 : ∃ d i z, Try.prog.underlying 12 = some d ∧ (T 12).k.fits d ∧ Try.prog.info? 12 = some i ∧ i.size = (T 12).size ∧ i.bytes = (T 12).bytes ∧ i.zero = some z ∧ z.cells.toList = (T 12).zero ∧ z = zeroVal (T 12) ∧ ((T 12).eq = true → eqB Try.prog 12 d = true) :=
  ⟨_, Try.t12, _, Try.underlying12, rfl, Try.type12, rfl, rfl, rfl, rfl, rfl, fun h => by cases h⟩
theorem ok13 : ∃ d i z, Try.prog.underlying 13 = some d ∧ (T 13).k.fits d ∧ Try.prog.info? 13 = some i ∧ i.size = (T 13).size ∧ i.bytes = (T 13).bytes ∧ i.zero = some z ∧ z.cells.toList = (T 13).zero ∧ z = zeroVal (T 13) ∧ ((T 13).eq = true → eqB Try.prog 13 d = true) :=
  ⟨_, Try.t13, _, Try.underlying13, ⟨_, rfl, rfl⟩, Try.type13, rfl, rfl, rfl, rfl, rfl, fun h => by cases h⟩
theorem ok20 : ∃ d i z, Try.prog.underlying 20 = some d ∧ (T 20).k.fits d ∧ Try.prog.info? 20 = some i ∧ i.size = (T 20).size ∧ i.bytes = (T 20).bytes ∧ i.zero = some z ∧ z.cells.toList = (T 20).zero ∧ z = zeroVal (T 20) ∧ ((T 20).eq = true → eqB Try.prog 20 d = true) :=
  ⟨_, Try.t20, _, Try.underlying20, ⟨_, rfl⟩, Try.type20, rfl, rfl, rfl, rfl, rfl, fun h => by cases h⟩
theorem ok21 : ∃ d i z, Try.prog.underlying 21 = some d ∧ (T 21).k.fits d ∧ Try.prog.info? 21 = some i ∧ i.size = (T 21).size ∧ i.bytes = (T 21).bytes ∧ i.zero = some z ∧ z.cells.toList = (T 21).zero ∧ z = zeroVal (T 21) ∧ ((T 21).eq = true → eqB Try.prog 21 d = true) :=
  ⟨_, Try.t21, _, Try.underlying21, rfl, Try.type21, rfl, rfl, rfl, rfl, rfl, fun h => by cases h⟩
theorem ok22 : ∃ d i z, Try.prog.underlying 22 = some d ∧ (T 22).k.fits d ∧ Try.prog.info? 22 = some i ∧ i.size = (T 22).size ∧ i.bytes = (T 22).bytes ∧ i.zero = some z ∧ z.cells.toList = (T 22).zero ∧ z = zeroVal (T 22) ∧ ((T 22).eq = true → eqB Try.prog 22 d = true) :=
  ⟨_, Try.t22, _, Try.underlying22, rfl, Try.type22, rfl, rfl, rfl, rfl, rfl, fun h => by cases h⟩
theorem ok23 : ∃ d i z, Try.prog.underlying 23 = some d ∧ (T 23).k.fits d ∧ Try.prog.info? 23 = some i ∧ i.size = (T 23).size ∧ i.bytes = (T 23).bytes ∧ i.zero = some z ∧ z.cells.toList = (T 23).zero ∧ z = zeroVal (T 23) ∧ ((T 23).eq = true → eqB Try.prog 23 d = true) :=
  ⟨_, Try.t23, _, Try.underlying23, rfl, Try.type23, rfl, rfl, rfl, rfl, rfl, fun _ => by kernel_rfl⟩
theorem ok24 : ∃ d i z, Try.prog.underlying 24 = some d ∧ (T 24).k.fits d ∧ Try.prog.info? 24 = some i ∧ i.size = (T 24).size ∧ i.bytes = (T 24).bytes ∧ i.zero = some z ∧ z.cells.toList = (T 24).zero ∧ z = zeroVal (T 24) ∧ ((T 24).eq = true → eqB Try.prog 24 d = true) :=
  ⟨_, Try.t24, _, Try.underlying24, rfl, Try.type24, rfl, rfl, rfl, rfl, rfl, fun h => by cases h⟩
theorem ok25 : ∃ d i z, Try.prog.underlying 25 = some d ∧ (T 25).k.fits d ∧ Try.prog.info? 25 = some i ∧ i.size = (T 25).size ∧ i.bytes = (T 25).bytes ∧ i.zero = some z ∧ z.cells.toList = (T 25).zero ∧ z = zeroVal (T 25) ∧ ((T 25).eq = true → eqB Try.prog 25 d = true) :=
  ⟨_, Try.t25, _, Try.underlying25, rfl, Try.type25, rfl, rfl, rfl, rfl, rfl, fun h => by cases h⟩
theorem ok26 : ∃ d i z, Try.prog.underlying 26 = some d ∧ (T 26).k.fits d ∧ Try.prog.info? 26 = some i ∧ i.size = (T 26).size ∧ i.bytes = (T 26).bytes ∧ i.zero = some z ∧ z.cells.toList = (T 26).zero ∧ z = zeroVal (T 26) ∧ ((T 26).eq = true → eqB Try.prog 26 d = true) :=
  ⟨_, Try.t26, _, Try.underlying26, rfl, Try.type26, rfl, rfl, rfl, rfl, rfl, fun h => by cases h⟩
theorem ok27 : ∃ d i z, Try.prog.underlying 27 = some d ∧ (T 27).k.fits d ∧ Try.prog.info? 27 = some i ∧ i.size = (T 27).size ∧ i.bytes = (T 27).bytes ∧ i.zero = some z ∧ z.cells.toList = (T 27).zero ∧ z = zeroVal (T 27) ∧ ((T 27).eq = true → eqB Try.prog 27 d = true) :=
  ⟨_, Try.t27, _, Try.underlying27, ⟨_, rfl, rfl⟩, Try.type27, rfl, rfl, rfl, rfl, rfl, fun h => by cases h⟩
theorem ok28 : ∃ d i z, Try.prog.underlying 28 = some d ∧ (T 28).k.fits d ∧ Try.prog.info? 28 = some i ∧ i.size = (T 28).size ∧ i.bytes = (T 28).bytes ∧ i.zero = some z ∧ z.cells.toList = (T 28).zero ∧ z = zeroVal (T 28) ∧ ((T 28).eq = true → eqB Try.prog 28 d = true) :=
  ⟨_, Try.t28, _, Try.underlying28, ⟨_, rfl, rfl⟩, Try.type28, rfl, rfl, rfl, rfl, rfl, fun h => by cases h⟩
theorem ok29 : ∃ d i z, Try.prog.underlying 29 = some d ∧ (T 29).k.fits d ∧ Try.prog.info? 29 = some i ∧ i.size = (T 29).size ∧ i.bytes = (T 29).bytes ∧ i.zero = some z ∧ z.cells.toList = (T 29).zero ∧ z = zeroVal (T 29) ∧ ((T 29).eq = true → eqB Try.prog 29 d = true) :=
  ⟨_, Try.t29, _, Try.underlying29, rfl, Try.type29, rfl, rfl, rfl, rfl, rfl, fun h => by cases h⟩
theorem ok31 : ∃ d i z, Try.prog.underlying 31 = some d ∧ (T 31).k.fits d ∧ Try.prog.info? 31 = some i ∧ i.size = (T 31).size ∧ i.bytes = (T 31).bytes ∧ i.zero = some z ∧ z.cells.toList = (T 31).zero ∧ z = zeroVal (T 31) ∧ ((T 31).eq = true → eqB Try.prog 31 d = true) :=
  ⟨_, Try.t31, _, Try.underlying31, ⟨_, _, _, rfl⟩, Try.type31, rfl, rfl, rfl, rfl, rfl, fun h => by cases h⟩
theorem ok32 : ∃ d i z, Try.prog.underlying 32 = some d ∧ (T 32).k.fits d ∧ Try.prog.info? 32 = some i ∧ i.size = (T 32).size ∧ i.bytes = (T 32).bytes ∧ i.zero = some z ∧ z.cells.toList = (T 32).zero ∧ z = zeroVal (T 32) ∧ ((T 32).eq = true → eqB Try.prog 32 d = true) :=
  ⟨_, Try.t32, _, Try.underlying32, ⟨_, _, _, rfl⟩, Try.type32, rfl, rfl, rfl, rfl, rfl, fun h => by cases h⟩
theorem ok33 : ∃ d i z, Try.prog.underlying 33 = some d ∧ (T 33).k.fits d ∧ Try.prog.info? 33 = some i ∧ i.size = (T 33).size ∧ i.bytes = (T 33).bytes ∧ i.zero = some z ∧ z.cells.toList = (T 33).zero ∧ z = zeroVal (T 33) ∧ ((T 33).eq = true → eqB Try.prog 33 d = true) :=
  ⟨_, Try.t33, _, Try.underlying33, rfl, Try.type33, rfl, rfl, rfl, rfl, rfl, fun h => by cases h⟩
theorem ok34 : ∃ d i z, Try.prog.underlying 34 = some d ∧ (T 34).k.fits d ∧ Try.prog.info? 34 = some i ∧ i.size = (T 34).size ∧ i.bytes = (T 34).bytes ∧ i.zero = some z ∧ z.cells.toList = (T 34).zero ∧ z = zeroVal (T 34) ∧ ((T 34).eq = true → eqB Try.prog 34 d = true) :=
  ⟨_, Try.t34, _, Try.underlying34, ⟨_, _, _, rfl⟩, Try.type34, rfl, rfl, rfl, rfl, rfl, fun h => by cases h⟩
theorem ok35 : ∃ d i z, Try.prog.underlying 35 = some d ∧ (T 35).k.fits d ∧ Try.prog.info? 35 = some i ∧ i.size = (T 35).size ∧ i.bytes = (T 35).bytes ∧ i.zero = some z ∧ z.cells.toList = (T 35).zero ∧ z = zeroVal (T 35) ∧ ((T 35).eq = true → eqB Try.prog 35 d = true) :=
  ⟨_, Try.t35, _, Try.underlying35, rfl, Try.type35, rfl, rfl, rfl, rfl, rfl, fun h => by cases h⟩
theorem ok36 : ∃ d i z, Try.prog.underlying 36 = some d ∧ (T 36).k.fits d ∧ Try.prog.info? 36 = some i ∧ i.size = (T 36).size ∧ i.bytes = (T 36).bytes ∧ i.zero = some z ∧ z.cells.toList = (T 36).zero ∧ z = zeroVal (T 36) ∧ ((T 36).eq = true → eqB Try.prog 36 d = true) :=
  ⟨_, Try.t36, _, Try.underlying36, ⟨_, _, _, rfl⟩, Try.type36, rfl, rfl, rfl, rfl, rfl, fun h => by cases h⟩
theorem ok37 : ∃ d i z, Try.prog.underlying 37 = some d ∧ (T 37).k.fits d ∧ Try.prog.info? 37 = some i ∧ i.size = (T 37).size ∧ i.bytes = (T 37).bytes ∧ i.zero = some z ∧ z.cells.toList = (T 37).zero ∧ z = zeroVal (T 37) ∧ ((T 37).eq = true → eqB Try.prog 37 d = true) :=
  ⟨_, Try.t37, _, Try.underlying37, ⟨_, _, _, rfl⟩, Try.type37, rfl, rfl, rfl, rfl, rfl, fun h => by cases h⟩
theorem ok39 : ∃ d i z, Try.prog.underlying 39 = some d ∧ (T 39).k.fits d ∧ Try.prog.info? 39 = some i ∧ i.size = (T 39).size ∧ i.bytes = (T 39).bytes ∧ i.zero = some z ∧ z.cells.toList = (T 39).zero ∧ z = zeroVal (T 39) ∧ ((T 39).eq = true → eqB Try.prog 39 d = true) :=
  ⟨_, Try.t39, _, Try.underlying39, ⟨_, _, _, rfl⟩, Try.type39, rfl, rfl, rfl, rfl, rfl, fun h => by cases h⟩
theorem ok40 : ∃ d i z, Try.prog.underlying 40 = some d ∧ (T 40).k.fits d ∧ Try.prog.info? 40 = some i ∧ i.size = (T 40).size ∧ i.bytes = (T 40).bytes ∧ i.zero = some z ∧ z.cells.toList = (T 40).zero ∧ z = zeroVal (T 40) ∧ ((T 40).eq = true → eqB Try.prog 40 d = true) :=
  ⟨_, Try.t40, _, Try.underlying40, ⟨_, _, _, rfl⟩, Try.type40, rfl, rfl, rfl, rfl, rfl, fun h => by cases h⟩
theorem ok41 : ∃ d i z, Try.prog.underlying 41 = some d ∧ (T 41).k.fits d ∧ Try.prog.info? 41 = some i ∧ i.size = (T 41).size ∧ i.bytes = (T 41).bytes ∧ i.zero = some z ∧ z.cells.toList = (T 41).zero ∧ z = zeroVal (T 41) ∧ ((T 41).eq = true → eqB Try.prog 41 d = true) :=
  ⟨_, Try.t41, _, Try.underlying41, ⟨_, _, _, rfl⟩, Try.type41, rfl, rfl, rfl, rfl, rfl, fun h => by cases h⟩
theorem ok42 : ∃ d i z, Try.prog.underlying 42 = some d ∧ (T 42).k.fits d ∧ Try.prog.info? 42 = some i ∧ i.size = (T 42).size ∧ i.bytes = (T 42).bytes ∧ i.zero = some z ∧ z.cells.toList = (T 42).zero ∧ z = zeroVal (T 42) ∧ ((T 42).eq = true → eqB Try.prog 42 d = true) :=
  ⟨_, Try.t42, _, Try.underlying42, ⟨_, rfl, rfl⟩, Try.type42, rfl, rfl, rfl, rfl, rfl, fun h => by cases h⟩
theorem ok43 : ∃ d i z, Try.prog.underlying 43 = some d ∧ (T 43).k.fits d ∧ Try.prog.info? 43 = some i ∧ i.size = (T 43).size ∧ i.bytes = (T 43).bytes ∧ i.zero = some z ∧ z.cells.toList = (T 43).zero ∧ z = zeroVal (T 43) ∧ ((T 43).eq = true → eqB Try.prog 43 d = true) :=
  ⟨_, Try.t43, _, Try.underlying43, ⟨_, rfl, rfl⟩, Try.type43, rfl, rfl, rfl, rfl, rfl, fun h => by cases h⟩
theorem ok44 : ∃ d i z, Try.prog.underlying 44 = some d ∧ (T 44).k.fits d ∧ Try.prog.info? 44 = some i ∧ i.size = (T 44).size ∧ i.bytes = (T 44).bytes ∧ i.zero = some z ∧ z.cells.toList = (T 44).zero ∧ z = zeroVal (T 44) ∧ ((T 44).eq = true → eqB Try.prog 44 d = true) :=
  ⟨_, Try.t44, _, Try.underlying44, ⟨_, _, _, rfl⟩, Try.type44, rfl, rfl, rfl, rfl, rfl, fun h => by cases h⟩
theorem ok45 : ∃ d i z, Try.prog.underlying 45 = some d ∧ (T 45).k.fits d ∧ Try.prog.info? 45 = some i ∧ i.size = (T 45).size ∧ i.bytes = (T 45).bytes ∧ i.zero = some z ∧ z.cells.toList = (T 45).zero ∧ z = zeroVal (T 45) ∧ ((T 45).eq = true → eqB Try.prog 45 d = true) :=
  ⟨_, Try.t45, _, Try.underlying45, ⟨_, _, _, rfl⟩, Try.type45, rfl, rfl, rfl, rfl, rfl, fun h => by cases h⟩
theorem ok46 : ∃ d i z, Try.prog.underlying 46 = some d ∧ (T 46).k.fits d ∧ Try.prog.info? 46 = some i ∧ i.size = (T 46).size ∧ i.bytes = (T 46).bytes ∧ i.zero = some z ∧ z.cells.toList = (T 46).zero ∧ z = zeroVal (T 46) ∧ ((T 46).eq = true → eqB Try.prog 46 d = true) :=
  ⟨_, Try.t46, _, Try.underlying46, ⟨_, _, _, rfl⟩, Try.type46, rfl, rfl, rfl, rfl, rfl, fun h => by cases h⟩
theorem ok47 : ∃ d i z, Try.prog.underlying 47 = some d ∧ (T 47).k.fits d ∧ Try.prog.info? 47 = some i ∧ i.size = (T 47).size ∧ i.bytes = (T 47).bytes ∧ i.zero = some z ∧ z.cells.toList = (T 47).zero ∧ z = zeroVal (T 47) ∧ ((T 47).eq = true → eqB Try.prog 47 d = true) :=
  ⟨_, Try.t47, _, Try.underlying47, ⟨_, _, _, rfl⟩, Try.type47, rfl, rfl, rfl, rfl, rfl, fun h => by cases h⟩
theorem ok48 : ∃ d i z, Try.prog.underlying 48 = some d ∧ (T 48).k.fits d ∧ Try.prog.info? 48 = some i ∧ i.size = (T 48).size ∧ i.bytes = (T 48).bytes ∧ i.zero = some z ∧ z.cells.toList = (T 48).zero ∧ z = zeroVal (T 48) ∧ ((T 48).eq = true → eqB Try.prog 48 d = true) :=
  ⟨_, Try.t48, _, Try.underlying48, ⟨_, _, _, rfl⟩, Try.type48, rfl, rfl, rfl, rfl, rfl, fun h => by cases h⟩
theorem ok49 : ∃ d i z, Try.prog.underlying 49 = some d ∧ (T 49).k.fits d ∧ Try.prog.info? 49 = some i ∧ i.size = (T 49).size ∧ i.bytes = (T 49).bytes ∧ i.zero = some z ∧ z.cells.toList = (T 49).zero ∧ z = zeroVal (T 49) ∧ ((T 49).eq = true → eqB Try.prog 49 d = true) :=
  ⟨_, Try.t49, _, Try.underlying49, ⟨_, _, _, rfl⟩, Try.type49, rfl, rfl, rfl, rfl, rfl, fun h => by cases h⟩
theorem ok50 : ∃ d i z, Try.prog.underlying 50 = some d ∧ (T 50).k.fits d ∧ Try.prog.info? 50 = some i ∧ i.size = (T 50).size ∧ i.bytes = (T 50).bytes ∧ i.zero = some z ∧ z.cells.toList = (T 50).zero ∧ z = zeroVal (T 50) ∧ ((T 50).eq = true → eqB Try.prog 50 d = true) :=
  ⟨_, Try.t50, _, Try.underlying50, ⟨_, _, _, rfl⟩, Try.type50, rfl, rfl, rfl, rfl, rfl, fun h => by cases h⟩
theorem ok51 : ∃ d i z, Try.prog.underlying 51 = some d ∧ (T 51).k.fits d ∧ Try.prog.info? 51 = some i ∧ i.size = (T 51).size ∧ i.bytes = (T 51).bytes ∧ i.zero = some z ∧ z.cells.toList = (T 51).zero ∧ z = zeroVal (T 51) ∧ ((T 51).eq = true → eqB Try.prog 51 d = true) :=
  ⟨_, Try.t51, _, Try.underlying51, ⟨_, _, _, rfl⟩, Try.type51, rfl, rfl, rfl, rfl, rfl, fun h => by cases h⟩
theorem ok52 : ∃ d i z, Try.prog.underlying 52 = some d ∧ (T 52).k.fits d ∧ Try.prog.info? 52 = some i ∧ i.size = (T 52).size ∧ i.bytes = (T 52).bytes ∧ i.zero = some z ∧ z.cells.toList = (T 52).zero ∧ z = zeroVal (T 52) ∧ ((T 52).eq = true → eqB Try.prog 52 d = true) :=
  ⟨_, Try.t52, _, Try.underlying52, ⟨_, _, _, rfl⟩, Try.type52, rfl, rfl, rfl, rfl, rfl, fun h => by cases h⟩
theorem ok53 : ∃ d i z, Try.prog.underlying 53 = some d ∧ (T 53).k.fits d ∧ Try.prog.info? 53 = some i ∧ i.size = (T 53).size ∧ i.bytes = (T 53).bytes ∧ i.zero = some z ∧ z.cells.toList = (T 53).zero ∧ z = zeroVal (T 53) ∧ ((T 53).eq = true → eqB Try.prog 53 d = true) :=
  ⟨_, Try.t53, _, Try.underlying53, ⟨_, _, _, rfl⟩, Try.type53, rfl, rfl, rfl, rfl, rfl, fun h => by cases h⟩
theorem ok54 : ∃ d i z, Try.prog.underlying 54 = some d ∧ (T 54).k.fits d ∧ Try.prog.info? 54 = some i ∧ i.size = (T 54).size ∧ i.bytes = (T 54).bytes ∧ i.zero = some z ∧ z.cells.toList = (T 54).zero ∧ z = zeroVal (T 54) ∧ ((T 54).eq = true → eqB Try.prog 54 d = true) :=
  ⟨_, Try.t54, _, Try.underlying54, ⟨_, _, _, rfl⟩, Try.type54, rfl, rfl, rfl, rfl, rfl, fun h => by cases h⟩
theorem ok55 : ∃ d i z, Try.prog.underlying 55 = some d ∧ (T 55).k.fits d ∧ Try.prog.info? 55 = some i ∧ i.size = (T 55).size ∧ i.bytes = (T 55).bytes ∧ i.zero = some z ∧ z.cells.toList = (T 55).zero ∧ z = zeroVal (T 55) ∧ ((T 55).eq = true → eqB Try.prog 55 d = true) :=
  ⟨_, Try.t55, _, Try.underlying55, rfl, Try.type55, rfl, rfl, rfl, rfl, rfl, fun h => by cases h⟩
theorem ok56 : ∃ d i z, Try.prog.underlying 56 = some d ∧ (T 56).k.fits d ∧ Try.prog.info? 56 = some i ∧ i.size = (T 56).size ∧ i.bytes = (T 56).bytes ∧ i.zero = some z ∧ z.cells.toList = (T 56).zero ∧ z = zeroVal (T 56) ∧ ((T 56).eq = true → eqB Try.prog 56 d = true) :=
  ⟨_, Try.t56, _, Try.underlying56, ⟨_, _, _, rfl⟩, Try.type56, rfl, rfl, rfl, rfl, rfl, fun h => by cases h⟩
theorem ok57 : ∃ d i z, Try.prog.underlying 57 = some d ∧ (T 57).k.fits d ∧ Try.prog.info? 57 = some i ∧ i.size = (T 57).size ∧ i.bytes = (T 57).bytes ∧ i.zero = some z ∧ z.cells.toList = (T 57).zero ∧ z = zeroVal (T 57) ∧ ((T 57).eq = true → eqB Try.prog 57 d = true) :=
  ⟨_, Try.t57, _, Try.underlying57, ⟨_, _, _, rfl⟩, Try.type57, rfl, rfl, rfl, rfl, rfl, fun h => by cases h⟩
theorem ok59 : ∃ d i z, Try.prog.underlying 59 = some d ∧ (T 59).k.fits d ∧ Try.prog.info? 59 = some i ∧ i.size = (T 59).size ∧ i.bytes = (T 59).bytes ∧ i.zero = some z ∧ z.cells.toList = (T 59).zero ∧ z = zeroVal (T 59) ∧ ((T 59).eq = true → eqB Try.prog 59 d = true) :=
  ⟨_, Try.t59, _, Try.underlying59, ⟨_, _, _, rfl⟩, Try.type59, rfl, rfl, rfl, rfl, rfl, fun h => by cases h⟩
theorem ok60 : ∃ d i z, Try.prog.underlying 60 = some d ∧ (T 60).k.fits d ∧ Try.prog.info? 60 = some i ∧ i.size = (T 60).size ∧ i.bytes = (T 60).bytes ∧ i.zero = some z ∧ z.cells.toList = (T 60).zero ∧ z = zeroVal (T 60) ∧ ((T 60).eq = true → eqB Try.prog 60 d = true) :=
  ⟨_, Try.t60, _, Try.underlying60, ⟨_, _, _, rfl⟩, Try.type60, rfl, rfl, rfl, rfl, rfl, fun h => by cases h⟩
theorem ok61 : ∃ d i z, Try.prog.underlying 61 = some d ∧ (T 61).k.fits d ∧ Try.prog.info? 61 = some i ∧ i.size = (T 61).size ∧ i.bytes = (T 61).bytes ∧ i.zero = some z ∧ z.cells.toList = (T 61).zero ∧ z = zeroVal (T 61) ∧ ((T 61).eq = true → eqB Try.prog 61 d = true) :=
  ⟨_, Try.t61, _, Try.underlying61, ⟨_, _, _, rfl⟩, Try.type61, rfl, rfl, rfl, rfl, rfl, fun h => by cases h⟩
theorem ok62 : ∃ d i z, Try.prog.underlying 62 = some d ∧ (T 62).k.fits d ∧ Try.prog.info? 62 = some i ∧ i.size = (T 62).size ∧ i.bytes = (T 62).bytes ∧ i.zero = some z ∧ z.cells.toList = (T 62).zero ∧ z = zeroVal (T 62) ∧ ((T 62).eq = true → eqB Try.prog 62 d = true) :=
  ⟨_, Try.t62, _, Try.underlying62, ⟨_, _, _, rfl⟩, Try.type62, rfl, rfl, rfl, rfl, rfl, fun h => by cases h⟩
theorem ok63 : ∃ d i z, Try.prog.underlying 63 = some d ∧ (T 63).k.fits d ∧ Try.prog.info? 63 = some i ∧ i.size = (T 63).size ∧ i.bytes = (T 63).bytes ∧ i.zero = some z ∧ z.cells.toList = (T 63).zero ∧ z = zeroVal (T 63) ∧ ((T 63).eq = true → eqB Try.prog 63 d = true) :=
  ⟨_, Try.t63, _, Try.underlying63, ⟨_, _, _, rfl⟩, Try.type63, rfl, rfl, rfl, rfl, rfl, fun h => by cases h⟩
theorem ok64 : ∃ d i z, Try.prog.underlying 64 = some d ∧ (T 64).k.fits d ∧ Try.prog.info? 64 = some i ∧ i.size = (T 64).size ∧ i.bytes = (T 64).bytes ∧ i.zero = some z ∧ z.cells.toList = (T 64).zero ∧ z = zeroVal (T 64) ∧ ((T 64).eq = true → eqB Try.prog 64 d = true) :=
  ⟨_, Try.t64, _, Try.underlying64, ⟨_, _, _, rfl⟩, Try.type64, rfl, rfl, rfl, rfl, rfl, fun h => by cases h⟩
theorem ok65 : ∃ d i z, Try.prog.underlying 65 = some d ∧ (T 65).k.fits d ∧ Try.prog.info? 65 = some i ∧ i.size = (T 65).size ∧ i.bytes = (T 65).bytes ∧ i.zero = some z ∧ z.cells.toList = (T 65).zero ∧ z = zeroVal (T 65) ∧ ((T 65).eq = true → eqB Try.prog 65 d = true) :=
  ⟨_, Try.t65, _, Try.underlying65, ⟨_, _, _, rfl⟩, Try.type65, rfl, rfl, rfl, rfl, rfl, fun h => by cases h⟩
theorem ok66 : ∃ d i z, Try.prog.underlying 66 = some d ∧ (T 66).k.fits d ∧ Try.prog.info? 66 = some i ∧ i.size = (T 66).size ∧ i.bytes = (T 66).bytes ∧ i.zero = some z ∧ z.cells.toList = (T 66).zero ∧ z = zeroVal (T 66) ∧ ((T 66).eq = true → eqB Try.prog 66 d = true) :=
  ⟨_, Try.t66, _, Try.underlying66, ⟨_, _, _, rfl⟩, Try.type66, rfl, rfl, rfl, rfl, rfl, fun h => by cases h⟩
theorem ok67 : ∃ d i z, Try.prog.underlying 67 = some d ∧ (T 67).k.fits d ∧ Try.prog.info? 67 = some i ∧ i.size = (T 67).size ∧ i.bytes = (T 67).bytes ∧ i.zero = some z ∧ z.cells.toList = (T 67).zero ∧ z = zeroVal (T 67) ∧ ((T 67).eq = true → eqB Try.prog 67 d = true) :=
  ⟨_, Try.t67, _, Try.underlying67, ⟨_, _, _, rfl⟩, Try.type67, rfl, rfl, rfl, rfl, rfl, fun h => by cases h⟩
theorem ok68 : ∃ d i z, Try.prog.underlying 68 = some d ∧ (T 68).k.fits d ∧ Try.prog.info? 68 = some i ∧ i.size = (T 68).size ∧ i.bytes = (T 68).bytes ∧ i.zero = some z ∧ z.cells.toList = (T 68).zero ∧ z = zeroVal (T 68) ∧ ((T 68).eq = true → eqB Try.prog 68 d = true) :=
  ⟨_, Try.t68, _, Try.underlying68, ⟨_, _, _, rfl⟩, Try.type68, rfl, rfl, rfl, rfl, rfl, fun h => by cases h⟩
theorem ok69 : ∃ d i z, Try.prog.underlying 69 = some d ∧ (T 69).k.fits d ∧ Try.prog.info? 69 = some i ∧ i.size = (T 69).size ∧ i.bytes = (T 69).bytes ∧ i.zero = some z ∧ z.cells.toList = (T 69).zero ∧ z = zeroVal (T 69) ∧ ((T 69).eq = true → eqB Try.prog 69 d = true) :=
  ⟨_, Try.t69, _, Try.underlying69, ⟨_, _, _, rfl⟩, Try.type69, rfl, rfl, rfl, rfl, rfl, fun h => by cases h⟩
theorem ok70 : ∃ d i z, Try.prog.underlying 70 = some d ∧ (T 70).k.fits d ∧ Try.prog.info? 70 = some i ∧ i.size = (T 70).size ∧ i.bytes = (T 70).bytes ∧ i.zero = some z ∧ z.cells.toList = (T 70).zero ∧ z = zeroVal (T 70) ∧ ((T 70).eq = true → eqB Try.prog 70 d = true) :=
  ⟨_, Try.t70, _, Try.underlying70, ⟨_, _, _, rfl⟩, Try.type70, rfl, rfl, rfl, rfl, rfl, fun h => by cases h⟩
theorem ok71 : ∃ d i z, Try.prog.underlying 71 = some d ∧ (T 71).k.fits d ∧ Try.prog.info? 71 = some i ∧ i.size = (T 71).size ∧ i.bytes = (T 71).bytes ∧ i.zero = some z ∧ z.cells.toList = (T 71).zero ∧ z = zeroVal (T 71) ∧ ((T 71).eq = true → eqB Try.prog 71 d = true) :=
  ⟨_, Try.t71, _, Try.underlying71, rfl, Try.type71, rfl, rfl, rfl, rfl, rfl, fun h => by cases h⟩
theorem ok72 : ∃ d i z, Try.prog.underlying 72 = some d ∧ (T 72).k.fits d ∧ Try.prog.info? 72 = some i ∧ i.size = (T 72).size ∧ i.bytes = (T 72).bytes ∧ i.zero = some z ∧ z.cells.toList = (T 72).zero ∧ z = zeroVal (T 72) ∧ ((T 72).eq = true → eqB Try.prog 72 d = true) :=
  ⟨_, Try.t72, _, Try.underlying72, ⟨_, _, _, rfl⟩, Try.type72, rfl, rfl, rfl, rfl, rfl, fun h => by cases h⟩
theorem ok73 : ∃ d i z, Try.prog.underlying 73 = some d ∧ (T 73).k.fits d ∧ Try.prog.info? 73 = some i ∧ i.size = (T 73).size ∧ i.bytes = (T 73).bytes ∧ i.zero = some z ∧ z.cells.toList = (T 73).zero ∧ z = zeroVal (T 73) ∧ ((T 73).eq = true → eqB Try.prog 73 d = true) :=
  ⟨_, Try.t73, _, Try.underlying73, rfl, Try.type73, rfl, rfl, rfl, rfl, rfl, fun h => by cases h⟩
theorem ok75 : ∃ d i z, Try.prog.underlying 75 = some d ∧ (T 75).k.fits d ∧ Try.prog.info? 75 = some i ∧ i.size = (T 75).size ∧ i.bytes = (T 75).bytes ∧ i.zero = some z ∧ z.cells.toList = (T 75).zero ∧ z = zeroVal (T 75) ∧ ((T 75).eq = true → eqB Try.prog 75 d = true) :=
  ⟨_, Try.t75, _, Try.underlying75, ⟨_, _, _, rfl⟩, Try.type75, rfl, rfl, rfl, rfl, rfl, fun h => by cases h⟩
theorem ok76 : ∃ d i z, Try.prog.underlying 76 = some d ∧ (T 76).k.fits d ∧ Try.prog.info? 76 = some i ∧ i.size = (T 76).size ∧ i.bytes = (T 76).bytes ∧ i.zero = some z ∧ z.cells.toList = (T 76).zero ∧ z = zeroVal (T 76) ∧ ((T 76).eq = true → eqB Try.prog 76 d = true) :=
  ⟨_, Try.t76, _, Try.underlying76, ⟨_, _, _, rfl⟩, Try.type76, rfl, rfl, rfl, rfl, rfl, fun h => by cases h⟩
theorem ok77 : ∃ d i z, Try.prog.underlying 77 = some d ∧ (T 77).k.fits d ∧ Try.prog.info? 77 = some i ∧ i.size = (T 77).size ∧ i.bytes = (T 77).bytes ∧ i.zero = some z ∧ z.cells.toList = (T 77).zero ∧ z = zeroVal (T 77) ∧ ((T 77).eq = true → eqB Try.prog 77 d = true) :=
  ⟨_, Try.t77, _, Try.underlying77, rfl, Try.type77, rfl, rfl, rfl, rfl, rfl, fun h => by cases h⟩
theorem ok78 : ∃ d i z, Try.prog.underlying 78 = some d ∧ (T 78).k.fits d ∧ Try.prog.info? 78 = some i ∧ i.size = (T 78).size ∧ i.bytes = (T 78).bytes ∧ i.zero = some z ∧ z.cells.toList = (T 78).zero ∧ z = zeroVal (T 78) ∧ ((T 78).eq = true → eqB Try.prog 78 d = true) :=
  ⟨_, Try.t78, _, Try.underlying78, rfl, Try.type78, rfl, rfl, rfl, rfl, rfl, fun _ => by kernel_rfl⟩
theorem ok79 : ∃ d i z, Try.prog.underlying 79 = some d ∧ (T 79).k.fits d ∧ Try.prog.info? 79 = some i ∧ i.size = (T 79).size ∧ i.bytes = (T 79).bytes ∧ i.zero = some z ∧ z.cells.toList = (T 79).zero ∧ z = zeroVal (T 79) ∧ ((T 79).eq = true → eqB Try.prog 79 d = true) :=
  ⟨_, Try.t79, _, Try.underlying79, rfl, Try.type79, rfl, rfl, rfl, rfl, rfl, fun _ => by kernel_rfl⟩
theorem ok80 : ∃ d i z, Try.prog.underlying 80 = some d ∧ (T 80).k.fits d ∧ Try.prog.info? 80 = some i ∧ i.size = (T 80).size ∧ i.bytes = (T 80).bytes ∧ i.zero = some z ∧ z.cells.toList = (T 80).zero ∧ z = zeroVal (T 80) ∧ ((T 80).eq = true → eqB Try.prog 80 d = true) :=
  ⟨_, Try.t80, _, Try.underlying80, rfl, Try.type80, rfl, rfl, rfl, rfl, rfl, fun _ => by kernel_rfl⟩
theorem ok81 : ∃ d i z, Try.prog.underlying 81 = some d ∧ (T 81).k.fits d ∧ Try.prog.info? 81 = some i ∧ i.size = (T 81).size ∧ i.bytes = (T 81).bytes ∧ i.zero = some z ∧ z.cells.toList = (T 81).zero ∧ z = zeroVal (T 81) ∧ ((T 81).eq = true → eqB Try.prog 81 d = true) :=
  ⟨_, Try.t81, _, Try.underlying81, ⟨_, _, _, rfl⟩, Try.type81, rfl, rfl, rfl, rfl, rfl, fun h => by cases h⟩
theorem ok82 : ∃ d i z, Try.prog.underlying 82 = some d ∧ (T 82).k.fits d ∧ Try.prog.info? 82 = some i ∧ i.size = (T 82).size ∧ i.bytes = (T 82).bytes ∧ i.zero = some z ∧ z.cells.toList = (T 82).zero ∧ z = zeroVal (T 82) ∧ ((T 82).eq = true → eqB Try.prog 82 d = true) :=
  ⟨_, Try.t82, _, Try.underlying82, ⟨_, _, _, rfl⟩, Try.type82, rfl, rfl, rfl, rfl, rfl, fun h => by cases h⟩
theorem ok85 : ∃ d i z, Try.prog.underlying 85 = some d ∧ (T 85).k.fits d ∧ Try.prog.info? 85 = some i ∧ i.size = (T 85).size ∧ i.bytes = (T 85).bytes ∧ i.zero = some z ∧ z.cells.toList = (T 85).zero ∧ z = zeroVal (T 85) ∧ ((T 85).eq = true → eqB Try.prog 85 d = true) :=
  ⟨_, Try.t85, _, Try.underlying85, rfl, Try.type85, rfl, rfl, rfl, rfl, rfl, fun h => by cases h⟩
theorem ok86 : ∃ d i z, Try.prog.underlying 86 = some d ∧ (T 86).k.fits d ∧ Try.prog.info? 86 = some i ∧ i.size = (T 86).size ∧ i.bytes = (T 86).bytes ∧ i.zero = some z ∧ z.cells.toList = (T 86).zero ∧ z = zeroVal (T 86) ∧ ((T 86).eq = true → eqB Try.prog 86 d = true) :=
  ⟨_, Try.t86, _, Try.underlying86, ⟨_, rfl, rfl⟩, Try.type86, rfl, rfl, rfl, rfl, rfl, fun h => by cases h⟩
theorem ok88 : ∃ d i z, Try.prog.underlying 88 = some d ∧ (T 88).k.fits d ∧ Try.prog.info? 88 = some i ∧ i.size = (T 88).size ∧ i.bytes = (T 88).bytes ∧ i.zero = some z ∧ z.cells.toList = (T 88).zero ∧ z = zeroVal (T 88) ∧ ((T 88).eq = true → eqB Try.prog 88 d = true) :=
  ⟨_, Try.t88, _, Try.underlying88, ⟨_, _, _, rfl⟩, Try.type88, rfl, rfl, rfl, rfl, rfl, fun h => by cases h⟩
theorem ok91 : ∃ d i z, Try.prog.underlying 91 = some d ∧ (T 91).k.fits d ∧ Try.prog.info? 91 = some i ∧ i.size = (T 91).size ∧ i.bytes = (T 91).bytes ∧ i.zero = some z ∧ z.cells.toList = (T 91).zero ∧ z = zeroVal (T 91) ∧ ((T 91).eq = true → eqB Try.prog 91 d = true) :=
  ⟨_, Try.t91, _, Try.underlying91, ⟨_, _, _, rfl⟩, Try.type91, rfl, rfl, rfl, rfl, rfl, fun h => by cases h⟩
theorem ok92 : ∃ d i z, Try.prog.underlying 92 = some d ∧ (T 92).k.fits d ∧ Try.prog.info? 92 = some i ∧ i.size = (T 92).size ∧ i.bytes = (T 92).bytes ∧ i.zero = some z ∧ z.cells.toList = (T 92).zero ∧ z = zeroVal (T 92) ∧ ((T 92).eq = true → eqB Try.prog 92 d = true) :=
  ⟨_, Try.t92, _, Try.underlying92, rfl, Try.type92, rfl, rfl, rfl, rfl, rfl, fun h => by cases h⟩

theorem tok : TyOk Try.prog T := by
  intro t
  by_cases h : (T t).k = .none
  · exact .inl h
  · refine .inr ?_
    unfold T at h
    split at h
    · exact ok1
    · exact ok2
    · exact ok3
    · exact ok4
    · exact ok5
    · exact ok9
    · exact ok12
    · exact ok13
    · exact ok20
    · exact ok21
    · exact ok22
    · exact ok23
    · exact ok24
    · exact ok25
    · exact ok26
    · exact ok27
    · exact ok28
    · exact ok29
    · exact ok31
    · exact ok32
    · exact ok33
    · exact ok34
    · exact ok35
    · exact ok36
    · exact ok37
    · exact ok39
    · exact ok40
    · exact ok41
    · exact ok42
    · exact ok43
    · exact ok44
    · exact ok45
    · exact ok46
    · exact ok47
    · exact ok48
    · exact ok49
    · exact ok50
    · exact ok51
    · exact ok52
    · exact ok53
    · exact ok54
    · exact ok55
    · exact ok56
    · exact ok57
    · exact ok59
    · exact ok60
    · exact ok61
    · exact ok62
    · exact ok63
    · exact ok64
    · exact ok65
    · exact ok66
    · exact ok67
    · exact ok68
    · exact ok69
    · exact ok70
    · exact ok71
    · exact ok72
    · exact ok73
    · exact ok75
    · exact ok76
    · exact ok77
    · exact ok78
    · exact ok79
    · exact ok80
    · exact ok81
    · exact ok82
    · exact ok85
    · exact ok86
    · exact ok88
    · exact ok91
    · exact ok92
    · exact absurd rfl h

theorem mixed : Try.prog.follows .mixedOrders = true := by kernel_rfl

theorem seatok : SeatOk Try.prog := ⟨by kernel_rfl, by kernel_rfl, by kernel_rfl⟩

end Go.Proofs.Ytomdbjfdbkejoaa
