/- The evaluator S and what it says of functions: Sb1. -/
import Derived.Test.YtlnenahbffkbiaaTb
import Derived.Test.YtlnenahbffkbiaaProg
import Derived.KernelRfl
/- The evaluator S: the functions of this seat, read chunk by chunk (1). -/
namespace Go.Proofs.Ytlnenahbffkbiaa
open Go
set_option linter.unusedVariables false
set_option maxRecDepth 100000
def tiL : List (Option TI) :=
 [none,
  some ⟨1, 8, false, [.fn]⟩,
  some ⟨1, 8, false, [.int .i64]⟩,
  some ⟨1, 8, false, [.int .i64]⟩,
  some ⟨1, 1, false, [.bool]⟩,
  some ⟨1, 1, false, [.int .u8]⟩,
  some ⟨1, 1, false, [.int .u8]⟩,
  some ⟨4, 24, true, [.int .i64, .int .i64, .bool, .int .u8]⟩,
  some ⟨4, 24, true, [.int .i64, .int .i64, .bool, .int .u8]⟩,
  some ⟨1, 16, false, [.str]⟩,
  some ⟨1, 16, false, [.str]⟩,
  some ⟨1, 16, false, [.str]⟩,
  some ⟨1, 8, false, [.int .u64]⟩,
  some ⟨2, 24, true, [.str, .int .u64]⟩,
  some ⟨2, 24, true, [.str, .int .u64]⟩,
  some ⟨1, 8, false, [.ptr]⟩,
  some ⟨1, 8, false, [.ptr]⟩,
  some ⟨1, 8, false, [.ptr]⟩,
  some ⟨1, 8, true, [.ptr]⟩,
  some ⟨1, 8, true, [.ptr]⟩,
  none,
  some ⟨1, 4, false, [.int .i32]⟩,
  some ⟨1, 24, false, [.sl 1]⟩,
  some ⟨1, 24, false, [.sl 4]⟩,
  none,
  some ⟨1, 8, false, [.fn]⟩,
  none,
  some ⟨1, 8, false, [.fn]⟩,
  some ⟨1, 8, false, [.fn]⟩,
  some ⟨1, 8, false, [.fn]⟩,
  some ⟨1, 24, false, [.sl 2]⟩,
  some ⟨1, 24, false, [.sl 2]⟩,
  some ⟨4, 64, true, [.int .i64, .int .i64, .sl 2, .sl 2]⟩,
  some ⟨4, 64, true, [.int .i64, .int .i64, .sl 2, .sl 2]⟩,
  none,
  some ⟨1, 8, false, [.fn]⟩,
  some ⟨1, 8, false, [.fn]⟩,
  some ⟨1, 8, false, [.fn]⟩,
  some ⟨2, 16, true, [.int .i64, .int .i64]⟩,
  some ⟨2, 16, true, [.int .i64, .int .i64]⟩,
  some ⟨1, 8, false, [.fn]⟩,
  some ⟨1, 8, false, [.ptr]⟩,
  some ⟨1, 8, false, [.fn]⟩,
  some ⟨1, 8, false, [.fn]⟩,
  some ⟨1, 8, false, [.fn]⟩,
  some ⟨1, 8, false, [.fn]⟩,
  some ⟨1, 8, false, [.fn]⟩,
  some ⟨1, 8, false, [.fn]⟩,
  some ⟨1, 24, false, [.sl 1]⟩,
  some ⟨1, 8, false, [.fn]⟩,
  some ⟨1, 8, false, [.fn]⟩,
  some ⟨1, 8, false, [.fn]⟩,
  some ⟨1, 8, false, [.fn]⟩,
  some ⟨1, 8, false, [.fn]⟩,
  some ⟨1, 8, false, [.fn]⟩,
  some ⟨6, 6, true, [.bool, .bool, .bool, .bool, .bool, .bool]⟩,
  some ⟨1, 8, false, [.fn]⟩,
  some ⟨1, 8, false, [.fn]⟩,
  some ⟨1, 8, false, [.fn]⟩,
  some ⟨2, 16, true, [.int .i64, .int .i64]⟩,
  some ⟨2, 16, true, [.int .i64, .int .i64]⟩,
  some ⟨1, 8, false, [.fn]⟩,
  some ⟨2, 32, true, [.sl 1, .int .i64]⟩,
  some ⟨2, 32, true, [.sl 1, .int .i64]⟩,
  some ⟨1, 8, false, [.fn]⟩,
  some ⟨1, 8, false, [.fn]⟩,
  some ⟨1, 8, false, [.fn]⟩,
  some ⟨1, 24, false, [.sl 1]⟩,
  some ⟨1, 8, false, [.fn]⟩,
  some ⟨1, 8, false, [.fn]⟩,
  some ⟨1, 8, false, [.fn]⟩,
  some ⟨1, 8, false, [.fn]⟩,
  none,
  some ⟨1, 8, false, [.fn]⟩,
  some ⟨1, 8, false, [.fn]⟩,
  some ⟨1, 8, false, [.fn]⟩,
  some ⟨1, 8, false, [.fn]⟩,
  some ⟨1, 8, false, [.fn]⟩,
  some ⟨1, 8, false, [.fn]⟩,
  some ⟨1, 8, false, [.fn]⟩,
  some ⟨1, 8, false, [.fn]⟩,
  some ⟨1, 8, false, [.fn]⟩,
  some ⟨1, 8, false, [.fn]⟩,
  some ⟨1, 8, false, [.int .u64]⟩,
  some ⟨1, 8, false, [.fn]⟩,
  some ⟨1, 8, false, [.fn]⟩,
  some ⟨1, 8, false, [.fn]⟩,
  some ⟨1, 8, false, [.fn]⟩,
  some ⟨1, 8, false, [.fn]⟩,
  some ⟨1, 8, false, [.fn]⟩,
  some ⟨1, 8, false, [.fn]⟩,
  some ⟨4, 40, true, [.ptr, .ptr, .ptr, .str]⟩,
  some ⟨4, 40, true, [.ptr, .ptr, .ptr, .str]⟩,
  some ⟨0, 0, true, []⟩,
  some ⟨0, 0, true, []⟩,
  some ⟨0, 0, true, []⟩,
  some ⟨1, 8, false, [.fn]⟩,
  some ⟨1, 4, false, [.int .u32]⟩,
  some ⟨1, 1, false, [.int .u8]⟩,
  some ⟨1, 1, false, [.int .u8]⟩,
  some ⟨1, 8, false, [.fn]⟩,
  some ⟨1, 8, false, [.ptr]⟩,
  some ⟨1, 4, false, [.int .i32]⟩,
  some ⟨1, 4, false, [.int .i32]⟩,
  some ⟨11, 48, true, [.int .u64, .int .u64, .int .u32, .int .u8, .int .u8, .int .u8, .int .u8, .fn, .ptr, .int .i32, .int .i32]⟩,
  some ⟨11, 48, true, [.int .u64, .int .u64, .int .u32, .int .u8, .int .u8, .int .u8, .int .u8, .fn, .ptr, .int .i32, .int .i32]⟩,
  none]
def ukL : List (Option UK) :=
 [none,
  none,
  some (.int .i64),
  some (.int .i64),
  some (.bool),
  some (.int .u8),
  some (.int .u8),
  some (.struct [(0, 2), (1, 3), (2, 4), (3, 6)]),
  some (.struct [(0, 2), (1, 3), (2, 4), (3, 6)]),
  some (.str),
  some (.str),
  some (.str),
  some (.int .u64),
  some (.struct [(0, 9), (1, 12)]),
  some (.struct [(0, 9), (1, 12)]),
  none,
  none,
  none,
  some (.struct [(0, 17)]),
  some (.struct [(0, 17)]),
  none,
  some (.int .i32),
  some (.slice 5),
  some (.slice 33),
  none,
  none,
  none,
  none,
  none,
  none,
  some (.slice 60),
  some (.slice 39),
  some (.struct [(0, 3), (1, 3), (2, 30), (3, 31)]),
  some (.struct [(0, 3), (1, 3), (2, 30), (3, 31)]),
  none,
  none,
  none,
  none,
  some (.eqs [(0, 3), (1, 3)]),
  some (.eqs [(0, 3), (1, 3)]),
  none,
  none,
  none,
  none,
  none,
  none,
  none,
  none,
  some (.slice 3),
  none,
  none,
  none,
  none,
  none,
  none,
  some (.array 6 4),
  none,
  none,
  none,
  some (.eqs [(0, 3), (1, 3)]),
  some (.eqs [(0, 3), (1, 3)]),
  none,
  some (.struct [(0, 22), (1, 3)]),
  some (.struct [(0, 22), (1, 3)]),
  none,
  none,
  none,
  some (.slice 4),
  none,
  none,
  none,
  none,
  none,
  none,
  none,
  none,
  none,
  none,
  none,
  none,
  none,
  none,
  none,
  some (.int .u64),
  none,
  none,
  none,
  none,
  none,
  none,
  none,
  some (.struct [(0, 17), (1, 17), (2, 17), (3, 9)]),
  some (.struct [(0, 17), (1, 17), (2, 17), (3, 9)]),
  some (.array 0 16),
  some (.struct [(0, 93)]),
  some (.struct [(0, 93)]),
  none,
  some (.int .u32),
  some (.int .u8),
  some (.int .u8),
  none,
  none,
  some (.int .i32),
  some (.int .i32),
  some (.struct [(0, 12), (1, 12), (2, 97), (3, 98), (4, 5), (5, 5), (6, 99), (7, 100), (8, 101), (9, 102), (10, 103)]),
  some (.struct [(0, 12), (1, 12), (2, 97), (3, 98), (4, 5), (5, 5), (6, 99), (7, 100), (8, 101), (9, 102), (10, 103)]),
  none]
def tab : Tab := { ti := fun t => (tiL[t]?).getD none, und := fun t => (ukL[t]?).getD none }
def ownF : Nat → Bool := fun f => match f with | 2000029 => true | 3000029 => true | 2000051 => true | 3000051 => true | 3200051 => true | 1000009 => true | 1000010 => true | 1000011 => true | 1000018 => true | 1000019 => true | 1000020 => true | 1000024 => true | 1000029 => true | 1000042 => true | 1000051 => true  | _ => false
abbrev cx (K : Nat → List SV → List SO → Out) : Cx := ⟨tab, ownF, K⟩
noncomputable def c3 : Code := Try.f3.body.getD .skip
def rs3 : List ResultVar := [.tmp 4]
def fi3 : FnI := { nt := 105, lp := fun i => ⟨false, []⟩, jn := fun i => none, dt := fun i => none }
noncomputable def c4 : Code := Try.f4.body.getD .skip
def rs4 : List ResultVar := [.tmp 4]
def fi4 : FnI := { nt := 117, lp := fun i => ⟨false, []⟩, jn := fun i => none, dt := fun i => none }
noncomputable def c5 : Code := Try.f5.body.getD .skip
def rs5 : List ResultVar := [.tmp 2]
def fi5 : FnI := { nt := 98, lp := fun i => if i = 10 then ⟨true, [4, 8, 11, 12]⟩ else ⟨false, []⟩, jn := fun i => none, dt := fun i => none }
noncomputable def c6 : Code := Try.f6.body.getD .skip
def rs6 : List ResultVar := [.tmp 2]
def fi6 : FnI := { nt := 122, lp := fun i => if i = 9 then ⟨true, [4, 5, 8, 10]⟩ else if i = 14 then ⟨false, [4, 5, 8, 10, 13, 14]⟩ else if i = 17 then ⟨false, [4, 5, 8, 10, 13, 14, 15]⟩ else ⟨false, []⟩, jn := fun i => none, dt := fun i => none }
noncomputable def c7 : Code := Try.f7.body.getD .skip
def rs7 : List ResultVar := [.tmp 4]
def fi7 : FnI := { nt := 115, lp := fun i => ⟨false, []⟩, jn := fun i => none, dt := fun i => none }
noncomputable def c8 : Code := Try.f8.body.getD .skip
def rs8 : List ResultVar := [.tmp 2]
def fi8 : FnI := { nt := 127, lp := fun i => if i = 9 then ⟨true, [3, 4, 8, 10]⟩ else ⟨false, []⟩, jn := fun i => none, dt := fun i => none }
noncomputable def c9 : Code := Try.f9.body.getD .skip
def rs9 : List ResultVar := [.tmp 2, .tmp 3, .tmp 4]
def fi9 : FnI := { nt := 61, lp := fun i => if i = 6 then ⟨true, [5, 6, 7, 8, 9]⟩ else ⟨false, []⟩, jn := fun i => if i = 7 then some [5, 6, 7, 8, 9] else none, dt := fun i => none }
noncomputable def c10 : Code := Try.f10.body.getD .skip
def rs10 : List ResultVar := [.tmp 6, .tmp 7]
def fi10 : FnI := { nt := 28, lp := fun i => ⟨false, []⟩, jn := fun i => none, dt := fun i => none }
noncomputable def c11 : Code := Try.f11.body.getD .skip
def rs11 : List ResultVar := [.tmp 6, .tmp 7]
def fi11 : FnI := { nt := 93, lp := fun i => if i = 5 then ⟨true, [0, 1, 8, 32, 33, 34]⟩ else if i = 11 then ⟨true, [0, 1, 8, 11, 12]⟩ else if i = 18 then ⟨true, [0, 1, 8, 11, 12, 13, 71, 72, 73]⟩ else ⟨false, []⟩, jn := fun i => if i = 12 then some [0, 1, 8, 11, 12] else none, dt := fun i => none }
noncomputable def c12 : Code := Try.f12.body.getD .skip
def rs12 : List ResultVar := [.tmp 4]
def fi12 : FnI := { nt := 27, lp := fun i => if i = 4 then ⟨false, [0, 1, 5]⟩ else ⟨false, []⟩, jn := fun i => none, dt := fun i => none }
noncomputable def c13 : Code := Try.f13.body.getD .skip
def rs13 : List ResultVar := [.cell 4 33, .tmp 5]
def fi13 : FnI := { nt := 23, lp := fun i => ⟨false, []⟩, jn := fun i => none, dt := fun i => none }
noncomputable def c14 : Code := Try.f14.body.getD .skip
def rs14 : List ResultVar := [.tmp 2]
def fi14 : FnI := { nt := 53, lp := fun i => if i = 5 then ⟨true, [1, 3, 11, 12, 13]⟩ else if i = 10 then ⟨true, [1, 3, 11, 12, 13, 38, 39, 40]⟩ else ⟨false, []⟩, jn := fun i => none, dt := fun i => none }
noncomputable def c15 : Code := Try.f15.body.getD .skip
def rs15 : List ResultVar := [.tmp 2]
def fi15 : FnI := { nt := 64, lp := fun i => if i = 4 then ⟨false, [0, 3]⟩ else if i = 7 then ⟨false, [0, 3, 4]⟩ else if i = 12 then ⟨false, [0, 3, 5]⟩ else ⟨false, []⟩, jn := fun i => none, dt := fun i => none }
noncomputable def c16 : Code := Try.f16.body.getD .skip
def rs16 : List ResultVar := [.tmp 4]
def fi16 : FnI := { nt := 18, lp := fun i => if i = 2 then ⟨false, [0, 3, 5]⟩ else ⟨false, []⟩, jn := fun i => none, dt := fun i => none }
noncomputable def c17 : Code := Try.f17.body.getD .skip
def rs17 : List ResultVar := [.tmp 2]
def fi17 : FnI := { nt := 11, lp := fun i => ⟨false, []⟩, jn := fun i => if i = 3 then some [0] else none, dt := fun i => none }
noncomputable def c18 : Code := Try.f18.body.getD .skip
def rs18 : List ResultVar := [.tmp 2]
def fi18 : FnI := { nt := 29, lp := fun i => ⟨false, []⟩, jn := fun i => if i = 8 then some [3] else none, dt := fun i => none }
noncomputable def c19 : Code := Try.f19.body.getD .skip
def rs19 : List ResultVar := [.tmp 4]
def fi19 : FnI := { nt := 28, lp := fun i => if i = 3 then ⟨true, [0, 1, 5, 6]⟩ else ⟨false, []⟩, jn := fun i => if i = 4 then some [0, 1, 5, 6] else none, dt := fun i => none }
noncomputable def c20 : Code := Try.f20.body.getD .skip
def rs20 : List ResultVar := [.tmp 2]
def fi20 : FnI := { nt := 32, lp := fun i => if i = 3 then ⟨true, [0, 3, 4]⟩ else ⟨false, []⟩, jn := fun i => if i = 4 then some [0, 3, 4] else none, dt := fun i => none }
noncomputable def c21 : Code := Try.f21.body.getD .skip
def rs21 : List ResultVar := [.tmp 4]
def fi21 : FnI := { nt := 99, lp := fun i => ⟨false, []⟩, jn := fun i => none, dt := fun i => none }
noncomputable def c22 : Code := Try.f22.body.getD .skip
def rs22 : List ResultVar := [.tmp 2]
def fi22 : FnI := { nt := 5, lp := fun i => ⟨false, []⟩, jn := fun i => none, dt := fun i => none }
noncomputable def c23 : Code := Try.f23.body.getD .skip
def rs23 : List ResultVar := [.tmp 6]
def fi23 : FnI := { nt := 15, lp := fun i => ⟨false, []⟩, jn := fun i => none, dt := fun i => none }
noncomputable def c24 : Code := Try.f24.body.getD .skip
def rs24 : List ResultVar := [.tmp 6, .tmp 7]
def fi24 : FnI := { nt := 80, lp := fun i => if i = 4 then ⟨false, [0, 1, 8, 9]⟩ else if i = 9 then ⟨true, [0, 1, 8, 10, 11]⟩ else if i = 17 then ⟨false, [0, 1, 8, 10, 12, 14]⟩ else ⟨false, []⟩, jn := fun i => if i = 10 then some [0, 1, 8, 10, 11] else none, dt := fun i => none }
noncomputable def c25 : Code := Try.f25.body.getD .skip
def rs25 : List ResultVar := [.tmp 2]
def fi25 : FnI := { nt := 30, lp := fun i => if i = 2 then ⟨true, [0, 5, 6, 7]⟩ else ⟨false, []⟩, jn := fun i => none, dt := fun i => none }
noncomputable def c26 : Code := Try.f26.body.getD .skip
def rs26 : List ResultVar := [.tmp 2]
def fi26 : FnI := { nt := 5, lp := fun i => ⟨false, []⟩, jn := fun i => none, dt := fun i => none }
noncomputable def c27 : Code := Try.f27.body.getD .skip
def rs27 : List ResultVar := [.tmp 4]
def fi27 : FnI := { nt := 9, lp := fun i => ⟨false, []⟩, jn := fun i => none, dt := fun i => none }
noncomputable def c28 : Code := Try.f28.body.getD .skip
def rs28 : List ResultVar := [.cell 6 33, .tmp 7]
def fi28 : FnI := { nt := 48, lp := fun i => ⟨false, []⟩, jn := fun i => none, dt := fun i => none }
noncomputable def c29 : Code := Try.f29.body.getD .skip
def rs29 : List ResultVar := [.tmp 4, .tmp 5]
def fi29 : FnI := { nt := 22, lp := fun i => ⟨false, []⟩, jn := fun i => none, dt := fun i => none }
noncomputable def c30 : Code := Try.f30.body.getD .skip
def rs30 : List ResultVar := [.tmp 4]
def fi30 : FnI := { nt := 73, lp := fun i => if i = 4 then ⟨false, [2, 3, 5]⟩ else if i = 9 then ⟨false, [2, 3, 6]⟩ else ⟨false, []⟩, jn := fun i => none, dt := fun i => none }
noncomputable def c31 : Code := Try.f31.body.getD .skip
def rs31 : List ResultVar := [.tmp 4]
def fi31 : FnI := { nt := 22, lp := fun i => if i = 3 then ⟨true, [1, 5, 8, 9, 10]⟩ else ⟨false, []⟩, jn := fun i => if i = 7 then some [1, 5, 8, 9, 10] else none, dt := fun i => none }
noncomputable def c32 : Code := Try.f32.body.getD .skip
def rs32 : List ResultVar := [.cell 2 33]
def fi32 : FnI := { nt := 12, lp := fun i => ⟨false, []⟩, jn := fun i => none, dt := fun i => none }
noncomputable def c33 : Code := Try.f33.body.getD .skip
def rs33 : List ResultVar := [.tmp 4]
def fi33 : FnI := { nt := 9, lp := fun i => ⟨false, []⟩, jn := fun i => none, dt := fun i => none }
noncomputable def c34 : Code := Try.f34.body.getD .skip
def rs34 : List ResultVar := [.tmp 3]
def fi34 : FnI := { nt := 8, lp := fun i => ⟨false, []⟩, jn := fun i => none, dt := fun i => none }
noncomputable def c35 : Code := Try.f35.body.getD .skip
def rs35 : List ResultVar := [.tmp 4]
def fi35 : FnI := { nt := 8, lp := fun i => ⟨false, []⟩, jn := fun i => none, dt := fun i => none }
noncomputable def c36 : Code := Try.f36.body.getD .skip
def rs36 : List ResultVar := [.tmp 2]
def fi36 : FnI := { nt := 22, lp := fun i => if i = 2 then ⟨false, [0, 3]⟩ else ⟨false, []⟩, jn := fun i => none, dt := fun i => none }
noncomputable def c37 : Code := Try.f37.body.getD .skip
def rs37 : List ResultVar := [.tmp 4]
def fi37 : FnI := { nt := 22, lp := fun i => ⟨false, []⟩, jn := fun i => none, dt := fun i => none }
noncomputable def c38 : Code := Try.f38.body.getD .skip
def rs38 : List ResultVar := [.tmp 6]
def fi38 : FnI := { nt := 36, lp := fun i => if i = 2 then ⟨false, [0, 1, 2, 7]⟩ else if i = 5 then ⟨false, [0, 1, 2, 7, 8]⟩ else ⟨false, []⟩, jn := fun i => none, dt := fun i => none }
noncomputable def c39 : Code := Try.f39.body.getD .skip
def rs39 : List ResultVar := [.cell 2 33]
def fi39 : FnI := { nt := 55, lp := fun i => ⟨false, []⟩, jn := fun i => if i = 11 then some [2, 3] else none, dt := fun i => none }
noncomputable def c40 : Code := Try.f40.body.getD .skip
def rs40 : List ResultVar := [.cell 6 33]
def fi40 : FnI := { nt := 71, lp := fun i => if i = 4 then ⟨true, [0, 1, 6, 7, 8, 9]⟩ else if i = 9 then ⟨true, [0, 1, 6, 7, 10]⟩ else ⟨false, []⟩, jn := fun i => if i = 10 then some [0, 1, 6, 7, 10] else none, dt := fun i => none }
noncomputable def c41 : Code := Try.f41.body.getD .skip
def rs41 : List ResultVar := [.tmp 6]
def fi41 : FnI := { nt := 31, lp := fun i => if i = 2 then ⟨false, [0, 1, 2, 7]⟩ else ⟨false, []⟩, jn := fun i => none, dt := fun i => none }
noncomputable def c42 : Code := Try.f42.body.getD .skip
def rs42 : List ResultVar := [.tmp 4]
def fi42 : FnI := { nt := 70, lp := fun i => if i = 3 then ⟨true, [0, 3, 5, 6]⟩ else if i = 9 then ⟨true, [0, 3, 5, 7]⟩ else ⟨false, []⟩, jn := fun i => if i = 4 then some [0, 3, 5, 6] else if i = 10 then some [0, 3, 5, 7] else none, dt := fun i => none }
noncomputable def c43 : Code := Try.f43.body.getD .skip
def rs43 : List ResultVar := [.tmp 2]
def fi43 : FnI := { nt := 46, lp := fun i => if i = 2 then ⟨false, [0, 3]⟩ else ⟨false, []⟩, jn := fun i => none, dt := fun i => none }
noncomputable def c44 : Code := Try.f44.body.getD .skip
def rs44 : List ResultVar := [.tmp 4]
def fi44 : FnI := { nt := 14, lp := fun i => ⟨false, []⟩, jn := fun i => none, dt := fun i => none }
noncomputable def c45 : Code := Try.f45.body.getD .skip
def rs45 : List ResultVar := [.cell 6 33, .tmp 7]
def fi45 : FnI := { nt := 39, lp := fun i => ⟨false, []⟩, jn := fun i => none, dt := fun i => none }
noncomputable def c46 : Code := Try.f46.body.getD .skip
def rs46 : List ResultVar := [.tmp 2]
def fi46 : FnI := { nt := 106, lp := fun i => if i = 4 then ⟨true, [1, 30, 31, 32]⟩ else if i = 10 then ⟨true, [1, 65, 66, 67]⟩ else ⟨false, []⟩, jn := fun i => none, dt := fun i => none }
noncomputable def c47 : Code := Try.f47.body.getD .skip
def rs47 : List ResultVar := [.tmp 4]
def fi47 : FnI := { nt := 17, lp := fun i => ⟨false, []⟩, jn := fun i => none, dt := fun i => none }
noncomputable def c48 : Code := Try.f48.body.getD .skip
def rs48 : List ResultVar := [.tmp 6]
def fi48 : FnI := { nt := 15, lp := fun i => ⟨false, []⟩, jn := fun i => none, dt := fun i => none }
noncomputable def c49 : Code := Try.f49.body.getD .skip
def rs49 : List ResultVar := [.tmp 4]
def fi49 : FnI := { nt := 19, lp := fun i => if i = 2 then ⟨false, [0, 1, 7, 8]⟩ else ⟨false, []⟩, jn := fun i => none, dt := fun i => none }
noncomputable def c50 : Code := Try.f50.body.getD .skip
def rs50 : List ResultVar := [.tmp 6, .tmp 7]
def fi50 : FnI := { nt := 49, lp := fun i => if i = 3 then ⟨false, [0, 2, 4, 8, 9, 10]⟩ else ⟨false, []⟩, jn := fun i => none, dt := fun i => none }
noncomputable def c51 : Code := Try.f51.body.getD .skip
def rs51 : List ResultVar := [.tmp 6]
def fi51 : FnI := { nt := 95, lp := fun i => ⟨false, []⟩, jn := fun i => none, dt := fun i => none }
noncomputable def c52 : Code := Try.f52.body.getD .skip
def rs52 : List ResultVar := [.tmp 2]
def fi52 : FnI := { nt := 8, lp := fun i => ⟨false, []⟩, jn := fun i => none, dt := fun i => none }
noncomputable def c53 : Code := Try.f53.body.getD .skip
def rs53 : List ResultVar := [.tmp 2]
def fi53 : FnI := { nt := 8, lp := fun i => ⟨false, []⟩, jn := fun i => none, dt := fun i => none }
noncomputable def c54 : Code := Try.f54.body.getD .skip
def rs54 : List ResultVar := [.tmp 4]
def fi54 : FnI := { nt := 19, lp := fun i => if i = 2 then ⟨false, [0, 1, 7, 8]⟩ else ⟨false, []⟩, jn := fun i => none, dt := fun i => none }
noncomputable def c55 : Code := Try.f55.body.getD .skip
def rs55 : List ResultVar := [.tmp 4]
def fi55 : FnI := { nt := 9, lp := fun i => ⟨false, []⟩, jn := fun i => none, dt := fun i => none }
noncomputable def c56 : Code := Try.f56.body.getD .skip
def rs56 : List ResultVar := [.tmp 3]
def fi56 : FnI := { nt := 16, lp := fun i => ⟨false, []⟩, jn := fun i => none, dt := fun i => none }
noncomputable def c57 : Code := Try.f57.body.getD .skip
def rs57 : List ResultVar := [.cell 4 33, .tmp 5]
def fi57 : FnI := { nt := 27, lp := fun i => if i = 2 then ⟨true, [0, 1, 4, 6]⟩ else ⟨false, []⟩, jn := fun i => none, dt := fun i => none }
noncomputable def c58 : Code := Try.f58.body.getD .skip
def rs58 : List ResultVar := [.tmp 8]
def fi58 : FnI := { nt := 22, lp := fun i => ⟨false, []⟩, jn := fun i => none, dt := fun i => none }
noncomputable def c59 : Code := Try.f59.body.getD .skip
def rs59 : List ResultVar := [.tmp 2]
def fi59 : FnI := { nt := 23, lp := fun i => ⟨false, []⟩, jn := fun i => none, dt := fun i => none }
noncomputable def c60 : Code := Try.f60.body.getD .skip
def rs60 : List ResultVar := [.tmp 2]
def fi60 : FnI := { nt := 5, lp := fun i => ⟨false, []⟩, jn := fun i => none, dt := fun i => none }
noncomputable def c61 : Code := Try.f61.body.getD .skip
def rs61 : List ResultVar := [.tmp 2]
def fi61 : FnI := { nt := 18, lp := fun i => if i = 3 then ⟨false, [3, 6, 7, 8]⟩ else ⟨false, []⟩, jn := fun i => none, dt := fun i => none }
noncomputable def c62 : Code := Try.f62.body.getD .skip
def rs62 : List ResultVar := [.tmp 4]
def fi62 : FnI := { nt := 20, lp := fun i => ⟨false, []⟩, jn := fun i => none, dt := fun i => none }
noncomputable def c64 : Code := Try.f64.body.getD .skip
def rs64 : List ResultVar := []
def fi64 : FnI := { nt := 10, lp := fun i => ⟨false, []⟩, jn := fun i => none, dt := fun i => none }
noncomputable def c65 : Code := Try.f65.body.getD .skip
def rs65 : List ResultVar := [.tmp 4]
def fi65 : FnI := { nt := 19, lp := fun i => if i = 2 then ⟨false, [0, 1, 7, 8]⟩ else ⟨false, []⟩, jn := fun i => none, dt := fun i => none }
noncomputable def c66 : Code := Try.f66.body.getD .skip
def rs66 : List ResultVar := [.cell 2 33]
def fi66 : FnI := { nt := 14, lp := fun i => ⟨false, []⟩, jn := fun i => none, dt := fun i => none }
noncomputable def c67 : Code := Try.f67.body.getD .skip
def rs67 : List ResultVar := [.tmp 2]
def fi67 : FnI := { nt := 47, lp := fun i => if i = 2 then ⟨false, [0, 3]⟩ else ⟨false, []⟩, jn := fun i => none, dt := fun i => none }
noncomputable def c68 : Code := Try.f68.body.getD .skip
def rs68 : List ResultVar := [.tmp 4]
def fi68 : FnI := { nt := 51, lp := fun i => if i = 2 then ⟨true, [0, 1, 5]⟩ else ⟨false, []⟩, jn := fun i => none, dt := fun i => none }
noncomputable def c69 : Code := Try.f69.body.getD .skip
def rs69 : List ResultVar := [.tmp 2]
def fi69 : FnI := { nt := 6, lp := fun i => ⟨false, []⟩, jn := fun i => none, dt := fun i => none }
noncomputable def c70 : Code := Try.f70.body.getD .skip
def rs70 : List ResultVar := []
def fi70 : FnI := { nt := 14, lp := fun i => ⟨false, []⟩, jn := fun i => none, dt := fun i => none }
noncomputable def c71 : Code := Try.f71.body.getD .skip
def rs71 : List ResultVar := []
def fi71 : FnI := { nt := 28, lp := fun i => if i = 1 then ⟨false, [0, 2, 3]⟩ else ⟨false, []⟩, jn := fun i => none, dt := fun i => none }
noncomputable def codeL : List (Option Func) := [none, none, none, some Try.f3, some Try.f4, some Try.f5, some Try.f6, some Try.f7, some Try.f8, some Try.f9, some Try.f10, some Try.f11, some Try.f12, some Try.f13, some Try.f14, some Try.f15, some Try.f16, some Try.f17, some Try.f18, some Try.f19, some Try.f20, some Try.f21, some Try.f22, some Try.f23, some Try.f24, some Try.f25, some Try.f26, some Try.f27, some Try.f28, some Try.f29, some Try.f30, some Try.f31, some Try.f32, some Try.f33, some Try.f34, some Try.f35, some Try.f36, some Try.f37, some Try.f38, some Try.f39, some Try.f40, some Try.f41, some Try.f42, some Try.f43, some Try.f44, some Try.f45, some Try.f46, some Try.f47, some Try.f48, some Try.f49, some Try.f50, some Try.f51, some Try.f52, some Try.f53, some Try.f54, some Try.f55, some Try.f56, some Try.f57, some Try.f58, some Try.f59, some Try.f60, some Try.f61, some Try.f62, none, some Try.f64, some Try.f65, some Try.f66, some Try.f67, some Try.f68, some Try.f69, some Try.f70, some Try.f71]
def fiL : List FnI := [⟨0, fun _ => ⟨false, []⟩, fun _ => none, fun _ => none⟩, ⟨0, fun _ => ⟨false, []⟩, fun _ => none, fun _ => none⟩, ⟨0, fun _ => ⟨false, []⟩, fun _ => none, fun _ => none⟩, fi3, fi4, fi5, fi6, fi7, fi8, fi9, fi10, fi11, fi12, fi13, fi14, fi15, fi16, fi17, fi18, fi19, fi20, fi21, fi22, fi23, fi24, fi25, fi26, fi27, fi28, fi29, fi30, fi31, fi32, fi33, fi34, fi35, fi36, fi37, fi38, fi39, fi40, fi41, fi42, fi43, fi44, fi45, fi46, fi47, fi48, fi49, fi50, fi51, fi52, fi53, fi54, fi55, fi56, fi57, fi58, fi59, fi60, fi61, fi62, ⟨0, fun _ => ⟨false, []⟩, fun _ => none, fun _ => none⟩, fi64, fi65, fi66, fi67, fi68, fi69, fi70, fi71]
def primF (f : Nat) : Option (List SV → List SO → Out) := if f = 52 then some (cloneS 2 16) else if f = 53 then some (cloneS 2 16) else if f = 51 then some (insS 4 64) else none
def purF : Nat → List Nat := fun f => match f with | 9 => [0, 100] | 19 => [0]  | _ => []
noncomputable def prg : Prg := { T := tab, own := ownF, pur := purF, code := fun f => (codeL[f]?).getD none, fi := fun f => (fiL[f]?).getD ⟨0, fun _ => ⟨false, []⟩, fun _ => none, fun _ => none⟩, prim := primF }
noncomputable def X3 (K : Nat → List SV → List SO → Out) (N nl : Nat) (x0 x1 : SV) (os : List SO) : Out := exec (cx K) N nl fi3 c3 [(0, x0), (1, x1)] os (kEnd tab [] nl rs3)
noncomputable def B3 (K : Nat → List SV → List SO → Out) (N nl : Nat) (x0 x1 : SV) (os : List SO) : Out :=
 bd (lenO tab 22 os x0) fun v1 o1 =>
 bd (ret1 (binS tab .gtr 3 v1 (SV.v (.int .i64 1048576))) o1) fun v2 o2 =>
 bd (gd v2 false (some (x1, o2)) o2) fun v3 o3 =>
 bd (gd v2 false (lenO tab 22 o3 v3) o3) fun v4 o4 =>
 bd (gd v2 false (ret1 (binS tab .gtr 3 v4 (SV.v (.int .i64 1048576))) o4) o4) fun v5 o5 =>
 bd (ret1 (pickS v2 (SV.v (.bool true)) v5) o5) fun v6 o6 =>
 condS v6 (retV tab nl o6 (resC1 (some (SV.v (.bool true))) (some [])))
 (bd (callS ⟨tab, ownF, K⟩ o6 9 [x0]) fun v7 o7 =>
 bd (ret1 (extractS v7 0) o7) fun v8 o8 =>
 bd (ret1 (extractS v7 1) o8) fun v9 o9 =>
 bd (ret1 (extractS v7 2) o9) fun v10 o10 =>
 bd (callS ⟨tab, ownF, K⟩ o10 10 [v8, v9, v10]) fun v11 o11 =>
 bd (ret1 (extractS v11 0) o11) fun v12 o12 =>
 bd (ret1 (extractS v11 1) o12) fun v13 o13 =>
 bd (callS ⟨tab, ownF, K⟩ o13 11 [v8, v9, v10]) fun v14 o14 =>
 bd (ret1 (extractS v14 0) o14) fun v15 o15 =>
 bd (ret1 (extractS v14 1) o15) fun v16 o16 =>
 bd (ret1 (binS tab .neq 4 v16 v13) o16) fun v17 o17 =>
 bd (gd v17 false (some (v15, o17)) o17) fun v18 o18 =>
 bd (gd v17 false (some (v12, o18)) o18) fun v19 o19 =>
 bd (gd v17 false (callS ⟨tab, ownF, K⟩ o19 12 [v18, v19]) o19) fun v20 o20 =>
 bd (gd v17 false (ret1 (unS .not v20) o20) o20) fun v21 o21 =>
 bd (ret1 (pickS v17 (SV.v (.bool true)) v21) o21) fun v22 o22 =>
 bd (gd v22 false (some (v16, o22)) o22) fun v23 o23 =>
 bd (gd v22 false (ret1 (unS .not v23) o23) o23) fun v24 o24 =>
 bd (ret1 (pickS v22 (SV.v (.bool true)) v24) o24) fun v25 o25 =>
 condS v25 (bd (ret1 (binS tab .eql 4 v16 v13) o25) fun v26 o26 =>
 bd (gd v26 true (some (v15, o26)) o26) fun v27 o27 =>
 bd (gd v26 true (some (v12, o27)) o27) fun v28 o28 =>
 bd (gd v26 true (callS ⟨tab, ownF, K⟩ o28 12 [v27, v28]) o28) fun v29 o29 =>
 bd (ret1 (pickS v26 v29 (SV.v (.bool false))) o29) fun v30 o30 =>
 retV tab nl o30 (resC1 (some v30) (some [])))
 (bd (lenO tab 22 o25 x1) fun v31 o31 =>
 bd (ret1 (binS tab .rem 3 v31 (SV.v (.int .i64 4))) o31) fun v32 o32 =>
 bd (ret1 (binS tab .add 3 (SV.v (.int .i64 1)) v32) o32) fun v33 o33 =>
 bd (callS ⟨tab, ownF, K⟩ o33 11 [v8, v15, v33]) fun v34 o34 =>
 bd (ret1 (extractS v34 0) o34) fun v35 o35 =>
 bd (ret1 (extractS v34 1) o35) fun v36 o36 =>
 bd (callS ⟨tab, ownF, K⟩ o36 11 [v8, v9, v33]) fun v37 o37 =>
 bd (ret1 (extractS v37 0) o37) fun v38 o38 =>
 bd (ret1 (extractS v37 1) o38) fun v39 o39 =>
 bd (ret1 (unS .not v36) o39) fun v40 o40 =>
 bd (gd v40 false (some (v39, o40)) o40) fun v41 o41 =>
 bd (gd v40 false (ret1 (unS .not v41) o41) o41) fun v42 o42 =>
 bd (ret1 (pickS v40 (SV.v (.bool true)) v42) o42) fun v43 o43 =>
 condS v43 (retV tab nl o43 (resC1 (some (SV.v (.bool true))) (some [])))
 (bd (callS ⟨tab, ownF, K⟩ o43 11 [v8, v38, v10]) fun v44 o44 =>
 bd (ret1 (extractS v44 0) o44) fun v45 o45 =>
 bd (ret1 (extractS v44 1) o45) fun v46 o46 =>
 bd (gd v46 true (some (v35, o46)) o46) fun v47 o47 =>
 bd (gd v46 true (some (v45, o47)) o47) fun v48 o48 =>
 bd (gd v46 true (callS ⟨tab, ownF, K⟩ o48 12 [v47, v48]) o48) fun v49 o49 =>
 bd (ret1 (pickS v46 v49 (SV.v (.bool false))) o49) fun v50 o50 =>
 retV tab nl o50 (resC1 (some v50) (some [])))))
noncomputable def X4 (K : Nat → List SV → List SO → Out) (N nl : Nat) (x0 x1 : SV) (os : List SO) : Out := exec (cx K) N nl fi4 c4 [(0, x0), (1, x1)] os (kEnd tab [] nl rs4)
noncomputable def B4 (K : Nat → List SV → List SO → Out) (N nl : Nat) (x0 x1 : SV) (os : List SO) : Out :=
 bd (lenO tab 22 os x0) fun v1 o1 =>
 bd (ret1 (binS tab .gtr 3 v1 (SV.v (.int .i64 1048576))) o1) fun v2 o2 =>
 bd (gd v2 false (some (x1, o2)) o2) fun v3 o3 =>
 bd (gd v2 false (lenO tab 22 o3 v3) o3) fun v4 o4 =>
 bd (gd v2 false (ret1 (binS tab .gtr 3 v4 (SV.v (.int .i64 1048576))) o4) o4) fun v5 o5 =>
 bd (ret1 (pickS v2 (SV.v (.bool true)) v5) o5) fun v6 o6 =>
 condS v6 (retV tab nl o6 (resC1 (some (SV.v (.bool true))) (some [])))
 (bd (callS ⟨tab, ownF, K⟩ o6 9 [x0]) fun v7 o7 =>
 bd (ret1 (extractS v7 0) o7) fun v8 o8 =>
 bd (ret1 (extractS v7 1) o8) fun v9 o9 =>
 bd (ret1 (extractS v7 2) o9) fun v10 o10 =>
 bd (callS ⟨tab, ownF, K⟩ o10 10 [v8, v9, v10]) fun v11 o11 =>
 bd (ret1 (extractS v11 0) o11) fun v12 o12 =>
 bd (ret1 (extractS v11 1) o12) fun v13 o13 =>
 bd (callS ⟨tab, ownF, K⟩ o13 11 [v8, v9, v10]) fun v14 o14 =>
 bd (ret1 (extractS v14 0) o14) fun v15 o15 =>
 bd (ret1 (extractS v14 1) o15) fun v16 o16 =>
 bd (ret1 (binS tab .neq 4 v16 v13) o16) fun v17 o17 =>
 bd (gd v17 false (some (v15, o17)) o17) fun v18 o18 =>
 bd (gd v17 false (some (v12, o18)) o18) fun v19 o19 =>
 bd (gd v17 false (callS ⟨tab, ownF, K⟩ o19 12 [v18, v19]) o19) fun v20 o20 =>
 bd (gd v17 false (ret1 (unS .not v20) o20) o20) fun v21 o21 =>
 bd (ret1 (pickS v17 (SV.v (.bool true)) v21) o21) fun v22 o22 =>
 bd (gd v22 false (some (v16, o22)) o22) fun v23 o23 =>
 bd (gd v22 false (ret1 (unS .not v23) o23) o23) fun v24 o24 =>
 bd (ret1 (pickS v22 (SV.v (.bool true)) v24) o24) fun v25 o25 =>
 condS v25 (bd (ret1 (binS tab .eql 4 v16 v13) o25) fun v26 o26 =>
 bd (gd v26 true (some (v15, o26)) o26) fun v27 o27 =>
 bd (gd v26 true (some (v12, o27)) o27) fun v28 o28 =>
 bd (gd v26 true (callS ⟨tab, ownF, K⟩ o28 12 [v27, v28]) o28) fun v29 o29 =>
 bd (ret1 (pickS v26 v29 (SV.v (.bool false))) o29) fun v30 o30 =>
 retV tab nl o30 (resC1 (some v30) (some [])))
 (bd (callS ⟨tab, ownF, K⟩ o25 11 [v8, v15, v10]) fun v31 o31 =>
 bd (ret1 (extractS v31 0) o31) fun v32 o32 =>
 bd (ret1 (extractS v31 1) o32) fun v33 o33 =>
 bd (lenO tab 22 o33 x1) fun v34 o34 =>
 bd (lenO tab 23 o34 v15) fun v35 o35 =>
 bd (ret1 (binS tab .rem 3 v34 v35) o35) fun v36 o36 =>
 bd (ret1 (indexAddrS tab o36 23 v15 v36) o36) fun v37 o37 =>
 bd (ret1 (fieldAddrS tab 33 v37 0) o37) fun v38 o38 =>
 bd (ret1 (loadS tab o38 3 v38) o38) fun v39 o39 =>
 bd (callS ⟨tab, ownF, K⟩ o39 11 [v8, v15, v39]) fun v40 o40 =>
 bd (ret1 (extractS v40 0) o40) fun v41 o41 =>
 bd (ret1 (extractS v40 1) o41) fun v42 o42 =>
 bd (callS ⟨tab, ownF, K⟩ o42 11 [(nilA tab 23), v15, v10]) fun v43 o43 =>
 bd (ret1 (extractS v43 0) o43) fun v44 o44 =>
 bd (ret1 (extractS v43 1) o44) fun v45 o45 =>
 bd (gd v33 true (some (v42, o45)) o45) fun v46 o46 =>
 bd (ret1 (pickS v33 v46 (SV.v (.bool false))) o46) fun v47 o47 =>
 bd (gd v47 true (some (v45, o47)) o47) fun v48 o48 =>
 bd (ret1 (pickS v47 v48 (SV.v (.bool false))) o48) fun v49 o49 =>
 bd (gd v49 true (some (v32, o49)) o49) fun v50 o50 =>
 bd (gd v49 true (some (v15, o50)) o50) fun v51 o51 =>
 bd (gd v49 true (callS ⟨tab, ownF, K⟩ o51 12 [v50, v51]) o51) fun v52 o52 =>
 bd (ret1 (pickS v49 v52 (SV.v (.bool false))) o52) fun v53 o53 =>
 bd (gd v53 true (some (v41, o53)) o53) fun v54 o54 =>
 bd (gd v53 true (some (v15, o54)) o54) fun v55 o55 =>
 bd (gd v53 true (callS ⟨tab, ownF, K⟩ o55 12 [v54, v55]) o55) fun v56 o56 =>
 bd (ret1 (pickS v53 v56 (SV.v (.bool false))) o56) fun v57 o57 =>
 bd (gd v57 true (some (v44, o57)) o57) fun v58 o58 =>
 bd (gd v57 true (some (v15, o58)) o58) fun v59 o59 =>
 bd (gd v57 true (callS ⟨tab, ownF, K⟩ o59 12 [v58, v59]) o59) fun v60 o60 =>
 bd (ret1 (pickS v57 v60 (SV.v (.bool false))) o60) fun v61 o61 =>
 retV tab nl o61 (resC1 (some v61) (some []))))
noncomputable def bk5_10 (K : Nat → List SV → List SO → Out) (N nl : Nat) (m10 : Nat) : Env → List SO → Out := fun env os => loopS nl (fi5.lp 10) (fun env os nx => exec (cx K) N nl fi5 (subC c5 [1, 1, 1, 1, 1, 1, 1, 0, 1, 0, 0]) env os (kLoop nx (kBlock 0 (kSeq (exec (cx K) N nl fi5 (subC c5 [1, 1, 1, 1, 1, 1, 1, 1])) (fi5.jn 15) (kEnd tab [] nl rs5))))) m10 (killS (fi5.lp 10).alive env) os
noncomputable def L5_10 (K : Nat → List SV → List SO → Out) (N nl : Nat) (m10 : Nat) (x4 x8 x11 x12 : SV) (os : List SO) : Out := loopS nl (fi5.lp 10) (fun env os nx => exec (cx K) N nl fi5 (subC c5 [1, 1, 1, 1, 1, 1, 1, 0, 1, 0, 0]) env os (kLoop nx (kBlock 0 (kSeq (exec (cx K) N nl fi5 (subC c5 [1, 1, 1, 1, 1, 1, 1, 1])) (fi5.jn 15) (kEnd tab [] nl rs5))))) m10 [(4, x4), (8, x8), (11, x11), (12, x12)] os
noncomputable def G5_10 (K : Nat → List SV → List SO → Out) (N nl : Nat) (m10 : Nat) (xs : List SV) (os : List SO) : Out := (fun env os nx => exec (cx K) N nl fi5 (subC c5 [1, 1, 1, 1, 1, 1, 1, 0, 1, 0, 0]) env os (kLoop nx (kBlock 0 (kSeq (exec (cx K) N nl fi5 (subC c5 [1, 1, 1, 1, 1, 1, 1, 1])) (fi5.jn 15) (kEnd tab [] nl rs5))))) (zipE [4, 8, 11, 12] xs) os (bk5_10 K N nl m10)
noncomputable def GB5_10 (K : Nat → List SV → List SO → Out) (N nl : Nat) (m10 : Nat) (x4 x8 x11 x12 : SV) (os : List SO) : Out :=
 bd (lenO tab 23 os x4) fun v32 o32 =>
 bd (ret1 (binS tab .lss 3 x12 v32) o32) fun v33 o33 =>
 condS v33 (bd (ret1 (indexAddrS tab o33 23 x4 x12) o33) fun v34 o34 =>
 bd (ret1 (fieldAddrS tab 33 v34 0) o34) fun v35 o35 =>
 bd (ret1 (loadS tab o35 3 v35) o35) fun v36 o36 =>
 bd (callS ⟨tab, ownF, K⟩ o36 13 [x8, v36]) fun v37 o37 =>
 bd (ret1 (extractS v37 0) o37) fun v38 o38 =>
 bd (ret1 (extractS v37 1) o38) fun v39 o39 =>
 bd (allocS tab o39 33) fun v40 o40 =>
 bd (storeO tab o40 33 v40 (some v38)) fun v41 o41 =>
 bd (ret1 (unS .not v39) o41) fun v42 o42 =>
 bd (gd v42 false (ret1 (fieldAddrS tab 33 v40 1) o42) o42) fun v43 o43 =>
 bd (gd v42 false (ret1 (loadS tab o43 3 v43) o43) o43) fun v44 o44 =>
 bd (gd v42 false (some (x4, o44)) o44) fun v45 o45 =>
 bd (gd v42 false (some (x12, o45)) o45) fun v46 o46 =>
 bd (gd v42 false (ret1 (indexAddrS tab o46 23 v45 v46) o46) o46) fun v47 o47 =>
 bd (gd v42 false (ret1 (fieldAddrS tab 33 v47 1) o47) o47) fun v48 o48 =>
 bd (gd v42 false (ret1 (loadS tab o48 3 v48) o48) o48) fun v49 o49 =>
 bd (gd v42 false (ret1 (binS tab .lss 3 v44 v49) o49) o49) fun v50 o50 =>
 bd (ret1 (pickS v42 (SV.v (.bool true)) v50) o50) fun v51 o51 =>
 condS v51 (retV tab nl o51 (resC1 (some (SV.v (.bool false))) (some [])))
 (bd (ret1 (binS tab .add 3 x12 (SV.v (.int .i64 1))) o51) fun v52 o52 =>
 L5_10 K N nl m10 x4 x8 x11 v52 o52))
 (bd (gd x11 true (some (x8, o33)) o33) fun v53 o53 =>
 bd (gd x11 true (callS ⟨tab, ownF, K⟩ o53 14 [v53]) o53) fun v54 o54 =>
 bd (ret1 (pickS x11 v54 (SV.v (.bool false))) o54) fun v55 o55 =>
 retV tab nl o55 (resC1 (some v55) (some [])))
noncomputable def X5 (K : Nat → List SV → List SO → Out) (N nl : Nat) (x0 : SV) (os : List SO) : Out := exec (cx K) N nl fi5 c5 [(0, x0)] os (kEnd tab [] nl rs5)
noncomputable def B5 (K : Nat → List SV → List SO → Out) (N nl : Nat) (x0 : SV) (os : List SO) : Out :=
 bd (lenO tab 22 os x0) fun v1 o1 =>
 bd (ret1 (binS tab .gtr 3 v1 (SV.v (.int .i64 1048576))) o1) fun v2 o2 =>
 condS v2 (retV tab nl o2 (resC1 (some (SV.v (.bool true))) (some [])))
 (bd (callS ⟨tab, ownF, K⟩ o2 9 [x0]) fun v3 o3 =>
 bd (ret1 (extractS v3 0) o3) fun v4 o4 =>
 bd (ret1 (extractS v3 1) o4) fun v5 o5 =>
 bd (ret1 (extractS v3 2) o5) fun v6 o6 =>
 bd (callS ⟨tab, ownF, K⟩ o6 10 [v4, v5, v6]) fun v7 o7 =>
 bd (ret1 (extractS v7 0) o7) fun v8 o8 =>
 bd (ret1 (extractS v7 1) o8) fun v9 o9 =>
 bd (callS ⟨tab, ownF, K⟩ o9 11 [v4, v5, v6]) fun v10 o10 =>
 bd (ret1 (extractS v10 0) o10) fun v11 o11 =>
 bd (ret1 (extractS v10 1) o11) fun v12 o12 =>
 bd (ret1 (binS tab .neq 4 v12 v9) o12) fun v13 o13 =>
 bd (gd v13 false (some (v11, o13)) o13) fun v14 o14 =>
 bd (gd v13 false (some (v8, o14)) o14) fun v15 o15 =>
 bd (gd v13 false (callS ⟨tab, ownF, K⟩ o15 12 [v14, v15]) o15) fun v16 o16 =>
 bd (gd v13 false (ret1 (unS .not v16) o16) o16) fun v17 o17 =>
 bd (ret1 (pickS v13 (SV.v (.bool true)) v17) o17) fun v18 o18 =>
 bd (gd v18 false (some (v12, o18)) o18) fun v19 o19 =>
 bd (gd v18 false (ret1 (unS .not v19) o19) o19) fun v20 o20 =>
 bd (ret1 (pickS v18 (SV.v (.bool true)) v20) o20) fun v21 o21 =>
 condS v21 (bd (ret1 (binS tab .eql 4 v12 v9) o21) fun v22 o22 =>
 bd (gd v22 true (some (v11, o22)) o22) fun v23 o23 =>
 bd (gd v22 true (some (v8, o23)) o23) fun v24 o24 =>
 bd (gd v22 true (callS ⟨tab, ownF, K⟩ o24 12 [v23, v24]) o24) fun v25 o25 =>
 bd (ret1 (pickS v22 v25 (SV.v (.bool false))) o25) fun v26 o26 =>
 retV tab nl o26 (resC1 (some v26) (some [])))
 (bd (callS ⟨tab, ownF, K⟩ o21 13 [v11, v6]) fun v27 o27 =>
 bd (ret1 (extractS v27 0) o27) fun v28 o28 =>
 bd (ret1 (extractS v27 1) o28) fun v29 o29 =>
 bd (allocS tab o29 33) fun v30 o30 =>
 bd (storeO tab o30 33 v30 (some v28)) fun v31 o31 =>
 L5_10 K N nl N v5 v11 v29 (SV.v (.int .i64 0)) o31))
noncomputable def bk6_9 (K : Nat → List SV → List SO → Out) (N nl : Nat) (m9 : Nat) : Env → List SO → Out := fun env os => loopS nl (fi6.lp 9) (fun env os nx => exec (cx K) N nl fi6 (subC c6 [1, 1, 1, 1, 1, 1, 0, 1, 0, 0]) env os (kLoop nx (kBlock 0 (kSeq (exec (cx K) N nl fi6 (subC c6 [1, 1, 1, 1, 1, 1, 1])) (fi6.jn 22) (kEnd tab [] nl rs6))))) m9 (killS (fi6.lp 9).alive env) os
noncomputable def bk6_14 (K : Nat → List SV → List SO → Out) (N nl : Nat) (m9 : Nat) (m14 : Nat) : Env → List SO → Out := fun env os => loopS nl (fi6.lp 14) (fun env os nx => exec (cx K) N nl fi6 (subC c6 [1, 1, 1, 1, 1, 1, 0, 1, 0, 0, 1, 0, 0, 1, 1, 0, 1, 0, 0]) env os (kLoop nx (kBlock 2 (kSeq (exec (cx K) N nl fi6 (subC c6 [1, 1, 1, 1, 1, 1, 0, 1, 0, 0, 1, 0, 0, 1, 1, 1])) (fi6.jn 20) (kBlock 1 (kSeq (exec (cx K) N nl fi6 (subC c6 [1, 1, 1, 1, 1, 1, 0, 1, 0, 0, 1, 1])) (fi6.jn 10) (kLoop (bk6_9 K N nl m9) (kBlock 0 (kSeq (exec (cx K) N nl fi6 (subC c6 [1, 1, 1, 1, 1, 1, 1])) (fi6.jn 22) (kEnd tab [] nl rs6)))))))))) m14 (killS (fi6.lp 14).alive env) os
noncomputable def bk6_17 (K : Nat → List SV → List SO → Out) (N nl : Nat) (m9 m14 : Nat) (m17 : Nat) : Env → List SO → Out := fun env os => loopS nl (fi6.lp 17) (fun env os nx => exec (cx K) N nl fi6 (subC c6 [1, 1, 1, 1, 1, 1, 0, 1, 0, 0, 1, 0, 0, 1, 1, 0, 1, 0, 0, 1, 0, 0, 1, 0, 0]) env os (kLoop nx (kBlock 4 (kBlock 3 (kSeq (exec (cx K) N nl fi6 (subC c6 [1, 1, 1, 1, 1, 1, 0, 1, 0, 0, 1, 0, 0, 1, 1, 0, 1, 0, 0, 1, 1])) (fi6.jn 15) (kLoop (bk6_14 K N nl m9 m14) (kBlock 2 (kSeq (exec (cx K) N nl fi6 (subC c6 [1, 1, 1, 1, 1, 1, 0, 1, 0, 0, 1, 0, 0, 1, 1, 1])) (fi6.jn 20) (kBlock 1 (kSeq (exec (cx K) N nl fi6 (subC c6 [1, 1, 1, 1, 1, 1, 0, 1, 0, 0, 1, 1])) (fi6.jn 10) (kLoop (bk6_9 K N nl m9) (kBlock 0 (kSeq (exec (cx K) N nl fi6 (subC c6 [1, 1, 1, 1, 1, 1, 1])) (fi6.jn 22) (kEnd tab [] nl rs6)))))))))))))) m17 (killS (fi6.lp 17).alive env) os
noncomputable def L6_9 (K : Nat → List SV → List SO → Out) (N nl : Nat) (m9 : Nat) (x4 x5 x8 x10 : SV) (os : List SO) : Out := loopS nl (fi6.lp 9) (fun env os nx => exec (cx K) N nl fi6 (subC c6 [1, 1, 1, 1, 1, 1, 0, 1, 0, 0]) env os (kLoop nx (kBlock 0 (kSeq (exec (cx K) N nl fi6 (subC c6 [1, 1, 1, 1, 1, 1, 1])) (fi6.jn 22) (kEnd tab [] nl rs6))))) m9 [(4, x4), (5, x5), (8, x8), (10, x10)] os
noncomputable def G6_9 (K : Nat → List SV → List SO → Out) (N nl : Nat) (m9 : Nat) (xs : List SV) (os : List SO) : Out := (fun env os nx => exec (cx K) N nl fi6 (subC c6 [1, 1, 1, 1, 1, 1, 0, 1, 0, 0]) env os (kLoop nx (kBlock 0 (kSeq (exec (cx K) N nl fi6 (subC c6 [1, 1, 1, 1, 1, 1, 1])) (fi6.jn 22) (kEnd tab [] nl rs6))))) (zipE [4, 5, 8, 10] xs) os (bk6_9 K N nl m9)
noncomputable def L6_14 (K : Nat → List SV → List SO → Out) (N nl : Nat) (m9 : Nat) (m14 : Nat) (x4 x5 x8 x10 x13 x14 : SV) (os : List SO) : Out := loopS nl (fi6.lp 14) (fun env os nx => exec (cx K) N nl fi6 (subC c6 [1, 1, 1, 1, 1, 1, 0, 1, 0, 0, 1, 0, 0, 1, 1, 0, 1, 0, 0]) env os (kLoop nx (kBlock 2 (kSeq (exec (cx K) N nl fi6 (subC c6 [1, 1, 1, 1, 1, 1, 0, 1, 0, 0, 1, 0, 0, 1, 1, 1])) (fi6.jn 20) (kBlock 1 (kSeq (exec (cx K) N nl fi6 (subC c6 [1, 1, 1, 1, 1, 1, 0, 1, 0, 0, 1, 1])) (fi6.jn 10) (kLoop (bk6_9 K N nl m9) (kBlock 0 (kSeq (exec (cx K) N nl fi6 (subC c6 [1, 1, 1, 1, 1, 1, 1])) (fi6.jn 22) (kEnd tab [] nl rs6)))))))))) m14 [(4, x4), (5, x5), (8, x8), (10, x10), (13, x13), (14, x14)] os
noncomputable def L6_17 (K : Nat → List SV → List SO → Out) (N nl : Nat) (m9 m14 : Nat) (m17 : Nat) (x4 x5 x8 x10 x13 x14 x15 : SV) (os : List SO) : Out := loopS nl (fi6.lp 17) (fun env os nx => exec (cx K) N nl fi6 (subC c6 [1, 1, 1, 1, 1, 1, 0, 1, 0, 0, 1, 0, 0, 1, 1, 0, 1, 0, 0, 1, 0, 0, 1, 0, 0]) env os (kLoop nx (kBlock 4 (kBlock 3 (kSeq (exec (cx K) N nl fi6 (subC c6 [1, 1, 1, 1, 1, 1, 0, 1, 0, 0, 1, 0, 0, 1, 1, 0, 1, 0, 0, 1, 1])) (fi6.jn 15) (kLoop (bk6_14 K N nl m9 m14) (kBlock 2 (kSeq (exec (cx K) N nl fi6 (subC c6 [1, 1, 1, 1, 1, 1, 0, 1, 0, 0, 1, 0, 0, 1, 1, 1])) (fi6.jn 20) (kBlock 1 (kSeq (exec (cx K) N nl fi6 (subC c6 [1, 1, 1, 1, 1, 1, 0, 1, 0, 0, 1, 1])) (fi6.jn 10) (kLoop (bk6_9 K N nl m9) (kBlock 0 (kSeq (exec (cx K) N nl fi6 (subC c6 [1, 1, 1, 1, 1, 1, 1])) (fi6.jn 22) (kEnd tab [] nl rs6)))))))))))))) m17 [(4, x4), (5, x5), (8, x8), (10, x10), (13, x13), (14, x14), (15, x15)] os
noncomputable def GB6_9 (K : Nat → List SV → List SO → Out) (N nl : Nat) (m9 : Nat) (x4 x5 x8 x10 : SV) (os : List SO) : Out :=
 bd (lenO tab 23 os x8) fun v27 o27 =>
 bd (ret1 (binS tab .lss 3 x10 v27) o27) fun v28 o28 =>
 condS v28 (bd (ret1 (indexAddrS tab o28 23 x8 x10) o28) fun v29 o29 =>
 bd (ret1 (fieldAddrS tab 33 v29 0) o29) fun v30 o30 =>
 bd (ret1 (loadS tab o30 3 v30) o30) fun v31 o31 =>
 bd (callS ⟨tab, ownF, K⟩ o31 13 [x4, v31]) fun v32 o32 =>
 bd (ret1 (extractS v32 0) o32) fun v33 o33 =>
 bd (ret1 (extractS v32 1) o33) fun v34 o34 =>
 bd (allocS tab o34 33) fun v35 o35 =>
 bd (storeO tab o35 33 v35 (some v33)) fun v36 o36 =>
 bd (gd v34 false (some (x8, o36)) o36) fun v37 o37 =>
 bd (gd v34 false (some (x10, o37)) o37) fun v38 o38 =>
 bd (gd v34 false (ret1 (indexAddrS tab o38 23 v37 v38) o38) o38) fun v39 o39 =>
 bd (gd v34 false (ret1 (fieldAddrS tab 33 v39 0) o39) o39) fun v40 o40 =>
 bd (gd v34 false (ret1 (loadS tab o40 3 v40) o40) o40) fun v41 o41 =>
 bd (gd v34 false (some (x5, o41)) o41) fun v42 o42 =>
 bd (gd v34 false (ret1 (binS tab .eql 3 v41 v42) o42) o42) fun v43 o43 =>
 bd (ret1 (pickS v34 (SV.v (.bool true)) v43) o43) fun v44 o44 =>
 L6_14 K N nl m9 N x4 x5 x8 x10 v44 (SV.v (.int .i64 0)) o44)
 (retV tab nl o28 (resC1 (some (SV.v (.bool true))) (some [])))
noncomputable def LB6_14 (K : Nat → List SV → List SO → Out) (N nl : Nat) (m9 : Nat) (m14 : Nat) (x4 x5 x8 x10 x13 x14 : SV) (os : List SO) : Out :=
 bd (lenO tab 23 os x8) fun v45 o45 =>
 bd (ret1 (binS tab .lss 3 x14 v45) o45) fun v46 o46 =>
 condS v46 (L6_17 K N nl m9 m14 N x4 x5 x8 x10 x13 x14 (SV.v (.int .i64 0)) o46)
 (bd (ret1 (unS .not x13) o46) fun v47 o47 =>
 condS v47 (retV tab nl o47 (resC1 (some (SV.v (.bool false))) (some [])))
 (bd (ret1 (binS tab .add 3 x10 (SV.v (.int .i64 1))) o47) fun v48 o48 =>
 L6_9 K N nl m9 x4 x5 x8 v48 o48))
noncomputable def LB6_17 (K : Nat → List SV → List SO → Out) (N nl : Nat) (m9 m14 : Nat) (m17 : Nat) (x4 x5 x8 x10 x13 x14 x15 : SV) (os : List SO) : Out :=
 bd (ret1 (indexAddrS tab os 23 x8 x14) os) fun v49 o49 =>
 bd (ret1 (fieldAddrS tab 33 v49 3) o49) fun v50 o50 =>
 bd (ret1 (loadS tab o50 31 v50) o50) fun v51 o51 =>
 bd (lenO tab 31 o51 v51) fun v52 o52 =>
 bd (ret1 (binS tab .lss 3 x15 v52) o52) fun v53 o53 =>
 condS v53 (bd (gd x13 false (some (x8, o53)) o53) fun v54 o54 =>
 bd (gd x13 false (some (x14, o54)) o54) fun v55 o55 =>
 bd (gd x13 false (ret1 (indexAddrS tab o55 23 v54 v55) o55) o55) fun v56 o56 =>
 bd (gd x13 false (ret1 (fieldAddrS tab 33 v56 3) o56) o56) fun v57 o57 =>
 bd (gd x13 false (ret1 (loadS tab o57 31 v57) o57) o57) fun v58 o58 =>
 bd (gd x13 false (some (x15, o58)) o58) fun v59 o59 =>
 bd (gd x13 false (ret1 (indexAddrS tab o59 31 v58 v59) o59) o59) fun v60 o60 =>
 bd (gd x13 false (ret1 (fieldAddrS tab 39 v60 0) o60) o60) fun v61 o61 =>
 bd (gd x13 false (ret1 (loadS tab o61 3 v61) o61) o61) fun v62 o62 =>
 bd (gd x13 false (some (x8, o62)) o62) fun v63 o63 =>
 bd (gd x13 false (some (x10, o63)) o63) fun v64 o64 =>
 bd (gd x13 false (ret1 (indexAddrS tab o64 23 v63 v64) o64) o64) fun v65 o65 =>
 bd (gd x13 false (ret1 (fieldAddrS tab 33 v65 0) o65) o65) fun v66 o66 =>
 bd (gd x13 false (ret1 (loadS tab o66 3 v66) o66) o66) fun v67 o67 =>
 bd (gd x13 false (ret1 (binS tab .eql 3 v62 v67) o67) o67) fun v68 o68 =>
 bd (ret1 (pickS x13 (SV.v (.bool true)) v68) o68) fun v69 o69 =>
 bd (ret1 (binS tab .add 3 x15 (SV.v (.int .i64 1))) o69) fun v70 o70 =>
 L6_17 K N nl m9 m14 m17 x4 x5 x8 x10 v69 x14 v70 o70)
 (bd (ret1 (binS tab .add 3 x14 (SV.v (.int .i64 1))) o53) fun v71 o71 =>
 L6_14 K N nl m9 m14 x4 x5 x8 x10 x13 v71 o71)
noncomputable def X6 (K : Nat → List SV → List SO → Out) (N nl : Nat) (x0 : SV) (os : List SO) : Out := exec (cx K) N nl fi6 c6 [(0, x0)] os (kEnd tab [] nl rs6)
noncomputable def B6 (K : Nat → List SV → List SO → Out) (N nl : Nat) (x0 : SV) (os : List SO) : Out :=
 bd (lenO tab 22 os x0) fun v1 o1 =>
 bd (ret1 (binS tab .gtr 3 v1 (SV.v (.int .i64 1048576))) o1) fun v2 o2 =>
 condS v2 (retV tab nl o2 (resC1 (some (SV.v (.bool true))) (some [])))
 (bd (callS ⟨tab, ownF, K⟩ o2 9 [x0]) fun v3 o3 =>
 bd (ret1 (extractS v3 0) o3) fun v4 o4 =>
 bd (ret1 (extractS v3 1) o4) fun v5 o5 =>
 bd (ret1 (extractS v3 2) o5) fun v6 o6 =>
 bd (callS ⟨tab, ownF, K⟩ o6 10 [v4, v5, v6]) fun v7 o7 =>
 bd (ret1 (extractS v7 0) o7) fun v8 o8 =>
 bd (ret1 (extractS v7 1) o8) fun v9 o9 =>
 bd (callS ⟨tab, ownF, K⟩ o9 11 [v4, v5, v6]) fun v10 o10 =>
 bd (ret1 (extractS v10 0) o10) fun v11 o11 =>
 bd (ret1 (extractS v10 1) o11) fun v12 o12 =>
 bd (ret1 (binS tab .neq 4 v12 v9) o12) fun v13 o13 =>
 bd (gd v13 false (some (v11, o13)) o13) fun v14 o14 =>
 bd (gd v13 false (some (v8, o14)) o14) fun v15 o15 =>
 bd (gd v13 false (callS ⟨tab, ownF, K⟩ o15 12 [v14, v15]) o15) fun v16 o16 =>
 bd (gd v13 false (ret1 (unS .not v16) o16) o16) fun v17 o17 =>
 bd (ret1 (pickS v13 (SV.v (.bool true)) v17) o17) fun v18 o18 =>
 bd (gd v18 false (some (v12, o18)) o18) fun v19 o19 =>
 bd (gd v18 false (ret1 (unS .not v19) o19) o19) fun v20 o20 =>
 bd (ret1 (pickS v18 (SV.v (.bool true)) v20) o20) fun v21 o21 =>
 condS v21 (bd (ret1 (binS tab .eql 4 v12 v9) o21) fun v22 o22 =>
 bd (gd v22 true (some (v11, o22)) o22) fun v23 o23 =>
 bd (gd v22 true (some (v8, o23)) o23) fun v24 o24 =>
 bd (gd v22 true (callS ⟨tab, ownF, K⟩ o24 12 [v23, v24]) o24) fun v25 o25 =>
 bd (ret1 (pickS v22 v25 (SV.v (.bool false))) o25) fun v26 o26 =>
 retV tab nl o26 (resC1 (some v26) (some [])))
 (L6_9 K N nl N v5 v6 v11 (SV.v (.int .i64 0)) o21))
noncomputable def X7 (K : Nat → List SV → List SO → Out) (N nl : Nat) (x0 x1 : SV) (os : List SO) : Out := exec (cx K) N nl fi7 c7 [(0, x0), (1, x1)] os (kEnd tab [] nl rs7)
noncomputable def B7 (K : Nat → List SV → List SO → Out) (N nl : Nat) (x0 x1 : SV) (os : List SO) : Out :=
 bd (lenO tab 22 os x0) fun v1 o1 =>
 bd (ret1 (binS tab .gtr 3 v1 (SV.v (.int .i64 1048576))) o1) fun v2 o2 =>
 bd (gd v2 false (some (x1, o2)) o2) fun v3 o3 =>
 bd (gd v2 false (lenO tab 22 o3 v3) o3) fun v4 o4 =>
 bd (gd v2 false (ret1 (binS tab .gtr 3 v4 (SV.v (.int .i64 1048576))) o4) o4) fun v5 o5 =>
 bd (ret1 (pickS v2 (SV.v (.bool true)) v5) o5) fun v6 o6 =>
 condS v6 (retV tab nl o6 (resC1 (some (SV.v (.bool true))) (some [])))
 (bd (callS ⟨tab, ownF, K⟩ o6 9 [x0]) fun v7 o7 =>
 bd (ret1 (extractS v7 0) o7) fun v8 o8 =>
 bd (ret1 (extractS v7 1) o8) fun v9 o9 =>
 bd (ret1 (extractS v7 2) o9) fun v10 o10 =>
 bd (callS ⟨tab, ownF, K⟩ o10 10 [v8, v9, v10]) fun v11 o11 =>
 bd (ret1 (extractS v11 0) o11) fun v12 o12 =>
 bd (ret1 (extractS v11 1) o12) fun v13 o13 =>
 bd (callS ⟨tab, ownF, K⟩ o13 11 [v8, v9, v10]) fun v14 o14 =>
 bd (ret1 (extractS v14 0) o14) fun v15 o15 =>
 bd (ret1 (extractS v14 1) o15) fun v16 o16 =>
 bd (ret1 (binS tab .neq 4 v16 v13) o16) fun v17 o17 =>
 bd (gd v17 false (some (v15, o17)) o17) fun v18 o18 =>
 bd (gd v17 false (some (v12, o18)) o18) fun v19 o19 =>
 bd (gd v17 false (callS ⟨tab, ownF, K⟩ o19 12 [v18, v19]) o19) fun v20 o20 =>
 bd (gd v17 false (ret1 (unS .not v20) o20) o20) fun v21 o21 =>
 bd (ret1 (pickS v17 (SV.v (.bool true)) v21) o21) fun v22 o22 =>
 bd (gd v22 false (some (v9, o22)) o22) fun v23 o23 =>
 bd (gd v22 false (callS ⟨tab, ownF, K⟩ o23 15 [v23]) o23) fun v24 o24 =>
 bd (gd v22 false (ret1 (unS .not v24) o24) o24) fun v25 o25 =>
 bd (ret1 (pickS v22 (SV.v (.bool true)) v25) o25) fun v26 o26 =>
 bd (gd v26 false (some (v10, o26)) o26) fun v27 o27 =>
 bd (gd v26 false (ret1 (binS tab .lss 3 v27 (SV.v (.int .i64 1))) o27) o27) fun v28 o28 =>
 bd (ret1 (pickS v26 (SV.v (.bool true)) v28) o28) fun v29 o29 =>
 bd (gd v29 false (some (v10, o29)) o29) fun v30 o30 =>
 bd (gd v29 false (ret1 (binS tab .gtr 3 v30 (SV.v (.int .i64 4))) o30) o30) fun v31 o31 =>
 bd (ret1 (pickS v29 (SV.v (.bool true)) v31) o31) fun v32 o32 =>
 condS v32 (bd (ret1 (binS tab .eql 4 v16 v13) o32) fun v33 o33 =>
 bd (gd v33 true (some (v15, o33)) o33) fun v34 o34 =>
 bd (gd v33 true (some (v12, o34)) o34) fun v35 o35 =>
 bd (gd v33 true (callS ⟨tab, ownF, K⟩ o35 12 [v34, v35]) o35) fun v36 o36 =>
 bd (ret1 (pickS v33 v36 (SV.v (.bool false))) o36) fun v37 o37 =>
 retV tab nl o37 (resC1 (some v37) (some [])))
 (bd (callS ⟨tab, ownF, K⟩ o32 13 [v8, v10]) fun v38 o38 =>
 bd (ret1 (extractS v38 0) o38) fun v39 o39 =>
 bd (ret1 (extractS v38 1) o39) fun v40 o40 =>
 bd (allocS tab o40 33) fun v41 o41 =>
 bd (storeO tab o41 33 v41 (some v39)) fun v42 o42 =>
 bd (callS ⟨tab, ownF, K⟩ o42 13 [v9, v10]) fun v43 o43 =>
 bd (ret1 (extractS v43 0) o43) fun v44 o44 =>
 bd (ret1 (extractS v43 1) o44) fun v45 o45 =>
 bd (allocS tab o45 33) fun v46 o46 =>
 bd (storeO tab o46 33 v46 (some v44)) fun v47 o47 =>
 bd (gd v16 true (some (v40, o47)) o47) fun v48 o48 =>
 bd (gd v16 true (ret1 (unS .not v48) o48) o48) fun v49 o49 =>
 bd (ret1 (pickS v16 v49 (SV.v (.bool false))) o49) fun v50 o50 =>
 bd (gd v50 true (some (v45, o50)) o50) fun v51 o51 =>
 bd (gd v50 true (ret1 (unS .not v51) o51) o51) fun v52 o52 =>
 bd (ret1 (pickS v50 v52 (SV.v (.bool false))) o52) fun v53 o53 =>
 condS v53 (retV tab nl o53 (resC1 (some (SV.v (.bool false))) (some [])))
 (bd (callS ⟨tab, ownF, K⟩ o53 11 [(nilA tab 23), v9, v10]) fun v54 o54 =>
 bd (ret1 (extractS v54 0) o54) fun v55 o55 =>
 bd (ret1 (extractS v54 1) o55) fun v56 o56 =>
 bd (ret1 (binS tab .eql 4 v56 v45) o56) fun v57 o57 =>
 bd (gd v57 true (some (v56, o57)) o57) fun v58 o58 =>
 bd (gd v57 true (ret1 (unS .not v58) o58) o58) fun v59 o59 =>
 bd (gd v57 true (some (v59, o59)) o59) fun v60 o60 =>
 bd (gd v60 false (some (v55, o60)) o60) fun v61 o61 =>
 bd (gd v60 false (some (v9, o61)) o61) fun v62 o62 =>
 bd (gd v60 false (callS ⟨tab, ownF, K⟩ o62 12 [v61, v62]) o62) fun v63 o63 =>
 bd (gd v57 true (ret1 (pickS v60 (SV.v (.bool true)) v63) o63) o63) fun v64 o64 =>
 bd (ret1 (pickS v57 v64 (SV.v (.bool false))) o64) fun v65 o65 =>
 retV tab nl o65 (resC1 (some v65) (some [])))))
noncomputable def bk8_9 (K : Nat → List SV → List SO → Out) (N nl : Nat) (m9 : Nat) : Env → List SO → Out := fun env os => loopS nl (fi8.lp 9) (fun env os nx => exec (cx K) N nl fi8 (subC c8 [1, 1, 1, 1, 1, 1, 0, 1, 0, 0]) env os (kLoop nx (kBlock 0 (kSeq (exec (cx K) N nl fi8 (subC c8 [1, 1, 1, 1, 1, 1, 1])) (fi8.jn 15) (kEnd tab [] nl rs8))))) m9 (killS (fi8.lp 9).alive env) os
noncomputable def L8_9 (K : Nat → List SV → List SO → Out) (N nl : Nat) (m9 : Nat) (x3 x4 x8 x10 : SV) (os : List SO) : Out := loopS nl (fi8.lp 9) (fun env os nx => exec (cx K) N nl fi8 (subC c8 [1, 1, 1, 1, 1, 1, 0, 1, 0, 0]) env os (kLoop nx (kBlock 0 (kSeq (exec (cx K) N nl fi8 (subC c8 [1, 1, 1, 1, 1, 1, 1])) (fi8.jn 15) (kEnd tab [] nl rs8))))) m9 [(3, x3), (4, x4), (8, x8), (10, x10)] os
noncomputable def G8_9 (K : Nat → List SV → List SO → Out) (N nl : Nat) (m9 : Nat) (xs : List SV) (os : List SO) : Out := (fun env os nx => exec (cx K) N nl fi8 (subC c8 [1, 1, 1, 1, 1, 1, 0, 1, 0, 0]) env os (kLoop nx (kBlock 0 (kSeq (exec (cx K) N nl fi8 (subC c8 [1, 1, 1, 1, 1, 1, 1])) (fi8.jn 15) (kEnd tab [] nl rs8))))) (zipE [3, 4, 8, 10] xs) os (bk8_9 K N nl m9)
noncomputable def GB8_9 (K : Nat → List SV → List SO → Out) (N nl : Nat) (m9 : Nat) (x3 x4 x8 x10 : SV) (os : List SO) : Out :=
 bd (lenO tab 23 os x8) fun v27 o27 =>
 bd (ret1 (binS tab .lss 3 x10 v27) o27) fun v28 o28 =>
 condS v28 (bd (ret1 (indexAddrS tab o28 23 x8 x10) o28) fun v29 o29 =>
 bd (ret1 (fieldAddrS tab 33 v29 0) o29) fun v30 o30 =>
 bd (ret1 (loadS tab o30 3 v30) o30) fun v31 o31 =>
 bd (callS ⟨tab, ownF, K⟩ o31 13 [x3, v31]) fun v32 o32 =>
 bd (ret1 (extractS v32 0) o32) fun v33 o33 =>
 bd (ret1 (extractS v32 1) o33) fun v34 o34 =>
 bd (allocS tab o34 33) fun v35 o35 =>
 bd (storeO tab o35 33 v35 (some v33)) fun v36 o36 =>
 bd (ret1 (indexAddrS tab o36 23 x8 x10) o36) fun v37 o37 =>
 bd (ret1 (fieldAddrS tab 33 v37 0) o37) fun v38 o38 =>
 bd (ret1 (loadS tab o38 3 v38) o38) fun v39 o39 =>
 bd (callS ⟨tab, ownF, K⟩ o39 13 [x4, v39]) fun v40 o40 =>
 bd (ret1 (extractS v40 0) o40) fun v41 o41 =>
 bd (ret1 (extractS v40 1) o41) fun v42 o42 =>
 bd (allocS tab o42 33) fun v43 o43 =>
 bd (storeO tab o43 33 v43 (some v41)) fun v44 o44 =>
 bd (ret1 (indexAddrS tab o44 23 x8 x10) o44) fun v45 o45 =>
 bd (ret1 (loadS tab o45 33 v45) o45) fun v46 o46 =>
 bd (callS ⟨tab, ownF, K⟩ o46 16 [x3, v46]) fun v47 o47 =>
 bd (ret1 (unS .not v47) o47) fun v48 o48 =>
 bd (gd v48 true (some (x4, o48)) o48) fun v49 o49 =>
 bd (gd v48 true (some (x8, o49)) o49) fun v50 o50 =>
 bd (gd v48 true (some (x10, o50)) o50) fun v51 o51 =>
 bd (gd v48 true (ret1 (indexAddrS tab o51 23 v50 v51) o51) o51) fun v52 o52 =>
 bd (gd v48 true (ret1 (loadS tab o52 33 v52) o52) o52) fun v53 o53 =>
 bd (gd v48 true (callS ⟨tab, ownF, K⟩ o53 16 [v49, v53]) o53) fun v54 o54 =>
 bd (gd v48 true (ret1 (unS .not v54) o54) o54) fun v55 o55 =>
 bd (ret1 (pickS v48 v55 (SV.v (.bool false))) o55) fun v56 o56 =>
 bd (gd v56 false (some (v34, o56)) o56) fun v57 o57 =>
 bd (gd v56 false (some (v57, o57)) o57) fun v58 o58 =>
 bd (gd v58 true (ret1 (fieldAddrS tab 33 v35 1) o58) o58) fun v59 o59 =>
 bd (gd v58 true (ret1 (loadS tab o59 3 v59) o59) o59) fun v60 o60 =>
 bd (gd v58 true (some (x8, o60)) o60) fun v61 o61 =>
 bd (gd v58 true (some (x10, o61)) o61) fun v62 o62 =>
 bd (gd v58 true (ret1 (indexAddrS tab o62 23 v61 v62) o62) o62) fun v63 o63 =>
 bd (gd v58 true (ret1 (fieldAddrS tab 33 v63 1) o63) o63) fun v64 o64 =>
 bd (gd v58 true (ret1 (loadS tab o64 3 v64) o64) o64) fun v65 o65 =>
 bd (gd v58 true (ret1 (binS tab .gtr 3 v60 v65) o65) o65) fun v66 o66 =>
 bd (gd v56 false (ret1 (pickS v58 v66 (SV.v (.bool false))) o66) o66) fun v67 o67 =>
 bd (ret1 (pickS v56 (SV.v (.bool true)) v67) o67) fun v68 o68 =>
 bd (gd v68 false (some (v42, o68)) o68) fun v69 o69 =>
 bd (gd v68 false (some (v69, o69)) o69) fun v70 o70 =>
 bd (gd v70 true (ret1 (fieldAddrS tab 33 v43 1) o70) o70) fun v71 o71 =>
 bd (gd v70 true (ret1 (loadS tab o71 3 v71) o71) o71) fun v72 o72 =>
 bd (gd v70 true (some (x8, o72)) o72) fun v73 o73 =>
 bd (gd v70 true (some (x10, o73)) o73) fun v74 o74 =>
 bd (gd v70 true (ret1 (indexAddrS tab o74 23 v73 v74) o74) o74) fun v75 o75 =>
 bd (gd v70 true (ret1 (fieldAddrS tab 33 v75 1) o75) o75) fun v76 o76 =>
 bd (gd v70 true (ret1 (loadS tab o76 3 v76) o76) o76) fun v77 o77 =>
 bd (gd v70 true (ret1 (binS tab .gtr 3 v72 v77) o77) o77) fun v78 o78 =>
 bd (gd v68 false (ret1 (pickS v70 v78 (SV.v (.bool false))) o78) o78) fun v79 o79 =>
 bd (ret1 (pickS v68 (SV.v (.bool true)) v79) o79) fun v80 o80 =>
 condS v80 (retV tab nl o80 (resC1 (some (SV.v (.bool false))) (some [])))
 (bd (ret1 (binS tab .add 3 x10 (SV.v (.int .i64 1))) o80) fun v81 o81 =>
 L8_9 K N nl m9 x3 x4 x8 v81 o81))
 (retV tab nl o28 (resC1 (some (SV.v (.bool true))) (some [])))
noncomputable def X8 (K : Nat → List SV → List SO → Out) (N nl : Nat) (x0 : SV) (os : List SO) : Out := exec (cx K) N nl fi8 c8 [(0, x0)] os (kEnd tab [] nl rs8)
noncomputable def B8 (K : Nat → List SV → List SO → Out) (N nl : Nat) (x0 : SV) (os : List SO) : Out :=
 bd (lenO tab 22 os x0) fun v1 o1 =>
 bd (ret1 (binS tab .gtr 3 v1 (SV.v (.int .i64 1048576))) o1) fun v2 o2 =>
 condS v2 (retV tab nl o2 (resC1 (some (SV.v (.bool true))) (some [])))
 (bd (callS ⟨tab, ownF, K⟩ o2 9 [x0]) fun v3 o3 =>
 bd (ret1 (extractS v3 0) o3) fun v4 o4 =>
 bd (ret1 (extractS v3 1) o4) fun v5 o5 =>
 bd (ret1 (extractS v3 2) o5) fun v6 o6 =>
 bd (callS ⟨tab, ownF, K⟩ o6 10 [v4, v5, v6]) fun v7 o7 =>
 bd (ret1 (extractS v7 0) o7) fun v8 o8 =>
 bd (ret1 (extractS v7 1) o8) fun v9 o9 =>
 bd (callS ⟨tab, ownF, K⟩ o9 11 [v4, v5, v6]) fun v10 o10 =>
 bd (ret1 (extractS v10 0) o10) fun v11 o11 =>
 bd (ret1 (extractS v10 1) o11) fun v12 o12 =>
 bd (ret1 (binS tab .neq 4 v12 v9) o12) fun v13 o13 =>
 bd (gd v13 false (some (v11, o13)) o13) fun v14 o14 =>
 bd (gd v13 false (some (v8, o14)) o14) fun v15 o15 =>
 bd (gd v13 false (callS ⟨tab, ownF, K⟩ o15 12 [v14, v15]) o15) fun v16 o16 =>
 bd (gd v13 false (ret1 (unS .not v16) o16) o16) fun v17 o17 =>
 bd (ret1 (pickS v13 (SV.v (.bool true)) v17) o17) fun v18 o18 =>
 bd (gd v18 false (some (v12, o18)) o18) fun v19 o19 =>
 bd (gd v18 false (ret1 (unS .not v19) o19) o19) fun v20 o20 =>
 bd (ret1 (pickS v18 (SV.v (.bool true)) v20) o20) fun v21 o21 =>
 condS v21 (bd (ret1 (binS tab .eql 4 v12 v9) o21) fun v22 o22 =>
 bd (gd v22 true (some (v11, o22)) o22) fun v23 o23 =>
 bd (gd v22 true (some (v8, o23)) o23) fun v24 o24 =>
 bd (gd v22 true (callS ⟨tab, ownF, K⟩ o24 12 [v23, v24]) o24) fun v25 o25 =>
 bd (ret1 (pickS v22 v25 (SV.v (.bool false))) o25) fun v26 o26 =>
 retV tab nl o26 (resC1 (some v26) (some [])))
 (L8_9 K N nl N v4 v5 v11 (SV.v (.int .i64 0)) o21))
noncomputable def bk9_6 (K : Nat → List SV → List SO → Out) (N nl : Nat) (m6 : Nat) : Env → List SO → Out := fun env os => loopS nl (fi9.lp 6) (fun env os nx => exec (cx K) N nl fi9 (subC c9 [1, 1, 1, 1, 1, 0, 1, 0, 0]) env os (kLoop nx (kBlock 0 (kSeq (exec (cx K) N nl fi9 (subC c9 [1, 1, 1, 1, 1, 1])) (fi9.jn 15) (kEnd tab [0, 100] nl rs9))))) m6 (killS (fi9.lp 6).alive env) os
noncomputable def L9_6 (K : Nat → List SV → List SO → Out) (N nl : Nat) (m6 : Nat) (x5 x6 x7 x8 x9 : SV) (os : List SO) : Out := loopS nl (fi9.lp 6) (fun env os nx => exec (cx K) N nl fi9 (subC c9 [1, 1, 1, 1, 1, 0, 1, 0, 0]) env os (kLoop nx (kBlock 0 (kSeq (exec (cx K) N nl fi9 (subC c9 [1, 1, 1, 1, 1, 1])) (fi9.jn 15) (kEnd tab [0, 100] nl rs9))))) m6 [(5, x5), (6, x6), (7, x7), (8, x8), (9, x9)] os
noncomputable def G9_6 (K : Nat → List SV → List SO → Out) (N nl : Nat) (m6 : Nat) (xs : List SV) (os : List SO) : Out := (fun env os nx => exec (cx K) N nl fi9 (subC c9 [1, 1, 1, 1, 1, 0, 1, 0, 0]) env os (kLoop nx (kBlock 0 (kSeq (exec (cx K) N nl fi9 (subC c9 [1, 1, 1, 1, 1, 1])) (fi9.jn 15) (kEnd tab [0, 100] nl rs9))))) (zipE [5, 6, 7, 8, 9] xs) os (bk9_6 K N nl m6)
noncomputable def J9_7 (K : Nat → List SV → List SO → Out) (N nl : Nat) (m6 : Nat) (x5 x6 x7 x8 x9 : SV) (os : List SO) : Out := exec (cx K) N nl fi9 (subC c9 [1, 1, 1, 1, 1, 0, 1, 0, 0, 1, 1]) [(5, x5), (6, x6), (7, x7), (8, x8), (9, x9)] os (kLoop (bk9_6 K N nl m6) (kBlock 0 (kSeq (exec (cx K) N nl fi9 (subC c9 [1, 1, 1, 1, 1, 1])) (fi9.jn 15) (kEnd tab [0, 100] nl rs9))))
noncomputable def GB9_6 (K : Nat → List SV → List SO → Out) (N nl : Nat) (m6 : Nat) (x5 x6 x7 x8 x9 : SV) (os : List SO) : Out :=
 bd (ret1 (binS tab .lss 3 x9 (SV.v (.int .i64 6))) os) fun v9 o9 =>
 bd (gd v9 true (some (x5, o9)) o9) fun v10 o10 =>
 bd (gd v9 true (callS ⟨tab, ownF, K⟩ o10 21 [v10, (SV.v (.int .i64 8))]) o10) fun v11 o11 =>
 bd (gd v9 true (ret1 (binS tab .gtr 3 v11 (SV.v (.int .i64 0))) o11) o11) fun v12 o12 =>
 bd (ret1 (pickS v9 v12 (SV.v (.bool false))) o12) fun v13 o13 =>
 condS v13 (bd (callS ⟨tab, ownF, K⟩ o13 10 [x6, x7, x8]) fun v14 o14 =>
 bd (ret1 (extractS v14 0) o14) fun v15 o15 =>
 bd (ret1 (extractS v14 1) o15) fun v16 o16 =>
 condS v16 (retP tab [0, 100] nl o16 (resC1 (some x6) (resC1 (some x7) (resC1 (some x8) (some [])))))
 (bd (callS ⟨tab, ownF, K⟩ o16 21 [x5, (SV.v (.int .i64 4))]) fun v17 o17 =>
 bd (ret1 (binS tab .add 3 (SV.v (.int .i64 1)) v17) o17) fun v18 o18 =>
 bd (ret1 (binS tab .eql 3 x9 (SV.v (.int .i64 2))) o18) fun v19 o19 =>
 condS v19 (bd (callS ⟨tab, ownF, K⟩ o19 20 [x5]) fun v20 o20 =>
 bd (callS ⟨tab, ownF, K⟩ o20 19 [x5, v20]) fun v21 o21 =>
 J9_7 K N nl m6 x5 v20 v21 v18 x9 o21)
 (J9_7 K N nl m6 x5 x6 x7 v18 x9 o19)))
 (bd (callS ⟨tab, ownF, K⟩ o13 21 [x5, (SV.v (.int .i64 24))]) fun v22 o22 =>
 bd (ret1 (binS tab .quo 3 v22 (SV.v (.int .i64 23))) o22) fun v23 o23 =>
 bd (ret1 (binS tab .mul 3 v23 (SV.v (.int .i64 4))) o23) fun v24 o24 =>
 bd (ret1 (binS tab .add 3 x8 v24) o24) fun v25 o25 =>
 retP tab [0, 100] nl o25 (resC1 (some x6) (resC1 (some x7) (resC1 (some v25) (some [])))))
noncomputable def JB9_7 (K : Nat → List SV → List SO → Out) (N nl : Nat) (m6 : Nat) (x5 x6 x7 x8 x9 : SV) (os : List SO) : Out :=
 bd (ret1 (binS tab .add 3 x9 (SV.v (.int .i64 1))) os) fun v26 o26 =>
 L9_6 K N nl m6 x5 x6 x7 x8 v26 o26
noncomputable def X9 (K : Nat → List SV → List SO → Out) (N nl : Nat) (x0 : SV) (os : List SO) : Out := exec (cx K) N nl fi9 c9 [(0, x0)] os (kEnd tab [0, 100] nl rs9)
noncomputable def B9 (K : Nat → List SV → List SO → Out) (N nl : Nat) (x0 : SV) (os : List SO) : Out :=
 bd (evN tab 23 os none) fun v1 o1 =>
 bd (evN tab 23 o1 none) fun v2 o2 =>
 bd (callS ⟨tab, ownF, K⟩ o2 17 [x0]) fun v3 o3 =>
 bd (callS ⟨tab, ownF, K⟩ o3 18 [v3]) fun v4 o4 =>
 bd (callS ⟨tab, ownF, K⟩ o4 20 [v3]) fun v5 o5 =>
 bd (callS ⟨tab, ownF, K⟩ o5 19 [v3, v5]) fun v6 o6 =>
 bd (callS ⟨tab, ownF, K⟩ o6 21 [v3, (SV.v (.int .i64 4))]) fun v7 o7 =>
 bd (ret1 (binS tab .add 3 (SV.v (.int .i64 1)) v7) o7) fun v8 o8 =>
 L9_6 K N nl N v3 v4 v6 v8 (SV.v (.int .i64 0)) o8
noncomputable def X10 (K : Nat → List SV → List SO → Out) (N nl : Nat) (x0 x1 x2 : SV) (os : List SO) : Out := exec (cx K) N nl fi10 c10 [(0, x0), (1, x1), (2, x2)] os (kEnd tab [] nl rs10)
noncomputable def B10 (K : Nat → List SV → List SO → Out) (N nl : Nat) (x0 x1 x2 : SV) (os : List SO) : Out :=
 bd (evN tab 23 os none) fun v1 o1 =>
 bd (callS ⟨tab, ownF, K⟩ o1 22 [x0]) fun v2 o2 =>
 bd (ret1 (unS .not v2) o2) fun v3 o3 =>
 bd (gd v3 false (some (x1, o3)) o3) fun v4 o4 =>
 bd (gd v3 false (callS ⟨tab, ownF, K⟩ o4 15 [v4]) o4) fun v5 o5 =>
 bd (gd v3 false (ret1 (unS .not v5) o5) o5) fun v6 o6 =>
 bd (ret1 (pickS v3 (SV.v (.bool true)) v6) o6) fun v7 o7 =>
 bd (gd v7 false (some (x2, o7)) o7) fun v8 o8 =>
 bd (gd v7 false (callS ⟨tab, ownF, K⟩ o8 23 [v8, (SV.v (.int .i64 1)), (SV.v (.int .i64 4))]) o8) fun v9 o9 =>
 bd (gd v7 false (ret1 (unS .not v9) o9) o9) fun v10 o10 =>
 bd (ret1 (pickS v7 (SV.v (.bool true)) v10) o10) fun v11 o11 =>
 condS v11 (bd (buildSliceS tab o11 23 0 []) fun v12 o12 =>
 retV tab nl o12 (resC1 (some v12) (resC1 (some (SV.v (.bool false))) (some []))))
 (bd (callS ⟨tab, ownF, K⟩ o11 24 [x0, x1, x2]) fun v13 o13 =>
 bd (ret1 (extractS v13 0) o13) fun v14 o14 =>
 bd (ret1 (extractS v13 1) o14) fun v15 o15 =>
 retV tab nl o15 (resC1 (some v14) (resC1 (some v15) (some []))))
noncomputable def bk11_5 (K : Nat → List SV → List SO → Out) (N nl : Nat) (m5 : Nat) : Env → List SO → Out := fun env os => loopS nl (fi11.lp 5) (fun env os nx => exec (cx K) N nl fi11 (subC c11 [1, 1, 1, 0, 1, 0, 0]) env os (kLoop nx (kBlock 0 (kSeq (exec (cx K) N nl fi11 (subC c11 [1, 1, 1, 1])) (fi11.jn 9) (kEnd tab [] nl rs11))))) m5 (killS (fi11.lp 5).alive env) os
noncomputable def bk11_11 (K : Nat → List SV → List SO → Out) (N nl : Nat) (m11 : Nat) : Env → List SO → Out := fun env os => loopS nl (fi11.lp 11) (fun env os nx => exec (cx K) N nl fi11 (subC c11 [1, 1, 1, 1, 1, 0, 1, 0, 0]) env os (kLoop nx (kBlock 2 (kSeq (exec (cx K) N nl fi11 (subC c11 [1, 1, 1, 1, 1, 1])) (fi11.jn 23) (kEnd tab [] nl rs11))))) m11 (killS (fi11.lp 11).alive env) os
noncomputable def bk11_18 (K : Nat → List SV → List SO → Out) (N nl : Nat) (m11 : Nat) (m18 : Nat) : Env → List SO → Out := fun env os => loopS nl (fi11.lp 18) (fun env os nx => exec (cx K) N nl fi11 (subC c11 [1, 1, 1, 1, 1, 0, 1, 0, 0, 1, 0, 0, 1, 1, 1, 0, 1, 0, 0]) env os (kLoop nx (kBlock 4 (kSeq (exec (cx K) N nl fi11 (subC c11 [1, 1, 1, 1, 1, 0, 1, 0, 0, 1, 0, 0, 1, 1, 1, 1])) (fi11.jn 22) (kBlock 3 (kSeq (exec (cx K) N nl fi11 (subC c11 [1, 1, 1, 1, 1, 0, 1, 0, 0, 1, 1])) (fi11.jn 12) (kLoop (bk11_11 K N nl m11) (kBlock 2 (kSeq (exec (cx K) N nl fi11 (subC c11 [1, 1, 1, 1, 1, 1])) (fi11.jn 23) (kEnd tab [] nl rs11)))))))))) m18 (killS (fi11.lp 18).alive env) os
noncomputable def L11_5 (K : Nat → List SV → List SO → Out) (N nl : Nat) (m5 : Nat) (x0 x1 x8 x32 x33 x34 : SV) (os : List SO) : Out := loopS nl (fi11.lp 5) (fun env os nx => exec (cx K) N nl fi11 (subC c11 [1, 1, 1, 0, 1, 0, 0]) env os (kLoop nx (kBlock 0 (kSeq (exec (cx K) N nl fi11 (subC c11 [1, 1, 1, 1])) (fi11.jn 9) (kEnd tab [] nl rs11))))) m5 [(0, x0), (1, x1), (8, x8), (32, x32), (33, x33), (34, x34)] os
noncomputable def G11_5 (K : Nat → List SV → List SO → Out) (N nl : Nat) (m5 : Nat) (xs : List SV) (os : List SO) : Out := (fun env os nx => exec (cx K) N nl fi11 (subC c11 [1, 1, 1, 0, 1, 0, 0]) env os (kLoop nx (kBlock 0 (kSeq (exec (cx K) N nl fi11 (subC c11 [1, 1, 1, 1])) (fi11.jn 9) (kEnd tab [] nl rs11))))) (zipE [0, 1, 8, 32, 33, 34] xs) os (bk11_5 K N nl m5)
noncomputable def L11_11 (K : Nat → List SV → List SO → Out) (N nl : Nat) (m11 : Nat) (x0 x1 x8 x11 x12 : SV) (os : List SO) : Out := loopS nl (fi11.lp 11) (fun env os nx => exec (cx K) N nl fi11 (subC c11 [1, 1, 1, 1, 1, 0, 1, 0, 0]) env os (kLoop nx (kBlock 2 (kSeq (exec (cx K) N nl fi11 (subC c11 [1, 1, 1, 1, 1, 1])) (fi11.jn 23) (kEnd tab [] nl rs11))))) m11 [(0, x0), (1, x1), (8, x8), (11, x11), (12, x12)] os
noncomputable def G11_11 (K : Nat → List SV → List SO → Out) (N nl : Nat) (m11 : Nat) (xs : List SV) (os : List SO) : Out := (fun env os nx => exec (cx K) N nl fi11 (subC c11 [1, 1, 1, 1, 1, 0, 1, 0, 0]) env os (kLoop nx (kBlock 2 (kSeq (exec (cx K) N nl fi11 (subC c11 [1, 1, 1, 1, 1, 1])) (fi11.jn 23) (kEnd tab [] nl rs11))))) (zipE [0, 1, 8, 11, 12] xs) os (bk11_11 K N nl m11)
noncomputable def J11_12 (K : Nat → List SV → List SO → Out) (N nl : Nat) (m11 : Nat) (x0 x1 x8 x11 x12 : SV) (os : List SO) : Out := exec (cx K) N nl fi11 (subC c11 [1, 1, 1, 1, 1, 0, 1, 0, 0, 1, 1]) [(0, x0), (1, x1), (8, x8), (11, x11), (12, x12)] os (kLoop (bk11_11 K N nl m11) (kBlock 2 (kSeq (exec (cx K) N nl fi11 (subC c11 [1, 1, 1, 1, 1, 1])) (fi11.jn 23) (kEnd tab [] nl rs11))))
noncomputable def L11_18 (K : Nat → List SV → List SO → Out) (N nl : Nat) (m11 : Nat) (m18 : Nat) (x0 x1 x8 x11 x12 x13 x71 x72 x73 : SV) (os : List SO) : Out := loopS nl (fi11.lp 18) (fun env os nx => exec (cx K) N nl fi11 (subC c11 [1, 1, 1, 1, 1, 0, 1, 0, 0, 1, 0, 0, 1, 1, 1, 0, 1, 0, 0]) env os (kLoop nx (kBlock 4 (kSeq (exec (cx K) N nl fi11 (subC c11 [1, 1, 1, 1, 1, 0, 1, 0, 0, 1, 0, 0, 1, 1, 1, 1])) (fi11.jn 22) (kBlock 3 (kSeq (exec (cx K) N nl fi11 (subC c11 [1, 1, 1, 1, 1, 0, 1, 0, 0, 1, 1])) (fi11.jn 12) (kLoop (bk11_11 K N nl m11) (kBlock 2 (kSeq (exec (cx K) N nl fi11 (subC c11 [1, 1, 1, 1, 1, 1])) (fi11.jn 23) (kEnd tab [] nl rs11)))))))))) m18 [(0, x0), (1, x1), (8, x8), (11, x11), (12, x12), (13, x13), (71, x71), (72, x72), (73, x73)] os
noncomputable def G11_18 (K : Nat → List SV → List SO → Out) (N nl : Nat) (m11 : Nat) (m18 : Nat) (xs : List SV) (os : List SO) : Out := (fun env os nx => exec (cx K) N nl fi11 (subC c11 [1, 1, 1, 1, 1, 0, 1, 0, 0, 1, 0, 0, 1, 1, 1, 0, 1, 0, 0]) env os (kLoop nx (kBlock 4 (kSeq (exec (cx K) N nl fi11 (subC c11 [1, 1, 1, 1, 1, 0, 1, 0, 0, 1, 0, 0, 1, 1, 1, 1])) (fi11.jn 22) (kBlock 3 (kSeq (exec (cx K) N nl fi11 (subC c11 [1, 1, 1, 1, 1, 0, 1, 0, 0, 1, 1])) (fi11.jn 12) (kLoop (bk11_11 K N nl m11) (kBlock 2 (kSeq (exec (cx K) N nl fi11 (subC c11 [1, 1, 1, 1, 1, 1])) (fi11.jn 23) (kEnd tab [] nl rs11)))))))))) (zipE [0, 1, 8, 11, 12, 13, 71, 72, 73] xs) os (bk11_18 K N nl m11 m18)
noncomputable def GB11_5 (K : Nat → List SV → List SO → Out) (N nl : Nat) (m5 : Nat) (x0 x1 x8 x32 x33 x34 : SV) (os : List SO) : Out :=
 bd (ret1 (binS tab .lss 3 x34 x33) os) fun v15 o15 =>
 condS v15 (bd (ret1 (indexAddrS tab o15 23 x32 x34) o15) fun v16 o16 =>
 bd (ret1 (loadS tab o16 33 v16) o16) fun v17 o17 =>
 bd (allocS tab o17 33) fun v18 o18 =>
 bd (storeO tab o18 33 v18 (some v17)) fun v19 o19 =>
 bd (ret1 (fieldAddrS tab 33 v18 0) o19) fun v20 o20 =>
 bd (ret1 (loadS tab o20 3 v20) o20) fun v21 o21 =>
 bd (buildSliceS tab o21 48 1 [(0, v21)]) fun v22 o22 =>
 bd (appendS tab o22 48 48 x8 v22) fun v23 o23 =>
 bd (ret1 (binS tab .add 3 x34 (SV.v (.int .i64 1))) o23) fun v24 o24 =>
 L11_5 K N nl m5 x0 x1 v23 x32 x33 v24 o24)
 (bd (evN tab 23 o15 none) fun v25 o25 =>
 L11_11 K N nl N x0 x1 x8 v25 (SV.v (.int .i64 0)) o25)
noncomputable def GB11_11 (K : Nat → List SV → List SO → Out) (N nl : Nat) (m11 : Nat) (x0 x1 x8 x11 x12 : SV) (os : List SO) : Out :=
 bd (lenO tab 48 os x8) fun v26 o26 =>
 bd (ret1 (binS tab .lss 3 x12 v26) o26) fun v27 o27 =>
 condS v27 (bd (ret1 (sliceS tab o27 48 x8 none (some x12)) o27) fun v28 o28 =>
 bd (ret1 (indexAddrS tab o28 48 x8 x12) o28) fun v29 o29 =>
 bd (ret1 (loadS tab o29 3 v29) o29) fun v30 o30 =>
 bd (callS ⟨tab, ownF, K⟩ o30 27 [v28, v30]) fun v31 o31 =>
 condS v31 (J11_12 K N nl m11 x0 x1 x8 x11 x12 o31)
 (bd (ret1 (indexAddrS tab o31 48 x8 x12) o31) fun v32 o32 =>
 bd (ret1 (loadS tab o32 3 v32) o32) fun v33 o33 =>
 bd (callS ⟨tab, ownF, K⟩ o33 28 [x0, x1, v33]) fun v34 o34 =>
 bd (ret1 (extractS v34 0) o34) fun v35 o35 =>
 bd (ret1 (extractS v34 1) o35) fun v36 o36 =>
 bd (allocS tab o36 33) fun v37 o37 =>
 bd (storeO tab o37 33 v37 (some v35)) fun v38 o38 =>
 bd (ret1 (unS .not v36) o38) fun v39 o39 =>
 condS v39 (bd (evN tab 23 o39 none) fun v40 o40 =>
 retV tab nl o40 (resC1 (some v40) (resC1 (some (SV.v (.bool false))) (some []))))
 (bd (ret1 (fieldAddrS tab 33 v37 3) o39) fun v41 o41 =>
 bd (ret1 (loadS tab o41 31 v41) o41) fun v42 o42 =>
 bd (lenO tab 31 o42 v42) fun v43 o43 =>
 L11_18 K N nl m11 N x0 x1 x8 x11 x12 v37 v42 v43 (SV.v (.int .i64 0)) o43)))
 (bd (callS ⟨tab, ownF, K⟩ o27 14 [x11]) fun v44 o44 =>
 bd (ret1 (unS .not v44) o44) fun v45 o45 =>
 condS v45 (bd (evN tab 23 o45 none) fun v46 o46 =>
 retV tab nl o46 (resC1 (some v46) (resC1 (some (SV.v (.bool false))) (some []))))
 (retV tab nl o45 (resC1 (some x11) (resC1 (some (SV.v (.bool true))) (some [])))))
noncomputable def JB11_12 (K : Nat → List SV → List SO → Out) (N nl : Nat) (m11 : Nat) (x0 x1 x8 x11 x12 : SV) (os : List SO) : Out :=
 bd (ret1 (binS tab .add 3 x12 (SV.v (.int .i64 1))) os) fun v47 o47 =>
 L11_11 K N nl m11 x0 x1 x8 x11 v47 o47
noncomputable def GB11_18 (K : Nat → List SV → List SO → Out) (N nl : Nat) (m11 : Nat) (m18 : Nat) (x0 x1 x8 x11 x12 x13 x71 x72 x73 : SV) (os : List SO) : Out :=
 bd (ret1 (binS tab .lss 3 x73 x72) os) fun v48 o48 =>
 condS v48 (bd (ret1 (indexAddrS tab o48 31 x71 x73) o48) fun v49 o49 =>
 bd (ret1 (loadS tab o49 39 v49) o49) fun v50 o50 =>
 bd (allocS tab o50 39) fun v51 o51 =>
 bd (storeO tab o51 39 v51 (some v50)) fun v52 o52 =>
 bd (ret1 (fieldAddrS tab 39 v51 0) o52) fun v53 o53 =>
 bd (ret1 (loadS tab o53 3 v53) o53) fun v54 o54 =>
 bd (buildSliceS tab o54 48 1 [(0, v54)]) fun v55 o55 =>
 bd (appendS tab o55 48 48 x8 v55) fun v56 o56 =>
 bd (ret1 (binS tab .add 3 x73 (SV.v (.int .i64 1))) o56) fun v57 o57 =>
 L11_18 K N nl m11 m18 x0 x1 v56 x11 x12 x13 x71 x72 v57 o57)
 (bd (ret1 (loadS tab o48 33 x13) o48) fun v58 o58 =>
 bd (callS ⟨tab, ownF, K⟩ o58 29 [x11, v58]) fun v59 o59 =>
 bd (ret1 (extractS v59 0) o59) fun v60 o60 =>
 bd (ret1 (extractS v59 1) o60) fun v61 o61 =>
 J11_12 K N nl m11 x0 x1 x8 v60 x12 o61)
noncomputable def X11 (K : Nat → List SV → List SO → Out) (N nl : Nat) (x0 x1 x2 : SV) (os : List SO) : Out := exec (cx K) N nl fi11 c11 [(0, x0), (1, x1), (2, x2)] os (kEnd tab [] nl rs11)
noncomputable def B11 (K : Nat → List SV → List SO → Out) (N nl : Nat) (x0 x1 x2 : SV) (os : List SO) : Out :=
 bd (evN tab 23 os none) fun v1 o1 =>
 bd (callS ⟨tab, ownF, K⟩ o1 25 [x0]) fun v2 o2 =>
 bd (ret1 (unS .not v2) o2) fun v3 o3 =>
 bd (gd v3 false (some (x1, o3)) o3) fun v4 o4 =>
 bd (gd v3 false (callS ⟨tab, ownF, K⟩ o4 14 [v4]) o4) fun v5 o5 =>
 bd (gd v3 false (ret1 (unS .not v5) o5) o5) fun v6 o6 =>
 bd (ret1 (pickS v3 (SV.v (.bool true)) v6) o6) fun v7 o7 =>
 bd (gd v7 false (some (x2, o7)) o7) fun v8 o8 =>
 bd (gd v7 false (callS ⟨tab, ownF, K⟩ o8 26 [v8]) o8) fun v9 o9 =>
 bd (gd v7 false (ret1 (unS .not v9) o9) o9) fun v10 o10 =>
 bd (ret1 (pickS v7 (SV.v (.bool true)) v10) o10) fun v11 o11 =>
 condS v11 (bd (evN tab 23 o11 none) fun v12 o12 =>
 retV tab nl o12 (resC1 (some v12) (resC1 (some (SV.v (.bool false))) (some []))))
 (bd (buildSliceS tab o11 48 1 [(0, x2)]) fun v13 o13 =>
 bd (lenO tab 23 o13 x1) fun v14 o14 =>
 L11_5 K N nl N x0 x1 v13 x1 v14 (SV.v (.int .i64 0)) o14)
noncomputable def bk12_4 (K : Nat → List SV → List SO → Out) (N nl : Nat) (m4 : Nat) : Env → List SO → Out := fun env os => loopS nl (fi12.lp 4) (fun env os nx => exec (cx K) N nl fi12 (subC c12 [1, 1, 0, 1, 0, 0]) env os (kLoop nx (kBlock 0 (kSeq (exec (cx K) N nl fi12 (subC c12 [1, 1, 1])) (fi12.jn 8) (kEnd tab [] nl rs12))))) m4 (killS (fi12.lp 4).alive env) os
noncomputable def L12_4 (K : Nat → List SV → List SO → Out) (N nl : Nat) (m4 : Nat) (x0 x1 x5 : SV) (os : List SO) : Out := loopS nl (fi12.lp 4) (fun env os nx => exec (cx K) N nl fi12 (subC c12 [1, 1, 0, 1, 0, 0]) env os (kLoop nx (kBlock 0 (kSeq (exec (cx K) N nl fi12 (subC c12 [1, 1, 1])) (fi12.jn 8) (kEnd tab [] nl rs12))))) m4 [(0, x0), (1, x1), (5, x5)] os
noncomputable def LB12_4 (K : Nat → List SV → List SO → Out) (N nl : Nat) (m4 : Nat) (x0 x1 x5 : SV) (os : List SO) : Out :=
 bd (lenO tab 23 os x0) fun v4 o4 =>
 bd (ret1 (binS tab .lss 3 x5 v4) o4) fun v5 o5 =>
 condS v5 (bd (ret1 (indexAddrS tab o5 23 x0 x5) o5) fun v6 o6 =>
 bd (ret1 (loadS tab o6 33 v6) o6) fun v7 o7 =>
 bd (ret1 (indexAddrS tab o7 23 x1 x5) o7) fun v8 o8 =>
 bd (ret1 (loadS tab o8 33 v8) o8) fun v9 o9 =>
 bd (callS ⟨tab, ownF, K⟩ o9 30 [v7, v9]) fun v10 o10 =>
 bd (ret1 (unS .not v10) o10) fun v11 o11 =>
 condS v11 (retV tab nl o11 (resC1 (some (SV.v (.bool false))) (some [])))
 (bd (ret1 (binS tab .add 3 x5 (SV.v (.int .i64 1))) o11) fun v12 o12 =>
 L12_4 K N nl m4 x0 x1 v12 o12))
 (retV tab nl o5 (resC1 (some (SV.v (.bool true))) (some [])))
noncomputable def X12 (K : Nat → List SV → List SO → Out) (N nl : Nat) (x0 x1 : SV) (os : List SO) : Out := exec (cx K) N nl fi12 c12 [(0, x0), (1, x1)] os (kEnd tab [] nl rs12)
noncomputable def B12 (K : Nat → List SV → List SO → Out) (N nl : Nat) (x0 x1 : SV) (os : List SO) : Out :=
 bd (lenO tab 23 os x0) fun v1 o1 =>
 bd (lenO tab 23 o1 x1) fun v2 o2 =>
 bd (ret1 (binS tab .neq 3 v1 v2) o2) fun v3 o3 =>
 condS v3 (retV tab nl o3 (resC1 (some (SV.v (.bool false))) (some [])))
 (L12_4 K N nl N x0 x1 (SV.v (.int .i64 0)) o3)
noncomputable def X13 (K : Nat → List SV → List SO → Out) (N nl : Nat) (x0 x1 : SV) (os : List SO) : Out := exec (cx K) N nl fi13 c13 [(0, x0), (1, x1)] os (kEnd tab [] nl rs13)
noncomputable def B13 (K : Nat → List SV → List SO → Out) (N nl : Nat) (x0 x1 : SV) (os : List SO) : Out :=
 bd (allocS tab os 33) fun v1 o1 =>
 bd (callS ⟨tab, ownF, K⟩ o1 25 [x0]) fun v2 o2 =>
 bd (ret1 (unS .not v2) o2) fun v3 o3 =>
 bd (gd v3 false (some (x0, o3)) o3) fun v4 o4 =>
 bd (gd v3 false (some (x1, o4)) o4) fun v5 o5 =>
 bd (gd v3 false (callS ⟨tab, ownF, K⟩ o5 31 [v4, v5]) o5) fun v6 o6 =>
 bd (gd v3 false (ret1 (binS tab .lss 3 v6 (SV.v (.int .i64 0))) o6) o6) fun v7 o7 =>
 bd (ret1 (pickS v3 (SV.v (.bool true)) v7) o7) fun v8 o8 =>
 condS v8 (bd (buildS tab o8 33 []) fun v9 o9 =>
 bd (storeO tab o9 33 v1 (some v9)) fun v10 o10 =>
 retV tab nl o10 (resC1 (loadS tab o10 33 v1) (resC1 (some (SV.v (.bool false))) (some []))))
 (bd (callS ⟨tab, ownF, K⟩ o8 31 [x0, x1]) fun v11 o11 =>
 bd (ret1 (indexAddrS tab o11 23 x0 v11) o11) fun v12 o12 =>
 bd (ret1 (loadS tab o12 33 v12) o12) fun v13 o13 =>
 bd (callS ⟨tab, ownF, K⟩ o13 32 [v13]) fun v14 o14 =>
 bd (storeO tab o14 33 v1 (some v14)) fun v15 o15 =>
 retV tab nl o15 (resC1 (loadS tab o15 33 v1) (resC1 (some (SV.v (.bool true))) (some []))))
noncomputable def bk14_5 (K : Nat → List SV → List SO → Out) (N nl : Nat) (m5 : Nat) : Env → List SO → Out := fun env os => loopS nl (fi14.lp 5) (fun env os nx => exec (cx K) N nl fi14 (subC c14 [1, 1, 1, 0, 1, 0, 0]) env os (kLoop nx (kBlock 0 (kSeq (exec (cx K) N nl fi14 (subC c14 [1, 1, 1, 1])) (fi14.jn 17) (kEnd tab [] nl rs14))))) m5 (killS (fi14.lp 5).alive env) os
noncomputable def bk14_10 (K : Nat → List SV → List SO → Out) (N nl : Nat) (m5 : Nat) (m10 : Nat) : Env → List SO → Out := fun env os => loopS nl (fi14.lp 10) (fun env os nx => exec (cx K) N nl fi14 (subC c14 [1, 1, 1, 0, 1, 0, 0, 1, 1, 0, 0, 1, 1, 1, 0, 0]) env os (kLoop nx (kBlock 2 (kBlock 1 (kSeq (exec (cx K) N nl fi14 (subC c14 [1, 1, 1, 0, 1, 0, 0, 1, 1, 1])) (fi14.jn 16) (kLoop (bk14_5 K N nl m5) (kBlock 0 (kSeq (exec (cx K) N nl fi14 (subC c14 [1, 1, 1, 1])) (fi14.jn 17) (kEnd tab [] nl rs14))))))))) m10 (killS (fi14.lp 10).alive env) os
noncomputable def L14_5 (K : Nat → List SV → List SO → Out) (N nl : Nat) (m5 : Nat) (x1 x3 x11 x12 x13 : SV) (os : List SO) : Out := loopS nl (fi14.lp 5) (fun env os nx => exec (cx K) N nl fi14 (subC c14 [1, 1, 1, 0, 1, 0, 0]) env os (kLoop nx (kBlock 0 (kSeq (exec (cx K) N nl fi14 (subC c14 [1, 1, 1, 1])) (fi14.jn 17) (kEnd tab [] nl rs14))))) m5 [(1, x1), (3, x3), (11, x11), (12, x12), (13, x13)] os
noncomputable def G14_5 (K : Nat → List SV → List SO → Out) (N nl : Nat) (m5 : Nat) (xs : List SV) (os : List SO) : Out := (fun env os nx => exec (cx K) N nl fi14 (subC c14 [1, 1, 1, 0, 1, 0, 0]) env os (kLoop nx (kBlock 0 (kSeq (exec (cx K) N nl fi14 (subC c14 [1, 1, 1, 1])) (fi14.jn 17) (kEnd tab [] nl rs14))))) (zipE [1, 3, 11, 12, 13] xs) os (bk14_5 K N nl m5)
noncomputable def L14_10 (K : Nat → List SV → List SO → Out) (N nl : Nat) (m5 : Nat) (m10 : Nat) (x1 x3 x11 x12 x13 x38 x39 x40 : SV) (os : List SO) : Out := loopS nl (fi14.lp 10) (fun env os nx => exec (cx K) N nl fi14 (subC c14 [1, 1, 1, 0, 1, 0, 0, 1, 1, 0, 0, 1, 1, 1, 0, 0]) env os (kLoop nx (kBlock 2 (kBlock 1 (kSeq (exec (cx K) N nl fi14 (subC c14 [1, 1, 1, 0, 1, 0, 0, 1, 1, 1])) (fi14.jn 16) (kLoop (bk14_5 K N nl m5) (kBlock 0 (kSeq (exec (cx K) N nl fi14 (subC c14 [1, 1, 1, 1])) (fi14.jn 17) (kEnd tab [] nl rs14))))))))) m10 [(1, x1), (3, x3), (11, x11), (12, x12), (13, x13), (38, x38), (39, x39), (40, x40)] os
noncomputable def G14_10 (K : Nat → List SV → List SO → Out) (N nl : Nat) (m5 : Nat) (m10 : Nat) (xs : List SV) (os : List SO) : Out := (fun env os nx => exec (cx K) N nl fi14 (subC c14 [1, 1, 1, 0, 1, 0, 0, 1, 1, 0, 0, 1, 1, 1, 0, 0]) env os (kLoop nx (kBlock 2 (kBlock 1 (kSeq (exec (cx K) N nl fi14 (subC c14 [1, 1, 1, 0, 1, 0, 0, 1, 1, 1])) (fi14.jn 16) (kLoop (bk14_5 K N nl m5) (kBlock 0 (kSeq (exec (cx K) N nl fi14 (subC c14 [1, 1, 1, 1])) (fi14.jn 17) (kEnd tab [] nl rs14))))))))) (zipE [1, 3, 11, 12, 13, 38, 39, 40] xs) os (bk14_10 K N nl m5 m10)
noncomputable def GB14_5 (K : Nat → List SV → List SO → Out) (N nl : Nat) (m5 : Nat) (x1 x3 x11 x12 x13 : SV) (os : List SO) : Out :=
 bd (ret1 (binS tab .lss 3 x13 x12) os) fun v8 o8 =>
 condS v8 (bd (ret1 (indexAddrS tab o8 23 x11 x13) o8) fun v9 o9 =>
 bd (ret1 (loadS tab o9 33 v9) o9) fun v10 o10 =>
 bd (allocS tab o10 33) fun v11 o11 =>
 bd (storeO tab o11 33 v11 (some v10)) fun v12 o12 =>
 bd (ret1 (binS tab .gtr 3 x13 (SV.v (.int .i64 0))) o12) fun v13 o13 =>
 bd (gd v13 true (ret1 (loadS tab o13 23 x1) o13) o13) fun v14 o14 =>
 bd (gd v13 true (some (x13, o14)) o14) fun v15 o15 =>
 bd (gd v13 true (ret1 (binS tab .sub 3 v15 (SV.v (.int .i64 1))) o15) o15) fun v16 o16 =>
 bd (gd v13 true (ret1 (indexAddrS tab o16 23 v14 v16) o16) o16) fun v17 o17 =>
 bd (gd v13 true (ret1 (fieldAddrS tab 33 v17 0) o17) o17) fun v18 o18 =>
 bd (gd v13 true (ret1 (loadS tab o18 3 v18) o18) o18) fun v19 o19 =>
 bd (gd v13 true (ret1 (fieldAddrS tab 33 v11 0) o19) o19) fun v20 o20 =>
 bd (gd v13 true (ret1 (loadS tab o20 3 v20) o20) o20) fun v21 o21 =>
 bd (gd v13 true (ret1 (binS tab .eql 3 v19 v21) o21) o21) fun v22 o22 =>
 bd (ret1 (pickS v13 v22 (SV.v (.bool false))) o22) fun v23 o23 =>
 bd (gd v23 false (ret1 (fieldAddrS tab 33 v11 3) o23) o23) fun v24 o24 =>
 bd (gd v23 false (ret1 (loadS tab o24 31 v24) o24) o24) fun v25 o25 =>
 bd (gd v23 false (some ((SV.fn 34 [x1]), o25)) o25) fun v26 o26 =>
 bd (gd v23 false (callS ⟨tab, ownF, K⟩ o26 33 [v25, v26]) o26) fun v27 o27 =>
 bd (ret1 (pickS v23 (SV.v (.bool true)) v27) o27) fun v28 o28 =>
 condS v28 (retV tab nl o28 (resC1 (some (SV.v (.bool false))) (some [])))
 (bd (ret1 (fieldAddrS tab 33 v11 2) o28) fun v29 o29 =>
 bd (ret1 (loadS tab o29 30 v29) o29) fun v30 o30 =>
 bd (lenO tab 30 o30 v30) fun v31 o31 =>
 L14_10 K N nl m5 N x1 x3 x11 x12 x13 v30 v31 (SV.v (.int .i64 0)) o31))
 (retV tab nl o8 (resC1 (some (SV.v (.bool true))) (some [])))
noncomputable def GB14_10 (K : Nat → List SV → List SO → Out) (N nl : Nat) (m5 : Nat) (m10 : Nat) (x1 x3 x11 x12 x13 x38 x39 x40 : SV) (os : List SO) : Out :=
 bd (ret1 (binS tab .lss 3 x40 x39) os) fun v32 o32 =>
 condS v32 (bd (ret1 (indexAddrS tab o32 30 x38 x40) o32) fun v33 o33 =>
 bd (ret1 (loadS tab o33 60 v33) o33) fun v34 o34 =>
 bd (allocS tab o34 60) fun v35 o35 =>
 bd (storeO tab o35 60 v35 (some v34)) fun v36 o36 =>
 bd (ret1 (fieldAddrS tab 60 v35 0) o36) fun v37 o37 =>
 bd (ret1 (loadS tab o37 3 v37) o37) fun v38 o38 =>
 bd (ret1 (indexAddrS tab o38 55 x3 v38) o38) fun v39 o39 =>
 bd (ret1 (loadS tab o39 4 v39) o39) fun v40 o40 =>
 condS v40 (retV tab nl o40 (resC1 (some (SV.v (.bool false))) (some [])))
 (bd (ret1 (fieldAddrS tab 60 v35 0) o40) fun v41 o41 =>
 bd (ret1 (loadS tab o41 3 v41) o41) fun v42 o42 =>
 bd (ret1 (indexAddrS tab o42 55 x3 v42) o42) fun v43 o43 =>
 bd (storeO tab o43 4 v43 (some (SV.v (.bool true)))) fun v44 o44 =>
 bd (ret1 (binS tab .add 3 x40 (SV.v (.int .i64 1))) o44) fun v45 o45 =>
 L14_10 K N nl m5 m10 x1 x3 x11 x12 x13 x38 x39 v45 o45))
 (bd (ret1 (binS tab .add 3 x13 (SV.v (.int .i64 1))) o32) fun v46 o46 =>
 L14_5 K N nl m5 x1 x3 x11 x12 v46 o46)
noncomputable def X14 (K : Nat → List SV → List SO → Out) (N nl : Nat) (x0 : SV) (os : List SO) : Out := exec (cx K) N nl fi14 c14 [(0, x0)] os (kEnd tab [] nl rs14)
noncomputable def B14 (K : Nat → List SV → List SO → Out) (N nl : Nat) (x0 : SV) (os : List SO) : Out :=
 bd (boxS tab os 23 (some x0)) fun v1 o1 =>
 bd (ret1 (loadS tab o1 23 v1) o1) fun v2 o2 =>
 bd (callS ⟨tab, ownF, K⟩ o2 25 [v2]) fun v3 o3 =>
 bd (ret1 (unS .not v3) o3) fun v4 o4 =>
 condS v4 (retV tab nl o4 (resC1 (some (SV.v (.bool false))) (some [])))
 (bd (allocS tab o4 55) fun v5 o5 =>
 bd (ret1 (loadS tab o5 23 v1) o5) fun v6 o6 =>
 bd (lenO tab 23 o6 v6) fun v7 o7 =>
 L14_5 K N nl N v1 v5 v6 v7 (SV.v (.int .i64 0)) o7)
noncomputable def bk15_4 (K : Nat → List SV → List SO → Out) (N nl : Nat) (m4 : Nat) : Env → List SO → Out := fun env os => loopS nl (fi15.lp 4) (fun env os nx => exec (cx K) N nl fi15 (subC c15 [1, 1, 0, 1, 0, 0]) env os (kLoop nx (kBlock 0 (kSeq (exec (cx K) N nl fi15 (subC c15 [1, 1, 1])) (fi15.jn 16) (kEnd tab [] nl rs15))))) m4 (killS (fi15.lp 4).alive env) os
noncomputable def bk15_7 (K : Nat → List SV → List SO → Out) (N nl : Nat) (m4 : Nat) (m7 : Nat) : Env → List SO → Out := fun env os => loopS nl (fi15.lp 7) (fun env os nx => exec (cx K) N nl fi15 (subC c15 [1, 1, 0, 1, 0, 0, 1, 0, 0, 0, 1, 0, 0]) env os (kLoop nx (kBlock 2 (kSeq (exec (cx K) N nl fi15 (subC c15 [1, 1, 0, 1, 0, 0, 1, 0, 0, 1])) (fi15.jn 11) (kBlock 1 (kSeq (exec (cx K) N nl fi15 (subC c15 [1, 1, 0, 1, 0, 0, 1, 1])) (fi15.jn 5) (kLoop (bk15_4 K N nl m4) (kBlock 0 (kSeq (exec (cx K) N nl fi15 (subC c15 [1, 1, 1])) (fi15.jn 16) (kEnd tab [] nl rs15)))))))))) m7 (killS (fi15.lp 7).alive env) os
noncomputable def bk15_12 (K : Nat → List SV → List SO → Out) (N nl : Nat) (m4 : Nat) (m12 : Nat) : Env → List SO → Out := fun env os => loopS nl (fi15.lp 12) (fun env os nx => exec (cx K) N nl fi15 (subC c15 [1, 1, 0, 1, 0, 0, 1, 0, 0, 1, 1, 0, 0]) env os (kLoop nx (kBlock 4 (kBlock 1 (kSeq (exec (cx K) N nl fi15 (subC c15 [1, 1, 0, 1, 0, 0, 1, 1])) (fi15.jn 5) (kLoop (bk15_4 K N nl m4) (kBlock 0 (kSeq (exec (cx K) N nl fi15 (subC c15 [1, 1, 1])) (fi15.jn 16) (kEnd tab [] nl rs15))))))))) m12 (killS (fi15.lp 12).alive env) os
noncomputable def L15_4 (K : Nat → List SV → List SO → Out) (N nl : Nat) (m4 : Nat) (x0 x3 : SV) (os : List SO) : Out := loopS nl (fi15.lp 4) (fun env os nx => exec (cx K) N nl fi15 (subC c15 [1, 1, 0, 1, 0, 0]) env os (kLoop nx (kBlock 0 (kSeq (exec (cx K) N nl fi15 (subC c15 [1, 1, 1])) (fi15.jn 16) (kEnd tab [] nl rs15))))) m4 [(0, x0), (3, x3)] os
noncomputable def L15_7 (K : Nat → List SV → List SO → Out) (N nl : Nat) (m4 : Nat) (m7 : Nat) (x0 x3 x4 : SV) (os : List SO) : Out := loopS nl (fi15.lp 7) (fun env os nx => exec (cx K) N nl fi15 (subC c15 [1, 1, 0, 1, 0, 0, 1, 0, 0, 0, 1, 0, 0]) env os (kLoop nx (kBlock 2 (kSeq (exec (cx K) N nl fi15 (subC c15 [1, 1, 0, 1, 0, 0, 1, 0, 0, 1])) (fi15.jn 11) (kBlock 1 (kSeq (exec (cx K) N nl fi15 (subC c15 [1, 1, 0, 1, 0, 0, 1, 1])) (fi15.jn 5) (kLoop (bk15_4 K N nl m4) (kBlock 0 (kSeq (exec (cx K) N nl fi15 (subC c15 [1, 1, 1])) (fi15.jn 16) (kEnd tab [] nl rs15)))))))))) m7 [(0, x0), (3, x3), (4, x4)] os
noncomputable def L15_12 (K : Nat → List SV → List SO → Out) (N nl : Nat) (m4 : Nat) (m12 : Nat) (x0 x3 x5 : SV) (os : List SO) : Out := loopS nl (fi15.lp 12) (fun env os nx => exec (cx K) N nl fi15 (subC c15 [1, 1, 0, 1, 0, 0, 1, 0, 0, 1, 1, 0, 0]) env os (kLoop nx (kBlock 4 (kBlock 1 (kSeq (exec (cx K) N nl fi15 (subC c15 [1, 1, 0, 1, 0, 0, 1, 1])) (fi15.jn 5) (kLoop (bk15_4 K N nl m4) (kBlock 0 (kSeq (exec (cx K) N nl fi15 (subC c15 [1, 1, 1])) (fi15.jn 16) (kEnd tab [] nl rs15))))))))) m12 [(0, x0), (3, x3), (5, x5)] os
noncomputable def LB15_4 (K : Nat → List SV → List SO → Out) (N nl : Nat) (m4 : Nat) (x0 x3 : SV) (os : List SO) : Out :=
 bd (lenO tab 23 os x0) fun v7 o7 =>
 bd (ret1 (binS tab .lss 3 x3 v7) o7) fun v8 o8 =>
 condS v8 (L15_7 K N nl m4 N x0 x3 (SV.v (.int .i64 0)) o8)
 (retV tab nl o8 (resC1 (some (SV.v (.bool true))) (some [])))
noncomputable def LB15_7 (K : Nat → List SV → List SO → Out) (N nl : Nat) (m4 : Nat) (m7 : Nat) (x0 x3 x4 : SV) (os : List SO) : Out :=
 bd (ret1 (indexAddrS tab os 23 x0 x3) os) fun v9 o9 =>
 bd (ret1 (fieldAddrS tab 33 v9 3) o9) fun v10 o10 =>
 bd (ret1 (loadS tab o10 31 v10) o10) fun v11 o11 =>
 bd (lenO tab 31 o11 v11) fun v12 o12 =>
 bd (ret1 (binS tab .lss 3 x4 v12) o12) fun v13 o13 =>
 condS v13 (bd (ret1 (indexAddrS tab o13 23 x0 x3) o13) fun v14 o14 =>
 bd (ret1 (fieldAddrS tab 33 v14 3) o14) fun v15 o15 =>
 bd (ret1 (loadS tab o15 31 v15) o15) fun v16 o16 =>
 bd (ret1 (indexAddrS tab o16 31 v16 x4) o16) fun v17 o17 =>
 bd (ret1 (loadS tab o17 39 v17) o17) fun v18 o18 =>
 bd (callS ⟨tab, ownF, K⟩ o18 37 [x0, v18]) fun v19 o19 =>
 bd (ret1 (unS .not v19) o19) fun v20 o20 =>
 condS v20 (retV tab nl o20 (resC1 (some (SV.v (.bool false))) (some [])))
 (bd (ret1 (binS tab .add 3 x4 (SV.v (.int .i64 1))) o20) fun v21 o21 =>
 L15_7 K N nl m4 m7 x0 x3 v21 o21))
 (L15_12 K N nl m4 N x0 x3 (SV.v (.int .i64 0)) o13)
noncomputable def LB15_12 (K : Nat → List SV → List SO → Out) (N nl : Nat) (m4 : Nat) (m12 : Nat) (x0 x3 x5 : SV) (os : List SO) : Out :=
 bd (ret1 (indexAddrS tab os 23 x0 x3) os) fun v22 o22 =>
 bd (ret1 (fieldAddrS tab 33 v22 2) o22) fun v23 o23 =>
 bd (ret1 (loadS tab o23 30 v23) o23) fun v24 o24 =>
 bd (lenO tab 30 o24 v24) fun v25 o25 =>
 bd (ret1 (binS tab .lss 3 x5 v25) o25) fun v26 o26 =>
 condS v26 (bd (ret1 (indexAddrS tab o26 23 x0 x3) o26) fun v27 o27 =>
 bd (ret1 (fieldAddrS tab 33 v27 2) o27) fun v28 o28 =>
 bd (ret1 (loadS tab o28 30 v28) o28) fun v29 o29 =>
 bd (ret1 (indexAddrS tab o29 30 v29 x5) o29) fun v30 o30 =>
 bd (ret1 (fieldAddrS tab 60 v30 0) o30) fun v31 o31 =>
 bd (ret1 (loadS tab o31 3 v31) o31) fun v32 o32 =>
 bd (callS ⟨tab, ownF, K⟩ o32 38 [x0, x3, v32]) fun v33 o33 =>
 bd (ret1 (binS tab .geq 3 v33 (SV.v (.int .i64 0))) o33) fun v34 o34 =>
 condS v34 (retV tab nl o34 (resC1 (some (SV.v (.bool false))) (some [])))
 (bd (ret1 (binS tab .add 3 x5 (SV.v (.int .i64 1))) o34) fun v35 o35 =>
 L15_12 K N nl m4 m12 x0 x3 v35 o35))
 (bd (ret1 (binS tab .add 3 x3 (SV.v (.int .i64 1))) o26) fun v36 o36 =>
 L15_4 K N nl m4 x0 v36 o36)
noncomputable def X15 (K : Nat → List SV → List SO → Out) (N nl : Nat) (x0 : SV) (os : List SO) : Out := exec (cx K) N nl fi15 c15 [(0, x0)] os (kEnd tab [] nl rs15)
noncomputable def B15 (K : Nat → List SV → List SO → Out) (N nl : Nat) (x0 : SV) (os : List SO) : Out :=
 bd (callS ⟨tab, ownF, K⟩ os 22 [x0]) fun v1 o1 =>
 bd (ret1 (unS .not v1) o1) fun v2 o2 =>
 bd (gd v2 false (some (x0, o2)) o2) fun v3 o3 =>
 bd (gd v2 false (callS ⟨tab, ownF, K⟩ o3 36 [v3]) o3) fun v4 o4 =>
 bd (gd v2 false (ret1 (unS .not v4) o4) o4) fun v5 o5 =>
 bd (ret1 (pickS v2 (SV.v (.bool true)) v5) o5) fun v6 o6 =>
 condS v6 (retV tab nl o6 (resC1 (some (SV.v (.bool false))) (some [])))
 (L15_4 K N nl N x0 (SV.v (.int .i64 0)) o6)
noncomputable def bk16_2 (K : Nat → List SV → List SO → Out) (N nl : Nat) (m2 : Nat) : Env → List SO → Out := fun env os => loopS nl (fi16.lp 2) (fun env os nx => exec (cx K) N nl fi16 (subC c16 [1, 0, 1, 0, 0]) env os (kLoop nx (kBlock 0 (kSeq (exec (cx K) N nl fi16 (subC c16 [1, 1])) (fi16.jn 6) (kEnd tab [] nl rs16))))) m2 (killS (fi16.lp 2).alive env) os
noncomputable def L16_2 (K : Nat → List SV → List SO → Out) (N nl : Nat) (m2 : Nat) (x0 x3 x5 : SV) (os : List SO) : Out := loopS nl (fi16.lp 2) (fun env os nx => exec (cx K) N nl fi16 (subC c16 [1, 0, 1, 0, 0]) env os (kLoop nx (kBlock 0 (kSeq (exec (cx K) N nl fi16 (subC c16 [1, 1])) (fi16.jn 6) (kEnd tab [] nl rs16))))) m2 [(0, x0), (3, x3), (5, x5)] os
noncomputable def LB16_2 (K : Nat → List SV → List SO → Out) (N nl : Nat) (m2 : Nat) (x0 x3 x5 : SV) (os : List SO) : Out :=
 bd (lenO tab 23 os x0) fun v2 o2 =>
 bd (ret1 (binS tab .lss 3 x5 v2) o2) fun v3 o3 =>
 condS v3 (bd (ret1 (indexAddrS tab o3 23 x0 x5) o3) fun v4 o4 =>
 bd (ret1 (loadS tab o4 33 v4) o4) fun v5 o5 =>
 bd (ret1 (loadS tab o5 33 x3) o5) fun v6 o6 =>
 bd (callS ⟨tab, ownF, K⟩ o6 30 [v5, v6]) fun v7 o7 =>
 condS v7 (retV tab nl o7 (resC1 (some (SV.v (.bool true))) (some [])))
 (bd (ret1 (binS tab .add 3 x5 (SV.v (.int .i64 1))) o7) fun v8 o8 =>
 L16_2 K N nl m2 x0 x3 v8 o8))
 (retV tab nl o3 (resC1 (some (SV.v (.bool false))) (some [])))
noncomputable def X16 (K : Nat → List SV → List SO → Out) (N nl : Nat) (x0 x1 : SV) (os : List SO) : Out := exec (cx K) N nl fi16 c16 [(0, x0), (1, x1)] os (kEnd tab [] nl rs16)
noncomputable def B16 (K : Nat → List SV → List SO → Out) (N nl : Nat) (x0 x1 : SV) (os : List SO) : Out :=
 bd (boxS tab os 33 (some x1)) fun v1 o1 =>
 L16_2 K N nl N x0 v1 (SV.v (.int .i64 0)) o1
noncomputable def J17_3 (K : Nat → List SV → List SO → Out) (N nl : Nat) (x0 : SV) (os : List SO) : Out := exec (cx K) N nl fi17 (subC c17 [1, 1]) [(0, x0)] os (kEnd tab [] nl rs17)
noncomputable def JB17_3 (K : Nat → List SV → List SO → Out) (N nl : Nat) (x0 : SV) (os : List SO) : Out :=
 bd (buildS tab os 63 [(0, (some x0))]) fun v4 o4 =>
 bd (boxS tab o4 63 (some v4)) fun v5 o5 =>
 retV tab nl o5 (resC1 (some v5) (some []))
noncomputable def X17 (K : Nat → List SV → List SO → Out) (N nl : Nat) (x0 : SV) (os : List SO) : Out := exec (cx K) N nl fi17 c17 [(0, x0)] os (kEnd tab [] nl rs17)
noncomputable def B17 (K : Nat → List SV → List SO → Out) (N nl : Nat) (x0 : SV) (os : List SO) : Out :=
 bd (lenO tab 22 os x0) fun v1 o1 =>
 bd (ret1 (binS tab .gtr 3 v1 (SV.v (.int .i64 2000))) o1) fun v2 o2 =>
 condS v2 (bd (ret1 (sliceS tab o2 22 x0 none (some (SV.v (.int .i64 2000)))) o2) fun v3 o3 =>
 J17_3 K N nl v3 o3)
 (J17_3 K N nl x0 o2)
noncomputable def J18_8 (K : Nat → List SV → List SO → Out) (N nl : Nat) (x3 : SV) (os : List SO) : Out := exec (cx K) N nl fi18 (subC c18 [1, 1, 1]) [(3, x3)] os (kEnd tab [] nl rs18)
noncomputable def JB18_8 (K : Nat → List SV → List SO → Out) (N nl : Nat) (x3 : SV) (os : List SO) : Out :=
 retV tab nl os (resC1 (some x3) (some []))
noncomputable def X18 (K : Nat → List SV → List SO → Out) (N nl : Nat) (x0 : SV) (os : List SO) : Out := exec (cx K) N nl fi18 c18 [(0, x0)] os (kEnd tab [] nl rs18)
noncomputable def B18 (K : Nat → List SV → List SO → Out) (N nl : Nat) (x0 : SV) (os : List SO) : Out :=
 bd (evN tab 23 os none) fun v1 o1 =>
 bd (callS ⟨tab, ownF, K⟩ o1 20 [x0]) fun v2 o2 =>
 bd (callS ⟨tab, ownF, K⟩ o2 21 [x0, (SV.v (.int .i64 20))]) fun v3 o3 =>
 bd (ret1 (binS tab .eql 3 v3 (SV.v (.int .i64 0))) o3) fun v4 o4 =>
 condS v4 (bd (callS ⟨tab, ownF, K⟩ o4 39 [x0]) fun v5 o5 =>
 bd (buildSliceS tab o5 23 1 [(0, v5)]) fun v6 o6 =>
 bd (appendS tab o6 23 23 v2 v6) fun v7 o7 =>
 J18_8 K N nl v7 o7)
 (bd (ret1 (binS tab .eql 3 v3 (SV.v (.int .i64 1))) o4) fun v8 o8 =>
 condS v8 (bd (lenO tab 23 o8 v2) fun v9 o9 =>
 bd (ret1 (binS tab .gtr 3 v9 (SV.v (.int .i64 0))) o9) fun v10 o10 =>
 condS v10 (bd (lenO tab 23 o10 v2) fun v11 o11 =>
 bd (callS ⟨tab, ownF, K⟩ o11 21 [x0, v11]) fun v12 o12 =>
 bd (callS ⟨tab, ownF, K⟩ o12 39 [x0]) fun v13 o13 =>
 bd (ret1 (indexAddrS tab o13 23 v2 v12) o13) fun v14 o14 =>
 bd (storeO tab o14 33 v14 (some v13)) fun v15 o15 =>
 J18_8 K N nl v2 o15)
 (J18_8 K N nl v2 o10))
 (J18_8 K N nl v2 o8))
noncomputable def bk19_3 (K : Nat → List SV → List SO → Out) (N nl : Nat) (m3 : Nat) : Env → List SO → Out := fun env os => loopS nl (fi19.lp 3) (fun env os nx => exec (cx K) N nl fi19 (subC c19 [1, 1, 0, 1, 0, 0]) env os (kLoop nx (kBlock 0 (kSeq (exec (cx K) N nl fi19 (subC c19 [1, 1, 1])) (fi19.jn 8) (kEnd tab [0] nl rs19))))) m3 (killS (fi19.lp 3).alive env) os
noncomputable def L19_3 (K : Nat → List SV → List SO → Out) (N nl : Nat) (m3 : Nat) (x0 x1 x5 x6 : SV) (os : List SO) : Out := loopS nl (fi19.lp 3) (fun env os nx => exec (cx K) N nl fi19 (subC c19 [1, 1, 0, 1, 0, 0]) env os (kLoop nx (kBlock 0 (kSeq (exec (cx K) N nl fi19 (subC c19 [1, 1, 1])) (fi19.jn 8) (kEnd tab [0] nl rs19))))) m3 [(0, x0), (1, x1), (5, x5), (6, x6)] os
noncomputable def G19_3 (K : Nat → List SV → List SO → Out) (N nl : Nat) (m3 : Nat) (xs : List SV) (os : List SO) : Out := (fun env os nx => exec (cx K) N nl fi19 (subC c19 [1, 1, 0, 1, 0, 0]) env os (kLoop nx (kBlock 0 (kSeq (exec (cx K) N nl fi19 (subC c19 [1, 1, 1])) (fi19.jn 8) (kEnd tab [0] nl rs19))))) (zipE [0, 1, 5, 6] xs) os (bk19_3 K N nl m3)
noncomputable def J19_4 (K : Nat → List SV → List SO → Out) (N nl : Nat) (m3 : Nat) (x0 x1 x5 x6 : SV) (os : List SO) : Out := exec (cx K) N nl fi19 (subC c19 [1, 1, 0, 1, 0, 0, 1, 1]) [(0, x0), (1, x1), (5, x5), (6, x6)] os (kLoop (bk19_3 K N nl m3) (kBlock 0 (kSeq (exec (cx K) N nl fi19 (subC c19 [1, 1, 1])) (fi19.jn 8) (kEnd tab [0] nl rs19))))
noncomputable def GB19_3 (K : Nat → List SV → List SO → Out) (N nl : Nat) (m3 : Nat) (x0 x1 x5 x6 : SV) (os : List SO) : Out :=
 bd (ret1 (binS tab .gtr 3 x6 (SV.v (.int .i64 0))) os) fun v4 o4 =>
 condS v4 (bd (callS ⟨tab, ownF, K⟩ o4 21 [x0, (SV.v (.int .i64 4))]) fun v5 o5 =>
 bd (ret1 (binS tab .add 3 (SV.v (.int .i64 1)) v5) o5) fun v6 o6 =>
 bd (callS ⟨tab, ownF, K⟩ o6 24 [x1, x5, v6]) fun v7 o7 =>
 bd (ret1 (extractS v7 0) o7) fun v8 o8 =>
 bd (ret1 (extractS v7 1) o8) fun v9 o9 =>
 condS v9 (J19_4 K N nl m3 x0 x1 v8 x6 o9)
 (J19_4 K N nl m3 x0 x1 x5 x6 o9))
 (retP tab [0] nl o4 (resC1 (some x5) (some [])))
noncomputable def JB19_4 (K : Nat → List SV → List SO → Out) (N nl : Nat) (m3 : Nat) (x0 x1 x5 x6 : SV) (os : List SO) : Out :=
 bd (ret1 (binS tab .sub 3 x6 (SV.v (.int .i64 1))) os) fun v10 o10 =>
 L19_3 K N nl m3 x0 x1 x5 v10 o10
noncomputable def X19 (K : Nat → List SV → List SO → Out) (N nl : Nat) (x0 x1 : SV) (os : List SO) : Out := exec (cx K) N nl fi19 c19 [(0, x0), (1, x1)] os (kEnd tab [0] nl rs19)
noncomputable def B19 (K : Nat → List SV → List SO → Out) (N nl : Nat) (x0 x1 : SV) (os : List SO) : Out :=
 bd (evN tab 23 os none) fun v1 o1 =>
 bd (buildSliceS tab o1 23 0 []) fun v2 o2 =>
 bd (callS ⟨tab, ownF, K⟩ o2 21 [x0, (SV.v (.int .i64 3))]) fun v3 o3 =>
 L19_3 K N nl N x0 x1 v2 v3 o3
noncomputable def bk20_3 (K : Nat → List SV → List SO → Out) (N nl : Nat) (m3 : Nat) : Env → List SO → Out := fun env os => loopS nl (fi20.lp 3) (fun env os nx => exec (cx K) N nl fi20 (subC c20 [1, 1, 0, 1, 0, 0]) env os (kLoop nx (kBlock 0 (kSeq (exec (cx K) N nl fi20 (subC c20 [1, 1, 1])) (fi20.jn 8) (kEnd tab [] nl rs20))))) m3 (killS (fi20.lp 3).alive env) os
noncomputable def L20_3 (K : Nat → List SV → List SO → Out) (N nl : Nat) (m3 : Nat) (x0 x3 x4 : SV) (os : List SO) : Out := loopS nl (fi20.lp 3) (fun env os nx => exec (cx K) N nl fi20 (subC c20 [1, 1, 0, 1, 0, 0]) env os (kLoop nx (kBlock 0 (kSeq (exec (cx K) N nl fi20 (subC c20 [1, 1, 1])) (fi20.jn 8) (kEnd tab [] nl rs20))))) m3 [(0, x0), (3, x3), (4, x4)] os
noncomputable def G20_3 (K : Nat → List SV → List SO → Out) (N nl : Nat) (m3 : Nat) (xs : List SV) (os : List SO) : Out := (fun env os nx => exec (cx K) N nl fi20 (subC c20 [1, 1, 0, 1, 0, 0]) env os (kLoop nx (kBlock 0 (kSeq (exec (cx K) N nl fi20 (subC c20 [1, 1, 1])) (fi20.jn 8) (kEnd tab [] nl rs20))))) (zipE [0, 3, 4] xs) os (bk20_3 K N nl m3)
noncomputable def J20_4 (K : Nat → List SV → List SO → Out) (N nl : Nat) (m3 : Nat) (x0 x3 x4 : SV) (os : List SO) : Out := exec (cx K) N nl fi20 (subC c20 [1, 1, 0, 1, 0, 0, 1, 1]) [(0, x0), (3, x3), (4, x4)] os (kLoop (bk20_3 K N nl m3) (kBlock 0 (kSeq (exec (cx K) N nl fi20 (subC c20 [1, 1, 1])) (fi20.jn 8) (kEnd tab [] nl rs20))))
noncomputable def GB20_3 (K : Nat → List SV → List SO → Out) (N nl : Nat) (m3 : Nat) (x0 x3 x4 : SV) (os : List SO) : Out :=
 bd (ret1 (binS tab .gtr 3 x4 (SV.v (.int .i64 0))) os) fun v4 o4 =>
 condS v4 (bd (callS ⟨tab, ownF, K⟩ o4 21 [x0, (SV.v (.int .i64 4))]) fun v5 o5 =>
 bd (ret1 (binS tab .add 3 (SV.v (.int .i64 1)) v5) o5) fun v6 o6 =>
 bd (callS ⟨tab, ownF, K⟩ o6 21 [x0, (SV.v (.int .i64 3))]) fun v7 o7 =>
 bd (ret1 (binS tab .add 3 (SV.v (.int .i64 1)) v7) o7) fun v8 o8 =>
 bd (callS ⟨tab, ownF, K⟩ o8 40 [x0, v6, v8]) fun v9 o9 =>
 bd (allocS tab o9 33) fun v10 o10 =>
 bd (storeO tab o10 33 v10 (some v9)) fun v11 o11 =>
 bd (ret1 (fieldAddrS tab 33 v10 0) o11) fun v12 o12 =>
 bd (ret1 (loadS tab o12 3 v12) o12) fun v13 o13 =>
 bd (ret1 (fieldAddrS tab 33 v10 1) o13) fun v14 o14 =>
 bd (ret1 (loadS tab o14 3 v14) o14) fun v15 o15 =>
 bd (callS ⟨tab, ownF, K⟩ o15 41 [x3, v13, v15]) fun v16 o16 =>
 bd (ret1 (binS tab .lss 3 v16 (SV.v (.int .i64 0))) o16) fun v17 o17 =>
 condS v17 (bd (ret1 (loadS tab o17 33 v10) o17) fun v18 o18 =>
 bd (callS ⟨tab, ownF, K⟩ o18 42 [x3, v18]) fun v19 o19 =>
 J20_4 K N nl m3 x0 v19 x4 o19)
 (J20_4 K N nl m3 x0 x3 x4 o17))
 (retV tab nl o4 (resC1 (some x3) (some [])))
noncomputable def JB20_4 (K : Nat → List SV → List SO → Out) (N nl : Nat) (m3 : Nat) (x0 x3 x4 : SV) (os : List SO) : Out :=
 bd (ret1 (binS tab .sub 3 x4 (SV.v (.int .i64 1))) os) fun v20 o20 =>
 L20_3 K N nl m3 x0 x3 v20 o20
noncomputable def X20 (K : Nat → List SV → List SO → Out) (N nl : Nat) (x0 : SV) (os : List SO) : Out := exec (cx K) N nl fi20 c20 [(0, x0)] os (kEnd tab [] nl rs20)
noncomputable def B20 (K : Nat → List SV → List SO → Out) (N nl : Nat) (x0 : SV) (os : List SO) : Out :=
 bd (evN tab 23 os none) fun v1 o1 =>
 bd (buildSliceS tab o1 23 0 []) fun v2 o2 =>
 bd (callS ⟨tab, ownF, K⟩ o2 21 [x0, (SV.v (.int .i64 8))]) fun v3 o3 =>
 L20_3 K N nl N x0 v2 v3 o3
noncomputable def X21 (K : Nat → List SV → List SO → Out) (N nl : Nat) (x0 x1 : SV) (os : List SO) : Out := exec (cx K) N nl fi21 c21 [(0, x0), (1, x1)] os (kEnd tab [] nl rs21)
noncomputable def B21 (K : Nat → List SV → List SO → Out) (N nl : Nat) (x0 x1 : SV) (os : List SO) : Out :=
 bd (ret1 (nilS x0) os) fun v1 o1 =>
 bd (ret1 (fieldAddrS tab 63 v1 1) o1) fun v2 o2 =>
 bd (ret1 (loadS tab o2 3 v2) o2) fun v3 o3 =>
 bd (ret1 (binS tab .add 3 v3 (SV.v (.int .i64 1))) o3) fun v4 o4 =>
 bd (ret1 (nilS x0) o4) fun v5 o5 =>
 bd (ret1 (fieldAddrS tab 63 v5 1) o5) fun v6 o6 =>
 bd (storeO tab o6 3 v6 (some v4)) fun v7 o7 =>
 bd (ret1 (binS tab .lss 3 x1 (SV.v (.int .i64 1))) o7) fun v8 o8 =>
 bd (gd v8 false (some (x0, o8)) o8) fun v9 o9 =>
 bd (gd v8 false (ret1 (nilS v9) o9) o9) fun v10 o10 =>
 bd (gd v8 false (ret1 (fieldAddrS tab 63 v10 0) o10) o10) fun v11 o11 =>
 bd (gd v8 false (ret1 (loadS tab o11 22 v11) o11) o11) fun v12 o12 =>
 bd (gd v8 false (lenO tab 22 o12 v12) o12) fun v13 o13 =>
 bd (gd v8 false (ret1 (binS tab .eql 3 v13 (SV.v (.int .i64 0))) o13) o13) fun v14 o14 =>
 bd (ret1 (pickS v8 (SV.v (.bool true)) v14) o14) fun v15 o15 =>
 condS v15 (retV tab nl o15 (resC1 (some (SV.v (.int .i64 0))) (some [])))
 (bd (ret1 (nilS x0) o15) fun v16 o16 =>
 bd (ret1 (fieldAddrS tab 63 v16 1) o16) fun v17 o17 =>
 bd (ret1 (loadS tab o17 3 v17) o17) fun v18 o18 =>
 bd (ret1 (binS tab .sub 3 v18 (SV.v (.int .i64 1))) o18) fun v19 o19 =>
 bd (ret1 (nilS x0) o19) fun v20 o20 =>
 bd (ret1 (fieldAddrS tab 63 v20 0) o20) fun v21 o21 =>
 bd (ret1 (loadS tab o21 22 v21) o21) fun v22 o22 =>
 bd (lenO tab 22 o22 v22) fun v23 o23 =>
 bd (ret1 (binS tab .lss 3 v19 v23) o23) fun v24 o24 =>
 condS v24 (bd (ret1 (nilS x0) o24) fun v25 o25 =>
 bd (ret1 (fieldAddrS tab 63 v25 0) o25) fun v26 o26 =>
 bd (ret1 (loadS tab o26 22 v26) o26) fun v27 o27 =>
 bd (ret1 (indexAddrS tab o27 22 v27 v19) o27) fun v28 o28 =>
 bd (ret1 (loadS tab o28 5 v28) o28) fun v29 o29 =>
 bd (convS tab o29 5 3 v29) fun v30 o30 =>
 bd (ret1 (binS tab .rem 3 v30 x1) o30) fun v31 o31 =>
 retV tab nl o31 (resC1 (some v31) (some [])))
 (bd (ret1 (nilS x0) o24) fun v32 o32 =>
 bd (ret1 (fieldAddrS tab 63 v32 0) o32) fun v33 o33 =>
 bd (ret1 (loadS tab o33 22 v33) o33) fun v34 o34 =>
 bd (ret1 (nilS x0) o34) fun v35 o35 =>
 bd (ret1 (fieldAddrS tab 63 v35 0) o35) fun v36 o36 =>
 bd (ret1 (loadS tab o36 22 v36) o36) fun v37 o37 =>
 bd (lenO tab 22 o37 v37) fun v38 o38 =>
 bd (ret1 (binS tab .rem 3 v19 v38) o38) fun v39 o39 =>
 bd (ret1 (indexAddrS tab o39 22 v34 v39) o39) fun v40 o40 =>
 bd (ret1 (loadS tab o40 5 v40) o40) fun v41 o41 =>
 bd (convS tab o41 5 3 v41) fun v42 o42 =>
 bd (ret1 (binS tab .mul 3 v42 (SV.v (.int .i64 131))) o42) fun v43 o43 =>
 bd (ret1 (nilS x0) o43) fun v44 o44 =>
 bd (ret1 (fieldAddrS tab 63 v44 0) o44) fun v45 o45 =>
 bd (ret1 (loadS tab o45 22 v45) o45) fun v46 o46 =>
 bd (ret1 (binS tab .mul 3 v19 (SV.v (.int .i64 7))) o46) fun v47 o47 =>
 bd (ret1 (binS tab .add 3 v47 (SV.v (.int .i64 3))) o47) fun v48 o48 =>
 bd (ret1 (nilS x0) o48) fun v49 o49 =>
 bd (ret1 (fieldAddrS tab 63 v49 0) o49) fun v50 o50 =>
 bd (ret1 (loadS tab o50 22 v50) o50) fun v51 o51 =>
 bd (lenO tab 22 o51 v51) fun v52 o52 =>
 bd (ret1 (binS tab .rem 3 v48 v52) o52) fun v53 o53 =>
 bd (ret1 (indexAddrS tab o53 22 v46 v53) o53) fun v54 o54 =>
 bd (ret1 (loadS tab o54 5 v54) o54) fun v55 o55 =>
 bd (convS tab o55 5 3 v55) fun v56 o56 =>
 bd (ret1 (binS tab .mul 3 v56 (SV.v (.int .i64 1117))) o56) fun v57 o57 =>
 bd (ret1 (binS tab .add 3 v43 v57) o57) fun v58 o58 =>
 bd (ret1 (binS tab .mul 3 v19 (SV.v (.int .i64 29))) o58) fun v59 o59 =>
 bd (ret1 (binS tab .add 3 v58 v59) o59) fun v60 o60 =>
 bd (ret1 (nilS x0) o60) fun v61 o61 =>
 bd (ret1 (fieldAddrS tab 63 v61 0) o61) fun v62 o62 =>
 bd (ret1 (loadS tab o62 22 v62) o62) fun v63 o63 =>
 bd (lenO tab 22 o63 v63) fun v64 o64 =>
 bd (ret1 (binS tab .quo 3 v19 v64) o64) fun v65 o65 =>
 bd (ret1 (binS tab .mul 3 v65 (SV.v (.int .i64 53))) o65) fun v66 o66 =>
 bd (ret1 (binS tab .add 3 v60 v66) o66) fun v67 o67 =>
 bd (ret1 (binS tab .quo 3 v67 (SV.v (.int .i64 64))) o67) fun v68 o68 =>
 bd (ret1 (binS tab .xor 3 v67 v68) o68) fun v69 o69 =>
 bd (ret1 (binS tab .rem 3 v69 x1) o69) fun v70 o70 =>
 retV tab nl o70 (resC1 (some v70) (some []))))
noncomputable def X22 (K : Nat → List SV → List SO → Out) (N nl : Nat) (x0 : SV) (os : List SO) : Out := exec (cx K) N nl fi22 c22 [(0, x0)] os (kEnd tab [] nl rs22)
noncomputable def B22 (K : Nat → List SV → List SO → Out) (N nl : Nat) (x0 : SV) (os : List SO) : Out :=
 bd (callS ⟨tab, ownF, K⟩ os 43 [x0]) fun v1 o1 =>
 retV tab nl o1 (resC1 (some v1) (some []))
noncomputable def X23 (K : Nat → List SV → List SO → Out) (N nl : Nat) (x0 x1 x2 : SV) (os : List SO) : Out := exec (cx K) N nl fi23 c23 [(0, x0), (1, x1), (2, x2)] os (kEnd tab [] nl rs23)
noncomputable def B23 (K : Nat → List SV → List SO → Out) (N nl : Nat) (x0 x1 x2 : SV) (os : List SO) : Out :=
 bd (ret1 (binS tab .geq 3 x0 x1) os) fun v1 o1 =>
 bd (gd v1 true (some (x0, o1)) o1) fun v2 o2 =>
 bd (gd v1 true (some (x2, o2)) o2) fun v3 o3 =>
 bd (gd v1 true (ret1 (binS tab .leq 3 v2 v3) o3) o3) fun v4 o4 =>
 bd (ret1 (pickS v1 v4 (SV.v (.bool false))) o4) fun v5 o5 =>
 retV tab nl o5 (resC1 (some v5) (some []))
noncomputable def bk24_4 (K : Nat → List SV → List SO → Out) (N nl : Nat) (m4 : Nat) : Env → List SO → Out := fun env os => loopS nl (fi24.lp 4) (fun env os nx => exec (cx K) N nl fi24 (subC c24 [1, 1, 1, 0, 1, 0, 0]) env os (kLoop nx (kBlock 0 (kSeq (exec (cx K) N nl fi24 (subC c24 [1, 1, 1, 1])) (fi24.jn 7) (kEnd tab [] nl rs24))))) m4 (killS (fi24.lp 4).alive env) os
noncomputable def bk24_9 (K : Nat → List SV → List SO → Out) (N nl : Nat) (m9 : Nat) : Env → List SO → Out := fun env os => loopS nl (fi24.lp 9) (fun env os nx => exec (cx K) N nl fi24 (subC c24 [1, 1, 1, 1, 1, 0, 1, 0, 0]) env os (kLoop nx (kBlock 2 (kSeq (exec (cx K) N nl fi24 (subC c24 [1, 1, 1, 1, 1, 1])) (fi24.jn 21) (kEnd tab [] nl rs24))))) m9 (killS (fi24.lp 9).alive env) os
noncomputable def bk24_17 (K : Nat → List SV → List SO → Out) (N nl : Nat) (m9 : Nat) (m17 : Nat) : Env → List SO → Out := fun env os => loopS nl (fi24.lp 17) (fun env os nx => exec (cx K) N nl fi24 (subC c24 [1, 1, 1, 1, 1, 0, 1, 0, 0, 1, 0, 0, 1, 1, 1, 1, 0, 1, 0, 0]) env os (kLoop nx (kBlock 4 (kSeq (exec (cx K) N nl fi24 (subC c24 [1, 1, 1, 1, 1, 0, 1, 0, 0, 1, 0, 0, 1, 1, 1, 1, 1])) (fi24.jn 20) (kBlock 3 (kSeq (exec (cx K) N nl fi24 (subC c24 [1, 1, 1, 1, 1, 0, 1, 0, 0, 1, 1])) (fi24.jn 10) (kLoop (bk24_9 K N nl m9) (kBlock 2 (kSeq (exec (cx K) N nl fi24 (subC c24 [1, 1, 1, 1, 1, 1])) (fi24.jn 21) (kEnd tab [] nl rs24)))))))))) m17 (killS (fi24.lp 17).alive env) os
noncomputable def L24_4 (K : Nat → List SV → List SO → Out) (N nl : Nat) (m4 : Nat) (x0 x1 x8 x9 : SV) (os : List SO) : Out := loopS nl (fi24.lp 4) (fun env os nx => exec (cx K) N nl fi24 (subC c24 [1, 1, 1, 0, 1, 0, 0]) env os (kLoop nx (kBlock 0 (kSeq (exec (cx K) N nl fi24 (subC c24 [1, 1, 1, 1])) (fi24.jn 7) (kEnd tab [] nl rs24))))) m4 [(0, x0), (1, x1), (8, x8), (9, x9)] os
noncomputable def L24_9 (K : Nat → List SV → List SO → Out) (N nl : Nat) (m9 : Nat) (x0 x1 x8 x10 x11 : SV) (os : List SO) : Out := loopS nl (fi24.lp 9) (fun env os nx => exec (cx K) N nl fi24 (subC c24 [1, 1, 1, 1, 1, 0, 1, 0, 0]) env os (kLoop nx (kBlock 2 (kSeq (exec (cx K) N nl fi24 (subC c24 [1, 1, 1, 1, 1, 1])) (fi24.jn 21) (kEnd tab [] nl rs24))))) m9 [(0, x0), (1, x1), (8, x8), (10, x10), (11, x11)] os
noncomputable def G24_9 (K : Nat → List SV → List SO → Out) (N nl : Nat) (m9 : Nat) (xs : List SV) (os : List SO) : Out := (fun env os nx => exec (cx K) N nl fi24 (subC c24 [1, 1, 1, 1, 1, 0, 1, 0, 0]) env os (kLoop nx (kBlock 2 (kSeq (exec (cx K) N nl fi24 (subC c24 [1, 1, 1, 1, 1, 1])) (fi24.jn 21) (kEnd tab [] nl rs24))))) (zipE [0, 1, 8, 10, 11] xs) os (bk24_9 K N nl m9)
noncomputable def J24_10 (K : Nat → List SV → List SO → Out) (N nl : Nat) (m9 : Nat) (x0 x1 x8 x10 x11 : SV) (os : List SO) : Out := exec (cx K) N nl fi24 (subC c24 [1, 1, 1, 1, 1, 0, 1, 0, 0, 1, 1]) [(0, x0), (1, x1), (8, x8), (10, x10), (11, x11)] os (kLoop (bk24_9 K N nl m9) (kBlock 2 (kSeq (exec (cx K) N nl fi24 (subC c24 [1, 1, 1, 1, 1, 1])) (fi24.jn 21) (kEnd tab [] nl rs24))))
noncomputable def L24_17 (K : Nat → List SV → List SO → Out) (N nl : Nat) (m9 : Nat) (m17 : Nat) (x0 x1 x8 x10 x12 x14 : SV) (os : List SO) : Out := loopS nl (fi24.lp 17) (fun env os nx => exec (cx K) N nl fi24 (subC c24 [1, 1, 1, 1, 1, 0, 1, 0, 0, 1, 0, 0, 1, 1, 1, 1, 0, 1, 0, 0]) env os (kLoop nx (kBlock 4 (kSeq (exec (cx K) N nl fi24 (subC c24 [1, 1, 1, 1, 1, 0, 1, 0, 0, 1, 0, 0, 1, 1, 1, 1, 1])) (fi24.jn 20) (kBlock 3 (kSeq (exec (cx K) N nl fi24 (subC c24 [1, 1, 1, 1, 1, 0, 1, 0, 0, 1, 1])) (fi24.jn 10) (kLoop (bk24_9 K N nl m9) (kBlock 2 (kSeq (exec (cx K) N nl fi24 (subC c24 [1, 1, 1, 1, 1, 1])) (fi24.jn 21) (kEnd tab [] nl rs24)))))))))) m17 [(0, x0), (1, x1), (8, x8), (10, x10), (12, x12), (14, x14)] os
noncomputable def LB24_4 (K : Nat → List SV → List SO → Out) (N nl : Nat) (m4 : Nat) (x0 x1 x8 x9 : SV) (os : List SO) : Out :=
 bd (lenO tab 23 os x1) fun v5 o5 =>
 bd (ret1 (binS tab .lss 3 x9 v5) o5) fun v6 o6 =>
 condS v6 (bd (ret1 (indexAddrS tab o6 23 x1 x9) o6) fun v7 o7 =>
 bd (ret1 (fieldAddrS tab 33 v7 0) o7) fun v8 o8 =>
 bd (ret1 (loadS tab o8 3 v8) o8) fun v9 o9 =>
 bd (ret1 (indexAddrS tab o9 67 x8 v9) o9) fun v10 o10 =>
 bd (storeO tab o10 4 v10 (some (SV.v (.bool true)))) fun v11 o11 =>
 bd (ret1 (binS tab .add 3 x9 (SV.v (.int .i64 1))) o11) fun v12 o12 =>
 L24_4 K N nl m4 x0 x1 x8 v12 o12)
 (bd (buildSliceS tab o6 23 0 []) fun v13 o13 =>
 L24_9 K N nl N x0 x1 x8 v13 (SV.v (.int .i64 1)) o13)
noncomputable def GB24_9 (K : Nat → List SV → List SO → Out) (N nl : Nat) (m9 : Nat) (x0 x1 x8 x10 x11 : SV) (os : List SO) : Out :=
 bd (ret1 (binS tab .leq 3 x11 (SV.v (.int .i64 4))) os) fun v14 o14 =>
 condS v14 (bd (ret1 (indexAddrS tab o14 67 x8 x11) o14) fun v15 o15 =>
 bd (ret1 (loadS tab o15 4 v15) o15) fun v16 o16 =>
 bd (ret1 (unS .not v16) o16) fun v17 o17 =>
 bd (gd v17 false (some (x10, o17)) o17) fun v18 o18 =>
 bd (gd v17 false (some (x11, o18)) o18) fun v19 o19 =>
 bd (gd v17 false (callS ⟨tab, ownF, K⟩ o19 44 [v18, v19]) o19) fun v20 o20 =>
 bd (ret1 (pickS v17 (SV.v (.bool true)) v20) o20) fun v21 o21 =>
 condS v21 (J24_10 K N nl m9 x0 x1 x8 x10 x11 o21)
 (bd (callS ⟨tab, ownF, K⟩ o21 45 [x0, x1, x11]) fun v22 o22 =>
 bd (ret1 (extractS v22 0) o22) fun v23 o23 =>
 bd (ret1 (extractS v22 1) o23) fun v24 o24 =>
 bd (allocS tab o24 33) fun v25 o25 =>
 bd (storeO tab o25 33 v25 (some v23)) fun v26 o26 =>
 bd (ret1 (unS .not v24) o26) fun v27 o27 =>
 condS v27 (bd (buildSliceS tab o27 23 0 []) fun v28 o28 =>
 retV tab nl o28 (resC1 (some v28) (resC1 (some (SV.v (.bool false))) (some []))))
 (bd (ret1 (loadS tab o27 33 v25) o27) fun v29 o29 =>
 bd (callS ⟨tab, ownF, K⟩ o29 42 [x10, v29]) fun v30 o30 =>
 L24_17 K N nl m9 N x0 x1 x8 v30 v25 (SV.v (.int .i64 0)) o30)))
 (bd (callS ⟨tab, ownF, K⟩ o14 15 [x10]) fun v31 o31 =>
 bd (ret1 (unS .not v31) o31) fun v32 o32 =>
 condS v32 (bd (buildSliceS tab o32 23 0 []) fun v33 o33 =>
 retV tab nl o33 (resC1 (some v33) (resC1 (some (SV.v (.bool false))) (some []))))
 (retV tab nl o32 (resC1 (some x10) (resC1 (some (SV.v (.bool true))) (some [])))))
noncomputable def JB24_10 (K : Nat → List SV → List SO → Out) (N nl : Nat) (m9 : Nat) (x0 x1 x8 x10 x11 : SV) (os : List SO) : Out :=
 bd (ret1 (binS tab .add 3 x11 (SV.v (.int .i64 1))) os) fun v34 o34 =>
 L24_9 K N nl m9 x0 x1 x8 x10 v34 o34
noncomputable def LB24_17 (K : Nat → List SV → List SO → Out) (N nl : Nat) (m9 : Nat) (m17 : Nat) (x0 x1 x8 x10 x12 x14 : SV) (os : List SO) : Out :=
 bd (ret1 (fieldAddrS tab 33 x12 3) os) fun v35 o35 =>
 bd (ret1 (loadS tab o35 31 v35) o35) fun v36 o36 =>
 bd (lenO tab 31 o36 v36) fun v37 o37 =>
 bd (ret1 (binS tab .lss 3 x14 v37) o37) fun v38 o38 =>
 condS v38 (bd (ret1 (fieldAddrS tab 33 x12 3) o38) fun v39 o39 =>
 bd (ret1 (loadS tab o39 31 v39) o39) fun v40 o40 =>
 bd (ret1 (indexAddrS tab o40 31 v40 x14) o40) fun v41 o41 =>
 bd (ret1 (fieldAddrS tab 39 v41 0) o41) fun v42 o42 =>
 bd (ret1 (loadS tab o42 3 v42) o42) fun v43 o43 =>
 bd (ret1 (indexAddrS tab o43 67 x8 v43) o43) fun v44 o44 =>
 bd (storeO tab o44 4 v44 (some (SV.v (.bool true)))) fun v45 o45 =>
 bd (ret1 (binS tab .add 3 x14 (SV.v (.int .i64 1))) o45) fun v46 o46 =>
 L24_17 K N nl m9 m17 x0 x1 x8 x10 x12 v46 o46)
 (J24_10 K N nl m9 x0 x1 x8 x10 (SV.v (.int .i64 0)) o38)
noncomputable def X24 (K : Nat → List SV → List SO → Out) (N nl : Nat) (x0 x1 x2 : SV) (os : List SO) : Out := exec (cx K) N nl fi24 c24 [(0, x0), (1, x1), (2, x2)] os (kEnd tab [] nl rs24)
noncomputable def B24 (K : Nat → List SV → List SO → Out) (N nl : Nat) (x0 x1 x2 : SV) (os : List SO) : Out :=
 bd (evN tab 23 os none) fun v1 o1 =>
 bd (makeS tab o1 67 (SV.v (.int .i64 5)) (SV.v (.int .i64 5))) fun v2 o2 =>
 bd (ret1 (indexAddrS tab o2 67 v2 x2) o2) fun v3 o3 =>
 bd (storeO tab o3 4 v3 (some (SV.v (.bool true)))) fun v4 o4 =>
 L24_4 K N nl N x0 x1 v2 (SV.v (.int .i64 0)) o4
noncomputable def bk25_2 (K : Nat → List SV → List SO → Out) (N nl : Nat) (m2 : Nat) : Env → List SO → Out := fun env os => loopS nl (fi25.lp 2) (fun env os nx => exec (cx K) N nl fi25 (subC c25 [1, 0, 1, 0, 0]) env os (kLoop nx (kBlock 0 (kSeq (exec (cx K) N nl fi25 (subC c25 [1, 1])) (fi25.jn 7) (kEnd tab [] nl rs25))))) m2 (killS (fi25.lp 2).alive env) os
noncomputable def L25_2 (K : Nat → List SV → List SO → Out) (N nl : Nat) (m2 : Nat) (x0 x5 x6 x7 : SV) (os : List SO) : Out := loopS nl (fi25.lp 2) (fun env os nx => exec (cx K) N nl fi25 (subC c25 [1, 0, 1, 0, 0]) env os (kLoop nx (kBlock 0 (kSeq (exec (cx K) N nl fi25 (subC c25 [1, 1])) (fi25.jn 7) (kEnd tab [] nl rs25))))) m2 [(0, x0), (5, x5), (6, x6), (7, x7)] os
noncomputable def G25_2 (K : Nat → List SV → List SO → Out) (N nl : Nat) (m2 : Nat) (xs : List SV) (os : List SO) : Out := (fun env os nx => exec (cx K) N nl fi25 (subC c25 [1, 0, 1, 0, 0]) env os (kLoop nx (kBlock 0 (kSeq (exec (cx K) N nl fi25 (subC c25 [1, 1])) (fi25.jn 7) (kEnd tab [] nl rs25))))) (zipE [0, 5, 6, 7] xs) os (bk25_2 K N nl m2)
noncomputable def GB25_2 (K : Nat → List SV → List SO → Out) (N nl : Nat) (m2 : Nat) (x0 x5 x6 x7 : SV) (os : List SO) : Out :=
 bd (ret1 (binS tab .lss 3 x7 x6) os) fun v2 o2 =>
 condS v2 (bd (ret1 (indexAddrS tab o2 23 x5 x7) o2) fun v3 o3 =>
 bd (ret1 (loadS tab o3 33 v3) o3) fun v4 o4 =>
 bd (allocS tab o4 33) fun v5 o5 =>
 bd (storeO tab o5 33 v5 (some v4)) fun v6 o6 =>
 bd (ret1 (loadS tab o6 33 v5) o6) fun v7 o7 =>
 bd (callS ⟨tab, ownF, K⟩ o7 46 [v7]) fun v8 o8 =>
 bd (ret1 (unS .not v8) o8) fun v9 o9 =>
 bd (gd v9 false (some (x7, o9)) o9) fun v10 o10 =>
 bd (gd v9 false (ret1 (binS tab .gtr 3 v10 (SV.v (.int .i64 0))) o10) o10) fun v11 o11 =>
 bd (gd v9 false (some (v11, o11)) o11) fun v12 o12 =>
 bd (gd v12 true (some (x0, o12)) o12) fun v13 o13 =>
 bd (gd v12 true (some (x7, o13)) o13) fun v14 o14 =>
 bd (gd v12 true (ret1 (binS tab .sub 3 v14 (SV.v (.int .i64 1))) o14) o14) fun v15 o15 =>
 bd (gd v12 true (ret1 (indexAddrS tab o15 23 v13 v15) o15) o15) fun v16 o16 =>
 bd (gd v12 true (ret1 (loadS tab o16 33 v16) o16) o16) fun v17 o17 =>
 bd (gd v12 true (ret1 (loadS tab o17 33 v5) o17) o17) fun v18 o18 =>
 bd (gd v12 true (callS ⟨tab, ownF, K⟩ o18 47 [v17, v18]) o18) fun v19 o19 =>
 bd (gd v12 true (ret1 (binS tab .geq 3 v19 (SV.v (.int .i64 0))) o19) o19) fun v20 o20 =>
 bd (gd v9 false (ret1 (pickS v12 v20 (SV.v (.bool false))) o20) o20) fun v21 o21 =>
 bd (ret1 (pickS v9 (SV.v (.bool true)) v21) o21) fun v22 o22 =>
 condS v22 (retV tab nl o22 (resC1 (some (SV.v (.bool false))) (some [])))
 (bd (ret1 (binS tab .add 3 x7 (SV.v (.int .i64 1))) o22) fun v23 o23 =>
 L25_2 K N nl m2 x0 x5 x6 v23 o23))
 (retV tab nl o2 (resC1 (some (SV.v (.bool true))) (some [])))
noncomputable def X25 (K : Nat → List SV → List SO → Out) (N nl : Nat) (x0 : SV) (os : List SO) : Out := exec (cx K) N nl fi25 c25 [(0, x0)] os (kEnd tab [] nl rs25)
noncomputable def B25 (K : Nat → List SV → List SO → Out) (N nl : Nat) (x0 : SV) (os : List SO) : Out :=
 bd (lenO tab 23 os x0) fun v1 o1 =>
 L25_2 K N nl N x0 x0 v1 (SV.v (.int .i64 0)) o1
noncomputable def X26 (K : Nat → List SV → List SO → Out) (N nl : Nat) (x0 : SV) (os : List SO) : Out := exec (cx K) N nl fi26 c26 [(0, x0)] os (kEnd tab [] nl rs26)
noncomputable def B26 (K : Nat → List SV → List SO → Out) (N nl : Nat) (x0 : SV) (os : List SO) : Out :=
 bd (callS ⟨tab, ownF, K⟩ os 48 [x0, (SV.v (.int .i64 1)), (SV.v (.int .i64 4))]) fun v1 o1 =>
 retV tab nl o1 (resC1 (some v1) (some []))
noncomputable def X27 (K : Nat → List SV → List SO → Out) (N nl : Nat) (x0 x1 : SV) (os : List SO) : Out := exec (cx K) N nl fi27 c27 [(0, x0), (1, x1)] os (kEnd tab [] nl rs27)
noncomputable def B27 (K : Nat → List SV → List SO → Out) (N nl : Nat) (x0 x1 : SV) (os : List SO) : Out :=
 bd (callS ⟨tab, ownF, K⟩ os 49 [x0, x1]) fun v1 o1 =>
 bd (ret1 (binS tab .geq 3 v1 (SV.v (.int .i64 0))) o1) fun v2 o2 =>
 retV tab nl o2 (resC1 (some v2) (some []))
noncomputable def X28 (K : Nat → List SV → List SO → Out) (N nl : Nat) (x0 x1 x2 : SV) (os : List SO) : Out := exec (cx K) N nl fi28 c28 [(0, x0), (1, x1), (2, x2)] os (kEnd tab [] nl rs28)
noncomputable def B28 (K : Nat → List SV → List SO → Out) (N nl : Nat) (x0 x1 x2 : SV) (os : List SO) : Out :=
 bd (allocS tab os 33) fun v1 o1 =>
 bd (callS ⟨tab, ownF, K⟩ o1 31 [x0, x2]) fun v2 o2 =>
 bd (callS ⟨tab, ownF, K⟩ o2 31 [x1, x2]) fun v3 o3 =>
 bd (ret1 (binS tab .geq 3 v3 (SV.v (.int .i64 0))) o3) fun v4 o4 =>
 bd (gd v4 true (some (v2, o4)) o4) fun v5 o5 =>
 bd (gd v4 true (ret1 (binS tab .lss 3 v5 (SV.v (.int .i64 0))) o5) o5) fun v6 o6 =>
 bd (gd v4 true (some (v6, o6)) o6) fun v7 o7 =>
 bd (gd v7 false (some (x1, o7)) o7) fun v8 o8 =>
 bd (gd v7 false (some (v3, o8)) o8) fun v9 o9 =>
 bd (gd v7 false (ret1 (indexAddrS tab o9 23 v8 v9) o9) o9) fun v10 o10 =>
 bd (gd v7 false (ret1 (fieldAddrS tab 33 v10 1) o10) o10) fun v11 o11 =>
 bd (gd v7 false (ret1 (loadS tab o11 3 v11) o11) o11) fun v12 o12 =>
 bd (gd v7 false (some (x0, o12)) o12) fun v13 o13 =>
 bd (gd v7 false (some (v2, o13)) o13) fun v14 o14 =>
 bd (gd v7 false (ret1 (indexAddrS tab o14 23 v13 v14) o14) o14) fun v15 o15 =>
 bd (gd v7 false (ret1 (fieldAddrS tab 33 v15 1) o15) o15) fun v16 o16 =>
 bd (gd v7 false (ret1 (loadS tab o16 3 v16) o16) o16) fun v17 o17 =>
 bd (gd v7 false (ret1 (binS tab .geq 3 v12 v17) o17) o17) fun v18 o18 =>
 bd (gd v4 true (ret1 (pickS v7 (SV.v (.bool true)) v18) o18) o18) fun v19 o19 =>
 bd (ret1 (pickS v4 v19 (SV.v (.bool false))) o19) fun v20 o20 =>
 condS v20 (bd (ret1 (indexAddrS tab o20 23 x1 v3) o20) fun v21 o21 =>
 bd (ret1 (loadS tab o21 33 v21) o21) fun v22 o22 =>
 bd (storeO tab o22 33 v1 (some v22)) fun v23 o23 =>
 retV tab nl o23 (resC1 (loadS tab o23 33 v1) (resC1 (some (SV.v (.bool true))) (some []))))
 (bd (ret1 (binS tab .geq 3 v2 (SV.v (.int .i64 0))) o20) fun v24 o24 =>
 condS v24 (bd (ret1 (indexAddrS tab o24 23 x0 v2) o24) fun v25 o25 =>
 bd (ret1 (loadS tab o25 33 v25) o25) fun v26 o26 =>
 bd (storeO tab o26 33 v1 (some v26)) fun v27 o27 =>
 retV tab nl o27 (resC1 (loadS tab o27 33 v1) (resC1 (some (SV.v (.bool true))) (some []))))
 (bd (buildS tab o24 33 []) fun v28 o28 =>
 bd (storeO tab o28 33 v1 (some v28)) fun v29 o29 =>
 retV tab nl o29 (resC1 (loadS tab o29 33 v1) (resC1 (some (SV.v (.bool false))) (some [])))))
noncomputable def X29 (K : Nat → List SV → List SO → Out) (N nl : Nat) (x0 x1 : SV) (os : List SO) : Out := exec (cx K) N nl fi29 c29 [(0, x0), (1, x1)] os (kEnd tab [] nl rs29)
noncomputable def B29 (K : Nat → List SV → List SO → Out) (N nl : Nat) (x0 x1 : SV) (os : List SO) : Out :=
 bd (boxS tab os 33 (some x1)) fun v1 o1 =>
 bd (evN tab 23 o1 none) fun v2 o2 =>
 bd (ret1 (loadS tab o2 33 v1) o2) fun v3 o3 =>
 bd (callS ⟨tab, ownF, K⟩ o3 50 [x0, v3, (SV.fn 47 [])]) fun v4 o4 =>
 bd (ret1 (extractS v4 0) o4) fun v5 o5 =>
 bd (ret1 (extractS v4 1) o5) fun v6 o6 =>
 condS v6 (retV tab nl o6 (resC1 (some x0) (resC1 (some (SV.v (.bool false))) (some []))))
 (bd (ret1 (loadS tab o6 33 v1) o6) fun v7 o7 =>
 bd (callS ⟨tab, ownF, K⟩ o7 32 [v7]) fun v8 o8 =>
 bd (buildSliceS tab o8 23 1 [(0, v8)]) fun v9 o9 =>
 bd (callS ⟨tab, ownF, K⟩ o9 51 [x0, v5, v9]) fun v10 o10 =>
 retV tab nl o10 (resC1 (some v10) (resC1 (some (SV.v (.bool true))) (some []))))
noncomputable def bk30_4 (K : Nat → List SV → List SO → Out) (N nl : Nat) (m4 : Nat) : Env → List SO → Out := fun env os => loopS nl (fi30.lp 4) (fun env os nx => exec (cx K) N nl fi30 (subC c30 [1, 1, 0, 1, 0, 0]) env os (kLoop nx (kBlock 0 (kSeq (exec (cx K) N nl fi30 (subC c30 [1, 1, 1])) (fi30.jn 8) (kEnd tab [] nl rs30))))) m4 (killS (fi30.lp 4).alive env) os
noncomputable def bk30_9 (K : Nat → List SV → List SO → Out) (N nl : Nat) (m9 : Nat) : Env → List SO → Out := fun env os => loopS nl (fi30.lp 9) (fun env os nx => exec (cx K) N nl fi30 (subC c30 [1, 1, 1, 0, 1, 0, 0]) env os (kLoop nx (kBlock 2 (kSeq (exec (cx K) N nl fi30 (subC c30 [1, 1, 1, 1])) (fi30.jn 13) (kEnd tab [] nl rs30))))) m9 (killS (fi30.lp 9).alive env) os
noncomputable def L30_4 (K : Nat → List SV → List SO → Out) (N nl : Nat) (m4 : Nat) (x2 x3 x5 : SV) (os : List SO) : Out := loopS nl (fi30.lp 4) (fun env os nx => exec (cx K) N nl fi30 (subC c30 [1, 1, 0, 1, 0, 0]) env os (kLoop nx (kBlock 0 (kSeq (exec (cx K) N nl fi30 (subC c30 [1, 1, 1])) (fi30.jn 8) (kEnd tab [] nl rs30))))) m4 [(2, x2), (3, x3), (5, x5)] os
noncomputable def L30_9 (K : Nat → List SV → List SO → Out) (N nl : Nat) (m9 : Nat) (x2 x3 x6 : SV) (os : List SO) : Out := loopS nl (fi30.lp 9) (fun env os nx => exec (cx K) N nl fi30 (subC c30 [1, 1, 1, 0, 1, 0, 0]) env os (kLoop nx (kBlock 2 (kSeq (exec (cx K) N nl fi30 (subC c30 [1, 1, 1, 1])) (fi30.jn 13) (kEnd tab [] nl rs30))))) m9 [(2, x2), (3, x3), (6, x6)] os
noncomputable def LB30_4 (K : Nat → List SV → List SO → Out) (N nl : Nat) (m4 : Nat) (x2 x3 x5 : SV) (os : List SO) : Out :=
 bd (ret1 (fieldAddrS tab 33 x2 2) os) fun v30 o30 =>
 bd (ret1 (loadS tab o30 30 v30) o30) fun v31 o31 =>
 bd (lenO tab 30 o31 v31) fun v32 o32 =>
 bd (ret1 (binS tab .lss 3 x5 v32) o32) fun v33 o33 =>
 condS v33 (bd (ret1 (fieldAddrS tab 33 x2 2) o33) fun v34 o34 =>
 bd (ret1 (loadS tab o34 30 v34) o34) fun v35 o35 =>
 bd (ret1 (indexAddrS tab o35 30 v35 x5) o35) fun v36 o36 =>
 bd (ret1 (loadS tab o36 60 v36) o36) fun v37 o37 =>
 bd (ret1 (fieldAddrS tab 33 x3 2) o37) fun v38 o38 =>
 bd (ret1 (loadS tab o38 30 v38) o38) fun v39 o39 =>
 bd (ret1 (indexAddrS tab o39 30 v39 x5) o39) fun v40 o40 =>
 bd (ret1 (loadS tab o40 60 v40) o40) fun v41 o41 =>
 bd (ret1 (binS tab .neq 60 v37 v41) o41) fun v42 o42 =>
 condS v42 (retV tab nl o42 (resC1 (some (SV.v (.bool false))) (some [])))
 (bd (ret1 (binS tab .add 3 x5 (SV.v (.int .i64 1))) o42) fun v43 o43 =>
 L30_4 K N nl m4 x2 x3 v43 o43))
 (L30_9 K N nl N x2 x3 (SV.v (.int .i64 0)) o33)
noncomputable def LB30_9 (K : Nat → List SV → List SO → Out) (N nl : Nat) (m9 : Nat) (x2 x3 x6 : SV) (os : List SO) : Out :=
 bd (ret1 (fieldAddrS tab 33 x2 3) os) fun v44 o44 =>
 bd (ret1 (loadS tab o44 31 v44) o44) fun v45 o45 =>
 bd (lenO tab 31 o45 v45) fun v46 o46 =>
 bd (ret1 (binS tab .lss 3 x6 v46) o46) fun v47 o47 =>
 condS v47 (bd (ret1 (fieldAddrS tab 33 x2 3) o47) fun v48 o48 =>
 bd (ret1 (loadS tab o48 31 v48) o48) fun v49 o49 =>
 bd (ret1 (indexAddrS tab o49 31 v49 x6) o49) fun v50 o50 =>
 bd (ret1 (loadS tab o50 39 v50) o50) fun v51 o51 =>
 bd (ret1 (fieldAddrS tab 33 x3 3) o51) fun v52 o52 =>
 bd (ret1 (loadS tab o52 31 v52) o52) fun v53 o53 =>
 bd (ret1 (indexAddrS tab o53 31 v53 x6) o53) fun v54 o54 =>
 bd (ret1 (loadS tab o54 39 v54) o54) fun v55 o55 =>
 bd (ret1 (binS tab .neq 39 v51 v55) o55) fun v56 o56 =>
 condS v56 (retV tab nl o56 (resC1 (some (SV.v (.bool false))) (some [])))
 (bd (ret1 (binS tab .add 3 x6 (SV.v (.int .i64 1))) o56) fun v57 o57 =>
 L30_9 K N nl m9 x2 x3 v57 o57))
 (retV tab nl o47 (resC1 (some (SV.v (.bool true))) (some [])))
noncomputable def X30 (K : Nat → List SV → List SO → Out) (N nl : Nat) (x0 x1 : SV) (os : List SO) : Out := exec (cx K) N nl fi30 c30 [(0, x0), (1, x1)] os (kEnd tab [] nl rs30)
noncomputable def B30 (K : Nat → List SV → List SO → Out) (N nl : Nat) (x0 x1 : SV) (os : List SO) : Out :=
 bd (boxS tab os 33 (some x0)) fun v1 o1 =>
 bd (boxS tab o1 33 (some x1)) fun v2 o2 =>
 bd (ret1 (fieldAddrS tab 33 v1 0) o2) fun v3 o3 =>
 bd (ret1 (loadS tab o3 3 v3) o3) fun v4 o4 =>
 bd (ret1 (fieldAddrS tab 33 v2 0) o4) fun v5 o5 =>
 bd (ret1 (loadS tab o5 3 v5) o5) fun v6 o6 =>
 bd (ret1 (binS tab .neq 3 v4 v6) o6) fun v7 o7 =>
 bd (gd v7 false (ret1 (fieldAddrS tab 33 v1 1) o7) o7) fun v8 o8 =>
 bd (gd v7 false (ret1 (loadS tab o8 3 v8) o8) o8) fun v9 o9 =>
 bd (gd v7 false (ret1 (fieldAddrS tab 33 v2 1) o9) o9) fun v10 o10 =>
 bd (gd v7 false (ret1 (loadS tab o10 3 v10) o10) o10) fun v11 o11 =>
 bd (gd v7 false (ret1 (binS tab .neq 3 v9 v11) o11) o11) fun v12 o12 =>
 bd (ret1 (pickS v7 (SV.v (.bool true)) v12) o12) fun v13 o13 =>
 bd (gd v13 false (ret1 (fieldAddrS tab 33 v1 2) o13) o13) fun v14 o14 =>
 bd (gd v13 false (ret1 (loadS tab o14 30 v14) o14) o14) fun v15 o15 =>
 bd (gd v13 false (lenO tab 30 o15 v15) o15) fun v16 o16 =>
 bd (gd v13 false (ret1 (fieldAddrS tab 33 v2 2) o16) o16) fun v17 o17 =>
 bd (gd v13 false (ret1 (loadS tab o17 30 v17) o17) o17) fun v18 o18 =>
 bd (gd v13 false (lenO tab 30 o18 v18) o18) fun v19 o19 =>
 bd (gd v13 false (ret1 (binS tab .neq 3 v16 v19) o19) o19) fun v20 o20 =>
 bd (ret1 (pickS v13 (SV.v (.bool true)) v20) o20) fun v21 o21 =>
 bd (gd v21 false (ret1 (fieldAddrS tab 33 v1 3) o21) o21) fun v22 o22 =>
 bd (gd v21 false (ret1 (loadS tab o22 31 v22) o22) o22) fun v23 o23 =>
 bd (gd v21 false (lenO tab 31 o23 v23) o23) fun v24 o24 =>
 bd (gd v21 false (ret1 (fieldAddrS tab 33 v2 3) o24) o24) fun v25 o25 =>
 bd (gd v21 false (ret1 (loadS tab o25 31 v25) o25) o25) fun v26 o26 =>
 bd (gd v21 false (lenO tab 31 o26 v26) o26) fun v27 o27 =>
 bd (gd v21 false (ret1 (binS tab .neq 3 v24 v27) o27) o27) fun v28 o28 =>
 bd (ret1 (pickS v21 (SV.v (.bool true)) v28) o28) fun v29 o29 =>
 condS v29 (retV tab nl o29 (resC1 (some (SV.v (.bool false))) (some [])))
 (L30_4 K N nl N v1 v2 (SV.v (.int .i64 0)) o29)
noncomputable def bk31_3 (K : Nat → List SV → List SO → Out) (N nl : Nat) (m3 : Nat) : Env → List SO → Out := fun env os => loopS nl (fi31.lp 3) (fun env os nx => exec (cx K) N nl fi31 (subC c31 [1, 1, 0, 1, 0, 0]) env os (kLoop nx (kBlock 0 (kSeq (exec (cx K) N nl fi31 (subC c31 [1, 1, 1])) (fi31.jn 8) (kEnd tab [] nl rs31))))) m3 (killS (fi31.lp 3).alive env) os
noncomputable def L31_3 (K : Nat → List SV → List SO → Out) (N nl : Nat) (m3 : Nat) (x1 x5 x8 x9 x10 : SV) (os : List SO) : Out := loopS nl (fi31.lp 3) (fun env os nx => exec (cx K) N nl fi31 (subC c31 [1, 1, 0, 1, 0, 0]) env os (kLoop nx (kBlock 0 (kSeq (exec (cx K) N nl fi31 (subC c31 [1, 1, 1])) (fi31.jn 8) (kEnd tab [] nl rs31))))) m3 [(1, x1), (5, x5), (8, x8), (9, x9), (10, x10)] os
noncomputable def G31_3 (K : Nat → List SV → List SO → Out) (N nl : Nat) (m3 : Nat) (xs : List SV) (os : List SO) : Out := (fun env os nx => exec (cx K) N nl fi31 (subC c31 [1, 1, 0, 1, 0, 0]) env os (kLoop nx (kBlock 0 (kSeq (exec (cx K) N nl fi31 (subC c31 [1, 1, 1])) (fi31.jn 8) (kEnd tab [] nl rs31))))) (zipE [1, 5, 8, 9, 10] xs) os (bk31_3 K N nl m3)
noncomputable def J31_7 (K : Nat → List SV → List SO → Out) (N nl : Nat) (m3 : Nat) (x1 x5 x8 x9 x10 : SV) (os : List SO) : Out := exec (cx K) N nl fi31 (subC c31 [1, 1, 0, 1, 0, 0, 1, 1, 1]) [(1, x1), (5, x5), (8, x8), (9, x9), (10, x10)] os (kLoop (bk31_3 K N nl m3) (kBlock 0 (kSeq (exec (cx K) N nl fi31 (subC c31 [1, 1, 1])) (fi31.jn 8) (kEnd tab [] nl rs31))))
noncomputable def GB31_3 (K : Nat → List SV → List SO → Out) (N nl : Nat) (m3 : Nat) (x1 x5 x8 x9 x10 : SV) (os : List SO) : Out :=
 bd (ret1 (binS tab .lss 3 x10 x9) os) fun v2 o2 =>
 condS v2 (bd (ret1 (indexAddrS tab o2 23 x8 x10) o2) fun v3 o3 =>
 bd (ret1 (loadS tab o3 33 v3) o3) fun v4 o4 =>
 bd (allocS tab o4 33) fun v5 o5 =>
 bd (storeO tab o5 33 v5 (some v4)) fun v6 o6 =>
 bd (ret1 (fieldAddrS tab 33 v5 0) o6) fun v7 o7 =>
 bd (ret1 (loadS tab o7 3 v7) o7) fun v8 o8 =>
 bd (ret1 (binS tab .eql 3 v8 x1) o8) fun v9 o9 =>
 condS v9 (J31_7 K N nl m3 x1 x10 x8 x9 x10 o9)
 (J31_7 K N nl m3 x1 x5 x8 x9 x10 o9))
 (retV tab nl o2 (resC1 (some x5) (some [])))
noncomputable def JB31_7 (K : Nat → List SV → List SO → Out) (N nl : Nat) (m3 : Nat) (x1 x5 x8 x9 x10 : SV) (os : List SO) : Out :=
 bd (ret1 (binS tab .add 3 x10 (SV.v (.int .i64 1))) os) fun v10 o10 =>
 L31_3 K N nl m3 x1 x5 x8 x9 v10 o10
noncomputable def X31 (K : Nat → List SV → List SO → Out) (N nl : Nat) (x0 x1 : SV) (os : List SO) : Out := exec (cx K) N nl fi31 c31 [(0, x0), (1, x1)] os (kEnd tab [] nl rs31)
noncomputable def B31 (K : Nat → List SV → List SO → Out) (N nl : Nat) (x0 x1 : SV) (os : List SO) : Out :=
 bd (lenO tab 23 os x0) fun v1 o1 =>
 L31_3 K N nl N x1 (SV.v (.int .i64 (-1))) x0 v1 (SV.v (.int .i64 0)) o1
noncomputable def X32 (K : Nat → List SV → List SO → Out) (N nl : Nat) (x0 : SV) (os : List SO) : Out := exec (cx K) N nl fi32 c32 [(0, x0)] os (kEnd tab [] nl rs32)
noncomputable def B32 (K : Nat → List SV → List SO → Out) (N nl : Nat) (x0 : SV) (os : List SO) : Out :=
 bd (boxS tab os 33 (some x0)) fun v1 o1 =>
 bd (allocS tab o1 33) fun v2 o2 =>
 bd (ret1 (fieldAddrS tab 33 v1 2) o2) fun v3 o3 =>
 bd (ret1 (loadS tab o3 30 v3) o3) fun v4 o4 =>
 dchk (keepOk ⟨tab, ownF, K⟩ o4 (SV.fn 52 []) [v4] [] true) <|
 bd (callS ⟨tab, ownF, K⟩ o4 52 [v4]) fun v5 o5 =>
 bd (ret1 (fieldAddrS tab 33 v1 3) o5) fun v6 o6 =>
 dchk (isBox v6) <|
 bd (ret1 (loadS tab o6 31 v6) o6) fun v7 o7 =>
 bd (callS ⟨tab, ownF, K⟩ o7 53 [v7]) fun v8 o8 =>
 bd (ret1 (fieldAddrS tab 33 v1 2) o8) fun v9 o9 =>
 bd (storeO tab o9 30 v9 (some v5)) fun v10 o10 =>
 bd (ret1 (fieldAddrS tab 33 v1 3) o10) fun v11 o11 =>
 bd (storeO tab o11 31 v11 (some v8)) fun v12 o12 =>
 bd (ret1 (loadS tab o12 33 v1) o12) fun v13 o13 =>
 bd (storeO tab o13 33 v2 (some v13)) fun v14 o14 =>
 retV tab nl o14 (resC1 (loadS tab o14 33 v2) (some []))
noncomputable def X33 (K : Nat → List SV → List SO → Out) (N nl : Nat) (x0 x1 : SV) (os : List SO) : Out := exec (cx K) N nl fi33 c33 [(0, x0), (1, x1)] os (kEnd tab [] nl rs33)
noncomputable def B33 (K : Nat → List SV → List SO → Out) (N nl : Nat) (x0 x1 : SV) (os : List SO) : Out :=
 bd (callS ⟨tab, ownF, K⟩ os 54 [x0, x1]) fun v1 o1 =>
 bd (ret1 (binS tab .geq 3 v1 (SV.v (.int .i64 0))) o1) fun v2 o2 =>
 retV tab nl o2 (resC1 (some v2) (some []))
noncomputable def X34 (K : Nat → List SV → List SO → Out) (N nl : Nat) (x0 x1 : SV) (os : List SO) : Out := exec (cx K) N nl fi34 c34 [(0, x0), (1, x1)] os (kEnd tab [] nl rs34)
noncomputable def B34 (K : Nat → List SV → List SO → Out) (N nl : Nat) (x0 x1 : SV) (os : List SO) : Out :=
 bd (boxS tab os 39 (some x0)) fun v1 o1 =>
 bd (ret1 (loadS tab o1 23 x1) o1) fun v2 o2 =>
 bd (ret1 (loadS tab o2 39 v1) o2) fun v3 o3 =>
 bd (callS ⟨tab, ownF, K⟩ o3 35 [v2, v3]) fun v4 o4 =>
 bd (ret1 (unS .not v4) o4) fun v5 o5 =>
 retV tab nl o5 (resC1 (some v5) (some []))
noncomputable def X35 (K : Nat → List SV → List SO → Out) (N nl : Nat) (x0 x1 : SV) (os : List SO) : Out := exec (cx K) N nl fi35 c35 [(0, x0), (1, x1)] os (kEnd tab [] nl rs35)
noncomputable def B35 (K : Nat → List SV → List SO → Out) (N nl : Nat) (x0 x1 : SV) (os : List SO) : Out :=
 bd (boxS tab os 39 (some x1)) fun v1 o1 =>
 bd (callS ⟨tab, ownF, K⟩ o1 55 [x0, (SV.fn 56 [v1])]) fun v2 o2 =>
 retV tab nl o2 (resC1 (some v2) (some []))
noncomputable def bk36_2 (K : Nat → List SV → List SO → Out) (N nl : Nat) (m2 : Nat) : Env → List SO → Out := fun env os => loopS nl (fi36.lp 2) (fun env os nx => exec (cx K) N nl fi36 (subC c36 [1, 0, 1, 0, 0]) env os (kLoop nx (kBlock 0 (kSeq (exec (cx K) N nl fi36 (subC c36 [1, 1])) (fi36.jn 6) (kEnd tab [] nl rs36))))) m2 (killS (fi36.lp 2).alive env) os
noncomputable def L36_2 (K : Nat → List SV → List SO → Out) (N nl : Nat) (m2 : Nat) (x0 x3 : SV) (os : List SO) : Out := loopS nl (fi36.lp 2) (fun env os nx => exec (cx K) N nl fi36 (subC c36 [1, 0, 1, 0, 0]) env os (kLoop nx (kBlock 0 (kSeq (exec (cx K) N nl fi36 (subC c36 [1, 1])) (fi36.jn 6) (kEnd tab [] nl rs36))))) m2 [(0, x0), (3, x3)] os
noncomputable def LB36_2 (K : Nat → List SV → List SO → Out) (N nl : Nat) (m2 : Nat) (x0 x3 : SV) (os : List SO) : Out :=
 bd (lenO tab 23 os x0) fun v1 o1 =>
 bd (ret1 (binS tab .lss 3 x3 v1) o1) fun v2 o2 =>
 condS v2 (bd (ret1 (binS tab .sub 3 x3 (SV.v (.int .i64 1))) o2) fun v3 o3 =>
 bd (ret1 (indexAddrS tab o3 23 x0 v3) o3) fun v4 o4 =>
 bd (ret1 (fieldAddrS tab 33 v4 0) o4) fun v5 o5 =>
 bd (ret1 (loadS tab o5 3 v5) o5) fun v6 o6 =>
 bd (ret1 (indexAddrS tab o6 23 x0 x3) o6) fun v7 o7 =>
 bd (ret1 (fieldAddrS tab 33 v7 0) o7) fun v8 o8 =>
 bd (ret1 (loadS tab o8 3 v8) o8) fun v9 o9 =>
 bd (ret1 (binS tab .geq 3 v6 v9) o9) fun v10 o10 =>
 condS v10 (retV tab nl o10 (resC1 (some (SV.v (.bool false))) (some [])))
 (bd (ret1 (binS tab .add 3 x3 (SV.v (.int .i64 1))) o10) fun v11 o11 =>
 L36_2 K N nl m2 x0 v11 o11))
 (retV tab nl o2 (resC1 (some (SV.v (.bool true))) (some [])))
noncomputable def X36 (K : Nat → List SV → List SO → Out) (N nl : Nat) (x0 : SV) (os : List SO) : Out := exec (cx K) N nl fi36 c36 [(0, x0)] os (kEnd tab [] nl rs36)
noncomputable def B36 (K : Nat → List SV → List SO → Out) (N nl : Nat) (x0 : SV) (os : List SO) : Out :=
 L36_2 K N nl N x0 (SV.v (.int .i64 1)) os
noncomputable def X37 (K : Nat → List SV → List SO → Out) (N nl : Nat) (x0 x1 : SV) (os : List SO) : Out := exec (cx K) N nl fi37 c37 [(0, x0), (1, x1)] os (kEnd tab [] nl rs37)
noncomputable def B37 (K : Nat → List SV → List SO → Out) (N nl : Nat) (x0 x1 : SV) (os : List SO) : Out :=
 bd (boxS tab os 39 (some x1)) fun v1 o1 =>
 bd (ret1 (fieldAddrS tab 39 v1 0) o1) fun v2 o2 =>
 bd (ret1 (loadS tab o2 3 v2) o2) fun v3 o3 =>
 bd (callS ⟨tab, ownF, K⟩ o3 57 [x0, v3]) fun v4 o4 =>
 bd (ret1 (extractS v4 0) o4) fun v5 o5 =>
 bd (ret1 (extractS v4 1) o5) fun v6 o6 =>
 bd (allocS tab o6 33) fun v7 o7 =>
 bd (storeO tab o7 33 v7 (some v5)) fun v8 o8 =>
 bd (gd v6 true (ret1 (fieldAddrS tab 33 v7 1) o8) o8) fun v9 o9 =>
 bd (gd v6 true (ret1 (loadS tab o9 3 v9) o9) o9) fun v10 o10 =>
 bd (gd v6 true (ret1 (fieldAddrS tab 39 v1 1) o10) o10) fun v11 o11 =>
 bd (gd v6 true (ret1 (loadS tab o11 3 v11) o11) o11) fun v12 o12 =>
 bd (gd v6 true (ret1 (binS tab .geq 3 v10 v12) o12) o12) fun v13 o13 =>
 bd (ret1 (pickS v6 v13 (SV.v (.bool false))) o13) fun v14 o14 =>
 retV tab nl o14 (resC1 (some v14) (some []))
noncomputable def bk38_2 (K : Nat → List SV → List SO → Out) (N nl : Nat) (m2 : Nat) : Env → List SO → Out := fun env os => loopS nl (fi38.lp 2) (fun env os nx => exec (cx K) N nl fi38 (subC c38 [1, 0, 1, 0, 0]) env os (kLoop nx (kBlock 0 (kSeq (exec (cx K) N nl fi38 (subC c38 [1, 1])) (fi38.jn 9) (kEnd tab [] nl rs38))))) m2 (killS (fi38.lp 2).alive env) os
noncomputable def bk38_5 (K : Nat → List SV → List SO → Out) (N nl : Nat) (m2 : Nat) (m5 : Nat) : Env → List SO → Out := fun env os => loopS nl (fi38.lp 5) (fun env os nx => exec (cx K) N nl fi38 (subC c38 [1, 0, 1, 0, 0, 1, 0, 0, 1, 0, 0]) env os (kLoop nx (kBlock 2 (kBlock 1 (kSeq (exec (cx K) N nl fi38 (subC c38 [1, 0, 1, 0, 0, 1, 1])) (fi38.jn 3) (kLoop (bk38_2 K N nl m2) (kBlock 0 (kSeq (exec (cx K) N nl fi38 (subC c38 [1, 1])) (fi38.jn 9) (kEnd tab [] nl rs38))))))))) m5 (killS (fi38.lp 5).alive env) os
noncomputable def L38_2 (K : Nat → List SV → List SO → Out) (N nl : Nat) (m2 : Nat) (x0 x1 x2 x7 : SV) (os : List SO) : Out := loopS nl (fi38.lp 2) (fun env os nx => exec (cx K) N nl fi38 (subC c38 [1, 0, 1, 0, 0]) env os (kLoop nx (kBlock 0 (kSeq (exec (cx K) N nl fi38 (subC c38 [1, 1])) (fi38.jn 9) (kEnd tab [] nl rs38))))) m2 [(0, x0), (1, x1), (2, x2), (7, x7)] os
noncomputable def L38_5 (K : Nat → List SV → List SO → Out) (N nl : Nat) (m2 : Nat) (m5 : Nat) (x0 x1 x2 x7 x8 : SV) (os : List SO) : Out := loopS nl (fi38.lp 5) (fun env os nx => exec (cx K) N nl fi38 (subC c38 [1, 0, 1, 0, 0, 1, 0, 0, 1, 0, 0]) env os (kLoop nx (kBlock 2 (kBlock 1 (kSeq (exec (cx K) N nl fi38 (subC c38 [1, 0, 1, 0, 0, 1, 1])) (fi38.jn 3) (kLoop (bk38_2 K N nl m2) (kBlock 0 (kSeq (exec (cx K) N nl fi38 (subC c38 [1, 1])) (fi38.jn 9) (kEnd tab [] nl rs38))))))))) m5 [(0, x0), (1, x1), (2, x2), (7, x7), (8, x8)] os
noncomputable def LB38_2 (K : Nat → List SV → List SO → Out) (N nl : Nat) (m2 : Nat) (x0 x1 x2 x7 : SV) (os : List SO) : Out :=
 bd (ret1 (binS tab .lss 3 x7 x1) os) fun v1 o1 =>
 condS v1 (L38_5 K N nl m2 N x0 x1 x2 x7 (SV.v (.int .i64 0)) o1)
 (retV tab nl o1 (resC1 (some (SV.v (.int .i64 (-1)))) (some [])))
noncomputable def LB38_5 (K : Nat → List SV → List SO → Out) (N nl : Nat) (m2 : Nat) (m5 : Nat) (x0 x1 x2 x7 x8 : SV) (os : List SO) : Out :=
 bd (ret1 (indexAddrS tab os 23 x0 x7) os) fun v2 o2 =>
 bd (ret1 (fieldAddrS tab 33 v2 2) o2) fun v3 o3 =>
 bd (ret1 (loadS tab o3 30 v3) o3) fun v4 o4 =>
 bd (lenO tab 30 o4 v4) fun v5 o5 =>
 bd (ret1 (binS tab .lss 3 x8 v5) o5) fun v6 o6 =>
 condS v6 (bd (ret1 (indexAddrS tab o6 23 x0 x7) o6) fun v7 o7 =>
 bd (ret1 (fieldAddrS tab 33 v7 2) o7) fun v8 o8 =>
 bd (ret1 (loadS tab o8 30 v8) o8) fun v9 o9 =>
 bd (ret1 (indexAddrS tab o9 30 v9 x8) o9) fun v10 o10 =>
 bd (ret1 (fieldAddrS tab 60 v10 0) o10) fun v11 o11 =>
 bd (ret1 (loadS tab o11 3 v11) o11) fun v12 o12 =>
 bd (ret1 (binS tab .eql 3 v12 x2) o12) fun v13 o13 =>
 condS v13 (retV tab nl o13 (resC1 (some x7) (some [])))
 (bd (ret1 (binS tab .add 3 x8 (SV.v (.int .i64 1))) o13) fun v14 o14 =>
 L38_5 K N nl m2 m5 x0 x1 x2 x7 v14 o14))
 (bd (ret1 (binS tab .add 3 x7 (SV.v (.int .i64 1))) o6) fun v15 o15 =>
 L38_2 K N nl m2 x0 x1 x2 v15 o15)
noncomputable def X38 (K : Nat → List SV → List SO → Out) (N nl : Nat) (x0 x1 x2 : SV) (os : List SO) : Out := exec (cx K) N nl fi38 c38 [(0, x0), (1, x1), (2, x2)] os (kEnd tab [] nl rs38)
noncomputable def B38 (K : Nat → List SV → List SO → Out) (N nl : Nat) (x0 x1 x2 : SV) (os : List SO) : Out :=
 L38_2 K N nl N x0 x1 x2 (SV.v (.int .i64 0)) os
noncomputable def J39_11 (K : Nat → List SV → List SO → Out) (N nl : Nat) (x2 x3 : SV) (os : List SO) : Out := exec (cx K) N nl fi39 (subC c39 [1, 1, 1]) [(2, x2), (3, x3)] os (kEnd tab [] nl rs39)
noncomputable def JB39_11 (K : Nat → List SV → List SO → Out) (N nl : Nat) (x2 x3 : SV) (os : List SO) : Out :=
 bd (ret1 (loadS tab os 33 x3) os) fun v44 o44 =>
 bd (storeO tab o44 33 x2 (some v44)) fun v45 o45 =>
 retV tab nl o45 (resC1 (loadS tab o45 33 x2) (some []))
noncomputable def X39 (K : Nat → List SV → List SO → Out) (N nl : Nat) (x0 : SV) (os : List SO) : Out := exec (cx K) N nl fi39 c39 [(0, x0)] os (kEnd tab [] nl rs39)
noncomputable def B39 (K : Nat → List SV → List SO → Out) (N nl : Nat) (x0 : SV) (os : List SO) : Out :=
 bd (allocS tab os 33) fun v1 o1 =>
 bd (callS ⟨tab, ownF, K⟩ o1 21 [x0, (SV.v (.int .i64 4))]) fun v2 o2 =>
 bd (ret1 (binS tab .add 3 (SV.v (.int .i64 1)) v2) o2) fun v3 o3 =>
 bd (callS ⟨tab, ownF, K⟩ o3 21 [x0, (SV.v (.int .i64 3))]) fun v4 o4 =>
 bd (ret1 (binS tab .add 3 (SV.v (.int .i64 1)) v4) o4) fun v5 o5 =>
 bd (callS ⟨tab, ownF, K⟩ o5 40 [x0, v3, v5]) fun v6 o6 =>
 bd (allocS tab o6 33) fun v7 o7 =>
 bd (storeO tab o7 33 v7 (some v6)) fun v8 o8 =>
 bd (callS ⟨tab, ownF, K⟩ o8 21 [x0, (SV.v (.int .i64 20))]) fun v9 o9 =>
 bd (ret1 (binS tab .eql 3 v9 (SV.v (.int .i64 0))) o9) fun v10 o10 =>
 condS v10 (bd (buildSliceS tab o10 48 2 [(0, (SV.v (.int .i64 0))), (1, (SV.v (.int .i64 5)))]) fun v11 o11 =>
 bd (callS ⟨tab, ownF, K⟩ o11 21 [x0, (SV.v (.int .i64 2))]) fun v12 o12 =>
 bd (ret1 (indexAddrS tab o12 48 v11 v12) o12) fun v13 o13 =>
 bd (ret1 (loadS tab o13 3 v13) o13) fun v14 o14 =>
 bd (ret1 (fieldAddrS tab 33 v7 0) o14) fun v15 o15 =>
 bd (storeO tab o15 3 v15 (some v14)) fun v16 o16 =>
 J39_11 K N nl v1 v7 o16)
 (bd (ret1 (binS tab .eql 3 v9 (SV.v (.int .i64 1))) o10) fun v17 o17 =>
 condS v17 (bd (buildSliceS tab o17 48 2 [(0, (SV.v (.int .i64 0))), (1, (SV.v (.int .i64 6)))]) fun v18 o18 =>
 bd (callS ⟨tab, ownF, K⟩ o18 21 [x0, (SV.v (.int .i64 2))]) fun v19 o19 =>
 bd (ret1 (indexAddrS tab o19 48 v18 v19) o19) fun v20 o20 =>
 bd (ret1 (loadS tab o20 3 v20) o20) fun v21 o21 =>
 bd (ret1 (fieldAddrS tab 33 v7 1) o21) fun v22 o22 =>
 bd (storeO tab o22 3 v22 (some v21)) fun v23 o23 =>
 J39_11 K N nl v1 v7 o23)
 (bd (ret1 (binS tab .eql 3 v9 (SV.v (.int .i64 2))) o17) fun v24 o24 =>
 condS v24 (bd (ret1 (fieldAddrS tab 33 v7 2) o24) fun v25 o25 =>
 dchk (isBox v25) <|
 bd (ret1 (loadS tab o25 30 v25) o25) fun v26 o26 =>
 dchk (keepOk ⟨tab, ownF, K⟩ o26 (SV.fn 21 []) [x0, (SV.v (.int .i64 7))] [v25] false) <|
 bd (callS ⟨tab, ownF, K⟩ o26 21 [x0, (SV.v (.int .i64 7))]) fun v27 o27 =>
 dchk (keepOk ⟨tab, ownF, K⟩ o27 (SV.fn 21 []) [x0, (SV.v (.int .i64 12))] [v25] false) <|
 bd (callS ⟨tab, ownF, K⟩ o27 21 [x0, (SV.v (.int .i64 12))]) fun v28 o28 =>
 bd (buildS tab o28 60 [(0, (some v27)), (1, (some v28))]) fun v29 o29 =>
 bd (buildSliceS tab o29 30 1 [(0, v29)]) fun v30 o30 =>
 bd (appendS tab o30 30 30 v26 v30) fun v31 o31 =>
 bd (ret1 (fieldAddrS tab 33 v7 2) o31) fun v32 o32 =>
 bd (storeO tab o32 30 v32 (some v31)) fun v33 o33 =>
 J39_11 K N nl v1 v7 o33)
 (bd (ret1 (binS tab .eql 3 v9 (SV.v (.int .i64 3))) o24) fun v34 o34 =>
 condS v34 (bd (ret1 (fieldAddrS tab 33 v7 3) o34) fun v35 o35 =>
 dchk (isBox v35) <|
 bd (ret1 (loadS tab o35 31 v35) o35) fun v36 o36 =>
 dchk (keepOk ⟨tab, ownF, K⟩ o36 (SV.fn 21 []) [x0, (SV.v (.int .i64 6))] [v35] false) <|
 bd (callS ⟨tab, ownF, K⟩ o36 21 [x0, (SV.v (.int .i64 6))]) fun v37 o37 =>
 dchk (keepOk ⟨tab, ownF, K⟩ o37 (SV.fn 21 []) [x0, (SV.v (.int .i64 7))] [v35] false) <|
 bd (callS ⟨tab, ownF, K⟩ o37 21 [x0, (SV.v (.int .i64 7))]) fun v38 o38 =>
 bd (buildS tab o38 39 [(0, (some v37)), (1, (some v38))]) fun v39 o39 =>
 bd (buildSliceS tab o39 31 1 [(0, v39)]) fun v40 o40 =>
 bd (appendS tab o40 31 31 v36 v40) fun v41 o41 =>
 bd (ret1 (fieldAddrS tab 33 v7 3) o41) fun v42 o42 =>
 bd (storeO tab o42 31 v42 (some v41)) fun v43 o43 =>
 J39_11 K N nl v1 v7 o43)
 (J39_11 K N nl v1 v7 o34))))
noncomputable def bk40_4 (K : Nat → List SV → List SO → Out) (N nl : Nat) (m4 : Nat) : Env → List SO → Out := fun env os => loopS nl (fi40.lp 4) (fun env os nx => exec (cx K) N nl fi40 (subC c40 [1, 1, 1, 0, 1, 0, 0]) env os (kLoop nx (kBlock 0 (kSeq (exec (cx K) N nl fi40 (subC c40 [1, 1, 1, 1])) (fi40.jn 8) (kEnd tab [] nl rs40))))) m4 (killS (fi40.lp 4).alive env) os
noncomputable def bk40_9 (K : Nat → List SV → List SO → Out) (N nl : Nat) (m9 : Nat) : Env → List SO → Out := fun env os => loopS nl (fi40.lp 9) (fun env os nx => exec (cx K) N nl fi40 (subC c40 [1, 1, 1, 1, 0, 1, 0, 0]) env os (kLoop nx (kBlock 2 (kSeq (exec (cx K) N nl fi40 (subC c40 [1, 1, 1, 1, 1])) (fi40.jn 13) (kEnd tab [] nl rs40))))) m9 (killS (fi40.lp 9).alive env) os
noncomputable def L40_4 (K : Nat → List SV → List SO → Out) (N nl : Nat) (m4 : Nat) (x0 x1 x6 x7 x8 x9 : SV) (os : List SO) : Out := loopS nl (fi40.lp 4) (fun env os nx => exec (cx K) N nl fi40 (subC c40 [1, 1, 1, 0, 1, 0, 0]) env os (kLoop nx (kBlock 0 (kSeq (exec (cx K) N nl fi40 (subC c40 [1, 1, 1, 1])) (fi40.jn 8) (kEnd tab [] nl rs40))))) m4 [(0, x0), (1, x1), (6, x6), (7, x7), (8, x8), (9, x9)] os
noncomputable def G40_4 (K : Nat → List SV → List SO → Out) (N nl : Nat) (m4 : Nat) (xs : List SV) (os : List SO) : Out := (fun env os nx => exec (cx K) N nl fi40 (subC c40 [1, 1, 1, 0, 1, 0, 0]) env os (kLoop nx (kBlock 0 (kSeq (exec (cx K) N nl fi40 (subC c40 [1, 1, 1, 1])) (fi40.jn 8) (kEnd tab [] nl rs40))))) (zipE [0, 1, 6, 7, 8, 9] xs) os (bk40_4 K N nl m4)
noncomputable def L40_9 (K : Nat → List SV → List SO → Out) (N nl : Nat) (m9 : Nat) (x0 x1 x6 x7 x10 : SV) (os : List SO) : Out := loopS nl (fi40.lp 9) (fun env os nx => exec (cx K) N nl fi40 (subC c40 [1, 1, 1, 1, 0, 1, 0, 0]) env os (kLoop nx (kBlock 2 (kSeq (exec (cx K) N nl fi40 (subC c40 [1, 1, 1, 1, 1])) (fi40.jn 13) (kEnd tab [] nl rs40))))) m9 [(0, x0), (1, x1), (6, x6), (7, x7), (10, x10)] os
noncomputable def G40_9 (K : Nat → List SV → List SO → Out) (N nl : Nat) (m9 : Nat) (xs : List SV) (os : List SO) : Out := (fun env os nx => exec (cx K) N nl fi40 (subC c40 [1, 1, 1, 1, 0, 1, 0, 0]) env os (kLoop nx (kBlock 2 (kSeq (exec (cx K) N nl fi40 (subC c40 [1, 1, 1, 1, 1])) (fi40.jn 13) (kEnd tab [] nl rs40))))) (zipE [0, 1, 6, 7, 10] xs) os (bk40_9 K N nl m9)
noncomputable def J40_10 (K : Nat → List SV → List SO → Out) (N nl : Nat) (m9 : Nat) (x0 x1 x6 x7 x10 : SV) (os : List SO) : Out := exec (cx K) N nl fi40 (subC c40 [1, 1, 1, 1, 0, 1, 0, 0, 1, 1]) [(0, x0), (1, x1), (6, x6), (7, x7), (10, x10)] os (kLoop (bk40_9 K N nl m9) (kBlock 2 (kSeq (exec (cx K) N nl fi40 (subC c40 [1, 1, 1, 1, 1])) (fi40.jn 13) (kEnd tab [] nl rs40))))
noncomputable def GB40_4 (K : Nat → List SV → List SO → Out) (N nl : Nat) (m4 : Nat) (x0 x1 x6 x7 x8 x9 : SV) (os : List SO) : Out :=
 bd (ret1 (binS tab .gtr 3 x9 (SV.v (.int .i64 0))) os) fun v9 o9 =>
 bd (gd v9 true (some (x8, o9)) o9) fun v10 o10 =>
 bd (gd v9 true (ret1 (binS tab .lss 3 v10 (SV.v (.int .i64 6))) o10) o10) fun v11 o11 =>
 bd (ret1 (pickS v9 v11 (SV.v (.bool false))) o11) fun v12 o12 =>
 condS v12 (bd (ret1 (fieldAddrS tab 33 x7 2) o12) fun v13 o13 =>
 dchk (isBox v13) <|
 bd (ret1 (loadS tab o13 30 v13) o13) fun v14 o14 =>
 dchk (keepOk ⟨tab, ownF, K⟩ o14 (SV.fn 21 []) [x0, (SV.v (.int .i64 10))] [v13] false) <|
 bd (callS ⟨tab, ownF, K⟩ o14 21 [x0, (SV.v (.int .i64 10))]) fun v15 o15 =>
 bd (buildS tab o15 60 [(0, (some x8)), (1, (some v15))]) fun v16 o16 =>
 bd (buildSliceS tab o16 30 1 [(0, v16)]) fun v17 o17 =>
 bd (appendS tab o17 30 30 v14 v17) fun v18 o18 =>
 bd (ret1 (fieldAddrS tab 33 x7 2) o18) fun v19 o19 =>
 bd (storeO tab o19 30 v19 (some v18)) fun v20 o20 =>
 bd (ret1 (binS tab .add 3 x8 (SV.v (.int .i64 1))) o20) fun v21 o21 =>
 bd (callS ⟨tab, ownF, K⟩ o21 21 [x0, (SV.v (.int .i64 3))]) fun v22 o22 =>
 bd (ret1 (binS tab .add 3 v21 v22) o22) fun v23 o23 =>
 bd (ret1 (binS tab .sub 3 x9 (SV.v (.int .i64 1))) o23) fun v24 o24 =>
 L40_4 K N nl m4 x0 x1 x6 x7 v23 v24 o24)
 (L40_9 K N nl N x0 x1 x6 x7 (SV.v (.int .i64 1)) o12)
noncomputable def GB40_9 (K : Nat → List SV → List SO → Out) (N nl : Nat) (m9 : Nat) (x0 x1 x6 x7 x10 : SV) (os : List SO) : Out :=
 bd (ret1 (binS tab .leq 3 x10 (SV.v (.int .i64 4))) os) fun v25 o25 =>
 bd (gd v25 true (ret1 (fieldAddrS tab 33 x7 3) o25) o25) fun v26 o26 =>
 bd (gd v25 true (ret1 (loadS tab o26 31 v26) o26) o26) fun v27 o27 =>
 bd (gd v25 true (lenO tab 31 o27 v27) o27) fun v28 o28 =>
 bd (gd v25 true (ret1 (binS tab .lss 3 v28 (SV.v (.int .i64 2))) o28) o28) fun v29 o29 =>
 bd (ret1 (pickS v25 v29 (SV.v (.bool false))) o29) fun v30 o30 =>
 condS v30 (bd (ret1 (binS tab .neq 3 x10 x1) o30) fun v31 o31 =>
 bd (gd v31 true (some (x0, o31)) o31) fun v32 o32 =>
 bd (gd v31 true (callS ⟨tab, ownF, K⟩ o32 21 [v32, (SV.v (.int .i64 6))]) o32) fun v33 o33 =>
 bd (gd v31 true (ret1 (binS tab .eql 3 v33 (SV.v (.int .i64 0))) o33) o33) fun v34 o34 =>
 bd (ret1 (pickS v31 v34 (SV.v (.bool false))) o34) fun v35 o35 =>
 condS v35 (bd (ret1 (fieldAddrS tab 33 x7 3) o35) fun v36 o36 =>
 dchk (isBox v36) <|
 bd (ret1 (loadS tab o36 31 v36) o36) fun v37 o37 =>
 dchk (keepOk ⟨tab, ownF, K⟩ o37 (SV.fn 21 []) [x0, (SV.v (.int .i64 2))] [v36] false) <|
 bd (callS ⟨tab, ownF, K⟩ o37 21 [x0, (SV.v (.int .i64 2))]) fun v38 o38 =>
 bd (ret1 (binS tab .add 3 (SV.v (.int .i64 1)) v38) o38) fun v39 o39 =>
 bd (buildS tab o39 39 [(0, (some x10)), (1, (some v39))]) fun v40 o40 =>
 bd (buildSliceS tab o40 31 1 [(0, v40)]) fun v41 o41 =>
 bd (appendS tab o41 31 31 v37 v41) fun v42 o42 =>
 bd (ret1 (fieldAddrS tab 33 x7 3) o42) fun v43 o43 =>
 bd (storeO tab o43 31 v43 (some v42)) fun v44 o44 =>
 J40_10 K N nl m9 x0 x1 x6 x7 x10 o44)
 (J40_10 K N nl m9 x0 x1 x6 x7 x10 o35))
 (bd (ret1 (loadS tab o30 33 x7) o30) fun v45 o45 =>
 bd (storeO tab o45 33 x6 (some v45)) fun v46 o46 =>
 retV tab nl o46 (resC1 (loadS tab o46 33 x6) (some [])))
noncomputable def JB40_10 (K : Nat → List SV → List SO → Out) (N nl : Nat) (m9 : Nat) (x0 x1 x6 x7 x10 : SV) (os : List SO) : Out :=
 bd (ret1 (binS tab .add 3 x10 (SV.v (.int .i64 1))) os) fun v47 o47 =>
 L40_9 K N nl m9 x0 x1 x6 x7 v47 o47
noncomputable def X40 (K : Nat → List SV → List SO → Out) (N nl : Nat) (x0 x1 x2 : SV) (os : List SO) : Out := exec (cx K) N nl fi40 c40 [(0, x0), (1, x1), (2, x2)] os (kEnd tab [] nl rs40)
noncomputable def B40 (K : Nat → List SV → List SO → Out) (N nl : Nat) (x0 x1 x2 : SV) (os : List SO) : Out :=
 bd (allocS tab os 33) fun v1 o1 =>
 bd (buildSliceS tab o1 30 0 []) fun v2 o2 =>
 bd (buildSliceS tab o2 31 0 []) fun v3 o3 =>
 bd (buildS tab o3 33 [(0, (some x1)), (1, (some x2)), (2, (some v2)), (3, (some v3))]) fun v4 o4 =>
 bd (allocS tab o4 33) fun v5 o5 =>
 bd (storeO tab o5 33 v5 (some v4)) fun v6 o6 =>
 bd (callS ⟨tab, ownF, K⟩ o6 21 [x0, (SV.v (.int .i64 4))]) fun v7 o7 =>
 bd (callS ⟨tab, ownF, K⟩ o7 21 [x0, (SV.v (.int .i64 3))]) fun v8 o8 =>
 L40_4 K N nl N x0 x1 v1 v5 v7 v8 o8
noncomputable def bk41_2 (K : Nat → List SV → List SO → Out) (N nl : Nat) (m2 : Nat) : Env → List SO → Out := fun env os => loopS nl (fi41.lp 2) (fun env os nx => exec (cx K) N nl fi41 (subC c41 [1, 0, 1, 0, 0]) env os (kLoop nx (kBlock 0 (kSeq (exec (cx K) N nl fi41 (subC c41 [1, 1])) (fi41.jn 6) (kEnd tab [] nl rs41))))) m2 (killS (fi41.lp 2).alive env) os
noncomputable def L41_2 (K : Nat → List SV → List SO → Out) (N nl : Nat) (m2 : Nat) (x0 x1 x2 x7 : SV) (os : List SO) : Out := loopS nl (fi41.lp 2) (fun env os nx => exec (cx K) N nl fi41 (subC c41 [1, 0, 1, 0, 0]) env os (kLoop nx (kBlock 0 (kSeq (exec (cx K) N nl fi41 (subC c41 [1, 1])) (fi41.jn 6) (kEnd tab [] nl rs41))))) m2 [(0, x0), (1, x1), (2, x2), (7, x7)] os
noncomputable def LB41_2 (K : Nat → List SV → List SO → Out) (N nl : Nat) (m2 : Nat) (x0 x1 x2 x7 : SV) (os : List SO) : Out :=
 bd (lenO tab 23 os x0) fun v1 o1 =>
 bd (ret1 (binS tab .lss 3 x7 v1) o1) fun v2 o2 =>
 condS v2 (bd (ret1 (indexAddrS tab o2 23 x0 x7) o2) fun v3 o3 =>
 bd (ret1 (fieldAddrS tab 33 v3 0) o3) fun v4 o4 =>
 bd (ret1 (loadS tab o4 3 v4) o4) fun v5 o5 =>
 bd (ret1 (binS tab .eql 3 v5 x1) o5) fun v6 o6 =>
 bd (gd v6 true (some (x0, o6)) o6) fun v7 o7 =>
 bd (gd v6 true (some (x7, o7)) o7) fun v8 o8 =>
 bd (gd v6 true (ret1 (indexAddrS tab o8 23 v7 v8) o8) o8) fun v9 o9 =>
 bd (gd v6 true (ret1 (fieldAddrS tab 33 v9 1) o9) o9) fun v10 o10 =>
 bd (gd v6 true (ret1 (loadS tab o10 3 v10) o10) o10) fun v11 o11 =>
 bd (gd v6 true (some (x2, o11)) o11) fun v12 o12 =>
 bd (gd v6 true (ret1 (binS tab .eql 3 v11 v12) o12) o12) fun v13 o13 =>
 bd (ret1 (pickS v6 v13 (SV.v (.bool false))) o13) fun v14 o14 =>
 condS v14 (retV tab nl o14 (resC1 (some x7) (some [])))
 (bd (ret1 (binS tab .add 3 x7 (SV.v (.int .i64 1))) o14) fun v15 o15 =>
 L41_2 K N nl m2 x0 x1 x2 v15 o15))
 (retV tab nl o2 (resC1 (some (SV.v (.int .i64 (-1)))) (some [])))
noncomputable def X41 (K : Nat → List SV → List SO → Out) (N nl : Nat) (x0 x1 x2 : SV) (os : List SO) : Out := exec (cx K) N nl fi41 c41 [(0, x0), (1, x1), (2, x2)] os (kEnd tab [] nl rs41)
noncomputable def B41 (K : Nat → List SV → List SO → Out) (N nl : Nat) (x0 x1 x2 : SV) (os : List SO) : Out :=
 L41_2 K N nl N x0 x1 x2 (SV.v (.int .i64 0)) os
noncomputable def bk42_3 (K : Nat → List SV → List SO → Out) (N nl : Nat) (m3 : Nat) : Env → List SO → Out := fun env os => loopS nl (fi42.lp 3) (fun env os nx => exec (cx K) N nl fi42 (subC c42 [1, 1, 0, 1, 0, 0]) env os (kLoop nx (kBlock 0 (kSeq (exec (cx K) N nl fi42 (subC c42 [1, 1, 1])) (fi42.jn 7) (kEnd tab [] nl rs42))))) m3 (killS (fi42.lp 3).alive env) os
noncomputable def bk42_9 (K : Nat → List SV → List SO → Out) (N nl : Nat) (m9 : Nat) : Env → List SO → Out := fun env os => loopS nl (fi42.lp 9) (fun env os nx => exec (cx K) N nl fi42 (subC c42 [1, 1, 1, 1, 0, 1, 0, 0]) env os (kLoop nx (kBlock 2 (kSeq (exec (cx K) N nl fi42 (subC c42 [1, 1, 1, 1, 1])) (fi42.jn 13) (kEnd tab [] nl rs42))))) m9 (killS (fi42.lp 9).alive env) os
noncomputable def L42_3 (K : Nat → List SV → List SO → Out) (N nl : Nat) (m3 : Nat) (x0 x3 x5 x6 : SV) (os : List SO) : Out := loopS nl (fi42.lp 3) (fun env os nx => exec (cx K) N nl fi42 (subC c42 [1, 1, 0, 1, 0, 0]) env os (kLoop nx (kBlock 0 (kSeq (exec (cx K) N nl fi42 (subC c42 [1, 1, 1])) (fi42.jn 7) (kEnd tab [] nl rs42))))) m3 [(0, x0), (3, x3), (5, x5), (6, x6)] os
noncomputable def G42_3 (K : Nat → List SV → List SO → Out) (N nl : Nat) (m3 : Nat) (xs : List SV) (os : List SO) : Out := (fun env os nx => exec (cx K) N nl fi42 (subC c42 [1, 1, 0, 1, 0, 0]) env os (kLoop nx (kBlock 0 (kSeq (exec (cx K) N nl fi42 (subC c42 [1, 1, 1])) (fi42.jn 7) (kEnd tab [] nl rs42))))) (zipE [0, 3, 5, 6] xs) os (bk42_3 K N nl m3)
noncomputable def J42_4 (K : Nat → List SV → List SO → Out) (N nl : Nat) (m3 : Nat) (x0 x3 x5 x6 : SV) (os : List SO) : Out := exec (cx K) N nl fi42 (subC c42 [1, 1, 0, 1, 0, 0, 1, 1]) [(0, x0), (3, x3), (5, x5), (6, x6)] os (kLoop (bk42_3 K N nl m3) (kBlock 0 (kSeq (exec (cx K) N nl fi42 (subC c42 [1, 1, 1])) (fi42.jn 7) (kEnd tab [] nl rs42))))
noncomputable def L42_9 (K : Nat → List SV → List SO → Out) (N nl : Nat) (m9 : Nat) (x0 x3 x5 x7 : SV) (os : List SO) : Out := loopS nl (fi42.lp 9) (fun env os nx => exec (cx K) N nl fi42 (subC c42 [1, 1, 1, 1, 0, 1, 0, 0]) env os (kLoop nx (kBlock 2 (kSeq (exec (cx K) N nl fi42 (subC c42 [1, 1, 1, 1, 1])) (fi42.jn 13) (kEnd tab [] nl rs42))))) m9 [(0, x0), (3, x3), (5, x5), (7, x7)] os
noncomputable def G42_9 (K : Nat → List SV → List SO → Out) (N nl : Nat) (m9 : Nat) (xs : List SV) (os : List SO) : Out := (fun env os nx => exec (cx K) N nl fi42 (subC c42 [1, 1, 1, 1, 0, 1, 0, 0]) env os (kLoop nx (kBlock 2 (kSeq (exec (cx K) N nl fi42 (subC c42 [1, 1, 1, 1, 1])) (fi42.jn 13) (kEnd tab [] nl rs42))))) (zipE [0, 3, 5, 7] xs) os (bk42_9 K N nl m9)
noncomputable def J42_10 (K : Nat → List SV → List SO → Out) (N nl : Nat) (m9 : Nat) (x0 x3 x5 x7 : SV) (os : List SO) : Out := exec (cx K) N nl fi42 (subC c42 [1, 1, 1, 1, 0, 1, 0, 0, 1, 1]) [(0, x0), (3, x3), (5, x5), (7, x7)] os (kLoop (bk42_9 K N nl m9) (kBlock 2 (kSeq (exec (cx K) N nl fi42 (subC c42 [1, 1, 1, 1, 1])) (fi42.jn 13) (kEnd tab [] nl rs42))))
noncomputable def GB42_3 (K : Nat → List SV → List SO → Out) (N nl : Nat) (m3 : Nat) (x0 x3 x5 x6 : SV) (os : List SO) : Out :=
 bd (lenO tab 23 os x0) fun v4 o4 =>
 bd (ret1 (binS tab .lss 3 x6 v4) o4) fun v5 o5 =>
 condS v5 (bd (ret1 (indexAddrS tab o5 23 x0 x6) o5) fun v6 o6 =>
 bd (ret1 (fieldAddrS tab 33 v6 0) o6) fun v7 o7 =>
 bd (ret1 (loadS tab o7 3 v7) o7) fun v8 o8 =>
 bd (ret1 (indexAddrS tab o8 23 x0 x6) o8) fun v9 o9 =>
 bd (ret1 (fieldAddrS tab 33 v9 1) o9) fun v10 o10 =>
 bd (ret1 (loadS tab o10 3 v10) o10) fun v11 o11 =>
 bd (ret1 (fieldAddrS tab 33 x3 0) o11) fun v12 o12 =>
 bd (ret1 (loadS tab o12 3 v12) o12) fun v13 o13 =>
 bd (ret1 (fieldAddrS tab 33 x3 1) o13) fun v14 o14 =>
 bd (ret1 (loadS tab o14 3 v14) o14) fun v15 o15 =>
 bd (callS ⟨tab, ownF, K⟩ o15 58 [v8, v11, v13, v15]) fun v16 o16 =>
 condS v16 (bd (ret1 (indexAddrS tab o16 23 x0 x6) o16) fun v17 o17 =>
 bd (ret1 (loadS tab o17 33 v17) o17) fun v18 o18 =>
 bd (buildSliceS tab o18 23 1 [(0, v18)]) fun v19 o19 =>
 bd (appendS tab o19 23 23 x5 v19) fun v20 o20 =>
 J42_4 K N nl m3 x0 x3 v20 x6 o20)
 (J42_4 K N nl m3 x0 x3 x5 x6 o16))
 (bd (ret1 (loadS tab o5 33 x3) o5) fun v21 o21 =>
 bd (buildSliceS tab o21 23 1 [(0, v21)]) fun v22 o22 =>
 bd (appendS tab o22 23 23 x5 v22) fun v23 o23 =>
 L42_9 K N nl N x0 x3 v23 (SV.v (.int .i64 0)) o23)
noncomputable def JB42_4 (K : Nat → List SV → List SO → Out) (N nl : Nat) (m3 : Nat) (x0 x3 x5 x6 : SV) (os : List SO) : Out :=
 bd (ret1 (binS tab .add 3 x6 (SV.v (.int .i64 1))) os) fun v24 o24 =>
 L42_3 K N nl m3 x0 x3 x5 v24 o24
noncomputable def GB42_9 (K : Nat → List SV → List SO → Out) (N nl : Nat) (m9 : Nat) (x0 x3 x5 x7 : SV) (os : List SO) : Out :=
 bd (lenO tab 23 os x0) fun v25 o25 =>
 bd (ret1 (binS tab .lss 3 x7 v25) o25) fun v26 o26 =>
 condS v26 (bd (ret1 (fieldAddrS tab 33 x3 0) o26) fun v27 o27 =>
 bd (ret1 (loadS tab o27 3 v27) o27) fun v28 o28 =>
 bd (ret1 (fieldAddrS tab 33 x3 1) o28) fun v29 o29 =>
 bd (ret1 (loadS tab o29 3 v29) o29) fun v30 o30 =>
 bd (ret1 (indexAddrS tab o30 23 x0 x7) o30) fun v31 o31 =>
 bd (ret1 (fieldAddrS tab 33 v31 0) o31) fun v32 o32 =>
 bd (ret1 (loadS tab o32 3 v32) o32) fun v33 o33 =>
 bd (ret1 (indexAddrS tab o33 23 x0 x7) o33) fun v34 o34 =>
 bd (ret1 (fieldAddrS tab 33 v34 1) o34) fun v35 o35 =>
 bd (ret1 (loadS tab o35 3 v35) o35) fun v36 o36 =>
 bd (callS ⟨tab, ownF, K⟩ o36 58 [v28, v30, v33, v36]) fun v37 o37 =>
 condS v37 (bd (ret1 (indexAddrS tab o37 23 x0 x7) o37) fun v38 o38 =>
 bd (ret1 (loadS tab o38 33 v38) o38) fun v39 o39 =>
 bd (buildSliceS tab o39 23 1 [(0, v39)]) fun v40 o40 =>
 bd (appendS tab o40 23 23 x5 v40) fun v41 o41 =>
 J42_10 K N nl m9 x0 x3 v41 x7 o41)
 (J42_10 K N nl m9 x0 x3 x5 x7 o37))
 (retV tab nl o26 (resC1 (some x5) (some [])))
noncomputable def JB42_10 (K : Nat → List SV → List SO → Out) (N nl : Nat) (m9 : Nat) (x0 x3 x5 x7 : SV) (os : List SO) : Out :=
 bd (ret1 (binS tab .add 3 x7 (SV.v (.int .i64 1))) os) fun v42 o42 =>
 L42_9 K N nl m9 x0 x3 x5 v42 o42
noncomputable def X42 (K : Nat → List SV → List SO → Out) (N nl : Nat) (x0 x1 : SV) (os : List SO) : Out := exec (cx K) N nl fi42 c42 [(0, x0), (1, x1)] os (kEnd tab [] nl rs42)
noncomputable def B42 (K : Nat → List SV → List SO → Out) (N nl : Nat) (x0 x1 : SV) (os : List SO) : Out :=
 bd (boxS tab os 33 (some x1)) fun v1 o1 =>
 bd (evN tab 23 o1 none) fun v2 o2 =>
 bd (buildSliceS tab o2 23 0 []) fun v3 o3 =>
 L42_3 K N nl N x0 v1 v3 (SV.v (.int .i64 0)) o3
noncomputable def bk43_2 (K : Nat → List SV → List SO → Out) (N nl : Nat) (m2 : Nat) : Env → List SO → Out := fun env os => loopS nl (fi43.lp 2) (fun env os nx => exec (cx K) N nl fi43 (subC c43 [1, 0, 1, 0, 0]) env os (kLoop nx (kBlock 0 (kSeq (exec (cx K) N nl fi43 (subC c43 [1, 1])) (fi43.jn 6) (kEnd tab [] nl rs43))))) m2 (killS (fi43.lp 2).alive env) os
noncomputable def L43_2 (K : Nat → List SV → List SO → Out) (N nl : Nat) (m2 : Nat) (x0 x3 : SV) (os : List SO) : Out := loopS nl (fi43.lp 2) (fun env os nx => exec (cx K) N nl fi43 (subC c43 [1, 0, 1, 0, 0]) env os (kLoop nx (kBlock 0 (kSeq (exec (cx K) N nl fi43 (subC c43 [1, 1])) (fi43.jn 6) (kEnd tab [] nl rs43))))) m2 [(0, x0), (3, x3)] os
noncomputable def LB43_2 (K : Nat → List SV → List SO → Out) (N nl : Nat) (m2 : Nat) (x0 x3 : SV) (os : List SO) : Out :=
 bd (lenO tab 23 os x0) fun v1 o1 =>
 bd (ret1 (binS tab .lss 3 x3 v1) o1) fun v2 o2 =>
 condS v2 (bd (ret1 (indexAddrS tab o2 23 x0 x3) o2) fun v3 o3 =>
 bd (ret1 (loadS tab o3 33 v3) o3) fun v4 o4 =>
 bd (callS ⟨tab, ownF, K⟩ o4 59 [v4]) fun v5 o5 =>
 bd (ret1 (unS .not v5) o5) fun v6 o6 =>
 bd (gd v6 false (some (x3, o6)) o6) fun v7 o7 =>
 bd (gd v6 false (ret1 (binS tab .gtr 3 v7 (SV.v (.int .i64 0))) o7) o7) fun v8 o8 =>
 bd (gd v6 false (some (v8, o8)) o8) fun v9 o9 =>
 bd (gd v9 true (some (x0, o9)) o9) fun v10 o10 =>
 bd (gd v9 true (some (x3, o10)) o10) fun v11 o11 =>
 bd (gd v9 true (ret1 (binS tab .sub 3 v11 (SV.v (.int .i64 1))) o11) o11) fun v12 o12 =>
 bd (gd v9 true (ret1 (indexAddrS tab o12 23 v10 v12) o12) o12) fun v13 o13 =>
 bd (gd v9 true (ret1 (fieldAddrS tab 33 v13 0) o13) o13) fun v14 o14 =>
 bd (gd v9 true (ret1 (loadS tab o14 3 v14) o14) o14) fun v15 o15 =>
 bd (gd v9 true (some (x0, o15)) o15) fun v16 o16 =>
 bd (gd v9 true (some (x3, o16)) o16) fun v17 o17 =>
 bd (gd v9 true (ret1 (binS tab .sub 3 v17 (SV.v (.int .i64 1))) o17) o17) fun v18 o18 =>
 bd (gd v9 true (ret1 (indexAddrS tab o18 23 v16 v18) o18) o18) fun v19 o19 =>
 bd (gd v9 true (ret1 (fieldAddrS tab 33 v19 1) o19) o19) fun v20 o20 =>
 bd (gd v9 true (ret1 (loadS tab o20 3 v20) o20) o20) fun v21 o21 =>
 bd (gd v9 true (some (x0, o21)) o21) fun v22 o22 =>
 bd (gd v9 true (some (x3, o22)) o22) fun v23 o23 =>
 bd (gd v9 true (ret1 (indexAddrS tab o23 23 v22 v23) o23) o23) fun v24 o24 =>
 bd (gd v9 true (ret1 (fieldAddrS tab 33 v24 0) o24) o24) fun v25 o25 =>
 bd (gd v9 true (ret1 (loadS tab o25 3 v25) o25) o25) fun v26 o26 =>
 bd (gd v9 true (some (x0, o26)) o26) fun v27 o27 =>
 bd (gd v9 true (some (x3, o27)) o27) fun v28 o28 =>
 bd (gd v9 true (ret1 (indexAddrS tab o28 23 v27 v28) o28) o28) fun v29 o29 =>
 bd (gd v9 true (ret1 (fieldAddrS tab 33 v29 1) o29) o29) fun v30 o30 =>
 bd (gd v9 true (ret1 (loadS tab o30 3 v30) o30) o30) fun v31 o31 =>
 bd (gd v9 true (callS ⟨tab, ownF, K⟩ o31 58 [v15, v21, v26, v31]) o31) fun v32 o32 =>
 bd (gd v9 true (ret1 (unS .not v32) o32) o32) fun v33 o33 =>
 bd (gd v6 false (ret1 (pickS v9 v33 (SV.v (.bool false))) o33) o33) fun v34 o34 =>
 bd (ret1 (pickS v6 (SV.v (.bool true)) v34) o34) fun v35 o35 =>
 condS v35 (retV tab nl o35 (resC1 (some (SV.v (.bool false))) (some [])))
 (bd (ret1 (binS tab .add 3 x3 (SV.v (.int .i64 1))) o35) fun v36 o36 =>
 L43_2 K N nl m2 x0 v36 o36))
 (retV tab nl o2 (resC1 (some (SV.v (.bool true))) (some [])))
noncomputable def X43 (K : Nat → List SV → List SO → Out) (N nl : Nat) (x0 : SV) (os : List SO) : Out := exec (cx K) N nl fi43 c43 [(0, x0)] os (kEnd tab [] nl rs43)
noncomputable def B43 (K : Nat → List SV → List SO → Out) (N nl : Nat) (x0 : SV) (os : List SO) : Out :=
 L43_2 K N nl N x0 (SV.v (.int .i64 0)) os
noncomputable def X44 (K : Nat → List SV → List SO → Out) (N nl : Nat) (x0 x1 : SV) (os : List SO) : Out := exec (cx K) N nl fi44 c44 [(0, x0), (1, x1)] os (kEnd tab [] nl rs44)
noncomputable def B44 (K : Nat → List SV → List SO → Out) (N nl : Nat) (x0 x1 : SV) (os : List SO) : Out :=
 bd (callS ⟨tab, ownF, K⟩ os 57 [x0, x1]) fun v1 o1 =>
 bd (ret1 (extractS v1 0) o1) fun v2 o2 =>
 bd (ret1 (extractS v1 1) o2) fun v3 o3 =>
 bd (allocS tab o3 33) fun v4 o4 =>
 bd (storeO tab o4 33 v4 (some v2)) fun v5 o5 =>
 retV tab nl o5 (resC1 (some v3) (some []))
noncomputable def X45 (K : Nat → List SV → List SO → Out) (N nl : Nat) (x0 x1 x2 : SV) (os : List SO) : Out := exec (cx K) N nl fi45 c45 [(0, x0), (1, x1), (2, x2)] os (kEnd tab [] nl rs45)
noncomputable def B45 (K : Nat → List SV → List SO → Out) (N nl : Nat) (x0 x1 x2 : SV) (os : List SO) : Out :=
 bd (allocS tab os 33) fun v1 o1 =>
 bd (callS ⟨tab, ownF, K⟩ o1 57 [x0, x2]) fun v2 o2 =>
 bd (ret1 (extractS v2 0) o2) fun v3 o3 =>
 bd (ret1 (extractS v2 1) o3) fun v4 o4 =>
 bd (allocS tab o4 33) fun v5 o5 =>
 bd (storeO tab o5 33 v5 (some v3)) fun v6 o6 =>
 bd (callS ⟨tab, ownF, K⟩ o6 57 [x1, x2]) fun v7 o7 =>
 bd (ret1 (extractS v7 0) o7) fun v8 o8 =>
 bd (ret1 (extractS v7 1) o8) fun v9 o9 =>
 bd (allocS tab o9 33) fun v10 o10 =>
 bd (storeO tab o10 33 v10 (some v8)) fun v11 o11 =>
 bd (gd v4 true (some (v9, o11)) o11) fun v12 o12 =>
 bd (gd v4 true (ret1 (unS .not v12) o12) o12) fun v13 o13 =>
 bd (gd v4 true (some (v13, o13)) o13) fun v14 o14 =>
 bd (gd v14 false (ret1 (fieldAddrS tab 33 v5 1) o14) o14) fun v15 o15 =>
 bd (gd v14 false (ret1 (loadS tab o15 3 v15) o15) o15) fun v16 o16 =>
 bd (gd v14 false (ret1 (fieldAddrS tab 33 v10 1) o16) o16) fun v17 o17 =>
 bd (gd v14 false (ret1 (loadS tab o17 3 v17) o17) o17) fun v18 o18 =>
 bd (gd v14 false (ret1 (binS tab .gtr 3 v16 v18) o18) o18) fun v19 o19 =>
 bd (gd v4 true (ret1 (pickS v14 (SV.v (.bool true)) v19) o19) o19) fun v20 o20 =>
 bd (ret1 (pickS v4 v20 (SV.v (.bool false))) o20) fun v21 o21 =>
 condS v21 (bd (ret1 (loadS tab o21 33 v5) o21) fun v22 o22 =>
 bd (storeO tab o22 33 v1 (some v22)) fun v23 o23 =>
 retV tab nl o23 (resC1 (loadS tab o23 33 v1) (resC1 (some (SV.v (.bool true))) (some []))))
 (bd (ret1 (loadS tab o21 33 v10) o21) fun v24 o24 =>
 bd (storeO tab o24 33 v1 (some v24)) fun v25 o25 =>
 retV tab nl o25 (resC1 (loadS tab o25 33 v1) (resC1 (some v9) (some []))))
noncomputable def bk46_4 (K : Nat → List SV → List SO → Out) (N nl : Nat) (m4 : Nat) : Env → List SO → Out := fun env os => loopS nl (fi46.lp 4) (fun env os nx => exec (cx K) N nl fi46 (subC c46 [1, 1, 0, 1, 0, 0]) env os (kLoop nx (kBlock 0 (kSeq (exec (cx K) N nl fi46 (subC c46 [1, 1, 1])) (fi46.jn 9) (kEnd tab [] nl rs46))))) m4 (killS (fi46.lp 4).alive env) os
noncomputable def bk46_10 (K : Nat → List SV → List SO → Out) (N nl : Nat) (m10 : Nat) : Env → List SO → Out := fun env os => loopS nl (fi46.lp 10) (fun env os nx => exec (cx K) N nl fi46 (subC c46 [1, 1, 1, 0, 1, 0, 0]) env os (kLoop nx (kBlock 2 (kSeq (exec (cx K) N nl fi46 (subC c46 [1, 1, 1, 1])) (fi46.jn 15) (kEnd tab [] nl rs46))))) m10 (killS (fi46.lp 10).alive env) os
noncomputable def L46_4 (K : Nat → List SV → List SO → Out) (N nl : Nat) (m4 : Nat) (x1 x30 x31 x32 : SV) (os : List SO) : Out := loopS nl (fi46.lp 4) (fun env os nx => exec (cx K) N nl fi46 (subC c46 [1, 1, 0, 1, 0, 0]) env os (kLoop nx (kBlock 0 (kSeq (exec (cx K) N nl fi46 (subC c46 [1, 1, 1])) (fi46.jn 9) (kEnd tab [] nl rs46))))) m4 [(1, x1), (30, x30), (31, x31), (32, x32)] os
noncomputable def G46_4 (K : Nat → List SV → List SO → Out) (N nl : Nat) (m4 : Nat) (xs : List SV) (os : List SO) : Out := (fun env os nx => exec (cx K) N nl fi46 (subC c46 [1, 1, 0, 1, 0, 0]) env os (kLoop nx (kBlock 0 (kSeq (exec (cx K) N nl fi46 (subC c46 [1, 1, 1])) (fi46.jn 9) (kEnd tab [] nl rs46))))) (zipE [1, 30, 31, 32] xs) os (bk46_4 K N nl m4)
noncomputable def L46_10 (K : Nat → List SV → List SO → Out) (N nl : Nat) (m10 : Nat) (x1 x65 x66 x67 : SV) (os : List SO) : Out := loopS nl (fi46.lp 10) (fun env os nx => exec (cx K) N nl fi46 (subC c46 [1, 1, 1, 0, 1, 0, 0]) env os (kLoop nx (kBlock 2 (kSeq (exec (cx K) N nl fi46 (subC c46 [1, 1, 1, 1])) (fi46.jn 15) (kEnd tab [] nl rs46))))) m10 [(1, x1), (65, x65), (66, x66), (67, x67)] os
noncomputable def G46_10 (K : Nat → List SV → List SO → Out) (N nl : Nat) (m10 : Nat) (xs : List SV) (os : List SO) : Out := (fun env os nx => exec (cx K) N nl fi46 (subC c46 [1, 1, 1, 0, 1, 0, 0]) env os (kLoop nx (kBlock 2 (kSeq (exec (cx K) N nl fi46 (subC c46 [1, 1, 1, 1])) (fi46.jn 15) (kEnd tab [] nl rs46))))) (zipE [1, 65, 66, 67] xs) os (bk46_10 K N nl m10)
noncomputable def GB46_4 (K : Nat → List SV → List SO → Out) (N nl : Nat) (m4 : Nat) (x1 x30 x31 x32 : SV) (os : List SO) : Out :=
 bd (ret1 (binS tab .lss 3 x32 x31) os) fun v24 o24 =>
 condS v24 (bd (ret1 (indexAddrS tab o24 30 x30 x32) o24) fun v25 o25 =>
 bd (ret1 (loadS tab o25 60 v25) o25) fun v26 o26 =>
 bd (allocS tab o26 60) fun v27 o27 =>
 bd (storeO tab o27 60 v27 (some v26)) fun v28 o28 =>
 bd (ret1 (fieldAddrS tab 60 v27 0) o28) fun v29 o29 =>
 bd (ret1 (loadS tab o29 3 v29) o29) fun v30 o30 =>
 bd (callS ⟨tab, ownF, K⟩ o30 48 [v30, (SV.v (.int .i64 0)), (SV.v (.int .i64 5))]) fun v31 o31 =>
 bd (ret1 (unS .not v31) o31) fun v32 o32 =>
 bd (gd v32 false (ret1 (fieldAddrS tab 60 v27 1) o32) o32) fun v33 o33 =>
 bd (gd v32 false (ret1 (loadS tab o33 3 v33) o33) o33) fun v34 o34 =>
 bd (gd v32 false (callS ⟨tab, ownF, K⟩ o34 48 [v34, (SV.v (.int .i64 0)), (SV.v (.int .i64 9))]) o34) fun v35 o35 =>
 bd (gd v32 false (ret1 (unS .not v35) o35) o35) fun v36 o36 =>
 bd (ret1 (pickS v32 (SV.v (.bool true)) v36) o36) fun v37 o37 =>
 bd (gd v37 false (some (x32, o37)) o37) fun v38 o38 =>
 bd (gd v37 false (ret1 (binS tab .gtr 3 v38 (SV.v (.int .i64 0))) o38) o38) fun v39 o39 =>
 bd (gd v37 false (some (v39, o39)) o39) fun v40 o40 =>
 bd (gd v40 true (ret1 (fieldAddrS tab 60 v27 0) o40) o40) fun v41 o41 =>
 bd (gd v40 true (ret1 (loadS tab o41 3 v41) o41) o41) fun v42 o42 =>
 bd (gd v40 true (ret1 (fieldAddrS tab 33 x1 2) o42) o42) fun v43 o43 =>
 bd (gd v40 true (ret1 (loadS tab o43 30 v43) o43) o43) fun v44 o44 =>
 bd (gd v40 true (some (x32, o44)) o44) fun v45 o45 =>
 bd (gd v40 true (ret1 (binS tab .sub 3 v45 (SV.v (.int .i64 1))) o45) o45) fun v46 o46 =>
 bd (gd v40 true (ret1 (indexAddrS tab o46 30 v44 v46) o46) o46) fun v47 o47 =>
 bd (gd v40 true (ret1 (fieldAddrS tab 60 v47 0) o47) o47) fun v48 o48 =>
 bd (gd v40 true (ret1 (loadS tab o48 3 v48) o48) o48) fun v49 o49 =>
 bd (gd v40 true (ret1 (binS tab .leq 3 v42 v49) o49) o49) fun v50 o50 =>
 bd (gd v37 false (ret1 (pickS v40 v50 (SV.v (.bool false))) o50) o50) fun v51 o51 =>
 bd (ret1 (pickS v37 (SV.v (.bool true)) v51) o51) fun v52 o52 =>
 condS v52 (retV tab nl o52 (resC1 (some (SV.v (.bool false))) (some [])))
 (bd (ret1 (binS tab .add 3 x32 (SV.v (.int .i64 1))) o52) fun v53 o53 =>
 L46_4 K N nl m4 x1 x30 x31 v53 o53))
 (bd (ret1 (fieldAddrS tab 33 x1 3) o24) fun v54 o54 =>
 bd (ret1 (loadS tab o54 31 v54) o54) fun v55 o55 =>
 bd (lenO tab 31 o55 v55) fun v56 o56 =>
 L46_10 K N nl N x1 v55 v56 (SV.v (.int .i64 0)) o56)
noncomputable def GB46_10 (K : Nat → List SV → List SO → Out) (N nl : Nat) (m10 : Nat) (x1 x65 x66 x67 : SV) (os : List SO) : Out :=
 bd (ret1 (binS tab .lss 3 x67 x66) os) fun v57 o57 =>
 condS v57 (bd (ret1 (indexAddrS tab o57 31 x65 x67) o57) fun v58 o58 =>
 bd (ret1 (loadS tab o58 39 v58) o58) fun v59 o59 =>
 bd (allocS tab o59 39) fun v60 o60 =>
 bd (storeO tab o60 39 v60 (some v59)) fun v61 o61 =>
 bd (ret1 (fieldAddrS tab 39 v60 0) o61) fun v62 o62 =>
 bd (ret1 (loadS tab o62 3 v62) o62) fun v63 o63 =>
 bd (callS ⟨tab, ownF, K⟩ o63 26 [v63]) fun v64 o64 =>
 bd (ret1 (unS .not v64) o64) fun v65 o65 =>
 bd (gd v65 false (ret1 (fieldAddrS tab 39 v60 0) o65) o65) fun v66 o66 =>
 bd (gd v65 false (ret1 (loadS tab o66 3 v66) o66) o66) fun v67 o67 =>
 bd (gd v65 false (ret1 (fieldAddrS tab 33 x1 0) o67) o67) fun v68 o68 =>
 bd (gd v65 false (ret1 (loadS tab o68 3 v68) o68) o68) fun v69 o69 =>
 bd (gd v65 false (ret1 (binS tab .eql 3 v67 v69) o69) o69) fun v70 o70 =>
 bd (ret1 (pickS v65 (SV.v (.bool true)) v70) o70) fun v71 o71 =>
 bd (gd v71 false (ret1 (fieldAddrS tab 39 v60 1) o71) o71) fun v72 o72 =>
 bd (gd v71 false (ret1 (loadS tab o72 3 v72) o72) o72) fun v73 o73 =>
 bd (gd v71 false (callS ⟨tab, ownF, K⟩ o73 60 [v73]) o73) fun v74 o74 =>
 bd (gd v71 false (ret1 (unS .not v74) o74) o74) fun v75 o75 =>
 bd (ret1 (pickS v71 (SV.v (.bool true)) v75) o75) fun v76 o76 =>
 bd (gd v76 false (some (x67, o76)) o76) fun v77 o77 =>
 bd (gd v76 false (ret1 (binS tab .gtr 3 v77 (SV.v (.int .i64 0))) o77) o77) fun v78 o78 =>
 bd (gd v76 false (some (v78, o78)) o78) fun v79 o79 =>
 bd (gd v79 true (ret1 (fieldAddrS tab 39 v60 0) o79) o79) fun v80 o80 =>
 bd (gd v79 true (ret1 (loadS tab o80 3 v80) o80) o80) fun v81 o81 =>
 bd (gd v79 true (ret1 (fieldAddrS tab 33 x1 3) o81) o81) fun v82 o82 =>
 bd (gd v79 true (ret1 (loadS tab o82 31 v82) o82) o82) fun v83 o83 =>
 bd (gd v79 true (some (x67, o83)) o83) fun v84 o84 =>
 bd (gd v79 true (ret1 (binS tab .sub 3 v84 (SV.v (.int .i64 1))) o84) o84) fun v85 o85 =>
 bd (gd v79 true (ret1 (indexAddrS tab o85 31 v83 v85) o85) o85) fun v86 o86 =>
 bd (gd v79 true (ret1 (fieldAddrS tab 39 v86 0) o86) o86) fun v87 o87 =>
 bd (gd v79 true (ret1 (loadS tab o87 3 v87) o87) o87) fun v88 o88 =>
 bd (gd v79 true (ret1 (binS tab .leq 3 v81 v88) o88) o88) fun v89 o89 =>
 bd (gd v76 false (ret1 (pickS v79 v89 (SV.v (.bool false))) o89) o89) fun v90 o90 =>
 bd (ret1 (pickS v76 (SV.v (.bool true)) v90) o90) fun v91 o91 =>
 condS v91 (retV tab nl o91 (resC1 (some (SV.v (.bool false))) (some [])))
 (bd (ret1 (binS tab .add 3 x67 (SV.v (.int .i64 1))) o91) fun v92 o92 =>
 L46_10 K N nl m10 x1 x65 x66 v92 o92))
 (retV tab nl o57 (resC1 (some (SV.v (.bool true))) (some [])))
noncomputable def X46 (K : Nat → List SV → List SO → Out) (N nl : Nat) (x0 : SV) (os : List SO) : Out := exec (cx K) N nl fi46 c46 [(0, x0)] os (kEnd tab [] nl rs46)
noncomputable def B46 (K : Nat → List SV → List SO → Out) (N nl : Nat) (x0 : SV) (os : List SO) : Out :=
 bd (boxS tab os 33 (some x0)) fun v1 o1 =>
 bd (ret1 (fieldAddrS tab 33 v1 0) o1) fun v2 o2 =>
 bd (ret1 (loadS tab o2 3 v2) o2) fun v3 o3 =>
 bd (callS ⟨tab, ownF, K⟩ o3 26 [v3]) fun v4 o4 =>
 bd (ret1 (unS .not v4) o4) fun v5 o5 =>
 bd (gd v5 false (ret1 (fieldAddrS tab 33 v1 1) o5) o5) fun v6 o6 =>
 bd (gd v5 false (ret1 (loadS tab o6 3 v6) o6) o6) fun v7 o7 =>
 bd (gd v5 false (callS ⟨tab, ownF, K⟩ o7 60 [v7]) o7) fun v8 o8 =>
 bd (gd v5 false (ret1 (unS .not v8) o8) o8) fun v9 o9 =>
 bd (ret1 (pickS v5 (SV.v (.bool true)) v9) o9) fun v10 o10 =>
 bd (gd v10 false (ret1 (fieldAddrS tab 33 v1 2) o10) o10) fun v11 o11 =>
 bd (gd v10 false (ret1 (loadS tab o11 30 v11) o11) o11) fun v12 o12 =>
 bd (gd v10 false (lenO tab 30 o12 v12) o12) fun v13 o13 =>
 bd (gd v10 false (ret1 (binS tab .gtr 3 v13 (SV.v (.int .i64 2))) o13) o13) fun v14 o14 =>
 bd (ret1 (pickS v10 (SV.v (.bool true)) v14) o14) fun v15 o15 =>
 bd (gd v15 false (ret1 (fieldAddrS tab 33 v1 3) o15) o15) fun v16 o16 =>
 bd (gd v15 false (ret1 (loadS tab o16 31 v16) o16) o16) fun v17 o17 =>
 bd (gd v15 false (lenO tab 31 o17 v17) o17) fun v18 o18 =>
 bd (gd v15 false (ret1 (binS tab .gtr 3 v18 (SV.v (.int .i64 2))) o18) o18) fun v19 o19 =>
 bd (ret1 (pickS v15 (SV.v (.bool true)) v19) o19) fun v20 o20 =>
 condS v20 (retV tab nl o20 (resC1 (some (SV.v (.bool false))) (some [])))
 (bd (ret1 (fieldAddrS tab 33 v1 2) o20) fun v21 o21 =>
 bd (ret1 (loadS tab o21 30 v21) o21) fun v22 o22 =>
 bd (lenO tab 30 o22 v22) fun v23 o23 =>
 L46_4 K N nl N v1 v22 v23 (SV.v (.int .i64 0)) o23)
noncomputable def X47 (K : Nat → List SV → List SO → Out) (N nl : Nat) (x0 x1 : SV) (os : List SO) : Out := exec (cx K) N nl fi47 c47 [(0, x0), (1, x1)] os (kEnd tab [] nl rs47)
noncomputable def B47 (K : Nat → List SV → List SO → Out) (N nl : Nat) (x0 x1 : SV) (os : List SO) : Out :=
 bd (boxS tab os 33 (some x0)) fun v1 o1 =>
 bd (boxS tab o1 33 (some x1)) fun v2 o2 =>
 bd (ret1 (fieldAddrS tab 33 v1 0) o2) fun v3 o3 =>
 bd (ret1 (loadS tab o3 3 v3) o3) fun v4 o4 =>
 bd (ret1 (fieldAddrS tab 33 v2 0) o4) fun v5 o5 =>
 bd (ret1 (loadS tab o5 3 v5) o5) fun v6 o6 =>
 dchk (keepOk ⟨tab, ownF, K⟩ o6 (SV.fn 62 []) [v4, v6] [] true) <|
 bd (callS ⟨tab, ownF, K⟩ o6 62 [v4, v6]) fun v7 o7 =>
 bd (ret1 (fieldAddrS tab 33 v1 1) o7) fun v8 o8 =>
 dchk (isBox v8) <|
 bd (ret1 (loadS tab o8 3 v8) o8) fun v9 o9 =>
 bd (ret1 (fieldAddrS tab 33 v2 1) o9) fun v10 o10 =>
 dchk (isBox v10) <|
 bd (ret1 (loadS tab o10 3 v10) o10) fun v11 o11 =>
 bd (callS ⟨tab, ownF, K⟩ o11 62 [v9, v11]) fun v12 o12 =>
 bd (buildSliceS tab o12 48 2 [(0, v7), (1, v12)]) fun v13 o13 =>
 bd (callS ⟨tab, ownF, K⟩ o13 61 [v13]) fun v14 o14 =>
 retV tab nl o14 (resC1 (some v14) (some []))
noncomputable def X48 (K : Nat → List SV → List SO → Out) (N nl : Nat) (x0 x1 x2 : SV) (os : List SO) : Out := exec (cx K) N nl fi48 c48 [(0, x0), (1, x1), (2, x2)] os (kEnd tab [] nl rs48)
noncomputable def B48 (K : Nat → List SV → List SO → Out) (N nl : Nat) (x0 x1 x2 : SV) (os : List SO) : Out :=
 bd (ret1 (binS tab .geq 3 x0 x1) os) fun v1 o1 =>
 bd (gd v1 true (some (x0, o1)) o1) fun v2 o2 =>
 bd (gd v1 true (some (x2, o2)) o2) fun v3 o3 =>
 bd (gd v1 true (ret1 (binS tab .leq 3 v2 v3) o3) o3) fun v4 o4 =>
 bd (ret1 (pickS v1 v4 (SV.v (.bool false))) o4) fun v5 o5 =>
 retV tab nl o5 (resC1 (some v5) (some []))
noncomputable def bk49_2 (K : Nat → List SV → List SO → Out) (N nl : Nat) (m2 : Nat) : Env → List SO → Out := fun env os => loopS nl (fi49.lp 2) (fun env os nx => exec (cx K) N nl fi49 (subC c49 [1, 0, 1, 0, 0]) env os (kLoop nx (kBlock 0 (kSeq (exec (cx K) N nl fi49 (subC c49 [1, 1])) (fi49.jn 7) (kEnd tab [] nl rs49))))) m2 (killS (fi49.lp 2).alive env) os
noncomputable def L49_2 (K : Nat → List SV → List SO → Out) (N nl : Nat) (m2 : Nat) (x0 x1 x7 x8 : SV) (os : List SO) : Out := loopS nl (fi49.lp 2) (fun env os nx => exec (cx K) N nl fi49 (subC c49 [1, 0, 1, 0, 0]) env os (kLoop nx (kBlock 0 (kSeq (exec (cx K) N nl fi49 (subC c49 [1, 1])) (fi49.jn 7) (kEnd tab [] nl rs49))))) m2 [(0, x0), (1, x1), (7, x7), (8, x8)] os
noncomputable def LB49_2 (K : Nat → List SV → List SO → Out) (N nl : Nat) (m2 : Nat) (x0 x1 x7 x8 : SV) (os : List SO) : Out :=
 bd (ret1 (binS tab .lss 3 x8 x7) os) fun v2 o2 =>
 condS v2 (bd (ret1 (indexAddrS tab o2 48 x0 x8) o2) fun v3 o3 =>
 bd (ret1 (loadS tab o3 3 v3) o3) fun v4 o4 =>
 bd (ret1 (binS tab .eql 3 x1 v4) o4) fun v5 o5 =>
 condS v5 (retV tab nl o5 (resC1 (some x8) (some [])))
 (bd (ret1 (binS tab .add 3 x8 (SV.v (.int .i64 1))) o5) fun v6 o6 =>
 L49_2 K N nl m2 x0 x1 x7 v6 o6))
 (retV tab nl o2 (resC1 (some (SV.v (.int .i64 (-1)))) (some [])))
noncomputable def X49 (K : Nat → List SV → List SO → Out) (N nl : Nat) (x0 x1 : SV) (os : List SO) : Out := exec (cx K) N nl fi49 c49 [(0, x0), (1, x1)] os (kEnd tab [] nl rs49)
noncomputable def B49 (K : Nat → List SV → List SO → Out) (N nl : Nat) (x0 x1 : SV) (os : List SO) : Out :=
 bd (lenO tab 48 os x0) fun v1 o1 =>
 L49_2 K N nl N x0 x1 v1 (SV.v (.int .i64 0)) o1
noncomputable def bk50_3 (K : Nat → List SV → List SO → Out) (N nl : Nat) (m3 : Nat) : Env → List SO → Out := fun env os => loopS nl (fi50.lp 3) (fun env os nx => exec (cx K) N nl fi50 (subC c50 [1, 1, 1, 0, 0, 0]) env os (kLoop nx (kBlock 0 (kSeq (exec (cx K) N nl fi50 (subC c50 [1, 1, 1, 1])) (fi50.jn 8) (kEnd tab [] nl rs50))))) m3 (killS (fi50.lp 3).alive env) os
noncomputable def L50_3 (K : Nat → List SV → List SO → Out) (N nl : Nat) (m3 : Nat) (x0 x2 x4 x8 x9 x10 : SV) (os : List SO) : Out := loopS nl (fi50.lp 3) (fun env os nx => exec (cx K) N nl fi50 (subC c50 [1, 1, 1, 0, 0, 0]) env os (kLoop nx (kBlock 0 (kSeq (exec (cx K) N nl fi50 (subC c50 [1, 1, 1, 1])) (fi50.jn 8) (kEnd tab [] nl rs50))))) m3 [(0, x0), (2, x2), (4, x4), (8, x8), (9, x9), (10, x10)] os
noncomputable def LB50_3 (K : Nat → List SV → List SO → Out) (N nl : Nat) (m3 : Nat) (x0 x2 x4 x8 x9 x10 : SV) (os : List SO) : Out :=
 bd (ret1 (binS tab .lss 3 x9 x10) os) fun v3 o3 =>
 condS v3 (bd (ret1 (binS tab .add 3 x9 x10) o3) fun v4 o4 =>
 bd (convS tab o4 3 83 v4) fun v5 o5 =>
 bd (ret1 (binS tab .shr 83 v5 (SV.v (.int .u64 1))) o5) fun v6 o6 =>
 bd (convS tab o6 83 3 v6) fun v7 o7 =>
 bd (ret1 (indexAddrS tab o7 23 x0 v7) o7) fun v8 o8 =>
 bd (ret1 (loadS tab o8 33 v8) o8) fun v9 o9 =>
 bd (ret1 (loadS tab o9 33 x4) o9) fun v10 o10 =>
 bd (calleeS ⟨tab, ownF, K⟩ o10 x2 [v9, v10]) fun v11 o11 =>
 bd (ret1 (binS tab .lss 3 v11 (SV.v (.int .i64 0))) o11) fun v12 o12 =>
 condS v12 (bd (ret1 (binS tab .add 3 v7 (SV.v (.int .i64 1))) o12) fun v13 o13 =>
 L50_3 K N nl m3 x0 x2 x4 x8 v13 x10 o13)
 (L50_3 K N nl m3 x0 x2 x4 x8 x9 v7 o12))
 (bd (ret1 (binS tab .lss 3 x9 x8) o3) fun v14 o14 =>
 bd (gd v14 true (some (x2, o14)) o14) fun v15 o15 =>
 bd (gd v14 true (some (x0, o15)) o15) fun v16 o16 =>
 bd (gd v14 true (some (x9, o16)) o16) fun v17 o17 =>
 bd (gd v14 true (ret1 (indexAddrS tab o17 23 v16 v17) o17) o17) fun v18 o18 =>
 bd (gd v14 true (ret1 (loadS tab o18 33 v18) o18) o18) fun v19 o19 =>
 bd (gd v14 true (ret1 (loadS tab o19 33 x4) o19) o19) fun v20 o20 =>
 bd (gd v14 true (calleeS ⟨tab, ownF, K⟩ o20 v15 [v19, v20]) o20) fun v21 o21 =>
 bd (gd v14 true (ret1 (binS tab .eql 3 v21 (SV.v (.int .i64 0))) o21) o21) fun v22 o22 =>
 bd (ret1 (pickS v14 v22 (SV.v (.bool false))) o22) fun v23 o23 =>
 retV tab nl o23 (resC1 (some x9) (resC1 (some v23) (some []))))
noncomputable def X50 (K : Nat → List SV → List SO → Out) (N nl : Nat) (x0 x1 x2 : SV) (os : List SO) : Out := exec (cx K) N nl fi50 c50 [(0, x0), (1, x1), (2, x2)] os (kEnd tab [] nl rs50)
noncomputable def B50 (K : Nat → List SV → List SO → Out) (N nl : Nat) (x0 x1 x2 : SV) (os : List SO) : Out :=
 bd (boxS tab os 33 (some x1)) fun v1 o1 =>
 bd (lenO tab 23 o1 x0) fun v2 o2 =>
 L50_3 K N nl N x0 x2 v1 v2 (SV.v (.int .i64 0)) v2 o2
noncomputable def bk54_2 (K : Nat → List SV → List SO → Out) (N nl : Nat) (m2 : Nat) : Env → List SO → Out := fun env os => loopS nl (fi54.lp 2) (fun env os nx => exec (cx K) N nl fi54 (subC c54 [1, 0, 1, 0, 0]) env os (kLoop nx (kBlock 0 (kSeq (exec (cx K) N nl fi54 (subC c54 [1, 1])) (fi54.jn 7) (kEnd tab [] nl rs54))))) m2 (killS (fi54.lp 2).alive env) os
noncomputable def L54_2 (K : Nat → List SV → List SO → Out) (N nl : Nat) (m2 : Nat) (x0 x1 x7 x8 : SV) (os : List SO) : Out := loopS nl (fi54.lp 2) (fun env os nx => exec (cx K) N nl fi54 (subC c54 [1, 0, 1, 0, 0]) env os (kLoop nx (kBlock 0 (kSeq (exec (cx K) N nl fi54 (subC c54 [1, 1])) (fi54.jn 7) (kEnd tab [] nl rs54))))) m2 [(0, x0), (1, x1), (7, x7), (8, x8)] os
noncomputable def LB54_2 (K : Nat → List SV → List SO → Out) (N nl : Nat) (m2 : Nat) (x0 x1 x7 x8 : SV) (os : List SO) : Out :=
 bd (ret1 (binS tab .lss 3 x8 x7) os) fun v2 o2 =>
 condS v2 (bd (ret1 (indexAddrS tab o2 31 x0 x8) o2) fun v3 o3 =>
 bd (ret1 (loadS tab o3 39 v3) o3) fun v4 o4 =>
 bd (calleeS ⟨tab, ownF, K⟩ o4 x1 [v4]) fun v5 o5 =>
 condS v5 (retV tab nl o5 (resC1 (some x8) (some [])))
 (bd (ret1 (binS tab .add 3 x8 (SV.v (.int .i64 1))) o5) fun v6 o6 =>
 L54_2 K N nl m2 x0 x1 x7 v6 o6))
 (retV tab nl o2 (resC1 (some (SV.v (.int .i64 (-1)))) (some [])))
noncomputable def X54 (K : Nat → List SV → List SO → Out) (N nl : Nat) (x0 x1 : SV) (os : List SO) : Out := exec (cx K) N nl fi54 c54 [(0, x0), (1, x1)] os (kEnd tab [] nl rs54)
noncomputable def B54 (K : Nat → List SV → List SO → Out) (N nl : Nat) (x0 x1 : SV) (os : List SO) : Out :=
 bd (lenO tab 31 os x0) fun v1 o1 =>
 L54_2 K N nl N x0 x1 v1 (SV.v (.int .i64 0)) o1
noncomputable def X55 (K : Nat → List SV → List SO → Out) (N nl : Nat) (x0 x1 : SV) (os : List SO) : Out := exec (cx K) N nl fi55 c55 [(0, x0), (1, x1)] os (kEnd tab [] nl rs55)
noncomputable def B55 (K : Nat → List SV → List SO → Out) (N nl : Nat) (x0 x1 : SV) (os : List SO) : Out :=
 bd (callS ⟨tab, ownF, K⟩ os 65 [x0, x1]) fun v1 o1 =>
 bd (ret1 (binS tab .geq 3 v1 (SV.v (.int .i64 0))) o1) fun v2 o2 =>
 retV tab nl o2 (resC1 (some v2) (some []))
noncomputable def X56 (K : Nat → List SV → List SO → Out) (N nl : Nat) (x0 x1 : SV) (os : List SO) : Out := exec (cx K) N nl fi56 c56 [(0, x0), (1, x1)] os (kEnd tab [] nl rs56)
noncomputable def B56 (K : Nat → List SV → List SO → Out) (N nl : Nat) (x0 x1 : SV) (os : List SO) : Out :=
 bd (boxS tab os 33 (some x0)) fun v1 o1 =>
 bd (ret1 (fieldAddrS tab 33 v1 0) o1) fun v2 o2 =>
 bd (ret1 (loadS tab o2 3 v2) o2) fun v3 o3 =>
 bd (ret1 (fieldAddrS tab 39 x1 0) o3) fun v4 o4 =>
 bd (ret1 (loadS tab o4 3 v4) o4) fun v5 o5 =>
 bd (ret1 (binS tab .eql 3 v3 v5) o5) fun v6 o6 =>
 bd (gd v6 true (ret1 (fieldAddrS tab 33 v1 1) o6) o6) fun v7 o7 =>
 bd (gd v6 true (ret1 (loadS tab o7 3 v7) o7) o7) fun v8 o8 =>
 bd (gd v6 true (ret1 (fieldAddrS tab 39 x1 1) o8) o8) fun v9 o9 =>
 bd (gd v6 true (ret1 (loadS tab o9 3 v9) o9) o9) fun v10 o10 =>
 bd (gd v6 true (ret1 (binS tab .geq 3 v8 v10) o10) o10) fun v11 o11 =>
 bd (ret1 (pickS v6 v11 (SV.v (.bool false))) o11) fun v12 o12 =>
 retV tab nl o12 (resC1 (some v12) (some []))
noncomputable def bk57_2 (K : Nat → List SV → List SO → Out) (N nl : Nat) (m2 : Nat) : Env → List SO → Out := fun env os => loopS nl (fi57.lp 2) (fun env os nx => exec (cx K) N nl fi57 (subC c57 [1, 0, 1, 0, 0]) env os (kLoop nx (kBlock 0 (kSeq (exec (cx K) N nl fi57 (subC c57 [1, 1])) (fi57.jn 6) (kEnd tab [] nl rs57))))) m2 (killS (fi57.lp 2).alive env) os
noncomputable def L57_2 (K : Nat → List SV → List SO → Out) (N nl : Nat) (m2 : Nat) (x0 x1 x4 x6 : SV) (os : List SO) : Out := loopS nl (fi57.lp 2) (fun env os nx => exec (cx K) N nl fi57 (subC c57 [1, 0, 1, 0, 0]) env os (kLoop nx (kBlock 0 (kSeq (exec (cx K) N nl fi57 (subC c57 [1, 1])) (fi57.jn 6) (kEnd tab [] nl rs57))))) m2 [(0, x0), (1, x1), (4, x4), (6, x6)] os
noncomputable def G57_2 (K : Nat → List SV → List SO → Out) (N nl : Nat) (m2 : Nat) (xs : List SV) (os : List SO) : Out := (fun env os nx => exec (cx K) N nl fi57 (subC c57 [1, 0, 1, 0, 0]) env os (kLoop nx (kBlock 0 (kSeq (exec (cx K) N nl fi57 (subC c57 [1, 1])) (fi57.jn 6) (kEnd tab [] nl rs57))))) (zipE [0, 1, 4, 6] xs) os (bk57_2 K N nl m2)
noncomputable def GB57_2 (K : Nat → List SV → List SO → Out) (N nl : Nat) (m2 : Nat) (x0 x1 x4 x6 : SV) (os : List SO) : Out :=
 bd (ret1 (binS tab .geq 3 x6 (SV.v (.int .i64 0))) os) fun v4 o4 =>
 condS v4 (bd (ret1 (indexAddrS tab o4 23 x0 x6) o4) fun v5 o5 =>
 bd (ret1 (fieldAddrS tab 33 v5 0) o5) fun v6 o6 =>
 bd (ret1 (loadS tab o6 3 v6) o6) fun v7 o7 =>
 bd (ret1 (binS tab .eql 3 v7 x1) o7) fun v8 o8 =>
 condS v8 (bd (ret1 (indexAddrS tab o8 23 x0 x6) o8) fun v9 o9 =>
 bd (ret1 (loadS tab o9 33 v9) o9) fun v10 o10 =>
 bd (callS ⟨tab, ownF, K⟩ o10 66 [v10]) fun v11 o11 =>
 bd (storeO tab o11 33 x4 (some v11)) fun v12 o12 =>
 retV tab nl o12 (resC1 (loadS tab o12 33 x4) (resC1 (some (SV.v (.bool true))) (some []))))
 (bd (ret1 (binS tab .sub 3 x6 (SV.v (.int .i64 1))) o8) fun v13 o13 =>
 L57_2 K N nl m2 x0 x1 x4 v13 o13))
 (bd (buildS tab o4 33 []) fun v14 o14 =>
 bd (storeO tab o14 33 x4 (some v14)) fun v15 o15 =>
 retV tab nl o15 (resC1 (loadS tab o15 33 x4) (resC1 (some (SV.v (.bool false))) (some []))))
noncomputable def X57 (K : Nat → List SV → List SO → Out) (N nl : Nat) (x0 x1 : SV) (os : List SO) : Out := exec (cx K) N nl fi57 c57 [(0, x0), (1, x1)] os (kEnd tab [] nl rs57)
noncomputable def B57 (K : Nat → List SV → List SO → Out) (N nl : Nat) (x0 x1 : SV) (os : List SO) : Out :=
 bd (allocS tab os 33) fun v1 o1 =>
 bd (lenO tab 23 o1 x0) fun v2 o2 =>
 bd (ret1 (binS tab .sub 3 v2 (SV.v (.int .i64 1))) o2) fun v3 o3 =>
 L57_2 K N nl N x0 x1 v1 v3 o3
noncomputable def X58 (K : Nat → List SV → List SO → Out) (N nl : Nat) (x0 x1 x2 x3 : SV) (os : List SO) : Out := exec (cx K) N nl fi58 c58 [(0, x0), (1, x1), (2, x2), (3, x3)] os (kEnd tab [] nl rs58)
noncomputable def B58 (K : Nat → List SV → List SO → Out) (N nl : Nat) (x0 x1 x2 x3 : SV) (os : List SO) : Out :=
 bd (ret1 (binS tab .lss 3 x0 x2) os) fun v1 o1 =>
 bd (gd v1 false (some (x0, o1)) o1) fun v2 o2 =>
 bd (gd v1 false (some (x2, o2)) o2) fun v3 o3 =>
 bd (gd v1 false (ret1 (binS tab .eql 3 v2 v3) o3) o3) fun v4 o4 =>
 bd (gd v1 false (some (v4, o4)) o4) fun v5 o5 =>
 bd (gd v5 true (some (x1, o5)) o5) fun v6 o6 =>
 bd (gd v5 true (some (x3, o6)) o6) fun v7 o7 =>
 bd (gd v5 true (ret1 (binS tab .lss 3 v6 v7) o7) o7) fun v8 o8 =>
 bd (gd v1 false (ret1 (pickS v5 v8 (SV.v (.bool false))) o8) o8) fun v9 o9 =>
 bd (ret1 (pickS v1 (SV.v (.bool true)) v9) o9) fun v10 o10 =>
 retV tab nl o10 (resC1 (some v10) (some []))
noncomputable def X59 (K : Nat → List SV → List SO → Out) (N nl : Nat) (x0 : SV) (os : List SO) : Out := exec (cx K) N nl fi59 c59 [(0, x0)] os (kEnd tab [] nl rs59)
noncomputable def B59 (K : Nat → List SV → List SO → Out) (N nl : Nat) (x0 : SV) (os : List SO) : Out :=
 bd (boxS tab os 33 (some x0)) fun v1 o1 =>
 bd (ret1 (fieldAddrS tab 33 v1 0) o1) fun v2 o2 =>
 bd (ret1 (loadS tab o2 3 v2) o2) fun v3 o3 =>
 bd (callS ⟨tab, ownF, K⟩ o3 23 [v3, (SV.v (.int .i64 1)), (SV.v (.int .i64 4))]) fun v4 o4 =>
 bd (gd v4 true (ret1 (fieldAddrS tab 33 v1 1) o4) o4) fun v5 o5 =>
 bd (gd v4 true (ret1 (loadS tab o5 3 v5) o5) o5) fun v6 o6 =>
 bd (gd v4 true (callS ⟨tab, ownF, K⟩ o6 23 [v6, (SV.v (.int .i64 1)), (SV.v (.int .i64 5))]) o6) fun v7 o7 =>
 bd (ret1 (pickS v4 v7 (SV.v (.bool false))) o7) fun v8 o8 =>
 bd (gd v8 true (ret1 (fieldAddrS tab 33 v1 2) o8) o8) fun v9 o9 =>
 bd (gd v8 true (ret1 (loadS tab o9 30 v9) o9) o9) fun v10 o10 =>
 bd (gd v8 true (callS ⟨tab, ownF, K⟩ o10 67 [v10]) o10) fun v11 o11 =>
 bd (ret1 (pickS v8 v11 (SV.v (.bool false))) o11) fun v12 o12 =>
 bd (gd v12 true (ret1 (fieldAddrS tab 33 v1 0) o12) o12) fun v13 o13 =>
 bd (gd v12 true (ret1 (loadS tab o13 3 v13) o13) o13) fun v14 o14 =>
 bd (gd v12 true (ret1 (fieldAddrS tab 33 v1 3) o14) o14) fun v15 o15 =>
 bd (gd v12 true (ret1 (loadS tab o15 31 v15) o15) o15) fun v16 o16 =>
 bd (gd v12 true (callS ⟨tab, ownF, K⟩ o16 68 [v14, v16]) o16) fun v17 o17 =>
 bd (ret1 (pickS v12 v17 (SV.v (.bool false))) o17) fun v18 o18 =>
 retV tab nl o18 (resC1 (some v18) (some []))
noncomputable def X60 (K : Nat → List SV → List SO → Out) (N nl : Nat) (x0 : SV) (os : List SO) : Out := exec (cx K) N nl fi60 c60 [(0, x0)] os (kEnd tab [] nl rs60)
noncomputable def B60 (K : Nat → List SV → List SO → Out) (N nl : Nat) (x0 : SV) (os : List SO) : Out :=
 bd (callS ⟨tab, ownF, K⟩ os 48 [x0, (SV.v (.int .i64 1)), (SV.v (.int .i64 5))]) fun v1 o1 =>
 retV tab nl o1 (resC1 (some v1) (some []))
noncomputable def bk61_3 (K : Nat → List SV → List SO → Out) (N nl : Nat) (m3 : Nat) : Env → List SO → Out := fun env os => loopS nl (fi61.lp 3) (fun env os nx => exec (cx K) N nl fi61 (subC c61 [1, 1, 0, 1, 0, 0]) env os (kLoop nx (kBlock 0 (kSeq (exec (cx K) N nl fi61 (subC c61 [1, 1, 1])) (fi61.jn 8) (kEnd tab [] nl rs61))))) m3 (killS (fi61.lp 3).alive env) os
noncomputable def L61_3 (K : Nat → List SV → List SO → Out) (N nl : Nat) (m3 : Nat) (x3 x6 x7 x8 : SV) (os : List SO) : Out := loopS nl (fi61.lp 3) (fun env os nx => exec (cx K) N nl fi61 (subC c61 [1, 1, 0, 1, 0, 0]) env os (kLoop nx (kBlock 0 (kSeq (exec (cx K) N nl fi61 (subC c61 [1, 1, 1])) (fi61.jn 8) (kEnd tab [] nl rs61))))) m3 [(3, x3), (6, x6), (7, x7), (8, x8)] os
noncomputable def LB61_3 (K : Nat → List SV → List SO → Out) (N nl : Nat) (m3 : Nat) (x3 x6 x7 x8 : SV) (os : List SO) : Out :=
 bd (ret1 (binS tab .lss 3 x8 x7) os) fun v2 o2 =>
 condS v2 (bd (ret1 (indexAddrS tab o2 48 x6 x8) o2) fun v3 o3 =>
 bd (ret1 (loadS tab o3 3 v3) o3) fun v4 o4 =>
 bd (ret1 (binS tab .neq 3 v4 x3) o4) fun v5 o5 =>
 condS v5 (retV tab nl o5 (resC1 (some v4) (some [])))
 (bd (ret1 (binS tab .add 3 x8 (SV.v (.int .i64 1))) o5) fun v6 o6 =>
 L61_3 K N nl m3 x3 x6 x7 v6 o6))
 (retV tab nl o2 (resC1 (some x3) (some [])))
noncomputable def X61 (K : Nat → List SV → List SO → Out) (N nl : Nat) (x0 : SV) (os : List SO) : Out := exec (cx K) N nl fi61 c61 [(0, x0)] os (kEnd tab [] nl rs61)
noncomputable def B61 (K : Nat → List SV → List SO → Out) (N nl : Nat) (x0 : SV) (os : List SO) : Out :=
 bd (lenO tab 48 os x0) fun v1 o1 =>
 L61_3 K N nl N (SV.v (.int .i64 0)) x0 v1 (SV.v (.int .i64 0)) o1
noncomputable def X62 (K : Nat → List SV → List SO → Out) (N nl : Nat) (x0 x1 : SV) (os : List SO) : Out := exec (cx K) N nl fi62 c62 [(0, x0), (1, x1)] os (kEnd tab [] nl rs62)
noncomputable def B62 (K : Nat → List SV → List SO → Out) (N nl : Nat) (x0 x1 : SV) (os : List SO) : Out :=
 bd (callS ⟨tab, ownF, K⟩ os 69 [x0]) fun v1 o1 =>
 bd (callS ⟨tab, ownF, K⟩ o1 69 [x1]) fun v2 o2 =>
 condS v1 (condS v2 (retV tab nl o2 (resC1 (some (SV.v (.int .i64 0))) (some [])))
 (retV tab nl o2 (resC1 (some (SV.v (.int .i64 (-1)))) (some []))))
 (condS v2 (retV tab nl o2 (resC1 (some (SV.v (.int .i64 1))) (some [])))
 (bd (ret1 (binS tab .lss 3 x0 x1) o2) fun v3 o3 =>
 condS v3 (retV tab nl o3 (resC1 (some (SV.v (.int .i64 (-1)))) (some [])))
 (bd (ret1 (binS tab .gtr 3 x0 x1) o3) fun v4 o4 =>
 condS v4 (retV tab nl o4 (resC1 (some (SV.v (.int .i64 1))) (some [])))
 (retV tab nl o4 (resC1 (some (SV.v (.int .i64 0))) (some []))))))
noncomputable def bk65_2 (K : Nat → List SV → List SO → Out) (N nl : Nat) (m2 : Nat) : Env → List SO → Out := fun env os => loopS nl (fi65.lp 2) (fun env os nx => exec (cx K) N nl fi65 (subC c65 [1, 0, 1, 0, 0]) env os (kLoop nx (kBlock 0 (kSeq (exec (cx K) N nl fi65 (subC c65 [1, 1])) (fi65.jn 7) (kEnd tab [] nl rs65))))) m2 (killS (fi65.lp 2).alive env) os
noncomputable def L65_2 (K : Nat → List SV → List SO → Out) (N nl : Nat) (m2 : Nat) (x0 x1 x7 x8 : SV) (os : List SO) : Out := loopS nl (fi65.lp 2) (fun env os nx => exec (cx K) N nl fi65 (subC c65 [1, 0, 1, 0, 0]) env os (kLoop nx (kBlock 0 (kSeq (exec (cx K) N nl fi65 (subC c65 [1, 1])) (fi65.jn 7) (kEnd tab [] nl rs65))))) m2 [(0, x0), (1, x1), (7, x7), (8, x8)] os
noncomputable def LB65_2 (K : Nat → List SV → List SO → Out) (N nl : Nat) (m2 : Nat) (x0 x1 x7 x8 : SV) (os : List SO) : Out :=
 bd (ret1 (binS tab .lss 3 x8 x7) os) fun v2 o2 =>
 condS v2 (bd (ret1 (indexAddrS tab o2 23 x0 x8) o2) fun v3 o3 =>
 bd (ret1 (loadS tab o3 33 v3) o3) fun v4 o4 =>
 bd (calleeS ⟨tab, ownF, K⟩ o4 x1 [v4]) fun v5 o5 =>
 condS v5 (retV tab nl o5 (resC1 (some x8) (some [])))
 (bd (ret1 (binS tab .add 3 x8 (SV.v (.int .i64 1))) o5) fun v6 o6 =>
 L65_2 K N nl m2 x0 x1 x7 v6 o6))
 (retV tab nl o2 (resC1 (some (SV.v (.int .i64 (-1)))) (some [])))
noncomputable def X65 (K : Nat → List SV → List SO → Out) (N nl : Nat) (x0 x1 : SV) (os : List SO) : Out := exec (cx K) N nl fi65 c65 [(0, x0), (1, x1)] os (kEnd tab [] nl rs65)
noncomputable def B65 (K : Nat → List SV → List SO → Out) (N nl : Nat) (x0 x1 : SV) (os : List SO) : Out :=
 bd (lenO tab 23 os x0) fun v1 o1 =>
 L65_2 K N nl N x0 x1 v1 (SV.v (.int .i64 0)) o1
noncomputable def X66 (K : Nat → List SV → List SO → Out) (N nl : Nat) (x0 : SV) (os : List SO) : Out := exec (cx K) N nl fi66 c66 [(0, x0)] os (kEnd tab [] nl rs66)
noncomputable def B66 (K : Nat → List SV → List SO → Out) (N nl : Nat) (x0 : SV) (os : List SO) : Out :=
 bd (boxS tab os 33 (some x0)) fun v1 o1 =>
 bd (allocS tab o1 33) fun v2 o2 =>
 bd (buildSliceS tab o2 30 0 []) fun v3 o3 =>
 bd (ret1 (fieldAddrS tab 33 v1 2) o3) fun v4 o4 =>
 bd (ret1 (loadS tab o4 30 v4) o4) fun v5 o5 =>
 bd (appendS tab o5 30 30 v3 v5) fun v6 o6 =>
 bd (ret1 (fieldAddrS tab 33 v1 2) o6) fun v7 o7 =>
 bd (storeO tab o7 30 v7 (some v6)) fun v8 o8 =>
 bd (buildSliceS tab o8 31 0 []) fun v9 o9 =>
 bd (ret1 (fieldAddrS tab 33 v1 3) o9) fun v10 o10 =>
 bd (ret1 (loadS tab o10 31 v10) o10) fun v11 o11 =>
 bd (appendS tab o11 31 31 v9 v11) fun v12 o12 =>
 bd (ret1 (fieldAddrS tab 33 v1 3) o12) fun v13 o13 =>
 bd (storeO tab o13 31 v13 (some v12)) fun v14 o14 =>
 bd (ret1 (loadS tab o14 33 v1) o14) fun v15 o15 =>
 bd (storeO tab o15 33 v2 (some v15)) fun v16 o16 =>
 retV tab nl o16 (resC1 (loadS tab o16 33 v2) (some []))
noncomputable def bk67_2 (K : Nat → List SV → List SO → Out) (N nl : Nat) (m2 : Nat) : Env → List SO → Out := fun env os => loopS nl (fi67.lp 2) (fun env os nx => exec (cx K) N nl fi67 (subC c67 [1, 0, 1, 0, 0]) env os (kLoop nx (kBlock 0 (kSeq (exec (cx K) N nl fi67 (subC c67 [1, 1])) (fi67.jn 6) (kEnd tab [] nl rs67))))) m2 (killS (fi67.lp 2).alive env) os
noncomputable def L67_2 (K : Nat → List SV → List SO → Out) (N nl : Nat) (m2 : Nat) (x0 x3 : SV) (os : List SO) : Out := loopS nl (fi67.lp 2) (fun env os nx => exec (cx K) N nl fi67 (subC c67 [1, 0, 1, 0, 0]) env os (kLoop nx (kBlock 0 (kSeq (exec (cx K) N nl fi67 (subC c67 [1, 1])) (fi67.jn 6) (kEnd tab [] nl rs67))))) m2 [(0, x0), (3, x3)] os
noncomputable def LB67_2 (K : Nat → List SV → List SO → Out) (N nl : Nat) (m2 : Nat) (x0 x3 : SV) (os : List SO) : Out :=
 bd (lenO tab 30 os x0) fun v1 o1 =>
 bd (ret1 (binS tab .lss 3 x3 v1) o1) fun v2 o2 =>
 condS v2 (bd (ret1 (indexAddrS tab o2 30 x0 x3) o2) fun v3 o3 =>
 bd (ret1 (fieldAddrS tab 60 v3 0) o3) fun v4 o4 =>
 bd (ret1 (loadS tab o4 3 v4) o4) fun v5 o5 =>
 bd (callS ⟨tab, ownF, K⟩ o5 23 [v5, (SV.v (.int .i64 0)), (SV.v (.int .i64 5))]) fun v6 o6 =>
 bd (ret1 (unS .not v6) o6) fun v7 o7 =>
 bd (gd v7 false (some (x0, o7)) o7) fun v8 o8 =>
 bd (gd v7 false (some (x3, o8)) o8) fun v9 o9 =>
 bd (gd v7 false (ret1 (indexAddrS tab o9 30 v8 v9) o9) o9) fun v10 o10 =>
 bd (gd v7 false (ret1 (fieldAddrS tab 60 v10 1) o10) o10) fun v11 o11 =>
 bd (gd v7 false (ret1 (loadS tab o11 3 v11) o11) o11) fun v12 o12 =>
 bd (gd v7 false (callS ⟨tab, ownF, K⟩ o12 23 [v12, (SV.v (.int .i64 0)), (SV.v (.int .i64 9))]) o12) fun v13 o13 =>
 bd (gd v7 false (ret1 (unS .not v13) o13) o13) fun v14 o14 =>
 bd (ret1 (pickS v7 (SV.v (.bool true)) v14) o14) fun v15 o15 =>
 bd (gd v15 false (some (x3, o15)) o15) fun v16 o16 =>
 bd (gd v15 false (ret1 (binS tab .gtr 3 v16 (SV.v (.int .i64 0))) o16) o16) fun v17 o17 =>
 bd (gd v15 false (some (v17, o17)) o17) fun v18 o18 =>
 bd (gd v18 true (some (x0, o18)) o18) fun v19 o19 =>
 bd (gd v18 true (some (x3, o19)) o19) fun v20 o20 =>
 bd (gd v18 true (ret1 (binS tab .sub 3 v20 (SV.v (.int .i64 1))) o20) o20) fun v21 o21 =>
 bd (gd v18 true (ret1 (indexAddrS tab o21 30 v19 v21) o21) o21) fun v22 o22 =>
 bd (gd v18 true (ret1 (fieldAddrS tab 60 v22 0) o22) o22) fun v23 o23 =>
 bd (gd v18 true (ret1 (loadS tab o23 3 v23) o23) o23) fun v24 o24 =>
 bd (gd v18 true (some (x0, o24)) o24) fun v25 o25 =>
 bd (gd v18 true (some (x3, o25)) o25) fun v26 o26 =>
 bd (gd v18 true (ret1 (indexAddrS tab o26 30 v25 v26) o26) o26) fun v27 o27 =>
 bd (gd v18 true (ret1 (fieldAddrS tab 60 v27 0) o27) o27) fun v28 o28 =>
 bd (gd v18 true (ret1 (loadS tab o28 3 v28) o28) o28) fun v29 o29 =>
 bd (gd v18 true (ret1 (binS tab .geq 3 v24 v29) o29) o29) fun v30 o30 =>
 bd (gd v15 false (ret1 (pickS v18 v30 (SV.v (.bool false))) o30) o30) fun v31 o31 =>
 bd (ret1 (pickS v15 (SV.v (.bool true)) v31) o31) fun v32 o32 =>
 condS v32 (retV tab nl o32 (resC1 (some (SV.v (.bool false))) (some [])))
 (bd (ret1 (binS tab .add 3 x3 (SV.v (.int .i64 1))) o32) fun v33 o33 =>
 L67_2 K N nl m2 x0 v33 o33))
 (bd (lenO tab 30 o2 x0) fun v34 o34 =>
 bd (ret1 (binS tab .leq 3 v34 (SV.v (.int .i64 2))) o34) fun v35 o35 =>
 retV tab nl o35 (resC1 (some v35) (some [])))
noncomputable def X67 (K : Nat → List SV → List SO → Out) (N nl : Nat) (x0 : SV) (os : List SO) : Out := exec (cx K) N nl fi67 c67 [(0, x0)] os (kEnd tab [] nl rs67)
noncomputable def B67 (K : Nat → List SV → List SO → Out) (N nl : Nat) (x0 : SV) (os : List SO) : Out :=
 L67_2 K N nl N x0 (SV.v (.int .i64 0)) os
noncomputable def bk68_2 (K : Nat → List SV → List SO → Out) (N nl : Nat) (m2 : Nat) : Env → List SO → Out := fun env os => loopS nl (fi68.lp 2) (fun env os nx => exec (cx K) N nl fi68 (subC c68 [1, 0, 1, 0, 0]) env os (kLoop nx (kBlock 0 (kSeq (exec (cx K) N nl fi68 (subC c68 [1, 1])) (fi68.jn 7) (kEnd tab [] nl rs68))))) m2 (killS (fi68.lp 2).alive env) os
noncomputable def L68_2 (K : Nat → List SV → List SO → Out) (N nl : Nat) (m2 : Nat) (x0 x1 x5 : SV) (os : List SO) : Out := loopS nl (fi68.lp 2) (fun env os nx => exec (cx K) N nl fi68 (subC c68 [1, 0, 1, 0, 0]) env os (kLoop nx (kBlock 0 (kSeq (exec (cx K) N nl fi68 (subC c68 [1, 1])) (fi68.jn 7) (kEnd tab [] nl rs68))))) m2 [(0, x0), (1, x1), (5, x5)] os
noncomputable def G68_2 (K : Nat → List SV → List SO → Out) (N nl : Nat) (m2 : Nat) (xs : List SV) (os : List SO) : Out := (fun env os nx => exec (cx K) N nl fi68 (subC c68 [1, 0, 1, 0, 0]) env os (kLoop nx (kBlock 0 (kSeq (exec (cx K) N nl fi68 (subC c68 [1, 1])) (fi68.jn 7) (kEnd tab [] nl rs68))))) (zipE [0, 1, 5] xs) os (bk68_2 K N nl m2)
noncomputable def GB68_2 (K : Nat → List SV → List SO → Out) (N nl : Nat) (m2 : Nat) (x0 x1 x5 : SV) (os : List SO) : Out :=
 bd (lenO tab 31 os x1) fun v1 o1 =>
 bd (ret1 (binS tab .lss 3 x5 v1) o1) fun v2 o2 =>
 condS v2 (bd (ret1 (indexAddrS tab o2 31 x1 x5) o2) fun v3 o3 =>
 bd (ret1 (loadS tab o3 39 v3) o3) fun v4 o4 =>
 bd (allocS tab o4 39) fun v5 o5 =>
 bd (storeO tab o5 39 v5 (some v4)) fun v6 o6 =>
 bd (ret1 (fieldAddrS tab 39 v5 0) o6) fun v7 o7 =>
 bd (ret1 (loadS tab o7 3 v7) o7) fun v8 o8 =>
 bd (callS ⟨tab, ownF, K⟩ o8 23 [v8, (SV.v (.int .i64 1)), (SV.v (.int .i64 4))]) fun v9 o9 =>
 bd (ret1 (unS .not v9) o9) fun v10 o10 =>
 bd (gd v10 false (ret1 (fieldAddrS tab 39 v5 0) o10) o10) fun v11 o11 =>
 bd (gd v10 false (ret1 (loadS tab o11 3 v11) o11) o11) fun v12 o12 =>
 bd (gd v10 false (some (x0, o12)) o12) fun v13 o13 =>
 bd (gd v10 false (ret1 (binS tab .eql 3 v12 v13) o13) o13) fun v14 o14 =>
 bd (ret1 (pickS v10 (SV.v (.bool true)) v14) o14) fun v15 o15 =>
 bd (gd v15 false (ret1 (fieldAddrS tab 39 v5 1) o15) o15) fun v16 o16 =>
 bd (gd v15 false (ret1 (loadS tab o16 3 v16) o16) o16) fun v17 o17 =>
 bd (gd v15 false (callS ⟨tab, ownF, K⟩ o17 23 [v17, (SV.v (.int .i64 1)), (SV.v (.int .i64 5))]) o17) fun v18 o18 =>
 bd (gd v15 false (ret1 (unS .not v18) o18) o18) fun v19 o19 =>
 bd (ret1 (pickS v15 (SV.v (.bool true)) v19) o19) fun v20 o20 =>
 bd (gd v20 false (some (x5, o20)) o20) fun v21 o21 =>
 bd (gd v20 false (ret1 (binS tab .gtr 3 v21 (SV.v (.int .i64 0))) o21) o21) fun v22 o22 =>
 bd (gd v20 false (some (v22, o22)) o22) fun v23 o23 =>
 bd (gd v23 true (some (x1, o23)) o23) fun v24 o24 =>
 bd (gd v23 true (some (x5, o24)) o24) fun v25 o25 =>
 bd (gd v23 true (ret1 (binS tab .sub 3 v25 (SV.v (.int .i64 1))) o25) o25) fun v26 o26 =>
 bd (gd v23 true (ret1 (indexAddrS tab o26 31 v24 v26) o26) o26) fun v27 o27 =>
 bd (gd v23 true (ret1 (fieldAddrS tab 39 v27 0) o27) o27) fun v28 o28 =>
 bd (gd v23 true (ret1 (loadS tab o28 3 v28) o28) o28) fun v29 o29 =>
 bd (gd v23 true (ret1 (fieldAddrS tab 39 v5 0) o29) o29) fun v30 o30 =>
 bd (gd v23 true (ret1 (loadS tab o30 3 v30) o30) o30) fun v31 o31 =>
 bd (gd v23 true (ret1 (binS tab .geq 3 v29 v31) o31) o31) fun v32 o32 =>
 bd (gd v20 false (ret1 (pickS v23 v32 (SV.v (.bool false))) o32) o32) fun v33 o33 =>
 bd (ret1 (pickS v20 (SV.v (.bool true)) v33) o33) fun v34 o34 =>
 condS v34 (retV tab nl o34 (resC1 (some (SV.v (.bool false))) (some [])))
 (bd (ret1 (binS tab .add 3 x5 (SV.v (.int .i64 1))) o34) fun v35 o35 =>
 L68_2 K N nl m2 x0 x1 v35 o35))
 (bd (lenO tab 31 o2 x1) fun v36 o36 =>
 bd (ret1 (binS tab .leq 3 v36 (SV.v (.int .i64 2))) o36) fun v37 o37 =>
 retV tab nl o37 (resC1 (some v37) (some [])))
noncomputable def X68 (K : Nat → List SV → List SO → Out) (N nl : Nat) (x0 x1 : SV) (os : List SO) : Out := exec (cx K) N nl fi68 c68 [(0, x0), (1, x1)] os (kEnd tab [] nl rs68)
noncomputable def B68 (K : Nat → List SV → List SO → Out) (N nl : Nat) (x0 x1 : SV) (os : List SO) : Out :=
 L68_2 K N nl N x0 x1 (SV.v (.int .i64 0)) os
noncomputable def X69 (K : Nat → List SV → List SO → Out) (N nl : Nat) (x0 : SV) (os : List SO) : Out := exec (cx K) N nl fi69 c69 [(0, x0)] os (kEnd tab [] nl rs69)
noncomputable def B69 (K : Nat → List SV → List SO → Out) (N nl : Nat) (x0 : SV) (os : List SO) : Out :=
 bd (ret1 (binS tab .neq 3 x0 x0) os) fun v1 o1 =>
 retV tab nl o1 (resC1 (some v1) (some []))
noncomputable def bk71_1 (K : Nat → List SV → List SO → Out) (N nl : Nat) (m1 : Nat) : Env → List SO → Out := fun env os => loopS nl (fi71.lp 1) (fun env os nx => exec (cx K) N nl fi71 (subC c71 [1, 0, 0]) env os (kLoop nx (kBlock 0 (kEnd tab [] nl rs71)))) m1 (killS (fi71.lp 1).alive env) os
theorem X3_s (K : Nat → List SV → List SO → Out) (N nl : Nat) (x0 x1 : SV) (os : List SO) : X3 K N nl x0 x1 os = B3 K N nl x0 x1 os := by kernel_rfl
theorem E3 (n : Nat) (x0 x1 : SV) (os : List SO) : callF prg (n + 1) 3 [x0, x1] os = X3 (callF prg n) (n + 1) os.length x0 x1 os := by kernel_rfl
theorem U3 {Q : SV → List SO → Prop} {x0 x1 : SV} {os : List SO} {nl : Nat} (hnl : os.length = nl) (h : Ev (fun n => B3 (callF prg n) (n + 1) nl x0 x1 os) Q) : Ev (fun n => callF prg n 3 [x0, x1] os) Q := by subst hnl; exact ev_fun (fun n => (E3 n _ _ _).trans (X3_s _ _ _ _ _ _)) h
theorem X4_s (K : Nat → List SV → List SO → Out) (N nl : Nat) (x0 x1 : SV) (os : List SO) : X4 K N nl x0 x1 os = B4 K N nl x0 x1 os := by kernel_rfl
theorem E4 (n : Nat) (x0 x1 : SV) (os : List SO) : callF prg (n + 1) 4 [x0, x1] os = X4 (callF prg n) (n + 1) os.length x0 x1 os := by kernel_rfl
theorem U4 {Q : SV → List SO → Prop} {x0 x1 : SV} {os : List SO} {nl : Nat} (hnl : os.length = nl) (h : Ev (fun n => B4 (callF prg n) (n + 1) nl x0 x1 os) Q) : Ev (fun n => callF prg n 4 [x0, x1] os) Q := by subst hnl; exact ev_fun (fun n => (E4 n _ _ _).trans (X4_s _ _ _ _ _ _)) h
theorem L5_10_s (K : Nat → List SV → List SO → Out) (N nl : Nat) (m10 : Nat) (x4 x8 x11 x12 : SV) (os : List SO) : L5_10 K N nl (m10 + 1) x4 x8 x11 x12 os = gcB nl [x4, x8, x11, x12] os fun xs os => G5_10 K N nl m10 xs os := by kernel_rfl
theorem UL5_10 {nl c : Nat} {Q : SV → List SO → Prop} {x4 x8 x11 x12 : SV} {os : List SO} (h : Ev (fun n => gcB nl [x4, x8, x11, x12] os fun xs os => G5_10 (callF prg n) (n + 1) nl (n + 1 - (c + 1)) xs os) Q) : Ev (fun n => L5_10 (callF prg n) (n + 1) nl (n + 1 - c) x4 x8 x11 x12 os) Q := ev_loop (L := fun n m => L5_10 (callF prg n) (n + 1) nl m x4 x8 x11 x12 os) (fun n m => L5_10_s _ _ _ _ _ _ _ _ _) h
theorem VL5_10 {nl : Nat} {Q : SV → List SO → Prop} {x4 x8 x11 x12 : SV} {os : List SO} (h : Ev (fun n => gcB nl [x4, x8, x11, x12] os fun xs os => G5_10 (callF prg n) (n + 1) nl (n + 1 - 1) xs os) Q) : Ev (fun n => L5_10 (callF prg n) (n + 1) nl (n + 1) x4 x8 x11 x12 os) Q := UL5_10 (c := 0) h
theorem G5_10_s (K : Nat → List SV → List SO → Out) (N nl : Nat) (m10 : Nat) (x4 x8 x11 x12 : SV) (os : List SO) : G5_10 K N nl m10 [x4, x8, x11, x12] os = GB5_10 K N nl m10 x4 x8 x11 x12 os := by kernel_rfl
theorem UG5_10 {nl : Nat} {Q : SV → List SO → Prop} (m10 : Nat → Nat) {x4 x8 x11 x12 : SV} {os : List SO} (h : Ev (fun n => GB5_10 (callF prg n) (n + 1) nl (m10 n) x4 x8 x11 x12 os) Q) : Ev (fun n => G5_10 (callF prg n) (n + 1) nl (m10 n) [x4, x8, x11, x12] os) Q := ev_eq (fun n => G5_10_s _ _ _ _ _ _ _ _ _) h
theorem X5_s (K : Nat → List SV → List SO → Out) (N nl : Nat) (x0 : SV) (os : List SO) : X5 K N nl x0 os = B5 K N nl x0 os := by kernel_rfl
theorem E5 (n : Nat) (x0 : SV) (os : List SO) : callF prg (n + 1) 5 [x0] os = X5 (callF prg n) (n + 1) os.length x0 os := by kernel_rfl
theorem U5 {Q : SV → List SO → Prop} {x0 : SV} {os : List SO} {nl : Nat} (hnl : os.length = nl) (h : Ev (fun n => B5 (callF prg n) (n + 1) nl x0 os) Q) : Ev (fun n => callF prg n 5 [x0] os) Q := by subst hnl; exact ev_fun (fun n => (E5 n _ _).trans (X5_s _ _ _ _ _)) h
theorem L6_9_s (K : Nat → List SV → List SO → Out) (N nl : Nat) (m9 : Nat) (x4 x5 x8 x10 : SV) (os : List SO) : L6_9 K N nl (m9 + 1) x4 x5 x8 x10 os = gcB nl [x4, x5, x8, x10] os fun xs os => G6_9 K N nl m9 xs os := by kernel_rfl
theorem UL6_9 {nl c : Nat} {Q : SV → List SO → Prop} {x4 x5 x8 x10 : SV} {os : List SO} (h : Ev (fun n => gcB nl [x4, x5, x8, x10] os fun xs os => G6_9 (callF prg n) (n + 1) nl (n + 1 - (c + 1)) xs os) Q) : Ev (fun n => L6_9 (callF prg n) (n + 1) nl (n + 1 - c) x4 x5 x8 x10 os) Q := ev_loop (L := fun n m => L6_9 (callF prg n) (n + 1) nl m x4 x5 x8 x10 os) (fun n m => L6_9_s _ _ _ _ _ _ _ _ _) h
theorem VL6_9 {nl : Nat} {Q : SV → List SO → Prop} {x4 x5 x8 x10 : SV} {os : List SO} (h : Ev (fun n => gcB nl [x4, x5, x8, x10] os fun xs os => G6_9 (callF prg n) (n + 1) nl (n + 1 - 1) xs os) Q) : Ev (fun n => L6_9 (callF prg n) (n + 1) nl (n + 1) x4 x5 x8 x10 os) Q := UL6_9 (c := 0) h
theorem G6_9_s (K : Nat → List SV → List SO → Out) (N nl : Nat) (m9 : Nat) (x4 x5 x8 x10 : SV) (os : List SO) : G6_9 K N nl m9 [x4, x5, x8, x10] os = GB6_9 K N nl m9 x4 x5 x8 x10 os := by kernel_rfl
theorem UG6_9 {nl : Nat} {Q : SV → List SO → Prop} (m9 : Nat → Nat) {x4 x5 x8 x10 : SV} {os : List SO} (h : Ev (fun n => GB6_9 (callF prg n) (n + 1) nl (m9 n) x4 x5 x8 x10 os) Q) : Ev (fun n => G6_9 (callF prg n) (n + 1) nl (m9 n) [x4, x5, x8, x10] os) Q := ev_eq (fun n => G6_9_s _ _ _ _ _ _ _ _ _) h
theorem L6_14_s (K : Nat → List SV → List SO → Out) (N nl : Nat) (m9 : Nat) (m14 : Nat) (x4 x5 x8 x10 x13 x14 : SV) (os : List SO) : L6_14 K N nl m9 (m14 + 1) x4 x5 x8 x10 x13 x14 os = LB6_14 K N nl m9 m14 x4 x5 x8 x10 x13 x14 os := by kernel_rfl
theorem UL6_14 {nl c : Nat} {Q : SV → List SO → Prop} {m9 : Nat → Nat} {x4 x5 x8 x10 x13 x14 : SV} {os : List SO} (h : Ev (fun n => LB6_14 (callF prg n) (n + 1) nl (m9 n) (n + 1 - (c + 1)) x4 x5 x8 x10 x13 x14 os) Q) : Ev (fun n => L6_14 (callF prg n) (n + 1) nl (m9 n) (n + 1 - c) x4 x5 x8 x10 x13 x14 os) Q := ev_loop (L := fun n m => L6_14 (callF prg n) (n + 1) nl (m9 n) m x4 x5 x8 x10 x13 x14 os) (fun n m => L6_14_s _ _ _ _ _ _ _ _ _ _ _ _) h
theorem L6_17_s (K : Nat → List SV → List SO → Out) (N nl : Nat) (m9 m14 : Nat) (m17 : Nat) (x4 x5 x8 x10 x13 x14 x15 : SV) (os : List SO) : L6_17 K N nl m9 m14 (m17 + 1) x4 x5 x8 x10 x13 x14 x15 os = LB6_17 K N nl m9 m14 m17 x4 x5 x8 x10 x13 x14 x15 os := by kernel_rfl
theorem UL6_17 {nl c : Nat} {Q : SV → List SO → Prop} {m9 : Nat → Nat} {m14 : Nat → Nat} {x4 x5 x8 x10 x13 x14 x15 : SV} {os : List SO} (h : Ev (fun n => LB6_17 (callF prg n) (n + 1) nl (m9 n) (m14 n) (n + 1 - (c + 1)) x4 x5 x8 x10 x13 x14 x15 os) Q) : Ev (fun n => L6_17 (callF prg n) (n + 1) nl (m9 n) (m14 n) (n + 1 - c) x4 x5 x8 x10 x13 x14 x15 os) Q := ev_loop (L := fun n m => L6_17 (callF prg n) (n + 1) nl (m9 n) (m14 n) m x4 x5 x8 x10 x13 x14 x15 os) (fun n m => L6_17_s _ _ _ _ _ _ _ _ _ _ _ _ _ _) h
theorem X6_s (K : Nat → List SV → List SO → Out) (N nl : Nat) (x0 : SV) (os : List SO) : X6 K N nl x0 os = B6 K N nl x0 os := by kernel_rfl
theorem E6 (n : Nat) (x0 : SV) (os : List SO) : callF prg (n + 1) 6 [x0] os = X6 (callF prg n) (n + 1) os.length x0 os := by kernel_rfl
theorem U6 {Q : SV → List SO → Prop} {x0 : SV} {os : List SO} {nl : Nat} (hnl : os.length = nl) (h : Ev (fun n => B6 (callF prg n) (n + 1) nl x0 os) Q) : Ev (fun n => callF prg n 6 [x0] os) Q := by subst hnl; exact ev_fun (fun n => (E6 n _ _).trans (X6_s _ _ _ _ _)) h
theorem X7_s (K : Nat → List SV → List SO → Out) (N nl : Nat) (x0 x1 : SV) (os : List SO) : X7 K N nl x0 x1 os = B7 K N nl x0 x1 os := by kernel_rfl
theorem E7 (n : Nat) (x0 x1 : SV) (os : List SO) : callF prg (n + 1) 7 [x0, x1] os = X7 (callF prg n) (n + 1) os.length x0 x1 os := by kernel_rfl
theorem U7 {Q : SV → List SO → Prop} {x0 x1 : SV} {os : List SO} {nl : Nat} (hnl : os.length = nl) (h : Ev (fun n => B7 (callF prg n) (n + 1) nl x0 x1 os) Q) : Ev (fun n => callF prg n 7 [x0, x1] os) Q := by subst hnl; exact ev_fun (fun n => (E7 n _ _ _).trans (X7_s _ _ _ _ _ _)) h
theorem L8_9_s (K : Nat → List SV → List SO → Out) (N nl : Nat) (m9 : Nat) (x3 x4 x8 x10 : SV) (os : List SO) : L8_9 K N nl (m9 + 1) x3 x4 x8 x10 os = gcB nl [x3, x4, x8, x10] os fun xs os => G8_9 K N nl m9 xs os := by kernel_rfl
theorem UL8_9 {nl c : Nat} {Q : SV → List SO → Prop} {x3 x4 x8 x10 : SV} {os : List SO} (h : Ev (fun n => gcB nl [x3, x4, x8, x10] os fun xs os => G8_9 (callF prg n) (n + 1) nl (n + 1 - (c + 1)) xs os) Q) : Ev (fun n => L8_9 (callF prg n) (n + 1) nl (n + 1 - c) x3 x4 x8 x10 os) Q := ev_loop (L := fun n m => L8_9 (callF prg n) (n + 1) nl m x3 x4 x8 x10 os) (fun n m => L8_9_s _ _ _ _ _ _ _ _ _) h
theorem VL8_9 {nl : Nat} {Q : SV → List SO → Prop} {x3 x4 x8 x10 : SV} {os : List SO} (h : Ev (fun n => gcB nl [x3, x4, x8, x10] os fun xs os => G8_9 (callF prg n) (n + 1) nl (n + 1 - 1) xs os) Q) : Ev (fun n => L8_9 (callF prg n) (n + 1) nl (n + 1) x3 x4 x8 x10 os) Q := UL8_9 (c := 0) h
theorem G8_9_s (K : Nat → List SV → List SO → Out) (N nl : Nat) (m9 : Nat) (x3 x4 x8 x10 : SV) (os : List SO) : G8_9 K N nl m9 [x3, x4, x8, x10] os = GB8_9 K N nl m9 x3 x4 x8 x10 os := by kernel_rfl
theorem UG8_9 {nl : Nat} {Q : SV → List SO → Prop} (m9 : Nat → Nat) {x3 x4 x8 x10 : SV} {os : List SO} (h : Ev (fun n => GB8_9 (callF prg n) (n + 1) nl (m9 n) x3 x4 x8 x10 os) Q) : Ev (fun n => G8_9 (callF prg n) (n + 1) nl (m9 n) [x3, x4, x8, x10] os) Q := ev_eq (fun n => G8_9_s _ _ _ _ _ _ _ _ _) h
theorem X8_s (K : Nat → List SV → List SO → Out) (N nl : Nat) (x0 : SV) (os : List SO) : X8 K N nl x0 os = B8 K N nl x0 os := by kernel_rfl
theorem E8 (n : Nat) (x0 : SV) (os : List SO) : callF prg (n + 1) 8 [x0] os = X8 (callF prg n) (n + 1) os.length x0 os := by kernel_rfl
theorem U8 {Q : SV → List SO → Prop} {x0 : SV} {os : List SO} {nl : Nat} (hnl : os.length = nl) (h : Ev (fun n => B8 (callF prg n) (n + 1) nl x0 os) Q) : Ev (fun n => callF prg n 8 [x0] os) Q := by subst hnl; exact ev_fun (fun n => (E8 n _ _).trans (X8_s _ _ _ _ _)) h
theorem L9_6_s (K : Nat → List SV → List SO → Out) (N nl : Nat) (m6 : Nat) (x5 x6 x7 x8 x9 : SV) (os : List SO) : L9_6 K N nl (m6 + 1) x5 x6 x7 x8 x9 os = gcB nl [x5, x6, x7, x8, x9] os fun xs os => G9_6 K N nl m6 xs os := by kernel_rfl
theorem UL9_6 {nl c : Nat} {Q : SV → List SO → Prop} {x5 x6 x7 x8 x9 : SV} {os : List SO} (h : Ev (fun n => gcB nl [x5, x6, x7, x8, x9] os fun xs os => G9_6 (callF prg n) (n + 1) nl (n + 1 - (c + 1)) xs os) Q) : Ev (fun n => L9_6 (callF prg n) (n + 1) nl (n + 1 - c) x5 x6 x7 x8 x9 os) Q := ev_loop (L := fun n m => L9_6 (callF prg n) (n + 1) nl m x5 x6 x7 x8 x9 os) (fun n m => L9_6_s _ _ _ _ _ _ _ _ _ _) h
theorem VL9_6 {nl : Nat} {Q : SV → List SO → Prop} {x5 x6 x7 x8 x9 : SV} {os : List SO} (h : Ev (fun n => gcB nl [x5, x6, x7, x8, x9] os fun xs os => G9_6 (callF prg n) (n + 1) nl (n + 1 - 1) xs os) Q) : Ev (fun n => L9_6 (callF prg n) (n + 1) nl (n + 1) x5 x6 x7 x8 x9 os) Q := UL9_6 (c := 0) h
theorem G9_6_s (K : Nat → List SV → List SO → Out) (N nl : Nat) (m6 : Nat) (x5 x6 x7 x8 x9 : SV) (os : List SO) : G9_6 K N nl m6 [x5, x6, x7, x8, x9] os = GB9_6 K N nl m6 x5 x6 x7 x8 x9 os := by kernel_rfl
theorem UG9_6 {nl : Nat} {Q : SV → List SO → Prop} (m6 : Nat → Nat) {x5 x6 x7 x8 x9 : SV} {os : List SO} (h : Ev (fun n => GB9_6 (callF prg n) (n + 1) nl (m6 n) x5 x6 x7 x8 x9 os) Q) : Ev (fun n => G9_6 (callF prg n) (n + 1) nl (m6 n) [x5, x6, x7, x8, x9] os) Q := ev_eq (fun n => G9_6_s _ _ _ _ _ _ _ _ _ _) h
theorem J9_7_s (K : Nat → List SV → List SO → Out) (N nl : Nat) (m6 : Nat) (x5 x6 x7 x8 x9 : SV) (os : List SO) : J9_7 K N nl m6 x5 x6 x7 x8 x9 os = JB9_7 K N nl m6 x5 x6 x7 x8 x9 os := by kernel_rfl
theorem UJ9_7 {nl : Nat} {Q : SV → List SO → Prop} {m6 : Nat → Nat} {x5 x6 x7 x8 x9 : SV} {os : List SO} (h : Ev (fun n => JB9_7 (callF prg n) (n + 1) nl (m6 n) x5 x6 x7 x8 x9 os) Q) : Ev (fun n => J9_7 (callF prg n) (n + 1) nl (m6 n) x5 x6 x7 x8 x9 os) Q := ev_eq (fun n => J9_7_s _ _ _ _ _ _ _ _ _ _) h
theorem X9_s (K : Nat → List SV → List SO → Out) (N nl : Nat) (x0 : SV) (os : List SO) : X9 K N nl x0 os = B9 K N nl x0 os := by kernel_rfl
theorem E9 (n : Nat) (x0 : SV) (os : List SO) : callF prg (n + 1) 9 [x0] os = X9 (callF prg n) (n + 1) os.length x0 os := by kernel_rfl
theorem U9 {Q : SV → List SO → Prop} {x0 : SV} {os : List SO} {nl : Nat} (hnl : os.length = nl) (h : Ev (fun n => B9 (callF prg n) (n + 1) nl x0 os) Q) : Ev (fun n => callF prg n 9 [x0] os) Q := by subst hnl; exact ev_fun (fun n => (E9 n _ _).trans (X9_s _ _ _ _ _)) h
theorem X10_s (K : Nat → List SV → List SO → Out) (N nl : Nat) (x0 x1 x2 : SV) (os : List SO) : X10 K N nl x0 x1 x2 os = B10 K N nl x0 x1 x2 os := by kernel_rfl
theorem E10 (n : Nat) (x0 x1 x2 : SV) (os : List SO) : callF prg (n + 1) 10 [x0, x1, x2] os = X10 (callF prg n) (n + 1) os.length x0 x1 x2 os := by kernel_rfl
theorem U10 {Q : SV → List SO → Prop} {x0 x1 x2 : SV} {os : List SO} {nl : Nat} (hnl : os.length = nl) (h : Ev (fun n => B10 (callF prg n) (n + 1) nl x0 x1 x2 os) Q) : Ev (fun n => callF prg n 10 [x0, x1, x2] os) Q := by subst hnl; exact ev_fun (fun n => (E10 n _ _ _ _).trans (X10_s _ _ _ _ _ _ _)) h
theorem L11_5_s (K : Nat → List SV → List SO → Out) (N nl : Nat) (m5 : Nat) (x0 x1 x8 x32 x33 x34 : SV) (os : List SO) : L11_5 K N nl (m5 + 1) x0 x1 x8 x32 x33 x34 os = gcB nl [x0, x1, x8, x32, x33, x34] os fun xs os => G11_5 K N nl m5 xs os := by kernel_rfl
theorem UL11_5 {nl c : Nat} {Q : SV → List SO → Prop} {x0 x1 x8 x32 x33 x34 : SV} {os : List SO} (h : Ev (fun n => gcB nl [x0, x1, x8, x32, x33, x34] os fun xs os => G11_5 (callF prg n) (n + 1) nl (n + 1 - (c + 1)) xs os) Q) : Ev (fun n => L11_5 (callF prg n) (n + 1) nl (n + 1 - c) x0 x1 x8 x32 x33 x34 os) Q := ev_loop (L := fun n m => L11_5 (callF prg n) (n + 1) nl m x0 x1 x8 x32 x33 x34 os) (fun n m => L11_5_s _ _ _ _ _ _ _ _ _ _ _) h
theorem VL11_5 {nl : Nat} {Q : SV → List SO → Prop} {x0 x1 x8 x32 x33 x34 : SV} {os : List SO} (h : Ev (fun n => gcB nl [x0, x1, x8, x32, x33, x34] os fun xs os => G11_5 (callF prg n) (n + 1) nl (n + 1 - 1) xs os) Q) : Ev (fun n => L11_5 (callF prg n) (n + 1) nl (n + 1) x0 x1 x8 x32 x33 x34 os) Q := UL11_5 (c := 0) h
theorem G11_5_s (K : Nat → List SV → List SO → Out) (N nl : Nat) (m5 : Nat) (x0 x1 x8 x32 x33 x34 : SV) (os : List SO) : G11_5 K N nl m5 [x0, x1, x8, x32, x33, x34] os = GB11_5 K N nl m5 x0 x1 x8 x32 x33 x34 os := by kernel_rfl
theorem UG11_5 {nl : Nat} {Q : SV → List SO → Prop} (m5 : Nat → Nat) {x0 x1 x8 x32 x33 x34 : SV} {os : List SO} (h : Ev (fun n => GB11_5 (callF prg n) (n + 1) nl (m5 n) x0 x1 x8 x32 x33 x34 os) Q) : Ev (fun n => G11_5 (callF prg n) (n + 1) nl (m5 n) [x0, x1, x8, x32, x33, x34] os) Q := ev_eq (fun n => G11_5_s _ _ _ _ _ _ _ _ _ _ _) h
theorem L11_11_s (K : Nat → List SV → List SO → Out) (N nl : Nat) (m11 : Nat) (x0 x1 x8 x11 x12 : SV) (os : List SO) : L11_11 K N nl (m11 + 1) x0 x1 x8 x11 x12 os = gcB nl [x0, x1, x8, x11, x12] os fun xs os => G11_11 K N nl m11 xs os := by kernel_rfl
theorem UL11_11 {nl c : Nat} {Q : SV → List SO → Prop} {x0 x1 x8 x11 x12 : SV} {os : List SO} (h : Ev (fun n => gcB nl [x0, x1, x8, x11, x12] os fun xs os => G11_11 (callF prg n) (n + 1) nl (n + 1 - (c + 1)) xs os) Q) : Ev (fun n => L11_11 (callF prg n) (n + 1) nl (n + 1 - c) x0 x1 x8 x11 x12 os) Q := ev_loop (L := fun n m => L11_11 (callF prg n) (n + 1) nl m x0 x1 x8 x11 x12 os) (fun n m => L11_11_s _ _ _ _ _ _ _ _ _ _) h
theorem VL11_11 {nl : Nat} {Q : SV → List SO → Prop} {x0 x1 x8 x11 x12 : SV} {os : List SO} (h : Ev (fun n => gcB nl [x0, x1, x8, x11, x12] os fun xs os => G11_11 (callF prg n) (n + 1) nl (n + 1 - 1) xs os) Q) : Ev (fun n => L11_11 (callF prg n) (n + 1) nl (n + 1) x0 x1 x8 x11 x12 os) Q := UL11_11 (c := 0) h
theorem G11_11_s (K : Nat → List SV → List SO → Out) (N nl : Nat) (m11 : Nat) (x0 x1 x8 x11 x12 : SV) (os : List SO) : G11_11 K N nl m11 [x0, x1, x8, x11, x12] os = GB11_11 K N nl m11 x0 x1 x8 x11 x12 os := by kernel_rfl
theorem UG11_11 {nl : Nat} {Q : SV → List SO → Prop} (m11 : Nat → Nat) {x0 x1 x8 x11 x12 : SV} {os : List SO} (h : Ev (fun n => GB11_11 (callF prg n) (n + 1) nl (m11 n) x0 x1 x8 x11 x12 os) Q) : Ev (fun n => G11_11 (callF prg n) (n + 1) nl (m11 n) [x0, x1, x8, x11, x12] os) Q := ev_eq (fun n => G11_11_s _ _ _ _ _ _ _ _ _ _) h
theorem J11_12_s (K : Nat → List SV → List SO → Out) (N nl : Nat) (m11 : Nat) (x0 x1 x8 x11 x12 : SV) (os : List SO) : J11_12 K N nl m11 x0 x1 x8 x11 x12 os = JB11_12 K N nl m11 x0 x1 x8 x11 x12 os := by kernel_rfl
theorem UJ11_12 {nl : Nat} {Q : SV → List SO → Prop} {m11 : Nat → Nat} {x0 x1 x8 x11 x12 : SV} {os : List SO} (h : Ev (fun n => JB11_12 (callF prg n) (n + 1) nl (m11 n) x0 x1 x8 x11 x12 os) Q) : Ev (fun n => J11_12 (callF prg n) (n + 1) nl (m11 n) x0 x1 x8 x11 x12 os) Q := ev_eq (fun n => J11_12_s _ _ _ _ _ _ _ _ _ _) h
theorem L11_18_s (K : Nat → List SV → List SO → Out) (N nl : Nat) (m11 : Nat) (m18 : Nat) (x0 x1 x8 x11 x12 x13 x71 x72 x73 : SV) (os : List SO) : L11_18 K N nl m11 (m18 + 1) x0 x1 x8 x11 x12 x13 x71 x72 x73 os = gcB nl [x0, x1, x8, x11, x12, x13, x71, x72, x73] os fun xs os => G11_18 K N nl m11 m18 xs os := by kernel_rfl
theorem UL11_18 {nl c : Nat} {Q : SV → List SO → Prop} {m11 : Nat → Nat} {x0 x1 x8 x11 x12 x13 x71 x72 x73 : SV} {os : List SO} (h : Ev (fun n => gcB nl [x0, x1, x8, x11, x12, x13, x71, x72, x73] os fun xs os => G11_18 (callF prg n) (n + 1) nl (m11 n) (n + 1 - (c + 1)) xs os) Q) : Ev (fun n => L11_18 (callF prg n) (n + 1) nl (m11 n) (n + 1 - c) x0 x1 x8 x11 x12 x13 x71 x72 x73 os) Q := ev_loop (L := fun n m => L11_18 (callF prg n) (n + 1) nl (m11 n) m x0 x1 x8 x11 x12 x13 x71 x72 x73 os) (fun n m => L11_18_s _ _ _ _ _ _ _ _ _ _ _ _ _ _ _) h
theorem VL11_18 {nl : Nat} {Q : SV → List SO → Prop} {m11 : Nat → Nat} {x0 x1 x8 x11 x12 x13 x71 x72 x73 : SV} {os : List SO} (h : Ev (fun n => gcB nl [x0, x1, x8, x11, x12, x13, x71, x72, x73] os fun xs os => G11_18 (callF prg n) (n + 1) nl (m11 n) (n + 1 - 1) xs os) Q) : Ev (fun n => L11_18 (callF prg n) (n + 1) nl (m11 n) (n + 1) x0 x1 x8 x11 x12 x13 x71 x72 x73 os) Q := UL11_18 (c := 0) h
theorem G11_18_s (K : Nat → List SV → List SO → Out) (N nl : Nat) (m11 : Nat) (m18 : Nat) (x0 x1 x8 x11 x12 x13 x71 x72 x73 : SV) (os : List SO) : G11_18 K N nl m11 m18 [x0, x1, x8, x11, x12, x13, x71, x72, x73] os = GB11_18 K N nl m11 m18 x0 x1 x8 x11 x12 x13 x71 x72 x73 os := by kernel_rfl
theorem UG11_18 {nl : Nat} {Q : SV → List SO → Prop} {m11 : Nat → Nat} (m18 : Nat → Nat) {x0 x1 x8 x11 x12 x13 x71 x72 x73 : SV} {os : List SO} (h : Ev (fun n => GB11_18 (callF prg n) (n + 1) nl (m11 n) (m18 n) x0 x1 x8 x11 x12 x13 x71 x72 x73 os) Q) : Ev (fun n => G11_18 (callF prg n) (n + 1) nl (m11 n) (m18 n) [x0, x1, x8, x11, x12, x13, x71, x72, x73] os) Q := ev_eq (fun n => G11_18_s _ _ _ _ _ _ _ _ _ _ _ _ _ _ _) h
theorem X11_s (K : Nat → List SV → List SO → Out) (N nl : Nat) (x0 x1 x2 : SV) (os : List SO) : X11 K N nl x0 x1 x2 os = B11 K N nl x0 x1 x2 os := by kernel_rfl
theorem E11 (n : Nat) (x0 x1 x2 : SV) (os : List SO) : callF prg (n + 1) 11 [x0, x1, x2] os = X11 (callF prg n) (n + 1) os.length x0 x1 x2 os := by kernel_rfl
theorem U11 {Q : SV → List SO → Prop} {x0 x1 x2 : SV} {os : List SO} {nl : Nat} (hnl : os.length = nl) (h : Ev (fun n => B11 (callF prg n) (n + 1) nl x0 x1 x2 os) Q) : Ev (fun n => callF prg n 11 [x0, x1, x2] os) Q := by subst hnl; exact ev_fun (fun n => (E11 n _ _ _ _).trans (X11_s _ _ _ _ _ _ _)) h
theorem L12_4_s (K : Nat → List SV → List SO → Out) (N nl : Nat) (m4 : Nat) (x0 x1 x5 : SV) (os : List SO) : L12_4 K N nl (m4 + 1) x0 x1 x5 os = LB12_4 K N nl m4 x0 x1 x5 os := by kernel_rfl
theorem UL12_4 {nl c : Nat} {Q : SV → List SO → Prop} {x0 x1 x5 : SV} {os : List SO} (h : Ev (fun n => LB12_4 (callF prg n) (n + 1) nl (n + 1 - (c + 1)) x0 x1 x5 os) Q) : Ev (fun n => L12_4 (callF prg n) (n + 1) nl (n + 1 - c) x0 x1 x5 os) Q := ev_loop (L := fun n m => L12_4 (callF prg n) (n + 1) nl m x0 x1 x5 os) (fun n m => L12_4_s _ _ _ _ _ _ _ _) h
theorem X12_s (K : Nat → List SV → List SO → Out) (N nl : Nat) (x0 x1 : SV) (os : List SO) : X12 K N nl x0 x1 os = B12 K N nl x0 x1 os := by kernel_rfl
theorem E12 (n : Nat) (x0 x1 : SV) (os : List SO) : callF prg (n + 1) 12 [x0, x1] os = X12 (callF prg n) (n + 1) os.length x0 x1 os := by kernel_rfl
theorem U12 {Q : SV → List SO → Prop} {x0 x1 : SV} {os : List SO} {nl : Nat} (hnl : os.length = nl) (h : Ev (fun n => B12 (callF prg n) (n + 1) nl x0 x1 os) Q) : Ev (fun n => callF prg n 12 [x0, x1] os) Q := by subst hnl; exact ev_fun (fun n => (E12 n _ _ _).trans (X12_s _ _ _ _ _ _)) h
theorem X13_s (K : Nat → List SV → List SO → Out) (N nl : Nat) (x0 x1 : SV) (os : List SO) : X13 K N nl x0 x1 os = B13 K N nl x0 x1 os := by kernel_rfl
theorem E13 (n : Nat) (x0 x1 : SV) (os : List SO) : callF prg (n + 1) 13 [x0, x1] os = X13 (callF prg n) (n + 1) os.length x0 x1 os := by kernel_rfl
theorem U13 {Q : SV → List SO → Prop} {x0 x1 : SV} {os : List SO} {nl : Nat} (hnl : os.length = nl) (h : Ev (fun n => B13 (callF prg n) (n + 1) nl x0 x1 os) Q) : Ev (fun n => callF prg n 13 [x0, x1] os) Q := by subst hnl; exact ev_fun (fun n => (E13 n _ _ _).trans (X13_s _ _ _ _ _ _)) h
theorem L14_5_s (K : Nat → List SV → List SO → Out) (N nl : Nat) (m5 : Nat) (x1 x3 x11 x12 x13 : SV) (os : List SO) : L14_5 K N nl (m5 + 1) x1 x3 x11 x12 x13 os = gcB nl [x1, x3, x11, x12, x13] os fun xs os => G14_5 K N nl m5 xs os := by kernel_rfl
theorem UL14_5 {nl c : Nat} {Q : SV → List SO → Prop} {x1 x3 x11 x12 x13 : SV} {os : List SO} (h : Ev (fun n => gcB nl [x1, x3, x11, x12, x13] os fun xs os => G14_5 (callF prg n) (n + 1) nl (n + 1 - (c + 1)) xs os) Q) : Ev (fun n => L14_5 (callF prg n) (n + 1) nl (n + 1 - c) x1 x3 x11 x12 x13 os) Q := ev_loop (L := fun n m => L14_5 (callF prg n) (n + 1) nl m x1 x3 x11 x12 x13 os) (fun n m => L14_5_s _ _ _ _ _ _ _ _ _ _) h
theorem VL14_5 {nl : Nat} {Q : SV → List SO → Prop} {x1 x3 x11 x12 x13 : SV} {os : List SO} (h : Ev (fun n => gcB nl [x1, x3, x11, x12, x13] os fun xs os => G14_5 (callF prg n) (n + 1) nl (n + 1 - 1) xs os) Q) : Ev (fun n => L14_5 (callF prg n) (n + 1) nl (n + 1) x1 x3 x11 x12 x13 os) Q := UL14_5 (c := 0) h
theorem G14_5_s (K : Nat → List SV → List SO → Out) (N nl : Nat) (m5 : Nat) (x1 x3 x11 x12 x13 : SV) (os : List SO) : G14_5 K N nl m5 [x1, x3, x11, x12, x13] os = GB14_5 K N nl m5 x1 x3 x11 x12 x13 os := by kernel_rfl
theorem UG14_5 {nl : Nat} {Q : SV → List SO → Prop} (m5 : Nat → Nat) {x1 x3 x11 x12 x13 : SV} {os : List SO} (h : Ev (fun n => GB14_5 (callF prg n) (n + 1) nl (m5 n) x1 x3 x11 x12 x13 os) Q) : Ev (fun n => G14_5 (callF prg n) (n + 1) nl (m5 n) [x1, x3, x11, x12, x13] os) Q := ev_eq (fun n => G14_5_s _ _ _ _ _ _ _ _ _ _) h
theorem L14_10_s (K : Nat → List SV → List SO → Out) (N nl : Nat) (m5 : Nat) (m10 : Nat) (x1 x3 x11 x12 x13 x38 x39 x40 : SV) (os : List SO) : L14_10 K N nl m5 (m10 + 1) x1 x3 x11 x12 x13 x38 x39 x40 os = gcB nl [x1, x3, x11, x12, x13, x38, x39, x40] os fun xs os => G14_10 K N nl m5 m10 xs os := by kernel_rfl
theorem UL14_10 {nl c : Nat} {Q : SV → List SO → Prop} {m5 : Nat → Nat} {x1 x3 x11 x12 x13 x38 x39 x40 : SV} {os : List SO} (h : Ev (fun n => gcB nl [x1, x3, x11, x12, x13, x38, x39, x40] os fun xs os => G14_10 (callF prg n) (n + 1) nl (m5 n) (n + 1 - (c + 1)) xs os) Q) : Ev (fun n => L14_10 (callF prg n) (n + 1) nl (m5 n) (n + 1 - c) x1 x3 x11 x12 x13 x38 x39 x40 os) Q := ev_loop (L := fun n m => L14_10 (callF prg n) (n + 1) nl (m5 n) m x1 x3 x11 x12 x13 x38 x39 x40 os) (fun n m => L14_10_s _ _ _ _ _ _ _ _ _ _ _ _ _ _) h
theorem VL14_10 {nl : Nat} {Q : SV → List SO → Prop} {m5 : Nat → Nat} {x1 x3 x11 x12 x13 x38 x39 x40 : SV} {os : List SO} (h : Ev (fun n => gcB nl [x1, x3, x11, x12, x13, x38, x39, x40] os fun xs os => G14_10 (callF prg n) (n + 1) nl (m5 n) (n + 1 - 1) xs os) Q) : Ev (fun n => L14_10 (callF prg n) (n + 1) nl (m5 n) (n + 1) x1 x3 x11 x12 x13 x38 x39 x40 os) Q := UL14_10 (c := 0) h
theorem G14_10_s (K : Nat → List SV → List SO → Out) (N nl : Nat) (m5 : Nat) (m10 : Nat) (x1 x3 x11 x12 x13 x38 x39 x40 : SV) (os : List SO) : G14_10 K N nl m5 m10 [x1, x3, x11, x12, x13, x38, x39, x40] os = GB14_10 K N nl m5 m10 x1 x3 x11 x12 x13 x38 x39 x40 os := by kernel_rfl
theorem UG14_10 {nl : Nat} {Q : SV → List SO → Prop} {m5 : Nat → Nat} (m10 : Nat → Nat) {x1 x3 x11 x12 x13 x38 x39 x40 : SV} {os : List SO} (h : Ev (fun n => GB14_10 (callF prg n) (n + 1) nl (m5 n) (m10 n) x1 x3 x11 x12 x13 x38 x39 x40 os) Q) : Ev (fun n => G14_10 (callF prg n) (n + 1) nl (m5 n) (m10 n) [x1, x3, x11, x12, x13, x38, x39, x40] os) Q := ev_eq (fun n => G14_10_s _ _ _ _ _ _ _ _ _ _ _ _ _ _) h
theorem X14_s (K : Nat → List SV → List SO → Out) (N nl : Nat) (x0 : SV) (os : List SO) : X14 K N nl x0 os = B14 K N nl x0 os := by kernel_rfl
theorem E14 (n : Nat) (x0 : SV) (os : List SO) : callF prg (n + 1) 14 [x0] os = X14 (callF prg n) (n + 1) os.length x0 os := by kernel_rfl
theorem U14 {Q : SV → List SO → Prop} {x0 : SV} {os : List SO} {nl : Nat} (hnl : os.length = nl) (h : Ev (fun n => B14 (callF prg n) (n + 1) nl x0 os) Q) : Ev (fun n => callF prg n 14 [x0] os) Q := by subst hnl; exact ev_fun (fun n => (E14 n _ _).trans (X14_s _ _ _ _ _)) h
theorem L15_4_s (K : Nat → List SV → List SO → Out) (N nl : Nat) (m4 : Nat) (x0 x3 : SV) (os : List SO) : L15_4 K N nl (m4 + 1) x0 x3 os = LB15_4 K N nl m4 x0 x3 os := by kernel_rfl
theorem UL15_4 {nl c : Nat} {Q : SV → List SO → Prop} {x0 x3 : SV} {os : List SO} (h : Ev (fun n => LB15_4 (callF prg n) (n + 1) nl (n + 1 - (c + 1)) x0 x3 os) Q) : Ev (fun n => L15_4 (callF prg n) (n + 1) nl (n + 1 - c) x0 x3 os) Q := ev_loop (L := fun n m => L15_4 (callF prg n) (n + 1) nl m x0 x3 os) (fun n m => L15_4_s _ _ _ _ _ _ _) h
theorem L15_7_s (K : Nat → List SV → List SO → Out) (N nl : Nat) (m4 : Nat) (m7 : Nat) (x0 x3 x4 : SV) (os : List SO) : L15_7 K N nl m4 (m7 + 1) x0 x3 x4 os = LB15_7 K N nl m4 m7 x0 x3 x4 os := by kernel_rfl
theorem UL15_7 {nl c : Nat} {Q : SV → List SO → Prop} {m4 : Nat → Nat} {x0 x3 x4 : SV} {os : List SO} (h : Ev (fun n => LB15_7 (callF prg n) (n + 1) nl (m4 n) (n + 1 - (c + 1)) x0 x3 x4 os) Q) : Ev (fun n => L15_7 (callF prg n) (n + 1) nl (m4 n) (n + 1 - c) x0 x3 x4 os) Q := ev_loop (L := fun n m => L15_7 (callF prg n) (n + 1) nl (m4 n) m x0 x3 x4 os) (fun n m => L15_7_s _ _ _ _ _ _ _ _ _) h
theorem L15_12_s (K : Nat → List SV → List SO → Out) (N nl : Nat) (m4 : Nat) (m12 : Nat) (x0 x3 x5 : SV) (os : List SO) : L15_12 K N nl m4 (m12 + 1) x0 x3 x5 os = LB15_12 K N nl m4 m12 x0 x3 x5 os := by kernel_rfl
theorem UL15_12 {nl c : Nat} {Q : SV → List SO → Prop} {m4 : Nat → Nat} {x0 x3 x5 : SV} {os : List SO} (h : Ev (fun n => LB15_12 (callF prg n) (n + 1) nl (m4 n) (n + 1 - (c + 1)) x0 x3 x5 os) Q) : Ev (fun n => L15_12 (callF prg n) (n + 1) nl (m4 n) (n + 1 - c) x0 x3 x5 os) Q := ev_loop (L := fun n m => L15_12 (callF prg n) (n + 1) nl (m4 n) m x0 x3 x5 os) (fun n m => L15_12_s _ _ _ _ _ _ _ _ _) h
theorem X15_s (K : Nat → List SV → List SO → Out) (N nl : Nat) (x0 : SV) (os : List SO) : X15 K N nl x0 os = B15 K N nl x0 os := by kernel_rfl
theorem E15 (n : Nat) (x0 : SV) (os : List SO) : callF prg (n + 1) 15 [x0] os = X15 (callF prg n) (n + 1) os.length x0 os := by kernel_rfl
theorem U15 {Q : SV → List SO → Prop} {x0 : SV} {os : List SO} {nl : Nat} (hnl : os.length = nl) (h : Ev (fun n => B15 (callF prg n) (n + 1) nl x0 os) Q) : Ev (fun n => callF prg n 15 [x0] os) Q := by subst hnl; exact ev_fun (fun n => (E15 n _ _).trans (X15_s _ _ _ _ _)) h
theorem L16_2_s (K : Nat → List SV → List SO → Out) (N nl : Nat) (m2 : Nat) (x0 x3 x5 : SV) (os : List SO) : L16_2 K N nl (m2 + 1) x0 x3 x5 os = LB16_2 K N nl m2 x0 x3 x5 os := by kernel_rfl
theorem UL16_2 {nl c : Nat} {Q : SV → List SO → Prop} {x0 x3 x5 : SV} {os : List SO} (h : Ev (fun n => LB16_2 (callF prg n) (n + 1) nl (n + 1 - (c + 1)) x0 x3 x5 os) Q) : Ev (fun n => L16_2 (callF prg n) (n + 1) nl (n + 1 - c) x0 x3 x5 os) Q := ev_loop (L := fun n m => L16_2 (callF prg n) (n + 1) nl m x0 x3 x5 os) (fun n m => L16_2_s _ _ _ _ _ _ _ _) h
theorem X16_s (K : Nat → List SV → List SO → Out) (N nl : Nat) (x0 x1 : SV) (os : List SO) : X16 K N nl x0 x1 os = B16 K N nl x0 x1 os := by kernel_rfl
theorem E16 (n : Nat) (x0 x1 : SV) (os : List SO) : callF prg (n + 1) 16 [x0, x1] os = X16 (callF prg n) (n + 1) os.length x0 x1 os := by kernel_rfl
theorem U16 {Q : SV → List SO → Prop} {x0 x1 : SV} {os : List SO} {nl : Nat} (hnl : os.length = nl) (h : Ev (fun n => B16 (callF prg n) (n + 1) nl x0 x1 os) Q) : Ev (fun n => callF prg n 16 [x0, x1] os) Q := by subst hnl; exact ev_fun (fun n => (E16 n _ _ _).trans (X16_s _ _ _ _ _ _)) h
theorem J17_3_s (K : Nat → List SV → List SO → Out) (N nl : Nat) (x0 : SV) (os : List SO) : J17_3 K N nl x0 os = JB17_3 K N nl x0 os := by kernel_rfl
theorem UJ17_3 {nl : Nat} {Q : SV → List SO → Prop} {x0 : SV} {os : List SO} (h : Ev (fun n => JB17_3 (callF prg n) (n + 1) nl x0 os) Q) : Ev (fun n => J17_3 (callF prg n) (n + 1) nl x0 os) Q := ev_eq (fun n => J17_3_s _ _ _ _ _) h
theorem X17_s (K : Nat → List SV → List SO → Out) (N nl : Nat) (x0 : SV) (os : List SO) : X17 K N nl x0 os = B17 K N nl x0 os := by kernel_rfl
theorem E17 (n : Nat) (x0 : SV) (os : List SO) : callF prg (n + 1) 17 [x0] os = X17 (callF prg n) (n + 1) os.length x0 os := by kernel_rfl
theorem U17 {Q : SV → List SO → Prop} {x0 : SV} {os : List SO} {nl : Nat} (hnl : os.length = nl) (h : Ev (fun n => B17 (callF prg n) (n + 1) nl x0 os) Q) : Ev (fun n => callF prg n 17 [x0] os) Q := by subst hnl; exact ev_fun (fun n => (E17 n _ _).trans (X17_s _ _ _ _ _)) h
theorem J18_8_s (K : Nat → List SV → List SO → Out) (N nl : Nat) (x3 : SV) (os : List SO) : J18_8 K N nl x3 os = JB18_8 K N nl x3 os := by kernel_rfl
theorem UJ18_8 {nl : Nat} {Q : SV → List SO → Prop} {x3 : SV} {os : List SO} (h : Ev (fun n => JB18_8 (callF prg n) (n + 1) nl x3 os) Q) : Ev (fun n => J18_8 (callF prg n) (n + 1) nl x3 os) Q := ev_eq (fun n => J18_8_s _ _ _ _ _) h
theorem X18_s (K : Nat → List SV → List SO → Out) (N nl : Nat) (x0 : SV) (os : List SO) : X18 K N nl x0 os = B18 K N nl x0 os := by kernel_rfl
theorem E18 (n : Nat) (x0 : SV) (os : List SO) : callF prg (n + 1) 18 [x0] os = X18 (callF prg n) (n + 1) os.length x0 os := by kernel_rfl
theorem U18 {Q : SV → List SO → Prop} {x0 : SV} {os : List SO} {nl : Nat} (hnl : os.length = nl) (h : Ev (fun n => B18 (callF prg n) (n + 1) nl x0 os) Q) : Ev (fun n => callF prg n 18 [x0] os) Q := by subst hnl; exact ev_fun (fun n => (E18 n _ _).trans (X18_s _ _ _ _ _)) h
theorem L19_3_s (K : Nat → List SV → List SO → Out) (N nl : Nat) (m3 : Nat) (x0 x1 x5 x6 : SV) (os : List SO) : L19_3 K N nl (m3 + 1) x0 x1 x5 x6 os = gcB nl [x0, x1, x5, x6] os fun xs os => G19_3 K N nl m3 xs os := by kernel_rfl
theorem UL19_3 {nl c : Nat} {Q : SV → List SO → Prop} {x0 x1 x5 x6 : SV} {os : List SO} (h : Ev (fun n => gcB nl [x0, x1, x5, x6] os fun xs os => G19_3 (callF prg n) (n + 1) nl (n + 1 - (c + 1)) xs os) Q) : Ev (fun n => L19_3 (callF prg n) (n + 1) nl (n + 1 - c) x0 x1 x5 x6 os) Q := ev_loop (L := fun n m => L19_3 (callF prg n) (n + 1) nl m x0 x1 x5 x6 os) (fun n m => L19_3_s _ _ _ _ _ _ _ _ _) h
theorem VL19_3 {nl : Nat} {Q : SV → List SO → Prop} {x0 x1 x5 x6 : SV} {os : List SO} (h : Ev (fun n => gcB nl [x0, x1, x5, x6] os fun xs os => G19_3 (callF prg n) (n + 1) nl (n + 1 - 1) xs os) Q) : Ev (fun n => L19_3 (callF prg n) (n + 1) nl (n + 1) x0 x1 x5 x6 os) Q := UL19_3 (c := 0) h
theorem G19_3_s (K : Nat → List SV → List SO → Out) (N nl : Nat) (m3 : Nat) (x0 x1 x5 x6 : SV) (os : List SO) : G19_3 K N nl m3 [x0, x1, x5, x6] os = GB19_3 K N nl m3 x0 x1 x5 x6 os := by kernel_rfl
theorem UG19_3 {nl : Nat} {Q : SV → List SO → Prop} (m3 : Nat → Nat) {x0 x1 x5 x6 : SV} {os : List SO} (h : Ev (fun n => GB19_3 (callF prg n) (n + 1) nl (m3 n) x0 x1 x5 x6 os) Q) : Ev (fun n => G19_3 (callF prg n) (n + 1) nl (m3 n) [x0, x1, x5, x6] os) Q := ev_eq (fun n => G19_3_s _ _ _ _ _ _ _ _ _) h
theorem J19_4_s (K : Nat → List SV → List SO → Out) (N nl : Nat) (m3 : Nat) (x0 x1 x5 x6 : SV) (os : List SO) : J19_4 K N nl m3 x0 x1 x5 x6 os = JB19_4 K N nl m3 x0 x1 x5 x6 os := by kernel_rfl
theorem UJ19_4 {nl : Nat} {Q : SV → List SO → Prop} {m3 : Nat → Nat} {x0 x1 x5 x6 : SV} {os : List SO} (h : Ev (fun n => JB19_4 (callF prg n) (n + 1) nl (m3 n) x0 x1 x5 x6 os) Q) : Ev (fun n => J19_4 (callF prg n) (n + 1) nl (m3 n) x0 x1 x5 x6 os) Q := ev_eq (fun n => J19_4_s _ _ _ _ _ _ _ _ _) h
theorem X19_s (K : Nat → List SV → List SO → Out) (N nl : Nat) (x0 x1 : SV) (os : List SO) : X19 K N nl x0 x1 os = B19 K N nl x0 x1 os := by kernel_rfl
theorem E19 (n : Nat) (x0 x1 : SV) (os : List SO) : callF prg (n + 1) 19 [x0, x1] os = X19 (callF prg n) (n + 1) os.length x0 x1 os := by kernel_rfl
theorem U19 {Q : SV → List SO → Prop} {x0 x1 : SV} {os : List SO} {nl : Nat} (hnl : os.length = nl) (h : Ev (fun n => B19 (callF prg n) (n + 1) nl x0 x1 os) Q) : Ev (fun n => callF prg n 19 [x0, x1] os) Q := by subst hnl; exact ev_fun (fun n => (E19 n _ _ _).trans (X19_s _ _ _ _ _ _)) h
theorem L20_3_s (K : Nat → List SV → List SO → Out) (N nl : Nat) (m3 : Nat) (x0 x3 x4 : SV) (os : List SO) : L20_3 K N nl (m3 + 1) x0 x3 x4 os = gcB nl [x0, x3, x4] os fun xs os => G20_3 K N nl m3 xs os := by kernel_rfl
theorem UL20_3 {nl c : Nat} {Q : SV → List SO → Prop} {x0 x3 x4 : SV} {os : List SO} (h : Ev (fun n => gcB nl [x0, x3, x4] os fun xs os => G20_3 (callF prg n) (n + 1) nl (n + 1 - (c + 1)) xs os) Q) : Ev (fun n => L20_3 (callF prg n) (n + 1) nl (n + 1 - c) x0 x3 x4 os) Q := ev_loop (L := fun n m => L20_3 (callF prg n) (n + 1) nl m x0 x3 x4 os) (fun n m => L20_3_s _ _ _ _ _ _ _ _) h
theorem VL20_3 {nl : Nat} {Q : SV → List SO → Prop} {x0 x3 x4 : SV} {os : List SO} (h : Ev (fun n => gcB nl [x0, x3, x4] os fun xs os => G20_3 (callF prg n) (n + 1) nl (n + 1 - 1) xs os) Q) : Ev (fun n => L20_3 (callF prg n) (n + 1) nl (n + 1) x0 x3 x4 os) Q := UL20_3 (c := 0) h
theorem G20_3_s (K : Nat → List SV → List SO → Out) (N nl : Nat) (m3 : Nat) (x0 x3 x4 : SV) (os : List SO) : G20_3 K N nl m3 [x0, x3, x4] os = GB20_3 K N nl m3 x0 x3 x4 os := by kernel_rfl
theorem UG20_3 {nl : Nat} {Q : SV → List SO → Prop} (m3 : Nat → Nat) {x0 x3 x4 : SV} {os : List SO} (h : Ev (fun n => GB20_3 (callF prg n) (n + 1) nl (m3 n) x0 x3 x4 os) Q) : Ev (fun n => G20_3 (callF prg n) (n + 1) nl (m3 n) [x0, x3, x4] os) Q := ev_eq (fun n => G20_3_s _ _ _ _ _ _ _ _) h
theorem J20_4_s (K : Nat → List SV → List SO → Out) (N nl : Nat) (m3 : Nat) (x0 x3 x4 : SV) (os : List SO) : J20_4 K N nl m3 x0 x3 x4 os = JB20_4 K N nl m3 x0 x3 x4 os := by kernel_rfl
theorem UJ20_4 {nl : Nat} {Q : SV → List SO → Prop} {m3 : Nat → Nat} {x0 x3 x4 : SV} {os : List SO} (h : Ev (fun n => JB20_4 (callF prg n) (n + 1) nl (m3 n) x0 x3 x4 os) Q) : Ev (fun n => J20_4 (callF prg n) (n + 1) nl (m3 n) x0 x3 x4 os) Q := ev_eq (fun n => J20_4_s _ _ _ _ _ _ _ _) h
theorem X20_s (K : Nat → List SV → List SO → Out) (N nl : Nat) (x0 : SV) (os : List SO) : X20 K N nl x0 os = B20 K N nl x0 os := by kernel_rfl
theorem E20 (n : Nat) (x0 : SV) (os : List SO) : callF prg (n + 1) 20 [x0] os = X20 (callF prg n) (n + 1) os.length x0 os := by kernel_rfl
theorem U20 {Q : SV → List SO → Prop} {x0 : SV} {os : List SO} {nl : Nat} (hnl : os.length = nl) (h : Ev (fun n => B20 (callF prg n) (n + 1) nl x0 os) Q) : Ev (fun n => callF prg n 20 [x0] os) Q := by subst hnl; exact ev_fun (fun n => (E20 n _ _).trans (X20_s _ _ _ _ _)) h
theorem X21_s (K : Nat → List SV → List SO → Out) (N nl : Nat) (x0 x1 : SV) (os : List SO) : X21 K N nl x0 x1 os = B21 K N nl x0 x1 os := by kernel_rfl
theorem E21 (n : Nat) (x0 x1 : SV) (os : List SO) : callF prg (n + 1) 21 [x0, x1] os = X21 (callF prg n) (n + 1) os.length x0 x1 os := by kernel_rfl
theorem U21 {Q : SV → List SO → Prop} {x0 x1 : SV} {os : List SO} {nl : Nat} (hnl : os.length = nl) (h : Ev (fun n => B21 (callF prg n) (n + 1) nl x0 x1 os) Q) : Ev (fun n => callF prg n 21 [x0, x1] os) Q := by subst hnl; exact ev_fun (fun n => (E21 n _ _ _).trans (X21_s _ _ _ _ _ _)) h
theorem X22_s (K : Nat → List SV → List SO → Out) (N nl : Nat) (x0 : SV) (os : List SO) : X22 K N nl x0 os = B22 K N nl x0 os := by kernel_rfl
theorem E22 (n : Nat) (x0 : SV) (os : List SO) : callF prg (n + 1) 22 [x0] os = X22 (callF prg n) (n + 1) os.length x0 os := by kernel_rfl
theorem U22 {Q : SV → List SO → Prop} {x0 : SV} {os : List SO} {nl : Nat} (hnl : os.length = nl) (h : Ev (fun n => B22 (callF prg n) (n + 1) nl x0 os) Q) : Ev (fun n => callF prg n 22 [x0] os) Q := by subst hnl; exact ev_fun (fun n => (E22 n _ _).trans (X22_s _ _ _ _ _)) h
theorem X23_s (K : Nat → List SV → List SO → Out) (N nl : Nat) (x0 x1 x2 : SV) (os : List SO) : X23 K N nl x0 x1 x2 os = B23 K N nl x0 x1 x2 os := by kernel_rfl
theorem E23 (n : Nat) (x0 x1 x2 : SV) (os : List SO) : callF prg (n + 1) 23 [x0, x1, x2] os = X23 (callF prg n) (n + 1) os.length x0 x1 x2 os := by kernel_rfl
theorem U23 {Q : SV → List SO → Prop} {x0 x1 x2 : SV} {os : List SO} {nl : Nat} (hnl : os.length = nl) (h : Ev (fun n => B23 (callF prg n) (n + 1) nl x0 x1 x2 os) Q) : Ev (fun n => callF prg n 23 [x0, x1, x2] os) Q := by subst hnl; exact ev_fun (fun n => (E23 n _ _ _ _).trans (X23_s _ _ _ _ _ _ _)) h
theorem L24_4_s (K : Nat → List SV → List SO → Out) (N nl : Nat) (m4 : Nat) (x0 x1 x8 x9 : SV) (os : List SO) : L24_4 K N nl (m4 + 1) x0 x1 x8 x9 os = LB24_4 K N nl m4 x0 x1 x8 x9 os := by kernel_rfl
theorem UL24_4 {nl c : Nat} {Q : SV → List SO → Prop} {x0 x1 x8 x9 : SV} {os : List SO} (h : Ev (fun n => LB24_4 (callF prg n) (n + 1) nl (n + 1 - (c + 1)) x0 x1 x8 x9 os) Q) : Ev (fun n => L24_4 (callF prg n) (n + 1) nl (n + 1 - c) x0 x1 x8 x9 os) Q := ev_loop (L := fun n m => L24_4 (callF prg n) (n + 1) nl m x0 x1 x8 x9 os) (fun n m => L24_4_s _ _ _ _ _ _ _ _ _) h
theorem L24_9_s (K : Nat → List SV → List SO → Out) (N nl : Nat) (m9 : Nat) (x0 x1 x8 x10 x11 : SV) (os : List SO) : L24_9 K N nl (m9 + 1) x0 x1 x8 x10 x11 os = gcB nl [x0, x1, x8, x10, x11] os fun xs os => G24_9 K N nl m9 xs os := by kernel_rfl
theorem UL24_9 {nl c : Nat} {Q : SV → List SO → Prop} {x0 x1 x8 x10 x11 : SV} {os : List SO} (h : Ev (fun n => gcB nl [x0, x1, x8, x10, x11] os fun xs os => G24_9 (callF prg n) (n + 1) nl (n + 1 - (c + 1)) xs os) Q) : Ev (fun n => L24_9 (callF prg n) (n + 1) nl (n + 1 - c) x0 x1 x8 x10 x11 os) Q := ev_loop (L := fun n m => L24_9 (callF prg n) (n + 1) nl m x0 x1 x8 x10 x11 os) (fun n m => L24_9_s _ _ _ _ _ _ _ _ _ _) h
theorem VL24_9 {nl : Nat} {Q : SV → List SO → Prop} {x0 x1 x8 x10 x11 : SV} {os : List SO} (h : Ev (fun n => gcB nl [x0, x1, x8, x10, x11] os fun xs os => G24_9 (callF prg n) (n + 1) nl (n + 1 - 1) xs os) Q) : Ev (fun n => L24_9 (callF prg n) (n + 1) nl (n + 1) x0 x1 x8 x10 x11 os) Q := UL24_9 (c := 0) h
theorem G24_9_s (K : Nat → List SV → List SO → Out) (N nl : Nat) (m9 : Nat) (x0 x1 x8 x10 x11 : SV) (os : List SO) : G24_9 K N nl m9 [x0, x1, x8, x10, x11] os = GB24_9 K N nl m9 x0 x1 x8 x10 x11 os := by kernel_rfl
theorem UG24_9 {nl : Nat} {Q : SV → List SO → Prop} (m9 : Nat → Nat) {x0 x1 x8 x10 x11 : SV} {os : List SO} (h : Ev (fun n => GB24_9 (callF prg n) (n + 1) nl (m9 n) x0 x1 x8 x10 x11 os) Q) : Ev (fun n => G24_9 (callF prg n) (n + 1) nl (m9 n) [x0, x1, x8, x10, x11] os) Q := ev_eq (fun n => G24_9_s _ _ _ _ _ _ _ _ _ _) h
theorem J24_10_s (K : Nat → List SV → List SO → Out) (N nl : Nat) (m9 : Nat) (x0 x1 x8 x10 x11 : SV) (os : List SO) : J24_10 K N nl m9 x0 x1 x8 x10 x11 os = JB24_10 K N nl m9 x0 x1 x8 x10 x11 os := by kernel_rfl
theorem UJ24_10 {nl : Nat} {Q : SV → List SO → Prop} {m9 : Nat → Nat} {x0 x1 x8 x10 x11 : SV} {os : List SO} (h : Ev (fun n => JB24_10 (callF prg n) (n + 1) nl (m9 n) x0 x1 x8 x10 x11 os) Q) : Ev (fun n => J24_10 (callF prg n) (n + 1) nl (m9 n) x0 x1 x8 x10 x11 os) Q := ev_eq (fun n => J24_10_s _ _ _ _ _ _ _ _ _ _) h
theorem L24_17_s (K : Nat → List SV → List SO → Out) (N nl : Nat) (m9 : Nat) (m17 : Nat) (x0 x1 x8 x10 x12 x14 : SV) (os : List SO) : L24_17 K N nl m9 (m17 + 1) x0 x1 x8 x10 x12 x14 os = LB24_17 K N nl m9 m17 x0 x1 x8 x10 x12 x14 os := by kernel_rfl
theorem UL24_17 {nl c : Nat} {Q : SV → List SO → Prop} {m9 : Nat → Nat} {x0 x1 x8 x10 x12 x14 : SV} {os : List SO} (h : Ev (fun n => LB24_17 (callF prg n) (n + 1) nl (m9 n) (n + 1 - (c + 1)) x0 x1 x8 x10 x12 x14 os) Q) : Ev (fun n => L24_17 (callF prg n) (n + 1) nl (m9 n) (n + 1 - c) x0 x1 x8 x10 x12 x14 os) Q := ev_loop (L := fun n m => L24_17 (callF prg n) (n + 1) nl (m9 n) m x0 x1 x8 x10 x12 x14 os) (fun n m => L24_17_s _ _ _ _ _ _ _ _ _ _ _ _) h
theorem X24_s (K : Nat → List SV → List SO → Out) (N nl : Nat) (x0 x1 x2 : SV) (os : List SO) : X24 K N nl x0 x1 x2 os = B24 K N nl x0 x1 x2 os := by kernel_rfl
theorem E24 (n : Nat) (x0 x1 x2 : SV) (os : List SO) : callF prg (n + 1) 24 [x0, x1, x2] os = X24 (callF prg n) (n + 1) os.length x0 x1 x2 os := by kernel_rfl
theorem U24 {Q : SV → List SO → Prop} {x0 x1 x2 : SV} {os : List SO} {nl : Nat} (hnl : os.length = nl) (h : Ev (fun n => B24 (callF prg n) (n + 1) nl x0 x1 x2 os) Q) : Ev (fun n => callF prg n 24 [x0, x1, x2] os) Q := by subst hnl; exact ev_fun (fun n => (E24 n _ _ _ _).trans (X24_s _ _ _ _ _ _ _)) h
theorem L25_2_s (K : Nat → List SV → List SO → Out) (N nl : Nat) (m2 : Nat) (x0 x5 x6 x7 : SV) (os : List SO) : L25_2 K N nl (m2 + 1) x0 x5 x6 x7 os = gcB nl [x0, x5, x6, x7] os fun xs os => G25_2 K N nl m2 xs os := by kernel_rfl
theorem UL25_2 {nl c : Nat} {Q : SV → List SO → Prop} {x0 x5 x6 x7 : SV} {os : List SO} (h : Ev (fun n => gcB nl [x0, x5, x6, x7] os fun xs os => G25_2 (callF prg n) (n + 1) nl (n + 1 - (c + 1)) xs os) Q) : Ev (fun n => L25_2 (callF prg n) (n + 1) nl (n + 1 - c) x0 x5 x6 x7 os) Q := ev_loop (L := fun n m => L25_2 (callF prg n) (n + 1) nl m x0 x5 x6 x7 os) (fun n m => L25_2_s _ _ _ _ _ _ _ _ _) h
theorem VL25_2 {nl : Nat} {Q : SV → List SO → Prop} {x0 x5 x6 x7 : SV} {os : List SO} (h : Ev (fun n => gcB nl [x0, x5, x6, x7] os fun xs os => G25_2 (callF prg n) (n + 1) nl (n + 1 - 1) xs os) Q) : Ev (fun n => L25_2 (callF prg n) (n + 1) nl (n + 1) x0 x5 x6 x7 os) Q := UL25_2 (c := 0) h
theorem G25_2_s (K : Nat → List SV → List SO → Out) (N nl : Nat) (m2 : Nat) (x0 x5 x6 x7 : SV) (os : List SO) : G25_2 K N nl m2 [x0, x5, x6, x7] os = GB25_2 K N nl m2 x0 x5 x6 x7 os := by kernel_rfl
theorem UG25_2 {nl : Nat} {Q : SV → List SO → Prop} (m2 : Nat → Nat) {x0 x5 x6 x7 : SV} {os : List SO} (h : Ev (fun n => GB25_2 (callF prg n) (n + 1) nl (m2 n) x0 x5 x6 x7 os) Q) : Ev (fun n => G25_2 (callF prg n) (n + 1) nl (m2 n) [x0, x5, x6, x7] os) Q := ev_eq (fun n => G25_2_s _ _ _ _ _ _ _ _ _) h
theorem X25_s (K : Nat → List SV → List SO → Out) (N nl : Nat) (x0 : SV) (os : List SO) : X25 K N nl x0 os = B25 K N nl x0 os := by kernel_rfl
theorem E25 (n : Nat) (x0 : SV) (os : List SO) : callF prg (n + 1) 25 [x0] os = X25 (callF prg n) (n + 1) os.length x0 os := by kernel_rfl
theorem U25 {Q : SV → List SO → Prop} {x0 : SV} {os : List SO} {nl : Nat} (hnl : os.length = nl) (h : Ev (fun n => B25 (callF prg n) (n + 1) nl x0 os) Q) : Ev (fun n => callF prg n 25 [x0] os) Q := by subst hnl; exact ev_fun (fun n => (E25 n _ _).trans (X25_s _ _ _ _ _)) h
theorem X26_s (K : Nat → List SV → List SO → Out) (N nl : Nat) (x0 : SV) (os : List SO) : X26 K N nl x0 os = B26 K N nl x0 os := by kernel_rfl
theorem E26 (n : Nat) (x0 : SV) (os : List SO) : callF prg (n + 1) 26 [x0] os = X26 (callF prg n) (n + 1) os.length x0 os := by kernel_rfl
theorem U26 {Q : SV → List SO → Prop} {x0 : SV} {os : List SO} {nl : Nat} (hnl : os.length = nl) (h : Ev (fun n => B26 (callF prg n) (n + 1) nl x0 os) Q) : Ev (fun n => callF prg n 26 [x0] os) Q := by subst hnl; exact ev_fun (fun n => (E26 n _ _).trans (X26_s _ _ _ _ _)) h
theorem X27_s (K : Nat → List SV → List SO → Out) (N nl : Nat) (x0 x1 : SV) (os : List SO) : X27 K N nl x0 x1 os = B27 K N nl x0 x1 os := by kernel_rfl
theorem E27 (n : Nat) (x0 x1 : SV) (os : List SO) : callF prg (n + 1) 27 [x0, x1] os = X27 (callF prg n) (n + 1) os.length x0 x1 os := by kernel_rfl
theorem U27 {Q : SV → List SO → Prop} {x0 x1 : SV} {os : List SO} {nl : Nat} (hnl : os.length = nl) (h : Ev (fun n => B27 (callF prg n) (n + 1) nl x0 x1 os) Q) : Ev (fun n => callF prg n 27 [x0, x1] os) Q := by subst hnl; exact ev_fun (fun n => (E27 n _ _ _).trans (X27_s _ _ _ _ _ _)) h
theorem X28_s (K : Nat → List SV → List SO → Out) (N nl : Nat) (x0 x1 x2 : SV) (os : List SO) : X28 K N nl x0 x1 x2 os = B28 K N nl x0 x1 x2 os := by kernel_rfl
theorem E28 (n : Nat) (x0 x1 x2 : SV) (os : List SO) : callF prg (n + 1) 28 [x0, x1, x2] os = X28 (callF prg n) (n + 1) os.length x0 x1 x2 os := by kernel_rfl
theorem U28 {Q : SV → List SO → Prop} {x0 x1 x2 : SV} {os : List SO} {nl : Nat} (hnl : os.length = nl) (h : Ev (fun n => B28 (callF prg n) (n + 1) nl x0 x1 x2 os) Q) : Ev (fun n => callF prg n 28 [x0, x1, x2] os) Q := by subst hnl; exact ev_fun (fun n => (E28 n _ _ _ _).trans (X28_s _ _ _ _ _ _ _)) h
theorem X29_s (K : Nat → List SV → List SO → Out) (N nl : Nat) (x0 x1 : SV) (os : List SO) : X29 K N nl x0 x1 os = B29 K N nl x0 x1 os := by kernel_rfl
theorem E29 (n : Nat) (x0 x1 : SV) (os : List SO) : callF prg (n + 1) 29 [x0, x1] os = X29 (callF prg n) (n + 1) os.length x0 x1 os := by kernel_rfl
theorem U29 {Q : SV → List SO → Prop} {x0 x1 : SV} {os : List SO} {nl : Nat} (hnl : os.length = nl) (h : Ev (fun n => B29 (callF prg n) (n + 1) nl x0 x1 os) Q) : Ev (fun n => callF prg n 29 [x0, x1] os) Q := by subst hnl; exact ev_fun (fun n => (E29 n _ _ _).trans (X29_s _ _ _ _ _ _)) h
theorem L30_4_s (K : Nat → List SV → List SO → Out) (N nl : Nat) (m4 : Nat) (x2 x3 x5 : SV) (os : List SO) : L30_4 K N nl (m4 + 1) x2 x3 x5 os = LB30_4 K N nl m4 x2 x3 x5 os := by kernel_rfl
theorem UL30_4 {nl c : Nat} {Q : SV → List SO → Prop} {x2 x3 x5 : SV} {os : List SO} (h : Ev (fun n => LB30_4 (callF prg n) (n + 1) nl (n + 1 - (c + 1)) x2 x3 x5 os) Q) : Ev (fun n => L30_4 (callF prg n) (n + 1) nl (n + 1 - c) x2 x3 x5 os) Q := ev_loop (L := fun n m => L30_4 (callF prg n) (n + 1) nl m x2 x3 x5 os) (fun n m => L30_4_s _ _ _ _ _ _ _ _) h
theorem L30_9_s (K : Nat → List SV → List SO → Out) (N nl : Nat) (m9 : Nat) (x2 x3 x6 : SV) (os : List SO) : L30_9 K N nl (m9 + 1) x2 x3 x6 os = LB30_9 K N nl m9 x2 x3 x6 os := by kernel_rfl
theorem UL30_9 {nl c : Nat} {Q : SV → List SO → Prop} {x2 x3 x6 : SV} {os : List SO} (h : Ev (fun n => LB30_9 (callF prg n) (n + 1) nl (n + 1 - (c + 1)) x2 x3 x6 os) Q) : Ev (fun n => L30_9 (callF prg n) (n + 1) nl (n + 1 - c) x2 x3 x6 os) Q := ev_loop (L := fun n m => L30_9 (callF prg n) (n + 1) nl m x2 x3 x6 os) (fun n m => L30_9_s _ _ _ _ _ _ _ _) h
theorem X30_s (K : Nat → List SV → List SO → Out) (N nl : Nat) (x0 x1 : SV) (os : List SO) : X30 K N nl x0 x1 os = B30 K N nl x0 x1 os := by kernel_rfl
theorem E30 (n : Nat) (x0 x1 : SV) (os : List SO) : callF prg (n + 1) 30 [x0, x1] os = X30 (callF prg n) (n + 1) os.length x0 x1 os := by kernel_rfl
theorem U30 {Q : SV → List SO → Prop} {x0 x1 : SV} {os : List SO} {nl : Nat} (hnl : os.length = nl) (h : Ev (fun n => B30 (callF prg n) (n + 1) nl x0 x1 os) Q) : Ev (fun n => callF prg n 30 [x0, x1] os) Q := by subst hnl; exact ev_fun (fun n => (E30 n _ _ _).trans (X30_s _ _ _ _ _ _)) h
theorem L31_3_s (K : Nat → List SV → List SO → Out) (N nl : Nat) (m3 : Nat) (x1 x5 x8 x9 x10 : SV) (os : List SO) : L31_3 K N nl (m3 + 1) x1 x5 x8 x9 x10 os = gcB nl [x1, x5, x8, x9, x10] os fun xs os => G31_3 K N nl m3 xs os := by kernel_rfl
theorem UL31_3 {nl c : Nat} {Q : SV → List SO → Prop} {x1 x5 x8 x9 x10 : SV} {os : List SO} (h : Ev (fun n => gcB nl [x1, x5, x8, x9, x10] os fun xs os => G31_3 (callF prg n) (n + 1) nl (n + 1 - (c + 1)) xs os) Q) : Ev (fun n => L31_3 (callF prg n) (n + 1) nl (n + 1 - c) x1 x5 x8 x9 x10 os) Q := ev_loop (L := fun n m => L31_3 (callF prg n) (n + 1) nl m x1 x5 x8 x9 x10 os) (fun n m => L31_3_s _ _ _ _ _ _ _ _ _ _) h
theorem VL31_3 {nl : Nat} {Q : SV → List SO → Prop} {x1 x5 x8 x9 x10 : SV} {os : List SO} (h : Ev (fun n => gcB nl [x1, x5, x8, x9, x10] os fun xs os => G31_3 (callF prg n) (n + 1) nl (n + 1 - 1) xs os) Q) : Ev (fun n => L31_3 (callF prg n) (n + 1) nl (n + 1) x1 x5 x8 x9 x10 os) Q := UL31_3 (c := 0) h
theorem G31_3_s (K : Nat → List SV → List SO → Out) (N nl : Nat) (m3 : Nat) (x1 x5 x8 x9 x10 : SV) (os : List SO) : G31_3 K N nl m3 [x1, x5, x8, x9, x10] os = GB31_3 K N nl m3 x1 x5 x8 x9 x10 os := by kernel_rfl
theorem UG31_3 {nl : Nat} {Q : SV → List SO → Prop} (m3 : Nat → Nat) {x1 x5 x8 x9 x10 : SV} {os : List SO} (h : Ev (fun n => GB31_3 (callF prg n) (n + 1) nl (m3 n) x1 x5 x8 x9 x10 os) Q) : Ev (fun n => G31_3 (callF prg n) (n + 1) nl (m3 n) [x1, x5, x8, x9, x10] os) Q := ev_eq (fun n => G31_3_s _ _ _ _ _ _ _ _ _ _) h
theorem J31_7_s (K : Nat → List SV → List SO → Out) (N nl : Nat) (m3 : Nat) (x1 x5 x8 x9 x10 : SV) (os : List SO) : J31_7 K N nl m3 x1 x5 x8 x9 x10 os = JB31_7 K N nl m3 x1 x5 x8 x9 x10 os := by kernel_rfl
theorem UJ31_7 {nl : Nat} {Q : SV → List SO → Prop} {m3 : Nat → Nat} {x1 x5 x8 x9 x10 : SV} {os : List SO} (h : Ev (fun n => JB31_7 (callF prg n) (n + 1) nl (m3 n) x1 x5 x8 x9 x10 os) Q) : Ev (fun n => J31_7 (callF prg n) (n + 1) nl (m3 n) x1 x5 x8 x9 x10 os) Q := ev_eq (fun n => J31_7_s _ _ _ _ _ _ _ _ _ _) h
theorem X31_s (K : Nat → List SV → List SO → Out) (N nl : Nat) (x0 x1 : SV) (os : List SO) : X31 K N nl x0 x1 os = B31 K N nl x0 x1 os := by kernel_rfl
theorem E31 (n : Nat) (x0 x1 : SV) (os : List SO) : callF prg (n + 1) 31 [x0, x1] os = X31 (callF prg n) (n + 1) os.length x0 x1 os := by kernel_rfl
theorem U31 {Q : SV → List SO → Prop} {x0 x1 : SV} {os : List SO} {nl : Nat} (hnl : os.length = nl) (h : Ev (fun n => B31 (callF prg n) (n + 1) nl x0 x1 os) Q) : Ev (fun n => callF prg n 31 [x0, x1] os) Q := by subst hnl; exact ev_fun (fun n => (E31 n _ _ _).trans (X31_s _ _ _ _ _ _)) h
theorem X32_s (K : Nat → List SV → List SO → Out) (N nl : Nat) (x0 : SV) (os : List SO) : X32 K N nl x0 os = B32 K N nl x0 os := by kernel_rfl
theorem E32 (n : Nat) (x0 : SV) (os : List SO) : callF prg (n + 1) 32 [x0] os = X32 (callF prg n) (n + 1) os.length x0 os := by kernel_rfl
theorem U32 {Q : SV → List SO → Prop} {x0 : SV} {os : List SO} {nl : Nat} (hnl : os.length = nl) (h : Ev (fun n => B32 (callF prg n) (n + 1) nl x0 os) Q) : Ev (fun n => callF prg n 32 [x0] os) Q := by subst hnl; exact ev_fun (fun n => (E32 n _ _).trans (X32_s _ _ _ _ _)) h
theorem X33_s (K : Nat → List SV → List SO → Out) (N nl : Nat) (x0 x1 : SV) (os : List SO) : X33 K N nl x0 x1 os = B33 K N nl x0 x1 os := by kernel_rfl
theorem E33 (n : Nat) (x0 x1 : SV) (os : List SO) : callF prg (n + 1) 33 [x0, x1] os = X33 (callF prg n) (n + 1) os.length x0 x1 os := by kernel_rfl
theorem U33 {Q : SV → List SO → Prop} {x0 x1 : SV} {os : List SO} {nl : Nat} (hnl : os.length = nl) (h : Ev (fun n => B33 (callF prg n) (n + 1) nl x0 x1 os) Q) : Ev (fun n => callF prg n 33 [x0, x1] os) Q := by subst hnl; exact ev_fun (fun n => (E33 n _ _ _).trans (X33_s _ _ _ _ _ _)) h
theorem X34_s (K : Nat → List SV → List SO → Out) (N nl : Nat) (x0 x1 : SV) (os : List SO) : X34 K N nl x0 x1 os = B34 K N nl x0 x1 os := by kernel_rfl
theorem E34 (n : Nat) (x0 x1 : SV) (os : List SO) : callF prg (n + 1) 34 [x0, x1] os = X34 (callF prg n) (n + 1) os.length x0 x1 os := by kernel_rfl
theorem U34 {Q : SV → List SO → Prop} {x0 x1 : SV} {os : List SO} {nl : Nat} (hnl : os.length = nl) (h : Ev (fun n => B34 (callF prg n) (n + 1) nl x0 x1 os) Q) : Ev (fun n => callF prg n 34 [x0, x1] os) Q := by subst hnl; exact ev_fun (fun n => (E34 n _ _ _).trans (X34_s _ _ _ _ _ _)) h
theorem X35_s (K : Nat → List SV → List SO → Out) (N nl : Nat) (x0 x1 : SV) (os : List SO) : X35 K N nl x0 x1 os = B35 K N nl x0 x1 os := by kernel_rfl
theorem E35 (n : Nat) (x0 x1 : SV) (os : List SO) : callF prg (n + 1) 35 [x0, x1] os = X35 (callF prg n) (n + 1) os.length x0 x1 os := by kernel_rfl
theorem U35 {Q : SV → List SO → Prop} {x0 x1 : SV} {os : List SO} {nl : Nat} (hnl : os.length = nl) (h : Ev (fun n => B35 (callF prg n) (n + 1) nl x0 x1 os) Q) : Ev (fun n => callF prg n 35 [x0, x1] os) Q := by subst hnl; exact ev_fun (fun n => (E35 n _ _ _).trans (X35_s _ _ _ _ _ _)) h
theorem L36_2_s (K : Nat → List SV → List SO → Out) (N nl : Nat) (m2 : Nat) (x0 x3 : SV) (os : List SO) : L36_2 K N nl (m2 + 1) x0 x3 os = LB36_2 K N nl m2 x0 x3 os := by kernel_rfl
theorem UL36_2 {nl c : Nat} {Q : SV → List SO → Prop} {x0 x3 : SV} {os : List SO} (h : Ev (fun n => LB36_2 (callF prg n) (n + 1) nl (n + 1 - (c + 1)) x0 x3 os) Q) : Ev (fun n => L36_2 (callF prg n) (n + 1) nl (n + 1 - c) x0 x3 os) Q := ev_loop (L := fun n m => L36_2 (callF prg n) (n + 1) nl m x0 x3 os) (fun n m => L36_2_s _ _ _ _ _ _ _) h
theorem X36_s (K : Nat → List SV → List SO → Out) (N nl : Nat) (x0 : SV) (os : List SO) : X36 K N nl x0 os = B36 K N nl x0 os := by kernel_rfl
theorem E36 (n : Nat) (x0 : SV) (os : List SO) : callF prg (n + 1) 36 [x0] os = X36 (callF prg n) (n + 1) os.length x0 os := by kernel_rfl
theorem U36 {Q : SV → List SO → Prop} {x0 : SV} {os : List SO} {nl : Nat} (hnl : os.length = nl) (h : Ev (fun n => B36 (callF prg n) (n + 1) nl x0 os) Q) : Ev (fun n => callF prg n 36 [x0] os) Q := by subst hnl; exact ev_fun (fun n => (E36 n _ _).trans (X36_s _ _ _ _ _)) h
theorem X37_s (K : Nat → List SV → List SO → Out) (N nl : Nat) (x0 x1 : SV) (os : List SO) : X37 K N nl x0 x1 os = B37 K N nl x0 x1 os := by kernel_rfl
theorem E37 (n : Nat) (x0 x1 : SV) (os : List SO) : callF prg (n + 1) 37 [x0, x1] os = X37 (callF prg n) (n + 1) os.length x0 x1 os := by kernel_rfl
theorem U37 {Q : SV → List SO → Prop} {x0 x1 : SV} {os : List SO} {nl : Nat} (hnl : os.length = nl) (h : Ev (fun n => B37 (callF prg n) (n + 1) nl x0 x1 os) Q) : Ev (fun n => callF prg n 37 [x0, x1] os) Q := by subst hnl; exact ev_fun (fun n => (E37 n _ _ _).trans (X37_s _ _ _ _ _ _)) h
theorem L38_2_s (K : Nat → List SV → List SO → Out) (N nl : Nat) (m2 : Nat) (x0 x1 x2 x7 : SV) (os : List SO) : L38_2 K N nl (m2 + 1) x0 x1 x2 x7 os = LB38_2 K N nl m2 x0 x1 x2 x7 os := by kernel_rfl
theorem UL38_2 {nl c : Nat} {Q : SV → List SO → Prop} {x0 x1 x2 x7 : SV} {os : List SO} (h : Ev (fun n => LB38_2 (callF prg n) (n + 1) nl (n + 1 - (c + 1)) x0 x1 x2 x7 os) Q) : Ev (fun n => L38_2 (callF prg n) (n + 1) nl (n + 1 - c) x0 x1 x2 x7 os) Q := ev_loop (L := fun n m => L38_2 (callF prg n) (n + 1) nl m x0 x1 x2 x7 os) (fun n m => L38_2_s _ _ _ _ _ _ _ _ _) h
theorem L38_5_s (K : Nat → List SV → List SO → Out) (N nl : Nat) (m2 : Nat) (m5 : Nat) (x0 x1 x2 x7 x8 : SV) (os : List SO) : L38_5 K N nl m2 (m5 + 1) x0 x1 x2 x7 x8 os = LB38_5 K N nl m2 m5 x0 x1 x2 x7 x8 os := by kernel_rfl
theorem UL38_5 {nl c : Nat} {Q : SV → List SO → Prop} {m2 : Nat → Nat} {x0 x1 x2 x7 x8 : SV} {os : List SO} (h : Ev (fun n => LB38_5 (callF prg n) (n + 1) nl (m2 n) (n + 1 - (c + 1)) x0 x1 x2 x7 x8 os) Q) : Ev (fun n => L38_5 (callF prg n) (n + 1) nl (m2 n) (n + 1 - c) x0 x1 x2 x7 x8 os) Q := ev_loop (L := fun n m => L38_5 (callF prg n) (n + 1) nl (m2 n) m x0 x1 x2 x7 x8 os) (fun n m => L38_5_s _ _ _ _ _ _ _ _ _ _ _) h
theorem X38_s (K : Nat → List SV → List SO → Out) (N nl : Nat) (x0 x1 x2 : SV) (os : List SO) : X38 K N nl x0 x1 x2 os = B38 K N nl x0 x1 x2 os := by kernel_rfl
theorem E38 (n : Nat) (x0 x1 x2 : SV) (os : List SO) : callF prg (n + 1) 38 [x0, x1, x2] os = X38 (callF prg n) (n + 1) os.length x0 x1 x2 os := by kernel_rfl
theorem U38 {Q : SV → List SO → Prop} {x0 x1 x2 : SV} {os : List SO} {nl : Nat} (hnl : os.length = nl) (h : Ev (fun n => B38 (callF prg n) (n + 1) nl x0 x1 x2 os) Q) : Ev (fun n => callF prg n 38 [x0, x1, x2] os) Q := by subst hnl; exact ev_fun (fun n => (E38 n _ _ _ _).trans (X38_s _ _ _ _ _ _ _)) h
theorem J39_11_s (K : Nat → List SV → List SO → Out) (N nl : Nat) (x2 x3 : SV) (os : List SO) : J39_11 K N nl x2 x3 os = JB39_11 K N nl x2 x3 os := by kernel_rfl
theorem UJ39_11 {nl : Nat} {Q : SV → List SO → Prop} {x2 x3 : SV} {os : List SO} (h : Ev (fun n => JB39_11 (callF prg n) (n + 1) nl x2 x3 os) Q) : Ev (fun n => J39_11 (callF prg n) (n + 1) nl x2 x3 os) Q := ev_eq (fun n => J39_11_s _ _ _ _ _ _) h
theorem X39_s (K : Nat → List SV → List SO → Out) (N nl : Nat) (x0 : SV) (os : List SO) : X39 K N nl x0 os = B39 K N nl x0 os := by kernel_rfl
theorem E39 (n : Nat) (x0 : SV) (os : List SO) : callF prg (n + 1) 39 [x0] os = X39 (callF prg n) (n + 1) os.length x0 os := by kernel_rfl
theorem U39 {Q : SV → List SO → Prop} {x0 : SV} {os : List SO} {nl : Nat} (hnl : os.length = nl) (h : Ev (fun n => B39 (callF prg n) (n + 1) nl x0 os) Q) : Ev (fun n => callF prg n 39 [x0] os) Q := by subst hnl; exact ev_fun (fun n => (E39 n _ _).trans (X39_s _ _ _ _ _)) h
theorem L40_4_s (K : Nat → List SV → List SO → Out) (N nl : Nat) (m4 : Nat) (x0 x1 x6 x7 x8 x9 : SV) (os : List SO) : L40_4 K N nl (m4 + 1) x0 x1 x6 x7 x8 x9 os = gcB nl [x0, x1, x6, x7, x8, x9] os fun xs os => G40_4 K N nl m4 xs os := by kernel_rfl
theorem UL40_4 {nl c : Nat} {Q : SV → List SO → Prop} {x0 x1 x6 x7 x8 x9 : SV} {os : List SO} (h : Ev (fun n => gcB nl [x0, x1, x6, x7, x8, x9] os fun xs os => G40_4 (callF prg n) (n + 1) nl (n + 1 - (c + 1)) xs os) Q) : Ev (fun n => L40_4 (callF prg n) (n + 1) nl (n + 1 - c) x0 x1 x6 x7 x8 x9 os) Q := ev_loop (L := fun n m => L40_4 (callF prg n) (n + 1) nl m x0 x1 x6 x7 x8 x9 os) (fun n m => L40_4_s _ _ _ _ _ _ _ _ _ _ _) h
theorem VL40_4 {nl : Nat} {Q : SV → List SO → Prop} {x0 x1 x6 x7 x8 x9 : SV} {os : List SO} (h : Ev (fun n => gcB nl [x0, x1, x6, x7, x8, x9] os fun xs os => G40_4 (callF prg n) (n + 1) nl (n + 1 - 1) xs os) Q) : Ev (fun n => L40_4 (callF prg n) (n + 1) nl (n + 1) x0 x1 x6 x7 x8 x9 os) Q := UL40_4 (c := 0) h
theorem G40_4_s (K : Nat → List SV → List SO → Out) (N nl : Nat) (m4 : Nat) (x0 x1 x6 x7 x8 x9 : SV) (os : List SO) : G40_4 K N nl m4 [x0, x1, x6, x7, x8, x9] os = GB40_4 K N nl m4 x0 x1 x6 x7 x8 x9 os := by kernel_rfl
theorem UG40_4 {nl : Nat} {Q : SV → List SO → Prop} (m4 : Nat → Nat) {x0 x1 x6 x7 x8 x9 : SV} {os : List SO} (h : Ev (fun n => GB40_4 (callF prg n) (n + 1) nl (m4 n) x0 x1 x6 x7 x8 x9 os) Q) : Ev (fun n => G40_4 (callF prg n) (n + 1) nl (m4 n) [x0, x1, x6, x7, x8, x9] os) Q := ev_eq (fun n => G40_4_s _ _ _ _ _ _ _ _ _ _ _) h
theorem L40_9_s (K : Nat → List SV → List SO → Out) (N nl : Nat) (m9 : Nat) (x0 x1 x6 x7 x10 : SV) (os : List SO) : L40_9 K N nl (m9 + 1) x0 x1 x6 x7 x10 os = gcB nl [x0, x1, x6, x7, x10] os fun xs os => G40_9 K N nl m9 xs os := by kernel_rfl
theorem UL40_9 {nl c : Nat} {Q : SV → List SO → Prop} {x0 x1 x6 x7 x10 : SV} {os : List SO} (h : Ev (fun n => gcB nl [x0, x1, x6, x7, x10] os fun xs os => G40_9 (callF prg n) (n + 1) nl (n + 1 - (c + 1)) xs os) Q) : Ev (fun n => L40_9 (callF prg n) (n + 1) nl (n + 1 - c) x0 x1 x6 x7 x10 os) Q := ev_loop (L := fun n m => L40_9 (callF prg n) (n + 1) nl m x0 x1 x6 x7 x10 os) (fun n m => L40_9_s _ _ _ _ _ _ _ _ _ _) h
theorem VL40_9 {nl : Nat} {Q : SV → List SO → Prop} {x0 x1 x6 x7 x10 : SV} {os : List SO} (h : Ev (fun n => gcB nl [x0, x1, x6, x7, x10] os fun xs os => G40_9 (callF prg n) (n + 1) nl (n + 1 - 1) xs os) Q) : Ev (fun n => L40_9 (callF prg n) (n + 1) nl (n + 1) x0 x1 x6 x7 x10 os) Q := UL40_9 (c := 0) h
theorem G40_9_s (K : Nat → List SV → List SO → Out) (N nl : Nat) (m9 : Nat) (x0 x1 x6 x7 x10 : SV) (os : List SO) : G40_9 K N nl m9 [x0, x1, x6, x7, x10] os = GB40_9 K N nl m9 x0 x1 x6 x7 x10 os := by kernel_rfl
theorem UG40_9 {nl : Nat} {Q : SV → List SO → Prop} (m9 : Nat → Nat) {x0 x1 x6 x7 x10 : SV} {os : List SO} (h : Ev (fun n => GB40_9 (callF prg n) (n + 1) nl (m9 n) x0 x1 x6 x7 x10 os) Q) : Ev (fun n => G40_9 (callF prg n) (n + 1) nl (m9 n) [x0, x1, x6, x7, x10] os) Q := ev_eq (fun n => G40_9_s _ _ _ _ _ _ _ _ _ _) h
theorem J40_10_s (K : Nat → List SV → List SO → Out) (N nl : Nat) (m9 : Nat) (x0 x1 x6 x7 x10 : SV) (os : List SO) : J40_10 K N nl m9 x0 x1 x6 x7 x10 os = JB40_10 K N nl m9 x0 x1 x6 x7 x10 os := by kernel_rfl
theorem UJ40_10 {nl : Nat} {Q : SV → List SO → Prop} {m9 : Nat → Nat} {x0 x1 x6 x7 x10 : SV} {os : List SO} (h : Ev (fun n => JB40_10 (callF prg n) (n + 1) nl (m9 n) x0 x1 x6 x7 x10 os) Q) : Ev (fun n => J40_10 (callF prg n) (n + 1) nl (m9 n) x0 x1 x6 x7 x10 os) Q := ev_eq (fun n => J40_10_s _ _ _ _ _ _ _ _ _ _) h
theorem X40_s (K : Nat → List SV → List SO → Out) (N nl : Nat) (x0 x1 x2 : SV) (os : List SO) : X40 K N nl x0 x1 x2 os = B40 K N nl x0 x1 x2 os := by kernel_rfl
theorem E40 (n : Nat) (x0 x1 x2 : SV) (os : List SO) : callF prg (n + 1) 40 [x0, x1, x2] os = X40 (callF prg n) (n + 1) os.length x0 x1 x2 os := by kernel_rfl
theorem U40 {Q : SV → List SO → Prop} {x0 x1 x2 : SV} {os : List SO} {nl : Nat} (hnl : os.length = nl) (h : Ev (fun n => B40 (callF prg n) (n + 1) nl x0 x1 x2 os) Q) : Ev (fun n => callF prg n 40 [x0, x1, x2] os) Q := by subst hnl; exact ev_fun (fun n => (E40 n _ _ _ _).trans (X40_s _ _ _ _ _ _ _)) h
theorem L41_2_s (K : Nat → List SV → List SO → Out) (N nl : Nat) (m2 : Nat) (x0 x1 x2 x7 : SV) (os : List SO) : L41_2 K N nl (m2 + 1) x0 x1 x2 x7 os = LB41_2 K N nl m2 x0 x1 x2 x7 os := by kernel_rfl
theorem UL41_2 {nl c : Nat} {Q : SV → List SO → Prop} {x0 x1 x2 x7 : SV} {os : List SO} (h : Ev (fun n => LB41_2 (callF prg n) (n + 1) nl (n + 1 - (c + 1)) x0 x1 x2 x7 os) Q) : Ev (fun n => L41_2 (callF prg n) (n + 1) nl (n + 1 - c) x0 x1 x2 x7 os) Q := ev_loop (L := fun n m => L41_2 (callF prg n) (n + 1) nl m x0 x1 x2 x7 os) (fun n m => L41_2_s _ _ _ _ _ _ _ _ _) h
theorem X41_s (K : Nat → List SV → List SO → Out) (N nl : Nat) (x0 x1 x2 : SV) (os : List SO) : X41 K N nl x0 x1 x2 os = B41 K N nl x0 x1 x2 os := by kernel_rfl
theorem E41 (n : Nat) (x0 x1 x2 : SV) (os : List SO) : callF prg (n + 1) 41 [x0, x1, x2] os = X41 (callF prg n) (n + 1) os.length x0 x1 x2 os := by kernel_rfl
theorem U41 {Q : SV → List SO → Prop} {x0 x1 x2 : SV} {os : List SO} {nl : Nat} (hnl : os.length = nl) (h : Ev (fun n => B41 (callF prg n) (n + 1) nl x0 x1 x2 os) Q) : Ev (fun n => callF prg n 41 [x0, x1, x2] os) Q := by subst hnl; exact ev_fun (fun n => (E41 n _ _ _ _).trans (X41_s _ _ _ _ _ _ _)) h
theorem L42_3_s (K : Nat → List SV → List SO → Out) (N nl : Nat) (m3 : Nat) (x0 x3 x5 x6 : SV) (os : List SO) : L42_3 K N nl (m3 + 1) x0 x3 x5 x6 os = gcB nl [x0, x3, x5, x6] os fun xs os => G42_3 K N nl m3 xs os := by kernel_rfl
theorem UL42_3 {nl c : Nat} {Q : SV → List SO → Prop} {x0 x3 x5 x6 : SV} {os : List SO} (h : Ev (fun n => gcB nl [x0, x3, x5, x6] os fun xs os => G42_3 (callF prg n) (n + 1) nl (n + 1 - (c + 1)) xs os) Q) : Ev (fun n => L42_3 (callF prg n) (n + 1) nl (n + 1 - c) x0 x3 x5 x6 os) Q := ev_loop (L := fun n m => L42_3 (callF prg n) (n + 1) nl m x0 x3 x5 x6 os) (fun n m => L42_3_s _ _ _ _ _ _ _ _ _) h
theorem VL42_3 {nl : Nat} {Q : SV → List SO → Prop} {x0 x3 x5 x6 : SV} {os : List SO} (h : Ev (fun n => gcB nl [x0, x3, x5, x6] os fun xs os => G42_3 (callF prg n) (n + 1) nl (n + 1 - 1) xs os) Q) : Ev (fun n => L42_3 (callF prg n) (n + 1) nl (n + 1) x0 x3 x5 x6 os) Q := UL42_3 (c := 0) h
theorem G42_3_s (K : Nat → List SV → List SO → Out) (N nl : Nat) (m3 : Nat) (x0 x3 x5 x6 : SV) (os : List SO) : G42_3 K N nl m3 [x0, x3, x5, x6] os = GB42_3 K N nl m3 x0 x3 x5 x6 os := by kernel_rfl
theorem UG42_3 {nl : Nat} {Q : SV → List SO → Prop} (m3 : Nat → Nat) {x0 x3 x5 x6 : SV} {os : List SO} (h : Ev (fun n => GB42_3 (callF prg n) (n + 1) nl (m3 n) x0 x3 x5 x6 os) Q) : Ev (fun n => G42_3 (callF prg n) (n + 1) nl (m3 n) [x0, x3, x5, x6] os) Q := ev_eq (fun n => G42_3_s _ _ _ _ _ _ _ _ _) h
theorem J42_4_s (K : Nat → List SV → List SO → Out) (N nl : Nat) (m3 : Nat) (x0 x3 x5 x6 : SV) (os : List SO) : J42_4 K N nl m3 x0 x3 x5 x6 os = JB42_4 K N nl m3 x0 x3 x5 x6 os := by kernel_rfl
end Go.Proofs.Ytlnenahbffkbiaa
