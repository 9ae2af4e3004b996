/- The evaluator S and what it says of functions: Sb1. -/
import Derived.Test.YtgeolifkmiglgaaTe
import Derived.Test.YtgeolifkmiglgaaProg
import Derived.KernelRfl
/- The evaluator S: the functions of this seat, read chunk by chunk (1). -/
namespace Go.Proofs.Ytgeolifkmiglgaa
open Go
set_option linter.unusedVariables false
set_option maxRecDepth 100000
def tiL : List (Option TI) :=
 [none,
  some ⟨1, 8, false, [.fn]⟩,
  some ⟨1, 8, false, [.int .i64]⟩,
  some ⟨1, 8, false, [.int .i64]⟩,
  some ⟨1, 1, false, [.bool]⟩,
  some ⟨1, 1, false, [.int .u8]⟩,
  some ⟨1, 1, false, [.int .u8]⟩,
  some ⟨4, 24, true, [.int .i64, .int .i64, .bool, .int .u8]⟩,
  some ⟨4, 24, true, [.int .i64, .int .i64, .bool, .int .u8]⟩,
  some ⟨1, 16, false, [.str]⟩,
  some ⟨1, 16, false, [.str]⟩,
  some ⟨1, 16, false, [.str]⟩,
  some ⟨1, 8, false, [.int .u64]⟩,
  some ⟨2, 24, true, [.str, .int .u64]⟩,
  some ⟨2, 24, true, [.str, .int .u64]⟩,
  some ⟨1, 8, false, [.ptr]⟩,
  some ⟨1, 8, false, [.ptr]⟩,
  some ⟨1, 8, false, [.ptr]⟩,
  some ⟨1, 8, true, [.ptr]⟩,
  some ⟨1, 8, true, [.ptr]⟩,
  none,
  some ⟨1, 4, false, [.int .i32]⟩,
  some ⟨1, 24, false, [.sl 1]⟩,
  some ⟨1, 24, false, [.sl 4]⟩,
  none,
  some ⟨1, 8, false, [.fn]⟩,
  some ⟨1, 24, false, [.sl 2]⟩,
  some ⟨1, 24, false, [.sl 2]⟩,
  some ⟨4, 64, true, [.int .i64, .int .i64, .sl 2, .sl 2]⟩,
  some ⟨4, 64, true, [.int .i64, .int .i64, .sl 2, .sl 2]⟩,
  none,
  some ⟨1, 8, false, [.fn]⟩,
  some ⟨1, 8, false, [.fn]⟩,
  some ⟨1, 8, false, [.fn]⟩,
  some ⟨1, 8, false, [.fn]⟩,
  some ⟨1, 8, false, [.fn]⟩,
  some ⟨1, 24, false, [.sl 4]⟩,
  some ⟨1, 8, false, [.fn]⟩,
  some ⟨1, 8, false, [.fn]⟩,
  some ⟨1, 8, false, [.fn]⟩,
  some ⟨1, 8, false, [.fn]⟩,
  some ⟨1, 8, false, [.fn]⟩,
  some ⟨2, 16, true, [.int .i64, .int .i64]⟩,
  some ⟨2, 16, true, [.int .i64, .int .i64]⟩,
  some ⟨1, 8, false, [.fn]⟩,
  some ⟨1, 24, false, [.sl 1]⟩,
  some ⟨2, 16, true, [.int .i64, .int .i64]⟩,
  some ⟨2, 16, true, [.int .i64, .int .i64]⟩,
  some ⟨1, 8, false, [.fn]⟩,
  some ⟨1, 8, false, [.fn]⟩,
  some ⟨1, 8, false, [.fn]⟩,
  some ⟨1, 8, false, [.fn]⟩,
  some ⟨1, 8, false, [.fn]⟩,
  some ⟨1, 8, false, [.fn]⟩,
  some ⟨4, 80, true, [.sl 4, .sl 1, .bool, .sl 4]⟩,
  some ⟨4, 80, true, [.sl 4, .sl 1, .bool, .sl 4]⟩,
  some ⟨1, 8, false, [.fn]⟩,
  some ⟨1, 8, false, [.fn]⟩,
  some ⟨1, 8, false, [.fn]⟩,
  some ⟨1, 8, false, [.fn]⟩,
  some ⟨4, 80, true, [.sl 4, .sl 1, .bool, .sl 4]⟩,
  some ⟨4, 80, true, [.sl 4, .sl 1, .bool, .sl 4]⟩,
  some ⟨1, 8, false, [.fn]⟩,
  some ⟨1, 8, false, [.fn]⟩,
  some ⟨1, 8, false, [.fn]⟩,
  some ⟨1, 8, false, [.fn]⟩,
  some ⟨1, 8, false, [.ptr]⟩,
  some ⟨1, 8, false, [.fn]⟩,
  some ⟨1, 8, false, [.fn]⟩,
  some ⟨1, 8, false, [.fn]⟩,
  some ⟨1, 8, false, [.fn]⟩,
  some ⟨1, 8, false, [.fn]⟩,
  some ⟨1, 24, false, [.sl 2]⟩,
  some ⟨1, 24, false, [.sl 2]⟩,
  some ⟨4, 64, true, [.int .i64, .int .i64, .sl 2, .sl 2]⟩,
  some ⟨4, 64, true, [.int .i64, .int .i64, .sl 2, .sl 2]⟩,
  some ⟨1, 8, false, [.fn]⟩,
  some ⟨1, 8, false, [.fn]⟩,
  some ⟨1, 8, false, [.fn]⟩,
  some ⟨6, 6, true, [.bool, .bool, .bool, .bool, .bool, .bool]⟩,
  some ⟨1, 8, false, [.fn]⟩,
  some ⟨1, 8, false, [.fn]⟩,
  some ⟨1, 8, false, [.fn]⟩,
  some ⟨1, 8, false, [.fn]⟩,
  some ⟨1, 8, false, [.fn]⟩,
  some ⟨1, 8, false, [.fn]⟩,
  some ⟨1, 8, false, [.fn]⟩,
  some ⟨1, 8, false, [.fn]⟩,
  some ⟨1, 8, false, [.fn]⟩,
  some ⟨1, 8, false, [.fn]⟩,
  some ⟨1, 8, false, [.fn]⟩,
  some ⟨1, 8, false, [.fn]⟩,
  some ⟨2, 32, true, [.sl 1, .int .i64]⟩,
  some ⟨2, 32, true, [.sl 1, .int .i64]⟩,
  some ⟨1, 8, false, [.fn]⟩,
  some ⟨1, 8, false, [.fn]⟩,
  some ⟨1, 8, false, [.fn]⟩,
  some ⟨1, 8, false, [.fn]⟩,
  some ⟨1, 8, false, [.fn]⟩,
  some ⟨1, 8, false, [.fn]⟩,
  some ⟨1, 8, false, [.fn]⟩,
  some ⟨1, 8, false, [.fn]⟩,
  some ⟨1, 8, false, [.fn]⟩,
  some ⟨1, 8, false, [.fn]⟩,
  some ⟨1, 8, false, [.fn]⟩,
  some ⟨1, 8, false, [.fn]⟩,
  some ⟨1, 8, false, [.fn]⟩,
  none,
  some ⟨1, 8, false, [.fn]⟩,
  some ⟨1, 8, false, [.fn]⟩,
  some ⟨1, 8, false, [.fn]⟩,
  some ⟨1, 8, false, [.fn]⟩,
  some ⟨1, 8, false, [.fn]⟩,
  some ⟨1, 8, false, [.int .u64]⟩,
  none,
  some ⟨1, 8, false, [.fn]⟩,
  some ⟨1, 8, false, [.fn]⟩,
  some ⟨1, 8, false, [.fn]⟩,
  some ⟨1, 8, false, [.fn]⟩,
  some ⟨1, 8, false, [.fn]⟩,
  some ⟨1, 8, false, [.fn]⟩,
  some ⟨1, 8, false, [.fn]⟩,
  some ⟨2, 16, true, [.int .i64, .int .i64]⟩,
  some ⟨1, 8, false, [.fn]⟩,
  some ⟨2, 16, true, [.int .i64, .int .i64]⟩,
  some ⟨1, 8, false, [.fn]⟩,
  some ⟨1, 24, false, [.sl 1]⟩,
  some ⟨1, 8, false, [.fn]⟩,
  some ⟨1, 8, false, [.fn]⟩,
  some ⟨1, 4, false, [.int .u32]⟩,
  none,
  some ⟨1, 8, false, [.fn]⟩,
  some ⟨1, 8, false, [.int .u64]⟩,
  none,
  some ⟨1, 8, false, [.fn]⟩,
  some ⟨1, 8, false, [.fn]⟩,
  some ⟨4, 40, true, [.ptr, .ptr, .ptr, .str]⟩,
  some ⟨4, 40, true, [.ptr, .ptr, .ptr, .str]⟩,
  some ⟨0, 0, true, []⟩,
  some ⟨0, 0, true, []⟩,
  some ⟨0, 0, true, []⟩,
  some ⟨1, 8, false, [.fn]⟩,
  some ⟨1, 1, false, [.int .u8]⟩,
  some ⟨1, 1, false, [.int .u8]⟩,
  some ⟨1, 8, false, [.fn]⟩,
  some ⟨1, 8, false, [.ptr]⟩,
  some ⟨1, 4, false, [.int .i32]⟩,
  some ⟨1, 4, false, [.int .i32]⟩,
  some ⟨11, 48, true, [.int .u64, .int .u64, .int .u32, .int .u8, .int .u8, .int .u8, .int .u8, .fn, .ptr, .int .i32, .int .i32]⟩,
  some ⟨11, 48, true, [.int .u64, .int .u64, .int .u32, .int .u8, .int .u8, .int .u8, .int .u8, .fn, .ptr, .int .i32, .int .i32]⟩,
  none]
def ukL : List (Option UK) :=
 [none,
  none,
  some (.int .i64),
  some (.int .i64),
  some (.bool),
  some (.int .u8),
  some (.int .u8),
  some (.struct [(0, 2), (1, 3), (2, 4), (3, 6)]),
  some (.struct [(0, 2), (1, 3), (2, 4), (3, 6)]),
  some (.str),
  some (.str),
  some (.str),
  some (.int .u64),
  some (.struct [(0, 9), (1, 12)]),
  some (.struct [(0, 9), (1, 12)]),
  none,
  none,
  none,
  some (.struct [(0, 17)]),
  some (.struct [(0, 17)]),
  none,
  some (.int .i32),
  some (.slice 5),
  some (.slice 29),
  none,
  none,
  some (.slice 47),
  some (.slice 43),
  some (.struct [(0, 3), (1, 3), (2, 26), (3, 27)]),
  some (.struct [(0, 3), (1, 3), (2, 26), (3, 27)]),
  none,
  none,
  none,
  none,
  none,
  none,
  some (.slice 75),
  none,
  none,
  none,
  none,
  none,
  some (.eqs [(0, 3), (1, 3)]),
  some (.eqs [(0, 3), (1, 3)]),
  none,
  some (.slice 3),
  some (.eqs [(0, 3), (1, 3)]),
  some (.eqs [(0, 3), (1, 3)]),
  none,
  none,
  none,
  none,
  none,
  none,
  some (.struct [(0, 23), (1, 45), (2, 4), (3, 23)]),
  some (.struct [(0, 23), (1, 45), (2, 4), (3, 23)]),
  none,
  none,
  none,
  none,
  some (.struct [(0, 36), (1, 45), (2, 4), (3, 36)]),
  some (.struct [(0, 36), (1, 45), (2, 4), (3, 36)]),
  none,
  none,
  none,
  none,
  none,
  none,
  none,
  none,
  none,
  none,
  some (.slice 122),
  some (.slice 124),
  some (.struct [(0, 3), (1, 3), (2, 72), (3, 73)]),
  some (.struct [(0, 3), (1, 3), (2, 72), (3, 73)]),
  none,
  none,
  none,
  some (.array 6 4),
  none,
  none,
  none,
  none,
  none,
  none,
  none,
  none,
  none,
  none,
  none,
  none,
  some (.struct [(0, 22), (1, 3)]),
  some (.struct [(0, 22), (1, 3)]),
  none,
  none,
  none,
  none,
  none,
  none,
  none,
  none,
  none,
  none,
  none,
  none,
  none,
  none,
  none,
  none,
  none,
  none,
  none,
  some (.int .u64),
  none,
  none,
  none,
  none,
  none,
  none,
  none,
  none,
  some (.eqs [(0, 3), (1, 3)]),
  none,
  some (.eqs [(0, 3), (1, 3)]),
  none,
  some (.slice 4),
  none,
  none,
  some (.int .u32),
  none,
  none,
  some (.int .u64),
  none,
  none,
  none,
  some (.struct [(0, 17), (1, 17), (2, 17), (3, 9)]),
  some (.struct [(0, 17), (1, 17), (2, 17), (3, 9)]),
  some (.array 0 16),
  some (.struct [(0, 138)]),
  some (.struct [(0, 138)]),
  none,
  some (.int .u8),
  some (.int .u8),
  none,
  none,
  some (.int .i32),
  some (.int .i32),
  some (.struct [(0, 12), (1, 12), (2, 129), (3, 142), (4, 5), (5, 5), (6, 143), (7, 144), (8, 145), (9, 146), (10, 147)]),
  some (.struct [(0, 12), (1, 12), (2, 129), (3, 142), (4, 5), (5, 5), (6, 143), (7, 144), (8, 145), (9, 146), (10, 147)]),
  none]
def tab : Tab := { ti := fun t => (tiL[t]?).getD none, und := fun t => (ukL[t]?).getD none }
def ownF : Nat → Bool := fun f => match f with | 28 => true | 29 => true | 36 => true | 41 => true | 69 => true | 70 => true | 1000015 => true | 1000023 => true | 1000026 => true | 1000031 => true | 1000038 => true | 1000039 => true | 1000045 => true | 1000050 => true | 1000065 => true | 1000066 => true | 1000099 => true | 1000102 => true  | _ => false
abbrev cx (K : Nat → List SV → List SO → Out) : Cx := ⟨tab, ownF, K⟩
noncomputable def c3 : Code := Try.f3.body.getD .skip
def rs3 : List ResultVar := [.tmp 2]
def fi3 : FnI := { nt := 104, lp := fun i => if i = 10 then ⟨true, [3, 4, 7, 9, 10]⟩ else ⟨false, []⟩, jn := fun i => if i = 11 then some [3, 4, 7, 9, 10] else none, dt := fun i => none }
noncomputable def c4 : Code := Try.f4.body.getD .skip
def rs4 : List ResultVar := [.tmp 2]
def fi4 : FnI := { nt := 108, lp := fun i => if i = 10 then ⟨false, [3, 4, 7, 8, 9, 10]⟩ else ⟨false, []⟩, jn := fun i => none, dt := fun i => none }
noncomputable def c5 : Code := Try.f5.body.getD .skip
def rs5 : List ResultVar := [.tmp 2]
def fi5 : FnI := { nt := 27, lp := fun i => ⟨false, []⟩, jn := fun i => none, dt := fun i => none }
noncomputable def c6 : Code := Try.f6.body.getD .skip
def rs6 : List ResultVar := [.tmp 4]
def fi6 : FnI := { nt := 100, lp := fun i => if i = 10 then ⟨false, [5, 7, 8, 9]⟩ else if i = 13 then ⟨false, [5, 7, 8, 9, 10]⟩ else ⟨false, []⟩, jn := fun i => if i = 17 then some [8, 11] else none, dt := fun i => if i = 16 then some (.split 0 3 (.split 0 8 (.split 4 8 (.leaf [0, 1, 2, 3, 4, 5, 6, 7, 8, 9, 10]) (.leaf [0, 1, 2, 3, 5, 6, 7, 8, 4, 9, 10])) (.leaf [1, 2, 5, 6, 7, 8, 0, 3, 4, 9, 10])) (.split 0 8 (.split 4 8 (.leaf [1, 2, 3, 0, 4, 5, 6, 7, 8, 9, 10]) (.leaf [1, 2, 3, 0, 5, 6, 7, 8, 4, 9, 10])) (.leaf [1, 2, 3, 5, 6, 7, 8, 0, 4, 9, 10]))) else none }
noncomputable def c7 : Code := Try.f7.body.getD .skip
def rs7 : List ResultVar := [.tmp 2]
def fi7 : FnI := { nt := 127, lp := fun i => if i = 9 then ⟨true, [3, 5, 6]⟩ else if i = 14 then ⟨true, [3, 5, 6, 7]⟩ else if i = 20 then ⟨false, [3, 5, 6, 10]⟩ else ⟨false, []⟩, jn := fun i => none, dt := fun i => none }
noncomputable def c8 : Code := Try.f8.body.getD .skip
def rs8 : List ResultVar := [.tmp 4]
def fi8 : FnI := { nt := 101, lp := fun i => ⟨false, []⟩, jn := fun i => none, dt := fun i => none }
noncomputable def c9 : Code := Try.f9.body.getD .skip
def rs9 : List ResultVar := [.tmp 2]
def fi9 : FnI := { nt := 93, lp := fun i => if i = 9 then ⟨false, [3, 4, 5, 6]⟩ else if i = 12 then ⟨false, [3, 4, 5, 6, 7]⟩ else if i = 19 then ⟨false, [4, 5, 8, 9]⟩ else ⟨false, []⟩, jn := fun i => if i = 20 then some [4, 5, 8, 9] else none, dt := fun i => none }
noncomputable def c10 : Code := Try.f10.body.getD .skip
def rs10 : List ResultVar := [.tmp 4]
def fi10 : FnI := { nt := 108, lp := fun i => if i = 13 then ⟨false, [5, 6, 7, 9, 10]⟩ else ⟨false, []⟩, jn := fun i => if i = 9 then some [5, 6, 7, 8] else none, dt := fun i => if i = 8 then some (.split 0 3 (.split 0 8 (.split 4 8 (.leaf [0, 1, 2, 3, 4, 5, 6, 7, 8, 9, 10]) (.leaf [0, 1, 2, 3, 5, 6, 7, 8, 4, 9, 10])) (.leaf [1, 2, 5, 6, 7, 8, 0, 3, 4, 9, 10])) (.split 0 8 (.split 4 8 (.leaf [1, 2, 3, 0, 4, 5, 6, 7, 8, 9, 10]) (.leaf [1, 2, 3, 0, 5, 6, 7, 8, 4, 9, 10])) (.leaf [1, 2, 3, 5, 6, 7, 8, 0, 4, 9, 10]))) else none }
noncomputable def c11 : Code := Try.f11.body.getD .skip
def rs11 : List ResultVar := [.tmp 2]
def fi11 : FnI := { nt := 69, lp := fun i => ⟨false, []⟩, jn := fun i => none, dt := fun i => none }
noncomputable def c12 : Code := Try.f12.body.getD .skip
def rs12 : List ResultVar := [.tmp 0]
def fi12 : FnI := { nt := 36, lp := fun i => ⟨false, []⟩, jn := fun i => none, dt := fun i => none }
noncomputable def c13 : Code := Try.f13.body.getD .skip
def rs13 : List ResultVar := [.tmp 2]
def fi13 : FnI := { nt := 27, lp := fun i => ⟨false, []⟩, jn := fun i => none, dt := fun i => none }
noncomputable def c14 : Code := Try.f14.body.getD .skip
def rs14 : List ResultVar := [.tmp 2]
def fi14 : FnI := { nt := 27, lp := fun i => ⟨false, []⟩, jn := fun i => none, dt := fun i => none }
noncomputable def c15 : Code := Try.f15.body.getD .skip
def rs15 : List ResultVar := [.tmp 2, .tmp 3]
def fi15 : FnI := { nt := 17, lp := fun i => ⟨false, []⟩, jn := fun i => none, dt := fun i => none }
noncomputable def c16 : Code := Try.f16.body.getD .skip
def rs16 : List ResultVar := [.cell 4 29, .tmp 5]
def fi16 : FnI := { nt := 15, lp := fun i => ⟨false, []⟩, jn := fun i => none, dt := fun i => none }
noncomputable def c17 : Code := Try.f17.body.getD .skip
def rs17 : List ResultVar := [.cell 4 29, .tmp 5]
def fi17 : FnI := { nt := 23, lp := fun i => ⟨false, []⟩, jn := fun i => none, dt := fun i => none }
noncomputable def c18 : Code := Try.f18.body.getD .skip
def rs18 : List ResultVar := [.tmp 4]
def fi18 : FnI := { nt := 73, lp := fun i => if i = 4 then ⟨false, [2, 3, 5]⟩ else if i = 9 then ⟨false, [2, 3, 6]⟩ else ⟨false, []⟩, jn := fun i => none, dt := fun i => none }
noncomputable def c19 : Code := Try.f19.body.getD .skip
def rs19 : List ResultVar := [.tmp 2]
def fi19 : FnI := { nt := 5, lp := fun i => ⟨false, []⟩, jn := fun i => none, dt := fun i => none }
noncomputable def c20 : Code := Try.f20.body.getD .skip
def rs20 : List ResultVar := [.tmp 4]
def fi20 : FnI := { nt := 18, lp := fun i => if i = 2 then ⟨false, [0, 3, 5]⟩ else ⟨false, []⟩, jn := fun i => none, dt := fun i => none }
noncomputable def c21 : Code := Try.f21.body.getD .skip
def rs21 : List ResultVar := [.tmp 4]
def fi21 : FnI := { nt := 27, lp := fun i => if i = 5 then ⟨false, [0, 1, 5]⟩ else ⟨false, []⟩, jn := fun i => none, dt := fun i => none }
noncomputable def c22 : Code := Try.f22.body.getD .skip
def rs22 : List ResultVar := [.tmp 2]
def fi22 : FnI := { nt := 64, lp := fun i => if i = 4 then ⟨false, [0, 3]⟩ else if i = 7 then ⟨false, [0, 3, 4]⟩ else if i = 12 then ⟨false, [0, 3, 5]⟩ else ⟨false, []⟩, jn := fun i => none, dt := fun i => none }
noncomputable def c23 : Code := Try.f23.body.getD .skip
def rs23 : List ResultVar := [.tmp 2]
def fi23 : FnI := { nt := 23, lp := fun i => if i = 3 then ⟨true, [0, 3, 4]⟩ else ⟨false, []⟩, jn := fun i => none, dt := fun i => none }
noncomputable def c24 : Code := Try.f24.body.getD .skip
def rs24 : List ResultVar := [.tmp 2]
def fi24 : FnI := { nt := 53, lp := fun i => if i = 5 then ⟨true, [1, 3, 11, 12, 13]⟩ else if i = 10 then ⟨true, [1, 3, 11, 12, 13, 38, 39, 40]⟩ else ⟨false, []⟩, jn := fun i => none, dt := fun i => none }
noncomputable def c25 : Code := Try.f25.body.getD .skip
def rs25 : List ResultVar := [.tmp 4]
def fi25 : FnI := { nt := 27, lp := fun i => if i = 4 then ⟨false, [0, 1, 5]⟩ else ⟨false, []⟩, jn := fun i => none, dt := fun i => none }
noncomputable def c26 : Code := Try.f26.body.getD .skip
def rs26 : List ResultVar := [.tmp 2]
def fi26 : FnI := { nt := 34, lp := fun i => if i = 4 then ⟨true, [3, 4, 5]⟩ else ⟨false, []⟩, jn := fun i => none, dt := fun i => none }
noncomputable def c27 : Code := Try.f27.body.getD .skip
def rs27 : List ResultVar := [.tmp 4]
def fi27 : FnI := { nt := 27, lp := fun i => ⟨false, []⟩, jn := fun i => none, dt := fun i => none }
noncomputable def c28 : Code := Try.f28.body.getD .skip
def rs28 : List ResultVar := [.tmp 4]
def fi28 : FnI := { nt := 41, lp := fun i => if i = 2 then ⟨false, [0, 1, 5]⟩ else ⟨false, []⟩, jn := fun i => none, dt := fun i => none }
noncomputable def c29 : Code := Try.f29.body.getD .skip
def rs29 : List ResultVar := [.tmp 4]
def fi29 : FnI := { nt := 14, lp := fun i => ⟨false, []⟩, jn := fun i => none, dt := fun i => none }
noncomputable def c30 : Code := Try.f30.body.getD .skip
def rs30 : List ResultVar := [.tmp 4]
def fi30 : FnI := { nt := 18, lp := fun i => ⟨false, []⟩, jn := fun i => none, dt := fun i => none }
noncomputable def c31 : Code := Try.f31.body.getD .skip
def rs31 : List ResultVar := [.tmp 2]
def fi31 : FnI := { nt := 5, lp := fun i => ⟨false, []⟩, jn := fun i => none, dt := fun i => none }
noncomputable def c32 : Code := Try.f32.body.getD .skip
def rs32 : List ResultVar := [.tmp 2]
def fi32 : FnI := { nt := 35, lp := fun i => if i = 5 then ⟨true, [3, 13, 14, 15]⟩ else if i = 8 then ⟨true, [3, 13, 14, 15, 20, 21, 22]⟩ else ⟨false, []⟩, jn := fun i => none, dt := fun i => none }
noncomputable def c33 : Code := Try.f33.body.getD .skip
def rs33 : List ResultVar := [.tmp 4]
def fi33 : FnI := { nt := 26, lp := fun i => if i = 4 then ⟨false, [0, 1, 5]⟩ else ⟨false, []⟩, jn := fun i => none, dt := fun i => none }
noncomputable def c34 : Code := Try.f34.body.getD .skip
def rs34 : List ResultVar := [.tmp 2]
def fi34 : FnI := { nt := 9, lp := fun i => ⟨false, []⟩, jn := fun i => none, dt := fun i => none }
noncomputable def c35 : Code := Try.f35.body.getD .skip
def rs35 : List ResultVar := [.tmp 4]
def fi35 : FnI := { nt := 26, lp := fun i => if i = 4 then ⟨false, [0, 1, 5]⟩ else ⟨false, []⟩, jn := fun i => none, dt := fun i => none }
noncomputable def c36 : Code := Try.f36.body.getD .skip
def rs36 : List ResultVar := [.tmp 4]
def fi36 : FnI := { nt := 19, lp := fun i => if i = 2 then ⟨false, [0, 1, 5]⟩ else ⟨false, []⟩, jn := fun i => none, dt := fun i => none }
noncomputable def c37 : Code := Try.f37.body.getD .skip
def rs37 : List ResultVar := [.tmp 4]
def fi37 : FnI := { nt := 21, lp := fun i => if i = 2 then ⟨false, [0, 1, 5]⟩ else ⟨false, []⟩, jn := fun i => none, dt := fun i => none }
noncomputable def c38 : Code := Try.f38.body.getD .skip
def rs38 : List ResultVar := [.cell 0 55]
def fi38 : FnI := { nt := 5, lp := fun i => ⟨false, []⟩, jn := fun i => none, dt := fun i => none }
noncomputable def c39 : Code := Try.f39.body.getD .skip
def rs39 : List ResultVar := [.cell 0 55]
def fi39 : FnI := { nt := 4, lp := fun i => ⟨false, []⟩, jn := fun i => none, dt := fun i => none }
noncomputable def c40 : Code := Try.f40.body.getD .skip
def rs40 : List ResultVar := [.tmp 4]
def fi40 : FnI := { nt := 28, lp := fun i => ⟨false, []⟩, jn := fun i => none, dt := fun i => none }
noncomputable def c41 : Code := Try.f41.body.getD .skip
def rs41 : List ResultVar := [.tmp 4]
def fi41 : FnI := { nt := 18, lp := fun i => ⟨false, []⟩, jn := fun i => none, dt := fun i => none }
noncomputable def c42 : Code := Try.f42.body.getD .skip
def rs42 : List ResultVar := [.tmp 4]
def fi42 : FnI := { nt := 24, lp := fun i => ⟨false, []⟩, jn := fun i => none, dt := fun i => none }
noncomputable def c43 : Code := Try.f43.body.getD .skip
def rs43 : List ResultVar := [.tmp 4]
def fi43 : FnI := { nt := 24, lp := fun i => ⟨false, []⟩, jn := fun i => none, dt := fun i => none }
noncomputable def c44 : Code := Try.f44.body.getD .skip
def rs44 : List ResultVar := [.tmp 2]
def fi44 : FnI := { nt := 42, lp := fun i => if i = 2 then ⟨false, [1, 3]⟩ else ⟨false, []⟩, jn := fun i => none, dt := fun i => none }
noncomputable def c45 : Code := Try.f45.body.getD .skip
def rs45 : List ResultVar := [.cell 2 55]
def fi45 : FnI := { nt := 20, lp := fun i => ⟨false, []⟩, jn := fun i => none, dt := fun i => none }
noncomputable def c46 : Code := Try.f46.body.getD .skip
def rs46 : List ResultVar := [.tmp 2]
def fi46 : FnI := { nt := 32, lp := fun i => ⟨false, []⟩, jn := fun i => none, dt := fun i => none }
noncomputable def c47 : Code := Try.f47.body.getD .skip
def rs47 : List ResultVar := [.tmp 2]
def fi47 : FnI := { nt := 18, lp := fun i => ⟨false, []⟩, jn := fun i => none, dt := fun i => none }
noncomputable def c48 : Code := Try.f48.body.getD .skip
def rs48 : List ResultVar := [.tmp 2]
def fi48 : FnI := { nt := 18, lp := fun i => ⟨false, []⟩, jn := fun i => none, dt := fun i => none }
noncomputable def c49 : Code := Try.f49.body.getD .skip
def rs49 : List ResultVar := [.tmp 2]
def fi49 : FnI := { nt := 11, lp := fun i => ⟨false, []⟩, jn := fun i => if i = 3 then some [0] else none, dt := fun i => none }
noncomputable def c50 : Code := Try.f50.body.getD .skip
def rs50 : List ResultVar := [.tmp 2]
def fi50 : FnI := { nt := 29, lp := fun i => ⟨false, []⟩, jn := fun i => if i = 8 then some [3] else none, dt := fun i => none }
noncomputable def c51 : Code := Try.f51.body.getD .skip
def rs51 : List ResultVar := [.tmp 4]
def fi51 : FnI := { nt := 99, lp := fun i => ⟨false, []⟩, jn := fun i => none, dt := fun i => none }
noncomputable def c52 : Code := Try.f52.body.getD .skip
def rs52 : List ResultVar := [.cell 4 29, .tmp 5]
def fi52 : FnI := { nt := 27, lp := fun i => if i = 2 then ⟨true, [0, 1, 4, 6]⟩ else ⟨false, []⟩, jn := fun i => none, dt := fun i => none }
noncomputable def c53 : Code := Try.f53.body.getD .skip
def rs53 : List ResultVar := [.tmp 2]
def fi53 : FnI := { nt := 30, lp := fun i => if i = 2 then ⟨true, [0, 5, 6, 7]⟩ else ⟨false, []⟩, jn := fun i => none, dt := fun i => none }
noncomputable def c54 : Code := Try.f54.body.getD .skip
def rs54 : List ResultVar := [.tmp 4]
def fi54 : FnI := { nt := 22, lp := fun i => if i = 3 then ⟨true, [1, 5, 8, 9, 10]⟩ else ⟨false, []⟩, jn := fun i => if i = 7 then some [1, 5, 8, 9, 10] else none, dt := fun i => none }
noncomputable def c55 : Code := Try.f55.body.getD .skip
def rs55 : List ResultVar := [.cell 2 29]
def fi55 : FnI := { nt := 12, lp := fun i => ⟨false, []⟩, jn := fun i => none, dt := fun i => none }
noncomputable def c56 : Code := Try.f56.body.getD .skip
def rs56 : List ResultVar := [.tmp 2]
def fi56 : FnI := { nt := 46, lp := fun i => if i = 2 then ⟨false, [0, 3]⟩ else ⟨false, []⟩, jn := fun i => none, dt := fun i => none }
noncomputable def c57 : Code := Try.f57.body.getD .skip
def rs57 : List ResultVar := [.tmp 4]
def fi57 : FnI := { nt := 18, lp := fun i => ⟨false, []⟩, jn := fun i => none, dt := fun i => none }
noncomputable def c58 : Code := Try.f58.body.getD .skip
def rs58 : List ResultVar := [.tmp 2]
def fi58 : FnI := { nt := 22, lp := fun i => if i = 2 then ⟨false, [0, 3]⟩ else ⟨false, []⟩, jn := fun i => none, dt := fun i => none }
noncomputable def c59 : Code := Try.f59.body.getD .skip
def rs59 : List ResultVar := [.tmp 4]
def fi59 : FnI := { nt := 22, lp := fun i => ⟨false, []⟩, jn := fun i => none, dt := fun i => none }
noncomputable def c60 : Code := Try.f60.body.getD .skip
def rs60 : List ResultVar := [.tmp 6]
def fi60 : FnI := { nt := 36, lp := fun i => if i = 2 then ⟨false, [0, 1, 2, 7]⟩ else if i = 5 then ⟨false, [0, 1, 2, 7, 8]⟩ else ⟨false, []⟩, jn := fun i => none, dt := fun i => none }
noncomputable def c61 : Code := Try.f61.body.getD .skip
def rs61 : List ResultVar := [.cell 2 29]
def fi61 : FnI := { nt := 19, lp := fun i => ⟨false, []⟩, jn := fun i => none, dt := fun i => none }
noncomputable def c62 : Code := Try.f62.body.getD .skip
def rs62 : List ResultVar := [.tmp 4]
def fi62 : FnI := { nt := 9, lp := fun i => ⟨false, []⟩, jn := fun i => none, dt := fun i => none }
noncomputable def c63 : Code := Try.f63.body.getD .skip
def rs63 : List ResultVar := [.tmp 3]
def fi63 : FnI := { nt := 8, lp := fun i => ⟨false, []⟩, jn := fun i => none, dt := fun i => none }
noncomputable def c64 : Code := Try.f64.body.getD .skip
def rs64 : List ResultVar := [.tmp 4]
def fi64 : FnI := { nt := 8, lp := fun i => ⟨false, []⟩, jn := fun i => none, dt := fun i => none }
noncomputable def c65 : Code := Try.f65.body.getD .skip
def rs65 : List ResultVar := [.tmp 4]
def fi65 : FnI := { nt := 28, lp := fun i => if i = 3 then ⟨true, [0, 1, 5, 6]⟩ else ⟨false, []⟩, jn := fun i => if i = 4 then some [0, 1, 5, 6] else none, dt := fun i => none }
noncomputable def c66 : Code := Try.f66.body.getD .skip
def rs66 : List ResultVar := [.tmp 2]
def fi66 : FnI := { nt := 32, lp := fun i => if i = 3 then ⟨true, [0, 3, 4]⟩ else ⟨false, []⟩, jn := fun i => if i = 4 then some [0, 3, 4] else none, dt := fun i => none }
noncomputable def c67 : Code := Try.f67.body.getD .skip
def rs67 : List ResultVar := [.tmp 4]
def fi67 : FnI := { nt := 27, lp := fun i => if i = 4 then ⟨false, [0, 1, 5]⟩ else ⟨false, []⟩, jn := fun i => none, dt := fun i => none }
noncomputable def c68 : Code := Try.f68.body.getD .skip
def rs68 : List ResultVar := [.tmp 4]
def fi68 : FnI := { nt := 27, lp := fun i => if i = 4 then ⟨false, [0, 1, 5]⟩ else ⟨false, []⟩, jn := fun i => none, dt := fun i => none }
noncomputable def c69 : Code := Try.f69.body.getD .skip
def rs69 : List ResultVar := [.tmp 4]
def fi69 : FnI := { nt := 27, lp := fun i => if i = 2 then ⟨false, [0, 1, 5]⟩ else ⟨false, []⟩, jn := fun i => none, dt := fun i => none }
noncomputable def c70 : Code := Try.f70.body.getD .skip
def rs70 : List ResultVar := [.tmp 4]
def fi70 : FnI := { nt := 27, lp := fun i => if i = 2 then ⟨false, [0, 1, 5]⟩ else ⟨false, []⟩, jn := fun i => none, dt := fun i => none }
noncomputable def c71 : Code := Try.f71.body.getD .skip
def rs71 : List ResultVar := [.tmp 4]
def fi71 : FnI := { nt := 31, lp := fun i => if i = 2 then ⟨false, [0, 1, 5]⟩ else ⟨false, []⟩, jn := fun i => none, dt := fun i => none }
noncomputable def c72 : Code := Try.f72.body.getD .skip
def rs72 : List ResultVar := [.tmp 4]
def fi72 : FnI := { nt := 31, lp := fun i => if i = 2 then ⟨false, [0, 1, 5]⟩ else ⟨false, []⟩, jn := fun i => none, dt := fun i => none }
noncomputable def c73 : Code := Try.f73.body.getD .skip
def rs73 : List ResultVar := [.tmp 4]
def fi73 : FnI := { nt := 48, lp := fun i => if i = 8 then ⟨false, [7, 8]⟩ else ⟨false, []⟩, jn := fun i => if i = 3 then some [0, 1] else if i = 6 then some [0, 6] else none, dt := fun i => none }
noncomputable def c74 : Code := Try.f74.body.getD .skip
def rs74 : List ResultVar := [.tmp 2]
def fi74 : FnI := { nt := 54, lp := fun i => if i = 3 then ⟨false, [0, 3, 4]⟩ else if i = 7 then ⟨false, [0, 3, 5]⟩ else if i = 10 then ⟨false, [0, 3, 5, 6]⟩ else ⟨false, []⟩, jn := fun i => none, dt := fun i => none }
noncomputable def c75 : Code := Try.f75.body.getD .skip
def rs75 : List ResultVar := [.tmp 4]
def fi75 : FnI := { nt := 49, lp := fun i => if i = 2 then ⟨false, [0, 1, 5]⟩ else ⟨false, []⟩, jn := fun i => none, dt := fun i => none }
noncomputable def c76 : Code := Try.f76.body.getD .skip
def rs76 : List ResultVar := [.tmp 4]
def fi76 : FnI := { nt := 12, lp := fun i => ⟨false, []⟩, jn := fun i => none, dt := fun i => none }
noncomputable def c77 : Code := Try.f77.body.getD .skip
def rs77 : List ResultVar := [.tmp 6]
def fi77 : FnI := { nt := 15, lp := fun i => ⟨false, []⟩, jn := fun i => none, dt := fun i => none }
noncomputable def c78 : Code := Try.f78.body.getD .skip
def rs78 : List ResultVar := [.tmp 2]
def fi78 : FnI := { nt := 22, lp := fun i => if i = 3 then ⟨false, [0, 3, 4]⟩ else ⟨false, []⟩, jn := fun i => none, dt := fun i => none }
noncomputable def c79 : Code := Try.f79.body.getD .skip
def rs79 : List ResultVar := [.tmp 2]
def fi79 : FnI := { nt := 6, lp := fun i => ⟨false, []⟩, jn := fun i => none, dt := fun i => none }
noncomputable def c80 : Code := Try.f80.body.getD .skip
def rs80 : List ResultVar := [.tmp 6]
def fi80 : FnI := { nt := 15, lp := fun i => ⟨false, []⟩, jn := fun i => none, dt := fun i => none }
noncomputable def c81 : Code := Try.f81.body.getD .skip
def rs81 : List ResultVar := [.tmp 4]
def fi81 : FnI := { nt := 9, lp := fun i => ⟨false, []⟩, jn := fun i => none, dt := fun i => none }
noncomputable def c82 : Code := Try.f82.body.getD .skip
def rs82 : List ResultVar := [.tmp 4]
def fi82 : FnI := { nt := 21, lp := fun i => if i = 2 then ⟨false, [0, 1, 5]⟩ else ⟨false, []⟩, jn := fun i => none, dt := fun i => none }
noncomputable def c83 : Code := Try.f83.body.getD .skip
def rs83 : List ResultVar := [.tmp 4]
def fi83 : FnI := { nt := 26, lp := fun i => if i = 4 then ⟨false, [0, 1, 12, 13]⟩ else ⟨false, []⟩, jn := fun i => none, dt := fun i => none }
noncomputable def c84 : Code := Try.f84.body.getD .skip
def rs84 : List ResultVar := [.cell 2 29]
def fi84 : FnI := { nt := 55, lp := fun i => ⟨false, []⟩, jn := fun i => if i = 11 then some [2, 3] else none, dt := fun i => none }
noncomputable def c85 : Code := Try.f85.body.getD .skip
def rs85 : List ResultVar := [.cell 2 29]
def fi85 : FnI := { nt := 14, lp := fun i => ⟨false, []⟩, jn := fun i => none, dt := fun i => none }
noncomputable def c86 : Code := Try.f86.body.getD .skip
def rs86 : List ResultVar := [.tmp 2]
def fi86 : FnI := { nt := 106, lp := fun i => if i = 4 then ⟨true, [1, 30, 31, 32]⟩ else if i = 10 then ⟨true, [1, 65, 66, 67]⟩ else ⟨false, []⟩, jn := fun i => none, dt := fun i => none }
noncomputable def c87 : Code := Try.f87.body.getD .skip
def rs87 : List ResultVar := [.tmp 4]
def fi87 : FnI := { nt := 17, lp := fun i => ⟨false, []⟩, jn := fun i => none, dt := fun i => none }
noncomputable def c88 : Code := Try.f88.body.getD .skip
def rs88 : List ResultVar := [.tmp 2]
def fi88 : FnI := { nt := 8, lp := fun i => ⟨false, []⟩, jn := fun i => none, dt := fun i => none }
noncomputable def c89 : Code := Try.f89.body.getD .skip
def rs89 : List ResultVar := [.tmp 2]
def fi89 : FnI := { nt := 8, lp := fun i => ⟨false, []⟩, jn := fun i => none, dt := fun i => none }
noncomputable def c90 : Code := Try.f90.body.getD .skip
def rs90 : List ResultVar := [.tmp 2]
def fi90 : FnI := { nt := 23, lp := fun i => ⟨false, []⟩, jn := fun i => none, dt := fun i => none }
noncomputable def c91 : Code := Try.f91.body.getD .skip
def rs91 : List ResultVar := [.tmp 8]
def fi91 : FnI := { nt := 22, lp := fun i => ⟨false, []⟩, jn := fun i => none, dt := fun i => none }
noncomputable def c92 : Code := Try.f92.body.getD .skip
def rs92 : List ResultVar := [.tmp 4]
def fi92 : FnI := { nt := 12, lp := fun i => ⟨false, []⟩, jn := fun i => none, dt := fun i => none }
noncomputable def c93 : Code := Try.f93.body.getD .skip
def rs93 : List ResultVar := [.tmp 4]
def fi93 : FnI := { nt := 12, lp := fun i => ⟨false, []⟩, jn := fun i => none, dt := fun i => none }
noncomputable def c94 : Code := Try.f94.body.getD .skip
def rs94 : List ResultVar := [.tmp 2]
def fi94 : FnI := { nt := 23, lp := fun i => if i = 3 then ⟨false, [0, 3, 4]⟩ else ⟨false, []⟩, jn := fun i => none, dt := fun i => none }
noncomputable def c95 : Code := Try.f95.body.getD .skip
def rs95 : List ResultVar := [.tmp 2]
def fi95 : FnI := { nt := 23, lp := fun i => if i = 3 then ⟨false, [0, 3, 4]⟩ else ⟨false, []⟩, jn := fun i => none, dt := fun i => none }
noncomputable def c96 : Code := Try.f96.body.getD .skip
def rs96 : List ResultVar := [.tmp 4]
def fi96 : FnI := { nt := 19, lp := fun i => if i = 2 then ⟨false, [0, 1, 7, 8]⟩ else ⟨false, []⟩, jn := fun i => none, dt := fun i => none }
noncomputable def c97 : Code := Try.f97.body.getD .skip
def rs97 : List ResultVar := [.tmp 4]
def fi97 : FnI := { nt := 9, lp := fun i => ⟨false, []⟩, jn := fun i => none, dt := fun i => none }
noncomputable def c98 : Code := Try.f98.body.getD .skip
def rs98 : List ResultVar := [.tmp 3]
def fi98 : FnI := { nt := 16, lp := fun i => ⟨false, []⟩, jn := fun i => none, dt := fun i => none }
noncomputable def c99 : Code := Try.f99.body.getD .skip
def rs99 : List ResultVar := [.tmp 6, .tmp 7]
def fi99 : FnI := { nt := 80, lp := fun i => if i = 4 then ⟨false, [0, 1, 8, 9]⟩ else if i = 9 then ⟨true, [0, 1, 8, 10, 11]⟩ else if i = 17 then ⟨false, [0, 1, 8, 10, 12, 14]⟩ else ⟨false, []⟩, jn := fun i => if i = 10 then some [0, 1, 8, 10, 11] else none, dt := fun i => none }
noncomputable def c100 : Code := Try.f100.body.getD .skip
def rs100 : List ResultVar := [.cell 6 29]
def fi100 : FnI := { nt := 71, lp := fun i => if i = 4 then ⟨true, [0, 1, 6, 7, 8, 9]⟩ else if i = 9 then ⟨true, [0, 1, 6, 7, 10]⟩ else ⟨false, []⟩, jn := fun i => if i = 10 then some [0, 1, 6, 7, 10] else none, dt := fun i => none }
noncomputable def c101 : Code := Try.f101.body.getD .skip
def rs101 : List ResultVar := [.tmp 6]
def fi101 : FnI := { nt := 31, lp := fun i => if i = 2 then ⟨false, [0, 1, 2, 7]⟩ else ⟨false, []⟩, jn := fun i => none, dt := fun i => none }
noncomputable def c102 : Code := Try.f102.body.getD .skip
def rs102 : List ResultVar := [.tmp 4]
def fi102 : FnI := { nt := 70, lp := fun i => if i = 3 then ⟨true, [0, 3, 5, 6]⟩ else if i = 9 then ⟨true, [0, 3, 5, 7]⟩ else ⟨false, []⟩, jn := fun i => if i = 4 then some [0, 3, 5, 6] else if i = 10 then some [0, 3, 5, 7] else none, dt := fun i => none }
noncomputable def c103 : Code := Try.f103.body.getD .skip
def rs103 : List ResultVar := [.tmp 4]
def fi103 : FnI := { nt := 15, lp := fun i => ⟨false, []⟩, jn := fun i => none, dt := fun i => none }
noncomputable def c104 : Code := Try.f104.body.getD .skip
def rs104 : List ResultVar := [.tmp 4]
def fi104 : FnI := { nt := 15, lp := fun i => ⟨false, []⟩, jn := fun i => none, dt := fun i => none }
noncomputable def c105 : Code := Try.f105.body.getD .skip
def rs105 : List ResultVar := [.tmp 4, .tmp 5]
def fi105 : FnI := { nt := 30, lp := fun i => ⟨false, []⟩, jn := fun i => none, dt := fun i => none }
noncomputable def c106 : Code := Try.f106.body.getD .skip
def rs106 : List ResultVar := [.tmp 4]
def fi106 : FnI := { nt := 19, lp := fun i => if i = 2 then ⟨false, [0, 1, 7, 8]⟩ else ⟨false, []⟩, jn := fun i => none, dt := fun i => none }
noncomputable def c107 : Code := Try.f107.body.getD .skip
def rs107 : List ResultVar := [.tmp 2]
def fi107 : FnI := { nt := 5, lp := fun i => ⟨false, []⟩, jn := fun i => none, dt := fun i => none }
noncomputable def c108 : Code := Try.f108.body.getD .skip
def rs108 : List ResultVar := [.tmp 2]
def fi108 : FnI := { nt := 5, lp := fun i => ⟨false, []⟩, jn := fun i => none, dt := fun i => none }
noncomputable def c109 : Code := Try.f109.body.getD .skip
def rs109 : List ResultVar := [.tmp 2]
def fi109 : FnI := { nt := 18, lp := fun i => if i = 3 then ⟨false, [3, 6, 7, 8]⟩ else ⟨false, []⟩, jn := fun i => none, dt := fun i => none }
noncomputable def c110 : Code := Try.f110.body.getD .skip
def rs110 : List ResultVar := [.tmp 4]
def fi110 : FnI := { nt := 20, lp := fun i => ⟨false, []⟩, jn := fun i => none, dt := fun i => none }
noncomputable def c111 : Code := Try.f111.body.getD .skip
def rs111 : List ResultVar := [.tmp 2]
def fi111 : FnI := { nt := 47, lp := fun i => if i = 2 then ⟨false, [0, 3]⟩ else ⟨false, []⟩, jn := fun i => none, dt := fun i => none }
noncomputable def c112 : Code := Try.f112.body.getD .skip
def rs112 : List ResultVar := [.tmp 4]
def fi112 : FnI := { nt := 51, lp := fun i => if i = 2 then ⟨true, [0, 1, 5]⟩ else ⟨false, []⟩, jn := fun i => none, dt := fun i => none }
noncomputable def c113 : Code := Try.f113.body.getD .skip
def rs113 : List ResultVar := [.cell 2 47]
def fi113 : FnI := { nt := 11, lp := fun i => ⟨false, []⟩, jn := fun i => none, dt := fun i => none }
noncomputable def c114 : Code := Try.f114.body.getD .skip
def rs114 : List ResultVar := [.cell 2 43]
def fi114 : FnI := { nt := 11, lp := fun i => ⟨false, []⟩, jn := fun i => none, dt := fun i => none }
noncomputable def c115 : Code := Try.f115.body.getD .skip
def rs115 : List ResultVar := [.tmp 4]
def fi115 : FnI := { nt := 19, lp := fun i => if i = 2 then ⟨false, [0, 1, 7, 8]⟩ else ⟨false, []⟩, jn := fun i => none, dt := fun i => none }
noncomputable def c116 : Code := Try.f116.body.getD .skip
def rs116 : List ResultVar := [.tmp 4]
def fi116 : FnI := { nt := 14, lp := fun i => ⟨false, []⟩, jn := fun i => none, dt := fun i => none }
noncomputable def c117 : Code := Try.f117.body.getD .skip
def rs117 : List ResultVar := [.cell 6 29, .tmp 7]
def fi117 : FnI := { nt := 39, lp := fun i => ⟨false, []⟩, jn := fun i => none, dt := fun i => none }
noncomputable def c118 : Code := Try.f118.body.getD .skip
def rs118 : List ResultVar := [.tmp 4, .tmp 5]
def fi118 : FnI := { nt := 17, lp := fun i => ⟨false, []⟩, jn := fun i => none, dt := fun i => none }
noncomputable def c119 : Code := Try.f119.body.getD .skip
def rs119 : List ResultVar := [.tmp 4, .tmp 5]
def fi119 : FnI := { nt := 51, lp := fun i => ⟨false, []⟩, jn := fun i => none, dt := fun i => none }
noncomputable def c120 : Code := Try.f120.body.getD .skip
def rs120 : List ResultVar := [.tmp 2]
def fi120 : FnI := { nt := 6, lp := fun i => ⟨false, []⟩, jn := fun i => none, dt := fun i => none }
noncomputable def codeL : List (Option Func) := [none, none, none, some Try.f3, some Try.f4, some Try.f5, some Try.f6, some Try.f7, some Try.f8, some Try.f9, some Try.f10, some Try.f11, some Try.f12, some Try.f13, some Try.f14, some Try.f15, some Try.f16, some Try.f17, some Try.f18, some Try.f19, some Try.f20, some Try.f21, some Try.f22, some Try.f23, some Try.f24, some Try.f25, some Try.f26, some Try.f27, some Try.f28, some Try.f29, some Try.f30, some Try.f31, some Try.f32, some Try.f33, some Try.f34, some Try.f35, some Try.f36, some Try.f37, some Try.f38, some Try.f39, some Try.f40, some Try.f41, some Try.f42, some Try.f43, some Try.f44, some Try.f45, some Try.f46, some Try.f47, some Try.f48, some Try.f49, some Try.f50, some Try.f51, some Try.f52, some Try.f53, some Try.f54, some Try.f55, some Try.f56, some Try.f57, some Try.f58, some Try.f59, some Try.f60, some Try.f61, some Try.f62, some Try.f63, some Try.f64, some Try.f65, some Try.f66, some Try.f67, some Try.f68, some Try.f69, some Try.f70, some Try.f71, some Try.f72, some Try.f73, some Try.f74, some Try.f75, some Try.f76, some Try.f77, some Try.f78, some Try.f79, some Try.f80, some Try.f81, some Try.f82, some Try.f83, some Try.f84, some Try.f85, some Try.f86, some Try.f87, some Try.f88, some Try.f89, some Try.f90, some Try.f91, some Try.f92, some Try.f93, some Try.f94, some Try.f95, some Try.f96, some Try.f97, some Try.f98, some Try.f99, some Try.f100, some Try.f101, some Try.f102, some Try.f103, some Try.f104, some Try.f105, some Try.f106, some Try.f107, some Try.f108, some Try.f109, some Try.f110, some Try.f111, some Try.f112, some Try.f113, some Try.f114, some Try.f115, some Try.f116, some Try.f117, some Try.f118, some Try.f119, some Try.f120]
def fiL : List FnI := [⟨0, fun _ => ⟨false, []⟩, fun _ => none, fun _ => none⟩, ⟨0, fun _ => ⟨false, []⟩, fun _ => none, fun _ => none⟩, ⟨0, fun _ => ⟨false, []⟩, fun _ => none, fun _ => none⟩, fi3, fi4, fi5, fi6, fi7, fi8, fi9, fi10, fi11, fi12, fi13, fi14, fi15, fi16, fi17, fi18, fi19, fi20, fi21, fi22, fi23, fi24, fi25, fi26, fi27, fi28, fi29, fi30, fi31, fi32, fi33, fi34, fi35, fi36, fi37, fi38, fi39, fi40, fi41, fi42, fi43, fi44, fi45, fi46, fi47, fi48, fi49, fi50, fi51, fi52, fi53, fi54, fi55, fi56, fi57, fi58, fi59, fi60, fi61, fi62, fi63, fi64, fi65, fi66, fi67, fi68, fi69, fi70, fi71, fi72, fi73, fi74, fi75, fi76, fi77, fi78, fi79, fi80, fi81, fi82, fi83, fi84, fi85, fi86, fi87, fi88, fi89, fi90, fi91, fi92, fi93, fi94, fi95, fi96, fi97, fi98, fi99, fi100, fi101, fi102, fi103, fi104, fi105, fi106, fi107, fi108, fi109, fi110, fi111, fi112, fi113, fi114, fi115, fi116, fi117, fi118, fi119, fi120]
def primF (f : Nat) : Option (List SV → List SO → Out) := if f = 88 then some (cloneS 2 16) else if f = 89 then some (cloneS 2 16) else none
def purF : Nat → List Nat := fun f => match f with  | _ => []
noncomputable def prg : Prg := { T := tab, own := ownF, pur := purF, code := fun f => (codeL[f]?).getD none, fi := fun f => (fiL[f]?).getD ⟨0, fun _ => ⟨false, []⟩, fun _ => none, fun _ => none⟩, prim := primF }
noncomputable def bk3_10 (K : Nat → List SV → List SO → Out) (N nl : Nat) (m10 : Nat) : Env → List SO → Out := fun env os => loopS nl (fi3.lp 10) (fun env os nx => exec (cx K) N nl fi3 (subC c3 [1, 1, 1, 1, 1, 1, 1, 0, 1, 0, 0]) env os (kLoop nx (kBlock 0 (kSeq (exec (cx K) N nl fi3 (subC c3 [1, 1, 1, 1, 1, 1, 1, 1])) (fi3.jn 14) (kEnd tab [] nl rs3))))) m10 (killS (fi3.lp 10).alive env) os
noncomputable def L3_10 (K : Nat → List SV → List SO → Out) (N nl : Nat) (m10 : Nat) (x3 x4 x7 x9 x10 : SV) (os : List SO) : Out := loopS nl (fi3.lp 10) (fun env os nx => exec (cx K) N nl fi3 (subC c3 [1, 1, 1, 1, 1, 1, 1, 0, 1, 0, 0]) env os (kLoop nx (kBlock 0 (kSeq (exec (cx K) N nl fi3 (subC c3 [1, 1, 1, 1, 1, 1, 1, 1])) (fi3.jn 14) (kEnd tab [] nl rs3))))) m10 [(3, x3), (4, x4), (7, x7), (9, x9), (10, x10)] os
noncomputable def X3 (K : Nat → List SV → List SO → Out) (N nl : Nat) (x0 : SV) (os : List SO) : Out := exec (cx K) N nl fi3 c3 [(0, x0)] os (kEnd tab [] nl rs3)
noncomputable def B3 (K : Nat → List SV → List SO → Out) (N nl : Nat) (x0 : SV) (os : List SO) : Out :=
 bd (lenO tab 22 os x0) fun v1 o1 =>
 bd (ret1 (binS tab .gtr 3 v1 (SV.v (.int .i64 1048576))) o1) fun v2 o2 =>
 condS v2 (retV tab nl o2 (resC1 (some (SV.v (.bool true))) (some [])))
 (bd (callS ⟨tab, ownF, K⟩ o2 15 [x0]) fun v3 o3 =>
 bd (ret1 (extractS v3 0) o3) fun v4 o4 =>
 bd (ret1 (extractS v3 1) o4) fun v5 o5 =>
 bd (callS ⟨tab, ownF, K⟩ o5 16 [v4, v5]) fun v6 o6 =>
 bd (ret1 (extractS v6 0) o6) fun v7 o7 =>
 bd (ret1 (extractS v6 1) o7) fun v8 o8 =>
 bd (allocS tab o8 29) fun v9 o9 =>
 bd (storeO tab o9 29 v9 (some v7)) fun v10 o10 =>
 bd (callS ⟨tab, ownF, K⟩ o10 17 [v4, v5]) fun v11 o11 =>
 bd (ret1 (extractS v11 0) o11) fun v12 o12 =>
 bd (ret1 (extractS v11 1) o12) fun v13 o13 =>
 bd (allocS tab o13 29) fun v14 o14 =>
 bd (storeO tab o14 29 v14 (some v12)) fun v15 o15 =>
 bd (ret1 (binS tab .neq 4 v13 v8) o15) fun v16 o16 =>
 bd (gd v16 false (ret1 (loadS tab o16 29 v14) o16) o16) fun v17 o17 =>
 bd (gd v16 false (ret1 (loadS tab o17 29 v9) o17) o17) fun v18 o18 =>
 bd (gd v16 false (callS ⟨tab, ownF, K⟩ o18 18 [v17, v18]) o18) fun v19 o19 =>
 bd (gd v16 false (ret1 (unS .not v19) o19) o19) fun v20 o20 =>
 bd (ret1 (pickS v16 (SV.v (.bool true)) v20) o20) fun v21 o21 =>
 bd (gd v21 false (some (v13, o21)) o21) fun v22 o22 =>
 bd (gd v21 false (ret1 (unS .not v22) o22) o22) fun v23 o23 =>
 bd (ret1 (pickS v21 (SV.v (.bool true)) v23) o23) fun v24 o24 =>
 condS v24 (bd (ret1 (binS tab .eql 4 v13 v8) o24) fun v25 o25 =>
 bd (gd v25 true (ret1 (loadS tab o25 29 v14) o25) o25) fun v26 o26 =>
 bd (gd v25 true (ret1 (loadS tab o26 29 v9) o26) o26) fun v27 o27 =>
 bd (gd v25 true (callS ⟨tab, ownF, K⟩ o27 18 [v26, v27]) o27) fun v28 o28 =>
 bd (ret1 (pickS v25 v28 (SV.v (.bool false))) o28) fun v29 o29 =>
 retV tab nl o29 (resC1 (some v29) (some [])))
 (bd (buildSliceS tab o24 23 0 []) fun v30 o30 =>
 L3_10 K N nl N v4 v5 v14 v30 (SV.v (.int .i64 0)) o30))
noncomputable def bk4_10 (K : Nat → List SV → List SO → Out) (N nl : Nat) (m10 : Nat) : Env → List SO → Out := fun env os => loopS nl (fi4.lp 10) (fun env os nx => exec (cx K) N nl fi4 (subC c4 [1, 1, 1, 1, 1, 1, 1, 0, 1, 0, 0]) env os (kLoop nx (kBlock 0 (kSeq (exec (cx K) N nl fi4 (subC c4 [1, 1, 1, 1, 1, 1, 1, 1])) (fi4.jn 15) (kEnd tab [] nl rs4))))) m10 (killS (fi4.lp 10).alive env) os
noncomputable def bk6_10 (K : Nat → List SV → List SO → Out) (N nl : Nat) (m10 : Nat) : Env → List SO → Out := fun env os => loopS nl (fi6.lp 10) (fun env os nx => exec (cx K) N nl fi6 (subC c6 [1, 1, 1, 1, 1, 1, 1, 0, 1, 0, 0]) env os (kLoop nx (kBlock 0 (kSeq (exec (cx K) N nl fi6 (subC c6 [1, 1, 1, 1, 1, 1, 1, 1])) (fi6.jn 16) (kEnd tab [] nl rs6))))) m10 (killS (fi6.lp 10).alive env) os
noncomputable def bk6_13 (K : Nat → List SV → List SO → Out) (N nl : Nat) (m10 : Nat) (m13 : Nat) : Env → List SO → Out := fun env os => loopS nl (fi6.lp 13) (fun env os nx => exec (cx K) N nl fi6 (subC c6 [1, 1, 1, 1, 1, 1, 1, 0, 1, 0, 0, 1, 0, 0, 1, 0, 0]) env os (kLoop nx (kBlock 2 (kBlock 1 (kSeq (exec (cx K) N nl fi6 (subC c6 [1, 1, 1, 1, 1, 1, 1, 0, 1, 0, 0, 1, 1])) (fi6.jn 11) (kLoop (bk6_10 K N nl m10) (kBlock 0 (kSeq (exec (cx K) N nl fi6 (subC c6 [1, 1, 1, 1, 1, 1, 1, 1])) (fi6.jn 16) (kEnd tab [] nl rs6))))))))) m13 (killS (fi6.lp 13).alive env) os
noncomputable def bk7_9 (K : Nat → List SV → List SO → Out) (N nl : Nat) (m9 : Nat) : Env → List SO → Out := fun env os => loopS nl (fi7.lp 9) (fun env os nx => exec (cx K) N nl fi7 (subC c7 [1, 1, 1, 1, 1, 1, 0, 1, 0, 0]) env os (kLoop nx (kBlock 0 (kSeq (exec (cx K) N nl fi7 (subC c7 [1, 1, 1, 1, 1, 1, 1])) (fi7.jn 26) (kEnd tab [] nl rs7))))) m9 (killS (fi7.lp 9).alive env) os
noncomputable def bk7_14 (K : Nat → List SV → List SO → Out) (N nl : Nat) (m9 : Nat) (m14 : Nat) : Env → List SO → Out := fun env os => loopS nl (fi7.lp 14) (fun env os nx => exec (cx K) N nl fi7 (subC c7 [1, 1, 1, 1, 1, 1, 0, 1, 0, 0, 1, 0, 0, 1, 0, 1, 0, 0]) env os (kLoop nx (kBlock 2 (kSeq (exec (cx K) N nl fi7 (subC c7 [1, 1, 1, 1, 1, 1, 0, 1, 0, 0, 1, 0, 0, 1, 1])) (fi7.jn 19) (kBlock 1 (kSeq (exec (cx K) N nl fi7 (subC c7 [1, 1, 1, 1, 1, 1, 0, 1, 0, 0, 1, 1])) (fi7.jn 10) (kLoop (bk7_9 K N nl m9) (kBlock 0 (kSeq (exec (cx K) N nl fi7 (subC c7 [1, 1, 1, 1, 1, 1, 1])) (fi7.jn 26) (kEnd tab [] nl rs7)))))))))) m14 (killS (fi7.lp 14).alive env) os
noncomputable def bk7_20 (K : Nat → List SV → List SO → Out) (N nl : Nat) (m9 : Nat) (m20 : Nat) : Env → List SO → Out := fun env os => loopS nl (fi7.lp 20) (fun env os nx => exec (cx K) N nl fi7 (subC c7 [1, 1, 1, 1, 1, 1, 0, 1, 0, 0, 1, 0, 0, 1, 1, 1, 0, 0]) env os (kLoop nx (kBlock 4 (kBlock 1 (kSeq (exec (cx K) N nl fi7 (subC c7 [1, 1, 1, 1, 1, 1, 0, 1, 0, 0, 1, 1])) (fi7.jn 10) (kLoop (bk7_9 K N nl m9) (kBlock 0 (kSeq (exec (cx K) N nl fi7 (subC c7 [1, 1, 1, 1, 1, 1, 1])) (fi7.jn 26) (kEnd tab [] nl rs7))))))))) m20 (killS (fi7.lp 20).alive env) os
noncomputable def X8 (K : Nat → List SV → List SO → Out) (N nl : Nat) (x0 x1 : SV) (os : List SO) : Out := exec (cx K) N nl fi8 c8 [(0, x0), (1, x1)] os (kEnd tab [] nl rs8)
noncomputable def B8 (K : Nat → List SV → List SO → Out) (N nl : Nat) (x0 x1 : SV) (os : List SO) : Out :=
 bd (callS ⟨tab, ownF, K⟩ os 21 [x0, (SV.v (.int .i64 1048576))]) fun v1 o1 =>
 bd (ret1 (binS tab .lss 3 v1 (SV.v (.int .i64 0))) o1) fun v2 o2 =>
 condS v2 (retV tab nl o2 (resC1 (some (SV.v (.bool true))) (some [])))
 (bd (callS ⟨tab, ownF, K⟩ o2 23 [x0]) fun v3 o3 =>
 bd (callS ⟨tab, ownF, K⟩ o3 16 [v3, x1]) fun v4 o4 =>
 bd (ret1 (extractS v4 0) o4) fun v5 o5 =>
 bd (ret1 (extractS v4 1) o5) fun v6 o6 =>
 bd (allocS tab o6 29) fun v7 o7 =>
 bd (storeO tab o7 29 v7 (some v5)) fun v8 o8 =>
 bd (callS ⟨tab, ownF, K⟩ o8 23 [x0]) fun v9 o9 =>
 bd (callS ⟨tab, ownF, K⟩ o9 17 [v9, x1]) fun v10 o10 =>
 bd (ret1 (extractS v10 0) o10) fun v11 o11 =>
 bd (ret1 (extractS v10 1) o11) fun v12 o12 =>
 bd (allocS tab o12 29) fun v13 o13 =>
 bd (storeO tab o13 29 v13 (some v11)) fun v14 o14 =>
 bd (ret1 (loadS tab o14 29 v13) o14) fun v15 o15 =>
 bd (ret1 (loadS tab o15 29 v7) o15) fun v16 o16 =>
 bd (callS ⟨tab, ownF, K⟩ o16 27 [v15, v16]) fun v17 o17 =>
 bd (ret1 (unS .not v17) o17) fun v18 o18 =>
 bd (gd v18 false (some (v12, o18)) o18) fun v19 o19 =>
 bd (gd v18 false (some (v6, o19)) o19) fun v20 o20 =>
 bd (gd v18 false (ret1 (binS tab .neq 4 v19 v20) o20) o20) fun v21 o21 =>
 bd (ret1 (pickS v18 (SV.v (.bool true)) v21) o21) fun v22 o22 =>
 condS v22 (retV tab nl o22 (resC1 (some (SV.v (.bool false))) (some [])))
 (bd (callS ⟨tab, ownF, K⟩ o22 23 [x0]) fun v23 o23 =>
 bd (callS ⟨tab, ownF, K⟩ o23 25 [v9, v23]) fun v24 o24 =>
 bd (ret1 (unS .not v24) o24) fun v25 o25 =>
 condS v25 (retV tab nl o25 (resC1 (some (SV.v (.bool false))) (some [])))
 (bd (callS ⟨tab, ownF, K⟩ o25 28 [v9, (SV.v (.int .i64 1))]) fun v26 o26 =>
 bd (ret1 (binS tab .lss 3 v26 (SV.v (.int .i64 0))) o26) fun v27 o27 =>
 bd (gd v27 false (ret1 (loadS tab o27 29 v13) o27) o27) fun v28 o28 =>
 bd (gd v27 false (ret1 (loadS tab o28 29 v7) o28) o28) fun v29 o29 =>
 bd (gd v27 false (callS ⟨tab, ownF, K⟩ o29 27 [v28, v29]) o29) fun v30 o30 =>
 bd (gd v27 false (ret1 (unS .not v30) o30) o30) fun v31 o31 =>
 bd (ret1 (pickS v27 (SV.v (.bool true)) v31) o31) fun v32 o32 =>
 bd (gd v32 false (some (v12, o32)) o32) fun v33 o33 =>
 bd (gd v32 false (some (v6, o33)) o33) fun v34 o34 =>
 bd (gd v32 false (ret1 (binS tab .neq 4 v33 v34) o34) o34) fun v35 o35 =>
 bd (ret1 (pickS v32 (SV.v (.bool true)) v35) o35) fun v36 o36 =>
 condS v36 (retV tab nl o36 (resC1 (some (SV.v (.bool false))) (some [])))
 (bd (ret1 (loadS tab o36 29 v13) o36) fun v37 o37 =>
 bd (callS ⟨tab, ownF, K⟩ o37 29 [v37, (SV.v (.int .i64 1))]) fun v38 o38 =>
 bd (ret1 (loadS tab o38 29 v13) o38) fun v39 o39 =>
 bd (callS ⟨tab, ownF, K⟩ o39 30 [v39, (SV.v (.int .i64 1))]) fun v40 o40 =>
 bd (ret1 (binS tab .lss 3 v40 (SV.v (.int .i64 0))) o40) fun v41 o41 =>
 condS v41 (retV tab nl o41 (resC1 (some (SV.v (.bool false))) (some [])))
 (bd (ret1 (binS tab .neq 3 v40 v38) o41) fun v42 o42 =>
 condS v42 (retV tab nl o42 (resC1 (some (SV.v (.bool false))) (some [])))
 (bd (callS ⟨tab, ownF, K⟩ o42 23 [x0]) fun v43 o43 =>
 bd (callS ⟨tab, ownF, K⟩ o43 17 [v43, x1]) fun v44 o44 =>
 bd (ret1 (extractS v44 0) o44) fun v45 o45 =>
 bd (ret1 (extractS v44 1) o45) fun v46 o46 =>
 bd (allocS tab o46 29) fun v47 o47 =>
 bd (storeO tab o47 29 v47 (some v45)) fun v48 o48 =>
 bd (ret1 (loadS tab o48 29 v47) o48) fun v49 o49 =>
 bd (ret1 (loadS tab o49 29 v7) o49) fun v50 o50 =>
 bd (callS ⟨tab, ownF, K⟩ o50 27 [v49, v50]) fun v51 o51 =>
 bd (ret1 (unS .not v51) o51) fun v52 o52 =>
 bd (gd v52 false (some (v46, o52)) o52) fun v53 o53 =>
 bd (gd v52 false (some (v6, o53)) o53) fun v54 o54 =>
 bd (gd v52 false (ret1 (binS tab .neq 4 v53 v54) o54) o54) fun v55 o55 =>
 bd (ret1 (pickS v52 (SV.v (.bool true)) v55) o55) fun v56 o56 =>
 condS v56 (retV tab nl o56 (resC1 (some (SV.v (.bool false))) (some [])))
 (bd (ret1 (loadS tab o56 29 v13) o56) fun v57 o57 =>
 bd (callS ⟨tab, ownF, K⟩ o57 30 [v57, (SV.v (.int .i64 1))]) fun v58 o58 =>
 bd (ret1 (binS tab .lss 3 v58 (SV.v (.int .i64 0))) o58) fun v59 o59 =>
 condS v59 (retV tab nl o59 (resC1 (some (SV.v (.bool false))) (some [])))
 (bd (ret1 (binS tab .neq 3 v58 v38) o59) fun v60 o60 =>
 condS v60 (retV tab nl o60 (resC1 (some (SV.v (.bool false))) (some [])))
 (retV tab nl o60 (resC1 (some (SV.v (.bool true))) (some [])))))))))))
noncomputable def bk9_9 (K : Nat → List SV → List SO → Out) (N nl : Nat) (m9 : Nat) : Env → List SO → Out := fun env os => loopS nl (fi9.lp 9) (fun env os nx => exec (cx K) N nl fi9 (subC c9 [1, 1, 1, 1, 1, 1, 0, 1, 0, 0]) env os (kLoop nx (kBlock 0 (kSeq (exec (cx K) N nl fi9 (subC c9 [1, 1, 1, 1, 1, 1, 1])) (fi9.jn 17) (kEnd tab [] nl rs9))))) m9 (killS (fi9.lp 9).alive env) os
noncomputable def bk9_19 (K : Nat → List SV → List SO → Out) (N nl : Nat) (m19 : Nat) : Env → List SO → Out := fun env os => loopS nl (fi9.lp 19) (fun env os nx => exec (cx K) N nl fi9 (subC c9 [1, 1, 1, 1, 1, 1, 1, 1, 0, 1, 0, 0]) env os (kLoop nx (kBlock 4 (kSeq (exec (cx K) N nl fi9 (subC c9 [1, 1, 1, 1, 1, 1, 1, 1, 1])) (fi9.jn 23) (kEnd tab [] nl rs9))))) m19 (killS (fi9.lp 19).alive env) os
noncomputable def bk9_12 (K : Nat → List SV → List SO → Out) (N nl : Nat) (m9 : Nat) (m12 : Nat) : Env → List SO → Out := fun env os => loopS nl (fi9.lp 12) (fun env os nx => exec (cx K) N nl fi9 (subC c9 [1, 1, 1, 1, 1, 1, 0, 1, 0, 0, 1, 0, 0, 1, 0, 0]) env os (kLoop nx (kBlock 2 (kBlock 1 (kSeq (exec (cx K) N nl fi9 (subC c9 [1, 1, 1, 1, 1, 1, 0, 1, 0, 0, 1, 1])) (fi9.jn 10) (kLoop (bk9_9 K N nl m9) (kBlock 0 (kSeq (exec (cx K) N nl fi9 (subC c9 [1, 1, 1, 1, 1, 1, 1])) (fi9.jn 17) (kEnd tab [] nl rs9))))))))) m12 (killS (fi9.lp 12).alive env) os
noncomputable def bk10_13 (K : Nat → List SV → List SO → Out) (N nl : Nat) (m13 : Nat) : Env → List SO → Out := fun env os => loopS nl (fi10.lp 13) (fun env os nx => exec (cx K) N nl fi10 (subC c10 [1, 1, 1, 1, 1, 1, 1, 1, 1, 0, 1, 0, 0]) env os (kLoop nx (kBlock 0 (kSeq (exec (cx K) N nl fi10 (subC c10 [1, 1, 1, 1, 1, 1, 1, 1, 1, 1])) (fi10.jn 18) (kEnd tab [] nl rs10))))) m13 (killS (fi10.lp 13).alive env) os
noncomputable def X11 (K : Nat → List SV → List SO → Out) (N nl : Nat) (x0 : SV) (os : List SO) : Out := exec (cx K) N nl fi11 c11 [(0, x0)] os (kEnd tab [] nl rs11)
noncomputable def B11 (K : Nat → List SV → List SO → Out) (N nl : Nat) (x0 : SV) (os : List SO) : Out :=
 bd (callS ⟨tab, ownF, K⟩ os 21 [x0, (SV.v (.int .i64 1048576))]) fun v1 o1 =>
 bd (ret1 (binS tab .lss 3 v1 (SV.v (.int .i64 0))) o1) fun v2 o2 =>
 condS v2 (retV tab nl o2 (resC1 (some (SV.v (.bool true))) (some [])))
 (bd (callS ⟨tab, ownF, K⟩ o2 23 [x0]) fun v3 o3 =>
 bd (callS ⟨tab, ownF, K⟩ o3 34 [v3]) fun v4 o4 =>
 bd (callS ⟨tab, ownF, K⟩ o4 23 [x0]) fun v5 o5 =>
 bd (callS ⟨tab, ownF, K⟩ o5 32 [v5]) fun v6 o6 =>
 bd (callS ⟨tab, ownF, K⟩ o6 35 [v6, v4]) fun v7 o7 =>
 bd (ret1 (unS .not v7) o7) fun v8 o8 =>
 condS v8 (retV tab nl o8 (resC1 (some (SV.v (.bool false))) (some [])))
 (bd (callS ⟨tab, ownF, K⟩ o8 23 [x0]) fun v9 o9 =>
 bd (callS ⟨tab, ownF, K⟩ o9 25 [v5, v9]) fun v10 o10 =>
 bd (ret1 (unS .not v10) o10) fun v11 o11 =>
 condS v11 (retV tab nl o11 (resC1 (some (SV.v (.bool false))) (some [])))
 (bd (callS ⟨tab, ownF, K⟩ o11 28 [v5, (SV.v (.int .i64 1))]) fun v12 o12 =>
 bd (ret1 (binS tab .lss 3 v12 (SV.v (.int .i64 0))) o12) fun v13 o13 =>
 bd (gd v13 false (some (v6, o13)) o13) fun v14 o14 =>
 bd (gd v13 false (some (v4, o14)) o14) fun v15 o15 =>
 bd (gd v13 false (callS ⟨tab, ownF, K⟩ o15 35 [v14, v15]) o15) fun v16 o16 =>
 bd (gd v13 false (ret1 (unS .not v16) o16) o16) fun v17 o17 =>
 bd (ret1 (pickS v13 (SV.v (.bool true)) v17) o17) fun v18 o18 =>
 condS v18 (retV tab nl o18 (resC1 (some (SV.v (.bool false))) (some [])))
 (bd (callS ⟨tab, ownF, K⟩ o18 36 [v6, (SV.v (.int .i64 1))]) fun v19 o19 =>
 bd (callS ⟨tab, ownF, K⟩ o19 37 [v6, (SV.v (.int .i64 1))]) fun v20 o20 =>
 bd (ret1 (binS tab .lss 3 v20 (SV.v (.int .i64 0))) o20) fun v21 o21 =>
 condS v21 (retV tab nl o21 (resC1 (some (SV.v (.bool false))) (some [])))
 (bd (ret1 (binS tab .neq 3 v20 v19) o21) fun v22 o22 =>
 condS v22 (retV tab nl o22 (resC1 (some (SV.v (.bool false))) (some [])))
 (bd (callS ⟨tab, ownF, K⟩ o22 23 [x0]) fun v23 o23 =>
 bd (callS ⟨tab, ownF, K⟩ o23 32 [v23]) fun v24 o24 =>
 bd (callS ⟨tab, ownF, K⟩ o24 35 [v24, v4]) fun v25 o25 =>
 bd (ret1 (unS .not v25) o25) fun v26 o26 =>
 condS v26 (retV tab nl o26 (resC1 (some (SV.v (.bool false))) (some [])))
 (bd (callS ⟨tab, ownF, K⟩ o26 37 [v6, (SV.v (.int .i64 1))]) fun v27 o27 =>
 bd (ret1 (binS tab .lss 3 v27 (SV.v (.int .i64 0))) o27) fun v28 o28 =>
 condS v28 (retV tab nl o28 (resC1 (some (SV.v (.bool false))) (some [])))
 (bd (ret1 (binS tab .neq 3 v27 v19) o28) fun v29 o29 =>
 condS v29 (retV tab nl o29 (resC1 (some (SV.v (.bool false))) (some [])))
 (retV tab nl o29 (resC1 (some (SV.v (.bool true))) (some [])))))))))))
noncomputable def X16 (K : Nat → List SV → List SO → Out) (N nl : Nat) (x0 x1 : SV) (os : List SO) : Out := exec (cx K) N nl fi16 c16 [(0, x0), (1, x1)] os (kEnd tab [] nl rs16)
noncomputable def B16 (K : Nat → List SV → List SO → Out) (N nl : Nat) (x0 x1 : SV) (os : List SO) : Out :=
 bd (allocS tab os 29) fun v1 o1 =>
 bd (callS ⟨tab, ownF, K⟩ o1 19 [x0]) fun v2 o2 =>
 bd (ret1 (unS .not v2) o2) fun v3 o3 =>
 condS v3 (bd (buildS tab o3 29 []) fun v4 o4 =>
 bd (storeO tab o4 29 v1 (some v4)) fun v5 o5 =>
 retV tab nl o5 (resC1 (loadS tab o5 29 v1) (resC1 (some (SV.v (.bool false))) (some []))))
 (bd (callS ⟨tab, ownF, K⟩ o3 52 [x0, x1]) fun v6 o6 =>
 bd (ret1 (extractS v6 0) o6) fun v7 o7 =>
 bd (ret1 (extractS v6 1) o7) fun v8 o8 =>
 bd (storeO tab o8 29 v1 (some v7)) fun v9 o9 =>
 retV tab nl o9 (resC1 (loadS tab o9 29 v1) (resC1 (some v8) (some []))))
noncomputable def X17 (K : Nat → List SV → List SO → Out) (N nl : Nat) (x0 x1 : SV) (os : List SO) : Out := exec (cx K) N nl fi17 c17 [(0, x0), (1, x1)] os (kEnd tab [] nl rs17)
noncomputable def B17 (K : Nat → List SV → List SO → Out) (N nl : Nat) (x0 x1 : SV) (os : List SO) : Out :=
 bd (allocS tab os 29) fun v1 o1 =>
 bd (callS ⟨tab, ownF, K⟩ o1 53 [x0]) fun v2 o2 =>
 bd (ret1 (unS .not v2) o2) fun v3 o3 =>
 bd (gd v3 false (some (x0, o3)) o3) fun v4 o4 =>
 bd (gd v3 false (some (x1, o4)) o4) fun v5 o5 =>
 bd (gd v3 false (callS ⟨tab, ownF, K⟩ o5 54 [v4, v5]) o5) fun v6 o6 =>
 bd (gd v3 false (ret1 (binS tab .lss 3 v6 (SV.v (.int .i64 0))) o6) o6) fun v7 o7 =>
 bd (ret1 (pickS v3 (SV.v (.bool true)) v7) o7) fun v8 o8 =>
 condS v8 (bd (buildS tab o8 29 []) fun v9 o9 =>
 bd (storeO tab o9 29 v1 (some v9)) fun v10 o10 =>
 retV tab nl o10 (resC1 (loadS tab o10 29 v1) (resC1 (some (SV.v (.bool false))) (some []))))
 (bd (callS ⟨tab, ownF, K⟩ o8 54 [x0, x1]) fun v11 o11 =>
 bd (ret1 (indexAddrS tab o11 23 x0 v11) o11) fun v12 o12 =>
 bd (ret1 (loadS tab o12 29 v12) o12) fun v13 o13 =>
 bd (callS ⟨tab, ownF, K⟩ o13 55 [v13]) fun v14 o14 =>
 bd (storeO tab o14 29 v1 (some v14)) fun v15 o15 =>
 retV tab nl o15 (resC1 (loadS tab o15 29 v1) (resC1 (some (SV.v (.bool true))) (some []))))
noncomputable def bk18_4 (K : Nat → List SV → List SO → Out) (N nl : Nat) (m4 : Nat) : Env → List SO → Out := fun env os => loopS nl (fi18.lp 4) (fun env os nx => exec (cx K) N nl fi18 (subC c18 [1, 1, 0, 1, 0, 0]) env os (kLoop nx (kBlock 0 (kSeq (exec (cx K) N nl fi18 (subC c18 [1, 1, 1])) (fi18.jn 8) (kEnd tab [] nl rs18))))) m4 (killS (fi18.lp 4).alive env) os
noncomputable def bk18_9 (K : Nat → List SV → List SO → Out) (N nl : Nat) (m9 : Nat) : Env → List SO → Out := fun env os => loopS nl (fi18.lp 9) (fun env os nx => exec (cx K) N nl fi18 (subC c18 [1, 1, 1, 0, 1, 0, 0]) env os (kLoop nx (kBlock 2 (kSeq (exec (cx K) N nl fi18 (subC c18 [1, 1, 1, 1])) (fi18.jn 13) (kEnd tab [] nl rs18))))) m9 (killS (fi18.lp 9).alive env) os
noncomputable def X19 (K : Nat → List SV → List SO → Out) (N nl : Nat) (x0 : SV) (os : List SO) : Out := exec (cx K) N nl fi19 c19 [(0, x0)] os (kEnd tab [] nl rs19)
noncomputable def B19 (K : Nat → List SV → List SO → Out) (N nl : Nat) (x0 : SV) (os : List SO) : Out :=
 bd (callS ⟨tab, ownF, K⟩ os 56 [x0]) fun v1 o1 =>
 retV tab nl o1 (resC1 (some v1) (some []))
noncomputable def bk20_2 (K : Nat → List SV → List SO → Out) (N nl : Nat) (m2 : Nat) : Env → List SO → Out := fun env os => loopS nl (fi20.lp 2) (fun env os nx => exec (cx K) N nl fi20 (subC c20 [1, 0, 1, 0, 0]) env os (kLoop nx (kBlock 0 (kSeq (exec (cx K) N nl fi20 (subC c20 [1, 1])) (fi20.jn 6) (kEnd tab [] nl rs20))))) m2 (killS (fi20.lp 2).alive env) os
noncomputable def bk21_5 (K : Nat → List SV → List SO → Out) (N nl : Nat) (m5 : Nat) : Env → List SO → Out := fun env os => loopS nl (fi21.lp 5) (fun env os nx => exec (cx K) N nl fi21 (subC c21 [1, 1, 1, 0, 1, 0, 0]) env os (kLoop nx (kBlock 0 (kSeq (exec (cx K) N nl fi21 (subC c21 [1, 1, 1, 1])) (fi21.jn 10) (kEnd tab [] nl rs21))))) m5 (killS (fi21.lp 5).alive env) os
noncomputable def L21_5 (K : Nat → List SV → List SO → Out) (N nl : Nat) (m5 : Nat) (x0 x1 x5 : SV) (os : List SO) : Out := loopS nl (fi21.lp 5) (fun env os nx => exec (cx K) N nl fi21 (subC c21 [1, 1, 1, 0, 1, 0, 0]) env os (kLoop nx (kBlock 0 (kSeq (exec (cx K) N nl fi21 (subC c21 [1, 1, 1, 1])) (fi21.jn 10) (kEnd tab [] nl rs21))))) m5 [(0, x0), (1, x1), (5, x5)] os
noncomputable def LB21_5 (K : Nat → List SV → List SO → Out) (N nl : Nat) (m5 : Nat) (x0 x1 x5 : SV) (os : List SO) : Out :=
 bd (lenO tab 36 os x0) fun v4 o4 =>
 bd (ret1 (binS tab .lss 3 x5 v4) o4) fun v5 o5 =>
 condS v5 (bd (ret1 (indexAddrS tab o5 36 x0 x5) o5) fun v6 o6 =>
 bd (ret1 (loadS tab o6 75 v6) o6) fun v7 o7 =>
 bd (callS ⟨tab, ownF, K⟩ o7 57 [v7, x1]) fun v8 o8 =>
 bd (ret1 (binS tab .lss 3 v8 (SV.v (.int .i64 0))) o8) fun v9 o9 =>
 condS v9 (retV tab nl o9 (resC1 (some (SV.v (.int .i64 (-1)))) (some [])))
 (bd (ret1 (binS tab .add 3 x5 (SV.v (.int .i64 1))) o9) fun v10 o10 =>
 L21_5 K N nl m5 x0 v8 v10 o10))
 (retV tab nl o5 (resC1 (some x1) (some [])))
noncomputable def X21 (K : Nat → List SV → List SO → Out) (N nl : Nat) (x0 x1 : SV) (os : List SO) : Out := exec (cx K) N nl fi21 c21 [(0, x0), (1, x1)] os (kEnd tab [] nl rs21)
noncomputable def B21 (K : Nat → List SV → List SO → Out) (N nl : Nat) (x0 x1 : SV) (os : List SO) : Out :=
 bd (lenO tab 36 os x0) fun v1 o1 =>
 bd (ret1 (binS tab .sub 3 x1 v1) o1) fun v2 o2 =>
 bd (ret1 (binS tab .lss 3 v2 (SV.v (.int .i64 0))) o2) fun v3 o3 =>
 condS v3 (retV tab nl o3 (resC1 (some (SV.v (.int .i64 (-1)))) (some [])))
 (L21_5 K N nl N x0 v2 (SV.v (.int .i64 0)) o3)
noncomputable def bk22_4 (K : Nat → List SV → List SO → Out) (N nl : Nat) (m4 : Nat) : Env → List SO → Out := fun env os => loopS nl (fi22.lp 4) (fun env os nx => exec (cx K) N nl fi22 (subC c22 [1, 1, 0, 1, 0, 0]) env os (kLoop nx (kBlock 0 (kSeq (exec (cx K) N nl fi22 (subC c22 [1, 1, 1])) (fi22.jn 16) (kEnd tab [] nl rs22))))) m4 (killS (fi22.lp 4).alive env) os
noncomputable def bk22_7 (K : Nat → List SV → List SO → Out) (N nl : Nat) (m4 : Nat) (m7 : Nat) : Env → List SO → Out := fun env os => loopS nl (fi22.lp 7) (fun env os nx => exec (cx K) N nl fi22 (subC c22 [1, 1, 0, 1, 0, 0, 1, 0, 0, 0, 1, 0, 0]) env os (kLoop nx (kBlock 2 (kSeq (exec (cx K) N nl fi22 (subC c22 [1, 1, 0, 1, 0, 0, 1, 0, 0, 1])) (fi22.jn 11) (kBlock 1 (kSeq (exec (cx K) N nl fi22 (subC c22 [1, 1, 0, 1, 0, 0, 1, 1])) (fi22.jn 5) (kLoop (bk22_4 K N nl m4) (kBlock 0 (kSeq (exec (cx K) N nl fi22 (subC c22 [1, 1, 1])) (fi22.jn 16) (kEnd tab [] nl rs22)))))))))) m7 (killS (fi22.lp 7).alive env) os
noncomputable def bk22_12 (K : Nat → List SV → List SO → Out) (N nl : Nat) (m4 : Nat) (m12 : Nat) : Env → List SO → Out := fun env os => loopS nl (fi22.lp 12) (fun env os nx => exec (cx K) N nl fi22 (subC c22 [1, 1, 0, 1, 0, 0, 1, 0, 0, 1, 1, 0, 0]) env os (kLoop nx (kBlock 4 (kBlock 1 (kSeq (exec (cx K) N nl fi22 (subC c22 [1, 1, 0, 1, 0, 0, 1, 1])) (fi22.jn 5) (kLoop (bk22_4 K N nl m4) (kBlock 0 (kSeq (exec (cx K) N nl fi22 (subC c22 [1, 1, 1])) (fi22.jn 16) (kEnd tab [] nl rs22))))))))) m12 (killS (fi22.lp 12).alive env) os
noncomputable def L22_4 (K : Nat → List SV → List SO → Out) (N nl : Nat) (m4 : Nat) (x0 x3 : SV) (os : List SO) : Out := loopS nl (fi22.lp 4) (fun env os nx => exec (cx K) N nl fi22 (subC c22 [1, 1, 0, 1, 0, 0]) env os (kLoop nx (kBlock 0 (kSeq (exec (cx K) N nl fi22 (subC c22 [1, 1, 1])) (fi22.jn 16) (kEnd tab [] nl rs22))))) m4 [(0, x0), (3, x3)] os
noncomputable def L22_7 (K : Nat → List SV → List SO → Out) (N nl : Nat) (m4 : Nat) (m7 : Nat) (x0 x3 x4 : SV) (os : List SO) : Out := loopS nl (fi22.lp 7) (fun env os nx => exec (cx K) N nl fi22 (subC c22 [1, 1, 0, 1, 0, 0, 1, 0, 0, 0, 1, 0, 0]) env os (kLoop nx (kBlock 2 (kSeq (exec (cx K) N nl fi22 (subC c22 [1, 1, 0, 1, 0, 0, 1, 0, 0, 1])) (fi22.jn 11) (kBlock 1 (kSeq (exec (cx K) N nl fi22 (subC c22 [1, 1, 0, 1, 0, 0, 1, 1])) (fi22.jn 5) (kLoop (bk22_4 K N nl m4) (kBlock 0 (kSeq (exec (cx K) N nl fi22 (subC c22 [1, 1, 1])) (fi22.jn 16) (kEnd tab [] nl rs22)))))))))) m7 [(0, x0), (3, x3), (4, x4)] os
noncomputable def L22_12 (K : Nat → List SV → List SO → Out) (N nl : Nat) (m4 : Nat) (m12 : Nat) (x0 x3 x5 : SV) (os : List SO) : Out := loopS nl (fi22.lp 12) (fun env os nx => exec (cx K) N nl fi22 (subC c22 [1, 1, 0, 1, 0, 0, 1, 0, 0, 1, 1, 0, 0]) env os (kLoop nx (kBlock 4 (kBlock 1 (kSeq (exec (cx K) N nl fi22 (subC c22 [1, 1, 0, 1, 0, 0, 1, 1])) (fi22.jn 5) (kLoop (bk22_4 K N nl m4) (kBlock 0 (kSeq (exec (cx K) N nl fi22 (subC c22 [1, 1, 1])) (fi22.jn 16) (kEnd tab [] nl rs22))))))))) m12 [(0, x0), (3, x3), (5, x5)] os
noncomputable def LB22_4 (K : Nat → List SV → List SO → Out) (N nl : Nat) (m4 : Nat) (x0 x3 : SV) (os : List SO) : Out :=
 bd (lenO tab 23 os x0) fun v7 o7 =>
 bd (ret1 (binS tab .lss 3 x3 v7) o7) fun v8 o8 =>
 condS v8 (L22_7 K N nl m4 N x0 x3 (SV.v (.int .i64 0)) o8)
 (retV tab nl o8 (resC1 (some (SV.v (.bool true))) (some [])))
noncomputable def LB22_7 (K : Nat → List SV → List SO → Out) (N nl : Nat) (m4 : Nat) (m7 : Nat) (x0 x3 x4 : SV) (os : List SO) : Out :=
 bd (ret1 (indexAddrS tab os 23 x0 x3) os) fun v9 o9 =>
 bd (ret1 (fieldAddrS tab 29 v9 3) o9) fun v10 o10 =>
 bd (ret1 (loadS tab o10 27 v10) o10) fun v11 o11 =>
 bd (lenO tab 27 o11 v11) fun v12 o12 =>
 bd (ret1 (binS tab .lss 3 x4 v12) o12) fun v13 o13 =>
 condS v13 (bd (ret1 (indexAddrS tab o13 23 x0 x3) o13) fun v14 o14 =>
 bd (ret1 (fieldAddrS tab 29 v14 3) o14) fun v15 o15 =>
 bd (ret1 (loadS tab o15 27 v15) o15) fun v16 o16 =>
 bd (ret1 (indexAddrS tab o16 27 v16 x4) o16) fun v17 o17 =>
 bd (ret1 (loadS tab o17 43 v17) o17) fun v18 o18 =>
 bd (callS ⟨tab, ownF, K⟩ o18 59 [x0, v18]) fun v19 o19 =>
 bd (ret1 (unS .not v19) o19) fun v20 o20 =>
 condS v20 (retV tab nl o20 (resC1 (some (SV.v (.bool false))) (some [])))
 (bd (ret1 (binS tab .add 3 x4 (SV.v (.int .i64 1))) o20) fun v21 o21 =>
 L22_7 K N nl m4 m7 x0 x3 v21 o21))
 (L22_12 K N nl m4 N x0 x3 (SV.v (.int .i64 0)) o13)
noncomputable def LB22_12 (K : Nat → List SV → List SO → Out) (N nl : Nat) (m4 : Nat) (m12 : Nat) (x0 x3 x5 : SV) (os : List SO) : Out :=
 bd (ret1 (indexAddrS tab os 23 x0 x3) os) fun v22 o22 =>
 bd (ret1 (fieldAddrS tab 29 v22 2) o22) fun v23 o23 =>
 bd (ret1 (loadS tab o23 26 v23) o23) fun v24 o24 =>
 bd (lenO tab 26 o24 v24) fun v25 o25 =>
 bd (ret1 (binS tab .lss 3 x5 v25) o25) fun v26 o26 =>
 condS v26 (bd (ret1 (indexAddrS tab o26 23 x0 x3) o26) fun v27 o27 =>
 bd (ret1 (fieldAddrS tab 29 v27 2) o27) fun v28 o28 =>
 bd (ret1 (loadS tab o28 26 v28) o28) fun v29 o29 =>
 bd (ret1 (indexAddrS tab o29 26 v29 x5) o29) fun v30 o30 =>
 bd (ret1 (fieldAddrS tab 47 v30 0) o30) fun v31 o31 =>
 bd (ret1 (loadS tab o31 3 v31) o31) fun v32 o32 =>
 bd (callS ⟨tab, ownF, K⟩ o32 60 [x0, x3, v32]) fun v33 o33 =>
 bd (ret1 (binS tab .geq 3 v33 (SV.v (.int .i64 0))) o33) fun v34 o34 =>
 condS v34 (retV tab nl o34 (resC1 (some (SV.v (.bool false))) (some [])))
 (bd (ret1 (binS tab .add 3 x5 (SV.v (.int .i64 1))) o34) fun v35 o35 =>
 L22_12 K N nl m4 m12 x0 x3 v35 o35))
 (bd (ret1 (binS tab .add 3 x3 (SV.v (.int .i64 1))) o26) fun v36 o36 =>
 L22_4 K N nl m4 x0 v36 o36)
noncomputable def X22 (K : Nat → List SV → List SO → Out) (N nl : Nat) (x0 : SV) (os : List SO) : Out := exec (cx K) N nl fi22 c22 [(0, x0)] os (kEnd tab [] nl rs22)
noncomputable def B22 (K : Nat → List SV → List SO → Out) (N nl : Nat) (x0 : SV) (os : List SO) : Out :=
 bd (callS ⟨tab, ownF, K⟩ os 19 [x0]) fun v1 o1 =>
 bd (ret1 (unS .not v1) o1) fun v2 o2 =>
 bd (gd v2 false (some (x0, o2)) o2) fun v3 o3 =>
 bd (gd v2 false (callS ⟨tab, ownF, K⟩ o3 58 [v3]) o3) fun v4 o4 =>
 bd (gd v2 false (ret1 (unS .not v4) o4) o4) fun v5 o5 =>
 bd (ret1 (pickS v2 (SV.v (.bool true)) v5) o5) fun v6 o6 =>
 condS v6 (retV tab nl o6 (resC1 (some (SV.v (.bool false))) (some [])))
 (L22_4 K N nl N x0 (SV.v (.int .i64 0)) o6)
noncomputable def bk23_3 (K : Nat → List SV → List SO → Out) (N nl : Nat) (m3 : Nat) : Env → List SO → Out := fun env os => loopS nl (fi23.lp 3) (fun env os nx => exec (cx K) N nl fi23 (subC c23 [1, 1, 0, 1, 0, 0]) env os (kLoop nx (kBlock 0 (kSeq (exec (cx K) N nl fi23 (subC c23 [1, 1, 1])) (fi23.jn 6) (kEnd tab [] nl rs23))))) m3 (killS (fi23.lp 3).alive env) os
noncomputable def L23_3 (K : Nat → List SV → List SO → Out) (N nl : Nat) (m3 : Nat) (x0 x3 x4 : SV) (os : List SO) : Out := loopS nl (fi23.lp 3) (fun env os nx => exec (cx K) N nl fi23 (subC c23 [1, 1, 0, 1, 0, 0]) env os (kLoop nx (kBlock 0 (kSeq (exec (cx K) N nl fi23 (subC c23 [1, 1, 1])) (fi23.jn 6) (kEnd tab [] nl rs23))))) m3 [(0, x0), (3, x3), (4, x4)] os
noncomputable def G23_3 (K : Nat → List SV → List SO → Out) (N nl : Nat) (m3 : Nat) (xs : List SV) (os : List SO) : Out := (fun env os nx => exec (cx K) N nl fi23 (subC c23 [1, 1, 0, 1, 0, 0]) env os (kLoop nx (kBlock 0 (kSeq (exec (cx K) N nl fi23 (subC c23 [1, 1, 1])) (fi23.jn 6) (kEnd tab [] nl rs23))))) (zipE [0, 3, 4] xs) os (bk23_3 K N nl m3)
noncomputable def GB23_3 (K : Nat → List SV → List SO → Out) (N nl : Nat) (m3 : Nat) (x0 x3 x4 : SV) (os : List SO) : Out :=
 bd (lenO tab 36 os x0) fun v4 o4 =>
 bd (ret1 (binS tab .lss 3 x4 v4) o4) fun v5 o5 =>
 condS v5 (bd (ret1 (indexAddrS tab o5 36 x0 x4) o5) fun v6 o6 =>
 bd (ret1 (loadS tab o6 75 v6) o6) fun v7 o7 =>
 bd (callS ⟨tab, ownF, K⟩ o7 61 [v7]) fun v8 o8 =>
 bd (ret1 (indexAddrS tab o8 23 x3 x4) o8) fun v9 o9 =>
 bd (storeO tab o9 29 v9 (some v8)) fun v10 o10 =>
 bd (ret1 (binS tab .add 3 x4 (SV.v (.int .i64 1))) o10) fun v11 o11 =>
 L23_3 K N nl m3 x0 x3 v11 o11)
 (retV tab nl o5 (resC1 (some x3) (some [])))
noncomputable def X23 (K : Nat → List SV → List SO → Out) (N nl : Nat) (x0 : SV) (os : List SO) : Out := exec (cx K) N nl fi23 c23 [(0, x0)] os (kEnd tab [] nl rs23)
noncomputable def B23 (K : Nat → List SV → List SO → Out) (N nl : Nat) (x0 : SV) (os : List SO) : Out :=
 bd (evN tab 23 os none) fun v1 o1 =>
 bd (lenO tab 36 o1 x0) fun v2 o2 =>
 bd (makeS tab o2 23 v2 v2) fun v3 o3 =>
 L23_3 K N nl N x0 v3 (SV.v (.int .i64 0)) o3
noncomputable def bk24_5 (K : Nat → List SV → List SO → Out) (N nl : Nat) (m5 : Nat) : Env → List SO → Out := fun env os => loopS nl (fi24.lp 5) (fun env os nx => exec (cx K) N nl fi24 (subC c24 [1, 1, 1, 0, 1, 0, 0]) env os (kLoop nx (kBlock 0 (kSeq (exec (cx K) N nl fi24 (subC c24 [1, 1, 1, 1])) (fi24.jn 17) (kEnd tab [] nl rs24))))) m5 (killS (fi24.lp 5).alive env) os
noncomputable def bk24_10 (K : Nat → List SV → List SO → Out) (N nl : Nat) (m5 : Nat) (m10 : Nat) : Env → List SO → Out := fun env os => loopS nl (fi24.lp 10) (fun env os nx => exec (cx K) N nl fi24 (subC c24 [1, 1, 1, 0, 1, 0, 0, 1, 1, 0, 0, 1, 1, 1, 0, 0]) env os (kLoop nx (kBlock 2 (kBlock 1 (kSeq (exec (cx K) N nl fi24 (subC c24 [1, 1, 1, 0, 1, 0, 0, 1, 1, 1])) (fi24.jn 16) (kLoop (bk24_5 K N nl m5) (kBlock 0 (kSeq (exec (cx K) N nl fi24 (subC c24 [1, 1, 1, 1])) (fi24.jn 17) (kEnd tab [] nl rs24))))))))) m10 (killS (fi24.lp 10).alive env) os
noncomputable def L24_5 (K : Nat → List SV → List SO → Out) (N nl : Nat) (m5 : Nat) (x1 x3 x11 x12 x13 : SV) (os : List SO) : Out := loopS nl (fi24.lp 5) (fun env os nx => exec (cx K) N nl fi24 (subC c24 [1, 1, 1, 0, 1, 0, 0]) env os (kLoop nx (kBlock 0 (kSeq (exec (cx K) N nl fi24 (subC c24 [1, 1, 1, 1])) (fi24.jn 17) (kEnd tab [] nl rs24))))) m5 [(1, x1), (3, x3), (11, x11), (12, x12), (13, x13)] os
noncomputable def G24_5 (K : Nat → List SV → List SO → Out) (N nl : Nat) (m5 : Nat) (xs : List SV) (os : List SO) : Out := (fun env os nx => exec (cx K) N nl fi24 (subC c24 [1, 1, 1, 0, 1, 0, 0]) env os (kLoop nx (kBlock 0 (kSeq (exec (cx K) N nl fi24 (subC c24 [1, 1, 1, 1])) (fi24.jn 17) (kEnd tab [] nl rs24))))) (zipE [1, 3, 11, 12, 13] xs) os (bk24_5 K N nl m5)
noncomputable def L24_10 (K : Nat → List SV → List SO → Out) (N nl : Nat) (m5 : Nat) (m10 : Nat) (x1 x3 x11 x12 x13 x38 x39 x40 : SV) (os : List SO) : Out := loopS nl (fi24.lp 10) (fun env os nx => exec (cx K) N nl fi24 (subC c24 [1, 1, 1, 0, 1, 0, 0, 1, 1, 0, 0, 1, 1, 1, 0, 0]) env os (kLoop nx (kBlock 2 (kBlock 1 (kSeq (exec (cx K) N nl fi24 (subC c24 [1, 1, 1, 0, 1, 0, 0, 1, 1, 1])) (fi24.jn 16) (kLoop (bk24_5 K N nl m5) (kBlock 0 (kSeq (exec (cx K) N nl fi24 (subC c24 [1, 1, 1, 1])) (fi24.jn 17) (kEnd tab [] nl rs24))))))))) m10 [(1, x1), (3, x3), (11, x11), (12, x12), (13, x13), (38, x38), (39, x39), (40, x40)] os
noncomputable def G24_10 (K : Nat → List SV → List SO → Out) (N nl : Nat) (m5 : Nat) (m10 : Nat) (xs : List SV) (os : List SO) : Out := (fun env os nx => exec (cx K) N nl fi24 (subC c24 [1, 1, 1, 0, 1, 0, 0, 1, 1, 0, 0, 1, 1, 1, 0, 0]) env os (kLoop nx (kBlock 2 (kBlock 1 (kSeq (exec (cx K) N nl fi24 (subC c24 [1, 1, 1, 0, 1, 0, 0, 1, 1, 1])) (fi24.jn 16) (kLoop (bk24_5 K N nl m5) (kBlock 0 (kSeq (exec (cx K) N nl fi24 (subC c24 [1, 1, 1, 1])) (fi24.jn 17) (kEnd tab [] nl rs24))))))))) (zipE [1, 3, 11, 12, 13, 38, 39, 40] xs) os (bk24_10 K N nl m5 m10)
noncomputable def GB24_5 (K : Nat → List SV → List SO → Out) (N nl : Nat) (m5 : Nat) (x1 x3 x11 x12 x13 : SV) (os : List SO) : Out :=
 bd (ret1 (binS tab .lss 3 x13 x12) os) fun v8 o8 =>
 condS v8 (bd (ret1 (indexAddrS tab o8 23 x11 x13) o8) fun v9 o9 =>
 bd (ret1 (loadS tab o9 29 v9) o9) fun v10 o10 =>
 bd (allocS tab o10 29) fun v11 o11 =>
 bd (storeO tab o11 29 v11 (some v10)) fun v12 o12 =>
 bd (ret1 (binS tab .gtr 3 x13 (SV.v (.int .i64 0))) o12) fun v13 o13 =>
 bd (gd v13 true (ret1 (loadS tab o13 23 x1) o13) o13) fun v14 o14 =>
 bd (gd v13 true (some (x13, o14)) o14) fun v15 o15 =>
 bd (gd v13 true (ret1 (binS tab .sub 3 v15 (SV.v (.int .i64 1))) o15) o15) fun v16 o16 =>
 bd (gd v13 true (ret1 (indexAddrS tab o16 23 v14 v16) o16) o16) fun v17 o17 =>
 bd (gd v13 true (ret1 (fieldAddrS tab 29 v17 0) o17) o17) fun v18 o18 =>
 bd (gd v13 true (ret1 (loadS tab o18 3 v18) o18) o18) fun v19 o19 =>
 bd (gd v13 true (ret1 (fieldAddrS tab 29 v11 0) o19) o19) fun v20 o20 =>
 bd (gd v13 true (ret1 (loadS tab o20 3 v20) o20) o20) fun v21 o21 =>
 bd (gd v13 true (ret1 (binS tab .eql 3 v19 v21) o21) o21) fun v22 o22 =>
 bd (ret1 (pickS v13 v22 (SV.v (.bool false))) o22) fun v23 o23 =>
 bd (gd v23 false (ret1 (fieldAddrS tab 29 v11 3) o23) o23) fun v24 o24 =>
 bd (gd v23 false (ret1 (loadS tab o24 27 v24) o24) o24) fun v25 o25 =>
 bd (gd v23 false (some ((SV.fn 63 [x1]), o25)) o25) fun v26 o26 =>
 bd (gd v23 false (callS ⟨tab, ownF, K⟩ o26 62 [v25, v26]) o26) fun v27 o27 =>
 bd (ret1 (pickS v23 (SV.v (.bool true)) v27) o27) fun v28 o28 =>
 condS v28 (retV tab nl o28 (resC1 (some (SV.v (.bool false))) (some [])))
 (bd (ret1 (fieldAddrS tab 29 v11 2) o28) fun v29 o29 =>
 bd (ret1 (loadS tab o29 26 v29) o29) fun v30 o30 =>
 bd (lenO tab 26 o30 v30) fun v31 o31 =>
 L24_10 K N nl m5 N x1 x3 x11 x12 x13 v30 v31 (SV.v (.int .i64 0)) o31))
 (retV tab nl o8 (resC1 (some (SV.v (.bool true))) (some [])))
noncomputable def GB24_10 (K : Nat → List SV → List SO → Out) (N nl : Nat) (m5 : Nat) (m10 : Nat) (x1 x3 x11 x12 x13 x38 x39 x40 : SV) (os : List SO) : Out :=
 bd (ret1 (binS tab .lss 3 x40 x39) os) fun v32 o32 =>
 condS v32 (bd (ret1 (indexAddrS tab o32 26 x38 x40) o32) fun v33 o33 =>
 bd (ret1 (loadS tab o33 47 v33) o33) fun v34 o34 =>
 bd (allocS tab o34 47) fun v35 o35 =>
 bd (storeO tab o35 47 v35 (some v34)) fun v36 o36 =>
 bd (ret1 (fieldAddrS tab 47 v35 0) o36) fun v37 o37 =>
 bd (ret1 (loadS tab o37 3 v37) o37) fun v38 o38 =>
 bd (ret1 (indexAddrS tab o38 79 x3 v38) o38) fun v39 o39 =>
 bd (ret1 (loadS tab o39 4 v39) o39) fun v40 o40 =>
 condS v40 (retV tab nl o40 (resC1 (some (SV.v (.bool false))) (some [])))
 (bd (ret1 (fieldAddrS tab 47 v35 0) o40) fun v41 o41 =>
 bd (ret1 (loadS tab o41 3 v41) o41) fun v42 o42 =>
 bd (ret1 (indexAddrS tab o42 79 x3 v42) o42) fun v43 o43 =>
 bd (storeO tab o43 4 v43 (some (SV.v (.bool true)))) fun v44 o44 =>
 bd (ret1 (binS tab .add 3 x40 (SV.v (.int .i64 1))) o44) fun v45 o45 =>
 L24_10 K N nl m5 m10 x1 x3 x11 x12 x13 x38 x39 v45 o45))
 (bd (ret1 (binS tab .add 3 x13 (SV.v (.int .i64 1))) o32) fun v46 o46 =>
 L24_5 K N nl m5 x1 x3 x11 x12 v46 o46)
noncomputable def X24 (K : Nat → List SV → List SO → Out) (N nl : Nat) (x0 : SV) (os : List SO) : Out := exec (cx K) N nl fi24 c24 [(0, x0)] os (kEnd tab [] nl rs24)
noncomputable def B24 (K : Nat → List SV → List SO → Out) (N nl : Nat) (x0 : SV) (os : List SO) : Out :=
 bd (boxS tab os 23 (some x0)) fun v1 o1 =>
 bd (ret1 (loadS tab o1 23 v1) o1) fun v2 o2 =>
 bd (callS ⟨tab, ownF, K⟩ o2 53 [v2]) fun v3 o3 =>
 bd (ret1 (unS .not v3) o3) fun v4 o4 =>
 condS v4 (retV tab nl o4 (resC1 (some (SV.v (.bool false))) (some [])))
 (bd (allocS tab o4 79) fun v5 o5 =>
 bd (ret1 (loadS tab o5 23 v1) o5) fun v6 o6 =>
 bd (lenO tab 23 o6 v6) fun v7 o7 =>
 L24_5 K N nl N v1 v5 v6 v7 (SV.v (.int .i64 0)) o7)
noncomputable def bk25_4 (K : Nat → List SV → List SO → Out) (N nl : Nat) (m4 : Nat) : Env → List SO → Out := fun env os => loopS nl (fi25.lp 4) (fun env os nx => exec (cx K) N nl fi25 (subC c25 [1, 1, 0, 1, 0, 0]) env os (kLoop nx (kBlock 0 (kSeq (exec (cx K) N nl fi25 (subC c25 [1, 1, 1])) (fi25.jn 8) (kEnd tab [] nl rs25))))) m4 (killS (fi25.lp 4).alive env) os
noncomputable def L25_4 (K : Nat → List SV → List SO → Out) (N nl : Nat) (m4 : Nat) (x0 x1 x5 : SV) (os : List SO) : Out := loopS nl (fi25.lp 4) (fun env os nx => exec (cx K) N nl fi25 (subC c25 [1, 1, 0, 1, 0, 0]) env os (kLoop nx (kBlock 0 (kSeq (exec (cx K) N nl fi25 (subC c25 [1, 1, 1])) (fi25.jn 8) (kEnd tab [] nl rs25))))) m4 [(0, x0), (1, x1), (5, x5)] os
noncomputable def LB25_4 (K : Nat → List SV → List SO → Out) (N nl : Nat) (m4 : Nat) (x0 x1 x5 : SV) (os : List SO) : Out :=
 bd (lenO tab 23 os x0) fun v4 o4 =>
 bd (ret1 (binS tab .lss 3 x5 v4) o4) fun v5 o5 =>
 condS v5 (bd (ret1 (indexAddrS tab o5 23 x0 x5) o5) fun v6 o6 =>
 bd (ret1 (loadS tab o6 29 v6) o6) fun v7 o7 =>
 bd (ret1 (indexAddrS tab o7 23 x1 x5) o7) fun v8 o8 =>
 bd (ret1 (loadS tab o8 29 v8) o8) fun v9 o9 =>
 bd (callS ⟨tab, ownF, K⟩ o9 27 [v7, v9]) fun v10 o10 =>
 bd (ret1 (unS .not v10) o10) fun v11 o11 =>
 condS v11 (retV tab nl o11 (resC1 (some (SV.v (.bool false))) (some [])))
 (bd (ret1 (binS tab .add 3 x5 (SV.v (.int .i64 1))) o11) fun v12 o12 =>
 L25_4 K N nl m4 x0 x1 v12 o12))
 (retV tab nl o5 (resC1 (some (SV.v (.bool true))) (some [])))
noncomputable def X25 (K : Nat → List SV → List SO → Out) (N nl : Nat) (x0 x1 : SV) (os : List SO) : Out := exec (cx K) N nl fi25 c25 [(0, x0), (1, x1)] os (kEnd tab [] nl rs25)
noncomputable def B25 (K : Nat → List SV → List SO → Out) (N nl : Nat) (x0 x1 : SV) (os : List SO) : Out :=
 bd (lenO tab 23 os x0) fun v1 o1 =>
 bd (lenO tab 23 o1 x1) fun v2 o2 =>
 bd (ret1 (binS tab .neq 3 v1 v2) o2) fun v3 o3 =>
 condS v3 (retV tab nl o3 (resC1 (some (SV.v (.bool false))) (some [])))
 (L25_4 K N nl N x0 x1 (SV.v (.int .i64 0)) o3)
noncomputable def bk26_4 (K : Nat → List SV → List SO → Out) (N nl : Nat) (m4 : Nat) : Env → List SO → Out := fun env os => loopS nl (fi26.lp 4) (fun env os nx => exec (cx K) N nl fi26 (subC c26 [1, 1, 1, 0, 1, 0, 0]) env os (kLoop nx (kBlock 0 (kSeq (exec (cx K) N nl fi26 (subC c26 [1, 1, 1, 1])) (fi26.jn 7) (kEnd tab [] nl rs26))))) m4 (killS (fi26.lp 4).alive env) os
noncomputable def X27 (K : Nat → List SV → List SO → Out) (N nl : Nat) (x0 x1 : SV) (os : List SO) : Out := exec (cx K) N nl fi27 c27 [(0, x0), (1, x1)] os (kEnd tab [] nl rs27)
noncomputable def B27 (K : Nat → List SV → List SO → Out) (N nl : Nat) (x0 x1 : SV) (os : List SO) : Out :=
 bd (boxS tab os 29 (some x0)) fun v1 o1 =>
 bd (boxS tab o1 29 (some x1)) fun v2 o2 =>
 bd (ret1 (fieldAddrS tab 29 v1 0) o2) fun v3 o3 =>
 bd (ret1 (loadS tab o3 3 v3) o3) fun v4 o4 =>
 bd (ret1 (fieldAddrS tab 29 v2 0) o4) fun v5 o5 =>
 bd (ret1 (loadS tab o5 3 v5) o5) fun v6 o6 =>
 bd (ret1 (binS tab .neq 3 v4 v6) o6) fun v7 o7 =>
 condS v7 (retV tab nl o7 (resC1 (some (SV.v (.bool false))) (some [])))
 (bd (ret1 (fieldAddrS tab 29 v1 1) o7) fun v8 o8 =>
 bd (ret1 (loadS tab o8 3 v8) o8) fun v9 o9 =>
 bd (ret1 (fieldAddrS tab 29 v2 1) o9) fun v10 o10 =>
 bd (ret1 (loadS tab o10 3 v10) o10) fun v11 o11 =>
 bd (ret1 (binS tab .neq 3 v9 v11) o11) fun v12 o12 =>
 condS v12 (retV tab nl o12 (resC1 (some (SV.v (.bool false))) (some [])))
 (bd (ret1 (fieldAddrS tab 29 v1 2) o12) fun v13 o13 =>
 bd (ret1 (loadS tab o13 26 v13) o13) fun v14 o14 =>
 bd (ret1 (fieldAddrS tab 29 v2 2) o14) fun v15 o15 =>
 bd (ret1 (loadS tab o15 26 v15) o15) fun v16 o16 =>
 bd (callS ⟨tab, ownF, K⟩ o16 67 [v14, v16]) fun v17 o17 =>
 bd (ret1 (unS .not v17) o17) fun v18 o18 =>
 condS v18 (retV tab nl o18 (resC1 (some (SV.v (.bool false))) (some [])))
 (bd (ret1 (fieldAddrS tab 29 v1 3) o18) fun v19 o19 =>
 bd (ret1 (loadS tab o19 27 v19) o19) fun v20 o20 =>
 bd (ret1 (fieldAddrS tab 29 v2 3) o20) fun v21 o21 =>
 bd (ret1 (loadS tab o21 27 v21) o21) fun v22 o22 =>
 bd (callS ⟨tab, ownF, K⟩ o22 68 [v20, v22]) fun v23 o23 =>
 bd (ret1 (unS .not v23) o23) fun v24 o24 =>
 condS v24 (retV tab nl o24 (resC1 (some (SV.v (.bool false))) (some [])))
 (retV tab nl o24 (resC1 (some (SV.v (.bool true))) (some []))))))
noncomputable def bk28_2 (K : Nat → List SV → List SO → Out) (N nl : Nat) (m2 : Nat) : Env → List SO → Out := fun env os => loopS nl (fi28.lp 2) (fun env os nx => exec (cx K) N nl fi28 (subC c28 [1, 0, 1, 0, 0]) env os (kLoop nx (kBlock 0 (kSeq (exec (cx K) N nl fi28 (subC c28 [1, 1])) (fi28.jn 10) (kEnd tab [] nl rs28))))) m2 (killS (fi28.lp 2).alive env) os
noncomputable def L28_2 (K : Nat → List SV → List SO → Out) (N nl : Nat) (m2 : Nat) (x0 x1 x5 : SV) (os : List SO) : Out := loopS nl (fi28.lp 2) (fun env os nx => exec (cx K) N nl fi28 (subC c28 [1, 0, 1, 0, 0]) env os (kLoop nx (kBlock 0 (kSeq (exec (cx K) N nl fi28 (subC c28 [1, 1])) (fi28.jn 10) (kEnd tab [] nl rs28))))) m2 [(0, x0), (1, x1), (5, x5)] os
noncomputable def LB28_2 (K : Nat → List SV → List SO → Out) (N nl : Nat) (m2 : Nat) (x0 x1 x5 : SV) (os : List SO) : Out :=
 bd (lenO tab 23 os x0) fun v1 o1 =>
 bd (ret1 (binS tab .lss 3 x5 v1) o1) fun v2 o2 =>
 condS v2 (bd (ret1 (indexAddrS tab o2 23 x0 x5) o2) fun v3 o3 =>
 bd (ret1 (fieldAddrS tab 29 v3 0) o3) fun v4 o4 =>
 bd (storeO tab o4 3 v4 (some x1)) fun v5 o5 =>
 bd (ret1 (binS tab .add 3 x1 (SV.v (.int .i64 1))) o5) fun v6 o6 =>
 bd (ret1 (indexAddrS tab o6 23 x0 x5) o6) fun v7 o7 =>
 bd (ret1 (fieldAddrS tab 29 v7 1) o7) fun v8 o8 =>
 bd (storeO tab o8 3 v8 (some v6)) fun v9 o9 =>
 bd (ret1 (binS tab .add 3 v6 (SV.v (.int .i64 1))) o9) fun v10 o10 =>
 bd (ret1 (indexAddrS tab o10 23 x0 x5) o10) fun v11 o11 =>
 bd (ret1 (fieldAddrS tab 29 v11 2) o11) fun v12 o12 =>
 bd (ret1 (loadS tab o12 26 v12) o12) fun v13 o13 =>
 bd (callS ⟨tab, ownF, K⟩ o13 69 [v13, v10]) fun v14 o14 =>
 bd (ret1 (indexAddrS tab o14 23 x0 x5) o14) fun v15 o15 =>
 bd (ret1 (fieldAddrS tab 29 v15 3) o15) fun v16 o16 =>
 bd (ret1 (loadS tab o16 27 v16) o16) fun v17 o17 =>
 bd (callS ⟨tab, ownF, K⟩ o17 70 [v17, v14]) fun v18 o18 =>
 bd (ret1 (binS tab .add 3 x5 (SV.v (.int .i64 1))) o18) fun v19 o19 =>
 L28_2 K N nl m2 x0 v18 v19 o19)
 (retV tab nl o2 (resC1 (some x1) (some [])))
noncomputable def X28 (K : Nat → List SV → List SO → Out) (N nl : Nat) (x0 x1 : SV) (os : List SO) : Out := exec (cx K) N nl fi28 c28 [(0, x0), (1, x1)] os (kEnd tab [] nl rs28)
noncomputable def B28 (K : Nat → List SV → List SO → Out) (N nl : Nat) (x0 x1 : SV) (os : List SO) : Out :=
 L28_2 K N nl N x0 x1 (SV.v (.int .i64 0)) os
noncomputable def X29 (K : Nat → List SV → List SO → Out) (N nl : Nat) (x0 x1 : SV) (os : List SO) : Out := exec (cx K) N nl fi29 c29 [(0, x0), (1, x1)] os (kEnd tab [] nl rs29)
noncomputable def B29 (K : Nat → List SV → List SO → Out) (N nl : Nat) (x0 x1 : SV) (os : List SO) : Out :=
 bd (boxS tab os 29 (some x0)) fun v1 o1 =>
 bd (ret1 (fieldAddrS tab 29 v1 2) o1) fun v2 o2 =>
 bd (ret1 (loadS tab o2 26 v2) o2) fun v3 o3 =>
 bd (callS ⟨tab, ownF, K⟩ o3 69 [v3, x1]) fun v4 o4 =>
 bd (ret1 (fieldAddrS tab 29 v1 3) o4) fun v5 o5 =>
 bd (ret1 (loadS tab o5 27 v5) o5) fun v6 o6 =>
 bd (callS ⟨tab, ownF, K⟩ o6 70 [v6, v4]) fun v7 o7 =>
 retV tab nl o7 (resC1 (some v7) (some []))
noncomputable def X30 (K : Nat → List SV → List SO → Out) (N nl : Nat) (x0 x1 : SV) (os : List SO) : Out := exec (cx K) N nl fi30 c30 [(0, x0), (1, x1)] os (kEnd tab [] nl rs30)
noncomputable def B30 (K : Nat → List SV → List SO → Out) (N nl : Nat) (x0 x1 : SV) (os : List SO) : Out :=
 bd (boxS tab os 29 (some x0)) fun v1 o1 =>
 bd (ret1 (fieldAddrS tab 29 v1 2) o1) fun v2 o2 =>
 bd (ret1 (loadS tab o2 26 v2) o2) fun v3 o3 =>
 bd (callS ⟨tab, ownF, K⟩ o3 71 [v3, x1]) fun v4 o4 =>
 bd (ret1 (binS tab .lss 3 v4 (SV.v (.int .i64 0))) o4) fun v5 o5 =>
 condS v5 (retV tab nl o5 (resC1 (some (SV.v (.int .i64 (-1)))) (some [])))
 (bd (ret1 (fieldAddrS tab 29 v1 3) o5) fun v6 o6 =>
 bd (ret1 (loadS tab o6 27 v6) o6) fun v7 o7 =>
 bd (callS ⟨tab, ownF, K⟩ o7 72 [v7, v4]) fun v8 o8 =>
 bd (ret1 (binS tab .lss 3 v8 (SV.v (.int .i64 0))) o8) fun v9 o9 =>
 condS v9 (retV tab nl o9 (resC1 (some (SV.v (.int .i64 (-1)))) (some [])))
 (retV tab nl o9 (resC1 (some v8) (some []))))
noncomputable def bk32_5 (K : Nat → List SV → List SO → Out) (N nl : Nat) (m5 : Nat) : Env → List SO → Out := fun env os => loopS nl (fi32.lp 5) (fun env os nx => exec (cx K) N nl fi32 (subC c32 [1, 1, 1, 0, 1, 0, 0]) env os (kLoop nx (kBlock 0 (kSeq (exec (cx K) N nl fi32 (subC c32 [1, 1, 1, 1])) (fi32.jn 13) (kEnd tab [] nl rs32))))) m5 (killS (fi32.lp 5).alive env) os
noncomputable def bk32_8 (K : Nat → List SV → List SO → Out) (N nl : Nat) (m5 : Nat) (m8 : Nat) : Env → List SO → Out := fun env os => loopS nl (fi32.lp 8) (fun env os nx => exec (cx K) N nl fi32 (subC c32 [1, 1, 1, 0, 1, 0, 0, 1, 1, 0, 0, 1, 1, 0, 0]) env os (kLoop nx (kBlock 2 (kBlock 1 (kSeq (exec (cx K) N nl fi32 (subC c32 [1, 1, 1, 0, 1, 0, 0, 1, 1, 1])) (fi32.jn 12) (kLoop (bk32_5 K N nl m5) (kBlock 0 (kSeq (exec (cx K) N nl fi32 (subC c32 [1, 1, 1, 1])) (fi32.jn 13) (kEnd tab [] nl rs32))))))))) m8 (killS (fi32.lp 8).alive env) os
noncomputable def L32_5 (K : Nat → List SV → List SO → Out) (N nl : Nat) (m5 : Nat) (x3 x13 x14 x15 : SV) (os : List SO) : Out := loopS nl (fi32.lp 5) (fun env os nx => exec (cx K) N nl fi32 (subC c32 [1, 1, 1, 0, 1, 0, 0]) env os (kLoop nx (kBlock 0 (kSeq (exec (cx K) N nl fi32 (subC c32 [1, 1, 1, 1])) (fi32.jn 13) (kEnd tab [] nl rs32))))) m5 [(3, x3), (13, x13), (14, x14), (15, x15)] os
noncomputable def G32_5 (K : Nat → List SV → List SO → Out) (N nl : Nat) (m5 : Nat) (xs : List SV) (os : List SO) : Out := (fun env os nx => exec (cx K) N nl fi32 (subC c32 [1, 1, 1, 0, 1, 0, 0]) env os (kLoop nx (kBlock 0 (kSeq (exec (cx K) N nl fi32 (subC c32 [1, 1, 1, 1])) (fi32.jn 13) (kEnd tab [] nl rs32))))) (zipE [3, 13, 14, 15] xs) os (bk32_5 K N nl m5)
noncomputable def L32_8 (K : Nat → List SV → List SO → Out) (N nl : Nat) (m5 : Nat) (m8 : Nat) (x3 x13 x14 x15 x20 x21 x22 : SV) (os : List SO) : Out := loopS nl (fi32.lp 8) (fun env os nx => exec (cx K) N nl fi32 (subC c32 [1, 1, 1, 0, 1, 0, 0, 1, 1, 0, 0, 1, 1, 0, 0]) env os (kLoop nx (kBlock 2 (kBlock 1 (kSeq (exec (cx K) N nl fi32 (subC c32 [1, 1, 1, 0, 1, 0, 0, 1, 1, 1])) (fi32.jn 12) (kLoop (bk32_5 K N nl m5) (kBlock 0 (kSeq (exec (cx K) N nl fi32 (subC c32 [1, 1, 1, 1])) (fi32.jn 13) (kEnd tab [] nl rs32))))))))) m8 [(3, x3), (13, x13), (14, x14), (15, x15), (20, x20), (21, x21), (22, x22)] os
noncomputable def G32_8 (K : Nat → List SV → List SO → Out) (N nl : Nat) (m5 : Nat) (m8 : Nat) (xs : List SV) (os : List SO) : Out := (fun env os nx => exec (cx K) N nl fi32 (subC c32 [1, 1, 1, 0, 1, 0, 0, 1, 1, 0, 0, 1, 1, 0, 0]) env os (kLoop nx (kBlock 2 (kBlock 1 (kSeq (exec (cx K) N nl fi32 (subC c32 [1, 1, 1, 0, 1, 0, 0, 1, 1, 1])) (fi32.jn 12) (kLoop (bk32_5 K N nl m5) (kBlock 0 (kSeq (exec (cx K) N nl fi32 (subC c32 [1, 1, 1, 1])) (fi32.jn 13) (kEnd tab [] nl rs32))))))))) (zipE [3, 13, 14, 15, 20, 21, 22] xs) os (bk32_8 K N nl m5 m8)
noncomputable def GB32_5 (K : Nat → List SV → List SO → Out) (N nl : Nat) (m5 : Nat) (x3 x13 x14 x15 : SV) (os : List SO) : Out :=
 bd (ret1 (binS tab .lss 3 x15 x14) os) fun v8 o8 =>
 condS v8 (bd (ret1 (indexAddrS tab o8 23 x13 x15) o8) fun v9 o9 =>
 bd (ret1 (loadS tab o9 29 v9) o9) fun v10 o10 =>
 bd (allocS tab o10 29) fun v11 o11 =>
 bd (storeO tab o11 29 v11 (some v10)) fun v12 o12 =>
 bd (ret1 (fieldAddrS tab 29 v11 2) o12) fun v13 o13 =>
 bd (ret1 (loadS tab o13 26 v13) o13) fun v14 o14 =>
 bd (lenO tab 26 o14 v14) fun v15 o15 =>
 L32_8 K N nl m5 N x3 x13 x14 x15 v14 v15 (SV.v (.int .i64 0)) o15)
 (retV tab nl o8 (resC1 (some x3) (some [])))
noncomputable def GB32_8 (K : Nat → List SV → List SO → Out) (N nl : Nat) (m5 : Nat) (m8 : Nat) (x3 x13 x14 x15 x20 x21 x22 : SV) (os : List SO) : Out :=
 bd (ret1 (binS tab .lss 3 x22 x21) os) fun v16 o16 =>
 condS v16 (bd (ret1 (indexAddrS tab o16 26 x20 x22) o16) fun v17 o17 =>
 bd (ret1 (loadS tab o17 47 v17) o17) fun v18 o18 =>
 bd (allocS tab o18 47) fun v19 o19 =>
 bd (storeO tab o19 47 v19 (some v18)) fun v20 o20 =>
 bd (ret1 (fieldAddrS tab 47 v19 0) o20) fun v21 o21 =>
 bd (ret1 (loadS tab o21 3 v21) o21) fun v22 o22 =>
 bd (ret1 (fieldAddrS tab 47 v19 1) o22) fun v23 o23 =>
 bd (ret1 (loadS tab o23 3 v23) o23) fun v24 o24 =>
 bd (ret1 (indexAddrS tab o24 45 x3 v22) o24) fun v25 o25 =>
 bd (storeO tab o25 3 v25 (some v24)) fun v26 o26 =>
 bd (ret1 (binS tab .add 3 x22 (SV.v (.int .i64 1))) o26) fun v27 o27 =>
 L32_8 K N nl m5 m8 x3 x13 x14 x15 x20 x21 v27 o27)
 (bd (ret1 (binS tab .add 3 x15 (SV.v (.int .i64 1))) o16) fun v28 o28 =>
 L32_5 K N nl m5 x3 x13 x14 v28 o28)
noncomputable def X32 (K : Nat → List SV → List SO → Out) (N nl : Nat) (x0 : SV) (os : List SO) : Out := exec (cx K) N nl fi32 c32 [(0, x0)] os (kEnd tab [] nl rs32)
noncomputable def B32 (K : Nat → List SV → List SO → Out) (N nl : Nat) (x0 : SV) (os : List SO) : Out :=
 bd (evN tab 45 os none) fun v1 o1 =>
 bd (callS ⟨tab, ownF, K⟩ o1 24 [x0]) fun v2 o2 =>
 bd (ret1 (unS .not v2) o2) fun v3 o3 =>
 condS v3 (bd (evN tab 45 o3 none) fun v4 o4 =>
 retV tab nl o4 (resC1 (some v4) (some [])))
 (bd (buildSliceS tab o3 45 1 [(0, (SV.v (.int .i64 (-1))))]) fun v5 o5 =>
 bd (callS ⟨tab, ownF, K⟩ o5 73 [v5, (SV.v (.int .i64 6))]) fun v6 o6 =>
 bd (lenO tab 23 o6 x0) fun v7 o7 =>
 L32_5 K N nl N v6 x0 v7 (SV.v (.int .i64 0)) o7)
noncomputable def bk33_4 (K : Nat → List SV → List SO → Out) (N nl : Nat) (m4 : Nat) : Env → List SO → Out := fun env os => loopS nl (fi33.lp 4) (fun env os nx => exec (cx K) N nl fi33 (subC c33 [1, 1, 0, 1, 0, 0]) env os (kLoop nx (kBlock 0 (kSeq (exec (cx K) N nl fi33 (subC c33 [1, 1, 1])) (fi33.jn 8) (kEnd tab [] nl rs33))))) m4 (killS (fi33.lp 4).alive env) os
noncomputable def X34 (K : Nat → List SV → List SO → Out) (N nl : Nat) (x0 : SV) (os : List SO) : Out := exec (cx K) N nl fi34 c34 [(0, x0)] os (kEnd tab [] nl rs34)
noncomputable def B34 (K : Nat → List SV → List SO → Out) (N nl : Nat) (x0 : SV) (os : List SO) : Out :=
 bd (evN tab 45 os none) fun v1 o1 =>
 bd (callS ⟨tab, ownF, K⟩ o1 22 [x0]) fun v2 o2 =>
 bd (ret1 (unS .not v2) o2) fun v3 o3 =>
 condS v3 (bd (buildSliceS tab o3 45 0 []) fun v4 o4 =>
 retV tab nl o4 (resC1 (some v4) (some [])))
 (bd (callS ⟨tab, ownF, K⟩ o3 74 [x0]) fun v5 o5 =>
 retV tab nl o5 (resC1 (some v5) (some [])))
noncomputable def bk35_4 (K : Nat → List SV → List SO → Out) (N nl : Nat) (m4 : Nat) : Env → List SO → Out := fun env os => loopS nl (fi35.lp 4) (fun env os nx => exec (cx K) N nl fi35 (subC c35 [1, 1, 0, 1, 0, 0]) env os (kLoop nx (kBlock 0 (kSeq (exec (cx K) N nl fi35 (subC c35 [1, 1, 1])) (fi35.jn 8) (kEnd tab [] nl rs35))))) m4 (killS (fi35.lp 4).alive env) os
noncomputable def L35_4 (K : Nat → List SV → List SO → Out) (N nl : Nat) (m4 : Nat) (x0 x1 x5 : SV) (os : List SO) : Out := loopS nl (fi35.lp 4) (fun env os nx => exec (cx K) N nl fi35 (subC c35 [1, 1, 0, 1, 0, 0]) env os (kLoop nx (kBlock 0 (kSeq (exec (cx K) N nl fi35 (subC c35 [1, 1, 1])) (fi35.jn 8) (kEnd tab [] nl rs35))))) m4 [(0, x0), (1, x1), (5, x5)] os
noncomputable def LB35_4 (K : Nat → List SV → List SO → Out) (N nl : Nat) (m4 : Nat) (x0 x1 x5 : SV) (os : List SO) : Out :=
 bd (lenO tab 45 os x0) fun v4 o4 =>
 bd (ret1 (binS tab .lss 3 x5 v4) o4) fun v5 o5 =>
 condS v5 (bd (ret1 (indexAddrS tab o5 45 x0 x5) o5) fun v6 o6 =>
 bd (ret1 (loadS tab o6 3 v6) o6) fun v7 o7 =>
 bd (ret1 (indexAddrS tab o7 45 x1 x5) o7) fun v8 o8 =>
 bd (ret1 (loadS tab o8 3 v8) o8) fun v9 o9 =>
 bd (ret1 (binS tab .neq 3 v7 v9) o9) fun v10 o10 =>
 condS v10 (retV tab nl o10 (resC1 (some (SV.v (.bool false))) (some [])))
 (bd (ret1 (binS tab .add 3 x5 (SV.v (.int .i64 1))) o10) fun v11 o11 =>
 L35_4 K N nl m4 x0 x1 v11 o11))
 (retV tab nl o5 (resC1 (some (SV.v (.bool true))) (some [])))
noncomputable def X35 (K : Nat → List SV → List SO → Out) (N nl : Nat) (x0 x1 : SV) (os : List SO) : Out := exec (cx K) N nl fi35 c35 [(0, x0), (1, x1)] os (kEnd tab [] nl rs35)
noncomputable def B35 (K : Nat → List SV → List SO → Out) (N nl : Nat) (x0 x1 : SV) (os : List SO) : Out :=
 bd (lenO tab 45 os x0) fun v1 o1 =>
 bd (lenO tab 45 o1 x1) fun v2 o2 =>
 bd (ret1 (binS tab .neq 3 v1 v2) o2) fun v3 o3 =>
 condS v3 (retV tab nl o3 (resC1 (some (SV.v (.bool false))) (some [])))
 (L35_4 K N nl N x0 x1 (SV.v (.int .i64 0)) o3)
noncomputable def bk36_2 (K : Nat → List SV → List SO → Out) (N nl : Nat) (m2 : Nat) : Env → List SO → Out := fun env os => loopS nl (fi36.lp 2) (fun env os nx => exec (cx K) N nl fi36 (subC c36 [1, 0, 1, 0, 0]) env os (kLoop nx (kBlock 0 (kSeq (exec (cx K) N nl fi36 (subC c36 [1, 1])) (fi36.jn 6) (kEnd tab [] nl rs36))))) m2 (killS (fi36.lp 2).alive env) os
noncomputable def L36_2 (K : Nat → List SV → List SO → Out) (N nl : Nat) (m2 : Nat) (x0 x1 x5 : SV) (os : List SO) : Out := loopS nl (fi36.lp 2) (fun env os nx => exec (cx K) N nl fi36 (subC c36 [1, 0, 1, 0, 0]) env os (kLoop nx (kBlock 0 (kSeq (exec (cx K) N nl fi36 (subC c36 [1, 1])) (fi36.jn 6) (kEnd tab [] nl rs36))))) m2 [(0, x0), (1, x1), (5, x5)] os
noncomputable def LB36_2 (K : Nat → List SV → List SO → Out) (N nl : Nat) (m2 : Nat) (x0 x1 x5 : SV) (os : List SO) : Out :=
 bd (lenO tab 45 os x0) fun v1 o1 =>
 bd (ret1 (binS tab .lss 3 x5 v1) o1) fun v2 o2 =>
 condS v2 (bd (ret1 (indexAddrS tab o2 45 x0 x5) o2) fun v3 o3 =>
 bd (storeO tab o3 3 v3 (some x1)) fun v4 o4 =>
 bd (ret1 (binS tab .add 3 x1 (SV.v (.int .i64 1))) o4) fun v5 o5 =>
 bd (ret1 (binS tab .add 3 x5 (SV.v (.int .i64 1))) o5) fun v6 o6 =>
 L36_2 K N nl m2 x0 v5 v6 o6)
 (retV tab nl o2 (resC1 (some x1) (some [])))
noncomputable def X36 (K : Nat → List SV → List SO → Out) (N nl : Nat) (x0 x1 : SV) (os : List SO) : Out := exec (cx K) N nl fi36 c36 [(0, x0), (1, x1)] os (kEnd tab [] nl rs36)
noncomputable def B36 (K : Nat → List SV → List SO → Out) (N nl : Nat) (x0 x1 : SV) (os : List SO) : Out :=
 L36_2 K N nl N x0 x1 (SV.v (.int .i64 0)) os
noncomputable def bk37_2 (K : Nat → List SV → List SO → Out) (N nl : Nat) (m2 : Nat) : Env → List SO → Out := fun env os => loopS nl (fi37.lp 2) (fun env os nx => exec (cx K) N nl fi37 (subC c37 [1, 0, 1, 0, 0]) env os (kLoop nx (kBlock 0 (kSeq (exec (cx K) N nl fi37 (subC c37 [1, 1])) (fi37.jn 7) (kEnd tab [] nl rs37))))) m2 (killS (fi37.lp 2).alive env) os
noncomputable def L37_2 (K : Nat → List SV → List SO → Out) (N nl : Nat) (m2 : Nat) (x0 x1 x5 : SV) (os : List SO) : Out := loopS nl (fi37.lp 2) (fun env os nx => exec (cx K) N nl fi37 (subC c37 [1, 0, 1, 0, 0]) env os (kLoop nx (kBlock 0 (kSeq (exec (cx K) N nl fi37 (subC c37 [1, 1])) (fi37.jn 7) (kEnd tab [] nl rs37))))) m2 [(0, x0), (1, x1), (5, x5)] os
noncomputable def LB37_2 (K : Nat → List SV → List SO → Out) (N nl : Nat) (m2 : Nat) (x0 x1 x5 : SV) (os : List SO) : Out :=
 bd (lenO tab 45 os x0) fun v1 o1 =>
 bd (ret1 (binS tab .lss 3 x5 v1) o1) fun v2 o2 =>
 condS v2 (bd (ret1 (indexAddrS tab o2 45 x0 x5) o2) fun v3 o3 =>
 bd (ret1 (loadS tab o3 3 v3) o3) fun v4 o4 =>
 bd (ret1 (binS tab .neq 3 v4 x1) o4) fun v5 o5 =>
 condS v5 (retV tab nl o5 (resC1 (some (SV.v (.int .i64 (-1)))) (some [])))
 (bd (ret1 (binS tab .add 3 x1 (SV.v (.int .i64 1))) o5) fun v6 o6 =>
 bd (ret1 (binS tab .add 3 x5 (SV.v (.int .i64 1))) o6) fun v7 o7 =>
 L37_2 K N nl m2 x0 v6 v7 o7))
 (retV tab nl o2 (resC1 (some x1) (some [])))
noncomputable def X37 (K : Nat → List SV → List SO → Out) (N nl : Nat) (x0 x1 : SV) (os : List SO) : Out := exec (cx K) N nl fi37 c37 [(0, x0), (1, x1)] os (kEnd tab [] nl rs37)
noncomputable def B37 (K : Nat → List SV → List SO → Out) (N nl : Nat) (x0 x1 : SV) (os : List SO) : Out :=
 L37_2 K N nl N x0 x1 (SV.v (.int .i64 0)) os
noncomputable def bk44_2 (K : Nat → List SV → List SO → Out) (N nl : Nat) (m2 : Nat) : Env → List SO → Out := fun env os => loopS nl (fi44.lp 2) (fun env os nx => exec (cx K) N nl fi44 (subC c44 [1, 0, 1, 0, 0]) env os (kLoop nx (kBlock 0 (kSeq (exec (cx K) N nl fi44 (subC c44 [1, 1])) (fi44.jn 6) (kEnd tab [] nl rs44))))) m2 (killS (fi44.lp 2).alive env) os
noncomputable def bk52_2 (K : Nat → List SV → List SO → Out) (N nl : Nat) (m2 : Nat) : Env → List SO → Out := fun env os => loopS nl (fi52.lp 2) (fun env os nx => exec (cx K) N nl fi52 (subC c52 [1, 0, 1, 0, 0]) env os (kLoop nx (kBlock 0 (kSeq (exec (cx K) N nl fi52 (subC c52 [1, 1])) (fi52.jn 6) (kEnd tab [] nl rs52))))) m2 (killS (fi52.lp 2).alive env) os
noncomputable def L52_2 (K : Nat → List SV → List SO → Out) (N nl : Nat) (m2 : Nat) (x0 x1 x4 x6 : SV) (os : List SO) : Out := loopS nl (fi52.lp 2) (fun env os nx => exec (cx K) N nl fi52 (subC c52 [1, 0, 1, 0, 0]) env os (kLoop nx (kBlock 0 (kSeq (exec (cx K) N nl fi52 (subC c52 [1, 1])) (fi52.jn 6) (kEnd tab [] nl rs52))))) m2 [(0, x0), (1, x1), (4, x4), (6, x6)] os
noncomputable def G52_2 (K : Nat → List SV → List SO → Out) (N nl : Nat) (m2 : Nat) (xs : List SV) (os : List SO) : Out := (fun env os nx => exec (cx K) N nl fi52 (subC c52 [1, 0, 1, 0, 0]) env os (kLoop nx (kBlock 0 (kSeq (exec (cx K) N nl fi52 (subC c52 [1, 1])) (fi52.jn 6) (kEnd tab [] nl rs52))))) (zipE [0, 1, 4, 6] xs) os (bk52_2 K N nl m2)
noncomputable def GB52_2 (K : Nat → List SV → List SO → Out) (N nl : Nat) (m2 : Nat) (x0 x1 x4 x6 : SV) (os : List SO) : Out :=
 bd (ret1 (binS tab .geq 3 x6 (SV.v (.int .i64 0))) os) fun v4 o4 =>
 condS v4 (bd (ret1 (indexAddrS tab o4 23 x0 x6) o4) fun v5 o5 =>
 bd (ret1 (fieldAddrS tab 29 v5 0) o5) fun v6 o6 =>
 bd (ret1 (loadS tab o6 3 v6) o6) fun v7 o7 =>
 bd (ret1 (binS tab .eql 3 v7 x1) o7) fun v8 o8 =>
 condS v8 (bd (ret1 (indexAddrS tab o8 23 x0 x6) o8) fun v9 o9 =>
 bd (ret1 (loadS tab o9 29 v9) o9) fun v10 o10 =>
 bd (callS ⟨tab, ownF, K⟩ o10 85 [v10]) fun v11 o11 =>
 bd (storeO tab o11 29 x4 (some v11)) fun v12 o12 =>
 retV tab nl o12 (resC1 (loadS tab o12 29 x4) (resC1 (some (SV.v (.bool true))) (some []))))
 (bd (ret1 (binS tab .sub 3 x6 (SV.v (.int .i64 1))) o8) fun v13 o13 =>
 L52_2 K N nl m2 x0 x1 x4 v13 o13))
 (bd (buildS tab o4 29 []) fun v14 o14 =>
 bd (storeO tab o14 29 x4 (some v14)) fun v15 o15 =>
 retV tab nl o15 (resC1 (loadS tab o15 29 x4) (resC1 (some (SV.v (.bool false))) (some []))))
noncomputable def X52 (K : Nat → List SV → List SO → Out) (N nl : Nat) (x0 x1 : SV) (os : List SO) : Out := exec (cx K) N nl fi52 c52 [(0, x0), (1, x1)] os (kEnd tab [] nl rs52)
noncomputable def B52 (K : Nat → List SV → List SO → Out) (N nl : Nat) (x0 x1 : SV) (os : List SO) : Out :=
 bd (allocS tab os 29) fun v1 o1 =>
 bd (lenO tab 23 o1 x0) fun v2 o2 =>
 bd (ret1 (binS tab .sub 3 v2 (SV.v (.int .i64 1))) o2) fun v3 o3 =>
 L52_2 K N nl N x0 x1 v1 v3 o3
noncomputable def bk53_2 (K : Nat → List SV → List SO → Out) (N nl : Nat) (m2 : Nat) : Env → List SO → Out := fun env os => loopS nl (fi53.lp 2) (fun env os nx => exec (cx K) N nl fi53 (subC c53 [1, 0, 1, 0, 0]) env os (kLoop nx (kBlock 0 (kSeq (exec (cx K) N nl fi53 (subC c53 [1, 1])) (fi53.jn 7) (kEnd tab [] nl rs53))))) m2 (killS (fi53.lp 2).alive env) os
noncomputable def L53_2 (K : Nat → List SV → List SO → Out) (N nl : Nat) (m2 : Nat) (x0 x5 x6 x7 : SV) (os : List SO) : Out := loopS nl (fi53.lp 2) (fun env os nx => exec (cx K) N nl fi53 (subC c53 [1, 0, 1, 0, 0]) env os (kLoop nx (kBlock 0 (kSeq (exec (cx K) N nl fi53 (subC c53 [1, 1])) (fi53.jn 7) (kEnd tab [] nl rs53))))) m2 [(0, x0), (5, x5), (6, x6), (7, x7)] os
noncomputable def G53_2 (K : Nat → List SV → List SO → Out) (N nl : Nat) (m2 : Nat) (xs : List SV) (os : List SO) : Out := (fun env os nx => exec (cx K) N nl fi53 (subC c53 [1, 0, 1, 0, 0]) env os (kLoop nx (kBlock 0 (kSeq (exec (cx K) N nl fi53 (subC c53 [1, 1])) (fi53.jn 7) (kEnd tab [] nl rs53))))) (zipE [0, 5, 6, 7] xs) os (bk53_2 K N nl m2)
noncomputable def GB53_2 (K : Nat → List SV → List SO → Out) (N nl : Nat) (m2 : Nat) (x0 x5 x6 x7 : SV) (os : List SO) : Out :=
 bd (ret1 (binS tab .lss 3 x7 x6) os) fun v2 o2 =>
 condS v2 (bd (ret1 (indexAddrS tab o2 23 x5 x7) o2) fun v3 o3 =>
 bd (ret1 (loadS tab o3 29 v3) o3) fun v4 o4 =>
 bd (allocS tab o4 29) fun v5 o5 =>
 bd (storeO tab o5 29 v5 (some v4)) fun v6 o6 =>
 bd (ret1 (loadS tab o6 29 v5) o6) fun v7 o7 =>
 bd (callS ⟨tab, ownF, K⟩ o7 86 [v7]) fun v8 o8 =>
 bd (ret1 (unS .not v8) o8) fun v9 o9 =>
 bd (gd v9 false (some (x7, o9)) o9) fun v10 o10 =>
 bd (gd v9 false (ret1 (binS tab .gtr 3 v10 (SV.v (.int .i64 0))) o10) o10) fun v11 o11 =>
 bd (gd v9 false (some (v11, o11)) o11) fun v12 o12 =>
 bd (gd v12 true (some (x0, o12)) o12) fun v13 o13 =>
 bd (gd v12 true (some (x7, o13)) o13) fun v14 o14 =>
 bd (gd v12 true (ret1 (binS tab .sub 3 v14 (SV.v (.int .i64 1))) o14) o14) fun v15 o15 =>
 bd (gd v12 true (ret1 (indexAddrS tab o15 23 v13 v15) o15) o15) fun v16 o16 =>
 bd (gd v12 true (ret1 (loadS tab o16 29 v16) o16) o16) fun v17 o17 =>
 bd (gd v12 true (ret1 (loadS tab o17 29 v5) o17) o17) fun v18 o18 =>
 bd (gd v12 true (callS ⟨tab, ownF, K⟩ o18 87 [v17, v18]) o18) fun v19 o19 =>
 bd (gd v12 true (ret1 (binS tab .geq 3 v19 (SV.v (.int .i64 0))) o19) o19) fun v20 o20 =>
 bd (gd v9 false (ret1 (pickS v12 v20 (SV.v (.bool false))) o20) o20) fun v21 o21 =>
 bd (ret1 (pickS v9 (SV.v (.bool true)) v21) o21) fun v22 o22 =>
 condS v22 (retV tab nl o22 (resC1 (some (SV.v (.bool false))) (some [])))
 (bd (ret1 (binS tab .add 3 x7 (SV.v (.int .i64 1))) o22) fun v23 o23 =>
 L53_2 K N nl m2 x0 x5 x6 v23 o23))
 (retV tab nl o2 (resC1 (some (SV.v (.bool true))) (some [])))
noncomputable def X53 (K : Nat → List SV → List SO → Out) (N nl : Nat) (x0 : SV) (os : List SO) : Out := exec (cx K) N nl fi53 c53 [(0, x0)] os (kEnd tab [] nl rs53)
noncomputable def B53 (K : Nat → List SV → List SO → Out) (N nl : Nat) (x0 : SV) (os : List SO) : Out :=
 bd (lenO tab 23 os x0) fun v1 o1 =>
 L53_2 K N nl N x0 x0 v1 (SV.v (.int .i64 0)) o1
noncomputable def bk54_3 (K : Nat → List SV → List SO → Out) (N nl : Nat) (m3 : Nat) : Env → List SO → Out := fun env os => loopS nl (fi54.lp 3) (fun env os nx => exec (cx K) N nl fi54 (subC c54 [1, 1, 0, 1, 0, 0]) env os (kLoop nx (kBlock 0 (kSeq (exec (cx K) N nl fi54 (subC c54 [1, 1, 1])) (fi54.jn 8) (kEnd tab [] nl rs54))))) m3 (killS (fi54.lp 3).alive env) os
noncomputable def L54_3 (K : Nat → List SV → List SO → Out) (N nl : Nat) (m3 : Nat) (x1 x5 x8 x9 x10 : SV) (os : List SO) : Out := loopS nl (fi54.lp 3) (fun env os nx => exec (cx K) N nl fi54 (subC c54 [1, 1, 0, 1, 0, 0]) env os (kLoop nx (kBlock 0 (kSeq (exec (cx K) N nl fi54 (subC c54 [1, 1, 1])) (fi54.jn 8) (kEnd tab [] nl rs54))))) m3 [(1, x1), (5, x5), (8, x8), (9, x9), (10, x10)] os
noncomputable def G54_3 (K : Nat → List SV → List SO → Out) (N nl : Nat) (m3 : Nat) (xs : List SV) (os : List SO) : Out := (fun env os nx => exec (cx K) N nl fi54 (subC c54 [1, 1, 0, 1, 0, 0]) env os (kLoop nx (kBlock 0 (kSeq (exec (cx K) N nl fi54 (subC c54 [1, 1, 1])) (fi54.jn 8) (kEnd tab [] nl rs54))))) (zipE [1, 5, 8, 9, 10] xs) os (bk54_3 K N nl m3)
noncomputable def J54_7 (K : Nat → List SV → List SO → Out) (N nl : Nat) (m3 : Nat) (x1 x5 x8 x9 x10 : SV) (os : List SO) : Out := exec (cx K) N nl fi54 (subC c54 [1, 1, 0, 1, 0, 0, 1, 1, 1]) [(1, x1), (5, x5), (8, x8), (9, x9), (10, x10)] os (kLoop (bk54_3 K N nl m3) (kBlock 0 (kSeq (exec (cx K) N nl fi54 (subC c54 [1, 1, 1])) (fi54.jn 8) (kEnd tab [] nl rs54))))
noncomputable def GB54_3 (K : Nat → List SV → List SO → Out) (N nl : Nat) (m3 : Nat) (x1 x5 x8 x9 x10 : SV) (os : List SO) : Out :=
 bd (ret1 (binS tab .lss 3 x10 x9) os) fun v2 o2 =>
 condS v2 (bd (ret1 (indexAddrS tab o2 23 x8 x10) o2) fun v3 o3 =>
 bd (ret1 (loadS tab o3 29 v3) o3) fun v4 o4 =>
 bd (allocS tab o4 29) fun v5 o5 =>
 bd (storeO tab o5 29 v5 (some v4)) fun v6 o6 =>
 bd (ret1 (fieldAddrS tab 29 v5 0) o6) fun v7 o7 =>
 bd (ret1 (loadS tab o7 3 v7) o7) fun v8 o8 =>
 bd (ret1 (binS tab .eql 3 v8 x1) o8) fun v9 o9 =>
 condS v9 (J54_7 K N nl m3 x1 x10 x8 x9 x10 o9)
 (J54_7 K N nl m3 x1 x5 x8 x9 x10 o9))
 (retV tab nl o2 (resC1 (some x5) (some [])))
noncomputable def JB54_7 (K : Nat → List SV → List SO → Out) (N nl : Nat) (m3 : Nat) (x1 x5 x8 x9 x10 : SV) (os : List SO) : Out :=
 bd (ret1 (binS tab .add 3 x10 (SV.v (.int .i64 1))) os) fun v10 o10 =>
 L54_3 K N nl m3 x1 x5 x8 x9 v10 o10
noncomputable def X54 (K : Nat → List SV → List SO → Out) (N nl : Nat) (x0 x1 : SV) (os : List SO) : Out := exec (cx K) N nl fi54 c54 [(0, x0), (1, x1)] os (kEnd tab [] nl rs54)
noncomputable def B54 (K : Nat → List SV → List SO → Out) (N nl : Nat) (x0 x1 : SV) (os : List SO) : Out :=
 bd (lenO tab 23 os x0) fun v1 o1 =>
 L54_3 K N nl N x1 (SV.v (.int .i64 (-1))) x0 v1 (SV.v (.int .i64 0)) o1
noncomputable def X55 (K : Nat → List SV → List SO → Out) (N nl : Nat) (x0 : SV) (os : List SO) : Out := exec (cx K) N nl fi55 c55 [(0, x0)] os (kEnd tab [] nl rs55)
noncomputable def B55 (K : Nat → List SV → List SO → Out) (N nl : Nat) (x0 : SV) (os : List SO) : Out :=
 bd (boxS tab os 29 (some x0)) fun v1 o1 =>
 bd (allocS tab o1 29) fun v2 o2 =>
 bd (ret1 (fieldAddrS tab 29 v1 2) o2) fun v3 o3 =>
 bd (ret1 (loadS tab o3 26 v3) o3) fun v4 o4 =>
 dchk (keepOk ⟨tab, ownF, K⟩ o4 (SV.fn 88 []) [v4] [] true) <|
 bd (callS ⟨tab, ownF, K⟩ o4 88 [v4]) fun v5 o5 =>
 bd (ret1 (fieldAddrS tab 29 v1 3) o5) fun v6 o6 =>
 dchk (isBox v6) <|
 bd (ret1 (loadS tab o6 27 v6) o6) fun v7 o7 =>
 bd (callS ⟨tab, ownF, K⟩ o7 89 [v7]) fun v8 o8 =>
 bd (ret1 (fieldAddrS tab 29 v1 2) o8) fun v9 o9 =>
 bd (storeO tab o9 26 v9 (some v5)) fun v10 o10 =>
 bd (ret1 (fieldAddrS tab 29 v1 3) o10) fun v11 o11 =>
 bd (storeO tab o11 27 v11 (some v8)) fun v12 o12 =>
 bd (ret1 (loadS tab o12 29 v1) o12) fun v13 o13 =>
 bd (storeO tab o13 29 v2 (some v13)) fun v14 o14 =>
 retV tab nl o14 (resC1 (loadS tab o14 29 v2) (some []))
noncomputable def bk56_2 (K : Nat → List SV → List SO → Out) (N nl : Nat) (m2 : Nat) : Env → List SO → Out := fun env os => loopS nl (fi56.lp 2) (fun env os nx => exec (cx K) N nl fi56 (subC c56 [1, 0, 1, 0, 0]) env os (kLoop nx (kBlock 0 (kSeq (exec (cx K) N nl fi56 (subC c56 [1, 1])) (fi56.jn 6) (kEnd tab [] nl rs56))))) m2 (killS (fi56.lp 2).alive env) os
noncomputable def L56_2 (K : Nat → List SV → List SO → Out) (N nl : Nat) (m2 : Nat) (x0 x3 : SV) (os : List SO) : Out := loopS nl (fi56.lp 2) (fun env os nx => exec (cx K) N nl fi56 (subC c56 [1, 0, 1, 0, 0]) env os (kLoop nx (kBlock 0 (kSeq (exec (cx K) N nl fi56 (subC c56 [1, 1])) (fi56.jn 6) (kEnd tab [] nl rs56))))) m2 [(0, x0), (3, x3)] os
noncomputable def LB56_2 (K : Nat → List SV → List SO → Out) (N nl : Nat) (m2 : Nat) (x0 x3 : SV) (os : List SO) : Out :=
 bd (lenO tab 23 os x0) fun v1 o1 =>
 bd (ret1 (binS tab .lss 3 x3 v1) o1) fun v2 o2 =>
 condS v2 (bd (ret1 (indexAddrS tab o2 23 x0 x3) o2) fun v3 o3 =>
 bd (ret1 (loadS tab o3 29 v3) o3) fun v4 o4 =>
 bd (callS ⟨tab, ownF, K⟩ o4 90 [v4]) fun v5 o5 =>
 bd (ret1 (unS .not v5) o5) fun v6 o6 =>
 bd (gd v6 false (some (x3, o6)) o6) fun v7 o7 =>
 bd (gd v6 false (ret1 (binS tab .gtr 3 v7 (SV.v (.int .i64 0))) o7) o7) fun v8 o8 =>
 bd (gd v6 false (some (v8, o8)) o8) fun v9 o9 =>
 bd (gd v9 true (some (x0, o9)) o9) fun v10 o10 =>
 bd (gd v9 true (some (x3, o10)) o10) fun v11 o11 =>
 bd (gd v9 true (ret1 (binS tab .sub 3 v11 (SV.v (.int .i64 1))) o11) o11) fun v12 o12 =>
 bd (gd v9 true (ret1 (indexAddrS tab o12 23 v10 v12) o12) o12) fun v13 o13 =>
 bd (gd v9 true (ret1 (fieldAddrS tab 29 v13 0) o13) o13) fun v14 o14 =>
 bd (gd v9 true (ret1 (loadS tab o14 3 v14) o14) o14) fun v15 o15 =>
 bd (gd v9 true (some (x0, o15)) o15) fun v16 o16 =>
 bd (gd v9 true (some (x3, o16)) o16) fun v17 o17 =>
 bd (gd v9 true (ret1 (binS tab .sub 3 v17 (SV.v (.int .i64 1))) o17) o17) fun v18 o18 =>
 bd (gd v9 true (ret1 (indexAddrS tab o18 23 v16 v18) o18) o18) fun v19 o19 =>
 bd (gd v9 true (ret1 (fieldAddrS tab 29 v19 1) o19) o19) fun v20 o20 =>
 bd (gd v9 true (ret1 (loadS tab o20 3 v20) o20) o20) fun v21 o21 =>
 bd (gd v9 true (some (x0, o21)) o21) fun v22 o22 =>
 bd (gd v9 true (some (x3, o22)) o22) fun v23 o23 =>
 bd (gd v9 true (ret1 (indexAddrS tab o23 23 v22 v23) o23) o23) fun v24 o24 =>
 bd (gd v9 true (ret1 (fieldAddrS tab 29 v24 0) o24) o24) fun v25 o25 =>
 bd (gd v9 true (ret1 (loadS tab o25 3 v25) o25) o25) fun v26 o26 =>
 bd (gd v9 true (some (x0, o26)) o26) fun v27 o27 =>
 bd (gd v9 true (some (x3, o27)) o27) fun v28 o28 =>
 bd (gd v9 true (ret1 (indexAddrS tab o28 23 v27 v28) o28) o28) fun v29 o29 =>
 bd (gd v9 true (ret1 (fieldAddrS tab 29 v29 1) o29) o29) fun v30 o30 =>
 bd (gd v9 true (ret1 (loadS tab o30 3 v30) o30) o30) fun v31 o31 =>
 bd (gd v9 true (callS ⟨tab, ownF, K⟩ o31 91 [v15, v21, v26, v31]) o31) fun v32 o32 =>
 bd (gd v9 true (ret1 (unS .not v32) o32) o32) fun v33 o33 =>
 bd (gd v6 false (ret1 (pickS v9 v33 (SV.v (.bool false))) o33) o33) fun v34 o34 =>
 bd (ret1 (pickS v6 (SV.v (.bool true)) v34) o34) fun v35 o35 =>
 condS v35 (retV tab nl o35 (resC1 (some (SV.v (.bool false))) (some [])))
 (bd (ret1 (binS tab .add 3 x3 (SV.v (.int .i64 1))) o35) fun v36 o36 =>
 L56_2 K N nl m2 x0 v36 o36))
 (retV tab nl o2 (resC1 (some (SV.v (.bool true))) (some [])))
noncomputable def X56 (K : Nat → List SV → List SO → Out) (N nl : Nat) (x0 : SV) (os : List SO) : Out := exec (cx K) N nl fi56 c56 [(0, x0)] os (kEnd tab [] nl rs56)
noncomputable def B56 (K : Nat → List SV → List SO → Out) (N nl : Nat) (x0 : SV) (os : List SO) : Out :=
 L56_2 K N nl N x0 (SV.v (.int .i64 0)) os
noncomputable def X57 (K : Nat → List SV → List SO → Out) (N nl : Nat) (x0 x1 : SV) (os : List SO) : Out := exec (cx K) N nl fi57 c57 [(0, x0), (1, x1)] os (kEnd tab [] nl rs57)
noncomputable def B57 (K : Nat → List SV → List SO → Out) (N nl : Nat) (x0 x1 : SV) (os : List SO) : Out :=
 bd (boxS tab os 75 (some x0)) fun v1 o1 =>
 bd (ret1 (fieldAddrS tab 75 v1 2) o1) fun v2 o2 =>
 bd (ret1 (loadS tab o2 72 v2) o2) fun v3 o3 =>
 bd (callS ⟨tab, ownF, K⟩ o3 92 [v3, x1]) fun v4 o4 =>
 bd (ret1 (binS tab .lss 3 v4 (SV.v (.int .i64 0))) o4) fun v5 o5 =>
 condS v5 (retV tab nl o5 (resC1 (some (SV.v (.int .i64 (-1)))) (some [])))
 (bd (ret1 (fieldAddrS tab 75 v1 3) o5) fun v6 o6 =>
 bd (ret1 (loadS tab o6 73 v6) o6) fun v7 o7 =>
 bd (callS ⟨tab, ownF, K⟩ o7 93 [v7, v4]) fun v8 o8 =>
 bd (ret1 (binS tab .lss 3 v8 (SV.v (.int .i64 0))) o8) fun v9 o9 =>
 condS v9 (retV tab nl o9 (resC1 (some (SV.v (.int .i64 (-1)))) (some [])))
 (retV tab nl o9 (resC1 (some v8) (some []))))
noncomputable def bk58_2 (K : Nat → List SV → List SO → Out) (N nl : Nat) (m2 : Nat) : Env → List SO → Out := fun env os => loopS nl (fi58.lp 2) (fun env os nx => exec (cx K) N nl fi58 (subC c58 [1, 0, 1, 0, 0]) env os (kLoop nx (kBlock 0 (kSeq (exec (cx K) N nl fi58 (subC c58 [1, 1])) (fi58.jn 6) (kEnd tab [] nl rs58))))) m2 (killS (fi58.lp 2).alive env) os
noncomputable def L58_2 (K : Nat → List SV → List SO → Out) (N nl : Nat) (m2 : Nat) (x0 x3 : SV) (os : List SO) : Out := loopS nl (fi58.lp 2) (fun env os nx => exec (cx K) N nl fi58 (subC c58 [1, 0, 1, 0, 0]) env os (kLoop nx (kBlock 0 (kSeq (exec (cx K) N nl fi58 (subC c58 [1, 1])) (fi58.jn 6) (kEnd tab [] nl rs58))))) m2 [(0, x0), (3, x3)] os
noncomputable def LB58_2 (K : Nat → List SV → List SO → Out) (N nl : Nat) (m2 : Nat) (x0 x3 : SV) (os : List SO) : Out :=
 bd (lenO tab 23 os x0) fun v1 o1 =>
 bd (ret1 (binS tab .lss 3 x3 v1) o1) fun v2 o2 =>
 condS v2 (bd (ret1 (binS tab .sub 3 x3 (SV.v (.int .i64 1))) o2) fun v3 o3 =>
 bd (ret1 (indexAddrS tab o3 23 x0 v3) o3) fun v4 o4 =>
 bd (ret1 (fieldAddrS tab 29 v4 0) o4) fun v5 o5 =>
 bd (ret1 (loadS tab o5 3 v5) o5) fun v6 o6 =>
 bd (ret1 (indexAddrS tab o6 23 x0 x3) o6) fun v7 o7 =>
 bd (ret1 (fieldAddrS tab 29 v7 0) o7) fun v8 o8 =>
 bd (ret1 (loadS tab o8 3 v8) o8) fun v9 o9 =>
 bd (ret1 (binS tab .geq 3 v6 v9) o9) fun v10 o10 =>
 condS v10 (retV tab nl o10 (resC1 (some (SV.v (.bool false))) (some [])))
 (bd (ret1 (binS tab .add 3 x3 (SV.v (.int .i64 1))) o10) fun v11 o11 =>
 L58_2 K N nl m2 x0 v11 o11))
 (retV tab nl o2 (resC1 (some (SV.v (.bool true))) (some [])))
noncomputable def X58 (K : Nat → List SV → List SO → Out) (N nl : Nat) (x0 : SV) (os : List SO) : Out := exec (cx K) N nl fi58 c58 [(0, x0)] os (kEnd tab [] nl rs58)
noncomputable def B58 (K : Nat → List SV → List SO → Out) (N nl : Nat) (x0 : SV) (os : List SO) : Out :=
 L58_2 K N nl N x0 (SV.v (.int .i64 1)) os
noncomputable def X59 (K : Nat → List SV → List SO → Out) (N nl : Nat) (x0 x1 : SV) (os : List SO) : Out := exec (cx K) N nl fi59 c59 [(0, x0), (1, x1)] os (kEnd tab [] nl rs59)
noncomputable def B59 (K : Nat → List SV → List SO → Out) (N nl : Nat) (x0 x1 : SV) (os : List SO) : Out :=
 bd (boxS tab os 43 (some x1)) fun v1 o1 =>
 bd (ret1 (fieldAddrS tab 43 v1 0) o1) fun v2 o2 =>
 bd (ret1 (loadS tab o2 3 v2) o2) fun v3 o3 =>
 bd (callS ⟨tab, ownF, K⟩ o3 52 [x0, v3]) fun v4 o4 =>
 bd (ret1 (extractS v4 0) o4) fun v5 o5 =>
 bd (ret1 (extractS v4 1) o5) fun v6 o6 =>
 bd (allocS tab o6 29) fun v7 o7 =>
 bd (storeO tab o7 29 v7 (some v5)) fun v8 o8 =>
 bd (gd v6 true (ret1 (fieldAddrS tab 29 v7 1) o8) o8) fun v9 o9 =>
 bd (gd v6 true (ret1 (loadS tab o9 3 v9) o9) o9) fun v10 o10 =>
 bd (gd v6 true (ret1 (fieldAddrS tab 43 v1 1) o10) o10) fun v11 o11 =>
 bd (gd v6 true (ret1 (loadS tab o11 3 v11) o11) o11) fun v12 o12 =>
 bd (gd v6 true (ret1 (binS tab .geq 3 v10 v12) o12) o12) fun v13 o13 =>
 bd (ret1 (pickS v6 v13 (SV.v (.bool false))) o13) fun v14 o14 =>
 retV tab nl o14 (resC1 (some v14) (some []))
noncomputable def bk60_2 (K : Nat → List SV → List SO → Out) (N nl : Nat) (m2 : Nat) : Env → List SO → Out := fun env os => loopS nl (fi60.lp 2) (fun env os nx => exec (cx K) N nl fi60 (subC c60 [1, 0, 1, 0, 0]) env os (kLoop nx (kBlock 0 (kSeq (exec (cx K) N nl fi60 (subC c60 [1, 1])) (fi60.jn 9) (kEnd tab [] nl rs60))))) m2 (killS (fi60.lp 2).alive env) os
noncomputable def bk60_5 (K : Nat → List SV → List SO → Out) (N nl : Nat) (m2 : Nat) (m5 : Nat) : Env → List SO → Out := fun env os => loopS nl (fi60.lp 5) (fun env os nx => exec (cx K) N nl fi60 (subC c60 [1, 0, 1, 0, 0, 1, 0, 0, 1, 0, 0]) env os (kLoop nx (kBlock 2 (kBlock 1 (kSeq (exec (cx K) N nl fi60 (subC c60 [1, 0, 1, 0, 0, 1, 1])) (fi60.jn 3) (kLoop (bk60_2 K N nl m2) (kBlock 0 (kSeq (exec (cx K) N nl fi60 (subC c60 [1, 1])) (fi60.jn 9) (kEnd tab [] nl rs60))))))))) m5 (killS (fi60.lp 5).alive env) os
noncomputable def L60_2 (K : Nat → List SV → List SO → Out) (N nl : Nat) (m2 : Nat) (x0 x1 x2 x7 : SV) (os : List SO) : Out := loopS nl (fi60.lp 2) (fun env os nx => exec (cx K) N nl fi60 (subC c60 [1, 0, 1, 0, 0]) env os (kLoop nx (kBlock 0 (kSeq (exec (cx K) N nl fi60 (subC c60 [1, 1])) (fi60.jn 9) (kEnd tab [] nl rs60))))) m2 [(0, x0), (1, x1), (2, x2), (7, x7)] os
noncomputable def L60_5 (K : Nat → List SV → List SO → Out) (N nl : Nat) (m2 : Nat) (m5 : Nat) (x0 x1 x2 x7 x8 : SV) (os : List SO) : Out := loopS nl (fi60.lp 5) (fun env os nx => exec (cx K) N nl fi60 (subC c60 [1, 0, 1, 0, 0, 1, 0, 0, 1, 0, 0]) env os (kLoop nx (kBlock 2 (kBlock 1 (kSeq (exec (cx K) N nl fi60 (subC c60 [1, 0, 1, 0, 0, 1, 1])) (fi60.jn 3) (kLoop (bk60_2 K N nl m2) (kBlock 0 (kSeq (exec (cx K) N nl fi60 (subC c60 [1, 1])) (fi60.jn 9) (kEnd tab [] nl rs60))))))))) m5 [(0, x0), (1, x1), (2, x2), (7, x7), (8, x8)] os
noncomputable def LB60_2 (K : Nat → List SV → List SO → Out) (N nl : Nat) (m2 : Nat) (x0 x1 x2 x7 : SV) (os : List SO) : Out :=
 bd (ret1 (binS tab .lss 3 x7 x1) os) fun v1 o1 =>
 condS v1 (L60_5 K N nl m2 N x0 x1 x2 x7 (SV.v (.int .i64 0)) o1)
 (retV tab nl o1 (resC1 (some (SV.v (.int .i64 (-1)))) (some [])))
noncomputable def LB60_5 (K : Nat → List SV → List SO → Out) (N nl : Nat) (m2 : Nat) (m5 : Nat) (x0 x1 x2 x7 x8 : SV) (os : List SO) : Out :=
 bd (ret1 (indexAddrS tab os 23 x0 x7) os) fun v2 o2 =>
 bd (ret1 (fieldAddrS tab 29 v2 2) o2) fun v3 o3 =>
 bd (ret1 (loadS tab o3 26 v3) o3) fun v4 o4 =>
 bd (lenO tab 26 o4 v4) fun v5 o5 =>
 bd (ret1 (binS tab .lss 3 x8 v5) o5) fun v6 o6 =>
 condS v6 (bd (ret1 (indexAddrS tab o6 23 x0 x7) o6) fun v7 o7 =>
 bd (ret1 (fieldAddrS tab 29 v7 2) o7) fun v8 o8 =>
 bd (ret1 (loadS tab o8 26 v8) o8) fun v9 o9 =>
 bd (ret1 (indexAddrS tab o9 26 v9 x8) o9) fun v10 o10 =>
 bd (ret1 (fieldAddrS tab 47 v10 0) o10) fun v11 o11 =>
 bd (ret1 (loadS tab o11 3 v11) o11) fun v12 o12 =>
 bd (ret1 (binS tab .eql 3 v12 x2) o12) fun v13 o13 =>
 condS v13 (retV tab nl o13 (resC1 (some x7) (some [])))
 (bd (ret1 (binS tab .add 3 x8 (SV.v (.int .i64 1))) o13) fun v14 o14 =>
 L60_5 K N nl m2 m5 x0 x1 x2 x7 v14 o14))
 (bd (ret1 (binS tab .add 3 x7 (SV.v (.int .i64 1))) o6) fun v15 o15 =>
 L60_2 K N nl m2 x0 x1 x2 v15 o15)
noncomputable def X60 (K : Nat → List SV → List SO → Out) (N nl : Nat) (x0 x1 x2 : SV) (os : List SO) : Out := exec (cx K) N nl fi60 c60 [(0, x0), (1, x1), (2, x2)] os (kEnd tab [] nl rs60)
noncomputable def B60 (K : Nat → List SV → List SO → Out) (N nl : Nat) (x0 x1 x2 : SV) (os : List SO) : Out :=
 L60_2 K N nl N x0 x1 x2 (SV.v (.int .i64 0)) os
noncomputable def X61 (K : Nat → List SV → List SO → Out) (N nl : Nat) (x0 : SV) (os : List SO) : Out := exec (cx K) N nl fi61 c61 [(0, x0)] os (kEnd tab [] nl rs61)
noncomputable def B61 (K : Nat → List SV → List SO → Out) (N nl : Nat) (x0 : SV) (os : List SO) : Out :=
 bd (boxS tab os 75 (some x0)) fun v1 o1 =>
 bd (allocS tab o1 29) fun v2 o2 =>
 bd (allocS tab o2 29) fun v3 o3 =>
 bd (ret1 (fieldAddrS tab 75 v1 0) o3) fun v4 o4 =>
 bd (ret1 (loadS tab o4 3 v4) o4) fun v5 o5 =>
 bd (ret1 (fieldAddrS tab 29 v3 0) o5) fun v6 o6 =>
 bd (storeO tab o6 3 v6 (some v5)) fun v7 o7 =>
 bd (ret1 (fieldAddrS tab 75 v1 1) o7) fun v8 o8 =>
 bd (ret1 (loadS tab o8 3 v8) o8) fun v9 o9 =>
 bd (ret1 (fieldAddrS tab 29 v3 1) o9) fun v10 o10 =>
 bd (storeO tab o10 3 v10 (some v9)) fun v11 o11 =>
 bd (ret1 (fieldAddrS tab 75 v1 2) o11) fun v12 o12 =>
 bd (ret1 (loadS tab o12 72 v12) o12) fun v13 o13 =>
 bd (callS ⟨tab, ownF, K⟩ o13 94 [v13]) fun v14 o14 =>
 bd (ret1 (fieldAddrS tab 29 v3 2) o14) fun v15 o15 =>
 bd (storeO tab o15 26 v15 (some v14)) fun v16 o16 =>
 bd (ret1 (fieldAddrS tab 75 v1 3) o16) fun v17 o17 =>
 bd (ret1 (loadS tab o17 73 v17) o17) fun v18 o18 =>
 bd (callS ⟨tab, ownF, K⟩ o18 95 [v18]) fun v19 o19 =>
 bd (ret1 (fieldAddrS tab 29 v3 3) o19) fun v20 o20 =>
 bd (storeO tab o20 27 v20 (some v19)) fun v21 o21 =>
 bd (ret1 (loadS tab o21 29 v3) o21) fun v22 o22 =>
 bd (storeO tab o22 29 v2 (some v22)) fun v23 o23 =>
 retV tab nl o23 (resC1 (loadS tab o23 29 v2) (some []))
noncomputable def X62 (K : Nat → List SV → List SO → Out) (N nl : Nat) (x0 x1 : SV) (os : List SO) : Out := exec (cx K) N nl fi62 c62 [(0, x0), (1, x1)] os (kEnd tab [] nl rs62)
noncomputable def B62 (K : Nat → List SV → List SO → Out) (N nl : Nat) (x0 x1 : SV) (os : List SO) : Out :=
 bd (callS ⟨tab, ownF, K⟩ os 96 [x0, x1]) fun v1 o1 =>
 bd (ret1 (binS tab .geq 3 v1 (SV.v (.int .i64 0))) o1) fun v2 o2 =>
 retV tab nl o2 (resC1 (some v2) (some []))
noncomputable def X63 (K : Nat → List SV → List SO → Out) (N nl : Nat) (x0 x1 : SV) (os : List SO) : Out := exec (cx K) N nl fi63 c63 [(0, x0), (1, x1)] os (kEnd tab [] nl rs63)
noncomputable def B63 (K : Nat → List SV → List SO → Out) (N nl : Nat) (x0 x1 : SV) (os : List SO) : Out :=
 bd (boxS tab os 43 (some x0)) fun v1 o1 =>
 bd (ret1 (loadS tab o1 23 x1) o1) fun v2 o2 =>
 bd (ret1 (loadS tab o2 43 v1) o2) fun v3 o3 =>
 bd (callS ⟨tab, ownF, K⟩ o3 64 [v2, v3]) fun v4 o4 =>
 bd (ret1 (unS .not v4) o4) fun v5 o5 =>
 retV tab nl o5 (resC1 (some v5) (some []))
noncomputable def X64 (K : Nat → List SV → List SO → Out) (N nl : Nat) (x0 x1 : SV) (os : List SO) : Out := exec (cx K) N nl fi64 c64 [(0, x0), (1, x1)] os (kEnd tab [] nl rs64)
noncomputable def B64 (K : Nat → List SV → List SO → Out) (N nl : Nat) (x0 x1 : SV) (os : List SO) : Out :=
 bd (boxS tab os 43 (some x1)) fun v1 o1 =>
 bd (callS ⟨tab, ownF, K⟩ o1 97 [x0, (SV.fn 98 [v1])]) fun v2 o2 =>
 retV tab nl o2 (resC1 (some v2) (some []))
noncomputable def bk65_3 (K : Nat → List SV → List SO → Out) (N nl : Nat) (m3 : Nat) : Env → List SO → Out := fun env os => loopS nl (fi65.lp 3) (fun env os nx => exec (cx K) N nl fi65 (subC c65 [1, 1, 0, 1, 0, 0]) env os (kLoop nx (kBlock 0 (kSeq (exec (cx K) N nl fi65 (subC c65 [1, 1, 1])) (fi65.jn 8) (kEnd tab [] nl rs65))))) m3 (killS (fi65.lp 3).alive env) os
noncomputable def bk66_3 (K : Nat → List SV → List SO → Out) (N nl : Nat) (m3 : Nat) : Env → List SO → Out := fun env os => loopS nl (fi66.lp 3) (fun env os nx => exec (cx K) N nl fi66 (subC c66 [1, 1, 0, 1, 0, 0]) env os (kLoop nx (kBlock 0 (kSeq (exec (cx K) N nl fi66 (subC c66 [1, 1, 1])) (fi66.jn 8) (kEnd tab [] nl rs66))))) m3 (killS (fi66.lp 3).alive env) os
noncomputable def bk67_4 (K : Nat → List SV → List SO → Out) (N nl : Nat) (m4 : Nat) : Env → List SO → Out := fun env os => loopS nl (fi67.lp 4) (fun env os nx => exec (cx K) N nl fi67 (subC c67 [1, 1, 0, 1, 0, 0]) env os (kLoop nx (kBlock 0 (kSeq (exec (cx K) N nl fi67 (subC c67 [1, 1, 1])) (fi67.jn 8) (kEnd tab [] nl rs67))))) m4 (killS (fi67.lp 4).alive env) os
noncomputable def L67_4 (K : Nat → List SV → List SO → Out) (N nl : Nat) (m4 : Nat) (x0 x1 x5 : SV) (os : List SO) : Out := loopS nl (fi67.lp 4) (fun env os nx => exec (cx K) N nl fi67 (subC c67 [1, 1, 0, 1, 0, 0]) env os (kLoop nx (kBlock 0 (kSeq (exec (cx K) N nl fi67 (subC c67 [1, 1, 1])) (fi67.jn 8) (kEnd tab [] nl rs67))))) m4 [(0, x0), (1, x1), (5, x5)] os
noncomputable def LB67_4 (K : Nat → List SV → List SO → Out) (N nl : Nat) (m4 : Nat) (x0 x1 x5 : SV) (os : List SO) : Out :=
 bd (lenO tab 26 os x0) fun v4 o4 =>
 bd (ret1 (binS tab .lss 3 x5 v4) o4) fun v5 o5 =>
 condS v5 (bd (ret1 (indexAddrS tab o5 26 x0 x5) o5) fun v6 o6 =>
 bd (ret1 (loadS tab o6 47 v6) o6) fun v7 o7 =>
 bd (ret1 (indexAddrS tab o7 26 x1 x5) o7) fun v8 o8 =>
 bd (ret1 (loadS tab o8 47 v8) o8) fun v9 o9 =>
 bd (callS ⟨tab, ownF, K⟩ o9 103 [v7, v9]) fun v10 o10 =>
 bd (ret1 (unS .not v10) o10) fun v11 o11 =>
 condS v11 (retV tab nl o11 (resC1 (some (SV.v (.bool false))) (some [])))
 (bd (ret1 (binS tab .add 3 x5 (SV.v (.int .i64 1))) o11) fun v12 o12 =>
 L67_4 K N nl m4 x0 x1 v12 o12))
 (retV tab nl o5 (resC1 (some (SV.v (.bool true))) (some [])))
noncomputable def X67 (K : Nat → List SV → List SO → Out) (N nl : Nat) (x0 x1 : SV) (os : List SO) : Out := exec (cx K) N nl fi67 c67 [(0, x0), (1, x1)] os (kEnd tab [] nl rs67)
noncomputable def B67 (K : Nat → List SV → List SO → Out) (N nl : Nat) (x0 x1 : SV) (os : List SO) : Out :=
 bd (lenO tab 26 os x0) fun v1 o1 =>
 bd (lenO tab 26 o1 x1) fun v2 o2 =>
 bd (ret1 (binS tab .neq 3 v1 v2) o2) fun v3 o3 =>
 condS v3 (retV tab nl o3 (resC1 (some (SV.v (.bool false))) (some [])))
 (L67_4 K N nl N x0 x1 (SV.v (.int .i64 0)) o3)
noncomputable def bk68_4 (K : Nat → List SV → List SO → Out) (N nl : Nat) (m4 : Nat) : Env → List SO → Out := fun env os => loopS nl (fi68.lp 4) (fun env os nx => exec (cx K) N nl fi68 (subC c68 [1, 1, 0, 1, 0, 0]) env os (kLoop nx (kBlock 0 (kSeq (exec (cx K) N nl fi68 (subC c68 [1, 1, 1])) (fi68.jn 8) (kEnd tab [] nl rs68))))) m4 (killS (fi68.lp 4).alive env) os
noncomputable def L68_4 (K : Nat → List SV → List SO → Out) (N nl : Nat) (m4 : Nat) (x0 x1 x5 : SV) (os : List SO) : Out := loopS nl (fi68.lp 4) (fun env os nx => exec (cx K) N nl fi68 (subC c68 [1, 1, 0, 1, 0, 0]) env os (kLoop nx (kBlock 0 (kSeq (exec (cx K) N nl fi68 (subC c68 [1, 1, 1])) (fi68.jn 8) (kEnd tab [] nl rs68))))) m4 [(0, x0), (1, x1), (5, x5)] os
noncomputable def LB68_4 (K : Nat → List SV → List SO → Out) (N nl : Nat) (m4 : Nat) (x0 x1 x5 : SV) (os : List SO) : Out :=
 bd (lenO tab 27 os x0) fun v4 o4 =>
 bd (ret1 (binS tab .lss 3 x5 v4) o4) fun v5 o5 =>
 condS v5 (bd (ret1 (indexAddrS tab o5 27 x0 x5) o5) fun v6 o6 =>
 bd (ret1 (loadS tab o6 43 v6) o6) fun v7 o7 =>
 bd (ret1 (indexAddrS tab o7 27 x1 x5) o7) fun v8 o8 =>
 bd (ret1 (loadS tab o8 43 v8) o8) fun v9 o9 =>
 bd (callS ⟨tab, ownF, K⟩ o9 104 [v7, v9]) fun v10 o10 =>
 bd (ret1 (unS .not v10) o10) fun v11 o11 =>
 condS v11 (retV tab nl o11 (resC1 (some (SV.v (.bool false))) (some [])))
 (bd (ret1 (binS tab .add 3 x5 (SV.v (.int .i64 1))) o11) fun v12 o12 =>
 L68_4 K N nl m4 x0 x1 v12 o12))
 (retV tab nl o5 (resC1 (some (SV.v (.bool true))) (some [])))
noncomputable def X68 (K : Nat → List SV → List SO → Out) (N nl : Nat) (x0 x1 : SV) (os : List SO) : Out := exec (cx K) N nl fi68 c68 [(0, x0), (1, x1)] os (kEnd tab [] nl rs68)
noncomputable def B68 (K : Nat → List SV → List SO → Out) (N nl : Nat) (x0 x1 : SV) (os : List SO) : Out :=
 bd (lenO tab 27 os x0) fun v1 o1 =>
 bd (lenO tab 27 o1 x1) fun v2 o2 =>
 bd (ret1 (binS tab .neq 3 v1 v2) o2) fun v3 o3 =>
 condS v3 (retV tab nl o3 (resC1 (some (SV.v (.bool false))) (some [])))
 (L68_4 K N nl N x0 x1 (SV.v (.int .i64 0)) o3)
noncomputable def bk69_2 (K : Nat → List SV → List SO → Out) (N nl : Nat) (m2 : Nat) : Env → List SO → Out := fun env os => loopS nl (fi69.lp 2) (fun env os nx => exec (cx K) N nl fi69 (subC c69 [1, 0, 1, 0, 0]) env os (kLoop nx (kBlock 0 (kSeq (exec (cx K) N nl fi69 (subC c69 [1, 1])) (fi69.jn 8) (kEnd tab [] nl rs69))))) m2 (killS (fi69.lp 2).alive env) os
noncomputable def L69_2 (K : Nat → List SV → List SO → Out) (N nl : Nat) (m2 : Nat) (x0 x1 x5 : SV) (os : List SO) : Out := loopS nl (fi69.lp 2) (fun env os nx => exec (cx K) N nl fi69 (subC c69 [1, 0, 1, 0, 0]) env os (kLoop nx (kBlock 0 (kSeq (exec (cx K) N nl fi69 (subC c69 [1, 1])) (fi69.jn 8) (kEnd tab [] nl rs69))))) m2 [(0, x0), (1, x1), (5, x5)] os
noncomputable def LB69_2 (K : Nat → List SV → List SO → Out) (N nl : Nat) (m2 : Nat) (x0 x1 x5 : SV) (os : List SO) : Out :=
 bd (lenO tab 26 os x0) fun v1 o1 =>
 bd (ret1 (binS tab .lss 3 x5 v1) o1) fun v2 o2 =>
 condS v2 (bd (ret1 (indexAddrS tab o2 26 x0 x5) o2) fun v3 o3 =>
 bd (ret1 (fieldAddrS tab 47 v3 0) o3) fun v4 o4 =>
 bd (storeO tab o4 3 v4 (some x1)) fun v5 o5 =>
 bd (ret1 (binS tab .add 3 x1 (SV.v (.int .i64 1))) o5) fun v6 o6 =>
 bd (ret1 (indexAddrS tab o6 26 x0 x5) o6) fun v7 o7 =>
 bd (ret1 (fieldAddrS tab 47 v7 1) o7) fun v8 o8 =>
 bd (storeO tab o8 3 v8 (some v6)) fun v9 o9 =>
 bd (ret1 (binS tab .add 3 v6 (SV.v (.int .i64 1))) o9) fun v10 o10 =>
 bd (ret1 (binS tab .add 3 x5 (SV.v (.int .i64 1))) o10) fun v11 o11 =>
 L69_2 K N nl m2 x0 v10 v11 o11)
 (retV tab nl o2 (resC1 (some x1) (some [])))
noncomputable def X69 (K : Nat → List SV → List SO → Out) (N nl : Nat) (x0 x1 : SV) (os : List SO) : Out := exec (cx K) N nl fi69 c69 [(0, x0), (1, x1)] os (kEnd tab [] nl rs69)
noncomputable def B69 (K : Nat → List SV → List SO → Out) (N nl : Nat) (x0 x1 : SV) (os : List SO) : Out :=
 L69_2 K N nl N x0 x1 (SV.v (.int .i64 0)) os
noncomputable def bk70_2 (K : Nat → List SV → List SO → Out) (N nl : Nat) (m2 : Nat) : Env → List SO → Out := fun env os => loopS nl (fi70.lp 2) (fun env os nx => exec (cx K) N nl fi70 (subC c70 [1, 0, 1, 0, 0]) env os (kLoop nx (kBlock 0 (kSeq (exec (cx K) N nl fi70 (subC c70 [1, 1])) (fi70.jn 8) (kEnd tab [] nl rs70))))) m2 (killS (fi70.lp 2).alive env) os
noncomputable def L70_2 (K : Nat → List SV → List SO → Out) (N nl : Nat) (m2 : Nat) (x0 x1 x5 : SV) (os : List SO) : Out := loopS nl (fi70.lp 2) (fun env os nx => exec (cx K) N nl fi70 (subC c70 [1, 0, 1, 0, 0]) env os (kLoop nx (kBlock 0 (kSeq (exec (cx K) N nl fi70 (subC c70 [1, 1])) (fi70.jn 8) (kEnd tab [] nl rs70))))) m2 [(0, x0), (1, x1), (5, x5)] os
noncomputable def LB70_2 (K : Nat → List SV → List SO → Out) (N nl : Nat) (m2 : Nat) (x0 x1 x5 : SV) (os : List SO) : Out :=
 bd (lenO tab 27 os x0) fun v1 o1 =>
 bd (ret1 (binS tab .lss 3 x5 v1) o1) fun v2 o2 =>
 condS v2 (bd (ret1 (indexAddrS tab o2 27 x0 x5) o2) fun v3 o3 =>
 bd (ret1 (fieldAddrS tab 43 v3 0) o3) fun v4 o4 =>
 bd (storeO tab o4 3 v4 (some x1)) fun v5 o5 =>
 bd (ret1 (binS tab .add 3 x1 (SV.v (.int .i64 1))) o5) fun v6 o6 =>
 bd (ret1 (indexAddrS tab o6 27 x0 x5) o6) fun v7 o7 =>
 bd (ret1 (fieldAddrS tab 43 v7 1) o7) fun v8 o8 =>
 bd (storeO tab o8 3 v8 (some v6)) fun v9 o9 =>
 bd (ret1 (binS tab .add 3 v6 (SV.v (.int .i64 1))) o9) fun v10 o10 =>
 bd (ret1 (binS tab .add 3 x5 (SV.v (.int .i64 1))) o10) fun v11 o11 =>
 L70_2 K N nl m2 x0 v10 v11 o11)
 (retV tab nl o2 (resC1 (some x1) (some [])))
noncomputable def X70 (K : Nat → List SV → List SO → Out) (N nl : Nat) (x0 x1 : SV) (os : List SO) : Out := exec (cx K) N nl fi70 c70 [(0, x0), (1, x1)] os (kEnd tab [] nl rs70)
noncomputable def B70 (K : Nat → List SV → List SO → Out) (N nl : Nat) (x0 x1 : SV) (os : List SO) : Out :=
 L70_2 K N nl N x0 x1 (SV.v (.int .i64 0)) os
noncomputable def bk71_2 (K : Nat → List SV → List SO → Out) (N nl : Nat) (m2 : Nat) : Env → List SO → Out := fun env os => loopS nl (fi71.lp 2) (fun env os nx => exec (cx K) N nl fi71 (subC c71 [1, 0, 1, 0, 0]) env os (kLoop nx (kBlock 0 (kSeq (exec (cx K) N nl fi71 (subC c71 [1, 1])) (fi71.jn 10) (kEnd tab [] nl rs71))))) m2 (killS (fi71.lp 2).alive env) os
noncomputable def L71_2 (K : Nat → List SV → List SO → Out) (N nl : Nat) (m2 : Nat) (x0 x1 x5 : SV) (os : List SO) : Out := loopS nl (fi71.lp 2) (fun env os nx => exec (cx K) N nl fi71 (subC c71 [1, 0, 1, 0, 0]) env os (kLoop nx (kBlock 0 (kSeq (exec (cx K) N nl fi71 (subC c71 [1, 1])) (fi71.jn 10) (kEnd tab [] nl rs71))))) m2 [(0, x0), (1, x1), (5, x5)] os
noncomputable def LB71_2 (K : Nat → List SV → List SO → Out) (N nl : Nat) (m2 : Nat) (x0 x1 x5 : SV) (os : List SO) : Out :=
 bd (lenO tab 26 os x0) fun v1 o1 =>
 bd (ret1 (binS tab .lss 3 x5 v1) o1) fun v2 o2 =>
 condS v2 (bd (ret1 (indexAddrS tab o2 26 x0 x5) o2) fun v3 o3 =>
 bd (ret1 (fieldAddrS tab 47 v3 0) o3) fun v4 o4 =>
 bd (ret1 (loadS tab o4 3 v4) o4) fun v5 o5 =>
 bd (ret1 (binS tab .neq 3 v5 x1) o5) fun v6 o6 =>
 condS v6 (retV tab nl o6 (resC1 (some (SV.v (.int .i64 (-1)))) (some [])))
 (bd (ret1 (binS tab .add 3 x1 (SV.v (.int .i64 1))) o6) fun v7 o7 =>
 bd (ret1 (indexAddrS tab o7 26 x0 x5) o7) fun v8 o8 =>
 bd (ret1 (fieldAddrS tab 47 v8 1) o8) fun v9 o9 =>
 bd (ret1 (loadS tab o9 3 v9) o9) fun v10 o10 =>
 bd (ret1 (binS tab .neq 3 v10 v7) o10) fun v11 o11 =>
 condS v11 (retV tab nl o11 (resC1 (some (SV.v (.int .i64 (-1)))) (some [])))
 (bd (ret1 (binS tab .add 3 v7 (SV.v (.int .i64 1))) o11) fun v12 o12 =>
 bd (ret1 (binS tab .add 3 x5 (SV.v (.int .i64 1))) o12) fun v13 o13 =>
 L71_2 K N nl m2 x0 v12 v13 o13)))
 (retV tab nl o2 (resC1 (some x1) (some [])))
noncomputable def X71 (K : Nat → List SV → List SO → Out) (N nl : Nat) (x0 x1 : SV) (os : List SO) : Out := exec (cx K) N nl fi71 c71 [(0, x0), (1, x1)] os (kEnd tab [] nl rs71)
noncomputable def B71 (K : Nat → List SV → List SO → Out) (N nl : Nat) (x0 x1 : SV) (os : List SO) : Out :=
 L71_2 K N nl N x0 x1 (SV.v (.int .i64 0)) os
noncomputable def bk72_2 (K : Nat → List SV → List SO → Out) (N nl : Nat) (m2 : Nat) : Env → List SO → Out := fun env os => loopS nl (fi72.lp 2) (fun env os nx => exec (cx K) N nl fi72 (subC c72 [1, 0, 1, 0, 0]) env os (kLoop nx (kBlock 0 (kSeq (exec (cx K) N nl fi72 (subC c72 [1, 1])) (fi72.jn 10) (kEnd tab [] nl rs72))))) m2 (killS (fi72.lp 2).alive env) os
noncomputable def L72_2 (K : Nat → List SV → List SO → Out) (N nl : Nat) (m2 : Nat) (x0 x1 x5 : SV) (os : List SO) : Out := loopS nl (fi72.lp 2) (fun env os nx => exec (cx K) N nl fi72 (subC c72 [1, 0, 1, 0, 0]) env os (kLoop nx (kBlock 0 (kSeq (exec (cx K) N nl fi72 (subC c72 [1, 1])) (fi72.jn 10) (kEnd tab [] nl rs72))))) m2 [(0, x0), (1, x1), (5, x5)] os
noncomputable def LB72_2 (K : Nat → List SV → List SO → Out) (N nl : Nat) (m2 : Nat) (x0 x1 x5 : SV) (os : List SO) : Out :=
 bd (lenO tab 27 os x0) fun v1 o1 =>
 bd (ret1 (binS tab .lss 3 x5 v1) o1) fun v2 o2 =>
 condS v2 (bd (ret1 (indexAddrS tab o2 27 x0 x5) o2) fun v3 o3 =>
 bd (ret1 (fieldAddrS tab 43 v3 0) o3) fun v4 o4 =>
 bd (ret1 (loadS tab o4 3 v4) o4) fun v5 o5 =>
 bd (ret1 (binS tab .neq 3 v5 x1) o5) fun v6 o6 =>
 condS v6 (retV tab nl o6 (resC1 (some (SV.v (.int .i64 (-1)))) (some [])))
 (bd (ret1 (binS tab .add 3 x1 (SV.v (.int .i64 1))) o6) fun v7 o7 =>
 bd (ret1 (indexAddrS tab o7 27 x0 x5) o7) fun v8 o8 =>
 bd (ret1 (fieldAddrS tab 43 v8 1) o8) fun v9 o9 =>
 bd (ret1 (loadS tab o9 3 v9) o9) fun v10 o10 =>
 bd (ret1 (binS tab .neq 3 v10 v7) o10) fun v11 o11 =>
 condS v11 (retV tab nl o11 (resC1 (some (SV.v (.int .i64 (-1)))) (some [])))
 (bd (ret1 (binS tab .add 3 v7 (SV.v (.int .i64 1))) o11) fun v12 o12 =>
 bd (ret1 (binS tab .add 3 x5 (SV.v (.int .i64 1))) o12) fun v13 o13 =>
 L72_2 K N nl m2 x0 v12 v13 o13)))
 (retV tab nl o2 (resC1 (some x1) (some [])))
noncomputable def X72 (K : Nat → List SV → List SO → Out) (N nl : Nat) (x0 x1 : SV) (os : List SO) : Out := exec (cx K) N nl fi72 c72 [(0, x0), (1, x1)] os (kEnd tab [] nl rs72)
noncomputable def B72 (K : Nat → List SV → List SO → Out) (N nl : Nat) (x0 x1 : SV) (os : List SO) : Out :=
 L72_2 K N nl N x0 x1 (SV.v (.int .i64 0)) os
noncomputable def bk73_8 (K : Nat → List SV → List SO → Out) (N nl : Nat) (m8 : Nat) : Env → List SO → Out := fun env os => loopS nl (fi73.lp 8) (fun env os nx => exec (cx K) N nl fi73 (subC c73 [1, 1, 1, 1, 1, 1, 0, 0, 0]) env os (kLoop nx (kBlock 0 (kSeq (exec (cx K) N nl fi73 (subC c73 [1, 1, 1, 1, 1, 1, 1])) (fi73.jn 10) (kEnd tab [] nl rs73))))) m8 (killS (fi73.lp 8).alive env) os
noncomputable def bk74_3 (K : Nat → List SV → List SO → Out) (N nl : Nat) (m3 : Nat) : Env → List SO → Out := fun env os => loopS nl (fi74.lp 3) (fun env os nx => exec (cx K) N nl fi74 (subC c74 [1, 1, 0, 1, 0, 0]) env os (kLoop nx (kBlock 0 (kSeq (exec (cx K) N nl fi74 (subC c74 [1, 1, 1])) (fi74.jn 6) (kEnd tab [] nl rs74))))) m3 (killS (fi74.lp 3).alive env) os
noncomputable def bk74_7 (K : Nat → List SV → List SO → Out) (N nl : Nat) (m7 : Nat) : Env → List SO → Out := fun env os => loopS nl (fi74.lp 7) (fun env os nx => exec (cx K) N nl fi74 (subC c74 [1, 1, 1, 0, 1, 0, 0]) env os (kLoop nx (kBlock 2 (kSeq (exec (cx K) N nl fi74 (subC c74 [1, 1, 1, 1])) (fi74.jn 13) (kEnd tab [] nl rs74))))) m7 (killS (fi74.lp 7).alive env) os
noncomputable def bk74_10 (K : Nat → List SV → List SO → Out) (N nl : Nat) (m7 : Nat) (m10 : Nat) : Env → List SO → Out := fun env os => loopS nl (fi74.lp 10) (fun env os nx => exec (cx K) N nl fi74 (subC c74 [1, 1, 1, 0, 1, 0, 0, 1, 0, 0, 1, 0, 0]) env os (kLoop nx (kBlock 4 (kBlock 3 (kSeq (exec (cx K) N nl fi74 (subC c74 [1, 1, 1, 0, 1, 0, 0, 1, 1])) (fi74.jn 8) (kLoop (bk74_7 K N nl m7) (kBlock 2 (kSeq (exec (cx K) N nl fi74 (subC c74 [1, 1, 1, 1])) (fi74.jn 13) (kEnd tab [] nl rs74))))))))) m10 (killS (fi74.lp 10).alive env) os
noncomputable def L74_3 (K : Nat → List SV → List SO → Out) (N nl : Nat) (m3 : Nat) (x0 x3 x4 : SV) (os : List SO) : Out := loopS nl (fi74.lp 3) (fun env os nx => exec (cx K) N nl fi74 (subC c74 [1, 1, 0, 1, 0, 0]) env os (kLoop nx (kBlock 0 (kSeq (exec (cx K) N nl fi74 (subC c74 [1, 1, 1])) (fi74.jn 6) (kEnd tab [] nl rs74))))) m3 [(0, x0), (3, x3), (4, x4)] os
noncomputable def L74_7 (K : Nat → List SV → List SO → Out) (N nl : Nat) (m7 : Nat) (x0 x3 x5 : SV) (os : List SO) : Out := loopS nl (fi74.lp 7) (fun env os nx => exec (cx K) N nl fi74 (subC c74 [1, 1, 1, 0, 1, 0, 0]) env os (kLoop nx (kBlock 2 (kSeq (exec (cx K) N nl fi74 (subC c74 [1, 1, 1, 1])) (fi74.jn 13) (kEnd tab [] nl rs74))))) m7 [(0, x0), (3, x3), (5, x5)] os
noncomputable def L74_10 (K : Nat → List SV → List SO → Out) (N nl : Nat) (m7 : Nat) (m10 : Nat) (x0 x3 x5 x6 : SV) (os : List SO) : Out := loopS nl (fi74.lp 10) (fun env os nx => exec (cx K) N nl fi74 (subC c74 [1, 1, 1, 0, 1, 0, 0, 1, 0, 0, 1, 0, 0]) env os (kLoop nx (kBlock 4 (kBlock 3 (kSeq (exec (cx K) N nl fi74 (subC c74 [1, 1, 1, 0, 1, 0, 0, 1, 1])) (fi74.jn 8) (kLoop (bk74_7 K N nl m7) (kBlock 2 (kSeq (exec (cx K) N nl fi74 (subC c74 [1, 1, 1, 1])) (fi74.jn 13) (kEnd tab [] nl rs74))))))))) m10 [(0, x0), (3, x3), (5, x5), (6, x6)] os
noncomputable def LB74_3 (K : Nat → List SV → List SO → Out) (N nl : Nat) (m3 : Nat) (x0 x3 x4 : SV) (os : List SO) : Out :=
 bd (lenO tab 45 os x3) fun v3 o3 =>
 bd (ret1 (binS tab .lss 3 x4 v3) o3) fun v4 o4 =>
 condS v4 (bd (ret1 (indexAddrS tab o4 45 x3 x4) o4) fun v5 o5 =>
 bd (storeO tab o5 3 v5 (some (SV.v (.int .i64 (-1))))) fun v6 o6 =>
 bd (ret1 (binS tab .add 3 x4 (SV.v (.int .i64 1))) o6) fun v7 o7 =>
 L74_3 K N nl m3 x0 x3 v7 o7)
 (L74_7 K N nl N x0 x3 (SV.v (.int .i64 0)) o4)
noncomputable def LB74_7 (K : Nat → List SV → List SO → Out) (N nl : Nat) (m7 : Nat) (x0 x3 x5 : SV) (os : List SO) : Out :=
 bd (lenO tab 23 os x0) fun v8 o8 =>
 bd (ret1 (binS tab .lss 3 x5 v8) o8) fun v9 o9 =>
 condS v9 (L74_10 K N nl m7 N x0 x3 x5 (SV.v (.int .i64 0)) o9)
 (retV tab nl o9 (resC1 (some x3) (some [])))
noncomputable def LB74_10 (K : Nat → List SV → List SO → Out) (N nl : Nat) (m7 : Nat) (m10 : Nat) (x0 x3 x5 x6 : SV) (os : List SO) : Out :=
 bd (ret1 (indexAddrS tab os 23 x0 x5) os) fun v10 o10 =>
 bd (ret1 (fieldAddrS tab 29 v10 2) o10) fun v11 o11 =>
 bd (ret1 (loadS tab o11 26 v11) o11) fun v12 o12 =>
 bd (lenO tab 26 o12 v12) fun v13 o13 =>
 bd (ret1 (binS tab .lss 3 x6 v13) o13) fun v14 o14 =>
 condS v14 (bd (ret1 (indexAddrS tab o14 23 x0 x5) o14) fun v15 o15 =>
 bd (ret1 (fieldAddrS tab 29 v15 2) o15) fun v16 o16 =>
 bd (ret1 (loadS tab o16 26 v16) o16) fun v17 o17 =>
 bd (ret1 (indexAddrS tab o17 26 v17 x6) o17) fun v18 o18 =>
 bd (ret1 (fieldAddrS tab 47 v18 0) o18) fun v19 o19 =>
 bd (ret1 (loadS tab o19 3 v19) o19) fun v20 o20 =>
 bd (ret1 (indexAddrS tab o20 23 x0 x5) o20) fun v21 o21 =>
 bd (ret1 (fieldAddrS tab 29 v21 2) o21) fun v22 o22 =>
 bd (ret1 (loadS tab o22 26 v22) o22) fun v23 o23 =>
 bd (ret1 (indexAddrS tab o23 26 v23 x6) o23) fun v24 o24 =>
 bd (ret1 (fieldAddrS tab 47 v24 1) o24) fun v25 o25 =>
 bd (ret1 (loadS tab o25 3 v25) o25) fun v26 o26 =>
 bd (ret1 (indexAddrS tab o26 45 x3 v20) o26) fun v27 o27 =>
 bd (storeO tab o27 3 v27 (some v26)) fun v28 o28 =>
 bd (ret1 (binS tab .add 3 x6 (SV.v (.int .i64 1))) o28) fun v29 o29 =>
 L74_10 K N nl m7 m10 x0 x3 x5 v29 o29)
 (bd (ret1 (binS tab .add 3 x5 (SV.v (.int .i64 1))) o14) fun v30 o30 =>
 L74_7 K N nl m7 x0 x3 v30 o30)
noncomputable def X74 (K : Nat → List SV → List SO → Out) (N nl : Nat) (x0 : SV) (os : List SO) : Out := exec (cx K) N nl fi74 c74 [(0, x0)] os (kEnd tab [] nl rs74)
noncomputable def B74 (K : Nat → List SV → List SO → Out) (N nl : Nat) (x0 : SV) (os : List SO) : Out :=
 bd (evN tab 45 os none) fun v1 o1 =>
 bd (makeS tab o1 45 (SV.v (.int .i64 6)) (SV.v (.int .i64 6))) fun v2 o2 =>
 L74_3 K N nl N x0 v2 (SV.v (.int .i64 0)) o2
noncomputable def bk75_2 (K : Nat → List SV → List SO → Out) (N nl : Nat) (m2 : Nat) : Env → List SO → Out := fun env os => loopS nl (fi75.lp 2) (fun env os nx => exec (cx K) N nl fi75 (subC c75 [1, 0, 1, 0, 0]) env os (kLoop nx (kBlock 0 (kSeq (exec (cx K) N nl fi75 (subC c75 [1, 1])) (fi75.jn 16) (kEnd tab [] nl rs75))))) m2 (killS (fi75.lp 2).alive env) os
noncomputable def X77 (K : Nat → List SV → List SO → Out) (N nl : Nat) (x0 x1 x2 : SV) (os : List SO) : Out := exec (cx K) N nl fi77 c77 [(0, x0), (1, x1), (2, x2)] os (kEnd tab [] nl rs77)
noncomputable def B77 (K : Nat → List SV → List SO → Out) (N nl : Nat) (x0 x1 x2 : SV) (os : List SO) : Out :=
 bd (ret1 (binS tab .geq 3 x0 x1) os) fun v1 o1 =>
 bd (gd v1 true (some (x0, o1)) o1) fun v2 o2 =>
 bd (gd v1 true (some (x2, o2)) o2) fun v3 o3 =>
 bd (gd v1 true (ret1 (binS tab .leq 3 v2 v3) o3) o3) fun v4 o4 =>
 bd (ret1 (pickS v1 v4 (SV.v (.bool false))) o4) fun v5 o5 =>
 retV tab nl o5 (resC1 (some v5) (some []))
noncomputable def bk78_3 (K : Nat → List SV → List SO → Out) (N nl : Nat) (m3 : Nat) : Env → List SO → Out := fun env os => loopS nl (fi78.lp 3) (fun env os nx => exec (cx K) N nl fi78 (subC c78 [1, 1, 0, 1, 0, 0]) env os (kLoop nx (kBlock 0 (kSeq (exec (cx K) N nl fi78 (subC c78 [1, 1, 1])) (fi78.jn 6) (kEnd tab [] nl rs78))))) m3 (killS (fi78.lp 3).alive env) os
noncomputable def X80 (K : Nat → List SV → List SO → Out) (N nl : Nat) (x0 x1 x2 : SV) (os : List SO) : Out := exec (cx K) N nl fi80 c80 [(0, x0), (1, x1), (2, x2)] os (kEnd tab [] nl rs80)
noncomputable def B80 (K : Nat → List SV → List SO → Out) (N nl : Nat) (x0 x1 x2 : SV) (os : List SO) : Out :=
 bd (ret1 (binS tab .geq 3 x0 x1) os) fun v1 o1 =>
 bd (gd v1 true (some (x0, o1)) o1) fun v2 o2 =>
 bd (gd v1 true (some (x2, o2)) o2) fun v3 o3 =>
 bd (gd v1 true (ret1 (binS tab .leq 3 v2 v3) o3) o3) fun v4 o4 =>
 bd (ret1 (pickS v1 v4 (SV.v (.bool false))) o4) fun v5 o5 =>
 retV tab nl o5 (resC1 (some v5) (some []))
noncomputable def bk82_2 (K : Nat → List SV → List SO → Out) (N nl : Nat) (m2 : Nat) : Env → List SO → Out := fun env os => loopS nl (fi82.lp 2) (fun env os nx => exec (cx K) N nl fi82 (subC c82 [1, 0, 1, 0, 0]) env os (kLoop nx (kBlock 0 (kSeq (exec (cx K) N nl fi82 (subC c82 [1, 1])) (fi82.jn 6) (kEnd tab [] nl rs82))))) m2 (killS (fi82.lp 2).alive env) os
noncomputable def bk83_4 (K : Nat → List SV → List SO → Out) (N nl : Nat) (m4 : Nat) : Env → List SO → Out := fun env os => loopS nl (fi83.lp 4) (fun env os nx => exec (cx K) N nl fi83 (subC c83 [1, 1, 0, 1, 0, 0]) env os (kLoop nx (kBlock 0 (kSeq (exec (cx K) N nl fi83 (subC c83 [1, 1, 1])) (fi83.jn 9) (kEnd tab [] nl rs83))))) m4 (killS (fi83.lp 4).alive env) os
noncomputable def X85 (K : Nat → List SV → List SO → Out) (N nl : Nat) (x0 : SV) (os : List SO) : Out := exec (cx K) N nl fi85 c85 [(0, x0)] os (kEnd tab [] nl rs85)
noncomputable def B85 (K : Nat → List SV → List SO → Out) (N nl : Nat) (x0 : SV) (os : List SO) : Out :=
 bd (boxS tab os 29 (some x0)) fun v1 o1 =>
 bd (allocS tab o1 29) fun v2 o2 =>
 bd (buildSliceS tab o2 26 0 []) fun v3 o3 =>
 bd (ret1 (fieldAddrS tab 29 v1 2) o3) fun v4 o4 =>
 bd (ret1 (loadS tab o4 26 v4) o4) fun v5 o5 =>
 bd (appendS tab o5 26 26 v3 v5) fun v6 o6 =>
 bd (ret1 (fieldAddrS tab 29 v1 2) o6) fun v7 o7 =>
 bd (storeO tab o7 26 v7 (some v6)) fun v8 o8 =>
 bd (buildSliceS tab o8 27 0 []) fun v9 o9 =>
 bd (ret1 (fieldAddrS tab 29 v1 3) o9) fun v10 o10 =>
 bd (ret1 (loadS tab o10 27 v10) o10) fun v11 o11 =>
 bd (appendS tab o11 27 27 v9 v11) fun v12 o12 =>
 bd (ret1 (fieldAddrS tab 29 v1 3) o12) fun v13 o13 =>
 bd (storeO tab o13 27 v13 (some v12)) fun v14 o14 =>
 bd (ret1 (loadS tab o14 29 v1) o14) fun v15 o15 =>
 bd (storeO tab o15 29 v2 (some v15)) fun v16 o16 =>
 retV tab nl o16 (resC1 (loadS tab o16 29 v2) (some []))
noncomputable def bk86_4 (K : Nat → List SV → List SO → Out) (N nl : Nat) (m4 : Nat) : Env → List SO → Out := fun env os => loopS nl (fi86.lp 4) (fun env os nx => exec (cx K) N nl fi86 (subC c86 [1, 1, 0, 1, 0, 0]) env os (kLoop nx (kBlock 0 (kSeq (exec (cx K) N nl fi86 (subC c86 [1, 1, 1])) (fi86.jn 9) (kEnd tab [] nl rs86))))) m4 (killS (fi86.lp 4).alive env) os
noncomputable def bk86_10 (K : Nat → List SV → List SO → Out) (N nl : Nat) (m10 : Nat) : Env → List SO → Out := fun env os => loopS nl (fi86.lp 10) (fun env os nx => exec (cx K) N nl fi86 (subC c86 [1, 1, 1, 0, 1, 0, 0]) env os (kLoop nx (kBlock 2 (kSeq (exec (cx K) N nl fi86 (subC c86 [1, 1, 1, 1])) (fi86.jn 15) (kEnd tab [] nl rs86))))) m10 (killS (fi86.lp 10).alive env) os
noncomputable def L86_4 (K : Nat → List SV → List SO → Out) (N nl : Nat) (m4 : Nat) (x1 x30 x31 x32 : SV) (os : List SO) : Out := loopS nl (fi86.lp 4) (fun env os nx => exec (cx K) N nl fi86 (subC c86 [1, 1, 0, 1, 0, 0]) env os (kLoop nx (kBlock 0 (kSeq (exec (cx K) N nl fi86 (subC c86 [1, 1, 1])) (fi86.jn 9) (kEnd tab [] nl rs86))))) m4 [(1, x1), (30, x30), (31, x31), (32, x32)] os
noncomputable def G86_4 (K : Nat → List SV → List SO → Out) (N nl : Nat) (m4 : Nat) (xs : List SV) (os : List SO) : Out := (fun env os nx => exec (cx K) N nl fi86 (subC c86 [1, 1, 0, 1, 0, 0]) env os (kLoop nx (kBlock 0 (kSeq (exec (cx K) N nl fi86 (subC c86 [1, 1, 1])) (fi86.jn 9) (kEnd tab [] nl rs86))))) (zipE [1, 30, 31, 32] xs) os (bk86_4 K N nl m4)
noncomputable def L86_10 (K : Nat → List SV → List SO → Out) (N nl : Nat) (m10 : Nat) (x1 x65 x66 x67 : SV) (os : List SO) : Out := loopS nl (fi86.lp 10) (fun env os nx => exec (cx K) N nl fi86 (subC c86 [1, 1, 1, 0, 1, 0, 0]) env os (kLoop nx (kBlock 2 (kSeq (exec (cx K) N nl fi86 (subC c86 [1, 1, 1, 1])) (fi86.jn 15) (kEnd tab [] nl rs86))))) m10 [(1, x1), (65, x65), (66, x66), (67, x67)] os
noncomputable def G86_10 (K : Nat → List SV → List SO → Out) (N nl : Nat) (m10 : Nat) (xs : List SV) (os : List SO) : Out := (fun env os nx => exec (cx K) N nl fi86 (subC c86 [1, 1, 1, 0, 1, 0, 0]) env os (kLoop nx (kBlock 2 (kSeq (exec (cx K) N nl fi86 (subC c86 [1, 1, 1, 1])) (fi86.jn 15) (kEnd tab [] nl rs86))))) (zipE [1, 65, 66, 67] xs) os (bk86_10 K N nl m10)
noncomputable def GB86_4 (K : Nat → List SV → List SO → Out) (N nl : Nat) (m4 : Nat) (x1 x30 x31 x32 : SV) (os : List SO) : Out :=
 bd (ret1 (binS tab .lss 3 x32 x31) os) fun v24 o24 =>
 condS v24 (bd (ret1 (indexAddrS tab o24 26 x30 x32) o24) fun v25 o25 =>
 bd (ret1 (loadS tab o25 47 v25) o25) fun v26 o26 =>
 bd (allocS tab o26 47) fun v27 o27 =>
 bd (storeO tab o27 47 v27 (some v26)) fun v28 o28 =>
 bd (ret1 (fieldAddrS tab 47 v27 0) o28) fun v29 o29 =>
 bd (ret1 (loadS tab o29 3 v29) o29) fun v30 o30 =>
 bd (callS ⟨tab, ownF, K⟩ o30 80 [v30, (SV.v (.int .i64 0)), (SV.v (.int .i64 5))]) fun v31 o31 =>
 bd (ret1 (unS .not v31) o31) fun v32 o32 =>
 bd (gd v32 false (ret1 (fieldAddrS tab 47 v27 1) o32) o32) fun v33 o33 =>
 bd (gd v32 false (ret1 (loadS tab o33 3 v33) o33) o33) fun v34 o34 =>
 bd (gd v32 false (callS ⟨tab, ownF, K⟩ o34 80 [v34, (SV.v (.int .i64 0)), (SV.v (.int .i64 9))]) o34) fun v35 o35 =>
 bd (gd v32 false (ret1 (unS .not v35) o35) o35) fun v36 o36 =>
 bd (ret1 (pickS v32 (SV.v (.bool true)) v36) o36) fun v37 o37 =>
 bd (gd v37 false (some (x32, o37)) o37) fun v38 o38 =>
 bd (gd v37 false (ret1 (binS tab .gtr 3 v38 (SV.v (.int .i64 0))) o38) o38) fun v39 o39 =>
 bd (gd v37 false (some (v39, o39)) o39) fun v40 o40 =>
 bd (gd v40 true (ret1 (fieldAddrS tab 47 v27 0) o40) o40) fun v41 o41 =>
 bd (gd v40 true (ret1 (loadS tab o41 3 v41) o41) o41) fun v42 o42 =>
 bd (gd v40 true (ret1 (fieldAddrS tab 29 x1 2) o42) o42) fun v43 o43 =>
 bd (gd v40 true (ret1 (loadS tab o43 26 v43) o43) o43) fun v44 o44 =>
 bd (gd v40 true (some (x32, o44)) o44) fun v45 o45 =>
 bd (gd v40 true (ret1 (binS tab .sub 3 v45 (SV.v (.int .i64 1))) o45) o45) fun v46 o46 =>
 bd (gd v40 true (ret1 (indexAddrS tab o46 26 v44 v46) o46) o46) fun v47 o47 =>
 bd (gd v40 true (ret1 (fieldAddrS tab 47 v47 0) o47) o47) fun v48 o48 =>
 bd (gd v40 true (ret1 (loadS tab o48 3 v48) o48) o48) fun v49 o49 =>
 bd (gd v40 true (ret1 (binS tab .leq 3 v42 v49) o49) o49) fun v50 o50 =>
 bd (gd v37 false (ret1 (pickS v40 v50 (SV.v (.bool false))) o50) o50) fun v51 o51 =>
 bd (ret1 (pickS v37 (SV.v (.bool true)) v51) o51) fun v52 o52 =>
 condS v52 (retV tab nl o52 (resC1 (some (SV.v (.bool false))) (some [])))
 (bd (ret1 (binS tab .add 3 x32 (SV.v (.int .i64 1))) o52) fun v53 o53 =>
 L86_4 K N nl m4 x1 x30 x31 v53 o53))
 (bd (ret1 (fieldAddrS tab 29 x1 3) o24) fun v54 o54 =>
 bd (ret1 (loadS tab o54 27 v54) o54) fun v55 o55 =>
 bd (lenO tab 27 o55 v55) fun v56 o56 =>
 L86_10 K N nl N x1 v55 v56 (SV.v (.int .i64 0)) o56)
noncomputable def GB86_10 (K : Nat → List SV → List SO → Out) (N nl : Nat) (m10 : Nat) (x1 x65 x66 x67 : SV) (os : List SO) : Out :=
 bd (ret1 (binS tab .lss 3 x67 x66) os) fun v57 o57 =>
 condS v57 (bd (ret1 (indexAddrS tab o57 27 x65 x67) o57) fun v58 o58 =>
 bd (ret1 (loadS tab o58 43 v58) o58) fun v59 o59 =>
 bd (allocS tab o59 43) fun v60 o60 =>
 bd (storeO tab o60 43 v60 (some v59)) fun v61 o61 =>
 bd (ret1 (fieldAddrS tab 43 v60 0) o61) fun v62 o62 =>
 bd (ret1 (loadS tab o62 3 v62) o62) fun v63 o63 =>
 bd (callS ⟨tab, ownF, K⟩ o63 107 [v63]) fun v64 o64 =>
 bd (ret1 (unS .not v64) o64) fun v65 o65 =>
 bd (gd v65 false (ret1 (fieldAddrS tab 43 v60 0) o65) o65) fun v66 o66 =>
 bd (gd v65 false (ret1 (loadS tab o66 3 v66) o66) o66) fun v67 o67 =>
 bd (gd v65 false (ret1 (fieldAddrS tab 29 x1 0) o67) o67) fun v68 o68 =>
 bd (gd v65 false (ret1 (loadS tab o68 3 v68) o68) o68) fun v69 o69 =>
 bd (gd v65 false (ret1 (binS tab .eql 3 v67 v69) o69) o69) fun v70 o70 =>
 bd (ret1 (pickS v65 (SV.v (.bool true)) v70) o70) fun v71 o71 =>
 bd (gd v71 false (ret1 (fieldAddrS tab 43 v60 1) o71) o71) fun v72 o72 =>
 bd (gd v71 false (ret1 (loadS tab o72 3 v72) o72) o72) fun v73 o73 =>
 bd (gd v71 false (callS ⟨tab, ownF, K⟩ o73 108 [v73]) o73) fun v74 o74 =>
 bd (gd v71 false (ret1 (unS .not v74) o74) o74) fun v75 o75 =>
 bd (ret1 (pickS v71 (SV.v (.bool true)) v75) o75) fun v76 o76 =>
 bd (gd v76 false (some (x67, o76)) o76) fun v77 o77 =>
 bd (gd v76 false (ret1 (binS tab .gtr 3 v77 (SV.v (.int .i64 0))) o77) o77) fun v78 o78 =>
 bd (gd v76 false (some (v78, o78)) o78) fun v79 o79 =>
 bd (gd v79 true (ret1 (fieldAddrS tab 43 v60 0) o79) o79) fun v80 o80 =>
 bd (gd v79 true (ret1 (loadS tab o80 3 v80) o80) o80) fun v81 o81 =>
 bd (gd v79 true (ret1 (fieldAddrS tab 29 x1 3) o81) o81) fun v82 o82 =>
 bd (gd v79 true (ret1 (loadS tab o82 27 v82) o82) o82) fun v83 o83 =>
 bd (gd v79 true (some (x67, o83)) o83) fun v84 o84 =>
 bd (gd v79 true (ret1 (binS tab .sub 3 v84 (SV.v (.int .i64 1))) o84) o84) fun v85 o85 =>
 bd (gd v79 true (ret1 (indexAddrS tab o85 27 v83 v85) o85) o85) fun v86 o86 =>
 bd (gd v79 true (ret1 (fieldAddrS tab 43 v86 0) o86) o86) fun v87 o87 =>
 bd (gd v79 true (ret1 (loadS tab o87 3 v87) o87) o87) fun v88 o88 =>
 bd (gd v79 true (ret1 (binS tab .leq 3 v81 v88) o88) o88) fun v89 o89 =>
 bd (gd v76 false (ret1 (pickS v79 v89 (SV.v (.bool false))) o89) o89) fun v90 o90 =>
 bd (ret1 (pickS v76 (SV.v (.bool true)) v90) o90) fun v91 o91 =>
 condS v91 (retV tab nl o91 (resC1 (some (SV.v (.bool false))) (some [])))
 (bd (ret1 (binS tab .add 3 x67 (SV.v (.int .i64 1))) o91) fun v92 o92 =>
 L86_10 K N nl m10 x1 x65 x66 v92 o92))
 (retV tab nl o57 (resC1 (some (SV.v (.bool true))) (some [])))
noncomputable def X86 (K : Nat → List SV → List SO → Out) (N nl : Nat) (x0 : SV) (os : List SO) : Out := exec (cx K) N nl fi86 c86 [(0, x0)] os (kEnd tab [] nl rs86)
noncomputable def B86 (K : Nat → List SV → List SO → Out) (N nl : Nat) (x0 : SV) (os : List SO) : Out :=
 bd (boxS tab os 29 (some x0)) fun v1 o1 =>
 bd (ret1 (fieldAddrS tab 29 v1 0) o1) fun v2 o2 =>
 bd (ret1 (loadS tab o2 3 v2) o2) fun v3 o3 =>
 bd (callS ⟨tab, ownF, K⟩ o3 107 [v3]) fun v4 o4 =>
 bd (ret1 (unS .not v4) o4) fun v5 o5 =>
 bd (gd v5 false (ret1 (fieldAddrS tab 29 v1 1) o5) o5) fun v6 o6 =>
 bd (gd v5 false (ret1 (loadS tab o6 3 v6) o6) o6) fun v7 o7 =>
 bd (gd v5 false (callS ⟨tab, ownF, K⟩ o7 108 [v7]) o7) fun v8 o8 =>
 bd (gd v5 false (ret1 (unS .not v8) o8) o8) fun v9 o9 =>
 bd (ret1 (pickS v5 (SV.v (.bool true)) v9) o9) fun v10 o10 =>
 bd (gd v10 false (ret1 (fieldAddrS tab 29 v1 2) o10) o10) fun v11 o11 =>
 bd (gd v10 false (ret1 (loadS tab o11 26 v11) o11) o11) fun v12 o12 =>
 bd (gd v10 false (lenO tab 26 o12 v12) o12) fun v13 o13 =>
 bd (gd v10 false (ret1 (binS tab .gtr 3 v13 (SV.v (.int .i64 2))) o13) o13) fun v14 o14 =>
 bd (ret1 (pickS v10 (SV.v (.bool true)) v14) o14) fun v15 o15 =>
 bd (gd v15 false (ret1 (fieldAddrS tab 29 v1 3) o15) o15) fun v16 o16 =>
 bd (gd v15 false (ret1 (loadS tab o16 27 v16) o16) o16) fun v17 o17 =>
 bd (gd v15 false (lenO tab 27 o17 v17) o17) fun v18 o18 =>
 bd (gd v15 false (ret1 (binS tab .gtr 3 v18 (SV.v (.int .i64 2))) o18) o18) fun v19 o19 =>
 bd (ret1 (pickS v15 (SV.v (.bool true)) v19) o19) fun v20 o20 =>
 condS v20 (retV tab nl o20 (resC1 (some (SV.v (.bool false))) (some [])))
 (bd (ret1 (fieldAddrS tab 29 v1 2) o20) fun v21 o21 =>
 bd (ret1 (loadS tab o21 26 v21) o21) fun v22 o22 =>
 bd (lenO tab 26 o22 v22) fun v23 o23 =>
 L86_4 K N nl N v1 v22 v23 (SV.v (.int .i64 0)) o23)
noncomputable def X87 (K : Nat → List SV → List SO → Out) (N nl : Nat) (x0 x1 : SV) (os : List SO) : Out := exec (cx K) N nl fi87 c87 [(0, x0), (1, x1)] os (kEnd tab [] nl rs87)
noncomputable def B87 (K : Nat → List SV → List SO → Out) (N nl : Nat) (x0 x1 : SV) (os : List SO) : Out :=
 bd (boxS tab os 29 (some x0)) fun v1 o1 =>
 bd (boxS tab o1 29 (some x1)) fun v2 o2 =>
 bd (ret1 (fieldAddrS tab 29 v1 0) o2) fun v3 o3 =>
 bd (ret1 (loadS tab o3 3 v3) o3) fun v4 o4 =>
 bd (ret1 (fieldAddrS tab 29 v2 0) o4) fun v5 o5 =>
 bd (ret1 (loadS tab o5 3 v5) o5) fun v6 o6 =>
 dchk (keepOk ⟨tab, ownF, K⟩ o6 (SV.fn 110 []) [v4, v6] [] true) <|
 bd (callS ⟨tab, ownF, K⟩ o6 110 [v4, v6]) fun v7 o7 =>
 bd (ret1 (fieldAddrS tab 29 v1 1) o7) fun v8 o8 =>
 dchk (isBox v8) <|
 bd (ret1 (loadS tab o8 3 v8) o8) fun v9 o9 =>
 bd (ret1 (fieldAddrS tab 29 v2 1) o9) fun v10 o10 =>
 dchk (isBox v10) <|
 bd (ret1 (loadS tab o10 3 v10) o10) fun v11 o11 =>
 bd (callS ⟨tab, ownF, K⟩ o11 110 [v9, v11]) fun v12 o12 =>
 bd (buildSliceS tab o12 45 2 [(0, v7), (1, v12)]) fun v13 o13 =>
 bd (callS ⟨tab, ownF, K⟩ o13 109 [v13]) fun v14 o14 =>
 retV tab nl o14 (resC1 (some v14) (some []))
noncomputable def X90 (K : Nat → List SV → List SO → Out) (N nl : Nat) (x0 : SV) (os : List SO) : Out := exec (cx K) N nl fi90 c90 [(0, x0)] os (kEnd tab [] nl rs90)
noncomputable def B90 (K : Nat → List SV → List SO → Out) (N nl : Nat) (x0 : SV) (os : List SO) : Out :=
 bd (boxS tab os 29 (some x0)) fun v1 o1 =>
 bd (ret1 (fieldAddrS tab 29 v1 0) o1) fun v2 o2 =>
 bd (ret1 (loadS tab o2 3 v2) o2) fun v3 o3 =>
 bd (callS ⟨tab, ownF, K⟩ o3 77 [v3, (SV.v (.int .i64 1)), (SV.v (.int .i64 4))]) fun v4 o4 =>
 bd (gd v4 true (ret1 (fieldAddrS tab 29 v1 1) o4) o4) fun v5 o5 =>
 bd (gd v4 true (ret1 (loadS tab o5 3 v5) o5) o5) fun v6 o6 =>
 bd (gd v4 true (callS ⟨tab, ownF, K⟩ o6 77 [v6, (SV.v (.int .i64 1)), (SV.v (.int .i64 5))]) o6) fun v7 o7 =>
 bd (ret1 (pickS v4 v7 (SV.v (.bool false))) o7) fun v8 o8 =>
 bd (gd v8 true (ret1 (fieldAddrS tab 29 v1 2) o8) o8) fun v9 o9 =>
 bd (gd v8 true (ret1 (loadS tab o9 26 v9) o9) o9) fun v10 o10 =>
 bd (gd v8 true (callS ⟨tab, ownF, K⟩ o10 111 [v10]) o10) fun v11 o11 =>
 bd (ret1 (pickS v8 v11 (SV.v (.bool false))) o11) fun v12 o12 =>
 bd (gd v12 true (ret1 (fieldAddrS tab 29 v1 0) o12) o12) fun v13 o13 =>
 bd (gd v12 true (ret1 (loadS tab o13 3 v13) o13) o13) fun v14 o14 =>
 bd (gd v12 true (ret1 (fieldAddrS tab 29 v1 3) o14) o14) fun v15 o15 =>
 bd (gd v12 true (ret1 (loadS tab o15 27 v15) o15) o15) fun v16 o16 =>
 bd (gd v12 true (callS ⟨tab, ownF, K⟩ o16 112 [v14, v16]) o16) fun v17 o17 =>
 bd (ret1 (pickS v12 v17 (SV.v (.bool false))) o17) fun v18 o18 =>
 retV tab nl o18 (resC1 (some v18) (some []))
noncomputable def X91 (K : Nat → List SV → List SO → Out) (N nl : Nat) (x0 x1 x2 x3 : SV) (os : List SO) : Out := exec (cx K) N nl fi91 c91 [(0, x0), (1, x1), (2, x2), (3, x3)] os (kEnd tab [] nl rs91)
noncomputable def B91 (K : Nat → List SV → List SO → Out) (N nl : Nat) (x0 x1 x2 x3 : SV) (os : List SO) : Out :=
 bd (ret1 (binS tab .lss 3 x0 x2) os) fun v1 o1 =>
 bd (gd v1 false (some (x0, o1)) o1) fun v2 o2 =>
 bd (gd v1 false (some (x2, o2)) o2) fun v3 o3 =>
 bd (gd v1 false (ret1 (binS tab .eql 3 v2 v3) o3) o3) fun v4 o4 =>
 bd (gd v1 false (some (v4, o4)) o4) fun v5 o5 =>
 bd (gd v5 true (some (x1, o5)) o5) fun v6 o6 =>
 bd (gd v5 true (some (x3, o6)) o6) fun v7 o7 =>
 bd (gd v5 true (ret1 (binS tab .lss 3 v6 v7) o7) o7) fun v8 o8 =>
 bd (gd v1 false (ret1 (pickS v5 v8 (SV.v (.bool false))) o8) o8) fun v9 o9 =>
 bd (ret1 (pickS v1 (SV.v (.bool true)) v9) o9) fun v10 o10 =>
 retV tab nl o10 (resC1 (some v10) (some []))
noncomputable def X92 (K : Nat → List SV → List SO → Out) (N nl : Nat) (x0 x1 : SV) (os : List SO) : Out := exec (cx K) N nl fi92 c92 [(0, x0), (1, x1)] os (kEnd tab [] nl rs92)
noncomputable def B92 (K : Nat → List SV → List SO → Out) (N nl : Nat) (x0 x1 : SV) (os : List SO) : Out :=
 bd (lenO tab 72 os x0) fun v1 o1 =>
 bd (ret1 (binS tab .sub 3 x1 v1) o1) fun v2 o2 =>
 bd (ret1 (binS tab .lss 3 v2 (SV.v (.int .i64 0))) o2) fun v3 o3 =>
 condS v3 (retV tab nl o3 (resC1 (some (SV.v (.int .i64 (-1)))) (some [])))
 (retV tab nl o3 (resC1 (some v2) (some [])))
noncomputable def X93 (K : Nat → List SV → List SO → Out) (N nl : Nat) (x0 x1 : SV) (os : List SO) : Out := exec (cx K) N nl fi93 c93 [(0, x0), (1, x1)] os (kEnd tab [] nl rs93)
noncomputable def B93 (K : Nat → List SV → List SO → Out) (N nl : Nat) (x0 x1 : SV) (os : List SO) : Out :=
 bd (lenO tab 73 os x0) fun v1 o1 =>
 bd (ret1 (binS tab .sub 3 x1 v1) o1) fun v2 o2 =>
 bd (ret1 (binS tab .lss 3 v2 (SV.v (.int .i64 0))) o2) fun v3 o3 =>
 condS v3 (retV tab nl o3 (resC1 (some (SV.v (.int .i64 (-1)))) (some [])))
 (retV tab nl o3 (resC1 (some v2) (some [])))
noncomputable def bk94_3 (K : Nat → List SV → List SO → Out) (N nl : Nat) (m3 : Nat) : Env → List SO → Out := fun env os => loopS nl (fi94.lp 3) (fun env os nx => exec (cx K) N nl fi94 (subC c94 [1, 1, 0, 1, 0, 0]) env os (kLoop nx (kBlock 0 (kSeq (exec (cx K) N nl fi94 (subC c94 [1, 1, 1])) (fi94.jn 6) (kEnd tab [] nl rs94))))) m3 (killS (fi94.lp 3).alive env) os
noncomputable def L94_3 (K : Nat → List SV → List SO → Out) (N nl : Nat) (m3 : Nat) (x0 x3 x4 : SV) (os : List SO) : Out := loopS nl (fi94.lp 3) (fun env os nx => exec (cx K) N nl fi94 (subC c94 [1, 1, 0, 1, 0, 0]) env os (kLoop nx (kBlock 0 (kSeq (exec (cx K) N nl fi94 (subC c94 [1, 1, 1])) (fi94.jn 6) (kEnd tab [] nl rs94))))) m3 [(0, x0), (3, x3), (4, x4)] os
noncomputable def LB94_3 (K : Nat → List SV → List SO → Out) (N nl : Nat) (m3 : Nat) (x0 x3 x4 : SV) (os : List SO) : Out :=
 bd (lenO tab 72 os x0) fun v4 o4 =>
 bd (ret1 (binS tab .lss 3 x4 v4) o4) fun v5 o5 =>
 condS v5 (bd (ret1 (indexAddrS tab o5 72 x0 x4) o5) fun v6 o6 =>
 bd (ret1 (loadS tab o6 122 v6) o6) fun v7 o7 =>
 bd (callS ⟨tab, ownF, K⟩ o7 113 [v7]) fun v8 o8 =>
 bd (ret1 (indexAddrS tab o8 26 x3 x4) o8) fun v9 o9 =>
 bd (storeO tab o9 47 v9 (some v8)) fun v10 o10 =>
 bd (ret1 (binS tab .add 3 x4 (SV.v (.int .i64 1))) o10) fun v11 o11 =>
 L94_3 K N nl m3 x0 x3 v11 o11)
 (retV tab nl o5 (resC1 (some x3) (some [])))
noncomputable def X94 (K : Nat → List SV → List SO → Out) (N nl : Nat) (x0 : SV) (os : List SO) : Out := exec (cx K) N nl fi94 c94 [(0, x0)] os (kEnd tab [] nl rs94)
noncomputable def B94 (K : Nat → List SV → List SO → Out) (N nl : Nat) (x0 : SV) (os : List SO) : Out :=
 bd (evN tab 26 os none) fun v1 o1 =>
 bd (lenO tab 72 o1 x0) fun v2 o2 =>
 bd (makeS tab o2 26 v2 v2) fun v3 o3 =>
 L94_3 K N nl N x0 v3 (SV.v (.int .i64 0)) o3
noncomputable def bk95_3 (K : Nat → List SV → List SO → Out) (N nl : Nat) (m3 : Nat) : Env → List SO → Out := fun env os => loopS nl (fi95.lp 3) (fun env os nx => exec (cx K) N nl fi95 (subC c95 [1, 1, 0, 1, 0, 0]) env os (kLoop nx (kBlock 0 (kSeq (exec (cx K) N nl fi95 (subC c95 [1, 1, 1])) (fi95.jn 6) (kEnd tab [] nl rs95))))) m3 (killS (fi95.lp 3).alive env) os
noncomputable def L95_3 (K : Nat → List SV → List SO → Out) (N nl : Nat) (m3 : Nat) (x0 x3 x4 : SV) (os : List SO) : Out := loopS nl (fi95.lp 3) (fun env os nx => exec (cx K) N nl fi95 (subC c95 [1, 1, 0, 1, 0, 0]) env os (kLoop nx (kBlock 0 (kSeq (exec (cx K) N nl fi95 (subC c95 [1, 1, 1])) (fi95.jn 6) (kEnd tab [] nl rs95))))) m3 [(0, x0), (3, x3), (4, x4)] os
noncomputable def LB95_3 (K : Nat → List SV → List SO → Out) (N nl : Nat) (m3 : Nat) (x0 x3 x4 : SV) (os : List SO) : Out :=
 bd (lenO tab 73 os x0) fun v4 o4 =>
 bd (ret1 (binS tab .lss 3 x4 v4) o4) fun v5 o5 =>
 condS v5 (bd (ret1 (indexAddrS tab o5 73 x0 x4) o5) fun v6 o6 =>
 bd (ret1 (loadS tab o6 124 v6) o6) fun v7 o7 =>
 bd (callS ⟨tab, ownF, K⟩ o7 114 [v7]) fun v8 o8 =>
 bd (ret1 (indexAddrS tab o8 27 x3 x4) o8) fun v9 o9 =>
 bd (storeO tab o9 43 v9 (some v8)) fun v10 o10 =>
 bd (ret1 (binS tab .add 3 x4 (SV.v (.int .i64 1))) o10) fun v11 o11 =>
 L95_3 K N nl m3 x0 x3 v11 o11)
 (retV tab nl o5 (resC1 (some x3) (some [])))
noncomputable def X95 (K : Nat → List SV → List SO → Out) (N nl : Nat) (x0 : SV) (os : List SO) : Out := exec (cx K) N nl fi95 c95 [(0, x0)] os (kEnd tab [] nl rs95)
noncomputable def B95 (K : Nat → List SV → List SO → Out) (N nl : Nat) (x0 : SV) (os : List SO) : Out :=
 bd (evN tab 27 os none) fun v1 o1 =>
 bd (lenO tab 73 o1 x0) fun v2 o2 =>
 bd (makeS tab o2 27 v2 v2) fun v3 o3 =>
 L95_3 K N nl N x0 v3 (SV.v (.int .i64 0)) o3
noncomputable def bk96_2 (K : Nat → List SV → List SO → Out) (N nl : Nat) (m2 : Nat) : Env → List SO → Out := fun env os => loopS nl (fi96.lp 2) (fun env os nx => exec (cx K) N nl fi96 (subC c96 [1, 0, 1, 0, 0]) env os (kLoop nx (kBlock 0 (kSeq (exec (cx K) N nl fi96 (subC c96 [1, 1])) (fi96.jn 7) (kEnd tab [] nl rs96))))) m2 (killS (fi96.lp 2).alive env) os
noncomputable def L96_2 (K : Nat → List SV → List SO → Out) (N nl : Nat) (m2 : Nat) (x0 x1 x7 x8 : SV) (os : List SO) : Out := loopS nl (fi96.lp 2) (fun env os nx => exec (cx K) N nl fi96 (subC c96 [1, 0, 1, 0, 0]) env os (kLoop nx (kBlock 0 (kSeq (exec (cx K) N nl fi96 (subC c96 [1, 1])) (fi96.jn 7) (kEnd tab [] nl rs96))))) m2 [(0, x0), (1, x1), (7, x7), (8, x8)] os
noncomputable def LB96_2 (K : Nat → List SV → List SO → Out) (N nl : Nat) (m2 : Nat) (x0 x1 x7 x8 : SV) (os : List SO) : Out :=
 bd (ret1 (binS tab .lss 3 x8 x7) os) fun v2 o2 =>
 condS v2 (bd (ret1 (indexAddrS tab o2 27 x0 x8) o2) fun v3 o3 =>
 bd (ret1 (loadS tab o3 43 v3) o3) fun v4 o4 =>
 bd (calleeS ⟨tab, ownF, K⟩ o4 x1 [v4]) fun v5 o5 =>
 condS v5 (retV tab nl o5 (resC1 (some x8) (some [])))
 (bd (ret1 (binS tab .add 3 x8 (SV.v (.int .i64 1))) o5) fun v6 o6 =>
 L96_2 K N nl m2 x0 x1 x7 v6 o6))
 (retV tab nl o2 (resC1 (some (SV.v (.int .i64 (-1)))) (some [])))
noncomputable def X96 (K : Nat → List SV → List SO → Out) (N nl : Nat) (x0 x1 : SV) (os : List SO) : Out := exec (cx K) N nl fi96 c96 [(0, x0), (1, x1)] os (kEnd tab [] nl rs96)
noncomputable def B96 (K : Nat → List SV → List SO → Out) (N nl : Nat) (x0 x1 : SV) (os : List SO) : Out :=
 bd (lenO tab 27 os x0) fun v1 o1 =>
 L96_2 K N nl N x0 x1 v1 (SV.v (.int .i64 0)) o1
noncomputable def X97 (K : Nat → List SV → List SO → Out) (N nl : Nat) (x0 x1 : SV) (os : List SO) : Out := exec (cx K) N nl fi97 c97 [(0, x0), (1, x1)] os (kEnd tab [] nl rs97)
noncomputable def B97 (K : Nat → List SV → List SO → Out) (N nl : Nat) (x0 x1 : SV) (os : List SO) : Out :=
 bd (callS ⟨tab, ownF, K⟩ os 115 [x0, x1]) fun v1 o1 =>
 bd (ret1 (binS tab .geq 3 v1 (SV.v (.int .i64 0))) o1) fun v2 o2 =>
 retV tab nl o2 (resC1 (some v2) (some []))
noncomputable def X98 (K : Nat → List SV → List SO → Out) (N nl : Nat) (x0 x1 : SV) (os : List SO) : Out := exec (cx K) N nl fi98 c98 [(0, x0), (1, x1)] os (kEnd tab [] nl rs98)
noncomputable def B98 (K : Nat → List SV → List SO → Out) (N nl : Nat) (x0 x1 : SV) (os : List SO) : Out :=
 bd (boxS tab os 29 (some x0)) fun v1 o1 =>
 bd (ret1 (fieldAddrS tab 29 v1 0) o1) fun v2 o2 =>
 bd (ret1 (loadS tab o2 3 v2) o2) fun v3 o3 =>
 bd (ret1 (fieldAddrS tab 43 x1 0) o3) fun v4 o4 =>
 bd (ret1 (loadS tab o4 3 v4) o4) fun v5 o5 =>
 bd (ret1 (binS tab .eql 3 v3 v5) o5) fun v6 o6 =>
 bd (gd v6 true (ret1 (fieldAddrS tab 29 v1 1) o6) o6) fun v7 o7 =>
 bd (gd v6 true (ret1 (loadS tab o7 3 v7) o7) o7) fun v8 o8 =>
 bd (gd v6 true (ret1 (fieldAddrS tab 43 x1 1) o8) o8) fun v9 o9 =>
 bd (gd v6 true (ret1 (loadS tab o9 3 v9) o9) o9) fun v10 o10 =>
 bd (gd v6 true (ret1 (binS tab .geq 3 v8 v10) o10) o10) fun v11 o11 =>
 bd (ret1 (pickS v6 v11 (SV.v (.bool false))) o11) fun v12 o12 =>
 retV tab nl o12 (resC1 (some v12) (some []))
noncomputable def bk99_4 (K : Nat → List SV → List SO → Out) (N nl : Nat) (m4 : Nat) : Env → List SO → Out := fun env os => loopS nl (fi99.lp 4) (fun env os nx => exec (cx K) N nl fi99 (subC c99 [1, 1, 1, 0, 1, 0, 0]) env os (kLoop nx (kBlock 0 (kSeq (exec (cx K) N nl fi99 (subC c99 [1, 1, 1, 1])) (fi99.jn 7) (kEnd tab [] nl rs99))))) m4 (killS (fi99.lp 4).alive env) os
noncomputable def bk99_9 (K : Nat → List SV → List SO → Out) (N nl : Nat) (m9 : Nat) : Env → List SO → Out := fun env os => loopS nl (fi99.lp 9) (fun env os nx => exec (cx K) N nl fi99 (subC c99 [1, 1, 1, 1, 1, 0, 1, 0, 0]) env os (kLoop nx (kBlock 2 (kSeq (exec (cx K) N nl fi99 (subC c99 [1, 1, 1, 1, 1, 1])) (fi99.jn 21) (kEnd tab [] nl rs99))))) m9 (killS (fi99.lp 9).alive env) os
noncomputable def bk99_17 (K : Nat → List SV → List SO → Out) (N nl : Nat) (m9 : Nat) (m17 : Nat) : Env → List SO → Out := fun env os => loopS nl (fi99.lp 17) (fun env os nx => exec (cx K) N nl fi99 (subC c99 [1, 1, 1, 1, 1, 0, 1, 0, 0, 1, 0, 0, 1, 1, 1, 1, 0, 1, 0, 0]) env os (kLoop nx (kBlock 4 (kSeq (exec (cx K) N nl fi99 (subC c99 [1, 1, 1, 1, 1, 0, 1, 0, 0, 1, 0, 0, 1, 1, 1, 1, 1])) (fi99.jn 20) (kBlock 3 (kSeq (exec (cx K) N nl fi99 (subC c99 [1, 1, 1, 1, 1, 0, 1, 0, 0, 1, 1])) (fi99.jn 10) (kLoop (bk99_9 K N nl m9) (kBlock 2 (kSeq (exec (cx K) N nl fi99 (subC c99 [1, 1, 1, 1, 1, 1])) (fi99.jn 21) (kEnd tab [] nl rs99)))))))))) m17 (killS (fi99.lp 17).alive env) os
end Go.Proofs.Ytgeolifkmiglgaa
