/- The evaluator S and what it says of functions: Sb1. -/
import Derived.Test.YtbagbhbplhkjaaaTe
import Derived.Test.YtbagbhbplhkjaaaProg
import Derived.KernelRfl
/- The evaluator S: the functions of this seat, read chunk by chunk (1). -/
namespace Go.Proofs.Ytbagbhbplhkjaaa
open Go
set_option linter.unusedVariables false
set_option maxRecDepth 100000
def tiL : List (Option TI) :=
 [none,
  some ⟨1, 8, false, [.fn]⟩,
  some ⟨1, 8, false, [.int .i64]⟩,
  some ⟨1, 8, false, [.int .i64]⟩,
  some ⟨1, 1, false, [.bool]⟩,
  some ⟨1, 1, false, [.int .u8]⟩,
  some ⟨1, 1, false, [.int .u8]⟩,
  some ⟨4, 24, true, [.int .i64, .int .i64, .bool, .int .u8]⟩,
  some ⟨4, 24, true, [.int .i64, .int .i64, .bool, .int .u8]⟩,
  some ⟨1, 16, false, [.str]⟩,
  some ⟨1, 16, false, [.str]⟩,
  some ⟨1, 16, false, [.str]⟩,
  some ⟨1, 8, false, [.int .u64]⟩,
  some ⟨2, 24, true, [.str, .int .u64]⟩,
  some ⟨2, 24, true, [.str, .int .u64]⟩,
  some ⟨1, 8, false, [.ptr]⟩,
  some ⟨1, 8, false, [.ptr]⟩,
  some ⟨1, 8, false, [.ptr]⟩,
  some ⟨1, 8, true, [.ptr]⟩,
  some ⟨1, 8, true, [.ptr]⟩,
  none,
  some ⟨1, 4, false, [.int .i32]⟩,
  some ⟨1, 24, false, [.sl 4]⟩,
  some ⟨1, 24, false, [.sl 1]⟩,
  some ⟨4, 80, true, [.sl 4, .sl 1, .bool, .sl 4]⟩,
  some ⟨4, 80, true, [.sl 4, .sl 1, .bool, .sl 4]⟩,
  some ⟨4, 48, true, [.int .i64, .int .i64, .int .i64, .sl 4]⟩,
  some ⟨4, 48, true, [.int .i64, .int .i64, .int .i64, .sl 4]⟩,
  some ⟨1, 8, false, [.fn]⟩,
  some ⟨1, 8, false, [.fn]⟩,
  some ⟨1, 24, false, [.sl 4]⟩,
  some ⟨4, 80, true, [.sl 4, .sl 1, .bool, .sl 4]⟩,
  some ⟨4, 80, true, [.sl 4, .sl 1, .bool, .sl 4]⟩,
  none,
  some ⟨1, 8, false, [.fn]⟩,
  some ⟨1, 8, false, [.fn]⟩,
  some ⟨4, 48, true, [.int .i64, .int .i64, .int .i64, .sl 4]⟩,
  some ⟨4, 48, true, [.int .i64, .int .i64, .int .i64, .sl 4]⟩,
  some ⟨1, 8, false, [.fn]⟩,
  some ⟨1, 8, false, [.fn]⟩,
  some ⟨1, 8, false, [.fn]⟩,
  some ⟨1, 8, false, [.fn]⟩,
  some ⟨1, 8, false, [.fn]⟩,
  some ⟨1, 8, false, [.fn]⟩,
  some ⟨1, 8, false, [.fn]⟩,
  some ⟨1, 8, false, [.fn]⟩,
  some ⟨1, 8, false, [.fn]⟩,
  some ⟨1, 8, false, [.fn]⟩,
  some ⟨1, 8, false, [.fn]⟩,
  some ⟨1, 8, false, [.fn]⟩,
  some ⟨1, 8, false, [.fn]⟩,
  some ⟨1, 8, false, [.fn]⟩,
  some ⟨1, 8, false, [.fn]⟩,
  some ⟨1, 8, false, [.fn]⟩,
  some ⟨1, 8, false, [.fn]⟩,
  some ⟨1, 8, false, [.fn]⟩,
  some ⟨1, 8, false, [.fn]⟩,
  some ⟨1, 8, false, [.fn]⟩,
  some ⟨1, 8, false, [.fn]⟩,
  some ⟨1, 24, false, [.sl 2]⟩,
  some ⟨1, 24, false, [.sl 2]⟩,
  some ⟨4, 64, true, [.int .i64, .int .i64, .sl 2, .sl 2]⟩,
  some ⟨4, 64, true, [.int .i64, .int .i64, .sl 2, .sl 2]⟩,
  some ⟨1, 8, false, [.fn]⟩,
  some ⟨1, 8, false, [.fn]⟩,
  some ⟨1, 8, false, [.fn]⟩,
  some ⟨1, 24, false, [.sl 2]⟩,
  some ⟨1, 24, false, [.sl 2]⟩,
  some ⟨4, 64, true, [.int .i64, .int .i64, .sl 2, .sl 2]⟩,
  some ⟨4, 64, true, [.int .i64, .int .i64, .sl 2, .sl 2]⟩,
  some ⟨1, 8, false, [.fn]⟩,
  some ⟨1, 8, false, [.fn]⟩,
  some ⟨1, 8, false, [.fn]⟩,
  some ⟨1, 8, false, [.ptr]⟩,
  some ⟨1, 8, false, [.fn]⟩,
  some ⟨1, 8, false, [.fn]⟩,
  some ⟨1, 8, false, [.fn]⟩,
  some ⟨1, 8, false, [.fn]⟩,
  some ⟨1, 8, false, [.fn]⟩,
  some ⟨1, 8, false, [.fn]⟩,
  some ⟨2, 16, true, [.int .i64, .int .i64]⟩,
  some ⟨2, 16, true, [.int .i64, .int .i64]⟩,
  some ⟨1, 8, false, [.fn]⟩,
  some ⟨2, 16, true, [.int .i64, .int .i64]⟩,
  some ⟨2, 16, true, [.int .i64, .int .i64]⟩,
  some ⟨1, 8, false, [.fn]⟩,
  some ⟨1, 8, false, [.fn]⟩,
  some ⟨1, 8, false, [.fn]⟩,
  some ⟨1, 8, false, [.fn]⟩,
  some ⟨6, 6, true, [.bool, .bool, .bool, .bool, .bool, .bool]⟩,
  some ⟨1, 8, false, [.fn]⟩,
  some ⟨1, 8, false, [.fn]⟩,
  some ⟨1, 8, false, [.fn]⟩,
  some ⟨1, 8, false, [.fn]⟩,
  some ⟨1, 8, false, [.fn]⟩,
  none,
  some ⟨1, 8, false, [.fn]⟩,
  some ⟨1, 8, false, [.fn]⟩,
  some ⟨2, 16, true, [.int .i64, .int .i64]⟩,
  some ⟨1, 8, false, [.fn]⟩,
  some ⟨2, 16, true, [.int .i64, .int .i64]⟩,
  some ⟨1, 8, false, [.fn]⟩,
  some ⟨1, 8, false, [.fn]⟩,
  some ⟨1, 8, false, [.fn]⟩,
  some ⟨1, 8, false, [.fn]⟩,
  some ⟨1, 8, false, [.fn]⟩,
  some ⟨1, 8, false, [.fn]⟩,
  some ⟨1, 8, false, [.fn]⟩,
  some ⟨1, 8, false, [.fn]⟩,
  some ⟨1, 8, false, [.fn]⟩,
  some ⟨1, 8, false, [.fn]⟩,
  some ⟨1, 8, false, [.fn]⟩,
  some ⟨1, 8, false, [.fn]⟩,
  some ⟨1, 8, false, [.fn]⟩,
  some ⟨1, 8, false, [.fn]⟩,
  some ⟨1, 8, false, [.fn]⟩,
  some ⟨4, 40, true, [.ptr, .ptr, .ptr, .str]⟩,
  some ⟨4, 40, true, [.ptr, .ptr, .ptr, .str]⟩,
  some ⟨0, 0, true, []⟩,
  some ⟨0, 0, true, []⟩,
  some ⟨0, 0, true, []⟩,
  some ⟨1, 8, false, [.fn]⟩,
  some ⟨1, 4, false, [.int .u32]⟩,
  some ⟨1, 1, false, [.int .u8]⟩,
  some ⟨1, 1, false, [.int .u8]⟩,
  some ⟨1, 8, false, [.fn]⟩,
  some ⟨1, 8, false, [.ptr]⟩,
  some ⟨1, 4, false, [.int .i32]⟩,
  some ⟨1, 4, false, [.int .i32]⟩,
  some ⟨11, 48, true, [.int .u64, .int .u64, .int .u32, .int .u8, .int .u8, .int .u8, .int .u8, .fn, .ptr, .int .i32, .int .i32]⟩,
  some ⟨11, 48, true, [.int .u64, .int .u64, .int .u32, .int .u8, .int .u8, .int .u8, .int .u8, .fn, .ptr, .int .i32, .int .i32]⟩,
  none]
def ukL : List (Option UK) :=
 [none,
  none,
  some (.int .i64),
  some (.int .i64),
  some (.bool),
  some (.int .u8),
  some (.int .u8),
  some (.struct [(0, 2), (1, 3), (2, 4), (3, 6)]),
  some (.struct [(0, 2), (1, 3), (2, 4), (3, 6)]),
  some (.str),
  some (.str),
  some (.str),
  some (.int .u64),
  some (.struct [(0, 9), (1, 12)]),
  some (.struct [(0, 9), (1, 12)]),
  none,
  none,
  none,
  some (.struct [(0, 17)]),
  some (.struct [(0, 17)]),
  none,
  some (.int .i32),
  some (.slice 62),
  some (.slice 3),
  some (.struct [(0, 22), (1, 23), (2, 4), (3, 22)]),
  some (.struct [(0, 22), (1, 23), (2, 4), (3, 22)]),
  some (.struct [(0, 3), (1, 3), (2, 3), (3, 22)]),
  some (.struct [(0, 3), (1, 3), (2, 3), (3, 22)]),
  none,
  none,
  some (.slice 69),
  some (.struct [(0, 30), (1, 23), (2, 4), (3, 30)]),
  some (.struct [(0, 30), (1, 23), (2, 4), (3, 30)]),
  none,
  none,
  none,
  some (.struct [(0, 3), (1, 3), (2, 3), (3, 30)]),
  some (.struct [(0, 3), (1, 3), (2, 3), (3, 30)]),
  none,
  none,
  none,
  none,
  none,
  none,
  none,
  none,
  none,
  none,
  none,
  none,
  none,
  none,
  none,
  none,
  none,
  none,
  none,
  none,
  none,
  some (.slice 98),
  some (.slice 100),
  some (.struct [(0, 3), (1, 3), (2, 59), (3, 60)]),
  some (.struct [(0, 3), (1, 3), (2, 59), (3, 60)]),
  none,
  none,
  none,
  some (.slice 84),
  some (.slice 81),
  some (.struct [(0, 3), (1, 3), (2, 66), (3, 67)]),
  some (.struct [(0, 3), (1, 3), (2, 66), (3, 67)]),
  none,
  none,
  none,
  none,
  none,
  none,
  none,
  none,
  none,
  none,
  some (.eqs [(0, 3), (1, 3)]),
  some (.eqs [(0, 3), (1, 3)]),
  none,
  some (.eqs [(0, 3), (1, 3)]),
  some (.eqs [(0, 3), (1, 3)]),
  none,
  none,
  none,
  none,
  some (.array 6 4),
  none,
  none,
  none,
  none,
  none,
  none,
  none,
  none,
  some (.eqs [(0, 3), (1, 3)]),
  none,
  some (.eqs [(0, 3), (1, 3)]),
  none,
  none,
  none,
  none,
  none,
  none,
  none,
  none,
  none,
  none,
  none,
  none,
  none,
  none,
  none,
  some (.struct [(0, 17), (1, 17), (2, 17), (3, 9)]),
  some (.struct [(0, 17), (1, 17), (2, 17), (3, 9)]),
  some (.array 0 16),
  some (.struct [(0, 118)]),
  some (.struct [(0, 118)]),
  none,
  some (.int .u32),
  some (.int .u8),
  some (.int .u8),
  none,
  none,
  some (.int .i32),
  some (.int .i32),
  some (.struct [(0, 12), (1, 12), (2, 122), (3, 123), (4, 5), (5, 5), (6, 124), (7, 125), (8, 126), (9, 127), (10, 128)]),
  some (.struct [(0, 12), (1, 12), (2, 122), (3, 123), (4, 5), (5, 5), (6, 124), (7, 125), (8, 126), (9, 127), (10, 128)]),
  none]
def tab : Tab := { ti := fun t => (tiL[t]?).getD none, und := fun t => (ukL[t]?).getD none }
def ownF : Nat → Bool := fun f => match f with | 12 => true | 13 => true | 29 => true | 30 => true | 45 => true | 46 => true | 2000019 => true | 3000019 => true | 3001019 => true | 3003019 => true | 1000007 => true | 1000008 => true | 1000019 => true | 1000020 => true | 1000021 => true | 1000025 => true | 1000036 => true | 1000042 => true  | _ => false
abbrev cx (K : Nat → List SV → List SO → Out) : Cx := ⟨tab, ownF, K⟩
noncomputable def c3 : Code := Try.f3.body.getD .skip
def rs3 : List ResultVar := [.tmp 4]
def fi3 : FnI := { nt := 119, lp := fun i => ⟨false, []⟩, jn := fun i => if i = 9 then some [2, 3, 6, 7] else if i = 32 then some [6, 7, 10, 13, 15, 16] else none, dt := fun i => if i = 8 then some (.split 1 8 (.split 3 8 (.split 4 8 (.leaf [0, 1, 2, 3, 4, 5, 6, 7, 8, 9, 10]) (.leaf [0, 1, 2, 3, 8, 4, 5, 6, 7, 9, 10])) (.leaf [0, 1, 2, 8, 3, 4, 5, 6, 7, 9, 10])) (.leaf [0, 2, 8, 1, 3, 4, 5, 6, 7, 9, 10])) else if i = 31 then some (.split 1 8 (.split 3 8 (.split 4 8 (.leaf [0, 1, 2, 3, 4, 5, 6, 7, 8, 9, 10]) (.leaf [0, 1, 2, 3, 8, 4, 5, 6, 7, 9, 10])) (.leaf [0, 1, 2, 8, 3, 4, 5, 6, 7, 9, 10])) (.leaf [0, 2, 8, 1, 3, 4, 5, 6, 7, 9, 10])) else none }
noncomputable def c4 : Code := Try.f4.body.getD .skip
def rs4 : List ResultVar := [.tmp 4]
def fi4 : FnI := { nt := 24, lp := fun i => ⟨false, []⟩, jn := fun i => none, dt := fun i => none }
noncomputable def c5 : Code := Try.f5.body.getD .skip
def rs5 : List ResultVar := [.tmp 4]
def fi5 : FnI := { nt := 12, lp := fun i => ⟨false, []⟩, jn := fun i => none, dt := fun i => none }
noncomputable def c6 : Code := Try.f6.body.getD .skip
def rs6 : List ResultVar := [.cell 4 32, .tmp 5]
def fi6 : FnI := { nt := 19, lp := fun i => ⟨false, []⟩, jn := fun i => none, dt := fun i => none }
noncomputable def c7 : Code := Try.f7.body.getD .skip
def rs7 : List ResultVar := [.cell 2 32]
def fi7 : FnI := { nt := 20, lp := fun i => ⟨false, []⟩, jn := fun i => none, dt := fun i => none }
noncomputable def c8 : Code := Try.f8.body.getD .skip
def rs8 : List ResultVar := [.cell 2 37]
def fi8 : FnI := { nt := 18, lp := fun i => ⟨false, []⟩, jn := fun i => none, dt := fun i => none }
noncomputable def c9 : Code := Try.f9.body.getD .skip
def rs9 : List ResultVar := [.cell 4 32, .tmp 5]
def fi9 : FnI := { nt := 21, lp := fun i => ⟨false, []⟩, jn := fun i => none, dt := fun i => none }
noncomputable def c10 : Code := Try.f10.body.getD .skip
def rs10 : List ResultVar := [.tmp 4]
def fi10 : FnI := { nt := 28, lp := fun i => ⟨false, []⟩, jn := fun i => none, dt := fun i => none }
noncomputable def c11 : Code := Try.f11.body.getD .skip
def rs11 : List ResultVar := [.tmp 4]
def fi11 : FnI := { nt := 26, lp := fun i => ⟨false, []⟩, jn := fun i => none, dt := fun i => none }
noncomputable def c12 : Code := Try.f12.body.getD .skip
def rs12 : List ResultVar := [.tmp 4]
def fi12 : FnI := { nt := 18, lp := fun i => ⟨false, []⟩, jn := fun i => none, dt := fun i => none }
noncomputable def c13 : Code := Try.f13.body.getD .skip
def rs13 : List ResultVar := [.tmp 4]
def fi13 : FnI := { nt := 10, lp := fun i => ⟨false, []⟩, jn := fun i => none, dt := fun i => none }
noncomputable def c14 : Code := Try.f14.body.getD .skip
def rs14 : List ResultVar := [.tmp 4]
def fi14 : FnI := { nt := 24, lp := fun i => ⟨false, []⟩, jn := fun i => none, dt := fun i => none }
noncomputable def c15 : Code := Try.f15.body.getD .skip
def rs15 : List ResultVar := [.tmp 4]
def fi15 : FnI := { nt := 27, lp := fun i => if i = 5 then ⟨false, [0, 1, 5]⟩ else ⟨false, []⟩, jn := fun i => none, dt := fun i => none }
noncomputable def c16 : Code := Try.f16.body.getD .skip
def rs16 : List ResultVar := [.tmp 4]
def fi16 : FnI := { nt := 12, lp := fun i => ⟨false, []⟩, jn := fun i => none, dt := fun i => none }
noncomputable def c17 : Code := Try.f17.body.getD .skip
def rs17 : List ResultVar := [.tmp 2]
def fi17 : FnI := { nt := 42, lp := fun i => if i = 2 then ⟨false, [1, 3]⟩ else ⟨false, []⟩, jn := fun i => none, dt := fun i => none }
noncomputable def c18 : Code := Try.f18.body.getD .skip
def rs18 : List ResultVar := [.tmp 2]
def fi18 : FnI := { nt := 53, lp := fun i => ⟨false, []⟩, jn := fun i => if i = 9 then some [] else none, dt := fun i => none }
noncomputable def c19 : Code := Try.f19.body.getD .skip
def rs19 : List ResultVar := [.cell 4 32]
def fi19 : FnI := { nt := 19, lp := fun i => ⟨false, []⟩, jn := fun i => if i = 6 then some [2, 4] else none, dt := fun i => none }
noncomputable def c20 : Code := Try.f20.body.getD .skip
def rs20 : List ResultVar := [.cell 2 32]
def fi20 : FnI := { nt := 16, lp := fun i => ⟨false, []⟩, jn := fun i => none, dt := fun i => if i = 1 then some (.split 2 3 (.split 6 8 (.split 6 10 (.leaf [0, 1, 2, 3, 4, 5, 6, 7, 8, 9, 10, 11, 12, 13]) (.leaf [0, 1, 2, 3, 4, 5, 7, 9, 10, 6, 8, 11, 12, 13])) (.split 6 10 (.leaf [0, 1, 2, 3, 4, 5, 7, 8, 6, 9, 10, 11, 12, 13]) (.leaf [0, 1, 2, 3, 4, 5, 7, 8, 9, 10, 6, 11, 12, 13]))) (.split 6 8 (.split 6 10 (.leaf [0, 1, 3, 2, 4, 5, 6, 7, 8, 9, 10, 11, 12, 13]) (.leaf [0, 1, 3, 2, 4, 5, 7, 9, 10, 6, 8, 11, 12, 13])) (.split 6 10 (.leaf [0, 1, 3, 2, 4, 5, 7, 8, 6, 9, 10, 11, 12, 13]) (.leaf [0, 1, 3, 2, 4, 5, 7, 8, 9, 10, 6, 11, 12, 13])))) else none }
noncomputable def c21 : Code := Try.f21.body.getD .skip
def rs21 : List ResultVar := [.tmp 2]
def fi21 : FnI := { nt := 23, lp := fun i => if i = 3 then ⟨true, [0, 3, 4]⟩ else ⟨false, []⟩, jn := fun i => none, dt := fun i => none }
noncomputable def c22 : Code := Try.f22.body.getD .skip
def rs22 : List ResultVar := [.tmp 2]
def fi22 : FnI := { nt := 22, lp := fun i => if i = 3 then ⟨false, [0, 3, 4]⟩ else ⟨false, []⟩, jn := fun i => none, dt := fun i => none }
noncomputable def c23 : Code := Try.f23.body.getD .skip
def rs23 : List ResultVar := [.tmp 2]
def fi23 : FnI := { nt := 32, lp := fun i => ⟨false, []⟩, jn := fun i => none, dt := fun i => none }
noncomputable def c24 : Code := Try.f24.body.getD .skip
def rs24 : List ResultVar := [.tmp 2]
def fi24 : FnI := { nt := 41, lp := fun i => ⟨false, []⟩, jn := fun i => if i = 11 then some [3, 4] else none, dt := fun i => none }
noncomputable def c25 : Code := Try.f25.body.getD .skip
def rs25 : List ResultVar := [.cell 2 32]
def fi25 : FnI := { nt := 15, lp := fun i => ⟨false, []⟩, jn := fun i => none, dt := fun i => none }
noncomputable def c26 : Code := Try.f26.body.getD .skip
def rs26 : List ResultVar := []
def fi26 : FnI := { nt := 20, lp := fun i => ⟨false, []⟩, jn := fun i => none, dt := fun i => none }
noncomputable def c27 : Code := Try.f27.body.getD .skip
def rs27 : List ResultVar := [.tmp 4]
def fi27 : FnI := { nt := 27, lp := fun i => if i = 4 then ⟨false, [0, 1, 5]⟩ else ⟨false, []⟩, jn := fun i => none, dt := fun i => none }
noncomputable def c28 : Code := Try.f28.body.getD .skip
def rs28 : List ResultVar := [.tmp 4]
def fi28 : FnI := { nt := 26, lp := fun i => if i = 4 then ⟨false, [0, 1, 5]⟩ else ⟨false, []⟩, jn := fun i => none, dt := fun i => none }
noncomputable def c29 : Code := Try.f29.body.getD .skip
def rs29 : List ResultVar := [.tmp 4]
def fi29 : FnI := { nt := 41, lp := fun i => if i = 2 then ⟨false, [0, 1, 5]⟩ else ⟨false, []⟩, jn := fun i => none, dt := fun i => none }
noncomputable def c30 : Code := Try.f30.body.getD .skip
def rs30 : List ResultVar := [.tmp 4]
def fi30 : FnI := { nt := 19, lp := fun i => if i = 2 then ⟨false, [0, 1, 5]⟩ else ⟨false, []⟩, jn := fun i => none, dt := fun i => none }
noncomputable def c31 : Code := Try.f31.body.getD .skip
def rs31 : List ResultVar := [.tmp 4]
def fi31 : FnI := { nt := 49, lp := fun i => if i = 2 then ⟨false, [0, 1, 5]⟩ else ⟨false, []⟩, jn := fun i => none, dt := fun i => none }
noncomputable def c32 : Code := Try.f32.body.getD .skip
def rs32 : List ResultVar := [.tmp 4]
def fi32 : FnI := { nt := 21, lp := fun i => if i = 2 then ⟨false, [0, 1, 5]⟩ else ⟨false, []⟩, jn := fun i => none, dt := fun i => none }
noncomputable def c33 : Code := Try.f33.body.getD .skip
def rs33 : List ResultVar := [.tmp 4]
def fi33 : FnI := { nt := 18, lp := fun i => ⟨false, []⟩, jn := fun i => none, dt := fun i => none }
noncomputable def c34 : Code := Try.f34.body.getD .skip
def rs34 : List ResultVar := [.tmp 6]
def fi34 : FnI := { nt := 15, lp := fun i => ⟨false, []⟩, jn := fun i => none, dt := fun i => none }
noncomputable def c35 : Code := Try.f35.body.getD .skip
def rs35 : List ResultVar := [.tmp 2]
def fi35 : FnI := { nt := 64, lp := fun i => if i = 4 then ⟨false, [0, 3]⟩ else if i = 7 then ⟨false, [0, 3, 4]⟩ else if i = 12 then ⟨false, [0, 3, 5]⟩ else ⟨false, []⟩, jn := fun i => none, dt := fun i => none }
noncomputable def c36 : Code := Try.f36.body.getD .skip
def rs36 : List ResultVar := [.tmp 2]
def fi36 : FnI := { nt := 21, lp := fun i => if i = 3 then ⟨true, [0, 3, 4]⟩ else ⟨false, []⟩, jn := fun i => none, dt := fun i => none }
noncomputable def c37 : Code := Try.f37.body.getD .skip
def rs37 : List ResultVar := [.cell 2 69]
def fi37 : FnI := { nt := 19, lp := fun i => ⟨false, []⟩, jn := fun i => none, dt := fun i => none }
noncomputable def c38 : Code := Try.f38.body.getD .skip
def rs38 : List ResultVar := [.tmp 2]
def fi38 : FnI := { nt := 6, lp := fun i => ⟨false, []⟩, jn := fun i => none, dt := fun i => none }
noncomputable def c39 : Code := Try.f39.body.getD .skip
def rs39 : List ResultVar := [.tmp 6]
def fi39 : FnI := { nt := 15, lp := fun i => ⟨false, []⟩, jn := fun i => none, dt := fun i => none }
noncomputable def c40 : Code := Try.f40.body.getD .skip
def rs40 : List ResultVar := [.tmp 4]
def fi40 : FnI := { nt := 9, lp := fun i => ⟨false, []⟩, jn := fun i => none, dt := fun i => none }
noncomputable def c41 : Code := Try.f41.body.getD .skip
def rs41 : List ResultVar := [.tmp 2]
def fi41 : FnI := { nt := 53, lp := fun i => if i = 5 then ⟨true, [1, 3, 11, 12, 13]⟩ else if i = 10 then ⟨true, [1, 3, 11, 12, 13, 38, 39, 40]⟩ else ⟨false, []⟩, jn := fun i => none, dt := fun i => none }
noncomputable def c42 : Code := Try.f42.body.getD .skip
def rs42 : List ResultVar := [.tmp 2]
def fi42 : FnI := { nt := 19, lp := fun i => if i = 3 then ⟨true, [3, 6, 7, 8]⟩ else ⟨false, []⟩, jn := fun i => none, dt := fun i => none }
noncomputable def c43 : Code := Try.f43.body.getD .skip
def rs43 : List ResultVar := [.tmp 2]
def fi43 : FnI := { nt := 8, lp := fun i => ⟨false, []⟩, jn := fun i => none, dt := fun i => none }
noncomputable def c44 : Code := Try.f44.body.getD .skip
def rs44 : List ResultVar := [.tmp 4]
def fi44 : FnI := { nt := 27, lp := fun i => ⟨false, []⟩, jn := fun i => none, dt := fun i => none }
noncomputable def c45 : Code := Try.f45.body.getD .skip
def rs45 : List ResultVar := [.tmp 4]
def fi45 : FnI := { nt := 27, lp := fun i => if i = 2 then ⟨false, [0, 1, 5]⟩ else ⟨false, []⟩, jn := fun i => none, dt := fun i => none }
noncomputable def c46 : Code := Try.f46.body.getD .skip
def rs46 : List ResultVar := [.tmp 4]
def fi46 : FnI := { nt := 27, lp := fun i => if i = 2 then ⟨false, [0, 1, 5]⟩ else ⟨false, []⟩, jn := fun i => none, dt := fun i => none }
noncomputable def c47 : Code := Try.f47.body.getD .skip
def rs47 : List ResultVar := [.tmp 4]
def fi47 : FnI := { nt := 31, lp := fun i => if i = 2 then ⟨false, [0, 1, 5]⟩ else ⟨false, []⟩, jn := fun i => none, dt := fun i => none }
noncomputable def c48 : Code := Try.f48.body.getD .skip
def rs48 : List ResultVar := [.tmp 4]
def fi48 : FnI := { nt := 31, lp := fun i => if i = 2 then ⟨false, [0, 1, 5]⟩ else ⟨false, []⟩, jn := fun i => none, dt := fun i => none }
noncomputable def c49 : Code := Try.f49.body.getD .skip
def rs49 : List ResultVar := [.tmp 4]
def fi49 : FnI := { nt := 12, lp := fun i => ⟨false, []⟩, jn := fun i => none, dt := fun i => none }
noncomputable def c50 : Code := Try.f50.body.getD .skip
def rs50 : List ResultVar := [.tmp 4]
def fi50 : FnI := { nt := 12, lp := fun i => ⟨false, []⟩, jn := fun i => none, dt := fun i => none }
noncomputable def c51 : Code := Try.f51.body.getD .skip
def rs51 : List ResultVar := [.tmp 2]
def fi51 : FnI := { nt := 5, lp := fun i => ⟨false, []⟩, jn := fun i => none, dt := fun i => none }
noncomputable def c52 : Code := Try.f52.body.getD .skip
def rs52 : List ResultVar := [.tmp 2]
def fi52 : FnI := { nt := 22, lp := fun i => if i = 2 then ⟨false, [0, 3]⟩ else ⟨false, []⟩, jn := fun i => none, dt := fun i => none }
noncomputable def c53 : Code := Try.f53.body.getD .skip
def rs53 : List ResultVar := [.tmp 4]
def fi53 : FnI := { nt := 22, lp := fun i => ⟨false, []⟩, jn := fun i => none, dt := fun i => none }
noncomputable def c54 : Code := Try.f54.body.getD .skip
def rs54 : List ResultVar := [.tmp 6]
def fi54 : FnI := { nt := 36, lp := fun i => if i = 2 then ⟨false, [0, 1, 2, 7]⟩ else if i = 5 then ⟨false, [0, 1, 2, 7, 8]⟩ else ⟨false, []⟩, jn := fun i => none, dt := fun i => none }
noncomputable def c55 : Code := Try.f55.body.getD .skip
def rs55 : List ResultVar := [.cell 2 69]
def fi55 : FnI := { nt := 14, lp := fun i => ⟨false, []⟩, jn := fun i => none, dt := fun i => none }
noncomputable def c56 : Code := Try.f56.body.getD .skip
def rs56 : List ResultVar := [.tmp 2]
def fi56 : FnI := { nt := 23, lp := fun i => if i = 3 then ⟨false, [0, 3, 4]⟩ else ⟨false, []⟩, jn := fun i => none, dt := fun i => none }
noncomputable def c57 : Code := Try.f57.body.getD .skip
def rs57 : List ResultVar := [.tmp 2]
def fi57 : FnI := { nt := 23, lp := fun i => if i = 3 then ⟨false, [0, 3, 4]⟩ else ⟨false, []⟩, jn := fun i => none, dt := fun i => none }
noncomputable def c58 : Code := Try.f58.body.getD .skip
def rs58 : List ResultVar := [.tmp 4]
def fi58 : FnI := { nt := 19, lp := fun i => if i = 2 then ⟨false, [0, 1, 7, 8]⟩ else ⟨false, []⟩, jn := fun i => none, dt := fun i => none }
noncomputable def c59 : Code := Try.f59.body.getD .skip
def rs59 : List ResultVar := [.tmp 2]
def fi59 : FnI := { nt := 30, lp := fun i => if i = 2 then ⟨true, [0, 5, 6, 7]⟩ else ⟨false, []⟩, jn := fun i => none, dt := fun i => none }
noncomputable def c60 : Code := Try.f60.body.getD .skip
def rs60 : List ResultVar := [.tmp 4]
def fi60 : FnI := { nt := 9, lp := fun i => ⟨false, []⟩, jn := fun i => none, dt := fun i => none }
noncomputable def c61 : Code := Try.f61.body.getD .skip
def rs61 : List ResultVar := [.tmp 3]
def fi61 : FnI := { nt := 8, lp := fun i => ⟨false, []⟩, jn := fun i => none, dt := fun i => none }
noncomputable def c62 : Code := Try.f62.body.getD .skip
def rs62 : List ResultVar := [.tmp 4]
def fi62 : FnI := { nt := 8, lp := fun i => ⟨false, []⟩, jn := fun i => none, dt := fun i => none }
noncomputable def c63 : Code := Try.f63.body.getD .skip
def rs63 : List ResultVar := [.cell 2 69]
def fi63 : FnI := { nt := 12, lp := fun i => ⟨false, []⟩, jn := fun i => none, dt := fun i => none }
noncomputable def c64 : Code := Try.f64.body.getD .skip
def rs64 : List ResultVar := [.tmp 4]
def fi64 : FnI := { nt := 27, lp := fun i => if i = 4 then ⟨false, [0, 1, 5]⟩ else ⟨false, []⟩, jn := fun i => none, dt := fun i => none }
noncomputable def c65 : Code := Try.f65.body.getD .skip
def rs65 : List ResultVar := [.tmp 4]
def fi65 : FnI := { nt := 27, lp := fun i => if i = 4 then ⟨false, [0, 1, 5]⟩ else ⟨false, []⟩, jn := fun i => none, dt := fun i => none }
noncomputable def c66 : Code := Try.f66.body.getD .skip
def rs66 : List ResultVar := [.tmp 2]
def fi66 : FnI := { nt := 46, lp := fun i => if i = 2 then ⟨false, [0, 3]⟩ else ⟨false, []⟩, jn := fun i => none, dt := fun i => none }
noncomputable def c67 : Code := Try.f67.body.getD .skip
def rs67 : List ResultVar := [.cell 4 69, .tmp 5]
def fi67 : FnI := { nt := 27, lp := fun i => if i = 2 then ⟨true, [0, 1, 4, 6]⟩ else ⟨false, []⟩, jn := fun i => none, dt := fun i => none }
noncomputable def c68 : Code := Try.f68.body.getD .skip
def rs68 : List ResultVar := [.cell 2 84]
def fi68 : FnI := { nt := 11, lp := fun i => ⟨false, []⟩, jn := fun i => none, dt := fun i => none }
noncomputable def c69 : Code := Try.f69.body.getD .skip
def rs69 : List ResultVar := [.cell 2 81]
def fi69 : FnI := { nt := 11, lp := fun i => ⟨false, []⟩, jn := fun i => none, dt := fun i => none }
noncomputable def c70 : Code := Try.f70.body.getD .skip
def rs70 : List ResultVar := [.tmp 2]
def fi70 : FnI := { nt := 106, lp := fun i => if i = 4 then ⟨true, [1, 30, 31, 32]⟩ else if i = 10 then ⟨true, [1, 65, 66, 67]⟩ else ⟨false, []⟩, jn := fun i => none, dt := fun i => none }
noncomputable def c71 : Code := Try.f71.body.getD .skip
def rs71 : List ResultVar := [.tmp 4]
def fi71 : FnI := { nt := 17, lp := fun i => ⟨false, []⟩, jn := fun i => none, dt := fun i => none }
noncomputable def c72 : Code := Try.f72.body.getD .skip
def rs72 : List ResultVar := [.tmp 4]
def fi72 : FnI := { nt := 19, lp := fun i => if i = 2 then ⟨false, [0, 1, 7, 8]⟩ else ⟨false, []⟩, jn := fun i => none, dt := fun i => none }
noncomputable def c73 : Code := Try.f73.body.getD .skip
def rs73 : List ResultVar := [.tmp 4]
def fi73 : FnI := { nt := 9, lp := fun i => ⟨false, []⟩, jn := fun i => none, dt := fun i => none }
noncomputable def c74 : Code := Try.f74.body.getD .skip
def rs74 : List ResultVar := [.tmp 3]
def fi74 : FnI := { nt := 16, lp := fun i => ⟨false, []⟩, jn := fun i => none, dt := fun i => none }
noncomputable def c75 : Code := Try.f75.body.getD .skip
def rs75 : List ResultVar := [.tmp 2]
def fi75 : FnI := { nt := 8, lp := fun i => ⟨false, []⟩, jn := fun i => none, dt := fun i => none }
noncomputable def c76 : Code := Try.f76.body.getD .skip
def rs76 : List ResultVar := [.tmp 2]
def fi76 : FnI := { nt := 8, lp := fun i => ⟨false, []⟩, jn := fun i => none, dt := fun i => none }
noncomputable def c77 : Code := Try.f77.body.getD .skip
def rs77 : List ResultVar := [.tmp 4]
def fi77 : FnI := { nt := 15, lp := fun i => ⟨false, []⟩, jn := fun i => none, dt := fun i => none }
noncomputable def c78 : Code := Try.f78.body.getD .skip
def rs78 : List ResultVar := [.tmp 4]
def fi78 : FnI := { nt := 15, lp := fun i => ⟨false, []⟩, jn := fun i => none, dt := fun i => none }
noncomputable def c79 : Code := Try.f79.body.getD .skip
def rs79 : List ResultVar := [.tmp 2]
def fi79 : FnI := { nt := 23, lp := fun i => ⟨false, []⟩, jn := fun i => none, dt := fun i => none }
noncomputable def c80 : Code := Try.f80.body.getD .skip
def rs80 : List ResultVar := [.tmp 8]
def fi80 : FnI := { nt := 22, lp := fun i => ⟨false, []⟩, jn := fun i => none, dt := fun i => none }
noncomputable def c81 : Code := Try.f81.body.getD .skip
def rs81 : List ResultVar := [.tmp 2]
def fi81 : FnI := { nt := 5, lp := fun i => ⟨false, []⟩, jn := fun i => none, dt := fun i => none }
noncomputable def c82 : Code := Try.f82.body.getD .skip
def rs82 : List ResultVar := [.tmp 2]
def fi82 : FnI := { nt := 5, lp := fun i => ⟨false, []⟩, jn := fun i => none, dt := fun i => none }
noncomputable def c83 : Code := Try.f83.body.getD .skip
def rs83 : List ResultVar := [.tmp 2]
def fi83 : FnI := { nt := 18, lp := fun i => if i = 3 then ⟨false, [3, 6, 7, 8]⟩ else ⟨false, []⟩, jn := fun i => none, dt := fun i => none }
noncomputable def c84 : Code := Try.f84.body.getD .skip
def rs84 : List ResultVar := [.tmp 4]
def fi84 : FnI := { nt := 20, lp := fun i => ⟨false, []⟩, jn := fun i => none, dt := fun i => none }
noncomputable def c85 : Code := Try.f85.body.getD .skip
def rs85 : List ResultVar := [.tmp 4]
def fi85 : FnI := { nt := 19, lp := fun i => if i = 2 then ⟨false, [0, 1, 7, 8]⟩ else ⟨false, []⟩, jn := fun i => none, dt := fun i => none }
noncomputable def c86 : Code := Try.f86.body.getD .skip
def rs86 : List ResultVar := [.tmp 2]
def fi86 : FnI := { nt := 47, lp := fun i => if i = 2 then ⟨false, [0, 3]⟩ else ⟨false, []⟩, jn := fun i => none, dt := fun i => none }
noncomputable def c87 : Code := Try.f87.body.getD .skip
def rs87 : List ResultVar := [.tmp 4]
def fi87 : FnI := { nt := 51, lp := fun i => if i = 2 then ⟨true, [0, 1, 5]⟩ else ⟨false, []⟩, jn := fun i => none, dt := fun i => none }
noncomputable def c88 : Code := Try.f88.body.getD .skip
def rs88 : List ResultVar := [.tmp 2]
def fi88 : FnI := { nt := 6, lp := fun i => ⟨false, []⟩, jn := fun i => none, dt := fun i => none }
noncomputable def codeL : List (Option Func) := [none, none, none, some Try.f3, some Try.f4, some Try.f5, some Try.f6, some Try.f7, some Try.f8, some Try.f9, some Try.f10, some Try.f11, some Try.f12, some Try.f13, some Try.f14, some Try.f15, some Try.f16, some Try.f17, some Try.f18, some Try.f19, some Try.f20, some Try.f21, some Try.f22, some Try.f23, some Try.f24, some Try.f25, some Try.f26, some Try.f27, some Try.f28, some Try.f29, some Try.f30, some Try.f31, some Try.f32, some Try.f33, some Try.f34, some Try.f35, some Try.f36, some Try.f37, some Try.f38, some Try.f39, some Try.f40, some Try.f41, some Try.f42, some Try.f43, some Try.f44, some Try.f45, some Try.f46, some Try.f47, some Try.f48, some Try.f49, some Try.f50, some Try.f51, some Try.f52, some Try.f53, some Try.f54, some Try.f55, some Try.f56, some Try.f57, some Try.f58, some Try.f59, some Try.f60, some Try.f61, some Try.f62, some Try.f63, some Try.f64, some Try.f65, some Try.f66, some Try.f67, some Try.f68, some Try.f69, some Try.f70, some Try.f71, some Try.f72, some Try.f73, some Try.f74, some Try.f75, some Try.f76, some Try.f77, some Try.f78, some Try.f79, some Try.f80, some Try.f81, some Try.f82, some Try.f83, some Try.f84, some Try.f85, some Try.f86, some Try.f87, some Try.f88]
def fiL : List FnI := [⟨0, fun _ => ⟨false, []⟩, fun _ => none, fun _ => none⟩, ⟨0, fun _ => ⟨false, []⟩, fun _ => none, fun _ => none⟩, ⟨0, fun _ => ⟨false, []⟩, fun _ => none, fun _ => none⟩, fi3, fi4, fi5, fi6, fi7, fi8, fi9, fi10, fi11, fi12, fi13, fi14, fi15, fi16, fi17, fi18, fi19, fi20, fi21, fi22, fi23, fi24, fi25, fi26, fi27, fi28, fi29, fi30, fi31, fi32, fi33, fi34, fi35, fi36, fi37, fi38, fi39, fi40, fi41, fi42, fi43, fi44, fi45, fi46, fi47, fi48, fi49, fi50, fi51, fi52, fi53, fi54, fi55, fi56, fi57, fi58, fi59, fi60, fi61, fi62, fi63, fi64, fi65, fi66, fi67, fi68, fi69, fi70, fi71, fi72, fi73, fi74, fi75, fi76, fi77, fi78, fi79, fi80, fi81, fi82, fi83, fi84, fi85, fi86, fi87, fi88]
def primF (f : Nat) : Option (List SV → List SO → Out) := if f = 43 then some (cloneS 1 8) else if f = 75 then some (cloneS 2 16) else if f = 76 then some (cloneS 2 16) else none
def purF : Nat → List Nat := fun f => match f with  | _ => []
noncomputable def prg : Prg := { T := tab, own := ownF, pur := purF, code := fun f => (codeL[f]?).getD none, fi := fun f => (fiL[f]?).getD ⟨0, fun _ => ⟨false, []⟩, fun _ => none, fun _ => none⟩, prim := primF }
noncomputable def J3_9 (K : Nat → List SV → List SO → Out) (N nl : Nat) (x2 x3 x6 x7 : SV) (os : List SO) : Out := exec (cx K) N nl fi3 (subC c3 [1, 1, 1, 1, 1, 1, 1]) [(2, x2), (3, x3), (6, x6), (7, x7)] os (kEnd tab [] nl rs3)
noncomputable def J3_32 (K : Nat → List SV → List SO → Out) (N nl : Nat) (x6 x7 x10 x13 x15 x16 : SV) (os : List SO) : Out := exec (cx K) N nl fi3 (subC c3 [1, 1, 1, 1, 1, 1, 1, 1, 1, 1, 1, 1, 1, 1, 1, 1, 1, 1, 1, 1, 1, 1, 1, 1]) [(6, x6), (7, x7), (10, x10), (13, x13), (15, x15), (16, x16)] os (kEnd tab [] nl rs3)
noncomputable def JB3_9 (K : Nat → List SV → List SO → Out) (N nl : Nat) (x2 x3 x6 x7 : SV) (os : List SO) : Out :=
 bd (ret1 (loadS tab os 25 x2) os) fun v45 o45 =>
 bd (callS ⟨tab, ownF, K⟩ o45 7 [v45]) fun v46 o46 =>
 bd (allocS tab o46 32) fun v47 o47 =>
 bd (storeO tab o47 32 v47 (some v46)) fun v48 o48 =>
 bd (ret1 (loadS tab o48 27 x3) o48) fun v49 o49 =>
 bd (callS ⟨tab, ownF, K⟩ o49 8 [v49]) fun v50 o50 =>
 bd (allocS tab o50 37) fun v51 o51 =>
 bd (storeO tab o51 37 v51 (some v50)) fun v52 o52 =>
 bd (ret1 (loadS tab o52 32 v47) o52) fun v53 o53 =>
 bd (ret1 (loadS tab o53 37 v51) o53) fun v54 o54 =>
 bd (callS ⟨tab, ownF, K⟩ o54 9 [v53, v54]) fun v55 o55 =>
 bd (ret1 (extractS v55 0) o55) fun v56 o56 =>
 bd (ret1 (extractS v55 1) o56) fun v57 o57 =>
 bd (allocS tab o57 32) fun v58 o58 =>
 bd (storeO tab o58 32 v58 (some v56)) fun v59 o59 =>
 bd (ret1 (loadS tab o59 32 v58) o59) fun v60 o60 =>
 bd (ret1 (loadS tab o60 32 x6) o60) fun v61 o61 =>
 bd (callS ⟨tab, ownF, K⟩ o61 10 [v60, v61]) fun v62 o62 =>
 bd (ret1 (unS .not v62) o62) fun v63 o63 =>
 bd (gd v63 false (some (v57, o63)) o63) fun v64 o64 =>
 bd (gd v63 false (some (x7, o64)) o64) fun v65 o65 =>
 bd (gd v63 false (ret1 (binS tab .neq 4 v64 v65) o65) o65) fun v66 o66 =>
 bd (ret1 (pickS v63 (SV.v (.bool true)) v66) o66) fun v67 o67 =>
 condS v67 (retV tab nl o67 (resC1 (some (SV.v (.bool false))) (some [])))
 (dchk (isBox v47) <|
 bd (ret1 (loadS tab o67 32 v47) o67) fun v68 o68 =>
 bd (ret1 (loadS tab o68 25 x2) o68) fun v69 o69 =>
 dchk (keepOk ⟨tab, ownF, K⟩ o69 (SV.fn 7 []) [v69] [v47] false) <|
 bd (callS ⟨tab, ownF, K⟩ o69 7 [v69]) fun v70 o70 =>
 bd (callS ⟨tab, ownF, K⟩ o70 10 [v68, v70]) fun v71 o71 =>
 bd (ret1 (unS .not v71) o71) fun v72 o72 =>
 condS v72 (retV tab nl o72 (resC1 (some (SV.v (.bool false))) (some [])))
 (dchk (isBox v51) <|
 bd (ret1 (loadS tab o72 37 v51) o72) fun v73 o73 =>
 bd (ret1 (loadS tab o73 27 x3) o73) fun v74 o74 =>
 dchk (keepOk ⟨tab, ownF, K⟩ o74 (SV.fn 8 []) [v74] [v51] false) <|
 bd (callS ⟨tab, ownF, K⟩ o74 8 [v74]) fun v75 o75 =>
 bd (callS ⟨tab, ownF, K⟩ o75 11 [v73, v75]) fun v76 o76 =>
 bd (ret1 (unS .not v76) o76) fun v77 o77 =>
 condS v77 (retV tab nl o77 (resC1 (some (SV.v (.bool false))) (some [])))
 (bd (ret1 (loadS tab o77 32 v47) o77) fun v78 o78 =>
 bd (callS ⟨tab, ownF, K⟩ o78 12 [v78, (SV.v (.int .i64 1))]) fun v79 o79 =>
 bd (ret1 (loadS tab o79 37 v51) o79) fun v80 o80 =>
 bd (callS ⟨tab, ownF, K⟩ o80 13 [v80, v79]) fun v81 o81 =>
 bd (ret1 (binS tab .lss 3 v81 (SV.v (.int .i64 0))) o81) fun v82 o82 =>
 bd (gd v82 false (ret1 (loadS tab o82 32 v58) o82) o82) fun v83 o83 =>
 bd (gd v82 false (ret1 (loadS tab o83 32 x6) o83) o83) fun v84 o84 =>
 bd (gd v82 false (callS ⟨tab, ownF, K⟩ o84 10 [v83, v84]) o84) fun v85 o85 =>
 bd (gd v82 false (ret1 (unS .not v85) o85) o85) fun v86 o86 =>
 bd (ret1 (pickS v82 (SV.v (.bool true)) v86) o86) fun v87 o87 =>
 bd (gd v87 false (some (v57, o87)) o87) fun v88 o88 =>
 bd (gd v87 false (some (x7, o88)) o88) fun v89 o89 =>
 bd (gd v87 false (ret1 (binS tab .neq 4 v88 v89) o89) o89) fun v90 o90 =>
 bd (ret1 (pickS v87 (SV.v (.bool true)) v90) o90) fun v91 o91 =>
 condS v91 (retV tab nl o91 (resC1 (some (SV.v (.bool false))) (some [])))
 (bd (ret1 (loadS tab o91 32 v58) o91) fun v92 o92 =>
 bd (callS ⟨tab, ownF, K⟩ o92 12 [v92, (SV.v (.int .i64 1))]) fun v93 o93 =>
 bd (ret1 (loadS tab o93 32 v58) o93) fun v94 o94 =>
 bd (callS ⟨tab, ownF, K⟩ o94 14 [v94, (SV.v (.int .i64 1))]) fun v95 o95 =>
 bd (ret1 (binS tab .lss 3 v95 (SV.v (.int .i64 0))) o95) fun v96 o96 =>
 condS v96 (retV tab nl o96 (resC1 (some (SV.v (.bool false))) (some [])))
 (bd (ret1 (binS tab .neq 3 v95 v93) o96) fun v97 o97 =>
 condS v97 (retV tab nl o97 (resC1 (some (SV.v (.bool false))) (some [])))
 (both (both (both (bd (ret1 (loadS tab o97 25 x2) o97) fun v98 o98 =>
 dchk (keepOk ⟨tab, ownF, K⟩ o98 (SV.fn 7 []) [v98] [] true) <|
 bd (callS ⟨tab, ownF, K⟩ o98 7 [v98]) fun v99 o99 =>
 dchk (isBox x3) <|
 bd (ret1 (loadS tab o99 27 x3) o99) fun v100 o100 =>
 bd (callS ⟨tab, ownF, K⟩ o100 8 [v100]) fun v101 o101 =>
 bd (callS ⟨tab, ownF, K⟩ o101 9 [v99, v101]) fun v102 o102 =>
 bd (ret1 (extractS v102 0) o102) fun v103 o103 =>
 bd (ret1 (extractS v102 1) o103) fun v104 o104 =>
 bd (allocS tab o104 32) fun v105 o105 =>
 bd (storeO tab o105 32 v105 (some v103)) fun v106 o106 =>
 J3_32 K N nl x6 x7 v58 v93 v105 v104 o106)
 (bd (ret1 (loadS tab o97 25 x2) o97) fun v107 o107 =>
 dchk (keepOk ⟨tab, ownF, K⟩ o107 (SV.fn 7 []) [v107] [] true) <|
 bd (callS ⟨tab, ownF, K⟩ o107 7 [v107]) fun v108 o108 =>
 dchk (isBox x3) <|
 bd (ret1 (loadS tab o108 27 x3) o108) fun v109 o109 =>
 bd (callS ⟨tab, ownF, K⟩ o109 8 [v109]) fun v110 o110 =>
 bd (allocS tab o110 32) fun v111 o111 =>
 bd (callS ⟨tab, ownF, K⟩ o111 9 [v108, v110]) fun v112 o112 =>
 bd (ret1 (extractS v112 0) o112) fun v113 o113 =>
 bd (ret1 (extractS v112 1) o113) fun v114 o114 =>
 bd (storeO tab o114 32 v111 (some v113)) fun v115 o115 =>
 J3_32 K N nl x6 x7 v58 v93 v111 v114 o115))
 (bd (ret1 (loadS tab o97 25 x2) o97) fun v116 o116 =>
 dchk (keepOk ⟨tab, ownF, K⟩ o116 (SV.fn 7 []) [v116] [] true) <|
 bd (callS ⟨tab, ownF, K⟩ o116 7 [v116]) fun v117 o117 =>
 dchk (isBox x3) <|
 bd (ret1 (loadS tab o117 27 x3) o117) fun v118 o118 =>
 bd (allocS tab o118 32) fun v119 o119 =>
 bd (callS ⟨tab, ownF, K⟩ o119 8 [v118]) fun v120 o120 =>
 bd (callS ⟨tab, ownF, K⟩ o120 9 [v117, v120]) fun v121 o121 =>
 bd (ret1 (extractS v121 0) o121) fun v122 o122 =>
 bd (ret1 (extractS v121 1) o122) fun v123 o123 =>
 bd (storeO tab o123 32 v119 (some v122)) fun v124 o124 =>
 J3_32 K N nl x6 x7 v58 v93 v119 v123 o124))
 (dchk (isBox x2) <|
 bd (ret1 (loadS tab o97 25 x2) o97) fun v125 o125 =>
 dchk (isBox x3) <|
 bd (ret1 (loadS tab o125 27 x3) o125) fun v126 o126 =>
 bd (allocS tab o126 32) fun v127 o127 =>
 dchk (keepOk ⟨tab, ownF, K⟩ o127 (SV.fn 7 []) [v125] [x3] false) <|
 bd (callS ⟨tab, ownF, K⟩ o127 7 [v125]) fun v128 o128 =>
 bd (callS ⟨tab, ownF, K⟩ o128 8 [v126]) fun v129 o129 =>
 bd (callS ⟨tab, ownF, K⟩ o129 9 [v128, v129]) fun v130 o130 =>
 bd (ret1 (extractS v130 0) o130) fun v131 o131 =>
 bd (ret1 (extractS v130 1) o131) fun v132 o132 =>
 bd (storeO tab o132 32 v127 (some v131)) fun v133 o133 =>
 J3_32 K N nl x6 x7 v58 v93 v127 v132 o133)))))))
noncomputable def JB3_32 (K : Nat → List SV → List SO → Out) (N nl : Nat) (x6 x7 x10 x13 x15 x16 : SV) (os : List SO) : Out :=
 bd (ret1 (loadS tab os 32 x15) os) fun v134 o134 =>
 bd (ret1 (loadS tab o134 32 x6) o134) fun v135 o135 =>
 bd (callS ⟨tab, ownF, K⟩ o135 10 [v134, v135]) fun v136 o136 =>
 bd (ret1 (unS .not v136) o136) fun v137 o137 =>
 bd (gd v137 false (some (x16, o137)) o137) fun v138 o138 =>
 bd (gd v137 false (some (x7, o138)) o138) fun v139 o139 =>
 bd (gd v137 false (ret1 (binS tab .neq 4 v138 v139) o139) o139) fun v140 o140 =>
 bd (ret1 (pickS v137 (SV.v (.bool true)) v140) o140) fun v141 o141 =>
 condS v141 (retV tab nl o141 (resC1 (some (SV.v (.bool false))) (some [])))
 (bd (ret1 (loadS tab o141 32 x10) o141) fun v142 o142 =>
 bd (callS ⟨tab, ownF, K⟩ o142 14 [v142, (SV.v (.int .i64 1))]) fun v143 o143 =>
 bd (ret1 (binS tab .lss 3 v143 (SV.v (.int .i64 0))) o143) fun v144 o144 =>
 condS v144 (retV tab nl o144 (resC1 (some (SV.v (.bool false))) (some [])))
 (bd (ret1 (binS tab .neq 3 v143 x13) o144) fun v145 o145 =>
 condS v145 (retV tab nl o145 (resC1 (some (SV.v (.bool false))) (some [])))
 (retV tab nl o145 (resC1 (some (SV.v (.bool true))) (some [])))))
noncomputable def X3 (K : Nat → List SV → List SO → Out) (N nl : Nat) (x0 x1 : SV) (os : List SO) : Out := exec (cx K) N nl fi3 c3 [(0, x0), (1, x1)] os (kEnd tab [] nl rs3)
noncomputable def B3 (K : Nat → List SV → List SO → Out) (N nl : Nat) (x0 x1 : SV) (os : List SO) : Out :=
 bd (boxS tab os 25 (some x0)) fun v1 o1 =>
 bd (boxS tab o1 27 (some x1)) fun v2 o2 =>
 bd (ret1 (loadS tab o2 25 v1) o2) fun v3 o3 =>
 bd (callS ⟨tab, ownF, K⟩ o3 4 [v3, (SV.v (.int .i64 1048576))]) fun v4 o4 =>
 bd (ret1 (binS tab .lss 3 v4 (SV.v (.int .i64 0))) o4) fun v5 o5 =>
 condS v5 (retV tab nl o5 (resC1 (some (SV.v (.bool true))) (some [])))
 (bd (ret1 (loadS tab o5 27 v2) o5) fun v6 o6 =>
 bd (callS ⟨tab, ownF, K⟩ o6 5 [v6, v4]) fun v7 o7 =>
 bd (ret1 (binS tab .lss 3 v7 (SV.v (.int .i64 0))) o7) fun v8 o8 =>
 condS v8 (retV tab nl o8 (resC1 (some (SV.v (.bool true))) (some [])))
 (both (both (both (bd (ret1 (loadS tab o8 25 v1) o8) fun v9 o9 =>
 dchk (keepOk ⟨tab, ownF, K⟩ o9 (SV.fn 7 []) [v9] [] true) <|
 bd (callS ⟨tab, ownF, K⟩ o9 7 [v9]) fun v10 o10 =>
 dchk (isBox v2) <|
 bd (ret1 (loadS tab o10 27 v2) o10) fun v11 o11 =>
 bd (callS ⟨tab, ownF, K⟩ o11 8 [v11]) fun v12 o12 =>
 bd (callS ⟨tab, ownF, K⟩ o12 6 [v10, v12]) fun v13 o13 =>
 bd (ret1 (extractS v13 0) o13) fun v14 o14 =>
 bd (ret1 (extractS v13 1) o14) fun v15 o15 =>
 bd (allocS tab o15 32) fun v16 o16 =>
 bd (storeO tab o16 32 v16 (some v14)) fun v17 o17 =>
 J3_9 K N nl v1 v2 v16 v15 o17)
 (bd (ret1 (loadS tab o8 25 v1) o8) fun v18 o18 =>
 dchk (keepOk ⟨tab, ownF, K⟩ o18 (SV.fn 7 []) [v18] [] true) <|
 bd (callS ⟨tab, ownF, K⟩ o18 7 [v18]) fun v19 o19 =>
 dchk (isBox v2) <|
 bd (ret1 (loadS tab o19 27 v2) o19) fun v20 o20 =>
 bd (callS ⟨tab, ownF, K⟩ o20 8 [v20]) fun v21 o21 =>
 bd (allocS tab o21 32) fun v22 o22 =>
 bd (callS ⟨tab, ownF, K⟩ o22 6 [v19, v21]) fun v23 o23 =>
 bd (ret1 (extractS v23 0) o23) fun v24 o24 =>
 bd (ret1 (extractS v23 1) o24) fun v25 o25 =>
 bd (storeO tab o25 32 v22 (some v24)) fun v26 o26 =>
 J3_9 K N nl v1 v2 v22 v25 o26))
 (bd (ret1 (loadS tab o8 25 v1) o8) fun v27 o27 =>
 dchk (keepOk ⟨tab, ownF, K⟩ o27 (SV.fn 7 []) [v27] [] true) <|
 bd (callS ⟨tab, ownF, K⟩ o27 7 [v27]) fun v28 o28 =>
 dchk (isBox v2) <|
 bd (ret1 (loadS tab o28 27 v2) o28) fun v29 o29 =>
 bd (allocS tab o29 32) fun v30 o30 =>
 bd (callS ⟨tab, ownF, K⟩ o30 8 [v29]) fun v31 o31 =>
 bd (callS ⟨tab, ownF, K⟩ o31 6 [v28, v31]) fun v32 o32 =>
 bd (ret1 (extractS v32 0) o32) fun v33 o33 =>
 bd (ret1 (extractS v32 1) o33) fun v34 o34 =>
 bd (storeO tab o34 32 v30 (some v33)) fun v35 o35 =>
 J3_9 K N nl v1 v2 v30 v34 o35))
 (dchk (isBox v1) <|
 bd (ret1 (loadS tab o8 25 v1) o8) fun v36 o36 =>
 dchk (isBox v2) <|
 bd (ret1 (loadS tab o36 27 v2) o36) fun v37 o37 =>
 bd (allocS tab o37 32) fun v38 o38 =>
 dchk (keepOk ⟨tab, ownF, K⟩ o38 (SV.fn 7 []) [v36] [v2] false) <|
 bd (callS ⟨tab, ownF, K⟩ o38 7 [v36]) fun v39 o39 =>
 bd (callS ⟨tab, ownF, K⟩ o39 8 [v37]) fun v40 o40 =>
 bd (callS ⟨tab, ownF, K⟩ o40 6 [v39, v40]) fun v41 o41 =>
 bd (ret1 (extractS v41 0) o41) fun v42 o42 =>
 bd (ret1 (extractS v41 1) o42) fun v43 o43 =>
 bd (storeO tab o43 32 v38 (some v42)) fun v44 o44 =>
 J3_9 K N nl v1 v2 v38 v43 o44)))
noncomputable def X4 (K : Nat → List SV → List SO → Out) (N nl : Nat) (x0 x1 : SV) (os : List SO) : Out := exec (cx K) N nl fi4 c4 [(0, x0), (1, x1)] os (kEnd tab [] nl rs4)
noncomputable def B4 (K : Nat → List SV → List SO → Out) (N nl : Nat) (x0 x1 : SV) (os : List SO) : Out :=
 bd (boxS tab os 25 (some x0)) fun v1 o1 =>
 bd (ret1 (fieldAddrS tab 25 v1 0) o1) fun v2 o2 =>
 bd (ret1 (loadS tab o2 22 v2) o2) fun v3 o3 =>
 bd (callS ⟨tab, ownF, K⟩ o3 15 [v3, x1]) fun v4 o4 =>
 bd (ret1 (binS tab .lss 3 v4 (SV.v (.int .i64 0))) o4) fun v5 o5 =>
 condS v5 (retV tab nl o5 (resC1 (some (SV.v (.int .i64 (-1)))) (some [])))
 (bd (ret1 (fieldAddrS tab 25 v1 1) o5) fun v6 o6 =>
 bd (ret1 (loadS tab o6 23 v6) o6) fun v7 o7 =>
 bd (callS ⟨tab, ownF, K⟩ o7 16 [v7, v4]) fun v8 o8 =>
 bd (ret1 (binS tab .lss 3 v8 (SV.v (.int .i64 0))) o8) fun v9 o9 =>
 condS v9 (retV tab nl o9 (resC1 (some (SV.v (.int .i64 (-1)))) (some [])))
 (bd (ret1 (fieldAddrS tab 25 v1 3) o9) fun v10 o10 =>
 bd (ret1 (loadS tab o10 22 v10) o10) fun v11 o11 =>
 bd (callS ⟨tab, ownF, K⟩ o11 15 [v11, v8]) fun v12 o12 =>
 bd (ret1 (binS tab .lss 3 v12 (SV.v (.int .i64 0))) o12) fun v13 o13 =>
 condS v13 (retV tab nl o13 (resC1 (some (SV.v (.int .i64 (-1)))) (some [])))
 (retV tab nl o13 (resC1 (some v12) (some [])))))
noncomputable def X5 (K : Nat → List SV → List SO → Out) (N nl : Nat) (x0 x1 : SV) (os : List SO) : Out := exec (cx K) N nl fi5 c5 [(0, x0), (1, x1)] os (kEnd tab [] nl rs5)
noncomputable def B5 (K : Nat → List SV → List SO → Out) (N nl : Nat) (x0 x1 : SV) (os : List SO) : Out :=
 bd (boxS tab os 27 (some x0)) fun v1 o1 =>
 bd (ret1 (fieldAddrS tab 27 v1 3) o1) fun v2 o2 =>
 bd (ret1 (loadS tab o2 22 v2) o2) fun v3 o3 =>
 bd (callS ⟨tab, ownF, K⟩ o3 15 [v3, x1]) fun v4 o4 =>
 bd (ret1 (binS tab .lss 3 v4 (SV.v (.int .i64 0))) o4) fun v5 o5 =>
 condS v5 (retV tab nl o5 (resC1 (some (SV.v (.int .i64 (-1)))) (some [])))
 (retV tab nl o5 (resC1 (some v4) (some [])))
noncomputable def X6 (K : Nat → List SV → List SO → Out) (N nl : Nat) (x0 x1 : SV) (os : List SO) : Out := exec (cx K) N nl fi6 c6 [(0, x0), (1, x1)] os (kEnd tab [] nl rs6)
noncomputable def B6 (K : Nat → List SV → List SO → Out) (N nl : Nat) (x0 x1 : SV) (os : List SO) : Out :=
 bd (boxS tab os 32 (some x0)) fun v1 o1 =>
 bd (boxS tab o1 37 (some x1)) fun v2 o2 =>
 bd (allocS tab o2 32) fun v3 o3 =>
 bd (ret1 (loadS tab o3 32 v1) o3) fun v4 o4 =>
 bd (callS ⟨tab, ownF, K⟩ o4 17 [v4]) fun v5 o5 =>
 bd (ret1 (unS .not v5) o5) fun v6 o6 =>
 bd (gd v6 false (ret1 (loadS tab o6 37 v2) o6) o6) fun v7 o7 =>
 bd (gd v6 false (callS ⟨tab, ownF, K⟩ o7 18 [v7]) o7) fun v8 o8 =>
 bd (gd v6 false (ret1 (unS .not v8) o8) o8) fun v9 o9 =>
 bd (ret1 (pickS v6 (SV.v (.bool true)) v9) o9) fun v10 o10 =>
 condS v10 (bd (buildS tab o10 32 []) fun v11 o11 =>
 bd (storeO tab o11 32 v3 (some v11)) fun v12 o12 =>
 retV tab nl o12 (resC1 (loadS tab o12 32 v3) (resC1 (some (SV.v (.bool false))) (some []))))
 (bd (ret1 (loadS tab o10 32 v1) o10) fun v13 o13 =>
 dchk (keepOk ⟨tab, ownF, K⟩ o13 (SV.fn 20 []) [v13] [] true) <|
 bd (callS ⟨tab, ownF, K⟩ o13 20 [v13]) fun v14 o14 =>
 dchk (isBox v2) <|
 bd (ret1 (loadS tab o14 37 v2) o14) fun v15 o15 =>
 bd (callS ⟨tab, ownF, K⟩ o15 19 [v14, v15]) fun v16 o16 =>
 bd (storeO tab o16 32 v3 (some v16)) fun v17 o17 =>
 retV tab nl o17 (resC1 (loadS tab o17 32 v3) (resC1 (some (SV.v (.bool true))) (some []))))
noncomputable def X7 (K : Nat → List SV → List SO → Out) (N nl : Nat) (x0 : SV) (os : List SO) : Out := exec (cx K) N nl fi7 c7 [(0, x0)] os (kEnd tab [] nl rs7)
noncomputable def B7 (K : Nat → List SV → List SO → Out) (N nl : Nat) (x0 : SV) (os : List SO) : Out :=
 bd (boxS tab os 25 (some x0)) fun v1 o1 =>
 bd (allocS tab o1 32) fun v2 o2 =>
 bd (allocS tab o2 32) fun v3 o3 =>
 bd (ret1 (fieldAddrS tab 25 v1 0) o3) fun v4 o4 =>
 bd (ret1 (loadS tab o4 22 v4) o4) fun v5 o5 =>
 bd (callS ⟨tab, ownF, K⟩ o5 21 [v5]) fun v6 o6 =>
 bd (ret1 (fieldAddrS tab 32 v3 0) o6) fun v7 o7 =>
 bd (storeO tab o7 30 v7 (some v6)) fun v8 o8 =>
 bd (ret1 (fieldAddrS tab 25 v1 1) o8) fun v9 o9 =>
 bd (ret1 (loadS tab o9 23 v9) o9) fun v10 o10 =>
 bd (callS ⟨tab, ownF, K⟩ o10 22 [v10]) fun v11 o11 =>
 bd (ret1 (fieldAddrS tab 32 v3 1) o11) fun v12 o12 =>
 bd (storeO tab o12 23 v12 (some v11)) fun v13 o13 =>
 bd (ret1 (fieldAddrS tab 25 v1 2) o13) fun v14 o14 =>
 bd (ret1 (loadS tab o14 4 v14) o14) fun v15 o15 =>
 bd (ret1 (fieldAddrS tab 32 v3 2) o15) fun v16 o16 =>
 bd (storeO tab o16 4 v16 (some v15)) fun v17 o17 =>
 bd (ret1 (fieldAddrS tab 25 v1 3) o17) fun v18 o18 =>
 bd (ret1 (loadS tab o18 22 v18) o18) fun v19 o19 =>
 bd (callS ⟨tab, ownF, K⟩ o19 21 [v19]) fun v20 o20 =>
 bd (ret1 (fieldAddrS tab 32 v3 3) o20) fun v21 o21 =>
 bd (storeO tab o21 30 v21 (some v20)) fun v22 o22 =>
 bd (ret1 (loadS tab o22 32 v3) o22) fun v23 o23 =>
 bd (storeO tab o23 32 v2 (some v23)) fun v24 o24 =>
 retV tab nl o24 (resC1 (loadS tab o24 32 v2) (some []))
noncomputable def X8 (K : Nat → List SV → List SO → Out) (N nl : Nat) (x0 : SV) (os : List SO) : Out := exec (cx K) N nl fi8 c8 [(0, x0)] os (kEnd tab [] nl rs8)
noncomputable def B8 (K : Nat → List SV → List SO → Out) (N nl : Nat) (x0 : SV) (os : List SO) : Out :=
 bd (boxS tab os 27 (some x0)) fun v1 o1 =>
 bd (allocS tab o1 37) fun v2 o2 =>
 bd (allocS tab o2 37) fun v3 o3 =>
 bd (ret1 (fieldAddrS tab 27 v1 0) o3) fun v4 o4 =>
 bd (ret1 (loadS tab o4 3 v4) o4) fun v5 o5 =>
 bd (ret1 (fieldAddrS tab 37 v3 0) o5) fun v6 o6 =>
 bd (storeO tab o6 3 v6 (some v5)) fun v7 o7 =>
 bd (ret1 (fieldAddrS tab 27 v1 1) o7) fun v8 o8 =>
 bd (ret1 (loadS tab o8 3 v8) o8) fun v9 o9 =>
 bd (ret1 (fieldAddrS tab 37 v3 1) o9) fun v10 o10 =>
 bd (storeO tab o10 3 v10 (some v9)) fun v11 o11 =>
 bd (ret1 (fieldAddrS tab 27 v1 2) o11) fun v12 o12 =>
 bd (ret1 (loadS tab o12 3 v12) o12) fun v13 o13 =>
 bd (ret1 (fieldAddrS tab 37 v3 2) o13) fun v14 o14 =>
 bd (storeO tab o14 3 v14 (some v13)) fun v15 o15 =>
 bd (ret1 (fieldAddrS tab 27 v1 3) o15) fun v16 o16 =>
 bd (ret1 (loadS tab o16 22 v16) o16) fun v17 o17 =>
 bd (callS ⟨tab, ownF, K⟩ o17 21 [v17]) fun v18 o18 =>
 bd (ret1 (fieldAddrS tab 37 v3 3) o18) fun v19 o19 =>
 bd (storeO tab o19 30 v19 (some v18)) fun v20 o20 =>
 bd (ret1 (loadS tab o20 37 v3) o20) fun v21 o21 =>
 bd (storeO tab o21 37 v2 (some v21)) fun v22 o22 =>
 retV tab nl o22 (resC1 (loadS tab o22 37 v2) (some []))
noncomputable def X9 (K : Nat → List SV → List SO → Out) (N nl : Nat) (x0 x1 : SV) (os : List SO) : Out := exec (cx K) N nl fi9 c9 [(0, x0), (1, x1)] os (kEnd tab [] nl rs9)
noncomputable def B9 (K : Nat → List SV → List SO → Out) (N nl : Nat) (x0 x1 : SV) (os : List SO) : Out :=
 bd (boxS tab os 32 (some x0)) fun v1 o1 =>
 bd (boxS tab o1 37 (some x1)) fun v2 o2 =>
 bd (allocS tab o2 32) fun v3 o3 =>
 bd (ret1 (loadS tab o3 32 v1) o3) fun v4 o4 =>
 bd (callS ⟨tab, ownF, K⟩ o4 23 [v4]) fun v5 o5 =>
 bd (ret1 (unS .not v5) o5) fun v6 o6 =>
 bd (gd v6 false (ret1 (loadS tab o6 37 v2) o6) o6) fun v7 o7 =>
 bd (gd v6 false (callS ⟨tab, ownF, K⟩ o7 24 [v7]) o7) fun v8 o8 =>
 bd (gd v6 false (ret1 (unS .not v8) o8) o8) fun v9 o9 =>
 bd (ret1 (pickS v6 (SV.v (.bool true)) v9) o9) fun v10 o10 =>
 condS v10 (bd (buildS tab o10 32 []) fun v11 o11 =>
 bd (storeO tab o11 32 v3 (some v11)) fun v12 o12 =>
 retV tab nl o12 (resC1 (loadS tab o12 32 v3) (resC1 (some (SV.v (.bool false))) (some []))))
 (bd (ret1 (loadS tab o10 32 v1) o10) fun v13 o13 =>
 bd (callS ⟨tab, ownF, K⟩ o13 25 [v13]) fun v14 o14 =>
 bd (allocS tab o14 32) fun v15 o15 =>
 bd (storeO tab o15 32 v15 (some v14)) fun v16 o16 =>
 bd (ret1 (loadS tab o16 37 v2) o16) fun v17 o17 =>
 bd (callS ⟨tab, ownF, K⟩ o17 26 [v15, v17]) fun v18 o18 =>
 bd (ret1 (loadS tab o18 32 v15) o18) fun v19 o19 =>
 bd (storeO tab o19 32 v3 (some v19)) fun v20 o20 =>
 retV tab nl o20 (resC1 (loadS tab o20 32 v3) (resC1 (some (SV.v (.bool true))) (some []))))
noncomputable def X10 (K : Nat → List SV → List SO → Out) (N nl : Nat) (x0 x1 : SV) (os : List SO) : Out := exec (cx K) N nl fi10 c10 [(0, x0), (1, x1)] os (kEnd tab [] nl rs10)
noncomputable def B10 (K : Nat → List SV → List SO → Out) (N nl : Nat) (x0 x1 : SV) (os : List SO) : Out :=
 bd (boxS tab os 32 (some x0)) fun v1 o1 =>
 bd (boxS tab o1 32 (some x1)) fun v2 o2 =>
 bd (ret1 (fieldAddrS tab 32 v1 0) o2) fun v3 o3 =>
 bd (ret1 (loadS tab o3 30 v3) o3) fun v4 o4 =>
 bd (ret1 (fieldAddrS tab 32 v2 0) o4) fun v5 o5 =>
 bd (ret1 (loadS tab o5 30 v5) o5) fun v6 o6 =>
 bd (callS ⟨tab, ownF, K⟩ o6 27 [v4, v6]) fun v7 o7 =>
 bd (ret1 (unS .not v7) o7) fun v8 o8 =>
 condS v8 (retV tab nl o8 (resC1 (some (SV.v (.bool false))) (some [])))
 (bd (ret1 (fieldAddrS tab 32 v1 1) o8) fun v9 o9 =>
 bd (ret1 (loadS tab o9 23 v9) o9) fun v10 o10 =>
 bd (ret1 (fieldAddrS tab 32 v2 1) o10) fun v11 o11 =>
 bd (ret1 (loadS tab o11 23 v11) o11) fun v12 o12 =>
 bd (callS ⟨tab, ownF, K⟩ o12 28 [v10, v12]) fun v13 o13 =>
 bd (ret1 (unS .not v13) o13) fun v14 o14 =>
 condS v14 (retV tab nl o14 (resC1 (some (SV.v (.bool false))) (some [])))
 (bd (ret1 (fieldAddrS tab 32 v1 2) o14) fun v15 o15 =>
 bd (ret1 (loadS tab o15 4 v15) o15) fun v16 o16 =>
 bd (ret1 (fieldAddrS tab 32 v2 2) o16) fun v17 o17 =>
 bd (ret1 (loadS tab o17 4 v17) o17) fun v18 o18 =>
 bd (ret1 (binS tab .neq 4 v16 v18) o18) fun v19 o19 =>
 condS v19 (retV tab nl o19 (resC1 (some (SV.v (.bool false))) (some [])))
 (bd (ret1 (fieldAddrS tab 32 v1 3) o19) fun v20 o20 =>
 bd (ret1 (loadS tab o20 30 v20) o20) fun v21 o21 =>
 bd (ret1 (fieldAddrS tab 32 v2 3) o21) fun v22 o22 =>
 bd (ret1 (loadS tab o22 30 v22) o22) fun v23 o23 =>
 bd (callS ⟨tab, ownF, K⟩ o23 27 [v21, v23]) fun v24 o24 =>
 bd (ret1 (unS .not v24) o24) fun v25 o25 =>
 condS v25 (retV tab nl o25 (resC1 (some (SV.v (.bool false))) (some [])))
 (retV tab nl o25 (resC1 (some (SV.v (.bool true))) (some []))))))
noncomputable def X11 (K : Nat → List SV → List SO → Out) (N nl : Nat) (x0 x1 : SV) (os : List SO) : Out := exec (cx K) N nl fi11 c11 [(0, x0), (1, x1)] os (kEnd tab [] nl rs11)
noncomputable def B11 (K : Nat → List SV → List SO → Out) (N nl : Nat) (x0 x1 : SV) (os : List SO) : Out :=
 bd (boxS tab os 37 (some x0)) fun v1 o1 =>
 bd (boxS tab o1 37 (some x1)) fun v2 o2 =>
 bd (ret1 (fieldAddrS tab 37 v1 0) o2) fun v3 o3 =>
 bd (ret1 (loadS tab o3 3 v3) o3) fun v4 o4 =>
 bd (ret1 (fieldAddrS tab 37 v2 0) o4) fun v5 o5 =>
 bd (ret1 (loadS tab o5 3 v5) o5) fun v6 o6 =>
 bd (ret1 (binS tab .neq 3 v4 v6) o6) fun v7 o7 =>
 condS v7 (retV tab nl o7 (resC1 (some (SV.v (.bool false))) (some [])))
 (bd (ret1 (fieldAddrS tab 37 v1 1) o7) fun v8 o8 =>
 bd (ret1 (loadS tab o8 3 v8) o8) fun v9 o9 =>
 bd (ret1 (fieldAddrS tab 37 v2 1) o9) fun v10 o10 =>
 bd (ret1 (loadS tab o10 3 v10) o10) fun v11 o11 =>
 bd (ret1 (binS tab .neq 3 v9 v11) o11) fun v12 o12 =>
 condS v12 (retV tab nl o12 (resC1 (some (SV.v (.bool false))) (some [])))
 (bd (ret1 (fieldAddrS tab 37 v1 2) o12) fun v13 o13 =>
 bd (ret1 (loadS tab o13 3 v13) o13) fun v14 o14 =>
 bd (ret1 (fieldAddrS tab 37 v2 2) o14) fun v15 o15 =>
 bd (ret1 (loadS tab o15 3 v15) o15) fun v16 o16 =>
 bd (ret1 (binS tab .neq 3 v14 v16) o16) fun v17 o17 =>
 condS v17 (retV tab nl o17 (resC1 (some (SV.v (.bool false))) (some [])))
 (bd (ret1 (fieldAddrS tab 37 v1 3) o17) fun v18 o18 =>
 bd (ret1 (loadS tab o18 30 v18) o18) fun v19 o19 =>
 bd (ret1 (fieldAddrS tab 37 v2 3) o19) fun v20 o20 =>
 bd (ret1 (loadS tab o20 30 v20) o20) fun v21 o21 =>
 bd (callS ⟨tab, ownF, K⟩ o21 27 [v19, v21]) fun v22 o22 =>
 bd (ret1 (unS .not v22) o22) fun v23 o23 =>
 condS v23 (retV tab nl o23 (resC1 (some (SV.v (.bool false))) (some [])))
 (retV tab nl o23 (resC1 (some (SV.v (.bool true))) (some []))))))
noncomputable def X12 (K : Nat → List SV → List SO → Out) (N nl : Nat) (x0 x1 : SV) (os : List SO) : Out := exec (cx K) N nl fi12 c12 [(0, x0), (1, x1)] os (kEnd tab [] nl rs12)
noncomputable def B12 (K : Nat → List SV → List SO → Out) (N nl : Nat) (x0 x1 : SV) (os : List SO) : Out :=
 bd (boxS tab os 32 (some x0)) fun v1 o1 =>
 bd (ret1 (fieldAddrS tab 32 v1 0) o1) fun v2 o2 =>
 bd (ret1 (loadS tab o2 30 v2) o2) fun v3 o3 =>
 bd (callS ⟨tab, ownF, K⟩ o3 29 [v3, x1]) fun v4 o4 =>
 bd (ret1 (fieldAddrS tab 32 v1 1) o4) fun v5 o5 =>
 bd (ret1 (loadS tab o5 23 v5) o5) fun v6 o6 =>
 bd (callS ⟨tab, ownF, K⟩ o6 30 [v6, v4]) fun v7 o7 =>
 bd (ret1 (fieldAddrS tab 32 v1 3) o7) fun v8 o8 =>
 bd (ret1 (loadS tab o8 30 v8) o8) fun v9 o9 =>
 bd (callS ⟨tab, ownF, K⟩ o9 29 [v9, v7]) fun v10 o10 =>
 retV tab nl o10 (resC1 (some v10) (some []))
noncomputable def X13 (K : Nat → List SV → List SO → Out) (N nl : Nat) (x0 x1 : SV) (os : List SO) : Out := exec (cx K) N nl fi13 c13 [(0, x0), (1, x1)] os (kEnd tab [] nl rs13)
noncomputable def B13 (K : Nat → List SV → List SO → Out) (N nl : Nat) (x0 x1 : SV) (os : List SO) : Out :=
 bd (boxS tab os 37 (some x0)) fun v1 o1 =>
 bd (ret1 (fieldAddrS tab 37 v1 3) o1) fun v2 o2 =>
 bd (ret1 (loadS tab o2 30 v2) o2) fun v3 o3 =>
 bd (callS ⟨tab, ownF, K⟩ o3 29 [v3, x1]) fun v4 o4 =>
 retV tab nl o4 (resC1 (some v4) (some []))
noncomputable def X14 (K : Nat → List SV → List SO → Out) (N nl : Nat) (x0 x1 : SV) (os : List SO) : Out := exec (cx K) N nl fi14 c14 [(0, x0), (1, x1)] os (kEnd tab [] nl rs14)
noncomputable def B14 (K : Nat → List SV → List SO → Out) (N nl : Nat) (x0 x1 : SV) (os : List SO) : Out :=
 bd (boxS tab os 32 (some x0)) fun v1 o1 =>
 bd (ret1 (fieldAddrS tab 32 v1 0) o1) fun v2 o2 =>
 bd (ret1 (loadS tab o2 30 v2) o2) fun v3 o3 =>
 bd (callS ⟨tab, ownF, K⟩ o3 31 [v3, x1]) fun v4 o4 =>
 bd (ret1 (binS tab .lss 3 v4 (SV.v (.int .i64 0))) o4) fun v5 o5 =>
 condS v5 (retV tab nl o5 (resC1 (some (SV.v (.int .i64 (-1)))) (some [])))
 (bd (ret1 (fieldAddrS tab 32 v1 1) o5) fun v6 o6 =>
 bd (ret1 (loadS tab o6 23 v6) o6) fun v7 o7 =>
 bd (callS ⟨tab, ownF, K⟩ o7 32 [v7, v4]) fun v8 o8 =>
 bd (ret1 (binS tab .lss 3 v8 (SV.v (.int .i64 0))) o8) fun v9 o9 =>
 condS v9 (retV tab nl o9 (resC1 (some (SV.v (.int .i64 (-1)))) (some [])))
 (bd (ret1 (fieldAddrS tab 32 v1 3) o9) fun v10 o10 =>
 bd (ret1 (loadS tab o10 30 v10) o10) fun v11 o11 =>
 bd (callS ⟨tab, ownF, K⟩ o11 31 [v11, v8]) fun v12 o12 =>
 bd (ret1 (binS tab .lss 3 v12 (SV.v (.int .i64 0))) o12) fun v13 o13 =>
 condS v13 (retV tab nl o13 (resC1 (some (SV.v (.int .i64 (-1)))) (some [])))
 (retV tab nl o13 (resC1 (some v12) (some [])))))
noncomputable def bk15_5 (K : Nat → List SV → List SO → Out) (N nl : Nat) (m5 : Nat) : Env → List SO → Out := fun env os => loopS nl (fi15.lp 5) (fun env os nx => exec (cx K) N nl fi15 (subC c15 [1, 1, 1, 0, 1, 0, 0]) env os (kLoop nx (kBlock 0 (kSeq (exec (cx K) N nl fi15 (subC c15 [1, 1, 1, 1])) (fi15.jn 10) (kEnd tab [] nl rs15))))) m5 (killS (fi15.lp 5).alive env) os
noncomputable def L15_5 (K : Nat → List SV → List SO → Out) (N nl : Nat) (m5 : Nat) (x0 x1 x5 : SV) (os : List SO) : Out := loopS nl (fi15.lp 5) (fun env os nx => exec (cx K) N nl fi15 (subC c15 [1, 1, 1, 0, 1, 0, 0]) env os (kLoop nx (kBlock 0 (kSeq (exec (cx K) N nl fi15 (subC c15 [1, 1, 1, 1])) (fi15.jn 10) (kEnd tab [] nl rs15))))) m5 [(0, x0), (1, x1), (5, x5)] os
noncomputable def LB15_5 (K : Nat → List SV → List SO → Out) (N nl : Nat) (m5 : Nat) (x0 x1 x5 : SV) (os : List SO) : Out :=
 bd (lenO tab 22 os x0) fun v4 o4 =>
 bd (ret1 (binS tab .lss 3 x5 v4) o4) fun v5 o5 =>
 condS v5 (bd (ret1 (indexAddrS tab o5 22 x0 x5) o5) fun v6 o6 =>
 bd (ret1 (loadS tab o6 62 v6) o6) fun v7 o7 =>
 bd (callS ⟨tab, ownF, K⟩ o7 33 [v7, x1]) fun v8 o8 =>
 bd (ret1 (binS tab .lss 3 v8 (SV.v (.int .i64 0))) o8) fun v9 o9 =>
 condS v9 (retV tab nl o9 (resC1 (some (SV.v (.int .i64 (-1)))) (some [])))
 (bd (ret1 (binS tab .add 3 x5 (SV.v (.int .i64 1))) o9) fun v10 o10 =>
 L15_5 K N nl m5 x0 v8 v10 o10))
 (retV tab nl o5 (resC1 (some x1) (some [])))
noncomputable def X15 (K : Nat → List SV → List SO → Out) (N nl : Nat) (x0 x1 : SV) (os : List SO) : Out := exec (cx K) N nl fi15 c15 [(0, x0), (1, x1)] os (kEnd tab [] nl rs15)
noncomputable def B15 (K : Nat → List SV → List SO → Out) (N nl : Nat) (x0 x1 : SV) (os : List SO) : Out :=
 bd (lenO tab 22 os x0) fun v1 o1 =>
 bd (ret1 (binS tab .sub 3 x1 v1) o1) fun v2 o2 =>
 bd (ret1 (binS tab .lss 3 v2 (SV.v (.int .i64 0))) o2) fun v3 o3 =>
 condS v3 (retV tab nl o3 (resC1 (some (SV.v (.int .i64 (-1)))) (some [])))
 (L15_5 K N nl N x0 v2 (SV.v (.int .i64 0)) o3)
noncomputable def X16 (K : Nat → List SV → List SO → Out) (N nl : Nat) (x0 x1 : SV) (os : List SO) : Out := exec (cx K) N nl fi16 c16 [(0, x0), (1, x1)] os (kEnd tab [] nl rs16)
noncomputable def B16 (K : Nat → List SV → List SO → Out) (N nl : Nat) (x0 x1 : SV) (os : List SO) : Out :=
 bd (lenO tab 23 os x0) fun v1 o1 =>
 bd (ret1 (binS tab .sub 3 x1 v1) o1) fun v2 o2 =>
 bd (ret1 (binS tab .lss 3 v2 (SV.v (.int .i64 0))) o2) fun v3 o3 =>
 condS v3 (retV tab nl o3 (resC1 (some (SV.v (.int .i64 (-1)))) (some [])))
 (retV tab nl o3 (resC1 (some v2) (some [])))
noncomputable def bk17_2 (K : Nat → List SV → List SO → Out) (N nl : Nat) (m2 : Nat) : Env → List SO → Out := fun env os => loopS nl (fi17.lp 2) (fun env os nx => exec (cx K) N nl fi17 (subC c17 [1, 0, 1, 0, 0]) env os (kLoop nx (kBlock 0 (kSeq (exec (cx K) N nl fi17 (subC c17 [1, 1])) (fi17.jn 6) (kEnd tab [] nl rs17))))) m2 (killS (fi17.lp 2).alive env) os
noncomputable def L17_2 (K : Nat → List SV → List SO → Out) (N nl : Nat) (m2 : Nat) (x1 x3 : SV) (os : List SO) : Out := loopS nl (fi17.lp 2) (fun env os nx => exec (cx K) N nl fi17 (subC c17 [1, 0, 1, 0, 0]) env os (kLoop nx (kBlock 0 (kSeq (exec (cx K) N nl fi17 (subC c17 [1, 1])) (fi17.jn 6) (kEnd tab [] nl rs17))))) m2 [(1, x1), (3, x3)] os
noncomputable def LB17_2 (K : Nat → List SV → List SO → Out) (N nl : Nat) (m2 : Nat) (x1 x3 : SV) (os : List SO) : Out :=
 bd (ret1 (fieldAddrS tab 32 x1 1) os) fun v2 o2 =>
 bd (ret1 (loadS tab o2 23 v2) o2) fun v3 o3 =>
 bd (lenO tab 23 o3 v3) fun v4 o4 =>
 bd (ret1 (binS tab .lss 3 x3 v4) o4) fun v5 o5 =>
 condS v5 (bd (ret1 (fieldAddrS tab 32 x1 1) o5) fun v6 o6 =>
 bd (ret1 (loadS tab o6 23 v6) o6) fun v7 o7 =>
 bd (ret1 (indexAddrS tab o7 23 v7 x3) o7) fun v8 o8 =>
 bd (ret1 (loadS tab o8 3 v8) o8) fun v9 o9 =>
 bd (callS ⟨tab, ownF, K⟩ o9 34 [v9, (SV.v (.int .i64 (-2))), (SV.v (.int .i64 9))]) fun v10 o10 =>
 bd (ret1 (unS .not v10) o10) fun v11 o11 =>
 condS v11 (retV tab nl o11 (resC1 (some (SV.v (.bool false))) (some [])))
 (bd (ret1 (binS tab .add 3 x3 (SV.v (.int .i64 1))) o11) fun v12 o12 =>
 L17_2 K N nl m2 x1 v12 o12))
 (bd (ret1 (fieldAddrS tab 32 x1 1) o5) fun v13 o13 =>
 bd (ret1 (loadS tab o13 23 v13) o13) fun v14 o14 =>
 bd (lenO tab 23 o14 v14) fun v15 o15 =>
 bd (ret1 (binS tab .eql 3 v15 (SV.v (.int .i64 6))) o15) fun v16 o16 =>
 bd (gd v16 true (ret1 (fieldAddrS tab 32 x1 0) o16) o16) fun v17 o17 =>
 bd (gd v16 true (ret1 (loadS tab o17 30 v17) o17) o17) fun v18 o18 =>
 bd (gd v16 true (callS ⟨tab, ownF, K⟩ o18 35 [v18]) o18) fun v19 o19 =>
 bd (ret1 (pickS v16 v19 (SV.v (.bool false))) o19) fun v20 o20 =>
 bd (gd v20 true (ret1 (fieldAddrS tab 32 x1 3) o20) o20) fun v21 o21 =>
 bd (gd v20 true (ret1 (loadS tab o21 30 v21) o21) o21) fun v22 o22 =>
 bd (gd v20 true (callS ⟨tab, ownF, K⟩ o22 35 [v22]) o22) fun v23 o23 =>
 bd (ret1 (pickS v20 v23 (SV.v (.bool false))) o23) fun v24 o24 =>
 bd (gd v24 true (ret1 (fieldAddrS tab 32 x1 2) o24) o24) fun v25 o25 =>
 bd (gd v24 true (ret1 (loadS tab o25 4 v25) o25) o25) fun v26 o26 =>
 bd (gd v24 true (some (v26, o26)) o26) fun v27 o27 =>
 bd (gd v27 false (ret1 (fieldAddrS tab 32 x1 3) o27) o27) fun v28 o28 =>
 bd (gd v27 false (ret1 (loadS tab o28 30 v28) o28) o28) fun v29 o29 =>
 bd (gd v27 false (lenO tab 30 o29 v29) o29) fun v30 o30 =>
 bd (gd v27 false (ret1 (binS tab .eql 3 v30 (SV.v (.int .i64 0))) o30) o30) fun v31 o31 =>
 bd (gd v24 true (ret1 (pickS v27 (SV.v (.bool true)) v31) o31) o31) fun v32 o32 =>
 bd (ret1 (pickS v24 v32 (SV.v (.bool false))) o32) fun v33 o33 =>
 retV tab nl o33 (resC1 (some v33) (some [])))
noncomputable def X17 (K : Nat → List SV → List SO → Out) (N nl : Nat) (x0 : SV) (os : List SO) : Out := exec (cx K) N nl fi17 c17 [(0, x0)] os (kEnd tab [] nl rs17)
noncomputable def B17 (K : Nat → List SV → List SO → Out) (N nl : Nat) (x0 : SV) (os : List SO) : Out :=
 bd (boxS tab os 32 (some x0)) fun v1 o1 =>
 L17_2 K N nl N v1 (SV.v (.int .i64 0)) o1
noncomputable def J18_9 (K : Nat → List SV → List SO → Out) (N nl : Nat) (os : List SO) : Out := exec (cx K) N nl fi18 (subC c18 [1, 1]) [] os (kEnd tab [] nl rs18)
noncomputable def X18 (K : Nat → List SV → List SO → Out) (N nl : Nat) (x0 : SV) (os : List SO) : Out := exec (cx K) N nl fi18 c18 [(0, x0)] os (kEnd tab [] nl rs18)
noncomputable def B18 (K : Nat → List SV → List SO → Out) (N nl : Nat) (x0 : SV) (os : List SO) : Out :=
 bd (boxS tab os 37 (some x0)) fun v1 o1 =>
 bd (ret1 (fieldAddrS tab 37 v1 0) o1) fun v2 o2 =>
 bd (ret1 (loadS tab o2 3 v2) o2) fun v3 o3 =>
 bd (ret1 (binS tab .eql 3 v3 (SV.v (.int .i64 1))) o3) fun v4 o4 =>
 condS v4 (condS v4 (bd (ret1 (fieldAddrS tab 37 v1 1) o4) fun v5 o5 =>
 bd (ret1 (loadS tab o5 3 v5) o5) fun v6 o6 =>
 bd (ret1 (binS tab .eql 3 v6 (SV.v (.int .i64 0))) o6) fun v7 o7 =>
 bd (gd v7 true (ret1 (fieldAddrS tab 37 v1 2) o7) o7) fun v8 o8 =>
 bd (gd v7 true (ret1 (loadS tab o8 3 v8) o8) o8) fun v9 o9 =>
 bd (gd v7 true (ret1 (binS tab .eql 3 v9 (SV.v (.int .i64 0))) o9) o9) fun v10 o10 =>
 bd (ret1 (pickS v7 v10 (SV.v (.bool false))) o10) fun v11 o11 =>
 bd (gd v11 true (ret1 (fieldAddrS tab 37 v1 3) o11) o11) fun v12 o12 =>
 bd (gd v11 true (ret1 (loadS tab o12 30 v12) o12) o12) fun v13 o13 =>
 bd (gd v11 true (callS ⟨tab, ownF, K⟩ o13 35 [v13]) o13) fun v14 o14 =>
 bd (ret1 (pickS v11 v14 (SV.v (.bool false))) o14) fun v15 o15 =>
 retV tab nl o15 (resC1 (some v15) (some [])))
 (bd (ret1 (binS tab .eql 3 v3 (SV.v (.int .i64 2))) o4) fun v16 o16 =>
 condS v16 (bd (ret1 (fieldAddrS tab 37 v1 1) o16) fun v17 o17 =>
 bd (ret1 (loadS tab o17 3 v17) o17) fun v18 o18 =>
 bd (callS ⟨tab, ownF, K⟩ o18 34 [v18, (SV.v (.int .i64 0)), (SV.v (.int .i64 5))]) fun v19 o19 =>
 bd (gd v19 true (ret1 (fieldAddrS tab 37 v1 2) o19) o19) fun v20 o20 =>
 bd (gd v19 true (ret1 (loadS tab o20 3 v20) o20) o20) fun v21 o21 =>
 bd (gd v19 true (callS ⟨tab, ownF, K⟩ o21 34 [v21, (SV.v (.int .i64 (-1))), (SV.v (.int .i64 9))]) o21) fun v22 o22 =>
 bd (ret1 (pickS v19 v22 (SV.v (.bool false))) o22) fun v23 o23 =>
 bd (gd v23 true (ret1 (fieldAddrS tab 37 v1 3) o23) o23) fun v24 o24 =>
 bd (gd v23 true (ret1 (loadS tab o24 30 v24) o24) o24) fun v25 o25 =>
 bd (gd v23 true (lenO tab 30 o25 v25) o25) fun v26 o26 =>
 bd (gd v23 true (ret1 (binS tab .eql 3 v26 (SV.v (.int .i64 0))) o26) o26) fun v27 o27 =>
 bd (ret1 (pickS v23 v27 (SV.v (.bool false))) o27) fun v28 o28 =>
 retV tab nl o28 (resC1 (some v28) (some [])))
 (bd (ret1 (binS tab .eql 3 v3 (SV.v (.int .i64 4))) o16) fun v29 o29 =>
 condS v29 (bd (ret1 (fieldAddrS tab 37 v1 1) o29) fun v30 o30 =>
 bd (ret1 (loadS tab o30 3 v30) o30) fun v31 o31 =>
 bd (ret1 (binS tab .eql 3 v31 (SV.v (.int .i64 0))) o31) fun v32 o32 =>
 bd (gd v32 true (ret1 (fieldAddrS tab 37 v1 2) o32) o32) fun v33 o33 =>
 bd (gd v32 true (ret1 (loadS tab o33 3 v33) o33) o33) fun v34 o34 =>
 bd (gd v32 true (ret1 (binS tab .eql 3 v34 (SV.v (.int .i64 0))) o34) o34) fun v35 o35 =>
 bd (ret1 (pickS v32 v35 (SV.v (.bool false))) o35) fun v36 o36 =>
 bd (gd v36 true (ret1 (fieldAddrS tab 37 v1 3) o36) o36) fun v37 o37 =>
 bd (gd v36 true (ret1 (loadS tab o37 30 v37) o37) o37) fun v38 o38 =>
 bd (gd v36 true (lenO tab 30 o38 v38) o38) fun v39 o39 =>
 bd (gd v36 true (ret1 (binS tab .eql 3 v39 (SV.v (.int .i64 0))) o39) o39) fun v40 o40 =>
 bd (ret1 (pickS v36 v40 (SV.v (.bool false))) o40) fun v41 o41 =>
 retV tab nl o41 (resC1 (some v41) (some [])))
 (J18_9 K N nl o29))))
 (bd (ret1 (binS tab .eql 3 v3 (SV.v (.int .i64 3))) o4) fun v42 o42 =>
 condS v42 (bd (ret1 (fieldAddrS tab 37 v1 1) o42) fun v43 o43 =>
 bd (ret1 (loadS tab o43 3 v43) o43) fun v44 o44 =>
 bd (ret1 (binS tab .eql 3 v44 (SV.v (.int .i64 0))) o44) fun v45 o45 =>
 bd (gd v45 true (ret1 (fieldAddrS tab 37 v1 2) o45) o45) fun v46 o46 =>
 bd (gd v45 true (ret1 (loadS tab o46 3 v46) o46) o46) fun v47 o47 =>
 bd (gd v45 true (ret1 (binS tab .eql 3 v47 (SV.v (.int .i64 0))) o47) o47) fun v48 o48 =>
 bd (ret1 (pickS v45 v48 (SV.v (.bool false))) o48) fun v49 o49 =>
 bd (gd v49 true (ret1 (fieldAddrS tab 37 v1 3) o49) o49) fun v50 o50 =>
 bd (gd v49 true (ret1 (loadS tab o50 30 v50) o50) o50) fun v51 o51 =>
 bd (gd v49 true (callS ⟨tab, ownF, K⟩ o51 35 [v51]) o51) fun v52 o52 =>
 bd (ret1 (pickS v49 v52 (SV.v (.bool false))) o52) fun v53 o53 =>
 retV tab nl o53 (resC1 (some v53) (some [])))
 (bd (ret1 (binS tab .eql 3 v3 (SV.v (.int .i64 2))) o42) fun v54 o54 =>
 condS v54 (bd (ret1 (fieldAddrS tab 37 v1 1) o54) fun v55 o55 =>
 bd (ret1 (loadS tab o55 3 v55) o55) fun v56 o56 =>
 bd (callS ⟨tab, ownF, K⟩ o56 34 [v56, (SV.v (.int .i64 0)), (SV.v (.int .i64 5))]) fun v57 o57 =>
 bd (gd v57 true (ret1 (fieldAddrS tab 37 v1 2) o57) o57) fun v58 o58 =>
 bd (gd v57 true (ret1 (loadS tab o58 3 v58) o58) o58) fun v59 o59 =>
 bd (gd v57 true (callS ⟨tab, ownF, K⟩ o59 34 [v59, (SV.v (.int .i64 (-1))), (SV.v (.int .i64 9))]) o59) fun v60 o60 =>
 bd (ret1 (pickS v57 v60 (SV.v (.bool false))) o60) fun v61 o61 =>
 bd (gd v61 true (ret1 (fieldAddrS tab 37 v1 3) o61) o61) fun v62 o62 =>
 bd (gd v61 true (ret1 (loadS tab o62 30 v62) o62) o62) fun v63 o63 =>
 bd (gd v61 true (lenO tab 30 o63 v63) o63) fun v64 o64 =>
 bd (gd v61 true (ret1 (binS tab .eql 3 v64 (SV.v (.int .i64 0))) o64) o64) fun v65 o65 =>
 bd (ret1 (pickS v61 v65 (SV.v (.bool false))) o65) fun v66 o66 =>
 retV tab nl o66 (resC1 (some v66) (some [])))
 (bd (ret1 (binS tab .eql 3 v3 (SV.v (.int .i64 4))) o54) fun v67 o67 =>
 condS v67 (bd (ret1 (fieldAddrS tab 37 v1 1) o67) fun v68 o68 =>
 bd (ret1 (loadS tab o68 3 v68) o68) fun v69 o69 =>
 bd (ret1 (binS tab .eql 3 v69 (SV.v (.int .i64 0))) o69) fun v70 o70 =>
 bd (gd v70 true (ret1 (fieldAddrS tab 37 v1 2) o70) o70) fun v71 o71 =>
 bd (gd v70 true (ret1 (loadS tab o71 3 v71) o71) o71) fun v72 o72 =>
 bd (gd v70 true (ret1 (binS tab .eql 3 v72 (SV.v (.int .i64 0))) o72) o72) fun v73 o73 =>
 bd (ret1 (pickS v70 v73 (SV.v (.bool false))) o73) fun v74 o74 =>
 bd (gd v74 true (ret1 (fieldAddrS tab 37 v1 3) o74) o74) fun v75 o75 =>
 bd (gd v74 true (ret1 (loadS tab o75 30 v75) o75) o75) fun v76 o76 =>
 bd (gd v74 true (lenO tab 30 o76 v76) o76) fun v77 o77 =>
 bd (gd v74 true (ret1 (binS tab .eql 3 v77 (SV.v (.int .i64 0))) o77) o77) fun v78 o78 =>
 bd (ret1 (pickS v74 v78 (SV.v (.bool false))) o78) fun v79 o79 =>
 retV tab nl o79 (resC1 (some v79) (some [])))
 (J18_9 K N nl o67))))
noncomputable def J19_6 (K : Nat → List SV → List SO → Out) (N nl : Nat) (x2 x4 : SV) (os : List SO) : Out := exec (cx K) N nl fi19 (subC c19 [1, 1]) [(2, x2), (4, x4)] os (kEnd tab [] nl rs19)
noncomputable def JB19_6 (K : Nat → List SV → List SO → Out) (N nl : Nat) (x2 x4 : SV) (os : List SO) : Out :=
 bd (ret1 (loadS tab os 32 x2) os) fun v17 o17 =>
 bd (storeO tab o17 32 x4 (some v17)) fun v18 o18 =>
 retV tab nl o18 (resC1 (loadS tab o18 32 x4) (some []))
noncomputable def X19 (K : Nat → List SV → List SO → Out) (N nl : Nat) (x0 x1 : SV) (os : List SO) : Out := exec (cx K) N nl fi19 c19 [(0, x0), (1, x1)] os (kEnd tab [] nl rs19)
noncomputable def B19 (K : Nat → List SV → List SO → Out) (N nl : Nat) (x0 x1 : SV) (os : List SO) : Out :=
 bd (boxS tab os 32 (some x0)) fun v1 o1 =>
 bd (boxS tab o1 37 (some x1)) fun v2 o2 =>
 bd (allocS tab o2 32) fun v3 o3 =>
 bd (ret1 (fieldAddrS tab 37 v2 0) o3) fun v4 o4 =>
 bd (ret1 (loadS tab o4 3 v4) o4) fun v5 o5 =>
 bd (ret1 (binS tab .eql 3 v5 (SV.v (.int .i64 2))) o5) fun v6 o6 =>
 condS v6 (bd (ret1 (fieldAddrS tab 32 v1 1) o6) fun v7 o7 =>
 bd (ret1 (loadS tab o7 23 v7) o7) fun v8 o8 =>
 bd (ret1 (fieldAddrS tab 37 v2 1) o8) fun v9 o9 =>
 bd (ret1 (loadS tab o9 3 v9) o9) fun v10 o10 =>
 bd (ret1 (indexAddrS tab o10 23 v8 v10) o10) fun v11 o11 =>
 bd (storeO tab o11 3 v11 (some (SV.v (.int .i64 (-2))))) fun v12 o12 =>
 J19_6 K N nl v1 v3 o12)
 (bd (ret1 (binS tab .eql 3 v5 (SV.v (.int .i64 3))) o6) fun v13 o13 =>
 condS v13 (bd (buildSliceS tab o13 30 0 []) fun v14 o14 =>
 bd (ret1 (fieldAddrS tab 32 v1 0) o14) fun v15 o15 =>
 bd (storeO tab o15 30 v15 (some v14)) fun v16 o16 =>
 J19_6 K N nl v1 v3 o16)
 (J19_6 K N nl v1 v3 o13))
noncomputable def X20 (K : Nat → List SV → List SO → Out) (N nl : Nat) (x0 : SV) (os : List SO) : Out := exec (cx K) N nl fi20 c20 [(0, x0)] os (kEnd tab [] nl rs20)
noncomputable def B20 (K : Nat → List SV → List SO → Out) (N nl : Nat) (x0 : SV) (os : List SO) : Out :=
 bd (boxS tab os 32 (some x0)) fun v1 o1 =>
 bd (allocS tab o1 32) fun v2 o2 =>
 both (both (both (bd (ret1 (fieldAddrS tab 32 v1 0) o2) fun v3 o3 =>
 bd (ret1 (loadS tab o3 30 v3) o3) fun v4 o4 =>
 dchk (keepOk ⟨tab, ownF, K⟩ o4 (SV.fn 36 []) [v4] [] true) <|
 bd (callS ⟨tab, ownF, K⟩ o4 36 [v4]) fun v5 o5 =>
 bd (buildSliceS tab o5 23 0 []) fun v6 o6 =>
 bd (ret1 (fieldAddrS tab 32 v1 1) o6) fun v7 o7 =>
 dchk (isBox v7) <|
 bd (ret1 (loadS tab o7 23 v7) o7) fun v8 o8 =>
 bd (appendS tab o8 23 23 v6 v8) fun v9 o9 =>
 bd (ret1 (fieldAddrS tab 32 v1 2) o9) fun v10 o10 =>
 dchk (isBox v10) <|
 bd (ret1 (loadS tab o10 4 v10) o10) fun v11 o11 =>
 bd (ret1 (fieldAddrS tab 32 v1 3) o11) fun v12 o12 =>
 bd (ret1 (loadS tab o12 30 v12) o12) fun v13 o13 =>
 dchk (keepOk ⟨tab, ownF, K⟩ o13 (SV.fn 36 []) [v13] [v10] false) <|
 bd (callS ⟨tab, ownF, K⟩ o13 36 [v13]) fun v14 o14 =>
 bd (buildS tab o14 32 [(0, (some v5)), (1, (some v9)), (2, (some v11)), (3, (some v14))]) fun v15 o15 =>
 bd (storeO tab o15 32 v2 (some v15)) fun v16 o16 =>
 retV tab nl o16 (resC1 (loadS tab o16 32 v2) (some [])))
 (bd (ret1 (fieldAddrS tab 32 v1 0) o2) fun v17 o17 =>
 bd (ret1 (loadS tab o17 30 v17) o17) fun v18 o18 =>
 dchk (keepOk ⟨tab, ownF, K⟩ o18 (SV.fn 36 []) [v18] [] true) <|
 bd (callS ⟨tab, ownF, K⟩ o18 36 [v18]) fun v19 o19 =>
 bd (buildSliceS tab o19 23 0 []) fun v20 o20 =>
 bd (ret1 (fieldAddrS tab 32 v1 1) o20) fun v21 o21 =>
 dchk (isBox v21) <|
 bd (ret1 (loadS tab o21 23 v21) o21) fun v22 o22 =>
 bd (ret1 (fieldAddrS tab 32 v1 2) o22) fun v23 o23 =>
 bd (ret1 (fieldAddrS tab 32 v1 3) o23) fun v24 o24 =>
 dchk (isBox v24) <|
 bd (ret1 (loadS tab o24 30 v24) o24) fun v25 o25 =>
 bd (appendS tab o25 23 23 v20 v22) fun v26 o26 =>
 dchk (isBox v23) <|
 bd (ret1 (loadS tab o26 4 v23) o26) fun v27 o27 =>
 dchk (keepOk ⟨tab, ownF, K⟩ o27 (SV.fn 36 []) [v25] [v23] false) <|
 bd (callS ⟨tab, ownF, K⟩ o27 36 [v25]) fun v28 o28 =>
 bd (buildS tab o28 32 [(0, (some v19)), (1, (some v26)), (2, (some v27)), (3, (some v28))]) fun v29 o29 =>
 bd (storeO tab o29 32 v2 (some v29)) fun v30 o30 =>
 retV tab nl o30 (resC1 (loadS tab o30 32 v2) (some []))))
 (both (bd (ret1 (fieldAddrS tab 32 v1 0) o2) fun v31 o31 =>
 bd (ret1 (loadS tab o31 30 v31) o31) fun v32 o32 =>
 dchk (keepOk ⟨tab, ownF, K⟩ o32 (SV.fn 36 []) [v32] [] true) <|
 bd (callS ⟨tab, ownF, K⟩ o32 36 [v32]) fun v33 o33 =>
 bd (buildSliceS tab o33 23 0 []) fun v34 o34 =>
 bd (ret1 (fieldAddrS tab 32 v1 1) o34) fun v35 o35 =>
 dchk (isBox v35) <|
 bd (ret1 (loadS tab o35 23 v35) o35) fun v36 o36 =>
 bd (ret1 (fieldAddrS tab 32 v1 2) o36) fun v37 o37 =>
 dchk (isBox v37) <|
 bd (ret1 (loadS tab o37 4 v37) o37) fun v38 o38 =>
 bd (appendS tab o38 23 23 v34 v36) fun v39 o39 =>
 bd (ret1 (fieldAddrS tab 32 v1 3) o39) fun v40 o40 =>
 bd (ret1 (loadS tab o40 30 v40) o40) fun v41 o41 =>
 bd (callS ⟨tab, ownF, K⟩ o41 36 [v41]) fun v42 o42 =>
 bd (buildS tab o42 32 [(0, (some v33)), (1, (some v39)), (2, (some v38)), (3, (some v42))]) fun v43 o43 =>
 bd (storeO tab o43 32 v2 (some v43)) fun v44 o44 =>
 retV tab nl o44 (resC1 (loadS tab o44 32 v2) (some [])))
 (bd (ret1 (fieldAddrS tab 32 v1 0) o2) fun v45 o45 =>
 bd (ret1 (loadS tab o45 30 v45) o45) fun v46 o46 =>
 dchk (keepOk ⟨tab, ownF, K⟩ o46 (SV.fn 36 []) [v46] [] true) <|
 bd (callS ⟨tab, ownF, K⟩ o46 36 [v46]) fun v47 o47 =>
 bd (buildSliceS tab o47 23 0 []) fun v48 o48 =>
 bd (ret1 (fieldAddrS tab 32 v1 1) o48) fun v49 o49 =>
 dchk (isBox v49) <|
 bd (ret1 (loadS tab o49 23 v49) o49) fun v50 o50 =>
 bd (ret1 (fieldAddrS tab 32 v1 2) o50) fun v51 o51 =>
 dchk (isBox v51) <|
 bd (ret1 (loadS tab o51 4 v51) o51) fun v52 o52 =>
 bd (ret1 (fieldAddrS tab 32 v1 3) o52) fun v53 o53 =>
 dchk (isBox v53) <|
 bd (ret1 (loadS tab o53 30 v53) o53) fun v54 o54 =>
 bd (appendS tab o54 23 23 v48 v50) fun v55 o55 =>
 bd (callS ⟨tab, ownF, K⟩ o55 36 [v54]) fun v56 o56 =>
 bd (buildS tab o56 32 [(0, (some v47)), (1, (some v55)), (2, (some v52)), (3, (some v56))]) fun v57 o57 =>
 bd (storeO tab o57 32 v2 (some v57)) fun v58 o58 =>
 retV tab nl o58 (resC1 (loadS tab o58 32 v2) (some [])))))
 (both (both (bd (ret1 (fieldAddrS tab 32 v1 0) o2) fun v59 o59 =>
 dchk (isBox v59) <|
 bd (ret1 (loadS tab o59 30 v59) o59) fun v60 o60 =>
 bd (buildSliceS tab o60 23 0 []) fun v61 o61 =>
 dchk (keepOk ⟨tab, ownF, K⟩ o61 (SV.fn 36 []) [v60] [] true) <|
 bd (callS ⟨tab, ownF, K⟩ o61 36 [v60]) fun v62 o62 =>
 bd (ret1 (fieldAddrS tab 32 v1 1) o62) fun v63 o63 =>
 dchk (isBox v63) <|
 bd (ret1 (loadS tab o63 23 v63) o63) fun v64 o64 =>
 bd (appendS tab o64 23 23 v61 v64) fun v65 o65 =>
 bd (ret1 (fieldAddrS tab 32 v1 2) o65) fun v66 o66 =>
 dchk (isBox v66) <|
 bd (ret1 (loadS tab o66 4 v66) o66) fun v67 o67 =>
 bd (ret1 (fieldAddrS tab 32 v1 3) o67) fun v68 o68 =>
 bd (ret1 (loadS tab o68 30 v68) o68) fun v69 o69 =>
 dchk (keepOk ⟨tab, ownF, K⟩ o69 (SV.fn 36 []) [v69] [v66] false) <|
 bd (callS ⟨tab, ownF, K⟩ o69 36 [v69]) fun v70 o70 =>
 bd (buildS tab o70 32 [(0, (some v62)), (1, (some v65)), (2, (some v67)), (3, (some v70))]) fun v71 o71 =>
 bd (storeO tab o71 32 v2 (some v71)) fun v72 o72 =>
 retV tab nl o72 (resC1 (loadS tab o72 32 v2) (some [])))
 (bd (ret1 (fieldAddrS tab 32 v1 0) o2) fun v73 o73 =>
 dchk (isBox v73) <|
 bd (ret1 (loadS tab o73 30 v73) o73) fun v74 o74 =>
 bd (buildSliceS tab o74 23 0 []) fun v75 o75 =>
 dchk (keepOk ⟨tab, ownF, K⟩ o75 (SV.fn 36 []) [v74] [] true) <|
 bd (callS ⟨tab, ownF, K⟩ o75 36 [v74]) fun v76 o76 =>
 bd (ret1 (fieldAddrS tab 32 v1 1) o76) fun v77 o77 =>
 dchk (isBox v77) <|
 bd (ret1 (loadS tab o77 23 v77) o77) fun v78 o78 =>
 bd (ret1 (fieldAddrS tab 32 v1 2) o78) fun v79 o79 =>
 bd (ret1 (fieldAddrS tab 32 v1 3) o79) fun v80 o80 =>
 dchk (isBox v80) <|
 bd (ret1 (loadS tab o80 30 v80) o80) fun v81 o81 =>
 bd (appendS tab o81 23 23 v75 v78) fun v82 o82 =>
 dchk (isBox v79) <|
 bd (ret1 (loadS tab o82 4 v79) o82) fun v83 o83 =>
 dchk (keepOk ⟨tab, ownF, K⟩ o83 (SV.fn 36 []) [v81] [v79] false) <|
 bd (callS ⟨tab, ownF, K⟩ o83 36 [v81]) fun v84 o84 =>
 bd (buildS tab o84 32 [(0, (some v76)), (1, (some v82)), (2, (some v83)), (3, (some v84))]) fun v85 o85 =>
 bd (storeO tab o85 32 v2 (some v85)) fun v86 o86 =>
 retV tab nl o86 (resC1 (loadS tab o86 32 v2) (some []))))
 (both (bd (ret1 (fieldAddrS tab 32 v1 0) o2) fun v87 o87 =>
 dchk (isBox v87) <|
 bd (ret1 (loadS tab o87 30 v87) o87) fun v88 o88 =>
 bd (buildSliceS tab o88 23 0 []) fun v89 o89 =>
 dchk (keepOk ⟨tab, ownF, K⟩ o89 (SV.fn 36 []) [v88] [] true) <|
 bd (callS ⟨tab, ownF, K⟩ o89 36 [v88]) fun v90 o90 =>
 bd (ret1 (fieldAddrS tab 32 v1 1) o90) fun v91 o91 =>
 dchk (isBox v91) <|
 bd (ret1 (loadS tab o91 23 v91) o91) fun v92 o92 =>
 bd (ret1 (fieldAddrS tab 32 v1 2) o92) fun v93 o93 =>
 dchk (isBox v93) <|
 bd (ret1 (loadS tab o93 4 v93) o93) fun v94 o94 =>
 bd (appendS tab o94 23 23 v89 v92) fun v95 o95 =>
 bd (ret1 (fieldAddrS tab 32 v1 3) o95) fun v96 o96 =>
 bd (ret1 (loadS tab o96 30 v96) o96) fun v97 o97 =>
 bd (callS ⟨tab, ownF, K⟩ o97 36 [v97]) fun v98 o98 =>
 bd (buildS tab o98 32 [(0, (some v90)), (1, (some v95)), (2, (some v94)), (3, (some v98))]) fun v99 o99 =>
 bd (storeO tab o99 32 v2 (some v99)) fun v100 o100 =>
 retV tab nl o100 (resC1 (loadS tab o100 32 v2) (some [])))
 (bd (ret1 (fieldAddrS tab 32 v1 0) o2) fun v101 o101 =>
 dchk (isBox v101) <|
 bd (ret1 (loadS tab o101 30 v101) o101) fun v102 o102 =>
 bd (buildSliceS tab o102 23 0 []) fun v103 o103 =>
 dchk (keepOk ⟨tab, ownF, K⟩ o103 (SV.fn 36 []) [v102] [] true) <|
 bd (callS ⟨tab, ownF, K⟩ o103 36 [v102]) fun v104 o104 =>
 bd (ret1 (fieldAddrS tab 32 v1 1) o104) fun v105 o105 =>
 dchk (isBox v105) <|
 bd (ret1 (loadS tab o105 23 v105) o105) fun v106 o106 =>
 bd (ret1 (fieldAddrS tab 32 v1 2) o106) fun v107 o107 =>
 dchk (isBox v107) <|
 bd (ret1 (loadS tab o107 4 v107) o107) fun v108 o108 =>
 bd (ret1 (fieldAddrS tab 32 v1 3) o108) fun v109 o109 =>
 dchk (isBox v109) <|
 bd (ret1 (loadS tab o109 30 v109) o109) fun v110 o110 =>
 bd (appendS tab o110 23 23 v103 v106) fun v111 o111 =>
 bd (callS ⟨tab, ownF, K⟩ o111 36 [v110]) fun v112 o112 =>
 bd (buildS tab o112 32 [(0, (some v104)), (1, (some v111)), (2, (some v108)), (3, (some v112))]) fun v113 o113 =>
 bd (storeO tab o113 32 v2 (some v113)) fun v114 o114 =>
 retV tab nl o114 (resC1 (loadS tab o114 32 v2) (some [])))))
noncomputable def bk21_3 (K : Nat → List SV → List SO → Out) (N nl : Nat) (m3 : Nat) : Env → List SO → Out := fun env os => loopS nl (fi21.lp 3) (fun env os nx => exec (cx K) N nl fi21 (subC c21 [1, 1, 0, 1, 0, 0]) env os (kLoop nx (kBlock 0 (kSeq (exec (cx K) N nl fi21 (subC c21 [1, 1, 1])) (fi21.jn 6) (kEnd tab [] nl rs21))))) m3 (killS (fi21.lp 3).alive env) os
noncomputable def L21_3 (K : Nat → List SV → List SO → Out) (N nl : Nat) (m3 : Nat) (x0 x3 x4 : SV) (os : List SO) : Out := loopS nl (fi21.lp 3) (fun env os nx => exec (cx K) N nl fi21 (subC c21 [1, 1, 0, 1, 0, 0]) env os (kLoop nx (kBlock 0 (kSeq (exec (cx K) N nl fi21 (subC c21 [1, 1, 1])) (fi21.jn 6) (kEnd tab [] nl rs21))))) m3 [(0, x0), (3, x3), (4, x4)] os
noncomputable def G21_3 (K : Nat → List SV → List SO → Out) (N nl : Nat) (m3 : Nat) (xs : List SV) (os : List SO) : Out := (fun env os nx => exec (cx K) N nl fi21 (subC c21 [1, 1, 0, 1, 0, 0]) env os (kLoop nx (kBlock 0 (kSeq (exec (cx K) N nl fi21 (subC c21 [1, 1, 1])) (fi21.jn 6) (kEnd tab [] nl rs21))))) (zipE [0, 3, 4] xs) os (bk21_3 K N nl m3)
noncomputable def GB21_3 (K : Nat → List SV → List SO → Out) (N nl : Nat) (m3 : Nat) (x0 x3 x4 : SV) (os : List SO) : Out :=
 bd (lenO tab 22 os x0) fun v4 o4 =>
 bd (ret1 (binS tab .lss 3 x4 v4) o4) fun v5 o5 =>
 condS v5 (bd (ret1 (indexAddrS tab o5 22 x0 x4) o5) fun v6 o6 =>
 bd (ret1 (loadS tab o6 62 v6) o6) fun v7 o7 =>
 bd (callS ⟨tab, ownF, K⟩ o7 37 [v7]) fun v8 o8 =>
 bd (ret1 (indexAddrS tab o8 30 x3 x4) o8) fun v9 o9 =>
 bd (storeO tab o9 69 v9 (some v8)) fun v10 o10 =>
 bd (ret1 (binS tab .add 3 x4 (SV.v (.int .i64 1))) o10) fun v11 o11 =>
 L21_3 K N nl m3 x0 x3 v11 o11)
 (retV tab nl o5 (resC1 (some x3) (some [])))
noncomputable def X21 (K : Nat → List SV → List SO → Out) (N nl : Nat) (x0 : SV) (os : List SO) : Out := exec (cx K) N nl fi21 c21 [(0, x0)] os (kEnd tab [] nl rs21)
noncomputable def B21 (K : Nat → List SV → List SO → Out) (N nl : Nat) (x0 : SV) (os : List SO) : Out :=
 bd (evN tab 30 os none) fun v1 o1 =>
 bd (lenO tab 22 o1 x0) fun v2 o2 =>
 bd (makeS tab o2 30 v2 v2) fun v3 o3 =>
 L21_3 K N nl N x0 v3 (SV.v (.int .i64 0)) o3
noncomputable def bk22_3 (K : Nat → List SV → List SO → Out) (N nl : Nat) (m3 : Nat) : Env → List SO → Out := fun env os => loopS nl (fi22.lp 3) (fun env os nx => exec (cx K) N nl fi22 (subC c22 [1, 1, 0, 1, 0, 0]) env os (kLoop nx (kBlock 0 (kSeq (exec (cx K) N nl fi22 (subC c22 [1, 1, 1])) (fi22.jn 6) (kEnd tab [] nl rs22))))) m3 (killS (fi22.lp 3).alive env) os
noncomputable def L22_3 (K : Nat → List SV → List SO → Out) (N nl : Nat) (m3 : Nat) (x0 x3 x4 : SV) (os : List SO) : Out := loopS nl (fi22.lp 3) (fun env os nx => exec (cx K) N nl fi22 (subC c22 [1, 1, 0, 1, 0, 0]) env os (kLoop nx (kBlock 0 (kSeq (exec (cx K) N nl fi22 (subC c22 [1, 1, 1])) (fi22.jn 6) (kEnd tab [] nl rs22))))) m3 [(0, x0), (3, x3), (4, x4)] os
noncomputable def LB22_3 (K : Nat → List SV → List SO → Out) (N nl : Nat) (m3 : Nat) (x0 x3 x4 : SV) (os : List SO) : Out :=
 bd (lenO tab 23 os x0) fun v4 o4 =>
 bd (ret1 (binS tab .lss 3 x4 v4) o4) fun v5 o5 =>
 condS v5 (bd (ret1 (indexAddrS tab o5 23 x0 x4) o5) fun v6 o6 =>
 bd (ret1 (loadS tab o6 3 v6) o6) fun v7 o7 =>
 bd (ret1 (indexAddrS tab o7 23 x3 x4) o7) fun v8 o8 =>
 bd (storeO tab o8 3 v8 (some v7)) fun v9 o9 =>
 bd (ret1 (binS tab .add 3 x4 (SV.v (.int .i64 1))) o9) fun v10 o10 =>
 L22_3 K N nl m3 x0 x3 v10 o10)
 (retV tab nl o5 (resC1 (some x3) (some [])))
noncomputable def X22 (K : Nat → List SV → List SO → Out) (N nl : Nat) (x0 : SV) (os : List SO) : Out := exec (cx K) N nl fi22 c22 [(0, x0)] os (kEnd tab [] nl rs22)
noncomputable def B22 (K : Nat → List SV → List SO → Out) (N nl : Nat) (x0 : SV) (os : List SO) : Out :=
 bd (evN tab 23 os none) fun v1 o1 =>
 bd (lenO tab 23 o1 x0) fun v2 o2 =>
 bd (makeS tab o2 23 v2 v2) fun v3 o3 =>
 L22_3 K N nl N x0 v3 (SV.v (.int .i64 0)) o3
noncomputable def X23 (K : Nat → List SV → List SO → Out) (N nl : Nat) (x0 : SV) (os : List SO) : Out := exec (cx K) N nl fi23 c23 [(0, x0)] os (kEnd tab [] nl rs23)
noncomputable def B23 (K : Nat → List SV → List SO → Out) (N nl : Nat) (x0 : SV) (os : List SO) : Out :=
 bd (boxS tab os 32 (some x0)) fun v1 o1 =>
 bd (ret1 (fieldAddrS tab 32 v1 1) o1) fun v2 o2 =>
 bd (ret1 (loadS tab o2 23 v2) o2) fun v3 o3 =>
 bd (lenO tab 23 o3 v3) fun v4 o4 =>
 bd (ret1 (binS tab .neq 3 v4 (SV.v (.int .i64 6))) o4) fun v5 o5 =>
 bd (gd v5 false (ret1 (fieldAddrS tab 32 v1 1) o5) o5) fun v6 o6 =>
 bd (gd v5 false (ret1 (loadS tab o6 23 v6) o6) o6) fun v7 o7 =>
 bd (gd v5 false (some ((SV.fn 38 []), o7)) o7) fun v8 o8 =>
 bd (gd v5 false (callS ⟨tab, ownF, K⟩ o8 40 [v7, v8]) o8) fun v9 o9 =>
 bd (ret1 (pickS v5 (SV.v (.bool true)) v9) o9) fun v10 o10 =>
 condS v10 (retV tab nl o10 (resC1 (some (SV.v (.bool false))) (some [])))
 (bd (ret1 (fieldAddrS tab 32 v1 0) o10) fun v11 o11 =>
 bd (ret1 (loadS tab o11 30 v11) o11) fun v12 o12 =>
 bd (callS ⟨tab, ownF, K⟩ o12 41 [v12]) fun v13 o13 =>
 bd (gd v13 true (ret1 (fieldAddrS tab 32 v1 3) o13) o13) fun v14 o14 =>
 bd (gd v13 true (ret1 (loadS tab o14 30 v14) o14) o14) fun v15 o15 =>
 bd (gd v13 true (callS ⟨tab, ownF, K⟩ o15 41 [v15]) o15) fun v16 o16 =>
 bd (ret1 (pickS v13 v16 (SV.v (.bool false))) o16) fun v17 o17 =>
 bd (gd v17 true (ret1 (fieldAddrS tab 32 v1 2) o17) o17) fun v18 o18 =>
 bd (gd v17 true (ret1 (loadS tab o18 4 v18) o18) o18) fun v19 o19 =>
 bd (gd v17 true (some (v19, o19)) o19) fun v20 o20 =>
 bd (gd v20 false (ret1 (fieldAddrS tab 32 v1 3) o20) o20) fun v21 o21 =>
 bd (gd v20 false (ret1 (loadS tab o21 30 v21) o21) o21) fun v22 o22 =>
 bd (gd v20 false (lenO tab 30 o22 v22) o22) fun v23 o23 =>
 bd (gd v20 false (ret1 (binS tab .eql 3 v23 (SV.v (.int .i64 0))) o23) o23) fun v24 o24 =>
 bd (gd v17 true (ret1 (pickS v20 (SV.v (.bool true)) v24) o24) o24) fun v25 o25 =>
 bd (ret1 (pickS v17 v25 (SV.v (.bool false))) o25) fun v26 o26 =>
 retV tab nl o26 (resC1 (some v26) (some [])))
noncomputable def J24_11 (K : Nat → List SV → List SO → Out) (N nl : Nat) (x3 x4 : SV) (os : List SO) : Out := exec (cx K) N nl fi24 (subC c24 [1, 1, 1, 1]) [(3, x3), (4, x4)] os (kEnd tab [] nl rs24)
noncomputable def JB24_11 (K : Nat → List SV → List SO → Out) (N nl : Nat) (x3 x4 : SV) (os : List SO) : Out :=
 bd (gd x3 true (some (x4, os)) os) fun v41 o41 =>
 bd (ret1 (pickS x3 v41 (SV.v (.bool false))) o41) fun v42 o42 =>
 retV tab nl o42 (resC1 (some v42) (some []))
noncomputable def X24 (K : Nat → List SV → List SO → Out) (N nl : Nat) (x0 : SV) (os : List SO) : Out := exec (cx K) N nl fi24 c24 [(0, x0)] os (kEnd tab [] nl rs24)
noncomputable def B24 (K : Nat → List SV → List SO → Out) (N nl : Nat) (x0 : SV) (os : List SO) : Out :=
 bd (boxS tab os 37 (some x0)) fun v1 o1 =>
 bd (ret1 (fieldAddrS tab 37 v1 1) o1) fun v2 o2 =>
 bd (ret1 (loadS tab o2 3 v2) o2) fun v3 o3 =>
 bd (ret1 (binS tab .eql 3 v3 (SV.v (.int .i64 0))) o3) fun v4 o4 =>
 bd (gd v4 true (ret1 (fieldAddrS tab 37 v1 2) o4) o4) fun v5 o5 =>
 bd (gd v4 true (ret1 (loadS tab o5 3 v5) o5) o5) fun v6 o6 =>
 bd (gd v4 true (ret1 (binS tab .eql 3 v6 (SV.v (.int .i64 0))) o6) o6) fun v7 o7 =>
 bd (ret1 (pickS v4 v7 (SV.v (.bool false))) o7) fun v8 o8 =>
 bd (ret1 (fieldAddrS tab 37 v1 3) o8) fun v9 o9 =>
 bd (ret1 (loadS tab o9 30 v9) o9) fun v10 o10 =>
 bd (lenO tab 30 o10 v10) fun v11 o11 =>
 bd (ret1 (binS tab .eql 3 v11 (SV.v (.int .i64 0))) o11) fun v12 o12 =>
 bd (ret1 (fieldAddrS tab 37 v1 0) o12) fun v13 o13 =>
 bd (ret1 (loadS tab o13 3 v13) o13) fun v14 o14 =>
 bd (ret1 (binS tab .eql 3 v14 (SV.v (.int .i64 1))) o14) fun v15 o15 =>
 condS v15 (condS v15 (bd (ret1 (fieldAddrS tab 37 v1 3) o15) fun v16 o16 =>
 bd (ret1 (loadS tab o16 30 v16) o16) fun v17 o17 =>
 bd (callS ⟨tab, ownF, K⟩ o17 41 [v17]) fun v18 o18 =>
 J24_11 K N nl v8 v18 o18)
 (bd (ret1 (binS tab .eql 3 v14 (SV.v (.int .i64 2))) o15) fun v19 o19 =>
 condS v19 (bd (ret1 (fieldAddrS tab 37 v1 1) o19) fun v20 o20 =>
 bd (ret1 (loadS tab o20 3 v20) o20) fun v21 o21 =>
 bd (callS ⟨tab, ownF, K⟩ o21 39 [v21, (SV.v (.int .i64 0)), (SV.v (.int .i64 5))]) fun v22 o22 =>
 bd (gd v22 true (ret1 (fieldAddrS tab 37 v1 2) o22) o22) fun v23 o23 =>
 bd (gd v22 true (ret1 (loadS tab o23 3 v23) o23) o23) fun v24 o24 =>
 bd (gd v22 true (callS ⟨tab, ownF, K⟩ o24 39 [v24, (SV.v (.int .i64 (-1))), (SV.v (.int .i64 9))]) o24) fun v25 o25 =>
 bd (ret1 (pickS v22 v25 (SV.v (.bool false))) o25) fun v26 o26 =>
 J24_11 K N nl v26 v12 o26)
 (bd (ret1 (binS tab .eql 3 v14 (SV.v (.int .i64 4))) o19) fun v27 o27 =>
 condS v27 (J24_11 K N nl v8 v12 o27)
 (retV tab nl o27 (resC1 (some (SV.v (.bool false))) (some []))))))
 (bd (ret1 (binS tab .eql 3 v14 (SV.v (.int .i64 3))) o15) fun v28 o28 =>
 condS v28 (bd (ret1 (fieldAddrS tab 37 v1 3) o28) fun v29 o29 =>
 bd (ret1 (loadS tab o29 30 v29) o29) fun v30 o30 =>
 bd (callS ⟨tab, ownF, K⟩ o30 41 [v30]) fun v31 o31 =>
 J24_11 K N nl v8 v31 o31)
 (bd (ret1 (binS tab .eql 3 v14 (SV.v (.int .i64 2))) o28) fun v32 o32 =>
 condS v32 (bd (ret1 (fieldAddrS tab 37 v1 1) o32) fun v33 o33 =>
 bd (ret1 (loadS tab o33 3 v33) o33) fun v34 o34 =>
 bd (callS ⟨tab, ownF, K⟩ o34 39 [v34, (SV.v (.int .i64 0)), (SV.v (.int .i64 5))]) fun v35 o35 =>
 bd (gd v35 true (ret1 (fieldAddrS tab 37 v1 2) o35) o35) fun v36 o36 =>
 bd (gd v35 true (ret1 (loadS tab o36 3 v36) o36) o36) fun v37 o37 =>
 bd (gd v35 true (callS ⟨tab, ownF, K⟩ o37 39 [v37, (SV.v (.int .i64 (-1))), (SV.v (.int .i64 9))]) o37) fun v38 o38 =>
 bd (ret1 (pickS v35 v38 (SV.v (.bool false))) o38) fun v39 o39 =>
 J24_11 K N nl v39 v12 o39)
 (bd (ret1 (binS tab .eql 3 v14 (SV.v (.int .i64 4))) o32) fun v40 o40 =>
 condS v40 (J24_11 K N nl v8 v12 o40)
 (retV tab nl o40 (resC1 (some (SV.v (.bool false))) (some []))))))
noncomputable def X25 (K : Nat → List SV → List SO → Out) (N nl : Nat) (x0 : SV) (os : List SO) : Out := exec (cx K) N nl fi25 c25 [(0, x0)] os (kEnd tab [] nl rs25)
noncomputable def B25 (K : Nat → List SV → List SO → Out) (N nl : Nat) (x0 : SV) (os : List SO) : Out :=
 bd (boxS tab os 32 (some x0)) fun v1 o1 =>
 bd (allocS tab o1 32) fun v2 o2 =>
 bd (ret1 (fieldAddrS tab 32 v1 0) o2) fun v3 o3 =>
 bd (ret1 (loadS tab o3 30 v3) o3) fun v4 o4 =>
 dchk (keepOk ⟨tab, ownF, K⟩ o4 (SV.fn 42 []) [v4] [] true) <|
 bd (callS ⟨tab, ownF, K⟩ o4 42 [v4]) fun v5 o5 =>
 bd (ret1 (fieldAddrS tab 32 v1 1) o5) fun v6 o6 =>
 dchk (isBox v6) <|
 bd (ret1 (loadS tab o6 23 v6) o6) fun v7 o7 =>
 dchk (keepOk ⟨tab, ownF, K⟩ o7 (SV.fn 43 []) [v7] [] true) <|
 bd (callS ⟨tab, ownF, K⟩ o7 43 [v7]) fun v8 o8 =>
 bd (ret1 (fieldAddrS tab 32 v1 2) o8) fun v9 o9 =>
 dchk (isBox v9) <|
 bd (ret1 (loadS tab o9 4 v9) o9) fun v10 o10 =>
 bd (ret1 (fieldAddrS tab 32 v1 3) o10) fun v11 o11 =>
 dchk (isBox v11) <|
 bd (ret1 (loadS tab o11 30 v11) o11) fun v12 o12 =>
 dchk (keepOk ⟨tab, ownF, K⟩ o12 (SV.fn 42 []) [v12] [v9] false) <|
 bd (callS ⟨tab, ownF, K⟩ o12 42 [v12]) fun v13 o13 =>
 bd (buildS tab o13 32 [(0, (some v5)), (1, (some v8)), (2, (some v10)), (3, (some v13))]) fun v14 o14 =>
 bd (storeO tab o14 32 v2 (some v14)) fun v15 o15 =>
 retV tab nl o15 (resC1 (loadS tab o15 32 v2) (some []))
noncomputable def X26 (K : Nat → List SV → List SO → Out) (N nl : Nat) (x0 x1 : SV) (os : List SO) : Out := exec (cx K) N nl fi26 c26 [(0, x0), (1, x1)] os (kEnd tab [] nl rs26)
noncomputable def B26 (K : Nat → List SV → List SO → Out) (N nl : Nat) (x0 x1 : SV) (os : List SO) : Out :=
 bd (boxS tab os 37 (some x1)) fun v1 o1 =>
 bd (ret1 (fieldAddrS tab 37 v1 0) o1) fun v2 o2 =>
 bd (ret1 (loadS tab o2 3 v2) o2) fun v3 o3 =>
 bd (ret1 (binS tab .eql 3 v3 (SV.v (.int .i64 2))) o3) fun v4 o4 =>
 condS v4 (bd (ret1 (nilS x0) o4) fun v5 o5 =>
 bd (ret1 (fieldAddrS tab 32 v5 1) o5) fun v6 o6 =>
 bd (ret1 (loadS tab o6 23 v6) o6) fun v7 o7 =>
 bd (ret1 (fieldAddrS tab 37 v1 1) o7) fun v8 o8 =>
 bd (ret1 (loadS tab o8 3 v8) o8) fun v9 o9 =>
 bd (ret1 (indexAddrS tab o9 23 v7 v9) o9) fun v10 o10 =>
 bd (storeO tab o10 3 v10 (some (SV.v (.int .i64 (-2))))) fun v11 o11 =>
 retV tab nl o11 (some []))
 (bd (ret1 (binS tab .eql 3 v3 (SV.v (.int .i64 3))) o4) fun v12 o12 =>
 condS v12 (bd (ret1 (nilS x0) o12) fun v13 o13 =>
 bd (ret1 (fieldAddrS tab 32 v13 0) o13) fun v14 o14 =>
 bd (storeO tab o14 30 v14 none) fun v15 o15 =>
 retV tab nl o15 (some []))
 (retV tab nl o12 (some [])))
noncomputable def bk27_4 (K : Nat → List SV → List SO → Out) (N nl : Nat) (m4 : Nat) : Env → List SO → Out := fun env os => loopS nl (fi27.lp 4) (fun env os nx => exec (cx K) N nl fi27 (subC c27 [1, 1, 0, 1, 0, 0]) env os (kLoop nx (kBlock 0 (kSeq (exec (cx K) N nl fi27 (subC c27 [1, 1, 1])) (fi27.jn 8) (kEnd tab [] nl rs27))))) m4 (killS (fi27.lp 4).alive env) os
noncomputable def L27_4 (K : Nat → List SV → List SO → Out) (N nl : Nat) (m4 : Nat) (x0 x1 x5 : SV) (os : List SO) : Out := loopS nl (fi27.lp 4) (fun env os nx => exec (cx K) N nl fi27 (subC c27 [1, 1, 0, 1, 0, 0]) env os (kLoop nx (kBlock 0 (kSeq (exec (cx K) N nl fi27 (subC c27 [1, 1, 1])) (fi27.jn 8) (kEnd tab [] nl rs27))))) m4 [(0, x0), (1, x1), (5, x5)] os
noncomputable def LB27_4 (K : Nat → List SV → List SO → Out) (N nl : Nat) (m4 : Nat) (x0 x1 x5 : SV) (os : List SO) : Out :=
 bd (lenO tab 30 os x0) fun v4 o4 =>
 bd (ret1 (binS tab .lss 3 x5 v4) o4) fun v5 o5 =>
 condS v5 (bd (ret1 (indexAddrS tab o5 30 x0 x5) o5) fun v6 o6 =>
 bd (ret1 (loadS tab o6 69 v6) o6) fun v7 o7 =>
 bd (ret1 (indexAddrS tab o7 30 x1 x5) o7) fun v8 o8 =>
 bd (ret1 (loadS tab o8 69 v8) o8) fun v9 o9 =>
 bd (callS ⟨tab, ownF, K⟩ o9 44 [v7, v9]) fun v10 o10 =>
 bd (ret1 (unS .not v10) o10) fun v11 o11 =>
 condS v11 (retV tab nl o11 (resC1 (some (SV.v (.bool false))) (some [])))
 (bd (ret1 (binS tab .add 3 x5 (SV.v (.int .i64 1))) o11) fun v12 o12 =>
 L27_4 K N nl m4 x0 x1 v12 o12))
 (retV tab nl o5 (resC1 (some (SV.v (.bool true))) (some [])))
noncomputable def X27 (K : Nat → List SV → List SO → Out) (N nl : Nat) (x0 x1 : SV) (os : List SO) : Out := exec (cx K) N nl fi27 c27 [(0, x0), (1, x1)] os (kEnd tab [] nl rs27)
noncomputable def B27 (K : Nat → List SV → List SO → Out) (N nl : Nat) (x0 x1 : SV) (os : List SO) : Out :=
 bd (lenO tab 30 os x0) fun v1 o1 =>
 bd (lenO tab 30 o1 x1) fun v2 o2 =>
 bd (ret1 (binS tab .neq 3 v1 v2) o2) fun v3 o3 =>
 condS v3 (retV tab nl o3 (resC1 (some (SV.v (.bool false))) (some [])))
 (L27_4 K N nl N x0 x1 (SV.v (.int .i64 0)) o3)
noncomputable def bk28_4 (K : Nat → List SV → List SO → Out) (N nl : Nat) (m4 : Nat) : Env → List SO → Out := fun env os => loopS nl (fi28.lp 4) (fun env os nx => exec (cx K) N nl fi28 (subC c28 [1, 1, 0, 1, 0, 0]) env os (kLoop nx (kBlock 0 (kSeq (exec (cx K) N nl fi28 (subC c28 [1, 1, 1])) (fi28.jn 8) (kEnd tab [] nl rs28))))) m4 (killS (fi28.lp 4).alive env) os
noncomputable def L28_4 (K : Nat → List SV → List SO → Out) (N nl : Nat) (m4 : Nat) (x0 x1 x5 : SV) (os : List SO) : Out := loopS nl (fi28.lp 4) (fun env os nx => exec (cx K) N nl fi28 (subC c28 [1, 1, 0, 1, 0, 0]) env os (kLoop nx (kBlock 0 (kSeq (exec (cx K) N nl fi28 (subC c28 [1, 1, 1])) (fi28.jn 8) (kEnd tab [] nl rs28))))) m4 [(0, x0), (1, x1), (5, x5)] os
noncomputable def LB28_4 (K : Nat → List SV → List SO → Out) (N nl : Nat) (m4 : Nat) (x0 x1 x5 : SV) (os : List SO) : Out :=
 bd (lenO tab 23 os x0) fun v4 o4 =>
 bd (ret1 (binS tab .lss 3 x5 v4) o4) fun v5 o5 =>
 condS v5 (bd (ret1 (indexAddrS tab o5 23 x0 x5) o5) fun v6 o6 =>
 bd (ret1 (loadS tab o6 3 v6) o6) fun v7 o7 =>
 bd (ret1 (indexAddrS tab o7 23 x1 x5) o7) fun v8 o8 =>
 bd (ret1 (loadS tab o8 3 v8) o8) fun v9 o9 =>
 bd (ret1 (binS tab .neq 3 v7 v9) o9) fun v10 o10 =>
 condS v10 (retV tab nl o10 (resC1 (some (SV.v (.bool false))) (some [])))
 (bd (ret1 (binS tab .add 3 x5 (SV.v (.int .i64 1))) o10) fun v11 o11 =>
 L28_4 K N nl m4 x0 x1 v11 o11))
 (retV tab nl o5 (resC1 (some (SV.v (.bool true))) (some [])))
noncomputable def X28 (K : Nat → List SV → List SO → Out) (N nl : Nat) (x0 x1 : SV) (os : List SO) : Out := exec (cx K) N nl fi28 c28 [(0, x0), (1, x1)] os (kEnd tab [] nl rs28)
noncomputable def B28 (K : Nat → List SV → List SO → Out) (N nl : Nat) (x0 x1 : SV) (os : List SO) : Out :=
 bd (lenO tab 23 os x0) fun v1 o1 =>
 bd (lenO tab 23 o1 x1) fun v2 o2 =>
 bd (ret1 (binS tab .neq 3 v1 v2) o2) fun v3 o3 =>
 condS v3 (retV tab nl o3 (resC1 (some (SV.v (.bool false))) (some [])))
 (L28_4 K N nl N x0 x1 (SV.v (.int .i64 0)) o3)
noncomputable def bk29_2 (K : Nat → List SV → List SO → Out) (N nl : Nat) (m2 : Nat) : Env → List SO → Out := fun env os => loopS nl (fi29.lp 2) (fun env os nx => exec (cx K) N nl fi29 (subC c29 [1, 0, 1, 0, 0]) env os (kLoop nx (kBlock 0 (kSeq (exec (cx K) N nl fi29 (subC c29 [1, 1])) (fi29.jn 10) (kEnd tab [] nl rs29))))) m2 (killS (fi29.lp 2).alive env) os
noncomputable def L29_2 (K : Nat → List SV → List SO → Out) (N nl : Nat) (m2 : Nat) (x0 x1 x5 : SV) (os : List SO) : Out := loopS nl (fi29.lp 2) (fun env os nx => exec (cx K) N nl fi29 (subC c29 [1, 0, 1, 0, 0]) env os (kLoop nx (kBlock 0 (kSeq (exec (cx K) N nl fi29 (subC c29 [1, 1])) (fi29.jn 10) (kEnd tab [] nl rs29))))) m2 [(0, x0), (1, x1), (5, x5)] os
noncomputable def LB29_2 (K : Nat → List SV → List SO → Out) (N nl : Nat) (m2 : Nat) (x0 x1 x5 : SV) (os : List SO) : Out :=
 bd (lenO tab 30 os x0) fun v1 o1 =>
 bd (ret1 (binS tab .lss 3 x5 v1) o1) fun v2 o2 =>
 condS v2 (bd (ret1 (indexAddrS tab o2 30 x0 x5) o2) fun v3 o3 =>
 bd (ret1 (fieldAddrS tab 69 v3 0) o3) fun v4 o4 =>
 bd (storeO tab o4 3 v4 (some x1)) fun v5 o5 =>
 bd (ret1 (binS tab .add 3 x1 (SV.v (.int .i64 1))) o5) fun v6 o6 =>
 bd (ret1 (indexAddrS tab o6 30 x0 x5) o6) fun v7 o7 =>
 bd (ret1 (fieldAddrS tab 69 v7 1) o7) fun v8 o8 =>
 bd (storeO tab o8 3 v8 (some v6)) fun v9 o9 =>
 bd (ret1 (binS tab .add 3 v6 (SV.v (.int .i64 1))) o9) fun v10 o10 =>
 bd (ret1 (indexAddrS tab o10 30 x0 x5) o10) fun v11 o11 =>
 bd (ret1 (fieldAddrS tab 69 v11 2) o11) fun v12 o12 =>
 bd (ret1 (loadS tab o12 66 v12) o12) fun v13 o13 =>
 bd (callS ⟨tab, ownF, K⟩ o13 45 [v13, v10]) fun v14 o14 =>
 bd (ret1 (indexAddrS tab o14 30 x0 x5) o14) fun v15 o15 =>
 bd (ret1 (fieldAddrS tab 69 v15 3) o15) fun v16 o16 =>
 bd (ret1 (loadS tab o16 67 v16) o16) fun v17 o17 =>
 bd (callS ⟨tab, ownF, K⟩ o17 46 [v17, v14]) fun v18 o18 =>
 bd (ret1 (binS tab .add 3 x5 (SV.v (.int .i64 1))) o18) fun v19 o19 =>
 L29_2 K N nl m2 x0 v18 v19 o19)
 (retV tab nl o2 (resC1 (some x1) (some [])))
noncomputable def X29 (K : Nat → List SV → List SO → Out) (N nl : Nat) (x0 x1 : SV) (os : List SO) : Out := exec (cx K) N nl fi29 c29 [(0, x0), (1, x1)] os (kEnd tab [] nl rs29)
noncomputable def B29 (K : Nat → List SV → List SO → Out) (N nl : Nat) (x0 x1 : SV) (os : List SO) : Out :=
 L29_2 K N nl N x0 x1 (SV.v (.int .i64 0)) os
noncomputable def bk30_2 (K : Nat → List SV → List SO → Out) (N nl : Nat) (m2 : Nat) : Env → List SO → Out := fun env os => loopS nl (fi30.lp 2) (fun env os nx => exec (cx K) N nl fi30 (subC c30 [1, 0, 1, 0, 0]) env os (kLoop nx (kBlock 0 (kSeq (exec (cx K) N nl fi30 (subC c30 [1, 1])) (fi30.jn 6) (kEnd tab [] nl rs30))))) m2 (killS (fi30.lp 2).alive env) os
noncomputable def L30_2 (K : Nat → List SV → List SO → Out) (N nl : Nat) (m2 : Nat) (x0 x1 x5 : SV) (os : List SO) : Out := loopS nl (fi30.lp 2) (fun env os nx => exec (cx K) N nl fi30 (subC c30 [1, 0, 1, 0, 0]) env os (kLoop nx (kBlock 0 (kSeq (exec (cx K) N nl fi30 (subC c30 [1, 1])) (fi30.jn 6) (kEnd tab [] nl rs30))))) m2 [(0, x0), (1, x1), (5, x5)] os
noncomputable def LB30_2 (K : Nat → List SV → List SO → Out) (N nl : Nat) (m2 : Nat) (x0 x1 x5 : SV) (os : List SO) : Out :=
 bd (lenO tab 23 os x0) fun v1 o1 =>
 bd (ret1 (binS tab .lss 3 x5 v1) o1) fun v2 o2 =>
 condS v2 (bd (ret1 (indexAddrS tab o2 23 x0 x5) o2) fun v3 o3 =>
 bd (storeO tab o3 3 v3 (some x1)) fun v4 o4 =>
 bd (ret1 (binS tab .add 3 x1 (SV.v (.int .i64 1))) o4) fun v5 o5 =>
 bd (ret1 (binS tab .add 3 x5 (SV.v (.int .i64 1))) o5) fun v6 o6 =>
 L30_2 K N nl m2 x0 v5 v6 o6)
 (retV tab nl o2 (resC1 (some x1) (some [])))
noncomputable def X30 (K : Nat → List SV → List SO → Out) (N nl : Nat) (x0 x1 : SV) (os : List SO) : Out := exec (cx K) N nl fi30 c30 [(0, x0), (1, x1)] os (kEnd tab [] nl rs30)
noncomputable def B30 (K : Nat → List SV → List SO → Out) (N nl : Nat) (x0 x1 : SV) (os : List SO) : Out :=
 L30_2 K N nl N x0 x1 (SV.v (.int .i64 0)) os
noncomputable def bk31_2 (K : Nat → List SV → List SO → Out) (N nl : Nat) (m2 : Nat) : Env → List SO → Out := fun env os => loopS nl (fi31.lp 2) (fun env os nx => exec (cx K) N nl fi31 (subC c31 [1, 0, 1, 0, 0]) env os (kLoop nx (kBlock 0 (kSeq (exec (cx K) N nl fi31 (subC c31 [1, 1])) (fi31.jn 16) (kEnd tab [] nl rs31))))) m2 (killS (fi31.lp 2).alive env) os
noncomputable def L31_2 (K : Nat → List SV → List SO → Out) (N nl : Nat) (m2 : Nat) (x0 x1 x5 : SV) (os : List SO) : Out := loopS nl (fi31.lp 2) (fun env os nx => exec (cx K) N nl fi31 (subC c31 [1, 0, 1, 0, 0]) env os (kLoop nx (kBlock 0 (kSeq (exec (cx K) N nl fi31 (subC c31 [1, 1])) (fi31.jn 16) (kEnd tab [] nl rs31))))) m2 [(0, x0), (1, x1), (5, x5)] os
noncomputable def LB31_2 (K : Nat → List SV → List SO → Out) (N nl : Nat) (m2 : Nat) (x0 x1 x5 : SV) (os : List SO) : Out :=
 bd (lenO tab 30 os x0) fun v1 o1 =>
 bd (ret1 (binS tab .lss 3 x5 v1) o1) fun v2 o2 =>
 condS v2 (bd (ret1 (indexAddrS tab o2 30 x0 x5) o2) fun v3 o3 =>
 bd (ret1 (fieldAddrS tab 69 v3 0) o3) fun v4 o4 =>
 bd (ret1 (loadS tab o4 3 v4) o4) fun v5 o5 =>
 bd (ret1 (binS tab .neq 3 v5 x1) o5) fun v6 o6 =>
 condS v6 (retV tab nl o6 (resC1 (some (SV.v (.int .i64 (-1)))) (some [])))
 (bd (ret1 (binS tab .add 3 x1 (SV.v (.int .i64 1))) o6) fun v7 o7 =>
 bd (ret1 (indexAddrS tab o7 30 x0 x5) o7) fun v8 o8 =>
 bd (ret1 (fieldAddrS tab 69 v8 1) o8) fun v9 o9 =>
 bd (ret1 (loadS tab o9 3 v9) o9) fun v10 o10 =>
 bd (ret1 (binS tab .neq 3 v10 v7) o10) fun v11 o11 =>
 condS v11 (retV tab nl o11 (resC1 (some (SV.v (.int .i64 (-1)))) (some [])))
 (bd (ret1 (binS tab .add 3 v7 (SV.v (.int .i64 1))) o11) fun v12 o12 =>
 bd (ret1 (indexAddrS tab o12 30 x0 x5) o12) fun v13 o13 =>
 bd (ret1 (fieldAddrS tab 69 v13 2) o13) fun v14 o14 =>
 bd (ret1 (loadS tab o14 66 v14) o14) fun v15 o15 =>
 bd (callS ⟨tab, ownF, K⟩ o15 47 [v15, v12]) fun v16 o16 =>
 bd (ret1 (binS tab .lss 3 v16 (SV.v (.int .i64 0))) o16) fun v17 o17 =>
 condS v17 (retV tab nl o17 (resC1 (some (SV.v (.int .i64 (-1)))) (some [])))
 (bd (ret1 (indexAddrS tab o17 30 x0 x5) o17) fun v18 o18 =>
 bd (ret1 (fieldAddrS tab 69 v18 3) o18) fun v19 o19 =>
 bd (ret1 (loadS tab o19 67 v19) o19) fun v20 o20 =>
 bd (callS ⟨tab, ownF, K⟩ o20 48 [v20, v16]) fun v21 o21 =>
 bd (ret1 (binS tab .lss 3 v21 (SV.v (.int .i64 0))) o21) fun v22 o22 =>
 condS v22 (retV tab nl o22 (resC1 (some (SV.v (.int .i64 (-1)))) (some [])))
 (bd (ret1 (binS tab .add 3 x5 (SV.v (.int .i64 1))) o22) fun v23 o23 =>
 L31_2 K N nl m2 x0 v21 v23 o23)))))
 (retV tab nl o2 (resC1 (some x1) (some [])))
noncomputable def X31 (K : Nat → List SV → List SO → Out) (N nl : Nat) (x0 x1 : SV) (os : List SO) : Out := exec (cx K) N nl fi31 c31 [(0, x0), (1, x1)] os (kEnd tab [] nl rs31)
noncomputable def B31 (K : Nat → List SV → List SO → Out) (N nl : Nat) (x0 x1 : SV) (os : List SO) : Out :=
 L31_2 K N nl N x0 x1 (SV.v (.int .i64 0)) os
noncomputable def bk32_2 (K : Nat → List SV → List SO → Out) (N nl : Nat) (m2 : Nat) : Env → List SO → Out := fun env os => loopS nl (fi32.lp 2) (fun env os nx => exec (cx K) N nl fi32 (subC c32 [1, 0, 1, 0, 0]) env os (kLoop nx (kBlock 0 (kSeq (exec (cx K) N nl fi32 (subC c32 [1, 1])) (fi32.jn 7) (kEnd tab [] nl rs32))))) m2 (killS (fi32.lp 2).alive env) os
noncomputable def L32_2 (K : Nat → List SV → List SO → Out) (N nl : Nat) (m2 : Nat) (x0 x1 x5 : SV) (os : List SO) : Out := loopS nl (fi32.lp 2) (fun env os nx => exec (cx K) N nl fi32 (subC c32 [1, 0, 1, 0, 0]) env os (kLoop nx (kBlock 0 (kSeq (exec (cx K) N nl fi32 (subC c32 [1, 1])) (fi32.jn 7) (kEnd tab [] nl rs32))))) m2 [(0, x0), (1, x1), (5, x5)] os
noncomputable def LB32_2 (K : Nat → List SV → List SO → Out) (N nl : Nat) (m2 : Nat) (x0 x1 x5 : SV) (os : List SO) : Out :=
 bd (lenO tab 23 os x0) fun v1 o1 =>
 bd (ret1 (binS tab .lss 3 x5 v1) o1) fun v2 o2 =>
 condS v2 (bd (ret1 (indexAddrS tab o2 23 x0 x5) o2) fun v3 o3 =>
 bd (ret1 (loadS tab o3 3 v3) o3) fun v4 o4 =>
 bd (ret1 (binS tab .neq 3 v4 x1) o4) fun v5 o5 =>
 condS v5 (retV tab nl o5 (resC1 (some (SV.v (.int .i64 (-1)))) (some [])))
 (bd (ret1 (binS tab .add 3 x1 (SV.v (.int .i64 1))) o5) fun v6 o6 =>
 bd (ret1 (binS tab .add 3 x5 (SV.v (.int .i64 1))) o6) fun v7 o7 =>
 L32_2 K N nl m2 x0 v6 v7 o7))
 (retV tab nl o2 (resC1 (some x1) (some [])))
noncomputable def X32 (K : Nat → List SV → List SO → Out) (N nl : Nat) (x0 x1 : SV) (os : List SO) : Out := exec (cx K) N nl fi32 c32 [(0, x0), (1, x1)] os (kEnd tab [] nl rs32)
noncomputable def B32 (K : Nat → List SV → List SO → Out) (N nl : Nat) (x0 x1 : SV) (os : List SO) : Out :=
 L32_2 K N nl N x0 x1 (SV.v (.int .i64 0)) os
noncomputable def X33 (K : Nat → List SV → List SO → Out) (N nl : Nat) (x0 x1 : SV) (os : List SO) : Out := exec (cx K) N nl fi33 c33 [(0, x0), (1, x1)] os (kEnd tab [] nl rs33)
noncomputable def B33 (K : Nat → List SV → List SO → Out) (N nl : Nat) (x0 x1 : SV) (os : List SO) : Out :=
 bd (boxS tab os 62 (some x0)) fun v1 o1 =>
 bd (ret1 (fieldAddrS tab 62 v1 2) o1) fun v2 o2 =>
 bd (ret1 (loadS tab o2 59 v2) o2) fun v3 o3 =>
 bd (callS ⟨tab, ownF, K⟩ o3 49 [v3, x1]) fun v4 o4 =>
 bd (ret1 (binS tab .lss 3 v4 (SV.v (.int .i64 0))) o4) fun v5 o5 =>
 condS v5 (retV tab nl o5 (resC1 (some (SV.v (.int .i64 (-1)))) (some [])))
 (bd (ret1 (fieldAddrS tab 62 v1 3) o5) fun v6 o6 =>
 bd (ret1 (loadS tab o6 60 v6) o6) fun v7 o7 =>
 bd (callS ⟨tab, ownF, K⟩ o7 50 [v7, v4]) fun v8 o8 =>
 bd (ret1 (binS tab .lss 3 v8 (SV.v (.int .i64 0))) o8) fun v9 o9 =>
 condS v9 (retV tab nl o9 (resC1 (some (SV.v (.int .i64 (-1)))) (some [])))
 (retV tab nl o9 (resC1 (some v8) (some []))))
noncomputable def X34 (K : Nat → List SV → List SO → Out) (N nl : Nat) (x0 x1 x2 : SV) (os : List SO) : Out := exec (cx K) N nl fi34 c34 [(0, x0), (1, x1), (2, x2)] os (kEnd tab [] nl rs34)
noncomputable def B34 (K : Nat → List SV → List SO → Out) (N nl : Nat) (x0 x1 x2 : SV) (os : List SO) : Out :=
 bd (ret1 (binS tab .geq 3 x0 x1) os) fun v1 o1 =>
 bd (gd v1 true (some (x0, o1)) o1) fun v2 o2 =>
 bd (gd v1 true (some (x2, o2)) o2) fun v3 o3 =>
 bd (gd v1 true (ret1 (binS tab .leq 3 v2 v3) o3) o3) fun v4 o4 =>
 bd (ret1 (pickS v1 v4 (SV.v (.bool false))) o4) fun v5 o5 =>
 retV tab nl o5 (resC1 (some v5) (some []))
noncomputable def bk35_4 (K : Nat → List SV → List SO → Out) (N nl : Nat) (m4 : Nat) : Env → List SO → Out := fun env os => loopS nl (fi35.lp 4) (fun env os nx => exec (cx K) N nl fi35 (subC c35 [1, 1, 0, 1, 0, 0]) env os (kLoop nx (kBlock 0 (kSeq (exec (cx K) N nl fi35 (subC c35 [1, 1, 1])) (fi35.jn 16) (kEnd tab [] nl rs35))))) m4 (killS (fi35.lp 4).alive env) os
noncomputable def bk35_7 (K : Nat → List SV → List SO → Out) (N nl : Nat) (m4 : Nat) (m7 : Nat) : Env → List SO → Out := fun env os => loopS nl (fi35.lp 7) (fun env os nx => exec (cx K) N nl fi35 (subC c35 [1, 1, 0, 1, 0, 0, 1, 0, 0, 0, 1, 0, 0]) env os (kLoop nx (kBlock 2 (kSeq (exec (cx K) N nl fi35 (subC c35 [1, 1, 0, 1, 0, 0, 1, 0, 0, 1])) (fi35.jn 11) (kBlock 1 (kSeq (exec (cx K) N nl fi35 (subC c35 [1, 1, 0, 1, 0, 0, 1, 1])) (fi35.jn 5) (kLoop (bk35_4 K N nl m4) (kBlock 0 (kSeq (exec (cx K) N nl fi35 (subC c35 [1, 1, 1])) (fi35.jn 16) (kEnd tab [] nl rs35)))))))))) m7 (killS (fi35.lp 7).alive env) os
noncomputable def bk35_12 (K : Nat → List SV → List SO → Out) (N nl : Nat) (m4 : Nat) (m12 : Nat) : Env → List SO → Out := fun env os => loopS nl (fi35.lp 12) (fun env os nx => exec (cx K) N nl fi35 (subC c35 [1, 1, 0, 1, 0, 0, 1, 0, 0, 1, 1, 0, 0]) env os (kLoop nx (kBlock 4 (kBlock 1 (kSeq (exec (cx K) N nl fi35 (subC c35 [1, 1, 0, 1, 0, 0, 1, 1])) (fi35.jn 5) (kLoop (bk35_4 K N nl m4) (kBlock 0 (kSeq (exec (cx K) N nl fi35 (subC c35 [1, 1, 1])) (fi35.jn 16) (kEnd tab [] nl rs35))))))))) m12 (killS (fi35.lp 12).alive env) os
noncomputable def L35_4 (K : Nat → List SV → List SO → Out) (N nl : Nat) (m4 : Nat) (x0 x3 : SV) (os : List SO) : Out := loopS nl (fi35.lp 4) (fun env os nx => exec (cx K) N nl fi35 (subC c35 [1, 1, 0, 1, 0, 0]) env os (kLoop nx (kBlock 0 (kSeq (exec (cx K) N nl fi35 (subC c35 [1, 1, 1])) (fi35.jn 16) (kEnd tab [] nl rs35))))) m4 [(0, x0), (3, x3)] os
noncomputable def L35_7 (K : Nat → List SV → List SO → Out) (N nl : Nat) (m4 : Nat) (m7 : Nat) (x0 x3 x4 : SV) (os : List SO) : Out := loopS nl (fi35.lp 7) (fun env os nx => exec (cx K) N nl fi35 (subC c35 [1, 1, 0, 1, 0, 0, 1, 0, 0, 0, 1, 0, 0]) env os (kLoop nx (kBlock 2 (kSeq (exec (cx K) N nl fi35 (subC c35 [1, 1, 0, 1, 0, 0, 1, 0, 0, 1])) (fi35.jn 11) (kBlock 1 (kSeq (exec (cx K) N nl fi35 (subC c35 [1, 1, 0, 1, 0, 0, 1, 1])) (fi35.jn 5) (kLoop (bk35_4 K N nl m4) (kBlock 0 (kSeq (exec (cx K) N nl fi35 (subC c35 [1, 1, 1])) (fi35.jn 16) (kEnd tab [] nl rs35)))))))))) m7 [(0, x0), (3, x3), (4, x4)] os
noncomputable def L35_12 (K : Nat → List SV → List SO → Out) (N nl : Nat) (m4 : Nat) (m12 : Nat) (x0 x3 x5 : SV) (os : List SO) : Out := loopS nl (fi35.lp 12) (fun env os nx => exec (cx K) N nl fi35 (subC c35 [1, 1, 0, 1, 0, 0, 1, 0, 0, 1, 1, 0, 0]) env os (kLoop nx (kBlock 4 (kBlock 1 (kSeq (exec (cx K) N nl fi35 (subC c35 [1, 1, 0, 1, 0, 0, 1, 1])) (fi35.jn 5) (kLoop (bk35_4 K N nl m4) (kBlock 0 (kSeq (exec (cx K) N nl fi35 (subC c35 [1, 1, 1])) (fi35.jn 16) (kEnd tab [] nl rs35))))))))) m12 [(0, x0), (3, x3), (5, x5)] os
noncomputable def LB35_4 (K : Nat → List SV → List SO → Out) (N nl : Nat) (m4 : Nat) (x0 x3 : SV) (os : List SO) : Out :=
 bd (lenO tab 30 os x0) fun v7 o7 =>
 bd (ret1 (binS tab .lss 3 x3 v7) o7) fun v8 o8 =>
 condS v8 (L35_7 K N nl m4 N x0 x3 (SV.v (.int .i64 0)) o8)
 (retV tab nl o8 (resC1 (some (SV.v (.bool true))) (some [])))
noncomputable def LB35_7 (K : Nat → List SV → List SO → Out) (N nl : Nat) (m4 : Nat) (m7 : Nat) (x0 x3 x4 : SV) (os : List SO) : Out :=
 bd (ret1 (indexAddrS tab os 30 x0 x3) os) fun v9 o9 =>
 bd (ret1 (fieldAddrS tab 69 v9 3) o9) fun v10 o10 =>
 bd (ret1 (loadS tab o10 67 v10) o10) fun v11 o11 =>
 bd (lenO tab 67 o11 v11) fun v12 o12 =>
 bd (ret1 (binS tab .lss 3 x4 v12) o12) fun v13 o13 =>
 condS v13 (bd (ret1 (indexAddrS tab o13 30 x0 x3) o13) fun v14 o14 =>
 bd (ret1 (fieldAddrS tab 69 v14 3) o14) fun v15 o15 =>
 bd (ret1 (loadS tab o15 67 v15) o15) fun v16 o16 =>
 bd (ret1 (indexAddrS tab o16 67 v16 x4) o16) fun v17 o17 =>
 bd (ret1 (loadS tab o17 81 v17) o17) fun v18 o18 =>
 bd (callS ⟨tab, ownF, K⟩ o18 53 [x0, v18]) fun v19 o19 =>
 bd (ret1 (unS .not v19) o19) fun v20 o20 =>
 condS v20 (retV tab nl o20 (resC1 (some (SV.v (.bool false))) (some [])))
 (bd (ret1 (binS tab .add 3 x4 (SV.v (.int .i64 1))) o20) fun v21 o21 =>
 L35_7 K N nl m4 m7 x0 x3 v21 o21))
 (L35_12 K N nl m4 N x0 x3 (SV.v (.int .i64 0)) o13)
noncomputable def LB35_12 (K : Nat → List SV → List SO → Out) (N nl : Nat) (m4 : Nat) (m12 : Nat) (x0 x3 x5 : SV) (os : List SO) : Out :=
 bd (ret1 (indexAddrS tab os 30 x0 x3) os) fun v22 o22 =>
 bd (ret1 (fieldAddrS tab 69 v22 2) o22) fun v23 o23 =>
 bd (ret1 (loadS tab o23 66 v23) o23) fun v24 o24 =>
 bd (lenO tab 66 o24 v24) fun v25 o25 =>
 bd (ret1 (binS tab .lss 3 x5 v25) o25) fun v26 o26 =>
 condS v26 (bd (ret1 (indexAddrS tab o26 30 x0 x3) o26) fun v27 o27 =>
 bd (ret1 (fieldAddrS tab 69 v27 2) o27) fun v28 o28 =>
 bd (ret1 (loadS tab o28 66 v28) o28) fun v29 o29 =>
 bd (ret1 (indexAddrS tab o29 66 v29 x5) o29) fun v30 o30 =>
 bd (ret1 (fieldAddrS tab 84 v30 0) o30) fun v31 o31 =>
 bd (ret1 (loadS tab o31 3 v31) o31) fun v32 o32 =>
 bd (callS ⟨tab, ownF, K⟩ o32 54 [x0, x3, v32]) fun v33 o33 =>
 bd (ret1 (binS tab .geq 3 v33 (SV.v (.int .i64 0))) o33) fun v34 o34 =>
 condS v34 (retV tab nl o34 (resC1 (some (SV.v (.bool false))) (some [])))
 (bd (ret1 (binS tab .add 3 x5 (SV.v (.int .i64 1))) o34) fun v35 o35 =>
 L35_12 K N nl m4 m12 x0 x3 v35 o35))
 (bd (ret1 (binS tab .add 3 x3 (SV.v (.int .i64 1))) o26) fun v36 o36 =>
 L35_4 K N nl m4 x0 v36 o36)
noncomputable def X35 (K : Nat → List SV → List SO → Out) (N nl : Nat) (x0 : SV) (os : List SO) : Out := exec (cx K) N nl fi35 c35 [(0, x0)] os (kEnd tab [] nl rs35)
noncomputable def B35 (K : Nat → List SV → List SO → Out) (N nl : Nat) (x0 : SV) (os : List SO) : Out :=
 bd (callS ⟨tab, ownF, K⟩ os 51 [x0]) fun v1 o1 =>
 bd (ret1 (unS .not v1) o1) fun v2 o2 =>
 bd (gd v2 false (some (x0, o2)) o2) fun v3 o3 =>
 bd (gd v2 false (callS ⟨tab, ownF, K⟩ o3 52 [v3]) o3) fun v4 o4 =>
 bd (gd v2 false (ret1 (unS .not v4) o4) o4) fun v5 o5 =>
 bd (ret1 (pickS v2 (SV.v (.bool true)) v5) o5) fun v6 o6 =>
 condS v6 (retV tab nl o6 (resC1 (some (SV.v (.bool false))) (some [])))
 (L35_4 K N nl N x0 (SV.v (.int .i64 0)) o6)
noncomputable def bk36_3 (K : Nat → List SV → List SO → Out) (N nl : Nat) (m3 : Nat) : Env → List SO → Out := fun env os => loopS nl (fi36.lp 3) (fun env os nx => exec (cx K) N nl fi36 (subC c36 [1, 1, 0, 1, 0, 0]) env os (kLoop nx (kBlock 0 (kSeq (exec (cx K) N nl fi36 (subC c36 [1, 1, 1])) (fi36.jn 6) (kEnd tab [] nl rs36))))) m3 (killS (fi36.lp 3).alive env) os
noncomputable def L36_3 (K : Nat → List SV → List SO → Out) (N nl : Nat) (m3 : Nat) (x0 x3 x4 : SV) (os : List SO) : Out := loopS nl (fi36.lp 3) (fun env os nx => exec (cx K) N nl fi36 (subC c36 [1, 1, 0, 1, 0, 0]) env os (kLoop nx (kBlock 0 (kSeq (exec (cx K) N nl fi36 (subC c36 [1, 1, 1])) (fi36.jn 6) (kEnd tab [] nl rs36))))) m3 [(0, x0), (3, x3), (4, x4)] os
noncomputable def G36_3 (K : Nat → List SV → List SO → Out) (N nl : Nat) (m3 : Nat) (xs : List SV) (os : List SO) : Out := (fun env os nx => exec (cx K) N nl fi36 (subC c36 [1, 1, 0, 1, 0, 0]) env os (kLoop nx (kBlock 0 (kSeq (exec (cx K) N nl fi36 (subC c36 [1, 1, 1])) (fi36.jn 6) (kEnd tab [] nl rs36))))) (zipE [0, 3, 4] xs) os (bk36_3 K N nl m3)
noncomputable def X36 (K : Nat → List SV → List SO → Out) (N nl : Nat) (x0 : SV) (os : List SO) : Out := exec (cx K) N nl fi36 c36 [(0, x0)] os (kEnd tab [] nl rs36)
noncomputable def B36 (K : Nat → List SV → List SO → Out) (N nl : Nat) (x0 : SV) (os : List SO) : Out :=
 bd (evN tab 30 os none) fun v1 o1 =>
 bd (buildSliceS tab o1 30 0 []) fun v2 o2 =>
 L36_3 K N nl N x0 v2 (SV.v (.int .i64 0)) o2
noncomputable def X37 (K : Nat → List SV → List SO → Out) (N nl : Nat) (x0 : SV) (os : List SO) : Out := exec (cx K) N nl fi37 c37 [(0, x0)] os (kEnd tab [] nl rs37)
noncomputable def B37 (K : Nat → List SV → List SO → Out) (N nl : Nat) (x0 : SV) (os : List SO) : Out :=
 bd (boxS tab os 62 (some x0)) fun v1 o1 =>
 bd (allocS tab o1 69) fun v2 o2 =>
 bd (allocS tab o2 69) fun v3 o3 =>
 bd (ret1 (fieldAddrS tab 62 v1 0) o3) fun v4 o4 =>
 bd (ret1 (loadS tab o4 3 v4) o4) fun v5 o5 =>
 bd (ret1 (fieldAddrS tab 69 v3 0) o5) fun v6 o6 =>
 bd (storeO tab o6 3 v6 (some v5)) fun v7 o7 =>
 bd (ret1 (fieldAddrS tab 62 v1 1) o7) fun v8 o8 =>
 bd (ret1 (loadS tab o8 3 v8) o8) fun v9 o9 =>
 bd (ret1 (fieldAddrS tab 69 v3 1) o9) fun v10 o10 =>
 bd (storeO tab o10 3 v10 (some v9)) fun v11 o11 =>
 bd (ret1 (fieldAddrS tab 62 v1 2) o11) fun v12 o12 =>
 bd (ret1 (loadS tab o12 59 v12) o12) fun v13 o13 =>
 bd (callS ⟨tab, ownF, K⟩ o13 56 [v13]) fun v14 o14 =>
 bd (ret1 (fieldAddrS tab 69 v3 2) o14) fun v15 o15 =>
 bd (storeO tab o15 66 v15 (some v14)) fun v16 o16 =>
 bd (ret1 (fieldAddrS tab 62 v1 3) o16) fun v17 o17 =>
 bd (ret1 (loadS tab o17 60 v17) o17) fun v18 o18 =>
 bd (callS ⟨tab, ownF, K⟩ o18 57 [v18]) fun v19 o19 =>
 bd (ret1 (fieldAddrS tab 69 v3 3) o19) fun v20 o20 =>
 bd (storeO tab o20 67 v20 (some v19)) fun v21 o21 =>
 bd (ret1 (loadS tab o21 69 v3) o21) fun v22 o22 =>
 bd (storeO tab o22 69 v2 (some v22)) fun v23 o23 =>
 retV tab nl o23 (resC1 (loadS tab o23 69 v2) (some []))
noncomputable def X38 (K : Nat → List SV → List SO → Out) (N nl : Nat) (x0 : SV) (os : List SO) : Out := exec (cx K) N nl fi38 c38 [(0, x0)] os (kEnd tab [] nl rs38)
noncomputable def B38 (K : Nat → List SV → List SO → Out) (N nl : Nat) (x0 : SV) (os : List SO) : Out :=
 bd (callS ⟨tab, ownF, K⟩ os 39 [x0, (SV.v (.int .i64 (-2))), (SV.v (.int .i64 9))]) fun v1 o1 =>
 bd (ret1 (unS .not v1) o1) fun v2 o2 =>
 retV tab nl o2 (resC1 (some v2) (some []))
noncomputable def X39 (K : Nat → List SV → List SO → Out) (N nl : Nat) (x0 x1 x2 : SV) (os : List SO) : Out := exec (cx K) N nl fi39 c39 [(0, x0), (1, x1), (2, x2)] os (kEnd tab [] nl rs39)
noncomputable def B39 (K : Nat → List SV → List SO → Out) (N nl : Nat) (x0 x1 x2 : SV) (os : List SO) : Out :=
 bd (ret1 (binS tab .geq 3 x0 x1) os) fun v1 o1 =>
 bd (gd v1 true (some (x0, o1)) o1) fun v2 o2 =>
 bd (gd v1 true (some (x2, o2)) o2) fun v3 o3 =>
 bd (gd v1 true (ret1 (binS tab .leq 3 v2 v3) o3) o3) fun v4 o4 =>
 bd (ret1 (pickS v1 v4 (SV.v (.bool false))) o4) fun v5 o5 =>
 retV tab nl o5 (resC1 (some v5) (some []))
noncomputable def X40 (K : Nat → List SV → List SO → Out) (N nl : Nat) (x0 x1 : SV) (os : List SO) : Out := exec (cx K) N nl fi40 c40 [(0, x0), (1, x1)] os (kEnd tab [] nl rs40)
noncomputable def B40 (K : Nat → List SV → List SO → Out) (N nl : Nat) (x0 x1 : SV) (os : List SO) : Out :=
 bd (callS ⟨tab, ownF, K⟩ os 58 [x0, x1]) fun v1 o1 =>
 bd (ret1 (binS tab .geq 3 v1 (SV.v (.int .i64 0))) o1) fun v2 o2 =>
 retV tab nl o2 (resC1 (some v2) (some []))
noncomputable def bk41_5 (K : Nat → List SV → List SO → Out) (N nl : Nat) (m5 : Nat) : Env → List SO → Out := fun env os => loopS nl (fi41.lp 5) (fun env os nx => exec (cx K) N nl fi41 (subC c41 [1, 1, 1, 0, 1, 0, 0]) env os (kLoop nx (kBlock 0 (kSeq (exec (cx K) N nl fi41 (subC c41 [1, 1, 1, 1])) (fi41.jn 17) (kEnd tab [] nl rs41))))) m5 (killS (fi41.lp 5).alive env) os
noncomputable def bk41_10 (K : Nat → List SV → List SO → Out) (N nl : Nat) (m5 : Nat) (m10 : Nat) : Env → List SO → Out := fun env os => loopS nl (fi41.lp 10) (fun env os nx => exec (cx K) N nl fi41 (subC c41 [1, 1, 1, 0, 1, 0, 0, 1, 1, 0, 0, 1, 1, 1, 0, 0]) env os (kLoop nx (kBlock 2 (kBlock 1 (kSeq (exec (cx K) N nl fi41 (subC c41 [1, 1, 1, 0, 1, 0, 0, 1, 1, 1])) (fi41.jn 16) (kLoop (bk41_5 K N nl m5) (kBlock 0 (kSeq (exec (cx K) N nl fi41 (subC c41 [1, 1, 1, 1])) (fi41.jn 17) (kEnd tab [] nl rs41))))))))) m10 (killS (fi41.lp 10).alive env) os
noncomputable def L41_5 (K : Nat → List SV → List SO → Out) (N nl : Nat) (m5 : Nat) (x1 x3 x11 x12 x13 : SV) (os : List SO) : Out := loopS nl (fi41.lp 5) (fun env os nx => exec (cx K) N nl fi41 (subC c41 [1, 1, 1, 0, 1, 0, 0]) env os (kLoop nx (kBlock 0 (kSeq (exec (cx K) N nl fi41 (subC c41 [1, 1, 1, 1])) (fi41.jn 17) (kEnd tab [] nl rs41))))) m5 [(1, x1), (3, x3), (11, x11), (12, x12), (13, x13)] os
noncomputable def G41_5 (K : Nat → List SV → List SO → Out) (N nl : Nat) (m5 : Nat) (xs : List SV) (os : List SO) : Out := (fun env os nx => exec (cx K) N nl fi41 (subC c41 [1, 1, 1, 0, 1, 0, 0]) env os (kLoop nx (kBlock 0 (kSeq (exec (cx K) N nl fi41 (subC c41 [1, 1, 1, 1])) (fi41.jn 17) (kEnd tab [] nl rs41))))) (zipE [1, 3, 11, 12, 13] xs) os (bk41_5 K N nl m5)
noncomputable def L41_10 (K : Nat → List SV → List SO → Out) (N nl : Nat) (m5 : Nat) (m10 : Nat) (x1 x3 x11 x12 x13 x38 x39 x40 : SV) (os : List SO) : Out := loopS nl (fi41.lp 10) (fun env os nx => exec (cx K) N nl fi41 (subC c41 [1, 1, 1, 0, 1, 0, 0, 1, 1, 0, 0, 1, 1, 1, 0, 0]) env os (kLoop nx (kBlock 2 (kBlock 1 (kSeq (exec (cx K) N nl fi41 (subC c41 [1, 1, 1, 0, 1, 0, 0, 1, 1, 1])) (fi41.jn 16) (kLoop (bk41_5 K N nl m5) (kBlock 0 (kSeq (exec (cx K) N nl fi41 (subC c41 [1, 1, 1, 1])) (fi41.jn 17) (kEnd tab [] nl rs41))))))))) m10 [(1, x1), (3, x3), (11, x11), (12, x12), (13, x13), (38, x38), (39, x39), (40, x40)] os
noncomputable def G41_10 (K : Nat → List SV → List SO → Out) (N nl : Nat) (m5 : Nat) (m10 : Nat) (xs : List SV) (os : List SO) : Out := (fun env os nx => exec (cx K) N nl fi41 (subC c41 [1, 1, 1, 0, 1, 0, 0, 1, 1, 0, 0, 1, 1, 1, 0, 0]) env os (kLoop nx (kBlock 2 (kBlock 1 (kSeq (exec (cx K) N nl fi41 (subC c41 [1, 1, 1, 0, 1, 0, 0, 1, 1, 1])) (fi41.jn 16) (kLoop (bk41_5 K N nl m5) (kBlock 0 (kSeq (exec (cx K) N nl fi41 (subC c41 [1, 1, 1, 1])) (fi41.jn 17) (kEnd tab [] nl rs41))))))))) (zipE [1, 3, 11, 12, 13, 38, 39, 40] xs) os (bk41_10 K N nl m5 m10)
noncomputable def GB41_5 (K : Nat → List SV → List SO → Out) (N nl : Nat) (m5 : Nat) (x1 x3 x11 x12 x13 : SV) (os : List SO) : Out :=
 bd (ret1 (binS tab .lss 3 x13 x12) os) fun v8 o8 =>
 condS v8 (bd (ret1 (indexAddrS tab o8 30 x11 x13) o8) fun v9 o9 =>
 bd (ret1 (loadS tab o9 69 v9) o9) fun v10 o10 =>
 bd (allocS tab o10 69) fun v11 o11 =>
 bd (storeO tab o11 69 v11 (some v10)) fun v12 o12 =>
 bd (ret1 (binS tab .gtr 3 x13 (SV.v (.int .i64 0))) o12) fun v13 o13 =>
 bd (gd v13 true (ret1 (loadS tab o13 30 x1) o13) o13) fun v14 o14 =>
 bd (gd v13 true (some (x13, o14)) o14) fun v15 o15 =>
 bd (gd v13 true (ret1 (binS tab .sub 3 v15 (SV.v (.int .i64 1))) o15) o15) fun v16 o16 =>
 bd (gd v13 true (ret1 (indexAddrS tab o16 30 v14 v16) o16) o16) fun v17 o17 =>
 bd (gd v13 true (ret1 (fieldAddrS tab 69 v17 0) o17) o17) fun v18 o18 =>
 bd (gd v13 true (ret1 (loadS tab o18 3 v18) o18) o18) fun v19 o19 =>
 bd (gd v13 true (ret1 (fieldAddrS tab 69 v11 0) o19) o19) fun v20 o20 =>
 bd (gd v13 true (ret1 (loadS tab o20 3 v20) o20) o20) fun v21 o21 =>
 bd (gd v13 true (ret1 (binS tab .eql 3 v19 v21) o21) o21) fun v22 o22 =>
 bd (ret1 (pickS v13 v22 (SV.v (.bool false))) o22) fun v23 o23 =>
 bd (gd v23 false (ret1 (fieldAddrS tab 69 v11 3) o23) o23) fun v24 o24 =>
 bd (gd v23 false (ret1 (loadS tab o24 67 v24) o24) o24) fun v25 o25 =>
 bd (gd v23 false (some ((SV.fn 61 [x1]), o25)) o25) fun v26 o26 =>
 bd (gd v23 false (callS ⟨tab, ownF, K⟩ o26 60 [v25, v26]) o26) fun v27 o27 =>
 bd (ret1 (pickS v23 (SV.v (.bool true)) v27) o27) fun v28 o28 =>
 condS v28 (retV tab nl o28 (resC1 (some (SV.v (.bool false))) (some [])))
 (bd (ret1 (fieldAddrS tab 69 v11 2) o28) fun v29 o29 =>
 bd (ret1 (loadS tab o29 66 v29) o29) fun v30 o30 =>
 bd (lenO tab 66 o30 v30) fun v31 o31 =>
 L41_10 K N nl m5 N x1 x3 x11 x12 x13 v30 v31 (SV.v (.int .i64 0)) o31))
 (retV tab nl o8 (resC1 (some (SV.v (.bool true))) (some [])))
noncomputable def GB41_10 (K : Nat → List SV → List SO → Out) (N nl : Nat) (m5 : Nat) (m10 : Nat) (x1 x3 x11 x12 x13 x38 x39 x40 : SV) (os : List SO) : Out :=
 bd (ret1 (binS tab .lss 3 x40 x39) os) fun v32 o32 =>
 condS v32 (bd (ret1 (indexAddrS tab o32 66 x38 x40) o32) fun v33 o33 =>
 bd (ret1 (loadS tab o33 84 v33) o33) fun v34 o34 =>
 bd (allocS tab o34 84) fun v35 o35 =>
 bd (storeO tab o35 84 v35 (some v34)) fun v36 o36 =>
 bd (ret1 (fieldAddrS tab 84 v35 0) o36) fun v37 o37 =>
 bd (ret1 (loadS tab o37 3 v37) o37) fun v38 o38 =>
 bd (ret1 (indexAddrS tab o38 89 x3 v38) o38) fun v39 o39 =>
 bd (ret1 (loadS tab o39 4 v39) o39) fun v40 o40 =>
 condS v40 (retV tab nl o40 (resC1 (some (SV.v (.bool false))) (some [])))
 (bd (ret1 (fieldAddrS tab 84 v35 0) o40) fun v41 o41 =>
 bd (ret1 (loadS tab o41 3 v41) o41) fun v42 o42 =>
 bd (ret1 (indexAddrS tab o42 89 x3 v42) o42) fun v43 o43 =>
 bd (storeO tab o43 4 v43 (some (SV.v (.bool true)))) fun v44 o44 =>
 bd (ret1 (binS tab .add 3 x40 (SV.v (.int .i64 1))) o44) fun v45 o45 =>
 L41_10 K N nl m5 m10 x1 x3 x11 x12 x13 x38 x39 v45 o45))
 (bd (ret1 (binS tab .add 3 x13 (SV.v (.int .i64 1))) o32) fun v46 o46 =>
 L41_5 K N nl m5 x1 x3 x11 x12 v46 o46)
noncomputable def X41 (K : Nat → List SV → List SO → Out) (N nl : Nat) (x0 : SV) (os : List SO) : Out := exec (cx K) N nl fi41 c41 [(0, x0)] os (kEnd tab [] nl rs41)
noncomputable def B41 (K : Nat → List SV → List SO → Out) (N nl : Nat) (x0 : SV) (os : List SO) : Out :=
 bd (boxS tab os 30 (some x0)) fun v1 o1 =>
 bd (ret1 (loadS tab o1 30 v1) o1) fun v2 o2 =>
 bd (callS ⟨tab, ownF, K⟩ o2 59 [v2]) fun v3 o3 =>
 bd (ret1 (unS .not v3) o3) fun v4 o4 =>
 condS v4 (retV tab nl o4 (resC1 (some (SV.v (.bool false))) (some [])))
 (bd (allocS tab o4 89) fun v5 o5 =>
 bd (ret1 (loadS tab o5 30 v1) o5) fun v6 o6 =>
 bd (lenO tab 30 o6 v6) fun v7 o7 =>
 L41_5 K N nl N v1 v5 v6 v7 (SV.v (.int .i64 0)) o7)
noncomputable def bk42_3 (K : Nat → List SV → List SO → Out) (N nl : Nat) (m3 : Nat) : Env → List SO → Out := fun env os => loopS nl (fi42.lp 3) (fun env os nx => exec (cx K) N nl fi42 (subC c42 [1, 1, 0, 1, 0, 0]) env os (kLoop nx (kBlock 0 (kSeq (exec (cx K) N nl fi42 (subC c42 [1, 1, 1])) (fi42.jn 7) (kEnd tab [] nl rs42))))) m3 (killS (fi42.lp 3).alive env) os
noncomputable def L42_3 (K : Nat → List SV → List SO → Out) (N nl : Nat) (m3 : Nat) (x3 x6 x7 x8 : SV) (os : List SO) : Out := loopS nl (fi42.lp 3) (fun env os nx => exec (cx K) N nl fi42 (subC c42 [1, 1, 0, 1, 0, 0]) env os (kLoop nx (kBlock 0 (kSeq (exec (cx K) N nl fi42 (subC c42 [1, 1, 1])) (fi42.jn 7) (kEnd tab [] nl rs42))))) m3 [(3, x3), (6, x6), (7, x7), (8, x8)] os
noncomputable def G42_3 (K : Nat → List SV → List SO → Out) (N nl : Nat) (m3 : Nat) (xs : List SV) (os : List SO) : Out := (fun env os nx => exec (cx K) N nl fi42 (subC c42 [1, 1, 0, 1, 0, 0]) env os (kLoop nx (kBlock 0 (kSeq (exec (cx K) N nl fi42 (subC c42 [1, 1, 1])) (fi42.jn 7) (kEnd tab [] nl rs42))))) (zipE [3, 6, 7, 8] xs) os (bk42_3 K N nl m3)
noncomputable def X42 (K : Nat → List SV → List SO → Out) (N nl : Nat) (x0 : SV) (os : List SO) : Out := exec (cx K) N nl fi42 c42 [(0, x0)] os (kEnd tab [] nl rs42)
noncomputable def B42 (K : Nat → List SV → List SO → Out) (N nl : Nat) (x0 : SV) (os : List SO) : Out :=
 bd (evN tab 30 os none) fun v1 o1 =>
 bd (evN tab 30 o1 none) fun v2 o2 =>
 bd (lenO tab 30 o2 x0) fun v3 o3 =>
 L42_3 K N nl N v2 x0 v3 (SV.v (.int .i64 0)) o3
noncomputable def X44 (K : Nat → List SV → List SO → Out) (N nl : Nat) (x0 x1 : SV) (os : List SO) : Out := exec (cx K) N nl fi44 c44 [(0, x0), (1, x1)] os (kEnd tab [] nl rs44)
noncomputable def B44 (K : Nat → List SV → List SO → Out) (N nl : Nat) (x0 x1 : SV) (os : List SO) : Out :=
 bd (boxS tab os 69 (some x0)) fun v1 o1 =>
 bd (boxS tab o1 69 (some x1)) fun v2 o2 =>
 bd (ret1 (fieldAddrS tab 69 v1 0) o2) fun v3 o3 =>
 bd (ret1 (loadS tab o3 3 v3) o3) fun v4 o4 =>
 bd (ret1 (fieldAddrS tab 69 v2 0) o4) fun v5 o5 =>
 bd (ret1 (loadS tab o5 3 v5) o5) fun v6 o6 =>
 bd (ret1 (binS tab .neq 3 v4 v6) o6) fun v7 o7 =>
 condS v7 (retV tab nl o7 (resC1 (some (SV.v (.bool false))) (some [])))
 (bd (ret1 (fieldAddrS tab 69 v1 1) o7) fun v8 o8 =>
 bd (ret1 (loadS tab o8 3 v8) o8) fun v9 o9 =>
 bd (ret1 (fieldAddrS tab 69 v2 1) o9) fun v10 o10 =>
 bd (ret1 (loadS tab o10 3 v10) o10) fun v11 o11 =>
 bd (ret1 (binS tab .neq 3 v9 v11) o11) fun v12 o12 =>
 condS v12 (retV tab nl o12 (resC1 (some (SV.v (.bool false))) (some [])))
 (bd (ret1 (fieldAddrS tab 69 v1 2) o12) fun v13 o13 =>
 bd (ret1 (loadS tab o13 66 v13) o13) fun v14 o14 =>
 bd (ret1 (fieldAddrS tab 69 v2 2) o14) fun v15 o15 =>
 bd (ret1 (loadS tab o15 66 v15) o15) fun v16 o16 =>
 bd (callS ⟨tab, ownF, K⟩ o16 64 [v14, v16]) fun v17 o17 =>
 bd (ret1 (unS .not v17) o17) fun v18 o18 =>
 condS v18 (retV tab nl o18 (resC1 (some (SV.v (.bool false))) (some [])))
 (bd (ret1 (fieldAddrS tab 69 v1 3) o18) fun v19 o19 =>
 bd (ret1 (loadS tab o19 67 v19) o19) fun v20 o20 =>
 bd (ret1 (fieldAddrS tab 69 v2 3) o20) fun v21 o21 =>
 bd (ret1 (loadS tab o21 67 v21) o21) fun v22 o22 =>
 bd (callS ⟨tab, ownF, K⟩ o22 65 [v20, v22]) fun v23 o23 =>
 bd (ret1 (unS .not v23) o23) fun v24 o24 =>
 condS v24 (retV tab nl o24 (resC1 (some (SV.v (.bool false))) (some [])))
 (retV tab nl o24 (resC1 (some (SV.v (.bool true))) (some []))))))
noncomputable def bk45_2 (K : Nat → List SV → List SO → Out) (N nl : Nat) (m2 : Nat) : Env → List SO → Out := fun env os => loopS nl (fi45.lp 2) (fun env os nx => exec (cx K) N nl fi45 (subC c45 [1, 0, 1, 0, 0]) env os (kLoop nx (kBlock 0 (kSeq (exec (cx K) N nl fi45 (subC c45 [1, 1])) (fi45.jn 8) (kEnd tab [] nl rs45))))) m2 (killS (fi45.lp 2).alive env) os
noncomputable def L45_2 (K : Nat → List SV → List SO → Out) (N nl : Nat) (m2 : Nat) (x0 x1 x5 : SV) (os : List SO) : Out := loopS nl (fi45.lp 2) (fun env os nx => exec (cx K) N nl fi45 (subC c45 [1, 0, 1, 0, 0]) env os (kLoop nx (kBlock 0 (kSeq (exec (cx K) N nl fi45 (subC c45 [1, 1])) (fi45.jn 8) (kEnd tab [] nl rs45))))) m2 [(0, x0), (1, x1), (5, x5)] os
noncomputable def LB45_2 (K : Nat → List SV → List SO → Out) (N nl : Nat) (m2 : Nat) (x0 x1 x5 : SV) (os : List SO) : Out :=
 bd (lenO tab 66 os x0) fun v1 o1 =>
 bd (ret1 (binS tab .lss 3 x5 v1) o1) fun v2 o2 =>
 condS v2 (bd (ret1 (indexAddrS tab o2 66 x0 x5) o2) fun v3 o3 =>
 bd (ret1 (fieldAddrS tab 84 v3 0) o3) fun v4 o4 =>
 bd (storeO tab o4 3 v4 (some x1)) fun v5 o5 =>
 bd (ret1 (binS tab .add 3 x1 (SV.v (.int .i64 1))) o5) fun v6 o6 =>
 bd (ret1 (indexAddrS tab o6 66 x0 x5) o6) fun v7 o7 =>
 bd (ret1 (fieldAddrS tab 84 v7 1) o7) fun v8 o8 =>
 bd (storeO tab o8 3 v8 (some v6)) fun v9 o9 =>
 bd (ret1 (binS tab .add 3 v6 (SV.v (.int .i64 1))) o9) fun v10 o10 =>
 bd (ret1 (binS tab .add 3 x5 (SV.v (.int .i64 1))) o10) fun v11 o11 =>
 L45_2 K N nl m2 x0 v10 v11 o11)
 (retV tab nl o2 (resC1 (some x1) (some [])))
noncomputable def X45 (K : Nat → List SV → List SO → Out) (N nl : Nat) (x0 x1 : SV) (os : List SO) : Out := exec (cx K) N nl fi45 c45 [(0, x0), (1, x1)] os (kEnd tab [] nl rs45)
noncomputable def B45 (K : Nat → List SV → List SO → Out) (N nl : Nat) (x0 x1 : SV) (os : List SO) : Out :=
 L45_2 K N nl N x0 x1 (SV.v (.int .i64 0)) os
noncomputable def bk46_2 (K : Nat → List SV → List SO → Out) (N nl : Nat) (m2 : Nat) : Env → List SO → Out := fun env os => loopS nl (fi46.lp 2) (fun env os nx => exec (cx K) N nl fi46 (subC c46 [1, 0, 1, 0, 0]) env os (kLoop nx (kBlock 0 (kSeq (exec (cx K) N nl fi46 (subC c46 [1, 1])) (fi46.jn 8) (kEnd tab [] nl rs46))))) m2 (killS (fi46.lp 2).alive env) os
noncomputable def L46_2 (K : Nat → List SV → List SO → Out) (N nl : Nat) (m2 : Nat) (x0 x1 x5 : SV) (os : List SO) : Out := loopS nl (fi46.lp 2) (fun env os nx => exec (cx K) N nl fi46 (subC c46 [1, 0, 1, 0, 0]) env os (kLoop nx (kBlock 0 (kSeq (exec (cx K) N nl fi46 (subC c46 [1, 1])) (fi46.jn 8) (kEnd tab [] nl rs46))))) m2 [(0, x0), (1, x1), (5, x5)] os
noncomputable def LB46_2 (K : Nat → List SV → List SO → Out) (N nl : Nat) (m2 : Nat) (x0 x1 x5 : SV) (os : List SO) : Out :=
 bd (lenO tab 67 os x0) fun v1 o1 =>
 bd (ret1 (binS tab .lss 3 x5 v1) o1) fun v2 o2 =>
 condS v2 (bd (ret1 (indexAddrS tab o2 67 x0 x5) o2) fun v3 o3 =>
 bd (ret1 (fieldAddrS tab 81 v3 0) o3) fun v4 o4 =>
 bd (storeO tab o4 3 v4 (some x1)) fun v5 o5 =>
 bd (ret1 (binS tab .add 3 x1 (SV.v (.int .i64 1))) o5) fun v6 o6 =>
 bd (ret1 (indexAddrS tab o6 67 x0 x5) o6) fun v7 o7 =>
 bd (ret1 (fieldAddrS tab 81 v7 1) o7) fun v8 o8 =>
 bd (storeO tab o8 3 v8 (some v6)) fun v9 o9 =>
 bd (ret1 (binS tab .add 3 v6 (SV.v (.int .i64 1))) o9) fun v10 o10 =>
 bd (ret1 (binS tab .add 3 x5 (SV.v (.int .i64 1))) o10) fun v11 o11 =>
 L46_2 K N nl m2 x0 v10 v11 o11)
 (retV tab nl o2 (resC1 (some x1) (some [])))
noncomputable def X46 (K : Nat → List SV → List SO → Out) (N nl : Nat) (x0 x1 : SV) (os : List SO) : Out := exec (cx K) N nl fi46 c46 [(0, x0), (1, x1)] os (kEnd tab [] nl rs46)
noncomputable def B46 (K : Nat → List SV → List SO → Out) (N nl : Nat) (x0 x1 : SV) (os : List SO) : Out :=
 L46_2 K N nl N x0 x1 (SV.v (.int .i64 0)) os
noncomputable def bk47_2 (K : Nat → List SV → List SO → Out) (N nl : Nat) (m2 : Nat) : Env → List SO → Out := fun env os => loopS nl (fi47.lp 2) (fun env os nx => exec (cx K) N nl fi47 (subC c47 [1, 0, 1, 0, 0]) env os (kLoop nx (kBlock 0 (kSeq (exec (cx K) N nl fi47 (subC c47 [1, 1])) (fi47.jn 10) (kEnd tab [] nl rs47))))) m2 (killS (fi47.lp 2).alive env) os
noncomputable def L47_2 (K : Nat → List SV → List SO → Out) (N nl : Nat) (m2 : Nat) (x0 x1 x5 : SV) (os : List SO) : Out := loopS nl (fi47.lp 2) (fun env os nx => exec (cx K) N nl fi47 (subC c47 [1, 0, 1, 0, 0]) env os (kLoop nx (kBlock 0 (kSeq (exec (cx K) N nl fi47 (subC c47 [1, 1])) (fi47.jn 10) (kEnd tab [] nl rs47))))) m2 [(0, x0), (1, x1), (5, x5)] os
noncomputable def LB47_2 (K : Nat → List SV → List SO → Out) (N nl : Nat) (m2 : Nat) (x0 x1 x5 : SV) (os : List SO) : Out :=
 bd (lenO tab 66 os x0) fun v1 o1 =>
 bd (ret1 (binS tab .lss 3 x5 v1) o1) fun v2 o2 =>
 condS v2 (bd (ret1 (indexAddrS tab o2 66 x0 x5) o2) fun v3 o3 =>
 bd (ret1 (fieldAddrS tab 84 v3 0) o3) fun v4 o4 =>
 bd (ret1 (loadS tab o4 3 v4) o4) fun v5 o5 =>
 bd (ret1 (binS tab .neq 3 v5 x1) o5) fun v6 o6 =>
 condS v6 (retV tab nl o6 (resC1 (some (SV.v (.int .i64 (-1)))) (some [])))
 (bd (ret1 (binS tab .add 3 x1 (SV.v (.int .i64 1))) o6) fun v7 o7 =>
 bd (ret1 (indexAddrS tab o7 66 x0 x5) o7) fun v8 o8 =>
 bd (ret1 (fieldAddrS tab 84 v8 1) o8) fun v9 o9 =>
 bd (ret1 (loadS tab o9 3 v9) o9) fun v10 o10 =>
 bd (ret1 (binS tab .neq 3 v10 v7) o10) fun v11 o11 =>
 condS v11 (retV tab nl o11 (resC1 (some (SV.v (.int .i64 (-1)))) (some [])))
 (bd (ret1 (binS tab .add 3 v7 (SV.v (.int .i64 1))) o11) fun v12 o12 =>
 bd (ret1 (binS tab .add 3 x5 (SV.v (.int .i64 1))) o12) fun v13 o13 =>
 L47_2 K N nl m2 x0 v12 v13 o13)))
 (retV tab nl o2 (resC1 (some x1) (some [])))
noncomputable def X47 (K : Nat → List SV → List SO → Out) (N nl : Nat) (x0 x1 : SV) (os : List SO) : Out := exec (cx K) N nl fi47 c47 [(0, x0), (1, x1)] os (kEnd tab [] nl rs47)
noncomputable def B47 (K : Nat → List SV → List SO → Out) (N nl : Nat) (x0 x1 : SV) (os : List SO) : Out :=
 L47_2 K N nl N x0 x1 (SV.v (.int .i64 0)) os
noncomputable def bk48_2 (K : Nat → List SV → List SO → Out) (N nl : Nat) (m2 : Nat) : Env → List SO → Out := fun env os => loopS nl (fi48.lp 2) (fun env os nx => exec (cx K) N nl fi48 (subC c48 [1, 0, 1, 0, 0]) env os (kLoop nx (kBlock 0 (kSeq (exec (cx K) N nl fi48 (subC c48 [1, 1])) (fi48.jn 10) (kEnd tab [] nl rs48))))) m2 (killS (fi48.lp 2).alive env) os
noncomputable def L48_2 (K : Nat → List SV → List SO → Out) (N nl : Nat) (m2 : Nat) (x0 x1 x5 : SV) (os : List SO) : Out := loopS nl (fi48.lp 2) (fun env os nx => exec (cx K) N nl fi48 (subC c48 [1, 0, 1, 0, 0]) env os (kLoop nx (kBlock 0 (kSeq (exec (cx K) N nl fi48 (subC c48 [1, 1])) (fi48.jn 10) (kEnd tab [] nl rs48))))) m2 [(0, x0), (1, x1), (5, x5)] os
noncomputable def LB48_2 (K : Nat → List SV → List SO → Out) (N nl : Nat) (m2 : Nat) (x0 x1 x5 : SV) (os : List SO) : Out :=
 bd (lenO tab 67 os x0) fun v1 o1 =>
 bd (ret1 (binS tab .lss 3 x5 v1) o1) fun v2 o2 =>
 condS v2 (bd (ret1 (indexAddrS tab o2 67 x0 x5) o2) fun v3 o3 =>
 bd (ret1 (fieldAddrS tab 81 v3 0) o3) fun v4 o4 =>
 bd (ret1 (loadS tab o4 3 v4) o4) fun v5 o5 =>
 bd (ret1 (binS tab .neq 3 v5 x1) o5) fun v6 o6 =>
 condS v6 (retV tab nl o6 (resC1 (some (SV.v (.int .i64 (-1)))) (some [])))
 (bd (ret1 (binS tab .add 3 x1 (SV.v (.int .i64 1))) o6) fun v7 o7 =>
 bd (ret1 (indexAddrS tab o7 67 x0 x5) o7) fun v8 o8 =>
 bd (ret1 (fieldAddrS tab 81 v8 1) o8) fun v9 o9 =>
 bd (ret1 (loadS tab o9 3 v9) o9) fun v10 o10 =>
 bd (ret1 (binS tab .neq 3 v10 v7) o10) fun v11 o11 =>
 condS v11 (retV tab nl o11 (resC1 (some (SV.v (.int .i64 (-1)))) (some [])))
 (bd (ret1 (binS tab .add 3 v7 (SV.v (.int .i64 1))) o11) fun v12 o12 =>
 bd (ret1 (binS tab .add 3 x5 (SV.v (.int .i64 1))) o12) fun v13 o13 =>
 L48_2 K N nl m2 x0 v12 v13 o13)))
 (retV tab nl o2 (resC1 (some x1) (some [])))
noncomputable def X48 (K : Nat → List SV → List SO → Out) (N nl : Nat) (x0 x1 : SV) (os : List SO) : Out := exec (cx K) N nl fi48 c48 [(0, x0), (1, x1)] os (kEnd tab [] nl rs48)
noncomputable def B48 (K : Nat → List SV → List SO → Out) (N nl : Nat) (x0 x1 : SV) (os : List SO) : Out :=
 L48_2 K N nl N x0 x1 (SV.v (.int .i64 0)) os
noncomputable def X49 (K : Nat → List SV → List SO → Out) (N nl : Nat) (x0 x1 : SV) (os : List SO) : Out := exec (cx K) N nl fi49 c49 [(0, x0), (1, x1)] os (kEnd tab [] nl rs49)
noncomputable def B49 (K : Nat → List SV → List SO → Out) (N nl : Nat) (x0 x1 : SV) (os : List SO) : Out :=
 bd (lenO tab 59 os x0) fun v1 o1 =>
 bd (ret1 (binS tab .sub 3 x1 v1) o1) fun v2 o2 =>
 bd (ret1 (binS tab .lss 3 v2 (SV.v (.int .i64 0))) o2) fun v3 o3 =>
 condS v3 (retV tab nl o3 (resC1 (some (SV.v (.int .i64 (-1)))) (some [])))
 (retV tab nl o3 (resC1 (some v2) (some [])))
noncomputable def X50 (K : Nat → List SV → List SO → Out) (N nl : Nat) (x0 x1 : SV) (os : List SO) : Out := exec (cx K) N nl fi50 c50 [(0, x0), (1, x1)] os (kEnd tab [] nl rs50)
noncomputable def B50 (K : Nat → List SV → List SO → Out) (N nl : Nat) (x0 x1 : SV) (os : List SO) : Out :=
 bd (lenO tab 60 os x0) fun v1 o1 =>
 bd (ret1 (binS tab .sub 3 x1 v1) o1) fun v2 o2 =>
 bd (ret1 (binS tab .lss 3 v2 (SV.v (.int .i64 0))) o2) fun v3 o3 =>
 condS v3 (retV tab nl o3 (resC1 (some (SV.v (.int .i64 (-1)))) (some [])))
 (retV tab nl o3 (resC1 (some v2) (some [])))
noncomputable def X51 (K : Nat → List SV → List SO → Out) (N nl : Nat) (x0 : SV) (os : List SO) : Out := exec (cx K) N nl fi51 c51 [(0, x0)] os (kEnd tab [] nl rs51)
noncomputable def B51 (K : Nat → List SV → List SO → Out) (N nl : Nat) (x0 : SV) (os : List SO) : Out :=
 bd (callS ⟨tab, ownF, K⟩ os 66 [x0]) fun v1 o1 =>
 retV tab nl o1 (resC1 (some v1) (some []))
noncomputable def bk52_2 (K : Nat → List SV → List SO → Out) (N nl : Nat) (m2 : Nat) : Env → List SO → Out := fun env os => loopS nl (fi52.lp 2) (fun env os nx => exec (cx K) N nl fi52 (subC c52 [1, 0, 1, 0, 0]) env os (kLoop nx (kBlock 0 (kSeq (exec (cx K) N nl fi52 (subC c52 [1, 1])) (fi52.jn 6) (kEnd tab [] nl rs52))))) m2 (killS (fi52.lp 2).alive env) os
noncomputable def L52_2 (K : Nat → List SV → List SO → Out) (N nl : Nat) (m2 : Nat) (x0 x3 : SV) (os : List SO) : Out := loopS nl (fi52.lp 2) (fun env os nx => exec (cx K) N nl fi52 (subC c52 [1, 0, 1, 0, 0]) env os (kLoop nx (kBlock 0 (kSeq (exec (cx K) N nl fi52 (subC c52 [1, 1])) (fi52.jn 6) (kEnd tab [] nl rs52))))) m2 [(0, x0), (3, x3)] os
noncomputable def LB52_2 (K : Nat → List SV → List SO → Out) (N nl : Nat) (m2 : Nat) (x0 x3 : SV) (os : List SO) : Out :=
 bd (lenO tab 30 os x0) fun v1 o1 =>
 bd (ret1 (binS tab .lss 3 x3 v1) o1) fun v2 o2 =>
 condS v2 (bd (ret1 (binS tab .sub 3 x3 (SV.v (.int .i64 1))) o2) fun v3 o3 =>
 bd (ret1 (indexAddrS tab o3 30 x0 v3) o3) fun v4 o4 =>
 bd (ret1 (fieldAddrS tab 69 v4 0) o4) fun v5 o5 =>
 bd (ret1 (loadS tab o5 3 v5) o5) fun v6 o6 =>
 bd (ret1 (indexAddrS tab o6 30 x0 x3) o6) fun v7 o7 =>
 bd (ret1 (fieldAddrS tab 69 v7 0) o7) fun v8 o8 =>
 bd (ret1 (loadS tab o8 3 v8) o8) fun v9 o9 =>
 bd (ret1 (binS tab .geq 3 v6 v9) o9) fun v10 o10 =>
 condS v10 (retV tab nl o10 (resC1 (some (SV.v (.bool false))) (some [])))
 (bd (ret1 (binS tab .add 3 x3 (SV.v (.int .i64 1))) o10) fun v11 o11 =>
 L52_2 K N nl m2 x0 v11 o11))
 (retV tab nl o2 (resC1 (some (SV.v (.bool true))) (some [])))
noncomputable def X52 (K : Nat → List SV → List SO → Out) (N nl : Nat) (x0 : SV) (os : List SO) : Out := exec (cx K) N nl fi52 c52 [(0, x0)] os (kEnd tab [] nl rs52)
noncomputable def B52 (K : Nat → List SV → List SO → Out) (N nl : Nat) (x0 : SV) (os : List SO) : Out :=
 L52_2 K N nl N x0 (SV.v (.int .i64 1)) os
noncomputable def X53 (K : Nat → List SV → List SO → Out) (N nl : Nat) (x0 x1 : SV) (os : List SO) : Out := exec (cx K) N nl fi53 c53 [(0, x0), (1, x1)] os (kEnd tab [] nl rs53)
noncomputable def B53 (K : Nat → List SV → List SO → Out) (N nl : Nat) (x0 x1 : SV) (os : List SO) : Out :=
 bd (boxS tab os 81 (some x1)) fun v1 o1 =>
 bd (ret1 (fieldAddrS tab 81 v1 0) o1) fun v2 o2 =>
 bd (ret1 (loadS tab o2 3 v2) o2) fun v3 o3 =>
 bd (callS ⟨tab, ownF, K⟩ o3 67 [x0, v3]) fun v4 o4 =>
 bd (ret1 (extractS v4 0) o4) fun v5 o5 =>
 bd (ret1 (extractS v4 1) o5) fun v6 o6 =>
 bd (allocS tab o6 69) fun v7 o7 =>
 bd (storeO tab o7 69 v7 (some v5)) fun v8 o8 =>
 bd (gd v6 true (ret1 (fieldAddrS tab 69 v7 1) o8) o8) fun v9 o9 =>
 bd (gd v6 true (ret1 (loadS tab o9 3 v9) o9) o9) fun v10 o10 =>
 bd (gd v6 true (ret1 (fieldAddrS tab 81 v1 1) o10) o10) fun v11 o11 =>
 bd (gd v6 true (ret1 (loadS tab o11 3 v11) o11) o11) fun v12 o12 =>
 bd (gd v6 true (ret1 (binS tab .geq 3 v10 v12) o12) o12) fun v13 o13 =>
 bd (ret1 (pickS v6 v13 (SV.v (.bool false))) o13) fun v14 o14 =>
 retV tab nl o14 (resC1 (some v14) (some []))
noncomputable def bk54_2 (K : Nat → List SV → List SO → Out) (N nl : Nat) (m2 : Nat) : Env → List SO → Out := fun env os => loopS nl (fi54.lp 2) (fun env os nx => exec (cx K) N nl fi54 (subC c54 [1, 0, 1, 0, 0]) env os (kLoop nx (kBlock 0 (kSeq (exec (cx K) N nl fi54 (subC c54 [1, 1])) (fi54.jn 9) (kEnd tab [] nl rs54))))) m2 (killS (fi54.lp 2).alive env) os
noncomputable def bk54_5 (K : Nat → List SV → List SO → Out) (N nl : Nat) (m2 : Nat) (m5 : Nat) : Env → List SO → Out := fun env os => loopS nl (fi54.lp 5) (fun env os nx => exec (cx K) N nl fi54 (subC c54 [1, 0, 1, 0, 0, 1, 0, 0, 1, 0, 0]) env os (kLoop nx (kBlock 2 (kBlock 1 (kSeq (exec (cx K) N nl fi54 (subC c54 [1, 0, 1, 0, 0, 1, 1])) (fi54.jn 3) (kLoop (bk54_2 K N nl m2) (kBlock 0 (kSeq (exec (cx K) N nl fi54 (subC c54 [1, 1])) (fi54.jn 9) (kEnd tab [] nl rs54))))))))) m5 (killS (fi54.lp 5).alive env) os
noncomputable def L54_2 (K : Nat → List SV → List SO → Out) (N nl : Nat) (m2 : Nat) (x0 x1 x2 x7 : SV) (os : List SO) : Out := loopS nl (fi54.lp 2) (fun env os nx => exec (cx K) N nl fi54 (subC c54 [1, 0, 1, 0, 0]) env os (kLoop nx (kBlock 0 (kSeq (exec (cx K) N nl fi54 (subC c54 [1, 1])) (fi54.jn 9) (kEnd tab [] nl rs54))))) m2 [(0, x0), (1, x1), (2, x2), (7, x7)] os
noncomputable def L54_5 (K : Nat → List SV → List SO → Out) (N nl : Nat) (m2 : Nat) (m5 : Nat) (x0 x1 x2 x7 x8 : SV) (os : List SO) : Out := loopS nl (fi54.lp 5) (fun env os nx => exec (cx K) N nl fi54 (subC c54 [1, 0, 1, 0, 0, 1, 0, 0, 1, 0, 0]) env os (kLoop nx (kBlock 2 (kBlock 1 (kSeq (exec (cx K) N nl fi54 (subC c54 [1, 0, 1, 0, 0, 1, 1])) (fi54.jn 3) (kLoop (bk54_2 K N nl m2) (kBlock 0 (kSeq (exec (cx K) N nl fi54 (subC c54 [1, 1])) (fi54.jn 9) (kEnd tab [] nl rs54))))))))) m5 [(0, x0), (1, x1), (2, x2), (7, x7), (8, x8)] os
noncomputable def LB54_2 (K : Nat → List SV → List SO → Out) (N nl : Nat) (m2 : Nat) (x0 x1 x2 x7 : SV) (os : List SO) : Out :=
 bd (ret1 (binS tab .lss 3 x7 x1) os) fun v1 o1 =>
 condS v1 (L54_5 K N nl m2 N x0 x1 x2 x7 (SV.v (.int .i64 0)) o1)
 (retV tab nl o1 (resC1 (some (SV.v (.int .i64 (-1)))) (some [])))
noncomputable def LB54_5 (K : Nat → List SV → List SO → Out) (N nl : Nat) (m2 : Nat) (m5 : Nat) (x0 x1 x2 x7 x8 : SV) (os : List SO) : Out :=
 bd (ret1 (indexAddrS tab os 30 x0 x7) os) fun v2 o2 =>
 bd (ret1 (fieldAddrS tab 69 v2 2) o2) fun v3 o3 =>
 bd (ret1 (loadS tab o3 66 v3) o3) fun v4 o4 =>
 bd (lenO tab 66 o4 v4) fun v5 o5 =>
 bd (ret1 (binS tab .lss 3 x8 v5) o5) fun v6 o6 =>
 condS v6 (bd (ret1 (indexAddrS tab o6 30 x0 x7) o6) fun v7 o7 =>
 bd (ret1 (fieldAddrS tab 69 v7 2) o7) fun v8 o8 =>
 bd (ret1 (loadS tab o8 66 v8) o8) fun v9 o9 =>
 bd (ret1 (indexAddrS tab o9 66 v9 x8) o9) fun v10 o10 =>
 bd (ret1 (fieldAddrS tab 84 v10 0) o10) fun v11 o11 =>
 bd (ret1 (loadS tab o11 3 v11) o11) fun v12 o12 =>
 bd (ret1 (binS tab .eql 3 v12 x2) o12) fun v13 o13 =>
 condS v13 (retV tab nl o13 (resC1 (some x7) (some [])))
 (bd (ret1 (binS tab .add 3 x8 (SV.v (.int .i64 1))) o13) fun v14 o14 =>
 L54_5 K N nl m2 m5 x0 x1 x2 x7 v14 o14))
 (bd (ret1 (binS tab .add 3 x7 (SV.v (.int .i64 1))) o6) fun v15 o15 =>
 L54_2 K N nl m2 x0 x1 x2 v15 o15)
noncomputable def X54 (K : Nat → List SV → List SO → Out) (N nl : Nat) (x0 x1 x2 : SV) (os : List SO) : Out := exec (cx K) N nl fi54 c54 [(0, x0), (1, x1), (2, x2)] os (kEnd tab [] nl rs54)
noncomputable def B54 (K : Nat → List SV → List SO → Out) (N nl : Nat) (x0 x1 x2 : SV) (os : List SO) : Out :=
 L54_2 K N nl N x0 x1 x2 (SV.v (.int .i64 0)) os
noncomputable def X55 (K : Nat → List SV → List SO → Out) (N nl : Nat) (x0 : SV) (os : List SO) : Out := exec (cx K) N nl fi55 c55 [(0, x0)] os (kEnd tab [] nl rs55)
noncomputable def B55 (K : Nat → List SV → List SO → Out) (N nl : Nat) (x0 : SV) (os : List SO) : Out :=
 bd (boxS tab os 69 (some x0)) fun v1 o1 =>
 bd (allocS tab o1 69) fun v2 o2 =>
 bd (buildSliceS tab o2 66 0 []) fun v3 o3 =>
 bd (ret1 (fieldAddrS tab 69 v1 2) o3) fun v4 o4 =>
 bd (ret1 (loadS tab o4 66 v4) o4) fun v5 o5 =>
 bd (appendS tab o5 66 66 v3 v5) fun v6 o6 =>
 bd (ret1 (fieldAddrS tab 69 v1 2) o6) fun v7 o7 =>
 bd (storeO tab o7 66 v7 (some v6)) fun v8 o8 =>
 bd (buildSliceS tab o8 67 0 []) fun v9 o9 =>
 bd (ret1 (fieldAddrS tab 69 v1 3) o9) fun v10 o10 =>
 bd (ret1 (loadS tab o10 67 v10) o10) fun v11 o11 =>
 bd (appendS tab o11 67 67 v9 v11) fun v12 o12 =>
 bd (ret1 (fieldAddrS tab 69 v1 3) o12) fun v13 o13 =>
 bd (storeO tab o13 67 v13 (some v12)) fun v14 o14 =>
 bd (ret1 (loadS tab o14 69 v1) o14) fun v15 o15 =>
 bd (storeO tab o15 69 v2 (some v15)) fun v16 o16 =>
 retV tab nl o16 (resC1 (loadS tab o16 69 v2) (some []))
noncomputable def bk56_3 (K : Nat → List SV → List SO → Out) (N nl : Nat) (m3 : Nat) : Env → List SO → Out := fun env os => loopS nl (fi56.lp 3) (fun env os nx => exec (cx K) N nl fi56 (subC c56 [1, 1, 0, 1, 0, 0]) env os (kLoop nx (kBlock 0 (kSeq (exec (cx K) N nl fi56 (subC c56 [1, 1, 1])) (fi56.jn 6) (kEnd tab [] nl rs56))))) m3 (killS (fi56.lp 3).alive env) os
noncomputable def L56_3 (K : Nat → List SV → List SO → Out) (N nl : Nat) (m3 : Nat) (x0 x3 x4 : SV) (os : List SO) : Out := loopS nl (fi56.lp 3) (fun env os nx => exec (cx K) N nl fi56 (subC c56 [1, 1, 0, 1, 0, 0]) env os (kLoop nx (kBlock 0 (kSeq (exec (cx K) N nl fi56 (subC c56 [1, 1, 1])) (fi56.jn 6) (kEnd tab [] nl rs56))))) m3 [(0, x0), (3, x3), (4, x4)] os
noncomputable def LB56_3 (K : Nat → List SV → List SO → Out) (N nl : Nat) (m3 : Nat) (x0 x3 x4 : SV) (os : List SO) : Out :=
 bd (lenO tab 59 os x0) fun v4 o4 =>
 bd (ret1 (binS tab .lss 3 x4 v4) o4) fun v5 o5 =>
 condS v5 (bd (ret1 (indexAddrS tab o5 59 x0 x4) o5) fun v6 o6 =>
 bd (ret1 (loadS tab o6 98 v6) o6) fun v7 o7 =>
 bd (callS ⟨tab, ownF, K⟩ o7 68 [v7]) fun v8 o8 =>
 bd (ret1 (indexAddrS tab o8 66 x3 x4) o8) fun v9 o9 =>
 bd (storeO tab o9 84 v9 (some v8)) fun v10 o10 =>
 bd (ret1 (binS tab .add 3 x4 (SV.v (.int .i64 1))) o10) fun v11 o11 =>
 L56_3 K N nl m3 x0 x3 v11 o11)
 (retV tab nl o5 (resC1 (some x3) (some [])))
noncomputable def X56 (K : Nat → List SV → List SO → Out) (N nl : Nat) (x0 : SV) (os : List SO) : Out := exec (cx K) N nl fi56 c56 [(0, x0)] os (kEnd tab [] nl rs56)
noncomputable def B56 (K : Nat → List SV → List SO → Out) (N nl : Nat) (x0 : SV) (os : List SO) : Out :=
 bd (evN tab 66 os none) fun v1 o1 =>
 bd (lenO tab 59 o1 x0) fun v2 o2 =>
 bd (makeS tab o2 66 v2 v2) fun v3 o3 =>
 L56_3 K N nl N x0 v3 (SV.v (.int .i64 0)) o3
noncomputable def bk57_3 (K : Nat → List SV → List SO → Out) (N nl : Nat) (m3 : Nat) : Env → List SO → Out := fun env os => loopS nl (fi57.lp 3) (fun env os nx => exec (cx K) N nl fi57 (subC c57 [1, 1, 0, 1, 0, 0]) env os (kLoop nx (kBlock 0 (kSeq (exec (cx K) N nl fi57 (subC c57 [1, 1, 1])) (fi57.jn 6) (kEnd tab [] nl rs57))))) m3 (killS (fi57.lp 3).alive env) os
noncomputable def L57_3 (K : Nat → List SV → List SO → Out) (N nl : Nat) (m3 : Nat) (x0 x3 x4 : SV) (os : List SO) : Out := loopS nl (fi57.lp 3) (fun env os nx => exec (cx K) N nl fi57 (subC c57 [1, 1, 0, 1, 0, 0]) env os (kLoop nx (kBlock 0 (kSeq (exec (cx K) N nl fi57 (subC c57 [1, 1, 1])) (fi57.jn 6) (kEnd tab [] nl rs57))))) m3 [(0, x0), (3, x3), (4, x4)] os
noncomputable def LB57_3 (K : Nat → List SV → List SO → Out) (N nl : Nat) (m3 : Nat) (x0 x3 x4 : SV) (os : List SO) : Out :=
 bd (lenO tab 60 os x0) fun v4 o4 =>
 bd (ret1 (binS tab .lss 3 x4 v4) o4) fun v5 o5 =>
 condS v5 (bd (ret1 (indexAddrS tab o5 60 x0 x4) o5) fun v6 o6 =>
 bd (ret1 (loadS tab o6 100 v6) o6) fun v7 o7 =>
 bd (callS ⟨tab, ownF, K⟩ o7 69 [v7]) fun v8 o8 =>
 bd (ret1 (indexAddrS tab o8 67 x3 x4) o8) fun v9 o9 =>
 bd (storeO tab o9 81 v9 (some v8)) fun v10 o10 =>
 bd (ret1 (binS tab .add 3 x4 (SV.v (.int .i64 1))) o10) fun v11 o11 =>
 L57_3 K N nl m3 x0 x3 v11 o11)
 (retV tab nl o5 (resC1 (some x3) (some [])))
noncomputable def X57 (K : Nat → List SV → List SO → Out) (N nl : Nat) (x0 : SV) (os : List SO) : Out := exec (cx K) N nl fi57 c57 [(0, x0)] os (kEnd tab [] nl rs57)
noncomputable def B57 (K : Nat → List SV → List SO → Out) (N nl : Nat) (x0 : SV) (os : List SO) : Out :=
 bd (evN tab 67 os none) fun v1 o1 =>
 bd (lenO tab 60 o1 x0) fun v2 o2 =>
 bd (makeS tab o2 67 v2 v2) fun v3 o3 =>
 L57_3 K N nl N x0 v3 (SV.v (.int .i64 0)) o3
noncomputable def bk58_2 (K : Nat → List SV → List SO → Out) (N nl : Nat) (m2 : Nat) : Env → List SO → Out := fun env os => loopS nl (fi58.lp 2) (fun env os nx => exec (cx K) N nl fi58 (subC c58 [1, 0, 1, 0, 0]) env os (kLoop nx (kBlock 0 (kSeq (exec (cx K) N nl fi58 (subC c58 [1, 1])) (fi58.jn 7) (kEnd tab [] nl rs58))))) m2 (killS (fi58.lp 2).alive env) os
noncomputable def L58_2 (K : Nat → List SV → List SO → Out) (N nl : Nat) (m2 : Nat) (x0 x1 x7 x8 : SV) (os : List SO) : Out := loopS nl (fi58.lp 2) (fun env os nx => exec (cx K) N nl fi58 (subC c58 [1, 0, 1, 0, 0]) env os (kLoop nx (kBlock 0 (kSeq (exec (cx K) N nl fi58 (subC c58 [1, 1])) (fi58.jn 7) (kEnd tab [] nl rs58))))) m2 [(0, x0), (1, x1), (7, x7), (8, x8)] os
noncomputable def LB58_2 (K : Nat → List SV → List SO → Out) (N nl : Nat) (m2 : Nat) (x0 x1 x7 x8 : SV) (os : List SO) : Out :=
 bd (ret1 (binS tab .lss 3 x8 x7) os) fun v2 o2 =>
 condS v2 (bd (ret1 (indexAddrS tab o2 23 x0 x8) o2) fun v3 o3 =>
 bd (ret1 (loadS tab o3 3 v3) o3) fun v4 o4 =>
 bd (calleeS ⟨tab, ownF, K⟩ o4 x1 [v4]) fun v5 o5 =>
 condS v5 (retV tab nl o5 (resC1 (some x8) (some [])))
 (bd (ret1 (binS tab .add 3 x8 (SV.v (.int .i64 1))) o5) fun v6 o6 =>
 L58_2 K N nl m2 x0 x1 x7 v6 o6))
 (retV tab nl o2 (resC1 (some (SV.v (.int .i64 (-1)))) (some [])))
noncomputable def X58 (K : Nat → List SV → List SO → Out) (N nl : Nat) (x0 x1 : SV) (os : List SO) : Out := exec (cx K) N nl fi58 c58 [(0, x0), (1, x1)] os (kEnd tab [] nl rs58)
noncomputable def B58 (K : Nat → List SV → List SO → Out) (N nl : Nat) (x0 x1 : SV) (os : List SO) : Out :=
 bd (lenO tab 23 os x0) fun v1 o1 =>
 L58_2 K N nl N x0 x1 v1 (SV.v (.int .i64 0)) o1
noncomputable def bk59_2 (K : Nat → List SV → List SO → Out) (N nl : Nat) (m2 : Nat) : Env → List SO → Out := fun env os => loopS nl (fi59.lp 2) (fun env os nx => exec (cx K) N nl fi59 (subC c59 [1, 0, 1, 0, 0]) env os (kLoop nx (kBlock 0 (kSeq (exec (cx K) N nl fi59 (subC c59 [1, 1])) (fi59.jn 7) (kEnd tab [] nl rs59))))) m2 (killS (fi59.lp 2).alive env) os
noncomputable def L59_2 (K : Nat → List SV → List SO → Out) (N nl : Nat) (m2 : Nat) (x0 x5 x6 x7 : SV) (os : List SO) : Out := loopS nl (fi59.lp 2) (fun env os nx => exec (cx K) N nl fi59 (subC c59 [1, 0, 1, 0, 0]) env os (kLoop nx (kBlock 0 (kSeq (exec (cx K) N nl fi59 (subC c59 [1, 1])) (fi59.jn 7) (kEnd tab [] nl rs59))))) m2 [(0, x0), (5, x5), (6, x6), (7, x7)] os
noncomputable def G59_2 (K : Nat → List SV → List SO → Out) (N nl : Nat) (m2 : Nat) (xs : List SV) (os : List SO) : Out := (fun env os nx => exec (cx K) N nl fi59 (subC c59 [1, 0, 1, 0, 0]) env os (kLoop nx (kBlock 0 (kSeq (exec (cx K) N nl fi59 (subC c59 [1, 1])) (fi59.jn 7) (kEnd tab [] nl rs59))))) (zipE [0, 5, 6, 7] xs) os (bk59_2 K N nl m2)
noncomputable def GB59_2 (K : Nat → List SV → List SO → Out) (N nl : Nat) (m2 : Nat) (x0 x5 x6 x7 : SV) (os : List SO) : Out :=
 bd (ret1 (binS tab .lss 3 x7 x6) os) fun v2 o2 =>
 condS v2 (bd (ret1 (indexAddrS tab o2 30 x5 x7) o2) fun v3 o3 =>
 bd (ret1 (loadS tab o3 69 v3) o3) fun v4 o4 =>
 bd (allocS tab o4 69) fun v5 o5 =>
 bd (storeO tab o5 69 v5 (some v4)) fun v6 o6 =>
 bd (ret1 (loadS tab o6 69 v5) o6) fun v7 o7 =>
 bd (callS ⟨tab, ownF, K⟩ o7 70 [v7]) fun v8 o8 =>
 bd (ret1 (unS .not v8) o8) fun v9 o9 =>
 bd (gd v9 false (some (x7, o9)) o9) fun v10 o10 =>
 bd (gd v9 false (ret1 (binS tab .gtr 3 v10 (SV.v (.int .i64 0))) o10) o10) fun v11 o11 =>
 bd (gd v9 false (some (v11, o11)) o11) fun v12 o12 =>
 bd (gd v12 true (some (x0, o12)) o12) fun v13 o13 =>
 bd (gd v12 true (some (x7, o13)) o13) fun v14 o14 =>
 bd (gd v12 true (ret1 (binS tab .sub 3 v14 (SV.v (.int .i64 1))) o14) o14) fun v15 o15 =>
 bd (gd v12 true (ret1 (indexAddrS tab o15 30 v13 v15) o15) o15) fun v16 o16 =>
 bd (gd v12 true (ret1 (loadS tab o16 69 v16) o16) o16) fun v17 o17 =>
 bd (gd v12 true (ret1 (loadS tab o17 69 v5) o17) o17) fun v18 o18 =>
 bd (gd v12 true (callS ⟨tab, ownF, K⟩ o18 71 [v17, v18]) o18) fun v19 o19 =>
 bd (gd v12 true (ret1 (binS tab .geq 3 v19 (SV.v (.int .i64 0))) o19) o19) fun v20 o20 =>
 bd (gd v9 false (ret1 (pickS v12 v20 (SV.v (.bool false))) o20) o20) fun v21 o21 =>
 bd (ret1 (pickS v9 (SV.v (.bool true)) v21) o21) fun v22 o22 =>
 condS v22 (retV tab nl o22 (resC1 (some (SV.v (.bool false))) (some [])))
 (bd (ret1 (binS tab .add 3 x7 (SV.v (.int .i64 1))) o22) fun v23 o23 =>
 L59_2 K N nl m2 x0 x5 x6 v23 o23))
 (retV tab nl o2 (resC1 (some (SV.v (.bool true))) (some [])))
noncomputable def X59 (K : Nat → List SV → List SO → Out) (N nl : Nat) (x0 : SV) (os : List SO) : Out := exec (cx K) N nl fi59 c59 [(0, x0)] os (kEnd tab [] nl rs59)
noncomputable def B59 (K : Nat → List SV → List SO → Out) (N nl : Nat) (x0 : SV) (os : List SO) : Out :=
 bd (lenO tab 30 os x0) fun v1 o1 =>
 L59_2 K N nl N x0 x0 v1 (SV.v (.int .i64 0)) o1
noncomputable def X60 (K : Nat → List SV → List SO → Out) (N nl : Nat) (x0 x1 : SV) (os : List SO) : Out := exec (cx K) N nl fi60 c60 [(0, x0), (1, x1)] os (kEnd tab [] nl rs60)
noncomputable def B60 (K : Nat → List SV → List SO → Out) (N nl : Nat) (x0 x1 : SV) (os : List SO) : Out :=
 bd (callS ⟨tab, ownF, K⟩ os 72 [x0, x1]) fun v1 o1 =>
 bd (ret1 (binS tab .geq 3 v1 (SV.v (.int .i64 0))) o1) fun v2 o2 =>
 retV tab nl o2 (resC1 (some v2) (some []))
noncomputable def X61 (K : Nat → List SV → List SO → Out) (N nl : Nat) (x0 x1 : SV) (os : List SO) : Out := exec (cx K) N nl fi61 c61 [(0, x0), (1, x1)] os (kEnd tab [] nl rs61)
noncomputable def B61 (K : Nat → List SV → List SO → Out) (N nl : Nat) (x0 x1 : SV) (os : List SO) : Out :=
 bd (boxS tab os 81 (some x0)) fun v1 o1 =>
 bd (ret1 (loadS tab o1 30 x1) o1) fun v2 o2 =>
 bd (ret1 (loadS tab o2 81 v1) o2) fun v3 o3 =>
 bd (callS ⟨tab, ownF, K⟩ o3 62 [v2, v3]) fun v4 o4 =>
 bd (ret1 (unS .not v4) o4) fun v5 o5 =>
 retV tab nl o5 (resC1 (some v5) (some []))
noncomputable def X62 (K : Nat → List SV → List SO → Out) (N nl : Nat) (x0 x1 : SV) (os : List SO) : Out := exec (cx K) N nl fi62 c62 [(0, x0), (1, x1)] os (kEnd tab [] nl rs62)
noncomputable def B62 (K : Nat → List SV → List SO → Out) (N nl : Nat) (x0 x1 : SV) (os : List SO) : Out :=
 bd (boxS tab os 81 (some x1)) fun v1 o1 =>
 bd (callS ⟨tab, ownF, K⟩ o1 73 [x0, (SV.fn 74 [v1])]) fun v2 o2 =>
 retV tab nl o2 (resC1 (some v2) (some []))
noncomputable def X63 (K : Nat → List SV → List SO → Out) (N nl : Nat) (x0 : SV) (os : List SO) : Out := exec (cx K) N nl fi63 c63 [(0, x0)] os (kEnd tab [] nl rs63)
noncomputable def B63 (K : Nat → List SV → List SO → Out) (N nl : Nat) (x0 : SV) (os : List SO) : Out :=
 bd (boxS tab os 69 (some x0)) fun v1 o1 =>
 bd (allocS tab o1 69) fun v2 o2 =>
 bd (ret1 (fieldAddrS tab 69 v1 2) o2) fun v3 o3 =>
 bd (ret1 (loadS tab o3 66 v3) o3) fun v4 o4 =>
 dchk (keepOk ⟨tab, ownF, K⟩ o4 (SV.fn 75 []) [v4] [] true) <|
 bd (callS ⟨tab, ownF, K⟩ o4 75 [v4]) fun v5 o5 =>
 bd (ret1 (fieldAddrS tab 69 v1 3) o5) fun v6 o6 =>
 dchk (isBox v6) <|
 bd (ret1 (loadS tab o6 67 v6) o6) fun v7 o7 =>
 bd (callS ⟨tab, ownF, K⟩ o7 76 [v7]) fun v8 o8 =>
 bd (ret1 (fieldAddrS tab 69 v1 2) o8) fun v9 o9 =>
 bd (storeO tab o9 66 v9 (some v5)) fun v10 o10 =>
 bd (ret1 (fieldAddrS tab 69 v1 3) o10) fun v11 o11 =>
 bd (storeO tab o11 67 v11 (some v8)) fun v12 o12 =>
 bd (ret1 (loadS tab o12 69 v1) o12) fun v13 o13 =>
 bd (storeO tab o13 69 v2 (some v13)) fun v14 o14 =>
 retV tab nl o14 (resC1 (loadS tab o14 69 v2) (some []))
noncomputable def bk64_4 (K : Nat → List SV → List SO → Out) (N nl : Nat) (m4 : Nat) : Env → List SO → Out := fun env os => loopS nl (fi64.lp 4) (fun env os nx => exec (cx K) N nl fi64 (subC c64 [1, 1, 0, 1, 0, 0]) env os (kLoop nx (kBlock 0 (kSeq (exec (cx K) N nl fi64 (subC c64 [1, 1, 1])) (fi64.jn 8) (kEnd tab [] nl rs64))))) m4 (killS (fi64.lp 4).alive env) os
noncomputable def L64_4 (K : Nat → List SV → List SO → Out) (N nl : Nat) (m4 : Nat) (x0 x1 x5 : SV) (os : List SO) : Out := loopS nl (fi64.lp 4) (fun env os nx => exec (cx K) N nl fi64 (subC c64 [1, 1, 0, 1, 0, 0]) env os (kLoop nx (kBlock 0 (kSeq (exec (cx K) N nl fi64 (subC c64 [1, 1, 1])) (fi64.jn 8) (kEnd tab [] nl rs64))))) m4 [(0, x0), (1, x1), (5, x5)] os
noncomputable def LB64_4 (K : Nat → List SV → List SO → Out) (N nl : Nat) (m4 : Nat) (x0 x1 x5 : SV) (os : List SO) : Out :=
 bd (lenO tab 66 os x0) fun v4 o4 =>
 bd (ret1 (binS tab .lss 3 x5 v4) o4) fun v5 o5 =>
 condS v5 (bd (ret1 (indexAddrS tab o5 66 x0 x5) o5) fun v6 o6 =>
 bd (ret1 (loadS tab o6 84 v6) o6) fun v7 o7 =>
 bd (ret1 (indexAddrS tab o7 66 x1 x5) o7) fun v8 o8 =>
 bd (ret1 (loadS tab o8 84 v8) o8) fun v9 o9 =>
 bd (callS ⟨tab, ownF, K⟩ o9 77 [v7, v9]) fun v10 o10 =>
 bd (ret1 (unS .not v10) o10) fun v11 o11 =>
 condS v11 (retV tab nl o11 (resC1 (some (SV.v (.bool false))) (some [])))
 (bd (ret1 (binS tab .add 3 x5 (SV.v (.int .i64 1))) o11) fun v12 o12 =>
 L64_4 K N nl m4 x0 x1 v12 o12))
 (retV tab nl o5 (resC1 (some (SV.v (.bool true))) (some [])))
noncomputable def X64 (K : Nat → List SV → List SO → Out) (N nl : Nat) (x0 x1 : SV) (os : List SO) : Out := exec (cx K) N nl fi64 c64 [(0, x0), (1, x1)] os (kEnd tab [] nl rs64)
noncomputable def B64 (K : Nat → List SV → List SO → Out) (N nl : Nat) (x0 x1 : SV) (os : List SO) : Out :=
 bd (lenO tab 66 os x0) fun v1 o1 =>
 bd (lenO tab 66 o1 x1) fun v2 o2 =>
 bd (ret1 (binS tab .neq 3 v1 v2) o2) fun v3 o3 =>
 condS v3 (retV tab nl o3 (resC1 (some (SV.v (.bool false))) (some [])))
 (L64_4 K N nl N x0 x1 (SV.v (.int .i64 0)) o3)
noncomputable def bk65_4 (K : Nat → List SV → List SO → Out) (N nl : Nat) (m4 : Nat) : Env → List SO → Out := fun env os => loopS nl (fi65.lp 4) (fun env os nx => exec (cx K) N nl fi65 (subC c65 [1, 1, 0, 1, 0, 0]) env os (kLoop nx (kBlock 0 (kSeq (exec (cx K) N nl fi65 (subC c65 [1, 1, 1])) (fi65.jn 8) (kEnd tab [] nl rs65))))) m4 (killS (fi65.lp 4).alive env) os
noncomputable def L65_4 (K : Nat → List SV → List SO → Out) (N nl : Nat) (m4 : Nat) (x0 x1 x5 : SV) (os : List SO) : Out := loopS nl (fi65.lp 4) (fun env os nx => exec (cx K) N nl fi65 (subC c65 [1, 1, 0, 1, 0, 0]) env os (kLoop nx (kBlock 0 (kSeq (exec (cx K) N nl fi65 (subC c65 [1, 1, 1])) (fi65.jn 8) (kEnd tab [] nl rs65))))) m4 [(0, x0), (1, x1), (5, x5)] os
noncomputable def LB65_4 (K : Nat → List SV → List SO → Out) (N nl : Nat) (m4 : Nat) (x0 x1 x5 : SV) (os : List SO) : Out :=
 bd (lenO tab 67 os x0) fun v4 o4 =>
 bd (ret1 (binS tab .lss 3 x5 v4) o4) fun v5 o5 =>
 condS v5 (bd (ret1 (indexAddrS tab o5 67 x0 x5) o5) fun v6 o6 =>
 bd (ret1 (loadS tab o6 81 v6) o6) fun v7 o7 =>
 bd (ret1 (indexAddrS tab o7 67 x1 x5) o7) fun v8 o8 =>
 bd (ret1 (loadS tab o8 81 v8) o8) fun v9 o9 =>
 bd (callS ⟨tab, ownF, K⟩ o9 78 [v7, v9]) fun v10 o10 =>
 bd (ret1 (unS .not v10) o10) fun v11 o11 =>
 condS v11 (retV tab nl o11 (resC1 (some (SV.v (.bool false))) (some [])))
 (bd (ret1 (binS tab .add 3 x5 (SV.v (.int .i64 1))) o11) fun v12 o12 =>
 L65_4 K N nl m4 x0 x1 v12 o12))
 (retV tab nl o5 (resC1 (some (SV.v (.bool true))) (some [])))
noncomputable def X65 (K : Nat → List SV → List SO → Out) (N nl : Nat) (x0 x1 : SV) (os : List SO) : Out := exec (cx K) N nl fi65 c65 [(0, x0), (1, x1)] os (kEnd tab [] nl rs65)
noncomputable def B65 (K : Nat → List SV → List SO → Out) (N nl : Nat) (x0 x1 : SV) (os : List SO) : Out :=
 bd (lenO tab 67 os x0) fun v1 o1 =>
 bd (lenO tab 67 o1 x1) fun v2 o2 =>
 bd (ret1 (binS tab .neq 3 v1 v2) o2) fun v3 o3 =>
 condS v3 (retV tab nl o3 (resC1 (some (SV.v (.bool false))) (some [])))
 (L65_4 K N nl N x0 x1 (SV.v (.int .i64 0)) o3)
noncomputable def bk66_2 (K : Nat → List SV → List SO → Out) (N nl : Nat) (m2 : Nat) : Env → List SO → Out := fun env os => loopS nl (fi66.lp 2) (fun env os nx => exec (cx K) N nl fi66 (subC c66 [1, 0, 1, 0, 0]) env os (kLoop nx (kBlock 0 (kSeq (exec (cx K) N nl fi66 (subC c66 [1, 1])) (fi66.jn 6) (kEnd tab [] nl rs66))))) m2 (killS (fi66.lp 2).alive env) os
noncomputable def L66_2 (K : Nat → List SV → List SO → Out) (N nl : Nat) (m2 : Nat) (x0 x3 : SV) (os : List SO) : Out := loopS nl (fi66.lp 2) (fun env os nx => exec (cx K) N nl fi66 (subC c66 [1, 0, 1, 0, 0]) env os (kLoop nx (kBlock 0 (kSeq (exec (cx K) N nl fi66 (subC c66 [1, 1])) (fi66.jn 6) (kEnd tab [] nl rs66))))) m2 [(0, x0), (3, x3)] os
noncomputable def LB66_2 (K : Nat → List SV → List SO → Out) (N nl : Nat) (m2 : Nat) (x0 x3 : SV) (os : List SO) : Out :=
 bd (lenO tab 30 os x0) fun v1 o1 =>
 bd (ret1 (binS tab .lss 3 x3 v1) o1) fun v2 o2 =>
 condS v2 (bd (ret1 (indexAddrS tab o2 30 x0 x3) o2) fun v3 o3 =>
 bd (ret1 (loadS tab o3 69 v3) o3) fun v4 o4 =>
 bd (callS ⟨tab, ownF, K⟩ o4 79 [v4]) fun v5 o5 =>
 bd (ret1 (unS .not v5) o5) fun v6 o6 =>
 bd (gd v6 false (some (x3, o6)) o6) fun v7 o7 =>
 bd (gd v6 false (ret1 (binS tab .gtr 3 v7 (SV.v (.int .i64 0))) o7) o7) fun v8 o8 =>
 bd (gd v6 false (some (v8, o8)) o8) fun v9 o9 =>
 bd (gd v9 true (some (x0, o9)) o9) fun v10 o10 =>
 bd (gd v9 true (some (x3, o10)) o10) fun v11 o11 =>
 bd (gd v9 true (ret1 (binS tab .sub 3 v11 (SV.v (.int .i64 1))) o11) o11) fun v12 o12 =>
 bd (gd v9 true (ret1 (indexAddrS tab o12 30 v10 v12) o12) o12) fun v13 o13 =>
 bd (gd v9 true (ret1 (fieldAddrS tab 69 v13 0) o13) o13) fun v14 o14 =>
 bd (gd v9 true (ret1 (loadS tab o14 3 v14) o14) o14) fun v15 o15 =>
 bd (gd v9 true (some (x0, o15)) o15) fun v16 o16 =>
 bd (gd v9 true (some (x3, o16)) o16) fun v17 o17 =>
 bd (gd v9 true (ret1 (binS tab .sub 3 v17 (SV.v (.int .i64 1))) o17) o17) fun v18 o18 =>
 bd (gd v9 true (ret1 (indexAddrS tab o18 30 v16 v18) o18) o18) fun v19 o19 =>
 bd (gd v9 true (ret1 (fieldAddrS tab 69 v19 1) o19) o19) fun v20 o20 =>
 bd (gd v9 true (ret1 (loadS tab o20 3 v20) o20) o20) fun v21 o21 =>
 bd (gd v9 true (some (x0, o21)) o21) fun v22 o22 =>
 bd (gd v9 true (some (x3, o22)) o22) fun v23 o23 =>
 bd (gd v9 true (ret1 (indexAddrS tab o23 30 v22 v23) o23) o23) fun v24 o24 =>
 bd (gd v9 true (ret1 (fieldAddrS tab 69 v24 0) o24) o24) fun v25 o25 =>
 bd (gd v9 true (ret1 (loadS tab o25 3 v25) o25) o25) fun v26 o26 =>
 bd (gd v9 true (some (x0, o26)) o26) fun v27 o27 =>
 bd (gd v9 true (some (x3, o27)) o27) fun v28 o28 =>
 bd (gd v9 true (ret1 (indexAddrS tab o28 30 v27 v28) o28) o28) fun v29 o29 =>
 bd (gd v9 true (ret1 (fieldAddrS tab 69 v29 1) o29) o29) fun v30 o30 =>
 bd (gd v9 true (ret1 (loadS tab o30 3 v30) o30) o30) fun v31 o31 =>
 bd (gd v9 true (callS ⟨tab, ownF, K⟩ o31 80 [v15, v21, v26, v31]) o31) fun v32 o32 =>
 bd (gd v9 true (ret1 (unS .not v32) o32) o32) fun v33 o33 =>
 bd (gd v6 false (ret1 (pickS v9 v33 (SV.v (.bool false))) o33) o33) fun v34 o34 =>
 bd (ret1 (pickS v6 (SV.v (.bool true)) v34) o34) fun v35 o35 =>
 condS v35 (retV tab nl o35 (resC1 (some (SV.v (.bool false))) (some [])))
 (bd (ret1 (binS tab .add 3 x3 (SV.v (.int .i64 1))) o35) fun v36 o36 =>
 L66_2 K N nl m2 x0 v36 o36))
 (retV tab nl o2 (resC1 (some (SV.v (.bool true))) (some [])))
noncomputable def X66 (K : Nat → List SV → List SO → Out) (N nl : Nat) (x0 : SV) (os : List SO) : Out := exec (cx K) N nl fi66 c66 [(0, x0)] os (kEnd tab [] nl rs66)
noncomputable def B66 (K : Nat → List SV → List SO → Out) (N nl : Nat) (x0 : SV) (os : List SO) : Out :=
 L66_2 K N nl N x0 (SV.v (.int .i64 0)) os
noncomputable def bk67_2 (K : Nat → List SV → List SO → Out) (N nl : Nat) (m2 : Nat) : Env → List SO → Out := fun env os => loopS nl (fi67.lp 2) (fun env os nx => exec (cx K) N nl fi67 (subC c67 [1, 0, 1, 0, 0]) env os (kLoop nx (kBlock 0 (kSeq (exec (cx K) N nl fi67 (subC c67 [1, 1])) (fi67.jn 6) (kEnd tab [] nl rs67))))) m2 (killS (fi67.lp 2).alive env) os
noncomputable def L67_2 (K : Nat → List SV → List SO → Out) (N nl : Nat) (m2 : Nat) (x0 x1 x4 x6 : SV) (os : List SO) : Out := loopS nl (fi67.lp 2) (fun env os nx => exec (cx K) N nl fi67 (subC c67 [1, 0, 1, 0, 0]) env os (kLoop nx (kBlock 0 (kSeq (exec (cx K) N nl fi67 (subC c67 [1, 1])) (fi67.jn 6) (kEnd tab [] nl rs67))))) m2 [(0, x0), (1, x1), (4, x4), (6, x6)] os
noncomputable def G67_2 (K : Nat → List SV → List SO → Out) (N nl : Nat) (m2 : Nat) (xs : List SV) (os : List SO) : Out := (fun env os nx => exec (cx K) N nl fi67 (subC c67 [1, 0, 1, 0, 0]) env os (kLoop nx (kBlock 0 (kSeq (exec (cx K) N nl fi67 (subC c67 [1, 1])) (fi67.jn 6) (kEnd tab [] nl rs67))))) (zipE [0, 1, 4, 6] xs) os (bk67_2 K N nl m2)
noncomputable def GB67_2 (K : Nat → List SV → List SO → Out) (N nl : Nat) (m2 : Nat) (x0 x1 x4 x6 : SV) (os : List SO) : Out :=
 bd (ret1 (binS tab .geq 3 x6 (SV.v (.int .i64 0))) os) fun v4 o4 =>
 condS v4 (bd (ret1 (indexAddrS tab o4 30 x0 x6) o4) fun v5 o5 =>
 bd (ret1 (fieldAddrS tab 69 v5 0) o5) fun v6 o6 =>
 bd (ret1 (loadS tab o6 3 v6) o6) fun v7 o7 =>
 bd (ret1 (binS tab .eql 3 v7 x1) o7) fun v8 o8 =>
 condS v8 (bd (ret1 (indexAddrS tab o8 30 x0 x6) o8) fun v9 o9 =>
 bd (ret1 (loadS tab o9 69 v9) o9) fun v10 o10 =>
 bd (callS ⟨tab, ownF, K⟩ o10 55 [v10]) fun v11 o11 =>
 bd (storeO tab o11 69 x4 (some v11)) fun v12 o12 =>
 retV tab nl o12 (resC1 (loadS tab o12 69 x4) (resC1 (some (SV.v (.bool true))) (some []))))
 (bd (ret1 (binS tab .sub 3 x6 (SV.v (.int .i64 1))) o8) fun v13 o13 =>
 L67_2 K N nl m2 x0 x1 x4 v13 o13))
 (bd (buildS tab o4 69 []) fun v14 o14 =>
 bd (storeO tab o14 69 x4 (some v14)) fun v15 o15 =>
 retV tab nl o15 (resC1 (loadS tab o15 69 x4) (resC1 (some (SV.v (.bool false))) (some []))))
noncomputable def X67 (K : Nat → List SV → List SO → Out) (N nl : Nat) (x0 x1 : SV) (os : List SO) : Out := exec (cx K) N nl fi67 c67 [(0, x0), (1, x1)] os (kEnd tab [] nl rs67)
noncomputable def B67 (K : Nat → List SV → List SO → Out) (N nl : Nat) (x0 x1 : SV) (os : List SO) : Out :=
 bd (allocS tab os 69) fun v1 o1 =>
 bd (lenO tab 30 o1 x0) fun v2 o2 =>
 bd (ret1 (binS tab .sub 3 v2 (SV.v (.int .i64 1))) o2) fun v3 o3 =>
 L67_2 K N nl N x0 x1 v1 v3 o3
noncomputable def X68 (K : Nat → List SV → List SO → Out) (N nl : Nat) (x0 : SV) (os : List SO) : Out := exec (cx K) N nl fi68 c68 [(0, x0)] os (kEnd tab [] nl rs68)
noncomputable def B68 (K : Nat → List SV → List SO → Out) (N nl : Nat) (x0 : SV) (os : List SO) : Out :=
 bd (boxS tab os 98 (some x0)) fun v1 o1 =>
 bd (allocS tab o1 84) fun v2 o2 =>
 bd (allocS tab o2 84) fun v3 o3 =>
 bd (ret1 (fieldAddrS tab 98 v1 0) o3) fun v4 o4 =>
 bd (ret1 (loadS tab o4 3 v4) o4) fun v5 o5 =>
 bd (ret1 (fieldAddrS tab 84 v3 0) o5) fun v6 o6 =>
 bd (storeO tab o6 3 v6 (some v5)) fun v7 o7 =>
 bd (ret1 (fieldAddrS tab 98 v1 1) o7) fun v8 o8 =>
 bd (ret1 (loadS tab o8 3 v8) o8) fun v9 o9 =>
 bd (ret1 (fieldAddrS tab 84 v3 1) o9) fun v10 o10 =>
 bd (storeO tab o10 3 v10 (some v9)) fun v11 o11 =>
 bd (ret1 (loadS tab o11 84 v3) o11) fun v12 o12 =>
 bd (storeO tab o12 84 v2 (some v12)) fun v13 o13 =>
 retV tab nl o13 (resC1 (loadS tab o13 84 v2) (some []))
noncomputable def X69 (K : Nat → List SV → List SO → Out) (N nl : Nat) (x0 : SV) (os : List SO) : Out := exec (cx K) N nl fi69 c69 [(0, x0)] os (kEnd tab [] nl rs69)
noncomputable def B69 (K : Nat → List SV → List SO → Out) (N nl : Nat) (x0 : SV) (os : List SO) : Out :=
 bd (boxS tab os 100 (some x0)) fun v1 o1 =>
 bd (allocS tab o1 81) fun v2 o2 =>
 bd (allocS tab o2 81) fun v3 o3 =>
 bd (ret1 (fieldAddrS tab 100 v1 0) o3) fun v4 o4 =>
 bd (ret1 (loadS tab o4 3 v4) o4) fun v5 o5 =>
 bd (ret1 (fieldAddrS tab 81 v3 0) o5) fun v6 o6 =>
 bd (storeO tab o6 3 v6 (some v5)) fun v7 o7 =>
 bd (ret1 (fieldAddrS tab 100 v1 1) o7) fun v8 o8 =>
 bd (ret1 (loadS tab o8 3 v8) o8) fun v9 o9 =>
 bd (ret1 (fieldAddrS tab 81 v3 1) o9) fun v10 o10 =>
 bd (storeO tab o10 3 v10 (some v9)) fun v11 o11 =>
 bd (ret1 (loadS tab o11 81 v3) o11) fun v12 o12 =>
 bd (storeO tab o12 81 v2 (some v12)) fun v13 o13 =>
 retV tab nl o13 (resC1 (loadS tab o13 81 v2) (some []))
noncomputable def bk70_4 (K : Nat → List SV → List SO → Out) (N nl : Nat) (m4 : Nat) : Env → List SO → Out := fun env os => loopS nl (fi70.lp 4) (fun env os nx => exec (cx K) N nl fi70 (subC c70 [1, 1, 0, 1, 0, 0]) env os (kLoop nx (kBlock 0 (kSeq (exec (cx K) N nl fi70 (subC c70 [1, 1, 1])) (fi70.jn 9) (kEnd tab [] nl rs70))))) m4 (killS (fi70.lp 4).alive env) os
noncomputable def bk70_10 (K : Nat → List SV → List SO → Out) (N nl : Nat) (m10 : Nat) : Env → List SO → Out := fun env os => loopS nl (fi70.lp 10) (fun env os nx => exec (cx K) N nl fi70 (subC c70 [1, 1, 1, 0, 1, 0, 0]) env os (kLoop nx (kBlock 2 (kSeq (exec (cx K) N nl fi70 (subC c70 [1, 1, 1, 1])) (fi70.jn 15) (kEnd tab [] nl rs70))))) m10 (killS (fi70.lp 10).alive env) os
noncomputable def L70_4 (K : Nat → List SV → List SO → Out) (N nl : Nat) (m4 : Nat) (x1 x30 x31 x32 : SV) (os : List SO) : Out := loopS nl (fi70.lp 4) (fun env os nx => exec (cx K) N nl fi70 (subC c70 [1, 1, 0, 1, 0, 0]) env os (kLoop nx (kBlock 0 (kSeq (exec (cx K) N nl fi70 (subC c70 [1, 1, 1])) (fi70.jn 9) (kEnd tab [] nl rs70))))) m4 [(1, x1), (30, x30), (31, x31), (32, x32)] os
noncomputable def G70_4 (K : Nat → List SV → List SO → Out) (N nl : Nat) (m4 : Nat) (xs : List SV) (os : List SO) : Out := (fun env os nx => exec (cx K) N nl fi70 (subC c70 [1, 1, 0, 1, 0, 0]) env os (kLoop nx (kBlock 0 (kSeq (exec (cx K) N nl fi70 (subC c70 [1, 1, 1])) (fi70.jn 9) (kEnd tab [] nl rs70))))) (zipE [1, 30, 31, 32] xs) os (bk70_4 K N nl m4)
noncomputable def L70_10 (K : Nat → List SV → List SO → Out) (N nl : Nat) (m10 : Nat) (x1 x65 x66 x67 : SV) (os : List SO) : Out := loopS nl (fi70.lp 10) (fun env os nx => exec (cx K) N nl fi70 (subC c70 [1, 1, 1, 0, 1, 0, 0]) env os (kLoop nx (kBlock 2 (kSeq (exec (cx K) N nl fi70 (subC c70 [1, 1, 1, 1])) (fi70.jn 15) (kEnd tab [] nl rs70))))) m10 [(1, x1), (65, x65), (66, x66), (67, x67)] os
noncomputable def G70_10 (K : Nat → List SV → List SO → Out) (N nl : Nat) (m10 : Nat) (xs : List SV) (os : List SO) : Out := (fun env os nx => exec (cx K) N nl fi70 (subC c70 [1, 1, 1, 0, 1, 0, 0]) env os (kLoop nx (kBlock 2 (kSeq (exec (cx K) N nl fi70 (subC c70 [1, 1, 1, 1])) (fi70.jn 15) (kEnd tab [] nl rs70))))) (zipE [1, 65, 66, 67] xs) os (bk70_10 K N nl m10)
noncomputable def GB70_4 (K : Nat → List SV → List SO → Out) (N nl : Nat) (m4 : Nat) (x1 x30 x31 x32 : SV) (os : List SO) : Out :=
 bd (ret1 (binS tab .lss 3 x32 x31) os) fun v24 o24 =>
 condS v24 (bd (ret1 (indexAddrS tab o24 66 x30 x32) o24) fun v25 o25 =>
 bd (ret1 (loadS tab o25 84 v25) o25) fun v26 o26 =>
 bd (allocS tab o26 84) fun v27 o27 =>
 bd (storeO tab o27 84 v27 (some v26)) fun v28 o28 =>
 bd (ret1 (fieldAddrS tab 84 v27 0) o28) fun v29 o29 =>
 bd (ret1 (loadS tab o29 3 v29) o29) fun v30 o30 =>
 bd (callS ⟨tab, ownF, K⟩ o30 39 [v30, (SV.v (.int .i64 0)), (SV.v (.int .i64 5))]) fun v31 o31 =>
 bd (ret1 (unS .not v31) o31) fun v32 o32 =>
 bd (gd v32 false (ret1 (fieldAddrS tab 84 v27 1) o32) o32) fun v33 o33 =>
 bd (gd v32 false (ret1 (loadS tab o33 3 v33) o33) o33) fun v34 o34 =>
 bd (gd v32 false (callS ⟨tab, ownF, K⟩ o34 39 [v34, (SV.v (.int .i64 0)), (SV.v (.int .i64 9))]) o34) fun v35 o35 =>
 bd (gd v32 false (ret1 (unS .not v35) o35) o35) fun v36 o36 =>
 bd (ret1 (pickS v32 (SV.v (.bool true)) v36) o36) fun v37 o37 =>
 bd (gd v37 false (some (x32, o37)) o37) fun v38 o38 =>
 bd (gd v37 false (ret1 (binS tab .gtr 3 v38 (SV.v (.int .i64 0))) o38) o38) fun v39 o39 =>
 bd (gd v37 false (some (v39, o39)) o39) fun v40 o40 =>
 bd (gd v40 true (ret1 (fieldAddrS tab 84 v27 0) o40) o40) fun v41 o41 =>
 bd (gd v40 true (ret1 (loadS tab o41 3 v41) o41) o41) fun v42 o42 =>
 bd (gd v40 true (ret1 (fieldAddrS tab 69 x1 2) o42) o42) fun v43 o43 =>
 bd (gd v40 true (ret1 (loadS tab o43 66 v43) o43) o43) fun v44 o44 =>
 bd (gd v40 true (some (x32, o44)) o44) fun v45 o45 =>
 bd (gd v40 true (ret1 (binS tab .sub 3 v45 (SV.v (.int .i64 1))) o45) o45) fun v46 o46 =>
 bd (gd v40 true (ret1 (indexAddrS tab o46 66 v44 v46) o46) o46) fun v47 o47 =>
 bd (gd v40 true (ret1 (fieldAddrS tab 84 v47 0) o47) o47) fun v48 o48 =>
 bd (gd v40 true (ret1 (loadS tab o48 3 v48) o48) o48) fun v49 o49 =>
 bd (gd v40 true (ret1 (binS tab .leq 3 v42 v49) o49) o49) fun v50 o50 =>
 bd (gd v37 false (ret1 (pickS v40 v50 (SV.v (.bool false))) o50) o50) fun v51 o51 =>
 bd (ret1 (pickS v37 (SV.v (.bool true)) v51) o51) fun v52 o52 =>
 condS v52 (retV tab nl o52 (resC1 (some (SV.v (.bool false))) (some [])))
 (bd (ret1 (binS tab .add 3 x32 (SV.v (.int .i64 1))) o52) fun v53 o53 =>
 L70_4 K N nl m4 x1 x30 x31 v53 o53))
 (bd (ret1 (fieldAddrS tab 69 x1 3) o24) fun v54 o54 =>
 bd (ret1 (loadS tab o54 67 v54) o54) fun v55 o55 =>
 bd (lenO tab 67 o55 v55) fun v56 o56 =>
 L70_10 K N nl N x1 v55 v56 (SV.v (.int .i64 0)) o56)
noncomputable def GB70_10 (K : Nat → List SV → List SO → Out) (N nl : Nat) (m10 : Nat) (x1 x65 x66 x67 : SV) (os : List SO) : Out :=
 bd (ret1 (binS tab .lss 3 x67 x66) os) fun v57 o57 =>
 condS v57 (bd (ret1 (indexAddrS tab o57 67 x65 x67) o57) fun v58 o58 =>
 bd (ret1 (loadS tab o58 81 v58) o58) fun v59 o59 =>
 bd (allocS tab o59 81) fun v60 o60 =>
 bd (storeO tab o60 81 v60 (some v59)) fun v61 o61 =>
 bd (ret1 (fieldAddrS tab 81 v60 0) o61) fun v62 o62 =>
 bd (ret1 (loadS tab o62 3 v62) o62) fun v63 o63 =>
 bd (callS ⟨tab, ownF, K⟩ o63 81 [v63]) fun v64 o64 =>
 bd (ret1 (unS .not v64) o64) fun v65 o65 =>
 bd (gd v65 false (ret1 (fieldAddrS tab 81 v60 0) o65) o65) fun v66 o66 =>
 bd (gd v65 false (ret1 (loadS tab o66 3 v66) o66) o66) fun v67 o67 =>
 bd (gd v65 false (ret1 (fieldAddrS tab 69 x1 0) o67) o67) fun v68 o68 =>
 bd (gd v65 false (ret1 (loadS tab o68 3 v68) o68) o68) fun v69 o69 =>
 bd (gd v65 false (ret1 (binS tab .eql 3 v67 v69) o69) o69) fun v70 o70 =>
 bd (ret1 (pickS v65 (SV.v (.bool true)) v70) o70) fun v71 o71 =>
 bd (gd v71 false (ret1 (fieldAddrS tab 81 v60 1) o71) o71) fun v72 o72 =>
 bd (gd v71 false (ret1 (loadS tab o72 3 v72) o72) o72) fun v73 o73 =>
 bd (gd v71 false (callS ⟨tab, ownF, K⟩ o73 82 [v73]) o73) fun v74 o74 =>
 bd (gd v71 false (ret1 (unS .not v74) o74) o74) fun v75 o75 =>
 bd (ret1 (pickS v71 (SV.v (.bool true)) v75) o75) fun v76 o76 =>
 bd (gd v76 false (some (x67, o76)) o76) fun v77 o77 =>
 bd (gd v76 false (ret1 (binS tab .gtr 3 v77 (SV.v (.int .i64 0))) o77) o77) fun v78 o78 =>
 bd (gd v76 false (some (v78, o78)) o78) fun v79 o79 =>
 bd (gd v79 true (ret1 (fieldAddrS tab 81 v60 0) o79) o79) fun v80 o80 =>
 bd (gd v79 true (ret1 (loadS tab o80 3 v80) o80) o80) fun v81 o81 =>
 bd (gd v79 true (ret1 (fieldAddrS tab 69 x1 3) o81) o81) fun v82 o82 =>
 bd (gd v79 true (ret1 (loadS tab o82 67 v82) o82) o82) fun v83 o83 =>
 bd (gd v79 true (some (x67, o83)) o83) fun v84 o84 =>
 bd (gd v79 true (ret1 (binS tab .sub 3 v84 (SV.v (.int .i64 1))) o84) o84) fun v85 o85 =>
 bd (gd v79 true (ret1 (indexAddrS tab o85 67 v83 v85) o85) o85) fun v86 o86 =>
 bd (gd v79 true (ret1 (fieldAddrS tab 81 v86 0) o86) o86) fun v87 o87 =>
 bd (gd v79 true (ret1 (loadS tab o87 3 v87) o87) o87) fun v88 o88 =>
 bd (gd v79 true (ret1 (binS tab .leq 3 v81 v88) o88) o88) fun v89 o89 =>
 bd (gd v76 false (ret1 (pickS v79 v89 (SV.v (.bool false))) o89) o89) fun v90 o90 =>
 bd (ret1 (pickS v76 (SV.v (.bool true)) v90) o90) fun v91 o91 =>
 condS v91 (retV tab nl o91 (resC1 (some (SV.v (.bool false))) (some [])))
 (bd (ret1 (binS tab .add 3 x67 (SV.v (.int .i64 1))) o91) fun v92 o92 =>
 L70_10 K N nl m10 x1 x65 x66 v92 o92))
 (retV tab nl o57 (resC1 (some (SV.v (.bool true))) (some [])))
noncomputable def X70 (K : Nat → List SV → List SO → Out) (N nl : Nat) (x0 : SV) (os : List SO) : Out := exec (cx K) N nl fi70 c70 [(0, x0)] os (kEnd tab [] nl rs70)
noncomputable def B70 (K : Nat → List SV → List SO → Out) (N nl : Nat) (x0 : SV) (os : List SO) : Out :=
 bd (boxS tab os 69 (some x0)) fun v1 o1 =>
 bd (ret1 (fieldAddrS tab 69 v1 0) o1) fun v2 o2 =>
 bd (ret1 (loadS tab o2 3 v2) o2) fun v3 o3 =>
 bd (callS ⟨tab, ownF, K⟩ o3 81 [v3]) fun v4 o4 =>
 bd (ret1 (unS .not v4) o4) fun v5 o5 =>
 bd (gd v5 false (ret1 (fieldAddrS tab 69 v1 1) o5) o5) fun v6 o6 =>
 bd (gd v5 false (ret1 (loadS tab o6 3 v6) o6) o6) fun v7 o7 =>
 bd (gd v5 false (callS ⟨tab, ownF, K⟩ o7 82 [v7]) o7) fun v8 o8 =>
 bd (gd v5 false (ret1 (unS .not v8) o8) o8) fun v9 o9 =>
 bd (ret1 (pickS v5 (SV.v (.bool true)) v9) o9) fun v10 o10 =>
 bd (gd v10 false (ret1 (fieldAddrS tab 69 v1 2) o10) o10) fun v11 o11 =>
 bd (gd v10 false (ret1 (loadS tab o11 66 v11) o11) o11) fun v12 o12 =>
 bd (gd v10 false (lenO tab 66 o12 v12) o12) fun v13 o13 =>
 bd (gd v10 false (ret1 (binS tab .gtr 3 v13 (SV.v (.int .i64 2))) o13) o13) fun v14 o14 =>
 bd (ret1 (pickS v10 (SV.v (.bool true)) v14) o14) fun v15 o15 =>
 bd (gd v15 false (ret1 (fieldAddrS tab 69 v1 3) o15) o15) fun v16 o16 =>
 bd (gd v15 false (ret1 (loadS tab o16 67 v16) o16) o16) fun v17 o17 =>
 bd (gd v15 false (lenO tab 67 o17 v17) o17) fun v18 o18 =>
 bd (gd v15 false (ret1 (binS tab .gtr 3 v18 (SV.v (.int .i64 2))) o18) o18) fun v19 o19 =>
 bd (ret1 (pickS v15 (SV.v (.bool true)) v19) o19) fun v20 o20 =>
 condS v20 (retV tab nl o20 (resC1 (some (SV.v (.bool false))) (some [])))
 (bd (ret1 (fieldAddrS tab 69 v1 2) o20) fun v21 o21 =>
 bd (ret1 (loadS tab o21 66 v21) o21) fun v22 o22 =>
 bd (lenO tab 66 o22 v22) fun v23 o23 =>
 L70_4 K N nl N v1 v22 v23 (SV.v (.int .i64 0)) o23)
noncomputable def X71 (K : Nat → List SV → List SO → Out) (N nl : Nat) (x0 x1 : SV) (os : List SO) : Out := exec (cx K) N nl fi71 c71 [(0, x0), (1, x1)] os (kEnd tab [] nl rs71)
noncomputable def B71 (K : Nat → List SV → List SO → Out) (N nl : Nat) (x0 x1 : SV) (os : List SO) : Out :=
 bd (boxS tab os 69 (some x0)) fun v1 o1 =>
 bd (boxS tab o1 69 (some x1)) fun v2 o2 =>
 bd (ret1 (fieldAddrS tab 69 v1 0) o2) fun v3 o3 =>
 bd (ret1 (loadS tab o3 3 v3) o3) fun v4 o4 =>
 bd (ret1 (fieldAddrS tab 69 v2 0) o4) fun v5 o5 =>
 bd (ret1 (loadS tab o5 3 v5) o5) fun v6 o6 =>
 dchk (keepOk ⟨tab, ownF, K⟩ o6 (SV.fn 84 []) [v4, v6] [] true) <|
 bd (callS ⟨tab, ownF, K⟩ o6 84 [v4, v6]) fun v7 o7 =>
 bd (ret1 (fieldAddrS tab 69 v1 1) o7) fun v8 o8 =>
 dchk (isBox v8) <|
 bd (ret1 (loadS tab o8 3 v8) o8) fun v9 o9 =>
 bd (ret1 (fieldAddrS tab 69 v2 1) o9) fun v10 o10 =>
 dchk (isBox v10) <|
 bd (ret1 (loadS tab o10 3 v10) o10) fun v11 o11 =>
 bd (callS ⟨tab, ownF, K⟩ o11 84 [v9, v11]) fun v12 o12 =>
 bd (buildSliceS tab o12 23 2 [(0, v7), (1, v12)]) fun v13 o13 =>
 bd (callS ⟨tab, ownF, K⟩ o13 83 [v13]) fun v14 o14 =>
 retV tab nl o14 (resC1 (some v14) (some []))
noncomputable def bk72_2 (K : Nat → List SV → List SO → Out) (N nl : Nat) (m2 : Nat) : Env → List SO → Out := fun env os => loopS nl (fi72.lp 2) (fun env os nx => exec (cx K) N nl fi72 (subC c72 [1, 0, 1, 0, 0]) env os (kLoop nx (kBlock 0 (kSeq (exec (cx K) N nl fi72 (subC c72 [1, 1])) (fi72.jn 7) (kEnd tab [] nl rs72))))) m2 (killS (fi72.lp 2).alive env) os
noncomputable def L72_2 (K : Nat → List SV → List SO → Out) (N nl : Nat) (m2 : Nat) (x0 x1 x7 x8 : SV) (os : List SO) : Out := loopS nl (fi72.lp 2) (fun env os nx => exec (cx K) N nl fi72 (subC c72 [1, 0, 1, 0, 0]) env os (kLoop nx (kBlock 0 (kSeq (exec (cx K) N nl fi72 (subC c72 [1, 1])) (fi72.jn 7) (kEnd tab [] nl rs72))))) m2 [(0, x0), (1, x1), (7, x7), (8, x8)] os
noncomputable def LB72_2 (K : Nat → List SV → List SO → Out) (N nl : Nat) (m2 : Nat) (x0 x1 x7 x8 : SV) (os : List SO) : Out :=
 bd (ret1 (binS tab .lss 3 x8 x7) os) fun v2 o2 =>
 condS v2 (bd (ret1 (indexAddrS tab o2 67 x0 x8) o2) fun v3 o3 =>
 bd (ret1 (loadS tab o3 81 v3) o3) fun v4 o4 =>
 bd (calleeS ⟨tab, ownF, K⟩ o4 x1 [v4]) fun v5 o5 =>
 condS v5 (retV tab nl o5 (resC1 (some x8) (some [])))
 (bd (ret1 (binS tab .add 3 x8 (SV.v (.int .i64 1))) o5) fun v6 o6 =>
 L72_2 K N nl m2 x0 x1 x7 v6 o6))
 (retV tab nl o2 (resC1 (some (SV.v (.int .i64 (-1)))) (some [])))
noncomputable def X72 (K : Nat → List SV → List SO → Out) (N nl : Nat) (x0 x1 : SV) (os : List SO) : Out := exec (cx K) N nl fi72 c72 [(0, x0), (1, x1)] os (kEnd tab [] nl rs72)
noncomputable def B72 (K : Nat → List SV → List SO → Out) (N nl : Nat) (x0 x1 : SV) (os : List SO) : Out :=
 bd (lenO tab 67 os x0) fun v1 o1 =>
 L72_2 K N nl N x0 x1 v1 (SV.v (.int .i64 0)) o1
noncomputable def X73 (K : Nat → List SV → List SO → Out) (N nl : Nat) (x0 x1 : SV) (os : List SO) : Out := exec (cx K) N nl fi73 c73 [(0, x0), (1, x1)] os (kEnd tab [] nl rs73)
noncomputable def B73 (K : Nat → List SV → List SO → Out) (N nl : Nat) (x0 x1 : SV) (os : List SO) : Out :=
 bd (callS ⟨tab, ownF, K⟩ os 85 [x0, x1]) fun v1 o1 =>
 bd (ret1 (binS tab .geq 3 v1 (SV.v (.int .i64 0))) o1) fun v2 o2 =>
 retV tab nl o2 (resC1 (some v2) (some []))
noncomputable def X74 (K : Nat → List SV → List SO → Out) (N nl : Nat) (x0 x1 : SV) (os : List SO) : Out := exec (cx K) N nl fi74 c74 [(0, x0), (1, x1)] os (kEnd tab [] nl rs74)
noncomputable def B74 (K : Nat → List SV → List SO → Out) (N nl : Nat) (x0 x1 : SV) (os : List SO) : Out :=
 bd (boxS tab os 69 (some x0)) fun v1 o1 =>
 bd (ret1 (fieldAddrS tab 69 v1 0) o1) fun v2 o2 =>
 bd (ret1 (loadS tab o2 3 v2) o2) fun v3 o3 =>
 bd (ret1 (fieldAddrS tab 81 x1 0) o3) fun v4 o4 =>
 bd (ret1 (loadS tab o4 3 v4) o4) fun v5 o5 =>
 bd (ret1 (binS tab .eql 3 v3 v5) o5) fun v6 o6 =>
 bd (gd v6 true (ret1 (fieldAddrS tab 69 v1 1) o6) o6) fun v7 o7 =>
 bd (gd v6 true (ret1 (loadS tab o7 3 v7) o7) o7) fun v8 o8 =>
 bd (gd v6 true (ret1 (fieldAddrS tab 81 x1 1) o8) o8) fun v9 o9 =>
 bd (gd v6 true (ret1 (loadS tab o9 3 v9) o9) o9) fun v10 o10 =>
 bd (gd v6 true (ret1 (binS tab .geq 3 v8 v10) o10) o10) fun v11 o11 =>
 bd (ret1 (pickS v6 v11 (SV.v (.bool false))) o11) fun v12 o12 =>
 retV tab nl o12 (resC1 (some v12) (some []))
noncomputable def X77 (K : Nat → List SV → List SO → Out) (N nl : Nat) (x0 x1 : SV) (os : List SO) : Out := exec (cx K) N nl fi77 c77 [(0, x0), (1, x1)] os (kEnd tab [] nl rs77)
noncomputable def B77 (K : Nat → List SV → List SO → Out) (N nl : Nat) (x0 x1 : SV) (os : List SO) : Out :=
 bd (boxS tab os 84 (some x0)) fun v1 o1 =>
 bd (boxS tab o1 84 (some x1)) fun v2 o2 =>
 bd (ret1 (fieldAddrS tab 84 v1 0) o2) fun v3 o3 =>
 bd (ret1 (loadS tab o3 3 v3) o3) fun v4 o4 =>
 bd (ret1 (fieldAddrS tab 84 v2 0) o4) fun v5 o5 =>
 bd (ret1 (loadS tab o5 3 v5) o5) fun v6 o6 =>
 bd (ret1 (binS tab .neq 3 v4 v6) o6) fun v7 o7 =>
 condS v7 (retV tab nl o7 (resC1 (some (SV.v (.bool false))) (some [])))
 (bd (ret1 (fieldAddrS tab 84 v1 1) o7) fun v8 o8 =>
 bd (ret1 (loadS tab o8 3 v8) o8) fun v9 o9 =>
 bd (ret1 (fieldAddrS tab 84 v2 1) o9) fun v10 o10 =>
 bd (ret1 (loadS tab o10 3 v10) o10) fun v11 o11 =>
 bd (ret1 (binS tab .neq 3 v9 v11) o11) fun v12 o12 =>
 condS v12 (retV tab nl o12 (resC1 (some (SV.v (.bool false))) (some [])))
 (retV tab nl o12 (resC1 (some (SV.v (.bool true))) (some []))))
noncomputable def X78 (K : Nat → List SV → List SO → Out) (N nl : Nat) (x0 x1 : SV) (os : List SO) : Out := exec (cx K) N nl fi78 c78 [(0, x0), (1, x1)] os (kEnd tab [] nl rs78)
noncomputable def B78 (K : Nat → List SV → List SO → Out) (N nl : Nat) (x0 x1 : SV) (os : List SO) : Out :=
 bd (boxS tab os 81 (some x0)) fun v1 o1 =>
 bd (boxS tab o1 81 (some x1)) fun v2 o2 =>
 bd (ret1 (fieldAddrS tab 81 v1 0) o2) fun v3 o3 =>
 bd (ret1 (loadS tab o3 3 v3) o3) fun v4 o4 =>
 bd (ret1 (fieldAddrS tab 81 v2 0) o4) fun v5 o5 =>
 bd (ret1 (loadS tab o5 3 v5) o5) fun v6 o6 =>
 bd (ret1 (binS tab .neq 3 v4 v6) o6) fun v7 o7 =>
 condS v7 (retV tab nl o7 (resC1 (some (SV.v (.bool false))) (some [])))
 (bd (ret1 (fieldAddrS tab 81 v1 1) o7) fun v8 o8 =>
 bd (ret1 (loadS tab o8 3 v8) o8) fun v9 o9 =>
 bd (ret1 (fieldAddrS tab 81 v2 1) o9) fun v10 o10 =>
 bd (ret1 (loadS tab o10 3 v10) o10) fun v11 o11 =>
 bd (ret1 (binS tab .neq 3 v9 v11) o11) fun v12 o12 =>
 condS v12 (retV tab nl o12 (resC1 (some (SV.v (.bool false))) (some [])))
 (retV tab nl o12 (resC1 (some (SV.v (.bool true))) (some []))))
noncomputable def X79 (K : Nat → List SV → List SO → Out) (N nl : Nat) (x0 : SV) (os : List SO) : Out := exec (cx K) N nl fi79 c79 [(0, x0)] os (kEnd tab [] nl rs79)
noncomputable def B79 (K : Nat → List SV → List SO → Out) (N nl : Nat) (x0 : SV) (os : List SO) : Out :=
 bd (boxS tab os 69 (some x0)) fun v1 o1 =>
 bd (ret1 (fieldAddrS tab 69 v1 0) o1) fun v2 o2 =>
 bd (ret1 (loadS tab o2 3 v2) o2) fun v3 o3 =>
 bd (callS ⟨tab, ownF, K⟩ o3 34 [v3, (SV.v (.int .i64 1)), (SV.v (.int .i64 4))]) fun v4 o4 =>
 bd (gd v4 true (ret1 (fieldAddrS tab 69 v1 1) o4) o4) fun v5 o5 =>
 bd (gd v4 true (ret1 (loadS tab o5 3 v5) o5) o5) fun v6 o6 =>
 bd (gd v4 true (callS ⟨tab, ownF, K⟩ o6 34 [v6, (SV.v (.int .i64 1)), (SV.v (.int .i64 5))]) o6) fun v7 o7 =>
 bd (ret1 (pickS v4 v7 (SV.v (.bool false))) o7) fun v8 o8 =>
 bd (gd v8 true (ret1 (fieldAddrS tab 69 v1 2) o8) o8) fun v9 o9 =>
 bd (gd v8 true (ret1 (loadS tab o9 66 v9) o9) o9) fun v10 o10 =>
 bd (gd v8 true (callS ⟨tab, ownF, K⟩ o10 86 [v10]) o10) fun v11 o11 =>
 bd (ret1 (pickS v8 v11 (SV.v (.bool false))) o11) fun v12 o12 =>
 bd (gd v12 true (ret1 (fieldAddrS tab 69 v1 0) o12) o12) fun v13 o13 =>
 bd (gd v12 true (ret1 (loadS tab o13 3 v13) o13) o13) fun v14 o14 =>
 bd (gd v12 true (ret1 (fieldAddrS tab 69 v1 3) o14) o14) fun v15 o15 =>
 bd (gd v12 true (ret1 (loadS tab o15 67 v15) o15) o15) fun v16 o16 =>
 bd (gd v12 true (callS ⟨tab, ownF, K⟩ o16 87 [v14, v16]) o16) fun v17 o17 =>
 bd (ret1 (pickS v12 v17 (SV.v (.bool false))) o17) fun v18 o18 =>
 retV tab nl o18 (resC1 (some v18) (some []))
noncomputable def X80 (K : Nat → List SV → List SO → Out) (N nl : Nat) (x0 x1 x2 x3 : SV) (os : List SO) : Out := exec (cx K) N nl fi80 c80 [(0, x0), (1, x1), (2, x2), (3, x3)] os (kEnd tab [] nl rs80)
noncomputable def B80 (K : Nat → List SV → List SO → Out) (N nl : Nat) (x0 x1 x2 x3 : SV) (os : List SO) : Out :=
 bd (ret1 (binS tab .lss 3 x0 x2) os) fun v1 o1 =>
 bd (gd v1 false (some (x0, o1)) o1) fun v2 o2 =>
 bd (gd v1 false (some (x2, o2)) o2) fun v3 o3 =>
 bd (gd v1 false (ret1 (binS tab .eql 3 v2 v3) o3) o3) fun v4 o4 =>
 bd (gd v1 false (some (v4, o4)) o4) fun v5 o5 =>
 bd (gd v5 true (some (x1, o5)) o5) fun v6 o6 =>
 bd (gd v5 true (some (x3, o6)) o6) fun v7 o7 =>
 bd (gd v5 true (ret1 (binS tab .lss 3 v6 v7) o7) o7) fun v8 o8 =>
 bd (gd v1 false (ret1 (pickS v5 v8 (SV.v (.bool false))) o8) o8) fun v9 o9 =>
 bd (ret1 (pickS v1 (SV.v (.bool true)) v9) o9) fun v10 o10 =>
 retV tab nl o10 (resC1 (some v10) (some []))
noncomputable def X81 (K : Nat → List SV → List SO → Out) (N nl : Nat) (x0 : SV) (os : List SO) : Out := exec (cx K) N nl fi81 c81 [(0, x0)] os (kEnd tab [] nl rs81)
noncomputable def B81 (K : Nat → List SV → List SO → Out) (N nl : Nat) (x0 : SV) (os : List SO) : Out :=
 bd (callS ⟨tab, ownF, K⟩ os 39 [x0, (SV.v (.int .i64 1)), (SV.v (.int .i64 4))]) fun v1 o1 =>
 retV tab nl o1 (resC1 (some v1) (some []))
noncomputable def X82 (K : Nat → List SV → List SO → Out) (N nl : Nat) (x0 : SV) (os : List SO) : Out := exec (cx K) N nl fi82 c82 [(0, x0)] os (kEnd tab [] nl rs82)
noncomputable def B82 (K : Nat → List SV → List SO → Out) (N nl : Nat) (x0 : SV) (os : List SO) : Out :=
 bd (callS ⟨tab, ownF, K⟩ os 39 [x0, (SV.v (.int .i64 1)), (SV.v (.int .i64 5))]) fun v1 o1 =>
 retV tab nl o1 (resC1 (some v1) (some []))
noncomputable def bk83_3 (K : Nat → List SV → List SO → Out) (N nl : Nat) (m3 : Nat) : Env → List SO → Out := fun env os => loopS nl (fi83.lp 3) (fun env os nx => exec (cx K) N nl fi83 (subC c83 [1, 1, 0, 1, 0, 0]) env os (kLoop nx (kBlock 0 (kSeq (exec (cx K) N nl fi83 (subC c83 [1, 1, 1])) (fi83.jn 8) (kEnd tab [] nl rs83))))) m3 (killS (fi83.lp 3).alive env) os
noncomputable def L83_3 (K : Nat → List SV → List SO → Out) (N nl : Nat) (m3 : Nat) (x3 x6 x7 x8 : SV) (os : List SO) : Out := loopS nl (fi83.lp 3) (fun env os nx => exec (cx K) N nl fi83 (subC c83 [1, 1, 0, 1, 0, 0]) env os (kLoop nx (kBlock 0 (kSeq (exec (cx K) N nl fi83 (subC c83 [1, 1, 1])) (fi83.jn 8) (kEnd tab [] nl rs83))))) m3 [(3, x3), (6, x6), (7, x7), (8, x8)] os
noncomputable def LB83_3 (K : Nat → List SV → List SO → Out) (N nl : Nat) (m3 : Nat) (x3 x6 x7 x8 : SV) (os : List SO) : Out :=
 bd (ret1 (binS tab .lss 3 x8 x7) os) fun v2 o2 =>
 condS v2 (bd (ret1 (indexAddrS tab o2 23 x6 x8) o2) fun v3 o3 =>
 bd (ret1 (loadS tab o3 3 v3) o3) fun v4 o4 =>
 bd (ret1 (binS tab .neq 3 v4 x3) o4) fun v5 o5 =>
 condS v5 (retV tab nl o5 (resC1 (some v4) (some [])))
 (bd (ret1 (binS tab .add 3 x8 (SV.v (.int .i64 1))) o5) fun v6 o6 =>
 L83_3 K N nl m3 x3 x6 x7 v6 o6))
 (retV tab nl o2 (resC1 (some x3) (some [])))
noncomputable def X83 (K : Nat → List SV → List SO → Out) (N nl : Nat) (x0 : SV) (os : List SO) : Out := exec (cx K) N nl fi83 c83 [(0, x0)] os (kEnd tab [] nl rs83)
noncomputable def B83 (K : Nat → List SV → List SO → Out) (N nl : Nat) (x0 : SV) (os : List SO) : Out :=
 bd (lenO tab 23 os x0) fun v1 o1 =>
 L83_3 K N nl N (SV.v (.int .i64 0)) x0 v1 (SV.v (.int .i64 0)) o1
noncomputable def X84 (K : Nat → List SV → List SO → Out) (N nl : Nat) (x0 x1 : SV) (os : List SO) : Out := exec (cx K) N nl fi84 c84 [(0, x0), (1, x1)] os (kEnd tab [] nl rs84)
noncomputable def B84 (K : Nat → List SV → List SO → Out) (N nl : Nat) (x0 x1 : SV) (os : List SO) : Out :=
 bd (callS ⟨tab, ownF, K⟩ os 88 [x0]) fun v1 o1 =>
 bd (callS ⟨tab, ownF, K⟩ o1 88 [x1]) fun v2 o2 =>
 condS v1 (condS v2 (retV tab nl o2 (resC1 (some (SV.v (.int .i64 0))) (some [])))
 (retV tab nl o2 (resC1 (some (SV.v (.int .i64 (-1)))) (some []))))
 (condS v2 (retV tab nl o2 (resC1 (some (SV.v (.int .i64 1))) (some [])))
 (bd (ret1 (binS tab .lss 3 x0 x1) o2) fun v3 o3 =>
 condS v3 (retV tab nl o3 (resC1 (some (SV.v (.int .i64 (-1)))) (some [])))
 (bd (ret1 (binS tab .gtr 3 x0 x1) o3) fun v4 o4 =>
 condS v4 (retV tab nl o4 (resC1 (some (SV.v (.int .i64 1))) (some [])))
 (retV tab nl o4 (resC1 (some (SV.v (.int .i64 0))) (some []))))))
noncomputable def bk85_2 (K : Nat → List SV → List SO → Out) (N nl : Nat) (m2 : Nat) : Env → List SO → Out := fun env os => loopS nl (fi85.lp 2) (fun env os nx => exec (cx K) N nl fi85 (subC c85 [1, 0, 1, 0, 0]) env os (kLoop nx (kBlock 0 (kSeq (exec (cx K) N nl fi85 (subC c85 [1, 1])) (fi85.jn 7) (kEnd tab [] nl rs85))))) m2 (killS (fi85.lp 2).alive env) os
noncomputable def L85_2 (K : Nat → List SV → List SO → Out) (N nl : Nat) (m2 : Nat) (x0 x1 x7 x8 : SV) (os : List SO) : Out := loopS nl (fi85.lp 2) (fun env os nx => exec (cx K) N nl fi85 (subC c85 [1, 0, 1, 0, 0]) env os (kLoop nx (kBlock 0 (kSeq (exec (cx K) N nl fi85 (subC c85 [1, 1])) (fi85.jn 7) (kEnd tab [] nl rs85))))) m2 [(0, x0), (1, x1), (7, x7), (8, x8)] os
noncomputable def LB85_2 (K : Nat → List SV → List SO → Out) (N nl : Nat) (m2 : Nat) (x0 x1 x7 x8 : SV) (os : List SO) : Out :=
 bd (ret1 (binS tab .lss 3 x8 x7) os) fun v2 o2 =>
 condS v2 (bd (ret1 (indexAddrS tab o2 30 x0 x8) o2) fun v3 o3 =>
 bd (ret1 (loadS tab o3 69 v3) o3) fun v4 o4 =>
 bd (calleeS ⟨tab, ownF, K⟩ o4 x1 [v4]) fun v5 o5 =>
 condS v5 (retV tab nl o5 (resC1 (some x8) (some [])))
 (bd (ret1 (binS tab .add 3 x8 (SV.v (.int .i64 1))) o5) fun v6 o6 =>
 L85_2 K N nl m2 x0 x1 x7 v6 o6))
 (retV tab nl o2 (resC1 (some (SV.v (.int .i64 (-1)))) (some [])))
noncomputable def X85 (K : Nat → List SV → List SO → Out) (N nl : Nat) (x0 x1 : SV) (os : List SO) : Out := exec (cx K) N nl fi85 c85 [(0, x0), (1, x1)] os (kEnd tab [] nl rs85)
noncomputable def B85 (K : Nat → List SV → List SO → Out) (N nl : Nat) (x0 x1 : SV) (os : List SO) : Out :=
 bd (lenO tab 30 os x0) fun v1 o1 =>
 L85_2 K N nl N x0 x1 v1 (SV.v (.int .i64 0)) o1
noncomputable def bk86_2 (K : Nat → List SV → List SO → Out) (N nl : Nat) (m2 : Nat) : Env → List SO → Out := fun env os => loopS nl (fi86.lp 2) (fun env os nx => exec (cx K) N nl fi86 (subC c86 [1, 0, 1, 0, 0]) env os (kLoop nx (kBlock 0 (kSeq (exec (cx K) N nl fi86 (subC c86 [1, 1])) (fi86.jn 6) (kEnd tab [] nl rs86))))) m2 (killS (fi86.lp 2).alive env) os
noncomputable def L86_2 (K : Nat → List SV → List SO → Out) (N nl : Nat) (m2 : Nat) (x0 x3 : SV) (os : List SO) : Out := loopS nl (fi86.lp 2) (fun env os nx => exec (cx K) N nl fi86 (subC c86 [1, 0, 1, 0, 0]) env os (kLoop nx (kBlock 0 (kSeq (exec (cx K) N nl fi86 (subC c86 [1, 1])) (fi86.jn 6) (kEnd tab [] nl rs86))))) m2 [(0, x0), (3, x3)] os
noncomputable def LB86_2 (K : Nat → List SV → List SO → Out) (N nl : Nat) (m2 : Nat) (x0 x3 : SV) (os : List SO) : Out :=
 bd (lenO tab 66 os x0) fun v1 o1 =>
 bd (ret1 (binS tab .lss 3 x3 v1) o1) fun v2 o2 =>
 condS v2 (bd (ret1 (indexAddrS tab o2 66 x0 x3) o2) fun v3 o3 =>
 bd (ret1 (fieldAddrS tab 84 v3 0) o3) fun v4 o4 =>
 bd (ret1 (loadS tab o4 3 v4) o4) fun v5 o5 =>
 bd (callS ⟨tab, ownF, K⟩ o5 34 [v5, (SV.v (.int .i64 0)), (SV.v (.int .i64 5))]) fun v6 o6 =>
 bd (ret1 (unS .not v6) o6) fun v7 o7 =>
 bd (gd v7 false (some (x0, o7)) o7) fun v8 o8 =>
 bd (gd v7 false (some (x3, o8)) o8) fun v9 o9 =>
 bd (gd v7 false (ret1 (indexAddrS tab o9 66 v8 v9) o9) o9) fun v10 o10 =>
 bd (gd v7 false (ret1 (fieldAddrS tab 84 v10 1) o10) o10) fun v11 o11 =>
 bd (gd v7 false (ret1 (loadS tab o11 3 v11) o11) o11) fun v12 o12 =>
 bd (gd v7 false (callS ⟨tab, ownF, K⟩ o12 34 [v12, (SV.v (.int .i64 0)), (SV.v (.int .i64 9))]) o12) fun v13 o13 =>
 bd (gd v7 false (ret1 (unS .not v13) o13) o13) fun v14 o14 =>
 bd (ret1 (pickS v7 (SV.v (.bool true)) v14) o14) fun v15 o15 =>
 bd (gd v15 false (some (x3, o15)) o15) fun v16 o16 =>
 bd (gd v15 false (ret1 (binS tab .gtr 3 v16 (SV.v (.int .i64 0))) o16) o16) fun v17 o17 =>
 bd (gd v15 false (some (v17, o17)) o17) fun v18 o18 =>
 bd (gd v18 true (some (x0, o18)) o18) fun v19 o19 =>
 bd (gd v18 true (some (x3, o19)) o19) fun v20 o20 =>
 bd (gd v18 true (ret1 (binS tab .sub 3 v20 (SV.v (.int .i64 1))) o20) o20) fun v21 o21 =>
 bd (gd v18 true (ret1 (indexAddrS tab o21 66 v19 v21) o21) o21) fun v22 o22 =>
 bd (gd v18 true (ret1 (fieldAddrS tab 84 v22 0) o22) o22) fun v23 o23 =>
 bd (gd v18 true (ret1 (loadS tab o23 3 v23) o23) o23) fun v24 o24 =>
 bd (gd v18 true (some (x0, o24)) o24) fun v25 o25 =>
 bd (gd v18 true (some (x3, o25)) o25) fun v26 o26 =>
 bd (gd v18 true (ret1 (indexAddrS tab o26 66 v25 v26) o26) o26) fun v27 o27 =>
 bd (gd v18 true (ret1 (fieldAddrS tab 84 v27 0) o27) o27) fun v28 o28 =>
 bd (gd v18 true (ret1 (loadS tab o28 3 v28) o28) o28) fun v29 o29 =>
 bd (gd v18 true (ret1 (binS tab .geq 3 v24 v29) o29) o29) fun v30 o30 =>
 bd (gd v15 false (ret1 (pickS v18 v30 (SV.v (.bool false))) o30) o30) fun v31 o31 =>
 bd (ret1 (pickS v15 (SV.v (.bool true)) v31) o31) fun v32 o32 =>
 condS v32 (retV tab nl o32 (resC1 (some (SV.v (.bool false))) (some [])))
 (bd (ret1 (binS tab .add 3 x3 (SV.v (.int .i64 1))) o32) fun v33 o33 =>
 L86_2 K N nl m2 x0 v33 o33))
 (bd (lenO tab 66 o2 x0) fun v34 o34 =>
 bd (ret1 (binS tab .leq 3 v34 (SV.v (.int .i64 2))) o34) fun v35 o35 =>
 retV tab nl o35 (resC1 (some v35) (some [])))
noncomputable def X86 (K : Nat → List SV → List SO → Out) (N nl : Nat) (x0 : SV) (os : List SO) : Out := exec (cx K) N nl fi86 c86 [(0, x0)] os (kEnd tab [] nl rs86)
noncomputable def B86 (K : Nat → List SV → List SO → Out) (N nl : Nat) (x0 : SV) (os : List SO) : Out :=
 L86_2 K N nl N x0 (SV.v (.int .i64 0)) os
noncomputable def bk87_2 (K : Nat → List SV → List SO → Out) (N nl : Nat) (m2 : Nat) : Env → List SO → Out := fun env os => loopS nl (fi87.lp 2) (fun env os nx => exec (cx K) N nl fi87 (subC c87 [1, 0, 1, 0, 0]) env os (kLoop nx (kBlock 0 (kSeq (exec (cx K) N nl fi87 (subC c87 [1, 1])) (fi87.jn 7) (kEnd tab [] nl rs87))))) m2 (killS (fi87.lp 2).alive env) os
noncomputable def L87_2 (K : Nat → List SV → List SO → Out) (N nl : Nat) (m2 : Nat) (x0 x1 x5 : SV) (os : List SO) : Out := loopS nl (fi87.lp 2) (fun env os nx => exec (cx K) N nl fi87 (subC c87 [1, 0, 1, 0, 0]) env os (kLoop nx (kBlock 0 (kSeq (exec (cx K) N nl fi87 (subC c87 [1, 1])) (fi87.jn 7) (kEnd tab [] nl rs87))))) m2 [(0, x0), (1, x1), (5, x5)] os
noncomputable def G87_2 (K : Nat → List SV → List SO → Out) (N nl : Nat) (m2 : Nat) (xs : List SV) (os : List SO) : Out := (fun env os nx => exec (cx K) N nl fi87 (subC c87 [1, 0, 1, 0, 0]) env os (kLoop nx (kBlock 0 (kSeq (exec (cx K) N nl fi87 (subC c87 [1, 1])) (fi87.jn 7) (kEnd tab [] nl rs87))))) (zipE [0, 1, 5] xs) os (bk87_2 K N nl m2)
noncomputable def GB87_2 (K : Nat → List SV → List SO → Out) (N nl : Nat) (m2 : Nat) (x0 x1 x5 : SV) (os : List SO) : Out :=
 bd (lenO tab 67 os x1) fun v1 o1 =>
 bd (ret1 (binS tab .lss 3 x5 v1) o1) fun v2 o2 =>
 condS v2 (bd (ret1 (indexAddrS tab o2 67 x1 x5) o2) fun v3 o3 =>
 bd (ret1 (loadS tab o3 81 v3) o3) fun v4 o4 =>
 bd (allocS tab o4 81) fun v5 o5 =>
 bd (storeO tab o5 81 v5 (some v4)) fun v6 o6 =>
 bd (ret1 (fieldAddrS tab 81 v5 0) o6) fun v7 o7 =>
 bd (ret1 (loadS tab o7 3 v7) o7) fun v8 o8 =>
 bd (callS ⟨tab, ownF, K⟩ o8 34 [v8, (SV.v (.int .i64 1)), (SV.v (.int .i64 4))]) fun v9 o9 =>
 bd (ret1 (unS .not v9) o9) fun v10 o10 =>
 bd (gd v10 false (ret1 (fieldAddrS tab 81 v5 0) o10) o10) fun v11 o11 =>
 bd (gd v10 false (ret1 (loadS tab o11 3 v11) o11) o11) fun v12 o12 =>
 bd (gd v10 false (some (x0, o12)) o12) fun v13 o13 =>
 bd (gd v10 false (ret1 (binS tab .eql 3 v12 v13) o13) o13) fun v14 o14 =>
 bd (ret1 (pickS v10 (SV.v (.bool true)) v14) o14) fun v15 o15 =>
 bd (gd v15 false (ret1 (fieldAddrS tab 81 v5 1) o15) o15) fun v16 o16 =>
 bd (gd v15 false (ret1 (loadS tab o16 3 v16) o16) o16) fun v17 o17 =>
 bd (gd v15 false (callS ⟨tab, ownF, K⟩ o17 34 [v17, (SV.v (.int .i64 1)), (SV.v (.int .i64 5))]) o17) fun v18 o18 =>
 bd (gd v15 false (ret1 (unS .not v18) o18) o18) fun v19 o19 =>
 bd (ret1 (pickS v15 (SV.v (.bool true)) v19) o19) fun v20 o20 =>
 bd (gd v20 false (some (x5, o20)) o20) fun v21 o21 =>
 bd (gd v20 false (ret1 (binS tab .gtr 3 v21 (SV.v (.int .i64 0))) o21) o21) fun v22 o22 =>
 bd (gd v20 false (some (v22, o22)) o22) fun v23 o23 =>
 bd (gd v23 true (some (x1, o23)) o23) fun v24 o24 =>
 bd (gd v23 true (some (x5, o24)) o24) fun v25 o25 =>
 bd (gd v23 true (ret1 (binS tab .sub 3 v25 (SV.v (.int .i64 1))) o25) o25) fun v26 o26 =>
 bd (gd v23 true (ret1 (indexAddrS tab o26 67 v24 v26) o26) o26) fun v27 o27 =>
 bd (gd v23 true (ret1 (fieldAddrS tab 81 v27 0) o27) o27) fun v28 o28 =>
 bd (gd v23 true (ret1 (loadS tab o28 3 v28) o28) o28) fun v29 o29 =>
 bd (gd v23 true (ret1 (fieldAddrS tab 81 v5 0) o29) o29) fun v30 o30 =>
 bd (gd v23 true (ret1 (loadS tab o30 3 v30) o30) o30) fun v31 o31 =>
 bd (gd v23 true (ret1 (binS tab .geq 3 v29 v31) o31) o31) fun v32 o32 =>
 bd (gd v20 false (ret1 (pickS v23 v32 (SV.v (.bool false))) o32) o32) fun v33 o33 =>
 bd (ret1 (pickS v20 (SV.v (.bool true)) v33) o33) fun v34 o34 =>
 condS v34 (retV tab nl o34 (resC1 (some (SV.v (.bool false))) (some [])))
 (bd (ret1 (binS tab .add 3 x5 (SV.v (.int .i64 1))) o34) fun v35 o35 =>
 L87_2 K N nl m2 x0 x1 v35 o35))
 (bd (lenO tab 67 o2 x1) fun v36 o36 =>
 bd (ret1 (binS tab .leq 3 v36 (SV.v (.int .i64 2))) o36) fun v37 o37 =>
 retV tab nl o37 (resC1 (some v37) (some [])))
noncomputable def X87 (K : Nat → List SV → List SO → Out) (N nl : Nat) (x0 x1 : SV) (os : List SO) : Out := exec (cx K) N nl fi87 c87 [(0, x0), (1, x1)] os (kEnd tab [] nl rs87)
noncomputable def B87 (K : Nat → List SV → List SO → Out) (N nl : Nat) (x0 x1 : SV) (os : List SO) : Out :=
 L87_2 K N nl N x0 x1 (SV.v (.int .i64 0)) os
noncomputable def X88 (K : Nat → List SV → List SO → Out) (N nl : Nat) (x0 : SV) (os : List SO) : Out := exec (cx K) N nl fi88 c88 [(0, x0)] os (kEnd tab [] nl rs88)
noncomputable def B88 (K : Nat → List SV → List SO → Out) (N nl : Nat) (x0 : SV) (os : List SO) : Out :=
 bd (ret1 (binS tab .neq 3 x0 x0) os) fun v1 o1 =>
 retV tab nl o1 (resC1 (some v1) (some []))
theorem J3_9_s (K : Nat → List SV → List SO → Out) (N nl : Nat) (x2 x3 x6 x7 : SV) (os : List SO) : J3_9 K N nl x2 x3 x6 x7 os = JB3_9 K N nl x2 x3 x6 x7 os := by kernel_rfl
theorem J3_32_s (K : Nat → List SV → List SO → Out) (N nl : Nat) (x6 x7 x10 x13 x15 x16 : SV) (os : List SO) : J3_32 K N nl x6 x7 x10 x13 x15 x16 os = JB3_32 K N nl x6 x7 x10 x13 x15 x16 os := by kernel_rfl
theorem X3_s (K : Nat → List SV → List SO → Out) (N nl : Nat) (x0 x1 : SV) (os : List SO) : X3 K N nl x0 x1 os = B3 K N nl x0 x1 os := by kernel_rfl
theorem E3 (n : Nat) (x0 x1 : SV) (os : List SO) : callF prg (n + 1) 3 [x0, x1] os = X3 (callF prg n) (n + 1) os.length x0 x1 os := by kernel_rfl
theorem U3 {Q : SV → List SO → Prop} {x0 x1 : SV} {os : List SO} {nl : Nat} (hnl : os.length = nl) (h : Ev (fun n => B3 (callF prg n) (n + 1) nl x0 x1 os) Q) : Ev (fun n => callF prg n 3 [x0, x1] os) Q := by subst hnl; exact ev_fun (fun n => (E3 n _ _ _).trans (X3_s _ _ _ _ _ _)) h
theorem X4_s (K : Nat → List SV → List SO → Out) (N nl : Nat) (x0 x1 : SV) (os : List SO) : X4 K N nl x0 x1 os = B4 K N nl x0 x1 os := by kernel_rfl
theorem E4 (n : Nat) (x0 x1 : SV) (os : List SO) : callF prg (n + 1) 4 [x0, x1] os = X4 (callF prg n) (n + 1) os.length x0 x1 os := by kernel_rfl
theorem U4 {Q : SV → List SO → Prop} {x0 x1 : SV} {os : List SO} {nl : Nat} (hnl : os.length = nl) (h : Ev (fun n => B4 (callF prg n) (n + 1) nl x0 x1 os) Q) : Ev (fun n => callF prg n 4 [x0, x1] os) Q := by subst hnl; exact ev_fun (fun n => (E4 n _ _ _).trans (X4_s _ _ _ _ _ _)) h
theorem X5_s (K : Nat → List SV → List SO → Out) (N nl : Nat) (x0 x1 : SV) (os : List SO) : X5 K N nl x0 x1 os = B5 K N nl x0 x1 os := by kernel_rfl
theorem E5 (n : Nat) (x0 x1 : SV) (os : List SO) : callF prg (n + 1) 5 [x0, x1] os = X5 (callF prg n) (n + 1) os.length x0 x1 os := by kernel_rfl
theorem U5 {Q : SV → List SO → Prop} {x0 x1 : SV} {os : List SO} {nl : Nat} (hnl : os.length = nl) (h : Ev (fun n => B5 (callF prg n) (n + 1) nl x0 x1 os) Q) : Ev (fun n => callF prg n 5 [x0, x1] os) Q := by subst hnl; exact ev_fun (fun n => (E5 n _ _ _).trans (X5_s _ _ _ _ _ _)) h
theorem X6_s (K : Nat → List SV → List SO → Out) (N nl : Nat) (x0 x1 : SV) (os : List SO) : X6 K N nl x0 x1 os = B6 K N nl x0 x1 os := by kernel_rfl
theorem X7_s (K : Nat → List SV → List SO → Out) (N nl : Nat) (x0 : SV) (os : List SO) : X7 K N nl x0 os = B7 K N nl x0 os := by kernel_rfl
theorem X8_s (K : Nat → List SV → List SO → Out) (N nl : Nat) (x0 : SV) (os : List SO) : X8 K N nl x0 os = B8 K N nl x0 os := by kernel_rfl
theorem X9_s (K : Nat → List SV → List SO → Out) (N nl : Nat) (x0 x1 : SV) (os : List SO) : X9 K N nl x0 x1 os = B9 K N nl x0 x1 os := by kernel_rfl
theorem X10_s (K : Nat → List SV → List SO → Out) (N nl : Nat) (x0 x1 : SV) (os : List SO) : X10 K N nl x0 x1 os = B10 K N nl x0 x1 os := by kernel_rfl
theorem E10 (n : Nat) (x0 x1 : SV) (os : List SO) : callF prg (n + 1) 10 [x0, x1] os = X10 (callF prg n) (n + 1) os.length x0 x1 os := by kernel_rfl
theorem U10 {Q : SV → List SO → Prop} {x0 x1 : SV} {os : List SO} {nl : Nat} (hnl : os.length = nl) (h : Ev (fun n => B10 (callF prg n) (n + 1) nl x0 x1 os) Q) : Ev (fun n => callF prg n 10 [x0, x1] os) Q := by subst hnl; exact ev_fun (fun n => (E10 n _ _ _).trans (X10_s _ _ _ _ _ _)) h
theorem X11_s (K : Nat → List SV → List SO → Out) (N nl : Nat) (x0 x1 : SV) (os : List SO) : X11 K N nl x0 x1 os = B11 K N nl x0 x1 os := by kernel_rfl
theorem E11 (n : Nat) (x0 x1 : SV) (os : List SO) : callF prg (n + 1) 11 [x0, x1] os = X11 (callF prg n) (n + 1) os.length x0 x1 os := by kernel_rfl
theorem U11 {Q : SV → List SO → Prop} {x0 x1 : SV} {os : List SO} {nl : Nat} (hnl : os.length = nl) (h : Ev (fun n => B11 (callF prg n) (n + 1) nl x0 x1 os) Q) : Ev (fun n => callF prg n 11 [x0, x1] os) Q := by subst hnl; exact ev_fun (fun n => (E11 n _ _ _).trans (X11_s _ _ _ _ _ _)) h
theorem X12_s (K : Nat → List SV → List SO → Out) (N nl : Nat) (x0 x1 : SV) (os : List SO) : X12 K N nl x0 x1 os = B12 K N nl x0 x1 os := by kernel_rfl
theorem X13_s (K : Nat → List SV → List SO → Out) (N nl : Nat) (x0 x1 : SV) (os : List SO) : X13 K N nl x0 x1 os = B13 K N nl x0 x1 os := by kernel_rfl
theorem X14_s (K : Nat → List SV → List SO → Out) (N nl : Nat) (x0 x1 : SV) (os : List SO) : X14 K N nl x0 x1 os = B14 K N nl x0 x1 os := by kernel_rfl
theorem E14 (n : Nat) (x0 x1 : SV) (os : List SO) : callF prg (n + 1) 14 [x0, x1] os = X14 (callF prg n) (n + 1) os.length x0 x1 os := by kernel_rfl
theorem U14 {Q : SV → List SO → Prop} {x0 x1 : SV} {os : List SO} {nl : Nat} (hnl : os.length = nl) (h : Ev (fun n => B14 (callF prg n) (n + 1) nl x0 x1 os) Q) : Ev (fun n => callF prg n 14 [x0, x1] os) Q := by subst hnl; exact ev_fun (fun n => (E14 n _ _ _).trans (X14_s _ _ _ _ _ _)) h
theorem L15_5_s (K : Nat → List SV → List SO → Out) (N nl : Nat) (m5 : Nat) (x0 x1 x5 : SV) (os : List SO) : L15_5 K N nl (m5 + 1) x0 x1 x5 os = LB15_5 K N nl m5 x0 x1 x5 os := by kernel_rfl
theorem UL15_5 {nl c : Nat} {Q : SV → List SO → Prop} {x0 x1 x5 : SV} {os : List SO} (h : Ev (fun n => LB15_5 (callF prg n) (n + 1) nl (n + 1 - (c + 1)) x0 x1 x5 os) Q) : Ev (fun n => L15_5 (callF prg n) (n + 1) nl (n + 1 - c) x0 x1 x5 os) Q := ev_loop (L := fun n m => L15_5 (callF prg n) (n + 1) nl m x0 x1 x5 os) (fun n m => L15_5_s _ _ _ _ _ _ _ _) h
theorem X15_s (K : Nat → List SV → List SO → Out) (N nl : Nat) (x0 x1 : SV) (os : List SO) : X15 K N nl x0 x1 os = B15 K N nl x0 x1 os := by kernel_rfl
theorem E15 (n : Nat) (x0 x1 : SV) (os : List SO) : callF prg (n + 1) 15 [x0, x1] os = X15 (callF prg n) (n + 1) os.length x0 x1 os := by kernel_rfl
theorem U15 {Q : SV → List SO → Prop} {x0 x1 : SV} {os : List SO} {nl : Nat} (hnl : os.length = nl) (h : Ev (fun n => B15 (callF prg n) (n + 1) nl x0 x1 os) Q) : Ev (fun n => callF prg n 15 [x0, x1] os) Q := by subst hnl; exact ev_fun (fun n => (E15 n _ _ _).trans (X15_s _ _ _ _ _ _)) h
theorem X16_s (K : Nat → List SV → List SO → Out) (N nl : Nat) (x0 x1 : SV) (os : List SO) : X16 K N nl x0 x1 os = B16 K N nl x0 x1 os := by kernel_rfl
theorem E16 (n : Nat) (x0 x1 : SV) (os : List SO) : callF prg (n + 1) 16 [x0, x1] os = X16 (callF prg n) (n + 1) os.length x0 x1 os := by kernel_rfl
theorem U16 {Q : SV → List SO → Prop} {x0 x1 : SV} {os : List SO} {nl : Nat} (hnl : os.length = nl) (h : Ev (fun n => B16 (callF prg n) (n + 1) nl x0 x1 os) Q) : Ev (fun n => callF prg n 16 [x0, x1] os) Q := by subst hnl; exact ev_fun (fun n => (E16 n _ _ _).trans (X16_s _ _ _ _ _ _)) h
theorem L17_2_s (K : Nat → List SV → List SO → Out) (N nl : Nat) (m2 : Nat) (x1 x3 : SV) (os : List SO) : L17_2 K N nl (m2 + 1) x1 x3 os = LB17_2 K N nl m2 x1 x3 os := by kernel_rfl
theorem UL17_2 {nl c : Nat} {Q : SV → List SO → Prop} {x1 x3 : SV} {os : List SO} (h : Ev (fun n => LB17_2 (callF prg n) (n + 1) nl (n + 1 - (c + 1)) x1 x3 os) Q) : Ev (fun n => L17_2 (callF prg n) (n + 1) nl (n + 1 - c) x1 x3 os) Q := ev_loop (L := fun n m => L17_2 (callF prg n) (n + 1) nl m x1 x3 os) (fun n m => L17_2_s _ _ _ _ _ _ _) h
theorem X17_s (K : Nat → List SV → List SO → Out) (N nl : Nat) (x0 : SV) (os : List SO) : X17 K N nl x0 os = B17 K N nl x0 os := by kernel_rfl
theorem E17 (n : Nat) (x0 : SV) (os : List SO) : callF prg (n + 1) 17 [x0] os = X17 (callF prg n) (n + 1) os.length x0 os := by kernel_rfl
theorem U17 {Q : SV → List SO → Prop} {x0 : SV} {os : List SO} {nl : Nat} (hnl : os.length = nl) (h : Ev (fun n => B17 (callF prg n) (n + 1) nl x0 os) Q) : Ev (fun n => callF prg n 17 [x0] os) Q := by subst hnl; exact ev_fun (fun n => (E17 n _ _).trans (X17_s _ _ _ _ _)) h
theorem X18_s (K : Nat → List SV → List SO → Out) (N nl : Nat) (x0 : SV) (os : List SO) : X18 K N nl x0 os = B18 K N nl x0 os := by kernel_rfl
theorem E18 (n : Nat) (x0 : SV) (os : List SO) : callF prg (n + 1) 18 [x0] os = X18 (callF prg n) (n + 1) os.length x0 os := by kernel_rfl
theorem U18 {Q : SV → List SO → Prop} {x0 : SV} {os : List SO} {nl : Nat} (hnl : os.length = nl) (h : Ev (fun n => B18 (callF prg n) (n + 1) nl x0 os) Q) : Ev (fun n => callF prg n 18 [x0] os) Q := by subst hnl; exact ev_fun (fun n => (E18 n _ _).trans (X18_s _ _ _ _ _)) h
theorem J19_6_s (K : Nat → List SV → List SO → Out) (N nl : Nat) (x2 x4 : SV) (os : List SO) : J19_6 K N nl x2 x4 os = JB19_6 K N nl x2 x4 os := by kernel_rfl
theorem UJ19_6 {nl : Nat} {Q : SV → List SO → Prop} {x2 x4 : SV} {os : List SO} (h : Ev (fun n => JB19_6 (callF prg n) (n + 1) nl x2 x4 os) Q) : Ev (fun n => J19_6 (callF prg n) (n + 1) nl x2 x4 os) Q := ev_eq (fun n => J19_6_s _ _ _ _ _ _) h
theorem X19_s (K : Nat → List SV → List SO → Out) (N nl : Nat) (x0 x1 : SV) (os : List SO) : X19 K N nl x0 x1 os = B19 K N nl x0 x1 os := by kernel_rfl
theorem X20_s (K : Nat → List SV → List SO → Out) (N nl : Nat) (x0 : SV) (os : List SO) : X20 K N nl x0 os = B20 K N nl x0 os := by kernel_rfl
theorem L21_3_s (K : Nat → List SV → List SO → Out) (N nl : Nat) (m3 : Nat) (x0 x3 x4 : SV) (os : List SO) : L21_3 K N nl (m3 + 1) x0 x3 x4 os = gcB nl [x0, x3, x4] os fun xs os => G21_3 K N nl m3 xs os := by kernel_rfl
theorem UL21_3 {nl c : Nat} {Q : SV → List SO → Prop} {x0 x3 x4 : SV} {os : List SO} (h : Ev (fun n => gcB nl [x0, x3, x4] os fun xs os => G21_3 (callF prg n) (n + 1) nl (n + 1 - (c + 1)) xs os) Q) : Ev (fun n => L21_3 (callF prg n) (n + 1) nl (n + 1 - c) x0 x3 x4 os) Q := ev_loop (L := fun n m => L21_3 (callF prg n) (n + 1) nl m x0 x3 x4 os) (fun n m => L21_3_s _ _ _ _ _ _ _ _) h
theorem VL21_3 {nl : Nat} {Q : SV → List SO → Prop} {x0 x3 x4 : SV} {os : List SO} (h : Ev (fun n => gcB nl [x0, x3, x4] os fun xs os => G21_3 (callF prg n) (n + 1) nl (n + 1 - 1) xs os) Q) : Ev (fun n => L21_3 (callF prg n) (n + 1) nl (n + 1) x0 x3 x4 os) Q := UL21_3 (c := 0) h
theorem G21_3_s (K : Nat → List SV → List SO → Out) (N nl : Nat) (m3 : Nat) (x0 x3 x4 : SV) (os : List SO) : G21_3 K N nl m3 [x0, x3, x4] os = GB21_3 K N nl m3 x0 x3 x4 os := by kernel_rfl
theorem UG21_3 {nl : Nat} {Q : SV → List SO → Prop} (m3 : Nat → Nat) {x0 x3 x4 : SV} {os : List SO} (h : Ev (fun n => GB21_3 (callF prg n) (n + 1) nl (m3 n) x0 x3 x4 os) Q) : Ev (fun n => G21_3 (callF prg n) (n + 1) nl (m3 n) [x0, x3, x4] os) Q := ev_eq (fun n => G21_3_s _ _ _ _ _ _ _ _) h
theorem X21_s (K : Nat → List SV → List SO → Out) (N nl : Nat) (x0 : SV) (os : List SO) : X21 K N nl x0 os = B21 K N nl x0 os := by kernel_rfl
theorem E21 (n : Nat) (x0 : SV) (os : List SO) : callF prg (n + 1) 21 [x0] os = X21 (callF prg n) (n + 1) os.length x0 os := by kernel_rfl
theorem U21 {Q : SV → List SO → Prop} {x0 : SV} {os : List SO} {nl : Nat} (hnl : os.length = nl) (h : Ev (fun n => B21 (callF prg n) (n + 1) nl x0 os) Q) : Ev (fun n => callF prg n 21 [x0] os) Q := by subst hnl; exact ev_fun (fun n => (E21 n _ _).trans (X21_s _ _ _ _ _)) h
theorem L22_3_s (K : Nat → List SV → List SO → Out) (N nl : Nat) (m3 : Nat) (x0 x3 x4 : SV) (os : List SO) : L22_3 K N nl (m3 + 1) x0 x3 x4 os = LB22_3 K N nl m3 x0 x3 x4 os := by kernel_rfl
theorem UL22_3 {nl c : Nat} {Q : SV → List SO → Prop} {x0 x3 x4 : SV} {os : List SO} (h : Ev (fun n => LB22_3 (callF prg n) (n + 1) nl (n + 1 - (c + 1)) x0 x3 x4 os) Q) : Ev (fun n => L22_3 (callF prg n) (n + 1) nl (n + 1 - c) x0 x3 x4 os) Q := ev_loop (L := fun n m => L22_3 (callF prg n) (n + 1) nl m x0 x3 x4 os) (fun n m => L22_3_s _ _ _ _ _ _ _ _) h
theorem X22_s (K : Nat → List SV → List SO → Out) (N nl : Nat) (x0 : SV) (os : List SO) : X22 K N nl x0 os = B22 K N nl x0 os := by kernel_rfl
theorem E22 (n : Nat) (x0 : SV) (os : List SO) : callF prg (n + 1) 22 [x0] os = X22 (callF prg n) (n + 1) os.length x0 os := by kernel_rfl
theorem U22 {Q : SV → List SO → Prop} {x0 : SV} {os : List SO} {nl : Nat} (hnl : os.length = nl) (h : Ev (fun n => B22 (callF prg n) (n + 1) nl x0 os) Q) : Ev (fun n => callF prg n 22 [x0] os) Q := by subst hnl; exact ev_fun (fun n => (E22 n _ _).trans (X22_s _ _ _ _ _)) h
theorem X23_s (K : Nat → List SV → List SO → Out) (N nl : Nat) (x0 : SV) (os : List SO) : X23 K N nl x0 os = B23 K N nl x0 os := by kernel_rfl
theorem E23 (n : Nat) (x0 : SV) (os : List SO) : callF prg (n + 1) 23 [x0] os = X23 (callF prg n) (n + 1) os.length x0 os := by kernel_rfl
theorem U23 {Q : SV → List SO → Prop} {x0 : SV} {os : List SO} {nl : Nat} (hnl : os.length = nl) (h : Ev (fun n => B23 (callF prg n) (n + 1) nl x0 os) Q) : Ev (fun n => callF prg n 23 [x0] os) Q := by subst hnl; exact ev_fun (fun n => (E23 n _ _).trans (X23_s _ _ _ _ _)) h
theorem J24_11_s (K : Nat → List SV → List SO → Out) (N nl : Nat) (x3 x4 : SV) (os : List SO) : J24_11 K N nl x3 x4 os = JB24_11 K N nl x3 x4 os := by kernel_rfl
theorem UJ24_11 {nl : Nat} {Q : SV → List SO → Prop} {x3 x4 : SV} {os : List SO} (h : Ev (fun n => JB24_11 (callF prg n) (n + 1) nl x3 x4 os) Q) : Ev (fun n => J24_11 (callF prg n) (n + 1) nl x3 x4 os) Q := ev_eq (fun n => J24_11_s _ _ _ _ _ _) h
theorem X24_s (K : Nat → List SV → List SO → Out) (N nl : Nat) (x0 : SV) (os : List SO) : X24 K N nl x0 os = B24 K N nl x0 os := by kernel_rfl
theorem E24 (n : Nat) (x0 : SV) (os : List SO) : callF prg (n + 1) 24 [x0] os = X24 (callF prg n) (n + 1) os.length x0 os := by kernel_rfl
theorem U24 {Q : SV → List SO → Prop} {x0 : SV} {os : List SO} {nl : Nat} (hnl : os.length = nl) (h : Ev (fun n => B24 (callF prg n) (n + 1) nl x0 os) Q) : Ev (fun n => callF prg n 24 [x0] os) Q := by subst hnl; exact ev_fun (fun n => (E24 n _ _).trans (X24_s _ _ _ _ _)) h
theorem X25_s (K : Nat → List SV → List SO → Out) (N nl : Nat) (x0 : SV) (os : List SO) : X25 K N nl x0 os = B25 K N nl x0 os := by kernel_rfl
theorem X26_s (K : Nat → List SV → List SO → Out) (N nl : Nat) (x0 x1 : SV) (os : List SO) : X26 K N nl x0 x1 os = B26 K N nl x0 x1 os := by kernel_rfl
theorem L27_4_s (K : Nat → List SV → List SO → Out) (N nl : Nat) (m4 : Nat) (x0 x1 x5 : SV) (os : List SO) : L27_4 K N nl (m4 + 1) x0 x1 x5 os = LB27_4 K N nl m4 x0 x1 x5 os := by kernel_rfl
theorem UL27_4 {nl c : Nat} {Q : SV → List SO → Prop} {x0 x1 x5 : SV} {os : List SO} (h : Ev (fun n => LB27_4 (callF prg n) (n + 1) nl (n + 1 - (c + 1)) x0 x1 x5 os) Q) : Ev (fun n => L27_4 (callF prg n) (n + 1) nl (n + 1 - c) x0 x1 x5 os) Q := ev_loop (L := fun n m => L27_4 (callF prg n) (n + 1) nl m x0 x1 x5 os) (fun n m => L27_4_s _ _ _ _ _ _ _ _) h
theorem X27_s (K : Nat → List SV → List SO → Out) (N nl : Nat) (x0 x1 : SV) (os : List SO) : X27 K N nl x0 x1 os = B27 K N nl x0 x1 os := by kernel_rfl
theorem E27 (n : Nat) (x0 x1 : SV) (os : List SO) : callF prg (n + 1) 27 [x0, x1] os = X27 (callF prg n) (n + 1) os.length x0 x1 os := by kernel_rfl
theorem U27 {Q : SV → List SO → Prop} {x0 x1 : SV} {os : List SO} {nl : Nat} (hnl : os.length = nl) (h : Ev (fun n => B27 (callF prg n) (n + 1) nl x0 x1 os) Q) : Ev (fun n => callF prg n 27 [x0, x1] os) Q := by subst hnl; exact ev_fun (fun n => (E27 n _ _ _).trans (X27_s _ _ _ _ _ _)) h
theorem L28_4_s (K : Nat → List SV → List SO → Out) (N nl : Nat) (m4 : Nat) (x0 x1 x5 : SV) (os : List SO) : L28_4 K N nl (m4 + 1) x0 x1 x5 os = LB28_4 K N nl m4 x0 x1 x5 os := by kernel_rfl
theorem UL28_4 {nl c : Nat} {Q : SV → List SO → Prop} {x0 x1 x5 : SV} {os : List SO} (h : Ev (fun n => LB28_4 (callF prg n) (n + 1) nl (n + 1 - (c + 1)) x0 x1 x5 os) Q) : Ev (fun n => L28_4 (callF prg n) (n + 1) nl (n + 1 - c) x0 x1 x5 os) Q := ev_loop (L := fun n m => L28_4 (callF prg n) (n + 1) nl m x0 x1 x5 os) (fun n m => L28_4_s _ _ _ _ _ _ _ _) h
theorem X28_s (K : Nat → List SV → List SO → Out) (N nl : Nat) (x0 x1 : SV) (os : List SO) : X28 K N nl x0 x1 os = B28 K N nl x0 x1 os := by kernel_rfl
theorem E28 (n : Nat) (x0 x1 : SV) (os : List SO) : callF prg (n + 1) 28 [x0, x1] os = X28 (callF prg n) (n + 1) os.length x0 x1 os := by kernel_rfl
theorem U28 {Q : SV → List SO → Prop} {x0 x1 : SV} {os : List SO} {nl : Nat} (hnl : os.length = nl) (h : Ev (fun n => B28 (callF prg n) (n + 1) nl x0 x1 os) Q) : Ev (fun n => callF prg n 28 [x0, x1] os) Q := by subst hnl; exact ev_fun (fun n => (E28 n _ _ _).trans (X28_s _ _ _ _ _ _)) h
theorem L29_2_s (K : Nat → List SV → List SO → Out) (N nl : Nat) (m2 : Nat) (x0 x1 x5 : SV) (os : List SO) : L29_2 K N nl (m2 + 1) x0 x1 x5 os = LB29_2 K N nl m2 x0 x1 x5 os := by kernel_rfl
theorem UL29_2 {nl c : Nat} {Q : SV → List SO → Prop} {x0 x1 x5 : SV} {os : List SO} (h : Ev (fun n => LB29_2 (callF prg n) (n + 1) nl (n + 1 - (c + 1)) x0 x1 x5 os) Q) : Ev (fun n => L29_2 (callF prg n) (n + 1) nl (n + 1 - c) x0 x1 x5 os) Q := ev_loop (L := fun n m => L29_2 (callF prg n) (n + 1) nl m x0 x1 x5 os) (fun n m => L29_2_s _ _ _ _ _ _ _ _) h
theorem VL29_2 {nl : Nat} {Q : SV → List SO → Prop} {x0 x1 x5 : SV} {os : List SO} (h : Ev (fun n => LB29_2 (callF prg n) (n + 1) nl (n + 1 - 1) x0 x1 x5 os) Q) : Ev (fun n => L29_2 (callF prg n) (n + 1) nl (n + 1) x0 x1 x5 os) Q := UL29_2 (c := 0) h
theorem X29_s (K : Nat → List SV → List SO → Out) (N nl : Nat) (x0 x1 : SV) (os : List SO) : X29 K N nl x0 x1 os = B29 K N nl x0 x1 os := by kernel_rfl
theorem E29 (n : Nat) (x0 x1 : SV) (os : List SO) : callF prg (n + 1) 29 [x0, x1] os = X29 (callF prg n) (n + 1) os.length x0 x1 os := by kernel_rfl
theorem U29 {Q : SV → List SO → Prop} {x0 x1 : SV} {os : List SO} {nl : Nat} (hnl : os.length = nl) (h : Ev (fun n => B29 (callF prg n) (n + 1) nl x0 x1 os) Q) : Ev (fun n => callF prg n 29 [x0, x1] os) Q := by subst hnl; exact ev_fun (fun n => (E29 n _ _ _).trans (X29_s _ _ _ _ _ _)) h
theorem L30_2_s (K : Nat → List SV → List SO → Out) (N nl : Nat) (m2 : Nat) (x0 x1 x5 : SV) (os : List SO) : L30_2 K N nl (m2 + 1) x0 x1 x5 os = LB30_2 K N nl m2 x0 x1 x5 os := by kernel_rfl
theorem UL30_2 {nl c : Nat} {Q : SV → List SO → Prop} {x0 x1 x5 : SV} {os : List SO} (h : Ev (fun n => LB30_2 (callF prg n) (n + 1) nl (n + 1 - (c + 1)) x0 x1 x5 os) Q) : Ev (fun n => L30_2 (callF prg n) (n + 1) nl (n + 1 - c) x0 x1 x5 os) Q := ev_loop (L := fun n m => L30_2 (callF prg n) (n + 1) nl m x0 x1 x5 os) (fun n m => L30_2_s _ _ _ _ _ _ _ _) h
theorem X30_s (K : Nat → List SV → List SO → Out) (N nl : Nat) (x0 x1 : SV) (os : List SO) : X30 K N nl x0 x1 os = B30 K N nl x0 x1 os := by kernel_rfl
theorem E30 (n : Nat) (x0 x1 : SV) (os : List SO) : callF prg (n + 1) 30 [x0, x1] os = X30 (callF prg n) (n + 1) os.length x0 x1 os := by kernel_rfl
theorem U30 {Q : SV → List SO → Prop} {x0 x1 : SV} {os : List SO} {nl : Nat} (hnl : os.length = nl) (h : Ev (fun n => B30 (callF prg n) (n + 1) nl x0 x1 os) Q) : Ev (fun n => callF prg n 30 [x0, x1] os) Q := by subst hnl; exact ev_fun (fun n => (E30 n _ _ _).trans (X30_s _ _ _ _ _ _)) h
theorem L31_2_s (K : Nat → List SV → List SO → Out) (N nl : Nat) (m2 : Nat) (x0 x1 x5 : SV) (os : List SO) : L31_2 K N nl (m2 + 1) x0 x1 x5 os = LB31_2 K N nl m2 x0 x1 x5 os := by kernel_rfl
theorem UL31_2 {nl c : Nat} {Q : SV → List SO → Prop} {x0 x1 x5 : SV} {os : List SO} (h : Ev (fun n => LB31_2 (callF prg n) (n + 1) nl (n + 1 - (c + 1)) x0 x1 x5 os) Q) : Ev (fun n => L31_2 (callF prg n) (n + 1) nl (n + 1 - c) x0 x1 x5 os) Q := ev_loop (L := fun n m => L31_2 (callF prg n) (n + 1) nl m x0 x1 x5 os) (fun n m => L31_2_s _ _ _ _ _ _ _ _) h
theorem X31_s (K : Nat → List SV → List SO → Out) (N nl : Nat) (x0 x1 : SV) (os : List SO) : X31 K N nl x0 x1 os = B31 K N nl x0 x1 os := by kernel_rfl
theorem E31 (n : Nat) (x0 x1 : SV) (os : List SO) : callF prg (n + 1) 31 [x0, x1] os = X31 (callF prg n) (n + 1) os.length x0 x1 os := by kernel_rfl
theorem U31 {Q : SV → List SO → Prop} {x0 x1 : SV} {os : List SO} {nl : Nat} (hnl : os.length = nl) (h : Ev (fun n => B31 (callF prg n) (n + 1) nl x0 x1 os) Q) : Ev (fun n => callF prg n 31 [x0, x1] os) Q := by subst hnl; exact ev_fun (fun n => (E31 n _ _ _).trans (X31_s _ _ _ _ _ _)) h
theorem L32_2_s (K : Nat → List SV → List SO → Out) (N nl : Nat) (m2 : Nat) (x0 x1 x5 : SV) (os : List SO) : L32_2 K N nl (m2 + 1) x0 x1 x5 os = LB32_2 K N nl m2 x0 x1 x5 os := by kernel_rfl
theorem UL32_2 {nl c : Nat} {Q : SV → List SO → Prop} {x0 x1 x5 : SV} {os : List SO} (h : Ev (fun n => LB32_2 (callF prg n) (n + 1) nl (n + 1 - (c + 1)) x0 x1 x5 os) Q) : Ev (fun n => L32_2 (callF prg n) (n + 1) nl (n + 1 - c) x0 x1 x5 os) Q := ev_loop (L := fun n m => L32_2 (callF prg n) (n + 1) nl m x0 x1 x5 os) (fun n m => L32_2_s _ _ _ _ _ _ _ _) h
theorem X32_s (K : Nat → List SV → List SO → Out) (N nl : Nat) (x0 x1 : SV) (os : List SO) : X32 K N nl x0 x1 os = B32 K N nl x0 x1 os := by kernel_rfl
theorem E32 (n : Nat) (x0 x1 : SV) (os : List SO) : callF prg (n + 1) 32 [x0, x1] os = X32 (callF prg n) (n + 1) os.length x0 x1 os := by kernel_rfl
theorem U32 {Q : SV → List SO → Prop} {x0 x1 : SV} {os : List SO} {nl : Nat} (hnl : os.length = nl) (h : Ev (fun n => B32 (callF prg n) (n + 1) nl x0 x1 os) Q) : Ev (fun n => callF prg n 32 [x0, x1] os) Q := by subst hnl; exact ev_fun (fun n => (E32 n _ _ _).trans (X32_s _ _ _ _ _ _)) h
theorem X33_s (K : Nat → List SV → List SO → Out) (N nl : Nat) (x0 x1 : SV) (os : List SO) : X33 K N nl x0 x1 os = B33 K N nl x0 x1 os := by kernel_rfl
theorem E33 (n : Nat) (x0 x1 : SV) (os : List SO) : callF prg (n + 1) 33 [x0, x1] os = X33 (callF prg n) (n + 1) os.length x0 x1 os := by kernel_rfl
theorem U33 {Q : SV → List SO → Prop} {x0 x1 : SV} {os : List SO} {nl : Nat} (hnl : os.length = nl) (h : Ev (fun n => B33 (callF prg n) (n + 1) nl x0 x1 os) Q) : Ev (fun n => callF prg n 33 [x0, x1] os) Q := by subst hnl; exact ev_fun (fun n => (E33 n _ _ _).trans (X33_s _ _ _ _ _ _)) h
theorem X34_s (K : Nat → List SV → List SO → Out) (N nl : Nat) (x0 x1 x2 : SV) (os : List SO) : X34 K N nl x0 x1 x2 os = B34 K N nl x0 x1 x2 os := by kernel_rfl
theorem E34 (n : Nat) (x0 x1 x2 : SV) (os : List SO) : callF prg (n + 1) 34 [x0, x1, x2] os = X34 (callF prg n) (n + 1) os.length x0 x1 x2 os := by kernel_rfl
theorem U34 {Q : SV → List SO → Prop} {x0 x1 x2 : SV} {os : List SO} {nl : Nat} (hnl : os.length = nl) (h : Ev (fun n => B34 (callF prg n) (n + 1) nl x0 x1 x2 os) Q) : Ev (fun n => callF prg n 34 [x0, x1, x2] os) Q := by subst hnl; exact ev_fun (fun n => (E34 n _ _ _ _).trans (X34_s _ _ _ _ _ _ _)) h
theorem L35_4_s (K : Nat → List SV → List SO → Out) (N nl : Nat) (m4 : Nat) (x0 x3 : SV) (os : List SO) : L35_4 K N nl (m4 + 1) x0 x3 os = LB35_4 K N nl m4 x0 x3 os := by kernel_rfl
theorem UL35_4 {nl c : Nat} {Q : SV → List SO → Prop} {x0 x3 : SV} {os : List SO} (h : Ev (fun n => LB35_4 (callF prg n) (n + 1) nl (n + 1 - (c + 1)) x0 x3 os) Q) : Ev (fun n => L35_4 (callF prg n) (n + 1) nl (n + 1 - c) x0 x3 os) Q := ev_loop (L := fun n m => L35_4 (callF prg n) (n + 1) nl m x0 x3 os) (fun n m => L35_4_s _ _ _ _ _ _ _) h
theorem L35_7_s (K : Nat → List SV → List SO → Out) (N nl : Nat) (m4 : Nat) (m7 : Nat) (x0 x3 x4 : SV) (os : List SO) : L35_7 K N nl m4 (m7 + 1) x0 x3 x4 os = LB35_7 K N nl m4 m7 x0 x3 x4 os := by kernel_rfl
theorem UL35_7 {nl c : Nat} {Q : SV → List SO → Prop} {m4 : Nat → Nat} {x0 x3 x4 : SV} {os : List SO} (h : Ev (fun n => LB35_7 (callF prg n) (n + 1) nl (m4 n) (n + 1 - (c + 1)) x0 x3 x4 os) Q) : Ev (fun n => L35_7 (callF prg n) (n + 1) nl (m4 n) (n + 1 - c) x0 x3 x4 os) Q := ev_loop (L := fun n m => L35_7 (callF prg n) (n + 1) nl (m4 n) m x0 x3 x4 os) (fun n m => L35_7_s _ _ _ _ _ _ _ _ _) h
theorem L35_12_s (K : Nat → List SV → List SO → Out) (N nl : Nat) (m4 : Nat) (m12 : Nat) (x0 x3 x5 : SV) (os : List SO) : L35_12 K N nl m4 (m12 + 1) x0 x3 x5 os = LB35_12 K N nl m4 m12 x0 x3 x5 os := by kernel_rfl
theorem UL35_12 {nl c : Nat} {Q : SV → List SO → Prop} {m4 : Nat → Nat} {x0 x3 x5 : SV} {os : List SO} (h : Ev (fun n => LB35_12 (callF prg n) (n + 1) nl (m4 n) (n + 1 - (c + 1)) x0 x3 x5 os) Q) : Ev (fun n => L35_12 (callF prg n) (n + 1) nl (m4 n) (n + 1 - c) x0 x3 x5 os) Q := ev_loop (L := fun n m => L35_12 (callF prg n) (n + 1) nl (m4 n) m x0 x3 x5 os) (fun n m => L35_12_s _ _ _ _ _ _ _ _ _) h
theorem X35_s (K : Nat → List SV → List SO → Out) (N nl : Nat) (x0 : SV) (os : List SO) : X35 K N nl x0 os = B35 K N nl x0 os := by kernel_rfl
theorem E35 (n : Nat) (x0 : SV) (os : List SO) : callF prg (n + 1) 35 [x0] os = X35 (callF prg n) (n + 1) os.length x0 os := by kernel_rfl
theorem U35 {Q : SV → List SO → Prop} {x0 : SV} {os : List SO} {nl : Nat} (hnl : os.length = nl) (h : Ev (fun n => B35 (callF prg n) (n + 1) nl x0 os) Q) : Ev (fun n => callF prg n 35 [x0] os) Q := by subst hnl; exact ev_fun (fun n => (E35 n _ _).trans (X35_s _ _ _ _ _)) h
theorem L36_3_s (K : Nat → List SV → List SO → Out) (N nl : Nat) (m3 : Nat) (x0 x3 x4 : SV) (os : List SO) : L36_3 K N nl (m3 + 1) x0 x3 x4 os = gcB nl [x0, x3, x4] os fun xs os => G36_3 K N nl m3 xs os := by kernel_rfl
theorem UL36_3 {nl c : Nat} {Q : SV → List SO → Prop} {x0 x3 x4 : SV} {os : List SO} (h : Ev (fun n => gcB nl [x0, x3, x4] os fun xs os => G36_3 (callF prg n) (n + 1) nl (n + 1 - (c + 1)) xs os) Q) : Ev (fun n => L36_3 (callF prg n) (n + 1) nl (n + 1 - c) x0 x3 x4 os) Q := ev_loop (L := fun n m => L36_3 (callF prg n) (n + 1) nl m x0 x3 x4 os) (fun n m => L36_3_s _ _ _ _ _ _ _ _) h
theorem VL36_3 {nl : Nat} {Q : SV → List SO → Prop} {x0 x3 x4 : SV} {os : List SO} (h : Ev (fun n => gcB nl [x0, x3, x4] os fun xs os => G36_3 (callF prg n) (n + 1) nl (n + 1 - 1) xs os) Q) : Ev (fun n => L36_3 (callF prg n) (n + 1) nl (n + 1) x0 x3 x4 os) Q := UL36_3 (c := 0) h
theorem X36_s (K : Nat → List SV → List SO → Out) (N nl : Nat) (x0 : SV) (os : List SO) : X36 K N nl x0 os = B36 K N nl x0 os := by kernel_rfl
theorem E36 (n : Nat) (x0 : SV) (os : List SO) : callF prg (n + 1) 36 [x0] os = X36 (callF prg n) (n + 1) os.length x0 os := by kernel_rfl
theorem U36 {Q : SV → List SO → Prop} {x0 : SV} {os : List SO} {nl : Nat} (hnl : os.length = nl) (h : Ev (fun n => B36 (callF prg n) (n + 1) nl x0 os) Q) : Ev (fun n => callF prg n 36 [x0] os) Q := by subst hnl; exact ev_fun (fun n => (E36 n _ _).trans (X36_s _ _ _ _ _)) h
theorem X37_s (K : Nat → List SV → List SO → Out) (N nl : Nat) (x0 : SV) (os : List SO) : X37 K N nl x0 os = B37 K N nl x0 os := by kernel_rfl
theorem E37 (n : Nat) (x0 : SV) (os : List SO) : callF prg (n + 1) 37 [x0] os = X37 (callF prg n) (n + 1) os.length x0 os := by kernel_rfl
theorem U37 {Q : SV → List SO → Prop} {x0 : SV} {os : List SO} {nl : Nat} (hnl : os.length = nl) (h : Ev (fun n => B37 (callF prg n) (n + 1) nl x0 os) Q) : Ev (fun n => callF prg n 37 [x0] os) Q := by subst hnl; exact ev_fun (fun n => (E37 n _ _).trans (X37_s _ _ _ _ _)) h
theorem X38_s (K : Nat → List SV → List SO → Out) (N nl : Nat) (x0 : SV) (os : List SO) : X38 K N nl x0 os = B38 K N nl x0 os := by kernel_rfl
theorem E38 (n : Nat) (x0 : SV) (os : List SO) : callF prg (n + 1) 38 [x0] os = X38 (callF prg n) (n + 1) os.length x0 os := by kernel_rfl
theorem U38 {Q : SV → List SO → Prop} {x0 : SV} {os : List SO} {nl : Nat} (hnl : os.length = nl) (h : Ev (fun n => B38 (callF prg n) (n + 1) nl x0 os) Q) : Ev (fun n => callF prg n 38 [x0] os) Q := by subst hnl; exact ev_fun (fun n => (E38 n _ _).trans (X38_s _ _ _ _ _)) h
theorem X39_s (K : Nat → List SV → List SO → Out) (N nl : Nat) (x0 x1 x2 : SV) (os : List SO) : X39 K N nl x0 x1 x2 os = B39 K N nl x0 x1 x2 os := by kernel_rfl
theorem E39 (n : Nat) (x0 x1 x2 : SV) (os : List SO) : callF prg (n + 1) 39 [x0, x1, x2] os = X39 (callF prg n) (n + 1) os.length x0 x1 x2 os := by kernel_rfl
theorem U39 {Q : SV → List SO → Prop} {x0 x1 x2 : SV} {os : List SO} {nl : Nat} (hnl : os.length = nl) (h : Ev (fun n => B39 (callF prg n) (n + 1) nl x0 x1 x2 os) Q) : Ev (fun n => callF prg n 39 [x0, x1, x2] os) Q := by subst hnl; exact ev_fun (fun n => (E39 n _ _ _ _).trans (X39_s _ _ _ _ _ _ _)) h
theorem X40_s (K : Nat → List SV → List SO → Out) (N nl : Nat) (x0 x1 : SV) (os : List SO) : X40 K N nl x0 x1 os = B40 K N nl x0 x1 os := by kernel_rfl
theorem E40 (n : Nat) (x0 x1 : SV) (os : List SO) : callF prg (n + 1) 40 [x0, x1] os = X40 (callF prg n) (n + 1) os.length x0 x1 os := by kernel_rfl
theorem U40 {Q : SV → List SO → Prop} {x0 x1 : SV} {os : List SO} {nl : Nat} (hnl : os.length = nl) (h : Ev (fun n => B40 (callF prg n) (n + 1) nl x0 x1 os) Q) : Ev (fun n => callF prg n 40 [x0, x1] os) Q := by subst hnl; exact ev_fun (fun n => (E40 n _ _ _).trans (X40_s _ _ _ _ _ _)) h
theorem L41_5_s (K : Nat → List SV → List SO → Out) (N nl : Nat) (m5 : Nat) (x1 x3 x11 x12 x13 : SV) (os : List SO) : L41_5 K N nl (m5 + 1) x1 x3 x11 x12 x13 os = gcB nl [x1, x3, x11, x12, x13] os fun xs os => G41_5 K N nl m5 xs os := by kernel_rfl
theorem UL41_5 {nl c : Nat} {Q : SV → List SO → Prop} {x1 x3 x11 x12 x13 : SV} {os : List SO} (h : Ev (fun n => gcB nl [x1, x3, x11, x12, x13] os fun xs os => G41_5 (callF prg n) (n + 1) nl (n + 1 - (c + 1)) xs os) Q) : Ev (fun n => L41_5 (callF prg n) (n + 1) nl (n + 1 - c) x1 x3 x11 x12 x13 os) Q := ev_loop (L := fun n m => L41_5 (callF prg n) (n + 1) nl m x1 x3 x11 x12 x13 os) (fun n m => L41_5_s _ _ _ _ _ _ _ _ _ _) h
theorem VL41_5 {nl : Nat} {Q : SV → List SO → Prop} {x1 x3 x11 x12 x13 : SV} {os : List SO} (h : Ev (fun n => gcB nl [x1, x3, x11, x12, x13] os fun xs os => G41_5 (callF prg n) (n + 1) nl (n + 1 - 1) xs os) Q) : Ev (fun n => L41_5 (callF prg n) (n + 1) nl (n + 1) x1 x3 x11 x12 x13 os) Q := UL41_5 (c := 0) h
theorem G41_5_s (K : Nat → List SV → List SO → Out) (N nl : Nat) (m5 : Nat) (x1 x3 x11 x12 x13 : SV) (os : List SO) : G41_5 K N nl m5 [x1, x3, x11, x12, x13] os = GB41_5 K N nl m5 x1 x3 x11 x12 x13 os := by kernel_rfl
theorem UG41_5 {nl : Nat} {Q : SV → List SO → Prop} (m5 : Nat → Nat) {x1 x3 x11 x12 x13 : SV} {os : List SO} (h : Ev (fun n => GB41_5 (callF prg n) (n + 1) nl (m5 n) x1 x3 x11 x12 x13 os) Q) : Ev (fun n => G41_5 (callF prg n) (n + 1) nl (m5 n) [x1, x3, x11, x12, x13] os) Q := ev_eq (fun n => G41_5_s _ _ _ _ _ _ _ _ _ _) h
theorem L41_10_s (K : Nat → List SV → List SO → Out) (N nl : Nat) (m5 : Nat) (m10 : Nat) (x1 x3 x11 x12 x13 x38 x39 x40 : SV) (os : List SO) : L41_10 K N nl m5 (m10 + 1) x1 x3 x11 x12 x13 x38 x39 x40 os = gcB nl [x1, x3, x11, x12, x13, x38, x39, x40] os fun xs os => G41_10 K N nl m5 m10 xs os := by kernel_rfl
theorem UL41_10 {nl c : Nat} {Q : SV → List SO → Prop} {m5 : Nat → Nat} {x1 x3 x11 x12 x13 x38 x39 x40 : SV} {os : List SO} (h : Ev (fun n => gcB nl [x1, x3, x11, x12, x13, x38, x39, x40] os fun xs os => G41_10 (callF prg n) (n + 1) nl (m5 n) (n + 1 - (c + 1)) xs os) Q) : Ev (fun n => L41_10 (callF prg n) (n + 1) nl (m5 n) (n + 1 - c) x1 x3 x11 x12 x13 x38 x39 x40 os) Q := ev_loop (L := fun n m => L41_10 (callF prg n) (n + 1) nl (m5 n) m x1 x3 x11 x12 x13 x38 x39 x40 os) (fun n m => L41_10_s _ _ _ _ _ _ _ _ _ _ _ _ _ _) h
theorem VL41_10 {nl : Nat} {Q : SV → List SO → Prop} {m5 : Nat → Nat} {x1 x3 x11 x12 x13 x38 x39 x40 : SV} {os : List SO} (h : Ev (fun n => gcB nl [x1, x3, x11, x12, x13, x38, x39, x40] os fun xs os => G41_10 (callF prg n) (n + 1) nl (m5 n) (n + 1 - 1) xs os) Q) : Ev (fun n => L41_10 (callF prg n) (n + 1) nl (m5 n) (n + 1) x1 x3 x11 x12 x13 x38 x39 x40 os) Q := UL41_10 (c := 0) h
theorem G41_10_s (K : Nat → List SV → List SO → Out) (N nl : Nat) (m5 : Nat) (m10 : Nat) (x1 x3 x11 x12 x13 x38 x39 x40 : SV) (os : List SO) : G41_10 K N nl m5 m10 [x1, x3, x11, x12, x13, x38, x39, x40] os = GB41_10 K N nl m5 m10 x1 x3 x11 x12 x13 x38 x39 x40 os := by kernel_rfl
theorem UG41_10 {nl : Nat} {Q : SV → List SO → Prop} {m5 : Nat → Nat} (m10 : Nat → Nat) {x1 x3 x11 x12 x13 x38 x39 x40 : SV} {os : List SO} (h : Ev (fun n => GB41_10 (callF prg n) (n + 1) nl (m5 n) (m10 n) x1 x3 x11 x12 x13 x38 x39 x40 os) Q) : Ev (fun n => G41_10 (callF prg n) (n + 1) nl (m5 n) (m10 n) [x1, x3, x11, x12, x13, x38, x39, x40] os) Q := ev_eq (fun n => G41_10_s _ _ _ _ _ _ _ _ _ _ _ _ _ _) h
theorem X41_s (K : Nat → List SV → List SO → Out) (N nl : Nat) (x0 : SV) (os : List SO) : X41 K N nl x0 os = B41 K N nl x0 os := by kernel_rfl
theorem E41 (n : Nat) (x0 : SV) (os : List SO) : callF prg (n + 1) 41 [x0] os = X41 (callF prg n) (n + 1) os.length x0 os := by kernel_rfl
theorem U41 {Q : SV → List SO → Prop} {x0 : SV} {os : List SO} {nl : Nat} (hnl : os.length = nl) (h : Ev (fun n => B41 (callF prg n) (n + 1) nl x0 os) Q) : Ev (fun n => callF prg n 41 [x0] os) Q := by subst hnl; exact ev_fun (fun n => (E41 n _ _).trans (X41_s _ _ _ _ _)) h
theorem L42_3_s (K : Nat → List SV → List SO → Out) (N nl : Nat) (m3 : Nat) (x3 x6 x7 x8 : SV) (os : List SO) : L42_3 K N nl (m3 + 1) x3 x6 x7 x8 os = gcB nl [x3, x6, x7, x8] os fun xs os => G42_3 K N nl m3 xs os := by kernel_rfl
theorem UL42_3 {nl c : Nat} {Q : SV → List SO → Prop} {x3 x6 x7 x8 : SV} {os : List SO} (h : Ev (fun n => gcB nl [x3, x6, x7, x8] os fun xs os => G42_3 (callF prg n) (n + 1) nl (n + 1 - (c + 1)) xs os) Q) : Ev (fun n => L42_3 (callF prg n) (n + 1) nl (n + 1 - c) x3 x6 x7 x8 os) Q := ev_loop (L := fun n m => L42_3 (callF prg n) (n + 1) nl m x3 x6 x7 x8 os) (fun n m => L42_3_s _ _ _ _ _ _ _ _ _) h
theorem VL42_3 {nl : Nat} {Q : SV → List SO → Prop} {x3 x6 x7 x8 : SV} {os : List SO} (h : Ev (fun n => gcB nl [x3, x6, x7, x8] os fun xs os => G42_3 (callF prg n) (n + 1) nl (n + 1 - 1) xs os) Q) : Ev (fun n => L42_3 (callF prg n) (n + 1) nl (n + 1) x3 x6 x7 x8 os) Q := UL42_3 (c := 0) h
theorem X42_s (K : Nat → List SV → List SO → Out) (N nl : Nat) (x0 : SV) (os : List SO) : X42 K N nl x0 os = B42 K N nl x0 os := by kernel_rfl
theorem E42 (n : Nat) (x0 : SV) (os : List SO) : callF prg (n + 1) 42 [x0] os = X42 (callF prg n) (n + 1) os.length x0 os := by kernel_rfl
theorem U42 {Q : SV → List SO → Prop} {x0 : SV} {os : List SO} {nl : Nat} (hnl : os.length = nl) (h : Ev (fun n => B42 (callF prg n) (n + 1) nl x0 os) Q) : Ev (fun n => callF prg n 42 [x0] os) Q := by subst hnl; exact ev_fun (fun n => (E42 n _ _).trans (X42_s _ _ _ _ _)) h
theorem E43 (n : Nat) (xs : List SV) (os : List SO) : callF prg (n + 1) 43 xs os = cloneS 1 8 xs os := by kernel_rfl
theorem X44_s (K : Nat → List SV → List SO → Out) (N nl : Nat) (x0 x1 : SV) (os : List SO) : X44 K N nl x0 x1 os = B44 K N nl x0 x1 os := by kernel_rfl
theorem E44 (n : Nat) (x0 x1 : SV) (os : List SO) : callF prg (n + 1) 44 [x0, x1] os = X44 (callF prg n) (n + 1) os.length x0 x1 os := by kernel_rfl
theorem U44 {Q : SV → List SO → Prop} {x0 x1 : SV} {os : List SO} {nl : Nat} (hnl : os.length = nl) (h : Ev (fun n => B44 (callF prg n) (n + 1) nl x0 x1 os) Q) : Ev (fun n => callF prg n 44 [x0, x1] os) Q := by subst hnl; exact ev_fun (fun n => (E44 n _ _ _).trans (X44_s _ _ _ _ _ _)) h
theorem L45_2_s (K : Nat → List SV → List SO → Out) (N nl : Nat) (m2 : Nat) (x0 x1 x5 : SV) (os : List SO) : L45_2 K N nl (m2 + 1) x0 x1 x5 os = LB45_2 K N nl m2 x0 x1 x5 os := by kernel_rfl
theorem UL45_2 {nl c : Nat} {Q : SV → List SO → Prop} {x0 x1 x5 : SV} {os : List SO} (h : Ev (fun n => LB45_2 (callF prg n) (n + 1) nl (n + 1 - (c + 1)) x0 x1 x5 os) Q) : Ev (fun n => L45_2 (callF prg n) (n + 1) nl (n + 1 - c) x0 x1 x5 os) Q := ev_loop (L := fun n m => L45_2 (callF prg n) (n + 1) nl m x0 x1 x5 os) (fun n m => L45_2_s _ _ _ _ _ _ _ _) h
theorem VL45_2 {nl : Nat} {Q : SV → List SO → Prop} {x0 x1 x5 : SV} {os : List SO} (h : Ev (fun n => LB45_2 (callF prg n) (n + 1) nl (n + 1 - 1) x0 x1 x5 os) Q) : Ev (fun n => L45_2 (callF prg n) (n + 1) nl (n + 1) x0 x1 x5 os) Q := UL45_2 (c := 0) h
theorem X45_s (K : Nat → List SV → List SO → Out) (N nl : Nat) (x0 x1 : SV) (os : List SO) : X45 K N nl x0 x1 os = B45 K N nl x0 x1 os := by kernel_rfl
theorem E45 (n : Nat) (x0 x1 : SV) (os : List SO) : callF prg (n + 1) 45 [x0, x1] os = X45 (callF prg n) (n + 1) os.length x0 x1 os := by kernel_rfl
theorem U45 {Q : SV → List SO → Prop} {x0 x1 : SV} {os : List SO} {nl : Nat} (hnl : os.length = nl) (h : Ev (fun n => B45 (callF prg n) (n + 1) nl x0 x1 os) Q) : Ev (fun n => callF prg n 45 [x0, x1] os) Q := by subst hnl; exact ev_fun (fun n => (E45 n _ _ _).trans (X45_s _ _ _ _ _ _)) h
theorem L46_2_s (K : Nat → List SV → List SO → Out) (N nl : Nat) (m2 : Nat) (x0 x1 x5 : SV) (os : List SO) : L46_2 K N nl (m2 + 1) x0 x1 x5 os = LB46_2 K N nl m2 x0 x1 x5 os := by kernel_rfl
theorem UL46_2 {nl c : Nat} {Q : SV → List SO → Prop} {x0 x1 x5 : SV} {os : List SO} (h : Ev (fun n => LB46_2 (callF prg n) (n + 1) nl (n + 1 - (c + 1)) x0 x1 x5 os) Q) : Ev (fun n => L46_2 (callF prg n) (n + 1) nl (n + 1 - c) x0 x1 x5 os) Q := ev_loop (L := fun n m => L46_2 (callF prg n) (n + 1) nl m x0 x1 x5 os) (fun n m => L46_2_s _ _ _ _ _ _ _ _) h
theorem VL46_2 {nl : Nat} {Q : SV → List SO → Prop} {x0 x1 x5 : SV} {os : List SO} (h : Ev (fun n => LB46_2 (callF prg n) (n + 1) nl (n + 1 - 1) x0 x1 x5 os) Q) : Ev (fun n => L46_2 (callF prg n) (n + 1) nl (n + 1) x0 x1 x5 os) Q := UL46_2 (c := 0) h
theorem X46_s (K : Nat → List SV → List SO → Out) (N nl : Nat) (x0 x1 : SV) (os : List SO) : X46 K N nl x0 x1 os = B46 K N nl x0 x1 os := by kernel_rfl
theorem E46 (n : Nat) (x0 x1 : SV) (os : List SO) : callF prg (n + 1) 46 [x0, x1] os = X46 (callF prg n) (n + 1) os.length x0 x1 os := by kernel_rfl
theorem U46 {Q : SV → List SO → Prop} {x0 x1 : SV} {os : List SO} {nl : Nat} (hnl : os.length = nl) (h : Ev (fun n => B46 (callF prg n) (n + 1) nl x0 x1 os) Q) : Ev (fun n => callF prg n 46 [x0, x1] os) Q := by subst hnl; exact ev_fun (fun n => (E46 n _ _ _).trans (X46_s _ _ _ _ _ _)) h
theorem L47_2_s (K : Nat → List SV → List SO → Out) (N nl : Nat) (m2 : Nat) (x0 x1 x5 : SV) (os : List SO) : L47_2 K N nl (m2 + 1) x0 x1 x5 os = LB47_2 K N nl m2 x0 x1 x5 os := by kernel_rfl
theorem UL47_2 {nl c : Nat} {Q : SV → List SO → Prop} {x0 x1 x5 : SV} {os : List SO} (h : Ev (fun n => LB47_2 (callF prg n) (n + 1) nl (n + 1 - (c + 1)) x0 x1 x5 os) Q) : Ev (fun n => L47_2 (callF prg n) (n + 1) nl (n + 1 - c) x0 x1 x5 os) Q := ev_loop (L := fun n m => L47_2 (callF prg n) (n + 1) nl m x0 x1 x5 os) (fun n m => L47_2_s _ _ _ _ _ _ _ _) h
theorem X47_s (K : Nat → List SV → List SO → Out) (N nl : Nat) (x0 x1 : SV) (os : List SO) : X47 K N nl x0 x1 os = B47 K N nl x0 x1 os := by kernel_rfl
theorem E47 (n : Nat) (x0 x1 : SV) (os : List SO) : callF prg (n + 1) 47 [x0, x1] os = X47 (callF prg n) (n + 1) os.length x0 x1 os := by kernel_rfl
theorem U47 {Q : SV → List SO → Prop} {x0 x1 : SV} {os : List SO} {nl : Nat} (hnl : os.length = nl) (h : Ev (fun n => B47 (callF prg n) (n + 1) nl x0 x1 os) Q) : Ev (fun n => callF prg n 47 [x0, x1] os) Q := by subst hnl; exact ev_fun (fun n => (E47 n _ _ _).trans (X47_s _ _ _ _ _ _)) h
theorem L48_2_s (K : Nat → List SV → List SO → Out) (N nl : Nat) (m2 : Nat) (x0 x1 x5 : SV) (os : List SO) : L48_2 K N nl (m2 + 1) x0 x1 x5 os = LB48_2 K N nl m2 x0 x1 x5 os := by kernel_rfl
theorem UL48_2 {nl c : Nat} {Q : SV → List SO → Prop} {x0 x1 x5 : SV} {os : List SO} (h : Ev (fun n => LB48_2 (callF prg n) (n + 1) nl (n + 1 - (c + 1)) x0 x1 x5 os) Q) : Ev (fun n => L48_2 (callF prg n) (n + 1) nl (n + 1 - c) x0 x1 x5 os) Q := ev_loop (L := fun n m => L48_2 (callF prg n) (n + 1) nl m x0 x1 x5 os) (fun n m => L48_2_s _ _ _ _ _ _ _ _) h
theorem X48_s (K : Nat → List SV → List SO → Out) (N nl : Nat) (x0 x1 : SV) (os : List SO) : X48 K N nl x0 x1 os = B48 K N nl x0 x1 os := by kernel_rfl
theorem E48 (n : Nat) (x0 x1 : SV) (os : List SO) : callF prg (n + 1) 48 [x0, x1] os = X48 (callF prg n) (n + 1) os.length x0 x1 os := by kernel_rfl
theorem U48 {Q : SV → List SO → Prop} {x0 x1 : SV} {os : List SO} {nl : Nat} (hnl : os.length = nl) (h : Ev (fun n => B48 (callF prg n) (n + 1) nl x0 x1 os) Q) : Ev (fun n => callF prg n 48 [x0, x1] os) Q := by subst hnl; exact ev_fun (fun n => (E48 n _ _ _).trans (X48_s _ _ _ _ _ _)) h
theorem X49_s (K : Nat → List SV → List SO → Out) (N nl : Nat) (x0 x1 : SV) (os : List SO) : X49 K N nl x0 x1 os = B49 K N nl x0 x1 os := by kernel_rfl
theorem E49 (n : Nat) (x0 x1 : SV) (os : List SO) : callF prg (n + 1) 49 [x0, x1] os = X49 (callF prg n) (n + 1) os.length x0 x1 os := by kernel_rfl
theorem U49 {Q : SV → List SO → Prop} {x0 x1 : SV} {os : List SO} {nl : Nat} (hnl : os.length = nl) (h : Ev (fun n => B49 (callF prg n) (n + 1) nl x0 x1 os) Q) : Ev (fun n => callF prg n 49 [x0, x1] os) Q := by subst hnl; exact ev_fun (fun n => (E49 n _ _ _).trans (X49_s _ _ _ _ _ _)) h
theorem X50_s (K : Nat → List SV → List SO → Out) (N nl : Nat) (x0 x1 : SV) (os : List SO) : X50 K N nl x0 x1 os = B50 K N nl x0 x1 os := by kernel_rfl
theorem E50 (n : Nat) (x0 x1 : SV) (os : List SO) : callF prg (n + 1) 50 [x0, x1] os = X50 (callF prg n) (n + 1) os.length x0 x1 os := by kernel_rfl
theorem U50 {Q : SV → List SO → Prop} {x0 x1 : SV} {os : List SO} {nl : Nat} (hnl : os.length = nl) (h : Ev (fun n => B50 (callF prg n) (n + 1) nl x0 x1 os) Q) : Ev (fun n => callF prg n 50 [x0, x1] os) Q := by subst hnl; exact ev_fun (fun n => (E50 n _ _ _).trans (X50_s _ _ _ _ _ _)) h
theorem X51_s (K : Nat → List SV → List SO → Out) (N nl : Nat) (x0 : SV) (os : List SO) : X51 K N nl x0 os = B51 K N nl x0 os := by kernel_rfl
theorem E51 (n : Nat) (x0 : SV) (os : List SO) : callF prg (n + 1) 51 [x0] os = X51 (callF prg n) (n + 1) os.length x0 os := by kernel_rfl
theorem U51 {Q : SV → List SO → Prop} {x0 : SV} {os : List SO} {nl : Nat} (hnl : os.length = nl) (h : Ev (fun n => B51 (callF prg n) (n + 1) nl x0 os) Q) : Ev (fun n => callF prg n 51 [x0] os) Q := by subst hnl; exact ev_fun (fun n => (E51 n _ _).trans (X51_s _ _ _ _ _)) h
theorem L52_2_s (K : Nat → List SV → List SO → Out) (N nl : Nat) (m2 : Nat) (x0 x3 : SV) (os : List SO) : L52_2 K N nl (m2 + 1) x0 x3 os = LB52_2 K N nl m2 x0 x3 os := by kernel_rfl
theorem UL52_2 {nl c : Nat} {Q : SV → List SO → Prop} {x0 x3 : SV} {os : List SO} (h : Ev (fun n => LB52_2 (callF prg n) (n + 1) nl (n + 1 - (c + 1)) x0 x3 os) Q) : Ev (fun n => L52_2 (callF prg n) (n + 1) nl (n + 1 - c) x0 x3 os) Q := ev_loop (L := fun n m => L52_2 (callF prg n) (n + 1) nl m x0 x3 os) (fun n m => L52_2_s _ _ _ _ _ _ _) h
theorem X52_s (K : Nat → List SV → List SO → Out) (N nl : Nat) (x0 : SV) (os : List SO) : X52 K N nl x0 os = B52 K N nl x0 os := by kernel_rfl
theorem E52 (n : Nat) (x0 : SV) (os : List SO) : callF prg (n + 1) 52 [x0] os = X52 (callF prg n) (n + 1) os.length x0 os := by kernel_rfl
theorem U52 {Q : SV → List SO → Prop} {x0 : SV} {os : List SO} {nl : Nat} (hnl : os.length = nl) (h : Ev (fun n => B52 (callF prg n) (n + 1) nl x0 os) Q) : Ev (fun n => callF prg n 52 [x0] os) Q := by subst hnl; exact ev_fun (fun n => (E52 n _ _).trans (X52_s _ _ _ _ _)) h
theorem X53_s (K : Nat → List SV → List SO → Out) (N nl : Nat) (x0 x1 : SV) (os : List SO) : X53 K N nl x0 x1 os = B53 K N nl x0 x1 os := by kernel_rfl
theorem E53 (n : Nat) (x0 x1 : SV) (os : List SO) : callF prg (n + 1) 53 [x0, x1] os = X53 (callF prg n) (n + 1) os.length x0 x1 os := by kernel_rfl
theorem U53 {Q : SV → List SO → Prop} {x0 x1 : SV} {os : List SO} {nl : Nat} (hnl : os.length = nl) (h : Ev (fun n => B53 (callF prg n) (n + 1) nl x0 x1 os) Q) : Ev (fun n => callF prg n 53 [x0, x1] os) Q := by subst hnl; exact ev_fun (fun n => (E53 n _ _ _).trans (X53_s _ _ _ _ _ _)) h
theorem L54_2_s (K : Nat → List SV → List SO → Out) (N nl : Nat) (m2 : Nat) (x0 x1 x2 x7 : SV) (os : List SO) : L54_2 K N nl (m2 + 1) x0 x1 x2 x7 os = LB54_2 K N nl m2 x0 x1 x2 x7 os := by kernel_rfl
theorem UL54_2 {nl c : Nat} {Q : SV → List SO → Prop} {x0 x1 x2 x7 : SV} {os : List SO} (h : Ev (fun n => LB54_2 (callF prg n) (n + 1) nl (n + 1 - (c + 1)) x0 x1 x2 x7 os) Q) : Ev (fun n => L54_2 (callF prg n) (n + 1) nl (n + 1 - c) x0 x1 x2 x7 os) Q := ev_loop (L := fun n m => L54_2 (callF prg n) (n + 1) nl m x0 x1 x2 x7 os) (fun n m => L54_2_s _ _ _ _ _ _ _ _ _) h
theorem L54_5_s (K : Nat → List SV → List SO → Out) (N nl : Nat) (m2 : Nat) (m5 : Nat) (x0 x1 x2 x7 x8 : SV) (os : List SO) : L54_5 K N nl m2 (m5 + 1) x0 x1 x2 x7 x8 os = LB54_5 K N nl m2 m5 x0 x1 x2 x7 x8 os := by kernel_rfl
theorem UL54_5 {nl c : Nat} {Q : SV → List SO → Prop} {m2 : Nat → Nat} {x0 x1 x2 x7 x8 : SV} {os : List SO} (h : Ev (fun n => LB54_5 (callF prg n) (n + 1) nl (m2 n) (n + 1 - (c + 1)) x0 x1 x2 x7 x8 os) Q) : Ev (fun n => L54_5 (callF prg n) (n + 1) nl (m2 n) (n + 1 - c) x0 x1 x2 x7 x8 os) Q := ev_loop (L := fun n m => L54_5 (callF prg n) (n + 1) nl (m2 n) m x0 x1 x2 x7 x8 os) (fun n m => L54_5_s _ _ _ _ _ _ _ _ _ _ _) h
theorem X54_s (K : Nat → List SV → List SO → Out) (N nl : Nat) (x0 x1 x2 : SV) (os : List SO) : X54 K N nl x0 x1 x2 os = B54 K N nl x0 x1 x2 os := by kernel_rfl
theorem E54 (n : Nat) (x0 x1 x2 : SV) (os : List SO) : callF prg (n + 1) 54 [x0, x1, x2] os = X54 (callF prg n) (n + 1) os.length x0 x1 x2 os := by kernel_rfl
theorem U54 {Q : SV → List SO → Prop} {x0 x1 x2 : SV} {os : List SO} {nl : Nat} (hnl : os.length = nl) (h : Ev (fun n => B54 (callF prg n) (n + 1) nl x0 x1 x2 os) Q) : Ev (fun n => callF prg n 54 [x0, x1, x2] os) Q := by subst hnl; exact ev_fun (fun n => (E54 n _ _ _ _).trans (X54_s _ _ _ _ _ _ _)) h
theorem X55_s (K : Nat → List SV → List SO → Out) (N nl : Nat) (x0 : SV) (os : List SO) : X55 K N nl x0 os = B55 K N nl x0 os := by kernel_rfl
theorem E55 (n : Nat) (x0 : SV) (os : List SO) : callF prg (n + 1) 55 [x0] os = X55 (callF prg n) (n + 1) os.length x0 os := by kernel_rfl
theorem U55 {Q : SV → List SO → Prop} {x0 : SV} {os : List SO} {nl : Nat} (hnl : os.length = nl) (h : Ev (fun n => B55 (callF prg n) (n + 1) nl x0 os) Q) : Ev (fun n => callF prg n 55 [x0] os) Q := by subst hnl; exact ev_fun (fun n => (E55 n _ _).trans (X55_s _ _ _ _ _)) h
theorem L56_3_s (K : Nat → List SV → List SO → Out) (N nl : Nat) (m3 : Nat) (x0 x3 x4 : SV) (os : List SO) : L56_3 K N nl (m3 + 1) x0 x3 x4 os = LB56_3 K N nl m3 x0 x3 x4 os := by kernel_rfl
theorem UL56_3 {nl c : Nat} {Q : SV → List SO → Prop} {x0 x3 x4 : SV} {os : List SO} (h : Ev (fun n => LB56_3 (callF prg n) (n + 1) nl (n + 1 - (c + 1)) x0 x3 x4 os) Q) : Ev (fun n => L56_3 (callF prg n) (n + 1) nl (n + 1 - c) x0 x3 x4 os) Q := ev_loop (L := fun n m => L56_3 (callF prg n) (n + 1) nl m x0 x3 x4 os) (fun n m => L56_3_s _ _ _ _ _ _ _ _) h
theorem X56_s (K : Nat → List SV → List SO → Out) (N nl : Nat) (x0 : SV) (os : List SO) : X56 K N nl x0 os = B56 K N nl x0 os := by kernel_rfl
theorem E56 (n : Nat) (x0 : SV) (os : List SO) : callF prg (n + 1) 56 [x0] os = X56 (callF prg n) (n + 1) os.length x0 os := by kernel_rfl
theorem U56 {Q : SV → List SO → Prop} {x0 : SV} {os : List SO} {nl : Nat} (hnl : os.length = nl) (h : Ev (fun n => B56 (callF prg n) (n + 1) nl x0 os) Q) : Ev (fun n => callF prg n 56 [x0] os) Q := by subst hnl; exact ev_fun (fun n => (E56 n _ _).trans (X56_s _ _ _ _ _)) h
theorem L57_3_s (K : Nat → List SV → List SO → Out) (N nl : Nat) (m3 : Nat) (x0 x3 x4 : SV) (os : List SO) : L57_3 K N nl (m3 + 1) x0 x3 x4 os = LB57_3 K N nl m3 x0 x3 x4 os := by kernel_rfl
theorem UL57_3 {nl c : Nat} {Q : SV → List SO → Prop} {x0 x3 x4 : SV} {os : List SO} (h : Ev (fun n => LB57_3 (callF prg n) (n + 1) nl (n + 1 - (c + 1)) x0 x3 x4 os) Q) : Ev (fun n => L57_3 (callF prg n) (n + 1) nl (n + 1 - c) x0 x3 x4 os) Q := ev_loop (L := fun n m => L57_3 (callF prg n) (n + 1) nl m x0 x3 x4 os) (fun n m => L57_3_s _ _ _ _ _ _ _ _) h
theorem X57_s (K : Nat → List SV → List SO → Out) (N nl : Nat) (x0 : SV) (os : List SO) : X57 K N nl x0 os = B57 K N nl x0 os := by kernel_rfl
theorem E57 (n : Nat) (x0 : SV) (os : List SO) : callF prg (n + 1) 57 [x0] os = X57 (callF prg n) (n + 1) os.length x0 os := by kernel_rfl
theorem U57 {Q : SV → List SO → Prop} {x0 : SV} {os : List SO} {nl : Nat} (hnl : os.length = nl) (h : Ev (fun n => B57 (callF prg n) (n + 1) nl x0 os) Q) : Ev (fun n => callF prg n 57 [x0] os) Q := by subst hnl; exact ev_fun (fun n => (E57 n _ _).trans (X57_s _ _ _ _ _)) h
theorem L58_2_s (K : Nat → List SV → List SO → Out) (N nl : Nat) (m2 : Nat) (x0 x1 x7 x8 : SV) (os : List SO) : L58_2 K N nl (m2 + 1) x0 x1 x7 x8 os = LB58_2 K N nl m2 x0 x1 x7 x8 os := by kernel_rfl
theorem UL58_2 {nl c : Nat} {Q : SV → List SO → Prop} {x0 x1 x7 x8 : SV} {os : List SO} (h : Ev (fun n => LB58_2 (callF prg n) (n + 1) nl (n + 1 - (c + 1)) x0 x1 x7 x8 os) Q) : Ev (fun n => L58_2 (callF prg n) (n + 1) nl (n + 1 - c) x0 x1 x7 x8 os) Q := ev_loop (L := fun n m => L58_2 (callF prg n) (n + 1) nl m x0 x1 x7 x8 os) (fun n m => L58_2_s _ _ _ _ _ _ _ _ _) h
theorem X58_s (K : Nat → List SV → List SO → Out) (N nl : Nat) (x0 x1 : SV) (os : List SO) : X58 K N nl x0 x1 os = B58 K N nl x0 x1 os := by kernel_rfl
theorem E58 (n : Nat) (x0 x1 : SV) (os : List SO) : callF prg (n + 1) 58 [x0, x1] os = X58 (callF prg n) (n + 1) os.length x0 x1 os := by kernel_rfl
theorem U58 {Q : SV → List SO → Prop} {x0 x1 : SV} {os : List SO} {nl : Nat} (hnl : os.length = nl) (h : Ev (fun n => B58 (callF prg n) (n + 1) nl x0 x1 os) Q) : Ev (fun n => callF prg n 58 [x0, x1] os) Q := by subst hnl; exact ev_fun (fun n => (E58 n _ _ _).trans (X58_s _ _ _ _ _ _)) h
theorem L59_2_s (K : Nat → List SV → List SO → Out) (N nl : Nat) (m2 : Nat) (x0 x5 x6 x7 : SV) (os : List SO) : L59_2 K N nl (m2 + 1) x0 x5 x6 x7 os = gcB nl [x0, x5, x6, x7] os fun xs os => G59_2 K N nl m2 xs os := by kernel_rfl
theorem UL59_2 {nl c : Nat} {Q : SV → List SO → Prop} {x0 x5 x6 x7 : SV} {os : List SO} (h : Ev (fun n => gcB nl [x0, x5, x6, x7] os fun xs os => G59_2 (callF prg n) (n + 1) nl (n + 1 - (c + 1)) xs os) Q) : Ev (fun n => L59_2 (callF prg n) (n + 1) nl (n + 1 - c) x0 x5 x6 x7 os) Q := ev_loop (L := fun n m => L59_2 (callF prg n) (n + 1) nl m x0 x5 x6 x7 os) (fun n m => L59_2_s _ _ _ _ _ _ _ _ _) h
theorem VL59_2 {nl : Nat} {Q : SV → List SO → Prop} {x0 x5 x6 x7 : SV} {os : List SO} (h : Ev (fun n => gcB nl [x0, x5, x6, x7] os fun xs os => G59_2 (callF prg n) (n + 1) nl (n + 1 - 1) xs os) Q) : Ev (fun n => L59_2 (callF prg n) (n + 1) nl (n + 1) x0 x5 x6 x7 os) Q := UL59_2 (c := 0) h
theorem G59_2_s (K : Nat → List SV → List SO → Out) (N nl : Nat) (m2 : Nat) (x0 x5 x6 x7 : SV) (os : List SO) : G59_2 K N nl m2 [x0, x5, x6, x7] os = GB59_2 K N nl m2 x0 x5 x6 x7 os := by kernel_rfl
theorem UG59_2 {nl : Nat} {Q : SV → List SO → Prop} (m2 : Nat → Nat) {x0 x5 x6 x7 : SV} {os : List SO} (h : Ev (fun n => GB59_2 (callF prg n) (n + 1) nl (m2 n) x0 x5 x6 x7 os) Q) : Ev (fun n => G59_2 (callF prg n) (n + 1) nl (m2 n) [x0, x5, x6, x7] os) Q := ev_eq (fun n => G59_2_s _ _ _ _ _ _ _ _ _) h
theorem X59_s (K : Nat → List SV → List SO → Out) (N nl : Nat) (x0 : SV) (os : List SO) : X59 K N nl x0 os = B59 K N nl x0 os := by kernel_rfl
theorem E59 (n : Nat) (x0 : SV) (os : List SO) : callF prg (n + 1) 59 [x0] os = X59 (callF prg n) (n + 1) os.length x0 os := by kernel_rfl
theorem U59 {Q : SV → List SO → Prop} {x0 : SV} {os : List SO} {nl : Nat} (hnl : os.length = nl) (h : Ev (fun n => B59 (callF prg n) (n + 1) nl x0 os) Q) : Ev (fun n => callF prg n 59 [x0] os) Q := by subst hnl; exact ev_fun (fun n => (E59 n _ _).trans (X59_s _ _ _ _ _)) h
theorem X60_s (K : Nat → List SV → List SO → Out) (N nl : Nat) (x0 x1 : SV) (os : List SO) : X60 K N nl x0 x1 os = B60 K N nl x0 x1 os := by kernel_rfl
theorem E60 (n : Nat) (x0 x1 : SV) (os : List SO) : callF prg (n + 1) 60 [x0, x1] os = X60 (callF prg n) (n + 1) os.length x0 x1 os := by kernel_rfl
theorem U60 {Q : SV → List SO → Prop} {x0 x1 : SV} {os : List SO} {nl : Nat} (hnl : os.length = nl) (h : Ev (fun n => B60 (callF prg n) (n + 1) nl x0 x1 os) Q) : Ev (fun n => callF prg n 60 [x0, x1] os) Q := by subst hnl; exact ev_fun (fun n => (E60 n _ _ _).trans (X60_s _ _ _ _ _ _)) h
theorem X61_s (K : Nat → List SV → List SO → Out) (N nl : Nat) (x0 x1 : SV) (os : List SO) : X61 K N nl x0 x1 os = B61 K N nl x0 x1 os := by kernel_rfl
theorem E61 (n : Nat) (x0 x1 : SV) (os : List SO) : callF prg (n + 1) 61 [x0, x1] os = X61 (callF prg n) (n + 1) os.length x0 x1 os := by kernel_rfl
theorem U61 {Q : SV → List SO → Prop} {x0 x1 : SV} {os : List SO} {nl : Nat} (hnl : os.length = nl) (h : Ev (fun n => B61 (callF prg n) (n + 1) nl x0 x1 os) Q) : Ev (fun n => callF prg n 61 [x0, x1] os) Q := by subst hnl; exact ev_fun (fun n => (E61 n _ _ _).trans (X61_s _ _ _ _ _ _)) h
theorem X62_s (K : Nat → List SV → List SO → Out) (N nl : Nat) (x0 x1 : SV) (os : List SO) : X62 K N nl x0 x1 os = B62 K N nl x0 x1 os := by kernel_rfl
theorem E62 (n : Nat) (x0 x1 : SV) (os : List SO) : callF prg (n + 1) 62 [x0, x1] os = X62 (callF prg n) (n + 1) os.length x0 x1 os := by kernel_rfl
theorem U62 {Q : SV → List SO → Prop} {x0 x1 : SV} {os : List SO} {nl : Nat} (hnl : os.length = nl) (h : Ev (fun n => B62 (callF prg n) (n + 1) nl x0 x1 os) Q) : Ev (fun n => callF prg n 62 [x0, x1] os) Q := by subst hnl; exact ev_fun (fun n => (E62 n _ _ _).trans (X62_s _ _ _ _ _ _)) h
theorem X63_s (K : Nat → List SV → List SO → Out) (N nl : Nat) (x0 : SV) (os : List SO) : X63 K N nl x0 os = B63 K N nl x0 os := by kernel_rfl
theorem E63 (n : Nat) (x0 : SV) (os : List SO) : callF prg (n + 1) 63 [x0] os = X63 (callF prg n) (n + 1) os.length x0 os := by kernel_rfl
theorem U63 {Q : SV → List SO → Prop} {x0 : SV} {os : List SO} {nl : Nat} (hnl : os.length = nl) (h : Ev (fun n => B63 (callF prg n) (n + 1) nl x0 os) Q) : Ev (fun n => callF prg n 63 [x0] os) Q := by subst hnl; exact ev_fun (fun n => (E63 n _ _).trans (X63_s _ _ _ _ _)) h
theorem L64_4_s (K : Nat → List SV → List SO → Out) (N nl : Nat) (m4 : Nat) (x0 x1 x5 : SV) (os : List SO) : L64_4 K N nl (m4 + 1) x0 x1 x5 os = LB64_4 K N nl m4 x0 x1 x5 os := by kernel_rfl
theorem UL64_4 {nl c : Nat} {Q : SV → List SO → Prop} {x0 x1 x5 : SV} {os : List SO} (h : Ev (fun n => LB64_4 (callF prg n) (n + 1) nl (n + 1 - (c + 1)) x0 x1 x5 os) Q) : Ev (fun n => L64_4 (callF prg n) (n + 1) nl (n + 1 - c) x0 x1 x5 os) Q := ev_loop (L := fun n m => L64_4 (callF prg n) (n + 1) nl m x0 x1 x5 os) (fun n m => L64_4_s _ _ _ _ _ _ _ _) h
theorem X64_s (K : Nat → List SV → List SO → Out) (N nl : Nat) (x0 x1 : SV) (os : List SO) : X64 K N nl x0 x1 os = B64 K N nl x0 x1 os := by kernel_rfl
theorem E64 (n : Nat) (x0 x1 : SV) (os : List SO) : callF prg (n + 1) 64 [x0, x1] os = X64 (callF prg n) (n + 1) os.length x0 x1 os := by kernel_rfl
theorem U64 {Q : SV → List SO → Prop} {x0 x1 : SV} {os : List SO} {nl : Nat} (hnl : os.length = nl) (h : Ev (fun n => B64 (callF prg n) (n + 1) nl x0 x1 os) Q) : Ev (fun n => callF prg n 64 [x0, x1] os) Q := by subst hnl; exact ev_fun (fun n => (E64 n _ _ _).trans (X64_s _ _ _ _ _ _)) h
theorem L65_4_s (K : Nat → List SV → List SO → Out) (N nl : Nat) (m4 : Nat) (x0 x1 x5 : SV) (os : List SO) : L65_4 K N nl (m4 + 1) x0 x1 x5 os = LB65_4 K N nl m4 x0 x1 x5 os := by kernel_rfl
theorem UL65_4 {nl c : Nat} {Q : SV → List SO → Prop} {x0 x1 x5 : SV} {os : List SO} (h : Ev (fun n => LB65_4 (callF prg n) (n + 1) nl (n + 1 - (c + 1)) x0 x1 x5 os) Q) : Ev (fun n => L65_4 (callF prg n) (n + 1) nl (n + 1 - c) x0 x1 x5 os) Q := ev_loop (L := fun n m => L65_4 (callF prg n) (n + 1) nl m x0 x1 x5 os) (fun n m => L65_4_s _ _ _ _ _ _ _ _) h
theorem X65_s (K : Nat → List SV → List SO → Out) (N nl : Nat) (x0 x1 : SV) (os : List SO) : X65 K N nl x0 x1 os = B65 K N nl x0 x1 os := by kernel_rfl
theorem E65 (n : Nat) (x0 x1 : SV) (os : List SO) : callF prg (n + 1) 65 [x0, x1] os = X65 (callF prg n) (n + 1) os.length x0 x1 os := by kernel_rfl
theorem U65 {Q : SV → List SO → Prop} {x0 x1 : SV} {os : List SO} {nl : Nat} (hnl : os.length = nl) (h : Ev (fun n => B65 (callF prg n) (n + 1) nl x0 x1 os) Q) : Ev (fun n => callF prg n 65 [x0, x1] os) Q := by subst hnl; exact ev_fun (fun n => (E65 n _ _ _).trans (X65_s _ _ _ _ _ _)) h
theorem L66_2_s (K : Nat → List SV → List SO → Out) (N nl : Nat) (m2 : Nat) (x0 x3 : SV) (os : List SO) : L66_2 K N nl (m2 + 1) x0 x3 os = LB66_2 K N nl m2 x0 x3 os := by kernel_rfl
theorem UL66_2 {nl c : Nat} {Q : SV → List SO → Prop} {x0 x3 : SV} {os : List SO} (h : Ev (fun n => LB66_2 (callF prg n) (n + 1) nl (n + 1 - (c + 1)) x0 x3 os) Q) : Ev (fun n => L66_2 (callF prg n) (n + 1) nl (n + 1 - c) x0 x3 os) Q := ev_loop (L := fun n m => L66_2 (callF prg n) (n + 1) nl m x0 x3 os) (fun n m => L66_2_s _ _ _ _ _ _ _) h
theorem X66_s (K : Nat → List SV → List SO → Out) (N nl : Nat) (x0 : SV) (os : List SO) : X66 K N nl x0 os = B66 K N nl x0 os := by kernel_rfl
theorem E66 (n : Nat) (x0 : SV) (os : List SO) : callF prg (n + 1) 66 [x0] os = X66 (callF prg n) (n + 1) os.length x0 os := by kernel_rfl
theorem U66 {Q : SV → List SO → Prop} {x0 : SV} {os : List SO} {nl : Nat} (hnl : os.length = nl) (h : Ev (fun n => B66 (callF prg n) (n + 1) nl x0 os) Q) : Ev (fun n => callF prg n 66 [x0] os) Q := by subst hnl; exact ev_fun (fun n => (E66 n _ _).trans (X66_s _ _ _ _ _)) h
theorem L67_2_s (K : Nat → List SV → List SO → Out) (N nl : Nat) (m2 : Nat) (x0 x1 x4 x6 : SV) (os : List SO) : L67_2 K N nl (m2 + 1) x0 x1 x4 x6 os = gcB nl [x0, x1, x4, x6] os fun xs os => G67_2 K N nl m2 xs os := by kernel_rfl
theorem UL67_2 {nl c : Nat} {Q : SV → List SO → Prop} {x0 x1 x4 x6 : SV} {os : List SO} (h : Ev (fun n => gcB nl [x0, x1, x4, x6] os fun xs os => G67_2 (callF prg n) (n + 1) nl (n + 1 - (c + 1)) xs os) Q) : Ev (fun n => L67_2 (callF prg n) (n + 1) nl (n + 1 - c) x0 x1 x4 x6 os) Q := ev_loop (L := fun n m => L67_2 (callF prg n) (n + 1) nl m x0 x1 x4 x6 os) (fun n m => L67_2_s _ _ _ _ _ _ _ _ _) h
theorem VL67_2 {nl : Nat} {Q : SV → List SO → Prop} {x0 x1 x4 x6 : SV} {os : List SO} (h : Ev (fun n => gcB nl [x0, x1, x4, x6] os fun xs os => G67_2 (callF prg n) (n + 1) nl (n + 1 - 1) xs os) Q) : Ev (fun n => L67_2 (callF prg n) (n + 1) nl (n + 1) x0 x1 x4 x6 os) Q := UL67_2 (c := 0) h
theorem G67_2_s (K : Nat → List SV → List SO → Out) (N nl : Nat) (m2 : Nat) (x0 x1 x4 x6 : SV) (os : List SO) : G67_2 K N nl m2 [x0, x1, x4, x6] os = GB67_2 K N nl m2 x0 x1 x4 x6 os := by kernel_rfl
theorem UG67_2 {nl : Nat} {Q : SV → List SO → Prop} (m2 : Nat → Nat) {x0 x1 x4 x6 : SV} {os : List SO} (h : Ev (fun n => GB67_2 (callF prg n) (n + 1) nl (m2 n) x0 x1 x4 x6 os) Q) : Ev (fun n => G67_2 (callF prg n) (n + 1) nl (m2 n) [x0, x1, x4, x6] os) Q := ev_eq (fun n => G67_2_s _ _ _ _ _ _ _ _ _) h
theorem X67_s (K : Nat → List SV → List SO → Out) (N nl : Nat) (x0 x1 : SV) (os : List SO) : X67 K N nl x0 x1 os = B67 K N nl x0 x1 os := by kernel_rfl
theorem E67 (n : Nat) (x0 x1 : SV) (os : List SO) : callF prg (n + 1) 67 [x0, x1] os = X67 (callF prg n) (n + 1) os.length x0 x1 os := by kernel_rfl
theorem U67 {Q : SV → List SO → Prop} {x0 x1 : SV} {os : List SO} {nl : Nat} (hnl : os.length = nl) (h : Ev (fun n => B67 (callF prg n) (n + 1) nl x0 x1 os) Q) : Ev (fun n => callF prg n 67 [x0, x1] os) Q := by subst hnl; exact ev_fun (fun n => (E67 n _ _ _).trans (X67_s _ _ _ _ _ _)) h
theorem X68_s (K : Nat → List SV → List SO → Out) (N nl : Nat) (x0 : SV) (os : List SO) : X68 K N nl x0 os = B68 K N nl x0 os := by kernel_rfl
theorem E68 (n : Nat) (x0 : SV) (os : List SO) : callF prg (n + 1) 68 [x0] os = X68 (callF prg n) (n + 1) os.length x0 os := by kernel_rfl
theorem U68 {Q : SV → List SO → Prop} {x0 : SV} {os : List SO} {nl : Nat} (hnl : os.length = nl) (h : Ev (fun n => B68 (callF prg n) (n + 1) nl x0 os) Q) : Ev (fun n => callF prg n 68 [x0] os) Q := by subst hnl; exact ev_fun (fun n => (E68 n _ _).trans (X68_s _ _ _ _ _)) h
theorem X69_s (K : Nat → List SV → List SO → Out) (N nl : Nat) (x0 : SV) (os : List SO) : X69 K N nl x0 os = B69 K N nl x0 os := by kernel_rfl
end Go.Proofs.Ytbagbhbplhkjaaa
