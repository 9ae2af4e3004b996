/- The evaluator S and what it says of functions: Sb1. -/
import Derived.Test.YtfjbclgbpdlkgaaTe
import Derived.Test.YtfjbclgbpdlkgaaProg
import Derived.KernelRfl
/- The evaluator S: the functions of this seat, read chunk by chunk (1). -/
namespace Go.Proofs.Ytfjbclgbpdlkgaa
open Go
set_option linter.unusedVariables false
set_option maxRecDepth 100000
def tiL : List (Option TI) :=
 [none,
  some ⟨1, 8, false, [.fn]⟩,
  some ⟨1, 8, false, [.int .i64]⟩,
  some ⟨1, 8, false, [.int .i64]⟩,
  some ⟨1, 1, false, [.bool]⟩,
  some ⟨1, 1, false, [.int .u8]⟩,
  some ⟨1, 1, false, [.int .u8]⟩,
  some ⟨4, 24, true, [.int .i64, .int .i64, .bool, .int .u8]⟩,
  some ⟨4, 24, true, [.int .i64, .int .i64, .bool, .int .u8]⟩,
  some ⟨1, 16, false, [.str]⟩,
  some ⟨1, 16, false, [.str]⟩,
  some ⟨1, 16, false, [.str]⟩,
  some ⟨1, 8, false, [.int .u64]⟩,
  some ⟨2, 24, true, [.str, .int .u64]⟩,
  some ⟨2, 24, true, [.str, .int .u64]⟩,
  some ⟨1, 8, false, [.ptr]⟩,
  some ⟨1, 8, false, [.ptr]⟩,
  some ⟨1, 8, false, [.ptr]⟩,
  some ⟨1, 8, true, [.ptr]⟩,
  some ⟨1, 8, true, [.ptr]⟩,
  none,
  some ⟨1, 4, false, [.int .i32]⟩,
  some ⟨1, 24, false, [.sl 1]⟩,
  some ⟨1, 24, false, [.sl 4]⟩,
  some ⟨1, 24, false, [.sl 1]⟩,
  some ⟨4, 80, true, [.sl 4, .sl 1, .bool, .sl 4]⟩,
  some ⟨4, 80, true, [.sl 4, .sl 1, .bool, .sl 4]⟩,
  some ⟨1, 8, false, [.fn]⟩,
  some ⟨1, 8, false, [.fn]⟩,
  some ⟨1, 8, false, [.fn]⟩,
  some ⟨1, 8, false, [.fn]⟩,
  some ⟨1, 8, false, [.fn]⟩,
  some ⟨1, 8, false, [.fn]⟩,
  some ⟨4, 48, true, [.int .i64, .int .i64, .int .i64, .sl 4]⟩,
  some ⟨4, 48, true, [.int .i64, .int .i64, .int .i64, .sl 4]⟩,
  none,
  some ⟨1, 8, false, [.fn]⟩,
  none,
  some ⟨1, 8, false, [.fn]⟩,
  some ⟨1, 8, false, [.fn]⟩,
  some ⟨1, 8, false, [.fn]⟩,
  some ⟨1, 8, false, [.fn]⟩,
  some ⟨2, 16, true, [.int .i64, .int .i64]⟩,
  some ⟨2, 16, true, [.int .i64, .int .i64]⟩,
  some ⟨1, 24, false, [.sl 2]⟩,
  some ⟨1, 24, false, [.sl 2]⟩,
  some ⟨4, 64, true, [.int .i64, .int .i64, .sl 2, .sl 2]⟩,
  some ⟨4, 64, true, [.int .i64, .int .i64, .sl 2, .sl 2]⟩,
  some ⟨1, 24, false, [.sl 4]⟩,
  some ⟨1, 8, false, [.fn]⟩,
  none,
  some ⟨1, 8, false, [.fn]⟩,
  some ⟨1, 8, false, [.fn]⟩,
  none,
  some ⟨1, 8, false, [.fn]⟩,
  some ⟨1, 8, false, [.fn]⟩,
  some ⟨1, 8, false, [.fn]⟩,
  some ⟨1, 8, false, [.ptr]⟩,
  some ⟨1, 8, false, [.fn]⟩,
  some ⟨1, 8, false, [.fn]⟩,
  some ⟨1, 8, false, [.fn]⟩,
  some ⟨1, 8, false, [.fn]⟩,
  some ⟨1, 8, false, [.fn]⟩,
  some ⟨1, 8, false, [.fn]⟩,
  some ⟨1, 8, false, [.fn]⟩,
  some ⟨1, 8, false, [.fn]⟩,
  some ⟨1, 8, false, [.fn]⟩,
  some ⟨2, 16, true, [.int .i64, .int .i64]⟩,
  some ⟨2, 16, true, [.int .i64, .int .i64]⟩,
  some ⟨1, 8, false, [.fn]⟩,
  some ⟨1, 8, false, [.fn]⟩,
  some ⟨1, 8, false, [.fn]⟩,
  some ⟨1, 8, false, [.fn]⟩,
  some ⟨1, 8, false, [.fn]⟩,
  some ⟨1, 8, false, [.fn]⟩,
  some ⟨1, 8, false, [.fn]⟩,
  some ⟨1, 8, false, [.fn]⟩,
  some ⟨1, 8, false, [.fn]⟩,
  some ⟨1, 8, false, [.fn]⟩,
  some ⟨1, 8, false, [.fn]⟩,
  some ⟨1, 8, false, [.fn]⟩,
  some ⟨2, 32, true, [.sl 1, .int .i64]⟩,
  some ⟨2, 32, true, [.sl 1, .int .i64]⟩,
  some ⟨1, 8, false, [.int .u64]⟩,
  none,
  some ⟨1, 8, false, [.fn]⟩,
  some ⟨1, 8, false, [.fn]⟩,
  some ⟨6, 6, true, [.bool, .bool, .bool, .bool, .bool, .bool]⟩,
  some ⟨1, 8, false, [.fn]⟩,
  some ⟨1, 8, false, [.fn]⟩,
  some ⟨1, 8, false, [.fn]⟩,
  some ⟨1, 8, false, [.fn]⟩,
  some ⟨1, 8, false, [.ptr]⟩,
  some ⟨1, 8, false, [.fn]⟩,
  some ⟨1, 8, false, [.fn]⟩,
  none,
  some ⟨1, 8, false, [.fn]⟩,
  some ⟨1, 8, false, [.fn]⟩,
  some ⟨1, 8, false, [.fn]⟩,
  some ⟨1, 8, false, [.fn]⟩,
  some ⟨1, 8, false, [.fn]⟩,
  some ⟨1, 4, false, [.int .u32]⟩,
  none,
  some ⟨1, 8, false, [.fn]⟩,
  some ⟨1, 8, false, [.int .u64]⟩,
  none,
  some ⟨1, 8, false, [.fn]⟩,
  some ⟨1, 8, false, [.fn]⟩,
  some ⟨1, 8, false, [.fn]⟩,
  some ⟨1, 8, false, [.fn]⟩,
  some ⟨1, 8, false, [.fn]⟩,
  some ⟨1, 8, false, [.fn]⟩,
  none,
  some ⟨1, 8, false, [.fn]⟩,
  some ⟨1, 24, false, [.sl 1]⟩,
  some ⟨1, 8, false, [.fn]⟩,
  some ⟨1, 8, false, [.fn]⟩,
  some ⟨1, 8, false, [.fn]⟩,
  some ⟨1, 8, false, [.fn]⟩,
  some ⟨1, 8, false, [.fn]⟩,
  some ⟨1, 8, false, [.fn]⟩,
  some ⟨1, 8, false, [.fn]⟩,
  some ⟨1, 8, false, [.fn]⟩,
  some ⟨1, 8, false, [.fn]⟩,
  some ⟨1, 8, false, [.fn]⟩,
  some ⟨1, 8, false, [.fn]⟩,
  some ⟨4, 40, true, [.ptr, .ptr, .ptr, .str]⟩,
  some ⟨4, 40, true, [.ptr, .ptr, .ptr, .str]⟩,
  some ⟨0, 0, true, []⟩,
  some ⟨0, 0, true, []⟩,
  some ⟨0, 0, true, []⟩,
  some ⟨1, 8, false, [.fn]⟩,
  some ⟨1, 1, false, [.int .u8]⟩,
  some ⟨1, 1, false, [.int .u8]⟩,
  some ⟨1, 8, false, [.fn]⟩,
  some ⟨1, 8, false, [.ptr]⟩,
  some ⟨1, 4, false, [.int .i32]⟩,
  some ⟨1, 4, false, [.int .i32]⟩,
  some ⟨11, 48, true, [.int .u64, .int .u64, .int .u32, .int .u8, .int .u8, .int .u8, .int .u8, .fn, .ptr, .int .i32, .int .i32]⟩,
  some ⟨11, 48, true, [.int .u64, .int .u64, .int .u32, .int .u8, .int .u8, .int .u8, .int .u8, .fn, .ptr, .int .i32, .int .i32]⟩,
  none]
def ukL : List (Option UK) :=
 [none,
  none,
  some (.int .i64),
  some (.int .i64),
  some (.bool),
  some (.int .u8),
  some (.int .u8),
  some (.struct [(0, 2), (1, 3), (2, 4), (3, 6)]),
  some (.struct [(0, 2), (1, 3), (2, 4), (3, 6)]),
  some (.str),
  some (.str),
  some (.str),
  some (.int .u64),
  some (.struct [(0, 9), (1, 12)]),
  some (.struct [(0, 9), (1, 12)]),
  none,
  none,
  none,
  some (.struct [(0, 17)]),
  some (.struct [(0, 17)]),
  none,
  some (.int .i32),
  some (.slice 5),
  some (.slice 47),
  some (.slice 3),
  some (.struct [(0, 23), (1, 24), (2, 4), (3, 23)]),
  some (.struct [(0, 23), (1, 24), (2, 4), (3, 23)]),
  none,
  none,
  none,
  none,
  none,
  none,
  some (.struct [(0, 3), (1, 3), (2, 3), (3, 23)]),
  some (.struct [(0, 3), (1, 3), (2, 3), (3, 23)]),
  none,
  none,
  none,
  none,
  none,
  none,
  none,
  some (.eqs [(0, 3), (1, 3)]),
  some (.eqs [(0, 3), (1, 3)]),
  some (.slice 43),
  some (.slice 68),
  some (.struct [(0, 3), (1, 3), (2, 45), (3, 44)]),
  some (.struct [(0, 3), (1, 3), (2, 45), (3, 44)]),
  some (.slice 34),
  none,
  none,
  none,
  none,
  none,
  none,
  none,
  none,
  none,
  none,
  none,
  none,
  none,
  none,
  none,
  none,
  none,
  none,
  some (.eqs [(0, 3), (1, 3)]),
  some (.eqs [(0, 3), (1, 3)]),
  none,
  none,
  none,
  none,
  none,
  none,
  none,
  none,
  none,
  none,
  none,
  none,
  some (.struct [(0, 22), (1, 3)]),
  some (.struct [(0, 22), (1, 3)]),
  some (.int .u64),
  none,
  none,
  none,
  some (.array 6 4),
  none,
  none,
  none,
  none,
  none,
  none,
  none,
  none,
  none,
  none,
  none,
  none,
  none,
  some (.int .u32),
  none,
  none,
  some (.int .u64),
  none,
  none,
  none,
  none,
  none,
  none,
  none,
  none,
  none,
  some (.slice 4),
  none,
  none,
  none,
  none,
  none,
  none,
  none,
  none,
  none,
  none,
  none,
  some (.struct [(0, 17), (1, 17), (2, 17), (3, 9)]),
  some (.struct [(0, 17), (1, 17), (2, 17), (3, 9)]),
  some (.array 0 16),
  some (.struct [(0, 128)]),
  some (.struct [(0, 128)]),
  none,
  some (.int .u8),
  some (.int .u8),
  none,
  none,
  some (.int .i32),
  some (.int .i32),
  some (.struct [(0, 12), (1, 12), (2, 101), (3, 132), (4, 5), (5, 5), (6, 133), (7, 134), (8, 135), (9, 136), (10, 137)]),
  some (.struct [(0, 12), (1, 12), (2, 101), (3, 132), (4, 5), (5, 5), (6, 133), (7, 134), (8, 135), (9, 136), (10, 137)]),
  none]
def tab : Tab := { ti := fun t => (tiL[t]?).getD none, und := fun t => (ukL[t]?).getD none }
def qm : Nat → Bool := fun f => match f with | 2000044 => true | 3001044 => true | 2000045 => true | 3001045 => true | 2000056 => true | 3001056 => true | 2000065 => true | 3001065 => true | 2000068 => true | 3001068 => true | 1000015 => true | 1000018 => true | 1000022 => true | 1000023 => true | 1000024 => true | 1000028 => true | 1000029 => true | 1000030 => true | 1000031 => true | 1000032 => true | 1000033 => true | 1000034 => true | 1000035 => true | 1000036 => true | 1000037 => true | 1000038 => true | 1000039 => true | 1000040 => true | 1000042 => true | 1000044 => true | 1000045 => true | 1000054 => true | 1000056 => true | 1000057 => true | 1000059 => true | 1000065 => true | 1000066 => true | 1000067 => true | 1000068 => true | 1000071 => true | 1000072 => true | 1000073 => true | 1000074 => true | 1000075 => true | 1000082 => true | 1000089 => true | 1000092 => true  | _ => false
abbrev cx (K : zKT) : Cx := ⟨tab, qm, K⟩
noncomputable def c3 : Code := Try.f3.body.getD .skip
def rs3 : List ResultVar := [.tmp 2]
def fi3 : FnI := { nt := 45, lp := fun i => ⟨false, []⟩, jn := fun i => none, dt := fun i => none }
noncomputable def c4 : Code := Try.f4.body.getD .skip
def rs4 : List ResultVar := [.tmp 2]
def fi4 : FnI := { nt := 154, lp := fun i => ⟨false, []⟩, jn := fun i => none, dt := fun i => none }
noncomputable def c5 : Code := Try.f5.body.getD .skip
def rs5 : List ResultVar := [.tmp 4]
def fi5 : FnI := { nt := 137, lp := fun i => ⟨false, []⟩, jn := fun i => none, dt := fun i => none }
noncomputable def c6 : Code := Try.f6.body.getD .skip
def rs6 : List ResultVar := [.tmp 2]
def fi6 : FnI := { nt := 102, lp := fun i => ⟨false, []⟩, jn := fun i => none, dt := fun i => none }
noncomputable def c7 : Code := Try.f7.body.getD .skip
def rs7 : List ResultVar := [.tmp 2]
def fi7 : FnI := { nt := 110, lp := fun i => ⟨false, []⟩, jn := fun i => none, dt := fun i => none }
noncomputable def c8 : Code := Try.f8.body.getD .skip
def rs8 : List ResultVar := [.tmp 2]
def fi8 : FnI := { nt := 125, lp := fun i => if i = 11 then ⟨false, [3, 4, 6, 7, 8]⟩ else ⟨false, []⟩, jn := fun i => none, dt := fun i => none }
noncomputable def c9 : Code := Try.f9.body.getD .skip
def rs9 : List ResultVar := [.tmp 2]
def fi9 : FnI := { nt := 133, lp := fun i => ⟨false, []⟩, jn := fun i => none, dt := fun i => none }
noncomputable def c10 : Code := Try.f10.body.getD .skip
def rs10 : List ResultVar := [.tmp 2]
def JQ : FnI := { nt := 143, lp := fun i => if i = 14 then ⟨false, [3, 5, 7, 8, 9, 10]⟩ else ⟨false, []⟩, jn := fun i => if i = 15 then some [3, 5, 7, 8, 9, 10] else none, dt := fun i => none }
noncomputable def c11 : Code := Try.f11.body.getD .skip
def rs11 : List ResultVar := [.tmp 4]
def fi11 : FnI := { nt := 85, lp := fun i => ⟨false, []⟩, jn := fun i => if i = 16 then some [8, 12, 13] else none, dt := fun i => if i = 15 then some (.split 3 9 (.split 5 9 (.leaf [0, 1, 2, 3, 4, 5, 6, 7, 8, 9, 10, 11]) (.leaf [0, 1, 2, 3, 4, 9, 5, 6, 7, 8, 10, 11])) (.leaf [0, 1, 2, 9, 3, 4, 5, 6, 7, 8, 10, 11])) else none }
noncomputable def c12 : Code := Try.f12.body.getD .skip
def qi7 : List ResultVar := [.tmp 2]
def Qa : FnI := { nt := 107, lp := fun i => if i = 10 then ⟨true, [4, 5, 6, 9, 11, 12]⟩ else ⟨false, []⟩, jn := fun i => if i = 11 then some [4, 5, 6, 9, 11, 12] else if i = 14 then some [4, 5, 6, 9, 11, 12, 13] else if i = 17 then some [4, 5, 6, 9, 11, 12, 15] else none, dt := fun i => if i = 13 then some (.split 3 9 (.split 5 9 (.leaf [0, 1, 2, 3, 4, 5, 6, 7, 8, 9, 10, 11]) (.leaf [0, 1, 2, 3, 4, 9, 5, 6, 7, 8, 10, 11])) (.leaf [0, 1, 2, 9, 3, 4, 5, 6, 7, 8, 10, 11])) else if i = 16 then some (.split 3 9 (.split 5 9 (.leaf [0, 1, 2, 3, 4, 5, 6, 7, 8, 9, 10, 11]) (.leaf [0, 1, 2, 3, 4, 9, 5, 6, 7, 8, 10, 11])) (.leaf [0, 1, 2, 9, 3, 4, 5, 6, 7, 8, 10, 11])) else none }
noncomputable def c13 : Code := Try.f13.body.getD .skip
def rs13 : List ResultVar := [.tmp 2]
def Wg : FnI := { nt := 67, lp := fun i => if i = 10 then ⟨true, [4, 5, 7, 8]⟩ else ⟨false, []⟩, jn := fun i => if i = 13 then some [4, 5, 7, 8, 9, 10] else none, dt := fun i => if i = 12 then some (.split 3 9 (.split 5 9 (.leaf [0, 1, 2, 3, 4, 5, 6, 7, 8, 9, 10, 11]) (.leaf [0, 1, 2, 3, 4, 9, 5, 6, 7, 8, 10, 11])) (.leaf [0, 1, 2, 9, 3, 4, 5, 6, 7, 8, 10, 11])) else none }
noncomputable def c14 : Code := Try.f14.body.getD .skip
def rs14 : List ResultVar := [.tmp 4]
def fi14 : FnI := { nt := 106, lp := fun i => ⟨false, []⟩, jn := fun i => if i = 9 then some [1, 5, 8, 9] else if i = 11 then some [5, 9, 11, 12] else none, dt := fun i => if i = 8 then some (.split 3 16 (.split 5 16 (.split 9 16 (.split 12 16 (.leaf [0, 1, 2, 3, 4, 5, 6, 7, 8, 9, 10, 11, 12, 13, 14, 15, 16, 17, 18]) (.leaf [0, 1, 2, 3, 4, 5, 6, 7, 8, 9, 10, 11, 16, 12, 13, 14, 15, 17, 18])) (.leaf [0, 1, 2, 3, 4, 5, 6, 7, 8, 16, 9, 10, 11, 12, 13, 14, 15, 17, 18])) (.split 9 16 (.leaf [0, 1, 2, 3, 4, 8, 9, 10, 11, 16, 5, 6, 7, 12, 13, 14, 15, 17, 18]) (.leaf [0, 1, 2, 3, 4, 8, 16, 5, 6, 7, 9, 10, 11, 12, 13, 14, 15, 17, 18]))) (.split 5 16 (.split 9 16 (.leaf [0, 1, 2, 4, 5, 6, 8, 9, 10, 11, 16, 3, 7, 12, 13, 14, 15, 17, 18]) (.leaf [0, 1, 2, 4, 5, 6, 8, 16, 3, 7, 9, 10, 11, 12, 13, 14, 15, 17, 18])) (.split 9 16 (.leaf [0, 1, 2, 4, 8, 9, 10, 11, 16, 3, 5, 6, 7, 12, 13, 14, 15, 17, 18]) (.leaf [0, 1, 2, 4, 8, 16, 3, 5, 6, 7, 9, 10, 11, 12, 13, 14, 15, 17, 18])))) else if i = 10 then some (.split 3 17 (.split 6 17 (.split 10 17 (.split 13 17 (.leaf [0, 1, 2, 3, 4, 5, 6, 7, 8, 9, 10, 11, 12, 13, 14, 15, 16, 17, 18, 19]) (.leaf [0, 1, 2, 3, 4, 5, 6, 7, 8, 9, 10, 11, 12, 17, 13, 14, 15, 16, 18, 19])) (.leaf [0, 1, 2, 3, 4, 5, 6, 7, 8, 9, 17, 10, 11, 12, 13, 14, 15, 16, 18, 19])) (.split 10 17 (.leaf [0, 1, 2, 3, 4, 5, 9, 10, 11, 12, 17, 6, 7, 8, 13, 14, 15, 16, 18, 19]) (.leaf [0, 1, 2, 3, 4, 5, 9, 17, 6, 7, 8, 10, 11, 12, 13, 14, 15, 16, 18, 19]))) (.split 6 17 (.split 10 17 (.leaf [0, 1, 2, 5, 6, 7, 9, 10, 11, 12, 17, 3, 4, 8, 13, 14, 15, 16, 18, 19]) (.leaf [0, 1, 2, 5, 6, 7, 9, 17, 3, 4, 8, 10, 11, 12, 13, 14, 15, 16, 18, 19])) (.split 10 17 (.leaf [0, 1, 2, 5, 9, 10, 11, 12, 17, 3, 4, 6, 7, 8, 13, 14, 15, 16, 18, 19]) (.leaf [0, 1, 2, 5, 9, 17, 3, 4, 6, 7, 8, 10, 11, 12, 13, 14, 15, 16, 18, 19])))) else none }
noncomputable def c15 : Code := Try.f15.body.getD .skip
def rs15 : List ResultVar := [.cell 2 26]
def fi15 : FnI := { nt := 25, lp := fun i => ⟨false, []⟩, jn := fun i => if i = 5 then some [2, 4] else none, dt := fun i => none }
noncomputable def c16 : Code := Try.f16.body.getD .skip
def rs16 : List ResultVar := [.tmp 2]
def fi16 : FnI := { nt := 18, lp := fun i => ⟨false, []⟩, jn := fun i => none, dt := fun i => none }
noncomputable def c17 : Code := Try.f17.body.getD .skip
def rs17 : List ResultVar := [.tmp 2]
def fi17 : FnI := { nt := 18, lp := fun i => ⟨false, []⟩, jn := fun i => none, dt := fun i => none }
noncomputable def c18 : Code := Try.f18.body.getD .skip
def rs18 : List ResultVar := [.cell 0 26]
def fi18 : FnI := { nt := 4, lp := fun i => ⟨false, []⟩, jn := fun i => none, dt := fun i => none }
noncomputable def c19 : Code := Try.f19.body.getD .skip
def rs19 : List ResultVar := [.tmp 2]
def fi19 : FnI := { nt := 32, lp := fun i => ⟨false, []⟩, jn := fun i => none, dt := fun i => none }
noncomputable def c20 : Code := Try.f20.body.getD .skip
def rs20 : List ResultVar := [.tmp 4]
def qdm : FnI := { nt := 26, lp := fun i => if i = 4 then ⟨false, [0, 1, 5]⟩ else ⟨false, []⟩, jn := fun i => none, dt := fun i => none }
noncomputable def c21 : Code := Try.f21.body.getD .skip
def qi8 : List ResultVar := [.tmp 2]
def xL : FnI := { nt := 35, lp := fun i => if i = 5 then ⟨true, [3, 13, 14, 15]⟩ else if i = 8 then ⟨true, [3, 13, 14, 15, 20, 21, 22]⟩ else ⟨false, []⟩, jn := fun i => none, dt := fun i => none }
noncomputable def c22 : Code := Try.f22.body.getD .skip
def rs22 : List ResultVar := [.cell 2 26, .cell 3 34]
def fi22 : FnI := { nt := 18, lp := fun i => ⟨false, []⟩, jn := fun i => none, dt := fun i => none }
noncomputable def c23 : Code := Try.f23.body.getD .skip
def rs23 : List ResultVar := [.cell 4 26, .tmp 5]
def fi23 : FnI := { nt := 19, lp := fun i => ⟨false, []⟩, jn := fun i => none, dt := fun i => none }
noncomputable def c24 : Code := Try.f24.body.getD .skip
def rs24 : List ResultVar := [.cell 4 26, .tmp 5]
def fi24 : FnI := { nt := 21, lp := fun i => ⟨false, []⟩, jn := fun i => none, dt := fun i => none }
noncomputable def c25 : Code := Try.f25.body.getD .skip
def rs25 : List ResultVar := [.tmp 4]
def fi25 : FnI := { nt := 31, lp := fun i => ⟨false, []⟩, jn := fun i => none, dt := fun i => none }
noncomputable def c26 : Code := Try.f26.body.getD .skip
def rs26 : List ResultVar := [.tmp 4]
def qdn : FnI := { nt := 27, lp := fun i => if i = 4 then ⟨false, [0, 1, 5]⟩ else ⟨false, []⟩, jn := fun i => none, dt := fun i => none }
noncomputable def c27 : Code := Try.f27.body.getD .skip
def rs27 : List ResultVar := [.tmp 2]
def qdo : FnI := { nt := 42, lp := fun i => if i = 2 then ⟨false, [1, 3]⟩ else ⟨false, []⟩, jn := fun i => none, dt := fun i => none }
noncomputable def c28 : Code := Try.f28.body.getD .skip
def rs28 : List ResultVar := [.cell 4 26, .tmp 5]
def fi28 : FnI := { nt := 21, lp := fun i => ⟨false, []⟩, jn := fun i => none, dt := fun i => none }
noncomputable def c29 : Code := Try.f29.body.getD .skip
def rs29 : List ResultVar := [.cell 2 26, .cell 3 34]
def fi29 : FnI := { nt := 8, lp := fun i => ⟨false, []⟩, jn := fun i => none, dt := fun i => none }
noncomputable def c30 : Code := Try.f30.body.getD .skip
def rs30 : List ResultVar := [.cell 4 26, .tmp 5]
def fi30 : FnI := { nt := 19, lp := fun i => ⟨false, []⟩, jn := fun i => none, dt := fun i => none }
noncomputable def c31 : Code := Try.f31.body.getD .skip
def rs31 : List ResultVar := [.cell 2 26]
def JR : FnI := { nt := 34, lp := fun i => if i = 4 then ⟨true, [2, 3, 4, 6]⟩ else ⟨false, []⟩, jn := fun i => none, dt := fun i => none }
noncomputable def c32 : Code := Try.f32.body.getD .skip
def rs32 : List ResultVar := [.tmp 2]
def fi32 : FnI := { nt := 16, lp := fun i => ⟨false, []⟩, jn := fun i => none, dt := fun i => none }
noncomputable def c33 : Code := Try.f33.body.getD .skip
def rs33 : List ResultVar := [.tmp 2]
def fi33 : FnI := { nt := 9, lp := fun i => ⟨false, []⟩, jn := fun i => none, dt := fun i => none }
noncomputable def c34 : Code := Try.f34.body.getD .skip
def rs34 : List ResultVar := [.cell 2 26, .tmp 3, .tmp 4, .tmp 5]
def fi34 : FnI := { nt := 47, lp := fun i => ⟨false, []⟩, jn := fun i => if i = 6 then some [2, 6, 7, 8, 9] else if i = 8 then some [2, 6, 7, 9] else none, dt := fun i => none }
noncomputable def c35 : Code := Try.f35.body.getD .skip
def rs35 : List ResultVar := [.cell 8 26, .tmp 9]
def JS : FnI := { nt := 38, lp := fun i => if i = 2 then ⟨true, [1, 2, 3, 4, 8, 10]⟩ else ⟨false, []⟩, jn := fun i => none, dt := fun i => none }
noncomputable def c36 : Code := Try.f36.body.getD .skip
def rs36 : List ResultVar := [.cell 8 26, .tmp 9]
def Xi : FnI := { nt := 55, lp := fun i => if i = 6 then ⟨true, [1, 2, 3, 8, 10, 33, 34, 35]⟩ else ⟨false, []⟩, jn := fun i => if i = 12 then some [8, 10] else none, dt := fun i => none }
noncomputable def c37 : Code := Try.f37.body.getD .skip
def rs37 : List ResultVar := [.cell 2 26, .tmp 3]
def fi37 : FnI := { nt := 34, lp := fun i => ⟨false, []⟩, jn := fun i => if i = 5 then some [2, 4, 5, 6] else if i = 7 then some [2, 5, 6] else none, dt := fun i => none }
noncomputable def c38 : Code := Try.f38.body.getD .skip
def rs38 : List ResultVar := [.tmp 4]
def fi38 : FnI := { nt := 21, lp := fun i => ⟨false, []⟩, jn := fun i => none, dt := fun i => if i = 3 then some (.split 2 6 (.split 3 6 (.leaf [0, 1, 2, 3, 4, 5, 6, 7, 8]) (.leaf [0, 1, 2, 4, 5, 6, 3, 7, 8])) (.leaf [0, 1, 4, 5, 6, 2, 3, 7, 8])) else none }
noncomputable def c39 : Code := Try.f39.body.getD .skip
def rs39 : List ResultVar := [.tmp 4]
def fi39 : FnI := { nt := 17, lp := fun i => ⟨false, []⟩, jn := fun i => none, dt := fun i => none }
noncomputable def c40 : Code := Try.f40.body.getD .skip
def rs40 : List ResultVar := [.cell 2 26, .tmp 3]
def fi40 : FnI := { nt := 14, lp := fun i => ⟨false, []⟩, jn := fun i => none, dt := fun i => none }
noncomputable def c41 : Code := Try.f41.body.getD .skip
def rs41 : List ResultVar := [.tmp 2]
def fi41 : FnI := { nt := 11, lp := fun i => ⟨false, []⟩, jn := fun i => if i = 3 then some [0] else none, dt := fun i => none }
noncomputable def c42 : Code := Try.f42.body.getD .skip
def rs42 : List ResultVar := [.cell 2 26, .tmp 3]
def fi42 : FnI := { nt := 70, lp := fun i => ⟨false, []⟩, jn := fun i => if i = 7 then some [0, 2, 5, 6] else if i = 16 then some [2, 5, 6] else none, dt := fun i => if i = 9 then some (.split 5 7 (.split 6 7 (.split 7 9 (.leaf [0, 1, 2, 3, 4, 5, 6, 7, 8, 9, 10, 11, 12, 13]) (.leaf [0, 1, 2, 3, 4, 5, 6, 8, 9, 7, 10, 11, 12, 13])) (.leaf [0, 1, 2, 3, 4, 5, 7, 6, 8, 9, 10, 11, 12, 13])) (.leaf [0, 1, 2, 3, 4, 7, 5, 6, 8, 9, 10, 11, 12, 13])) else none }
noncomputable def c43 : Code := Try.f43.body.getD .skip
def rs43 : List ResultVar := [.tmp 4]
def fi43 : FnI := { nt := 99, lp := fun i => ⟨false, []⟩, jn := fun i => none, dt := fun i => none }
noncomputable def c44 : Code := Try.f44.body.getD .skip
def rs44 : List ResultVar := [.cell 8 26]
def Xj : FnI := { nt := 42, lp := fun i => if i = 2 then ⟨true, [1, 2, 3, 4, 8, 9]⟩ else ⟨false, []⟩, jn := fun i => if i = 7 then some [4, 8] else none, dt := fun i => none }
noncomputable def c45 : Code := Try.f45.body.getD .skip
def rs45 : List ResultVar := [.tmp 2]
def fi45 : FnI := { nt := 12, lp := fun i => ⟨false, []⟩, jn := fun i => none, dt := fun i => none }
noncomputable def c46 : Code := Try.f46.body.getD .skip
def rs46 : List ResultVar := [.tmp 4]
def qdp : FnI := { nt := 26, lp := fun i => if i = 4 then ⟨false, [0, 1, 12, 13]⟩ else ⟨false, []⟩, jn := fun i => none, dt := fun i => none }
noncomputable def c47 : Code := Try.f47.body.getD .skip
def rs47 : List ResultVar := [.tmp 4]
def qdq : FnI := { nt := 21, lp := fun i => if i = 2 then ⟨false, [0, 1, 5]⟩ else ⟨false, []⟩, jn := fun i => none, dt := fun i => none }
noncomputable def c48 : Code := Try.f48.body.getD .skip
def qi9 : List ResultVar := [.tmp 2]
def xH : FnI := { nt := 54, lp := fun i => if i = 3 then ⟨false, [0, 3, 4]⟩ else if i = 7 then ⟨false, [0, 3, 5]⟩ else if i = 10 then ⟨false, [0, 3, 5, 6]⟩ else ⟨false, []⟩, jn := fun i => none, dt := fun i => none }
noncomputable def c49 : Code := Try.f49.body.getD .skip
def rs49 : List ResultVar := [.tmp 4]
def fi49 : FnI := { nt := 48, lp := fun i => if i = 8 then ⟨false, [7, 8]⟩ else ⟨false, []⟩, jn := fun i => if i = 3 then some [0, 1] else if i = 6 then some [0, 6] else none, dt := fun i => none }
noncomputable def c50 : Code := Try.f50.body.getD .skip
def rs50 : List ResultVar := [.tmp 2]
def fi50 : FnI := { nt := 6, lp := fun i => ⟨false, []⟩, jn := fun i => none, dt := fun i => none }
noncomputable def c51 : Code := Try.f51.body.getD .skip
def rs51 : List ResultVar := [.tmp 6]
def fi51 : FnI := { nt := 15, lp := fun i => ⟨false, []⟩, jn := fun i => none, dt := fun i => none }
noncomputable def c52 : Code := Try.f52.body.getD .skip
def rs52 : List ResultVar := [.tmp 4]
def fi52 : FnI := { nt := 9, lp := fun i => ⟨false, []⟩, jn := fun i => none, dt := fun i => none }
noncomputable def c53 : Code := Try.f53.body.getD .skip
def qja : List ResultVar := [.tmp 2]
def xM : FnI := { nt := 53, lp := fun i => if i = 5 then ⟨true, [1, 3, 11, 12, 13]⟩ else if i = 10 then ⟨true, [1, 3, 11, 12, 13, 38, 39, 40]⟩ else ⟨false, []⟩, jn := fun i => none, dt := fun i => none }
noncomputable def c54 : Code := Try.f54.body.getD .skip
def rs54 : List ResultVar := [.cell 4 34]
def fi54 : FnI := { nt := 45, lp := fun i => ⟨false, []⟩, jn := fun i => if i = 9 then some [0, 4, 5] else if i = 16 then some [4, 5] else none, dt := fun i => none }
noncomputable def c55 : Code := Try.f55.body.getD .skip
def rs55 : List ResultVar := [.tmp 2]
def fi55 : FnI := { nt := 53, lp := fun i => ⟨false, []⟩, jn := fun i => if i = 9 then some [] else none, dt := fun i => none }
noncomputable def c56 : Code := Try.f56.body.getD .skip
def rs56 : List ResultVar := [.cell 4 26]
def fi56 : FnI := { nt := 35, lp := fun i => ⟨false, []⟩, jn := fun i => if i = 12 then some [2, 4] else none, dt := fun i => none }
noncomputable def c57 : Code := Try.f57.body.getD .skip
def rs57 : List ResultVar := [.cell 2 26]
def fi57 : FnI := { nt := 16, lp := fun i => ⟨false, []⟩, jn := fun i => none, dt := fun i => if i = 1 then some (.split 2 3 (.split 6 8 (.split 6 10 (.leaf [0, 1, 2, 3, 4, 5, 6, 7, 8, 9, 10, 11, 12, 13]) (.leaf [0, 1, 2, 3, 4, 5, 7, 9, 10, 6, 8, 11, 12, 13])) (.split 6 10 (.leaf [0, 1, 2, 3, 4, 5, 7, 8, 6, 9, 10, 11, 12, 13]) (.leaf [0, 1, 2, 3, 4, 5, 7, 8, 9, 10, 6, 11, 12, 13]))) (.split 6 8 (.split 6 10 (.leaf [0, 1, 3, 2, 4, 5, 6, 7, 8, 9, 10, 11, 12, 13]) (.leaf [0, 1, 3, 2, 4, 5, 7, 9, 10, 6, 8, 11, 12, 13])) (.split 6 10 (.leaf [0, 1, 3, 2, 4, 5, 7, 8, 6, 9, 10, 11, 12, 13]) (.leaf [0, 1, 3, 2, 4, 5, 7, 8, 9, 10, 6, 11, 12, 13])))) else none }
noncomputable def c58 : Code := Try.f58.body.getD .skip
def rs58 : List ResultVar := [.tmp 2]
def fi58 : FnI := { nt := 41, lp := fun i => ⟨false, []⟩, jn := fun i => if i = 11 then some [3, 4] else none, dt := fun i => none }
noncomputable def c59 : Code := Try.f59.body.getD .skip
def rs59 : List ResultVar := [.cell 2 26]
def fi59 : FnI := { nt := 15, lp := fun i => ⟨false, []⟩, jn := fun i => none, dt := fun i => none }
noncomputable def c60 : Code := Try.f60.body.getD .skip
def rs60 : List ResultVar := []
def fi60 : FnI := { nt := 44, lp := fun i => ⟨false, []⟩, jn := fun i => none, dt := fun i => none }
noncomputable def c61 : Code := Try.f61.body.getD .skip
def rs61 : List ResultVar := [.tmp 4]
def Kc : FnI := { nt := 73, lp := fun i => if i = 4 then ⟨false, [2, 3, 5]⟩ else if i = 9 then ⟨false, [2, 3, 6]⟩ else ⟨false, []⟩, jn := fun i => none, dt := fun i => none }
noncomputable def c62 : Code := Try.f62.body.getD .skip
def rs62 : List ResultVar := [.tmp 6]
def fi62 : FnI := { nt := 15, lp := fun i => ⟨false, []⟩, jn := fun i => none, dt := fun i => none }
noncomputable def c63 : Code := Try.f63.body.getD .skip
def qjb : List ResultVar := [.tmp 2]
def yI : FnI := { nt := 64, lp := fun i => if i = 4 then ⟨false, [0, 3]⟩ else if i = 7 then ⟨false, [0, 3, 4]⟩ else if i = 12 then ⟨false, [0, 3, 5]⟩ else ⟨false, []⟩, jn := fun i => none, dt := fun i => none }
noncomputable def c64 : Code := Try.f64.body.getD .skip
def rs64 : List ResultVar := []
def fi64 : FnI := { nt := 20, lp := fun i => ⟨false, []⟩, jn := fun i => none, dt := fun i => none }
noncomputable def c65 : Code := Try.f65.body.getD .skip
def rs65 : List ResultVar := [.cell 4 26]
def fi65 : FnI := { nt := 19, lp := fun i => ⟨false, []⟩, jn := fun i => if i = 6 then some [2, 4] else none, dt := fun i => none }
noncomputable def c66 : Code := Try.f66.body.getD .skip
def rs66 : List ResultVar := [.tmp 2]
def fi66 : FnI := { nt := 9, lp := fun i => ⟨false, []⟩, jn := fun i => none, dt := fun i => none }
noncomputable def c67 : Code := Try.f67.body.getD .skip
def rs67 : List ResultVar := [.tmp 4]
def Yb : FnI := { nt := 37, lp := fun i => if i = 3 then ⟨true, [1, 2, 5, 9, 10, 11]⟩ else ⟨false, []⟩, jn := fun i => if i = 7 then some [1, 2, 5, 9, 10, 11] else none, dt := fun i => none }
noncomputable def c68 : Code := Try.f68.body.getD .skip
def rs68 : List ResultVar := [.tmp 4]
def Yc : FnI := { nt := 46, lp := fun i => if i = 4 then ⟨true, [1, 2, 5, 6, 7]⟩ else ⟨false, []⟩, jn := fun i => if i = 5 then some [1, 2, 5, 6, 7] else none, dt := fun i => none }
noncomputable def c69 : Code := Try.f69.body.getD .skip
def rs69 : List ResultVar := [.tmp 4]
def fi69 : FnI := { nt := 9, lp := fun i => ⟨false, []⟩, jn := fun i => none, dt := fun i => none }
noncomputable def c70 : Code := Try.f70.body.getD .skip
def rs70 : List ResultVar := [.tmp 2]
def fi70 : FnI := { nt := 6, lp := fun i => ⟨false, []⟩, jn := fun i => none, dt := fun i => none }
noncomputable def c71 : Code := Try.f71.body.getD .skip
def rs71 : List ResultVar := [.tmp 4]
def Yd : FnI := { nt := 28, lp := fun i => if i = 3 then ⟨true, [0, 1, 5, 6]⟩ else ⟨false, []⟩, jn := fun i => if i = 4 then some [0, 1, 5, 6] else none, dt := fun i => none }
noncomputable def c72 : Code := Try.f72.body.getD .skip
def rs72 : List ResultVar := [.tmp 2]
def Ye : FnI := { nt := 32, lp := fun i => if i = 3 then ⟨true, [0, 3, 4]⟩ else ⟨false, []⟩, jn := fun i => if i = 4 then some [0, 3, 4] else none, dt := fun i => none }
noncomputable def c73 : Code := Try.f73.body.getD .skip
def rs73 : List ResultVar := [.tmp 2]
def JT : FnI := { nt := 19, lp := fun i => if i = 3 then ⟨true, [3, 6, 7, 8]⟩ else ⟨false, []⟩, jn := fun i => none, dt := fun i => none }
noncomputable def c74 : Code := Try.f74.body.getD .skip
def rs74 : List ResultVar := [.cell 0 26]
def fi74 : FnI := { nt := 5, lp := fun i => ⟨false, []⟩, jn := fun i => none, dt := fun i => none }
noncomputable def c75 : Code := Try.f75.body.getD .skip
def rs75 : List ResultVar := [.tmp 2]
def fi75 : FnI := { nt := 29, lp := fun i => ⟨false, []⟩, jn := fun i => if i = 8 then some [3] else none, dt := fun i => none }
noncomputable def c76 : Code := Try.f76.body.getD .skip
def rs76 : List ResultVar := [.tmp 4, .tmp 5]
def fi76 : FnI := { nt := 30, lp := fun i => ⟨false, []⟩, jn := fun i => none, dt := fun i => none }
noncomputable def c77 : Code := Try.f77.body.getD .skip
def rs77 : List ResultVar := [.tmp 4]
def qdr : FnI := { nt := 19, lp := fun i => if i = 2 then ⟨false, [0, 1, 7, 8]⟩ else ⟨false, []⟩, jn := fun i => none, dt := fun i => none }
noncomputable def c78 : Code := Try.f78.body.getD .skip
def rs78 : List ResultVar := [.tmp 2]
def JU : FnI := { nt := 30, lp := fun i => if i = 2 then ⟨true, [0, 5, 6, 7]⟩ else ⟨false, []⟩, jn := fun i => none, dt := fun i => none }
noncomputable def c79 : Code := Try.f79.body.getD .skip
def rs79 : List ResultVar := [.tmp 4]
def fi79 : FnI := { nt := 9, lp := fun i => ⟨false, []⟩, jn := fun i => none, dt := fun i => none }
noncomputable def c80 : Code := Try.f80.body.getD .skip
def rs80 : List ResultVar := [.tmp 3]
def fi80 : FnI := { nt := 8, lp := fun i => ⟨false, []⟩, jn := fun i => none, dt := fun i => none }
noncomputable def c81 : Code := Try.f81.body.getD .skip
def rs81 : List ResultVar := [.tmp 4]
def fi81 : FnI := { nt := 8, lp := fun i => ⟨false, []⟩, jn := fun i => none, dt := fun i => none }
noncomputable def c82 : Code := Try.f82.body.getD .skip
def rs82 : List ResultVar := [.tmp 2]
def JV : FnI := { nt := 21, lp := fun i => if i = 3 then ⟨true, [0, 3, 4]⟩ else ⟨false, []⟩, jn := fun i => none, dt := fun i => none }
noncomputable def c83 : Code := Try.f83.body.getD .skip
def rs83 : List ResultVar := [.tmp 2]
def fi83 : FnI := { nt := 8, lp := fun i => ⟨false, []⟩, jn := fun i => none, dt := fun i => none }
noncomputable def c84 : Code := Try.f84.body.getD .skip
def rs84 : List ResultVar := [.tmp 2]
def fi84 : FnI := { nt := 5, lp := fun i => ⟨false, []⟩, jn := fun i => none, dt := fun i => none }
noncomputable def c85 : Code := Try.f85.body.getD .skip
def rs85 : List ResultVar := [.tmp 2]
def qds : FnI := { nt := 22, lp := fun i => if i = 2 then ⟨false, [0, 3]⟩ else ⟨false, []⟩, jn := fun i => none, dt := fun i => none }
noncomputable def c86 : Code := Try.f86.body.getD .skip
def rs86 : List ResultVar := [.tmp 4]
def fi86 : FnI := { nt := 22, lp := fun i => ⟨false, []⟩, jn := fun i => none, dt := fun i => none }
noncomputable def c87 : Code := Try.f87.body.getD .skip
def rs87 : List ResultVar := [.tmp 6]
def QQ : FnI := { nt := 36, lp := fun i => if i = 2 then ⟨false, [0, 1, 2, 7]⟩ else if i = 5 then ⟨false, [0, 1, 2, 7, 8]⟩ else ⟨false, []⟩, jn := fun i => none, dt := fun i => none }
noncomputable def c88 : Code := Try.f88.body.getD .skip
def rs88 : List ResultVar := [.tmp 4]
def qdt : FnI := { nt := 19, lp := fun i => if i = 2 then ⟨false, [0, 1, 7, 8]⟩ else ⟨false, []⟩, jn := fun i => none, dt := fun i => none }
noncomputable def c89 : Code := Try.f89.body.getD .skip
def qgq : List ResultVar := [.tmp 6, .tmp 7]
def yw : FnI := { nt := 80, lp := fun i => if i = 4 then ⟨false, [0, 1, 8, 9]⟩ else if i = 9 then ⟨true, [0, 1, 8, 10, 11]⟩ else if i = 17 then ⟨false, [0, 1, 8, 10, 12, 14]⟩ else ⟨false, []⟩, jn := fun i => if i = 10 then some [0, 1, 8, 10, 11] else none, dt := fun i => none }
noncomputable def c90 : Code := Try.f90.body.getD .skip
def qh8 : List ResultVar := [.cell 6 47]
def jz : FnI := { nt := 71, lp := fun i => if i = 4 then ⟨true, [0, 1, 6, 7, 8, 9]⟩ else if i = 9 then ⟨true, [0, 1, 6, 7, 10]⟩ else ⟨false, []⟩, jn := fun i => if i = 10 then some [0, 1, 6, 7, 10] else none, dt := fun i => none }
noncomputable def c91 : Code := Try.f91.body.getD .skip
def rs91 : List ResultVar := [.tmp 6]
def qdu : FnI := { nt := 31, lp := fun i => if i = 2 then ⟨false, [0, 1, 2, 7]⟩ else ⟨false, []⟩, jn := fun i => none, dt := fun i => none }
noncomputable def c92 : Code := Try.f92.body.getD .skip
def qgr : List ResultVar := [.tmp 4]
def xN : FnI := { nt := 70, lp := fun i => if i = 3 then ⟨true, [0, 3, 5, 6]⟩ else if i = 9 then ⟨true, [0, 3, 5, 7]⟩ else ⟨false, []⟩, jn := fun i => if i = 4 then some [0, 3, 5, 6] else if i = 10 then some [0, 3, 5, 7] else none, dt := fun i => none }
noncomputable def c93 : Code := Try.f93.body.getD .skip
def rs93 : List ResultVar := [.cell 2 47]
def fi93 : FnI := { nt := 12, lp := fun i => ⟨false, []⟩, jn := fun i => none, dt := fun i => none }
noncomputable def c94 : Code := Try.f94.body.getD .skip
def rs94 : List ResultVar := [.cell 2 47]
def fi94 : FnI := { nt := 55, lp := fun i => ⟨false, []⟩, jn := fun i => if i = 11 then some [2, 3] else none, dt := fun i => none }
noncomputable def c95 : Code := Try.f95.body.getD .skip
def rs95 : List ResultVar := [.tmp 4, .tmp 5]
def fi95 : FnI := { nt := 17, lp := fun i => ⟨false, []⟩, jn := fun i => none, dt := fun i => none }
noncomputable def c96 : Code := Try.f96.body.getD .skip
def rs96 : List ResultVar := [.tmp 4, .tmp 5]
def fi96 : FnI := { nt := 51, lp := fun i => ⟨false, []⟩, jn := fun i => none, dt := fun i => none }
noncomputable def c97 : Code := Try.f97.body.getD .skip
def qjc : List ResultVar := [.tmp 2]
def Qs : FnI := { nt := 106, lp := fun i => if i = 4 then ⟨true, [1, 30, 31, 32]⟩ else if i = 10 then ⟨true, [1, 65, 66, 67]⟩ else ⟨false, []⟩, jn := fun i => none, dt := fun i => none }
noncomputable def c98 : Code := Try.f98.body.getD .skip
def rs98 : List ResultVar := [.tmp 4]
def fi98 : FnI := { nt := 17, lp := fun i => ⟨false, []⟩, jn := fun i => none, dt := fun i => none }
noncomputable def c99 : Code := Try.f99.body.getD .skip
def rs99 : List ResultVar := [.tmp 4]
def qdv : FnI := { nt := 19, lp := fun i => if i = 2 then ⟨false, [0, 1, 7, 8]⟩ else ⟨false, []⟩, jn := fun i => none, dt := fun i => none }
noncomputable def c100 : Code := Try.f100.body.getD .skip
def rs100 : List ResultVar := [.tmp 4]
def fi100 : FnI := { nt := 9, lp := fun i => ⟨false, []⟩, jn := fun i => none, dt := fun i => none }
noncomputable def c101 : Code := Try.f101.body.getD .skip
def rs101 : List ResultVar := [.tmp 3]
def fi101 : FnI := { nt := 16, lp := fun i => ⟨false, []⟩, jn := fun i => none, dt := fun i => none }
noncomputable def c102 : Code := Try.f102.body.getD .skip
def rs102 : List ResultVar := [.cell 2 47]
def fi102 : FnI := { nt := 14, lp := fun i => ⟨false, []⟩, jn := fun i => none, dt := fun i => none }
noncomputable def c103 : Code := Try.f103.body.getD .skip
def qjd : List ResultVar := [.tmp 2]
def Zl : FnI := { nt := 46, lp := fun i => if i = 2 then ⟨false, [0, 3]⟩ else ⟨false, []⟩, jn := fun i => none, dt := fun i => none }
noncomputable def qje : Code := Try.f104.body.getD .skip
def qgs : List ResultVar := [.cell 4 47, .tmp 5]
def jA : FnI := { nt := 27, lp := fun i => if i = 2 then ⟨true, [0, 1, 4, 6]⟩ else ⟨false, []⟩, jn := fun i => none, dt := fun i => none }
noncomputable def c105 : Code := Try.f105.body.getD .skip
def rs105 : List ResultVar := [.tmp 4]
def fi105 : FnI := { nt := 14, lp := fun i => ⟨false, []⟩, jn := fun i => none, dt := fun i => none }
noncomputable def c106 : Code := Try.f106.body.getD .skip
def rs106 : List ResultVar := [.cell 6 47, .tmp 7]
def fi106 : FnI := { nt := 39, lp := fun i => ⟨false, []⟩, jn := fun i => none, dt := fun i => none }
noncomputable def c107 : Code := Try.f107.body.getD .skip
def rs107 : List ResultVar := [.tmp 8]
def fi107 : FnI := { nt := 22, lp := fun i => ⟨false, []⟩, jn := fun i => none, dt := fun i => none }
noncomputable def c108 : Code := Try.f108.body.getD .skip
def rs108 : List ResultVar := [.tmp 2]
def fi108 : FnI := { nt := 8, lp := fun i => ⟨false, []⟩, jn := fun i => none, dt := fun i => none }
noncomputable def c109 : Code := Try.f109.body.getD .skip
def rs109 : List ResultVar := [.tmp 2]
def fi109 : FnI := { nt := 8, lp := fun i => ⟨false, []⟩, jn := fun i => none, dt := fun i => none }
noncomputable def c110 : Code := Try.f110.body.getD .skip
def rs110 : List ResultVar := [.tmp 2]
def fi110 : FnI := { nt := 5, lp := fun i => ⟨false, []⟩, jn := fun i => none, dt := fun i => none }
noncomputable def c111 : Code := Try.f111.body.getD .skip
def rs111 : List ResultVar := [.tmp 2]
def fi111 : FnI := { nt := 5, lp := fun i => ⟨false, []⟩, jn := fun i => none, dt := fun i => none }
noncomputable def c112 : Code := Try.f112.body.getD .skip
def qjf : List ResultVar := [.tmp 2]
def Zm : FnI := { nt := 18, lp := fun i => if i = 3 then ⟨false, [3, 6, 7, 8]⟩ else ⟨false, []⟩, jn := fun i => none, dt := fun i => none }
noncomputable def c113 : Code := Try.f113.body.getD .skip
def rs113 : List ResultVar := [.tmp 4]
def fi113 : FnI := { nt := 20, lp := fun i => ⟨false, []⟩, jn := fun i => none, dt := fun i => none }
noncomputable def c114 : Code := Try.f114.body.getD .skip
def qjg : List ResultVar := [.tmp 4]
def Zn : FnI := { nt := 19, lp := fun i => if i = 2 then ⟨false, [0, 1, 7, 8]⟩ else ⟨false, []⟩, jn := fun i => none, dt := fun i => none }
noncomputable def c115 : Code := Try.f115.body.getD .skip
def rs115 : List ResultVar := [.tmp 2]
def fi115 : FnI := { nt := 23, lp := fun i => ⟨false, []⟩, jn := fun i => none, dt := fun i => none }
noncomputable def c116 : Code := Try.f116.body.getD .skip
def rs116 : List ResultVar := [.tmp 2]
def fi116 : FnI := { nt := 6, lp := fun i => ⟨false, []⟩, jn := fun i => none, dt := fun i => none }
noncomputable def c117 : Code := Try.f117.body.getD .skip
def qjh : List ResultVar := [.tmp 2]
def Zo : FnI := { nt := 47, lp := fun i => if i = 2 then ⟨false, [0, 3]⟩ else ⟨false, []⟩, jn := fun i => none, dt := fun i => none }
noncomputable def qji : Code := Try.f118.body.getD .skip
def qgt : List ResultVar := [.tmp 4]
def jB : FnI := { nt := 51, lp := fun i => if i = 2 then ⟨true, [0, 1, 5]⟩ else ⟨false, []⟩, jn := fun i => none, dt := fun i => none }
noncomputable def qdw : List (Option Func) := [none, none, none, some Try.f3, some Try.f4, some Try.f5, some Try.f6, some Try.f7, some Try.f8, some Try.f9, some Try.f10, some Try.f11, some Try.f12, some Try.f13, some Try.f14, some Try.f15, some Try.f16, some Try.f17, some Try.f18, some Try.f19, some Try.f20, some Try.f21, some Try.f22, some Try.f23, some Try.f24, some Try.f25, some Try.f26, some Try.f27, some Try.f28, some Try.f29, some Try.f30, some Try.f31, some Try.f32, some Try.f33, some Try.f34, some Try.f35, some Try.f36, some Try.f37, some Try.f38, some Try.f39, some Try.f40, some Try.f41, some Try.f42, some Try.f43, some Try.f44, some Try.f45, some Try.f46, some Try.f47, some Try.f48, some Try.f49, some Try.f50, some Try.f51, some Try.f52, some Try.f53, some Try.f54, some Try.f55, some Try.f56, some Try.f57, some Try.f58, some Try.f59, some Try.f60, some Try.f61, some Try.f62, some Try.f63, some Try.f64, some Try.f65, some Try.f66, some Try.f67, some Try.f68, some Try.f69, some Try.f70, some Try.f71, some Try.f72, some Try.f73, some Try.f74, some Try.f75, some Try.f76, some Try.f77, some Try.f78, some Try.f79, some Try.f80, some Try.f81, some Try.f82, some Try.f83, some Try.f84, some Try.f85, some Try.f86, some Try.f87, some Try.f88, some Try.f89, some Try.f90, some Try.f91, some Try.f92, some Try.f93, some Try.f94, some Try.f95, some Try.f96, some Try.f97, some Try.f98, some Try.f99, some Try.f100, some Try.f101, some Try.f102, some Try.f103, some Try.f104, some Try.f105, some Try.f106, some Try.f107, some Try.f108, some Try.f109, some Try.f110, some Try.f111, some Try.f112, some Try.f113, some Try.f114, some Try.f115, some Try.f116, some Try.f117, some Try.f118]
def fiL : List FnI := [⟨0, fun _ => ⟨false, []⟩, fun _ => none, fun _ => none⟩, ⟨0, fun _ => ⟨false, []⟩, fun _ => none, fun _ => none⟩, ⟨0, fun _ => ⟨false, []⟩, fun _ => none, fun _ => none⟩, fi3, fi4, fi5, fi6, fi7, fi8, fi9, JQ, fi11, Qa, Wg, fi14, fi15, fi16, fi17, fi18, fi19, qdm, xL, fi22, fi23, fi24, fi25, qdn, qdo, fi28, fi29, fi30, JR, fi32, fi33, fi34, JS, Xi, fi37, fi38, fi39, fi40, fi41, fi42, fi43, Xj, fi45, qdp, qdq, xH, fi49, fi50, fi51, fi52, xM, fi54, fi55, fi56, fi57, fi58, fi59, fi60, Kc, fi62, yI, fi64, fi65, fi66, Yb, Yc, fi69, fi70, Yd, Ye, JT, fi74, fi75, fi76, qdr, JU, fi79, fi80, fi81, JV, fi83, fi84, qds, fi86, QQ, qdt, yw, jz, qdu, xN, fi93, fi94, fi95, fi96, Qs, fi98, qdv, fi100, fi101, fi102, Zl, jA, fi105, fi106, fi107, fi108, fi109, fi110, fi111, Zm, fi113, Zn, fi115, fi116, Zo, jB]
def qjj (f : Nat) : Option (List SV → List SO → Out) := if f = 83 then some (xd 1 8) else if f = 108 then some (xd 2 16) else if f = 109 then some (xd 2 16) else none
def purF : Nat → List Nat := fun f => match f with | 15 => [0, 1, 3] | 22 => [0, 1, 3, 103] | 23 => [0, 1, 3] | 24 => [0, 1, 3] | 28 => [0, 1, 3] | 29 => [0, 1, 3, 103] | 30 => [0, 1, 3] | 31 => [0, 1, 3] | 32 => [0] | 33 => [0] | 34 => [0, 1, 3, 100] | 35 => [0, 1, 3] | 36 => [0, 1, 3] | 37 => [0, 1, 3, 100] | 38 => [0] | 39 => [0] | 40 => [0, 1, 3] | 42 => [0, 3, 100] | 44 => [0, 3] | 45 => [0] | 54 => [3] | 56 => [0, 3] | 57 => [0, 3] | 59 => [0, 3] | 60 => [99999, 100000, 100003] | 64 => [99999, 100000, 100003] | 65 => [0, 3] | 67 => [0] | 71 => [0] | 73 => [0] | 82 => [0]  | _ => []
noncomputable def prg : Prg := { T := tab, own := qm, pur := purF, code := fun f => (qdw[f]?).getD none, fi := fun f => (fiL[f]?).getD ⟨0, fun _ => ⟨false, []⟩, fun _ => none, fun _ => none⟩, prim := qjj }
noncomputable def X3 (K : zKT) (N nl : Nat) (x0 : SV) (os : List SO) : Out := qA (cx K) N nl fi3 c3 [(0, x0)] os (qV tab [] nl rs3)
noncomputable def B3 (K : zKT) (N nl : Nat) (x0 : SV) (os : List SO) : Out :=
 bd (ze tab 22 os x0) fun v1 o1=>
 bd (qc (qw tab .gtr 3 v1 (.v (.int .i64 1048576))) o1) fun v2 o2=>
 qE v2 (zq tab nl o2 (qx (some (.v (.bool true))) (some [])))
 (bd (qn ⟨tab, qm, K⟩ o2 15 [x0]) fun v3 o3 =>
 bd (qD tab o3 26) fun v4 o4=>
 bd (qp tab o4 26 v4 (some v3)) fun v5 o5=>
 bd (qc (qf tab o5 26 v4) o5) fun v6 o6=>
 bd (qn ⟨tab, qm, K⟩ o6 16 [v6]) fun v7 o7=>
 bd (qc (qf tab o7 26 v4) o7) fun v8 o8=>
 bd (qn ⟨tab, qm, K⟩ o8 17 [v8]) fun v9 o9=>
 bd (qc (qw tab .neq 4 v7 v9) o9) fun v10 o10=>
 qE v10 (zq tab nl o10 (qx (some (.v (.bool false))) (some [])))
 (bd (qn ⟨tab, qm, K⟩ o10 18 []) fun v11 o11 =>
 bd (qD tab o11 26) fun v12 o12=>
 bd (qp tab o12 26 v12 (some v11)) fun v13 o13=>
 bd (qc (qf tab o13 26 v4) o13) fun v14 o14=>
 bd (qn ⟨tab, qm, K⟩ o14 19 [v14]) fun v15 o15=>
 bd (gd v15 true (qc (qa tab 26 v4 2) o15) o15) fun v16 o16=>
 bd (gd v15 true (qc (qf tab o16 4 v16) o16) o16) fun v17 o17=>
 bd (gd v15 true (qc (unS .not v17) o17) o17) fun v18 o18=>
 bd (qc (qL v15 v18 (.v (.bool false))) o18) fun v19 o19=>
 bd (gd v19 true (qc (qa tab 26 v4 1) o19) o19) fun v20 o20=>
 zQ (zv v20) <|
 bd (gd v19 true (qc (qf tab o20 24 v20) o20) o20) fun v21 o21=>
 bd (gd v19 true (qc (qa tab 26 v4 0) o21) o21) fun v22 o22=>
 bd (gd v19 true (qc (qf tab o22 23 v22) o22) o22) fun v23 o23=>
 zQ (zy ⟨tab, qm, K⟩ o23 (SV.fn 21 []) [v23] [v20] false) <|
 bd (gd v19 true (qn ⟨tab, qm, K⟩ o23 21 [v23]) o23) fun v24 o24=>
 bd (gd v19 true (qn ⟨tab, qm, K⟩ o24 20 [v21, v24]) o24) fun v25 o25=>
 bd (qc (qL v19 v25 (.v (.bool false))) o25) fun v26 o26=>
 bd (qc (qw tab .eql 4 v7 v26) o26) fun v27 o27=>
 bd (gd v27 true (qc (qf tab o27 26 v12) o27) o27) fun v28 o28=>
 bd (gd v27 true (qn ⟨tab, qm, K⟩ o28 16 [v28]) o28) fun v29 o29=>
 bd (qc (qL v27 v29 (.v (.bool false))) o29) fun v30 o30=>
 bd (gd v30 true (qc (qa tab 26 v12 0) o30) o30) fun v31 o31=>
 bd (gd v30 true (qc (qf tab o31 23 v31) o31) o31) fun v32 o32=>
 bd (gd v30 true (ze tab 23 o32 v32) o32) fun v33 o33=>
 bd (gd v30 true (qc (qw tab .eql 3 v33 (.v (.int .i64 0))) o33) o33) fun v34 o34=>
 bd (qc (qL v30 v34 (.v (.bool false))) o34) fun v35 o35=>
 zq tab nl o35 (qx (some v35) (some []))))
noncomputable def X4 (K : zKT) (N nl : Nat) (x0 : SV) (os : List SO) : Out := qA (cx K) N nl fi4 c4 [(0, x0)] os (qV tab [] nl rs4)
noncomputable def B4 (K : zKT) (N nl : Nat) (x0 : SV) (os : List SO) : Out :=
 bd (ze tab 22 os x0) fun v1 o1=>
 bd (qc (qw tab .gtr 3 v1 (.v (.int .i64 1048576))) o1) fun v2 o2=>
 qE v2 (zq tab nl o2 (qx (some (.v (.bool true))) (some [])))
 (bd (qn ⟨tab, qm, K⟩ o2 22 [x0]) fun v3 o3 =>
 bd (qc (ql v3 0) o3) fun v4 o4=>
 bd (qc (ql v3 1) o4) fun v5 o5=>
 bd (qD tab o5 26) fun v6 o6=>
 bd (qD tab o6 34) fun v7 o7=>
 bd (qp tab o7 26 v6 (some v4)) fun v8 o8=>
 bd (qp tab o8 34 v7 (some v5)) fun v9 o9=>
 bd (qc (qf tab o9 26 v6) o9) fun v10 o10=>
 bd (qc (qf tab o10 34 v7) o10) fun v11 o11=>
 bd (qn ⟨tab, qm, K⟩ o11 23 [v10, v11]) fun v12 o12=>
 bd (qc (ql v12 0) o12) fun v13 o13=>
 bd (qc (ql v12 1) o13) fun v14 o14=>
 bd (qD tab o14 26) fun v15 o15=>
 bd (qp tab o15 26 v15 (some v13)) fun v16 o16=>
 bd (qc (qf tab o16 26 v6) o16) fun v17 o17=>
 bd (qc (qf tab o17 34 v7) o17) fun v18 o18=>
 bd (qn ⟨tab, qm, K⟩ o18 24 [v17, v18]) fun v19 o19=>
 bd (qc (ql v19 0) o19) fun v20 o20=>
 bd (qc (ql v19 1) o20) fun v21 o21=>
 bd (qD tab o21 26) fun v22 o22=>
 bd (qp tab o22 26 v22 (some v20)) fun v23 o23=>
 bd (qc (qw tab .neq 4 v21 v14) o23) fun v24 o24=>
 bd (gd v24 false (qc (qf tab o24 26 v22) o24) o24) fun v25 o25=>
 bd (gd v24 false (qc (qf tab o25 26 v15) o25) o25) fun v26 o26=>
 bd (gd v24 false (qn ⟨tab, qm, K⟩ o26 25 [v25, v26]) o26) fun v27 o27=>
 bd (gd v24 false (qc (unS .not v27) o27) o27) fun v28 o28=>
 bd (qc (qL v24 (.v (.bool true)) v28) o28) fun v29 o29=>
 bd (gd v29 false (some (v21, o29)) o29) fun v30 o30=>
 bd (gd v29 false (qc (unS .not v30) o30) o30) fun v31 o31=>
 bd (qc (qL v29 (.v (.bool true)) v31) o31) fun v32 o32=>
 qE v32 (bd (qc (qw tab .eql 4 v21 v14) o32) fun v33 o33 =>
 bd (gd v33 true (qc (qf tab o33 26 v22) o33) o33) fun v34 o34=>
 bd (gd v33 true (qc (qf tab o34 26 v15) o34) o34) fun v35 o35=>
 bd (gd v33 true (qn ⟨tab, qm, K⟩ o35 25 [v34, v35]) o35) fun v36 o36=>
 bd (qc (qL v33 v36 (.v (.bool false))) o36) fun v37 o37=>
 zq tab nl o37 (qx (some v37) (some [])))
 (bd (qc (qf tab o32 26 v22) o32) fun v38 o38 =>
 bd (qc (qf tab o38 34 v7) o38) fun v39 o39=>
 bd (qn ⟨tab, qm, K⟩ o39 24 [v38, v39]) fun v40 o40=>
 bd (qc (ql v40 0) o40) fun v41 o41=>
 bd (qc (ql v40 1) o41) fun v42 o42=>
 bd (qD tab o42 26) fun v43 o43=>
 bd (qp tab o43 26 v43 (some v41)) fun v44 o44=>
 bd (qc (qf tab o44 26 v22) o44) fun v45 o45=>
 bd (qc (qf tab o45 26 v43) o45) fun v46 o46=>
 bd (qn ⟨tab, qm, K⟩ o46 25 [v45, v46]) fun v47 o47=>
 bd (qc (unS .not v47) o47) fun v48 o48=>
 bd (gd v48 false (qc (qf tab o48 26 v22) o48) o48) fun v49 o49=>
 bd (gd v48 false (qn ⟨tab, qm, K⟩ o49 19 [v49]) o49) fun v50 o50=>
 bd (gd v48 false (qc (unS .not v50) o50) o50) fun v51 o51=>
 bd (qc (qL v48 (.v (.bool true)) v51) o51) fun v52 o52=>
 qE v52 (zq tab nl o52 (qx (some (.v (.bool false))) (some [])))
 (bd (qc (qf tab o52 26 v22) o52) fun v53 o53 =>
 bd (qD tab o53 26) fun v54 o54=>
 bd (qp tab o54 26 v54 (some v53)) fun v55 o55=>
 bd (qc (qa tab 34 v7 0) o55) fun v56 o56=>
 bd (qc (qf tab o56 3 v56) o56) fun v57 o57=>
 bd (qc (qw tab .eql 3 v57 (.v (.int .i64 1))) o57) fun v58 o58=>
 qE v58 (bd (qc (qa tab 26 v6 2) o58) fun v59 o59 =>
 bd (qc (qf tab o59 4 v59) o59) fun v60 o60=>
 bd (qc (qa tab 26 v54 2) o60) fun v61 o61=>
 bd (qp tab o61 4 v61 (some v60)) fun v62 o62=>
 bd (qc (qa tab 26 v6 3) o62) fun v63 o63=>
 bd (qc (qf tab o63 23 v63) o63) fun v64 o64=>
 bd (qc (qa tab 26 v54 3) o64) fun v65 o65=>
 bd (qp tab o65 23 v65 (some v64)) fun v66 o66=>
 bd (qc (qa tab 26 v22 2) o66) fun v67 o67=>
 bd (qc (qf tab o67 4 v67) o67) fun v68 o68=>
 bd (gd v68 true (qc (qa tab 26 v22 3) o68) o68) fun v69 o69=>
 bd (gd v68 true (qc (qf tab o69 23 v69) o69) o69) fun v70 o70=>
 bd (gd v68 true (qc (qa tab 34 v7 3) o70) o70) fun v71 o71=>
 bd (gd v68 true (qc (qf tab o71 23 v71) o71) o71) fun v72 o72=>
 bd (gd v68 true (qn ⟨tab, qm, K⟩ o72 26 [v70, v72]) o72) fun v73 o73=>
 bd (qc (qL v68 v73 (.v (.bool false))) o73) fun v74 o74=>
 bd (gd v74 true (qc (qf tab o74 26 v54) o74) o74) fun v75 o75=>
 bd (gd v74 true (qc (qf tab o75 26 v6) o75) o75) fun v76 o76=>
 bd (gd v74 true (qn ⟨tab, qm, K⟩ o76 25 [v75, v76]) o76) fun v77 o77=>
 bd (qc (qL v74 v77 (.v (.bool false))) o77) fun v78 o78=>
 zq tab nl o78 (qx (some v78) (some [])))
 (bd (qc (qw tab .eql 3 v57 (.v (.int .i64 2))) o58) fun v79 o79 =>
 qE v79 (bd (qv tab o79 24 0 []) fun v80 o80 =>
 bd (qc (qa tab 26 v22 1) o80) fun v81 o81=>
 bd (qc (qf tab o81 24 v81) o81) fun v82 o82=>
 bd (zx tab o82 24 24 v80 v82) fun v83 o83=>
 bd (qc (qa tab 26 v54 1) o83) fun v84 o84=>
 bd (qp tab o84 24 v84 (some v83)) fun v85 o85=>
 bd (qc (qa tab 26 v54 1) o85) fun v86 o86=>
 bd (qc (qf tab o86 24 v86) o86) fun v87 o87=>
 bd (qc (qa tab 34 v7 1) o87) fun v88 o88=>
 bd (qc (qf tab o88 3 v88) o88) fun v89 o89=>
 bd (qc (qa tab 26 v6 1) o89) fun v90 o90=>
 bd (qc (qf tab o90 24 v90) o90) fun v91 o91=>
 bd (qc (qa tab 34 v7 1) o91) fun v92 o92=>
 bd (qc (qf tab o92 3 v92) o92) fun v93 o93=>
 bd (qc (qj tab o93 24 v91 v93) o93) fun v94 o94=>
 bd (qc (qf tab o94 3 v94) o94) fun v95 o95=>
 bd (qc (qj tab o95 24 v87 v89) o95) fun v96 o96=>
 bd (qp tab o96 3 v96 (some v95)) fun v97 o97=>
 bd (qc (qa tab 26 v22 1) o97) fun v98 o98=>
 bd (qc (qf tab o98 24 v98) o98) fun v99 o99=>
 bd (qc (qa tab 34 v7 1) o99) fun v100 o100=>
 bd (qc (qf tab o100 3 v100) o100) fun v101 o101=>
 bd (qc (qj tab o101 24 v99 v101) o101) fun v102 o102=>
 bd (qc (qf tab o102 3 v102) o102) fun v103 o103=>
 bd (qc (qa tab 34 v7 2) o103) fun v104 o104=>
 bd (qc (qf tab o104 3 v104) o104) fun v105 o105=>
 bd (qc (qw tab .eql 3 v103 v105) o105) fun v106 o106=>
 bd (gd v106 true (qc (qf tab o106 26 v54) o106) o106) fun v107 o107=>
 bd (gd v106 true (qc (qf tab o107 26 v6) o107) o107) fun v108 o108=>
 bd (gd v106 true (qn ⟨tab, qm, K⟩ o108 25 [v107, v108]) o108) fun v109 o109=>
 bd (qc (qL v106 v109 (.v (.bool false))) o109) fun v110 o110=>
 zq tab nl o110 (qx (some v110) (some [])))
 (bd (qc (qw tab .eql 3 v57 (.v (.int .i64 3))) o79) fun v111 o111 =>
 qE v111 (bd (qc (qa tab 26 v6 0) o111) fun v112 o112 =>
 bd (qc (qf tab o112 23 v112) o112) fun v113 o113=>
 bd (qc (qa tab 26 v54 0) o113) fun v114 o114=>
 bd (qp tab o114 23 v114 (some v113)) fun v115 o115=>
 bd (qc (qa tab 26 v22 0) o115) fun v116 o116=>
 bd (qc (qf tab o116 23 v116) o116) fun v117 o117=>
 bd (qc (qa tab 34 v7 3) o117) fun v118 o118=>
 bd (qc (qf tab o118 23 v118) o118) fun v119 o119=>
 bd (qn ⟨tab, qm, K⟩ o119 26 [v117, v119]) fun v120 o120=>
 bd (gd v120 true (qc (qf tab o120 26 v54) o120) o120) fun v121 o121=>
 bd (gd v120 true (qc (qf tab o121 26 v6) o121) o121) fun v122 o122=>
 bd (gd v120 true (qn ⟨tab, qm, K⟩ o122 25 [v121, v122]) o122) fun v123 o123=>
 bd (qc (qL v120 v123 (.v (.bool false))) o123) fun v124 o124=>
 zq tab nl o124 (qx (some v124) (some [])))
 (bd (qc (qa tab 26 v6 2) o111) fun v125 o125 =>
 bd (qc (qf tab o125 4 v125) o125) fun v126 o126=>
 bd (qc (qa tab 26 v54 2) o126) fun v127 o127=>
 bd (qp tab o127 4 v127 (some v126)) fun v128 o128=>
 bd (qc (qa tab 26 v6 3) o128) fun v129 o129=>
 bd (qc (qf tab o129 23 v129) o129) fun v130 o130=>
 bd (qc (qa tab 26 v54 3) o130) fun v131 o131=>
 bd (qp tab o131 23 v131 (some v130)) fun v132 o132=>
 bd (qc (qa tab 26 v22 2) o132) fun v133 o133=>
 bd (qc (qf tab o133 4 v133) o133) fun v134 o134=>
 bd (qc (unS .not v134) o134) fun v135 o135=>
 bd (gd v135 true (qc (qf tab o135 26 v54) o135) o135) fun v136 o136=>
 bd (gd v135 true (qc (qf tab o136 26 v6) o136) o136) fun v137 o137=>
 bd (gd v135 true (qn ⟨tab, qm, K⟩ o137 25 [v136, v137]) o137) fun v138 o138=>
 bd (qc (qL v135 v138 (.v (.bool false))) o138) fun v139 o139=>
 zq tab nl o139 (qx (some v139) (some []))))))))
noncomputable def X5 (K : zKT) (N nl : Nat) (x0 x1 : SV) (os : List SO) : Out := qA (cx K) N nl fi5 c5 [(0, x0), (1, x1)] os (qV tab [] nl rs5)
noncomputable def B5 (K : zKT) (N nl : Nat) (x0 x1 : SV) (os : List SO) : Out :=
 bd (ze tab 22 os x0) fun v1 o1=>
 bd (qc (qw tab .gtr 3 v1 (.v (.int .i64 1048576))) o1) fun v2 o2=>
 bd (gd v2 false (some (x1, o2)) o2) fun v3 o3=>
 bd (gd v2 false (ze tab 22 o3 v3) o3) fun v4 o4=>
 bd (gd v2 false (qc (qw tab .gtr 3 v4 (.v (.int .i64 1048576))) o4) o4) fun v5 o5=>
 bd (qc (qL v2 (.v (.bool true)) v5) o5) fun v6 o6=>
 qE v6 (zq tab nl o6 (qx (some (.v (.bool true))) (some [])))
 (bd (qn ⟨tab, qm, K⟩ o6 22 [x0]) fun v7 o7 =>
 bd (qc (ql v7 0) o7) fun v8 o8=>
 bd (qc (ql v7 1) o8) fun v9 o9=>
 bd (qD tab o9 26) fun v10 o10=>
 bd (qD tab o10 34) fun v11 o11=>
 bd (qp tab o11 26 v10 (some v8)) fun v12 o12=>
 bd (qp tab o12 34 v11 (some v9)) fun v13 o13=>
 bd (qc (qf tab o13 26 v10) o13) fun v14 o14=>
 bd (qc (qf tab o14 34 v11) o14) fun v15 o15=>
 bd (qn ⟨tab, qm, K⟩ o15 23 [v14, v15]) fun v16 o16=>
 bd (qc (ql v16 0) o16) fun v17 o17=>
 bd (qc (ql v16 1) o17) fun v18 o18=>
 bd (qD tab o18 26) fun v19 o19=>
 bd (qp tab o19 26 v19 (some v17)) fun v20 o20=>
 bd (qc (qf tab o20 26 v10) o20) fun v21 o21=>
 bd (qc (qf tab o21 34 v11) o21) fun v22 o22=>
 bd (qn ⟨tab, qm, K⟩ o22 24 [v21, v22]) fun v23 o23=>
 bd (qc (ql v23 0) o23) fun v24 o24=>
 bd (qc (ql v23 1) o24) fun v25 o25=>
 bd (qD tab o25 26) fun v26 o26=>
 bd (qp tab o26 26 v26 (some v24)) fun v27 o27=>
 bd (qc (qw tab .neq 4 v25 v18) o27) fun v28 o28=>
 bd (gd v28 false (qc (qf tab o28 26 v26) o28) o28) fun v29 o29=>
 bd (gd v28 false (qc (qf tab o29 26 v19) o29) o29) fun v30 o30=>
 bd (gd v28 false (qn ⟨tab, qm, K⟩ o30 25 [v29, v30]) o30) fun v31 o31=>
 bd (gd v28 false (qc (unS .not v31) o31) o31) fun v32 o32=>
 bd (qc (qL v28 (.v (.bool true)) v32) o32) fun v33 o33=>
 bd (gd v33 false (some (v25, o33)) o33) fun v34 o34=>
 bd (gd v33 false (qc (unS .not v34) o34) o34) fun v35 o35=>
 bd (qc (qL v33 (.v (.bool true)) v35) o35) fun v36 o36=>
 bd (gd v36 false (qc (qa tab 34 v11 0) o36) o36) fun v37 o37=>
 bd (gd v36 false (qc (qf tab o37 3 v37) o37) o37) fun v38 o38=>
 bd (gd v36 false (qc (qw tab .eql 3 v38 (.v (.int .i64 1))) o38) o38) fun v39 o39=>
 bd (qc (qL v36 (.v (.bool true)) v39) o39) fun v40 o40=>
 bd (gd v40 false (qc (qa tab 34 v11 0) o40) o40) fun v41 o41=>
 bd (gd v40 false (qc (qf tab o41 3 v41) o41) o41) fun v42 o42=>
 bd (gd v40 false (qc (qw tab .eql 3 v42 (.v (.int .i64 4))) o42) o42) fun v43 o43=>
 bd (qc (qL v40 (.v (.bool true)) v43) o43) fun v44 o44=>
 qE v44 (bd (qc (qw tab .eql 4 v25 v18) o44) fun v45 o45 =>
 bd (gd v45 true (qc (qf tab o45 26 v26) o45) o45) fun v46 o46=>
 bd (gd v45 true (qc (qf tab o46 26 v19) o46) o46) fun v47 o47=>
 bd (gd v45 true (qn ⟨tab, qm, K⟩ o47 25 [v46, v47]) o47) fun v48 o48=>
 bd (qc (qL v45 v48 (.v (.bool false))) o48) fun v49 o49=>
 zq tab nl o49 (qx (some v49) (some [])))
 (bd (ze tab 22 o44 x1) fun v50 o50 =>
 bd (qc (qw tab .rem 3 v50 (.v (.int .i64 6))) o50) fun v51 o51=>
 bd (zL tab o51 34 [(0, (some (.v (.int .i64 2)))), (1, (some v51)), (2, (some (.v (.int .i64 3))))]) fun v52 o52=>
 bd (qD tab o52 34) fun v53 o53=>
 bd (qp tab o53 34 v53 (some v52)) fun v54 o54=>
 bd (qc (qa tab 34 v11 0) o54) fun v55 o55=>
 bd (qc (qf tab o55 3 v55) o55) fun v56 o56=>
 bd (qc (qw tab .eql 3 v56 (.v (.int .i64 2))) o56) fun v57 o57=>
 bd (gd v57 true (qc (qa tab 34 v11 1) o57) o57) fun v58 o58=>
 bd (gd v57 true (qc (qf tab o58 3 v58) o58) o58) fun v59 o59=>
 bd (gd v57 true (qc (qa tab 34 v53 1) o59) o59) fun v60 o60=>
 bd (gd v57 true (qc (qf tab o60 3 v60) o60) o60) fun v61 o61=>
 bd (gd v57 true (qc (qw tab .eql 3 v59 v61) o61) o61) fun v62 o62=>
 bd (qc (qL v57 v62 (.v (.bool false))) o62) fun v63 o63=>
 qE v63 (bd (qc (qf tab o63 26 v26) o63) fun v64 o64 =>
 bd (qc (qf tab o64 34 v53) o64) fun v65 o65=>
 bd (qn ⟨tab, qm, K⟩ o65 24 [v64, v65]) fun v66 o66=>
 bd (qc (ql v66 0) o66) fun v67 o67=>
 bd (qc (ql v66 1) o67) fun v68 o68=>
 bd (qD tab o68 26) fun v69 o69=>
 bd (qp tab o69 26 v69 (some v67)) fun v70 o70=>
 bd (qc (qf tab o70 26 v10) o70) fun v71 o71=>
 bd (qc (qf tab o71 34 v53) o71) fun v72 o72=>
 bd (qn ⟨tab, qm, K⟩ o72 24 [v71, v72]) fun v73 o73=>
 bd (qc (ql v73 0) o73) fun v74 o74=>
 bd (qc (ql v73 1) o74) fun v75 o75=>
 bd (qD tab o75 26) fun v76 o76=>
 bd (qp tab o76 26 v76 (some v74)) fun v77 o77=>
 bd (qc (qf tab o77 26 v69) o77) fun v78 o78=>
 bd (qc (qf tab o78 26 v76) o78) fun v79 o79=>
 bd (qn ⟨tab, qm, K⟩ o79 25 [v78, v79]) fun v80 o80=>
 zq tab nl o80 (qx (some v80) (some [])))
 (bd (qc (qf tab o63 26 v26) o63) fun v81 o81 =>
 bd (qc (qf tab o81 34 v53) o81) fun v82 o82=>
 bd (qn ⟨tab, qm, K⟩ o82 24 [v81, v82]) fun v83 o83=>
 bd (qc (ql v83 0) o83) fun v84 o84=>
 bd (qc (ql v83 1) o84) fun v85 o85=>
 bd (qD tab o85 26) fun v86 o86=>
 bd (qp tab o86 26 v86 (some v84)) fun v87 o87=>
 bd (qc (qf tab o87 26 v10) o87) fun v88 o88=>
 bd (qc (qf tab o88 34 v53) o88) fun v89 o89=>
 bd (qn ⟨tab, qm, K⟩ o89 24 [v88, v89]) fun v90 o90=>
 bd (qc (ql v90 0) o90) fun v91 o91=>
 bd (qc (ql v90 1) o91) fun v92 o92=>
 bd (qD tab o92 26) fun v93 o93=>
 bd (qp tab o93 26 v93 (some v91)) fun v94 o94=>
 bd (qc (qf tab o94 26 v93) o94) fun v95 o95=>
 bd (qc (qf tab o95 34 v11) o95) fun v96 o96=>
 bd (qn ⟨tab, qm, K⟩ o96 24 [v95, v96]) fun v97 o97=>
 bd (qc (ql v97 0) o97) fun v98 o98=>
 bd (qc (ql v97 1) o98) fun v99 o99=>
 bd (qD tab o99 26) fun v100 o100=>
 bd (qp tab o100 26 v100 (some v98)) fun v101 o101=>
 bd (gd v85 true (some (v92, o101)) o101) fun v102 o102=>
 bd (qc (qL v85 v102 (.v (.bool false))) o102) fun v103 o103=>
 bd (gd v103 true (some (v99, o103)) o103) fun v104 o104=>
 bd (qc (qL v103 v104 (.v (.bool false))) o104) fun v105 o105=>
 bd (gd v105 true (qc (qf tab o105 26 v86) o105) o105) fun v106 o106=>
 bd (gd v105 true (qc (qf tab o106 26 v100) o106) o106) fun v107 o107=>
 bd (gd v105 true (qn ⟨tab, qm, K⟩ o107 25 [v106, v107]) o107) fun v108 o108=>
 bd (qc (qL v105 v108 (.v (.bool false))) o108) fun v109 o109=>
 zq tab nl o109 (qx (some v109) (some [])))))
noncomputable def X6 (K : zKT) (N nl : Nat) (x0 : SV) (os : List SO) : Out := qA (cx K) N nl fi6 c6 [(0, x0)] os (qV tab [] nl rs6)
noncomputable def B6 (K : zKT) (N nl : Nat) (x0 : SV) (os : List SO) : Out :=
 bd (ze tab 22 os x0) fun v1 o1=>
 bd (qc (qw tab .gtr 3 v1 (.v (.int .i64 1048576))) o1) fun v2 o2=>
 qE v2 (zq tab nl o2 (qx (some (.v (.bool true))) (some [])))
 (bd (qn ⟨tab, qm, K⟩ o2 22 [x0]) fun v3 o3 =>
 bd (qc (ql v3 0) o3) fun v4 o4=>
 bd (qc (ql v3 1) o4) fun v5 o5=>
 bd (qD tab o5 26) fun v6 o6=>
 bd (qD tab o6 34) fun v7 o7=>
 bd (qp tab o7 26 v6 (some v4)) fun v8 o8=>
 bd (qp tab o8 34 v7 (some v5)) fun v9 o9=>
 bd (qc (qf tab o9 26 v6) o9) fun v10 o10=>
 bd (qc (qf tab o10 34 v7) o10) fun v11 o11=>
 bd (qn ⟨tab, qm, K⟩ o11 23 [v10, v11]) fun v12 o12=>
 bd (qc (ql v12 0) o12) fun v13 o13=>
 bd (qc (ql v12 1) o13) fun v14 o14=>
 bd (qD tab o14 26) fun v15 o15=>
 bd (qp tab o15 26 v15 (some v13)) fun v16 o16=>
 bd (qc (qf tab o16 26 v6) o16) fun v17 o17=>
 bd (qc (qf tab o17 34 v7) o17) fun v18 o18=>
 bd (qn ⟨tab, qm, K⟩ o18 24 [v17, v18]) fun v19 o19=>
 bd (qc (ql v19 0) o19) fun v20 o20=>
 bd (qc (ql v19 1) o20) fun v21 o21=>
 bd (qD tab o21 26) fun v22 o22=>
 bd (qp tab o22 26 v22 (some v20)) fun v23 o23=>
 bd (qc (qw tab .neq 4 v21 v14) o23) fun v24 o24=>
 bd (gd v24 false (qc (qf tab o24 26 v22) o24) o24) fun v25 o25=>
 bd (gd v24 false (qc (qf tab o25 26 v15) o25) o25) fun v26 o26=>
 bd (gd v24 false (qn ⟨tab, qm, K⟩ o26 25 [v25, v26]) o26) fun v27 o27=>
 bd (gd v24 false (qc (unS .not v27) o27) o27) fun v28 o28=>
 bd (qc (qL v24 (.v (.bool true)) v28) o28) fun v29 o29=>
 bd (gd v29 false (qc (qf tab o29 26 v6) o29) o29) fun v30 o30=>
 bd (gd v29 false (qn ⟨tab, qm, K⟩ o30 27 [v30]) o30) fun v31 o31=>
 bd (gd v29 false (qc (unS .not v31) o31) o31) fun v32 o32=>
 bd (qc (qL v29 (.v (.bool true)) v32) o32) fun v33 o33=>
 qE v33 (bd (qc (qw tab .eql 4 v21 v14) o33) fun v34 o34 =>
 bd (gd v34 true (qc (qf tab o34 26 v22) o34) o34) fun v35 o35=>
 bd (gd v34 true (qc (qf tab o35 26 v15) o35) o35) fun v36 o36=>
 bd (gd v34 true (qn ⟨tab, qm, K⟩ o36 25 [v35, v36]) o36) fun v37 o37=>
 bd (qc (qL v34 v37 (.v (.bool false))) o37) fun v38 o38=>
 zq tab nl o38 (qx (some v38) (some [])))
 (bd (qc (qf tab o33 26 v6) o33) fun v39 o39 =>
 bd (qc (qf tab o39 34 v7) o39) fun v40 o40=>
 bd (qn ⟨tab, qm, K⟩ o40 28 [v39, v40]) fun v41 o41=>
 bd (qc (ql v41 0) o41) fun v42 o42=>
 bd (qc (ql v41 1) o42) fun v43 o43=>
 bd (qD tab o43 26) fun v44 o44=>
 bd (qp tab o44 26 v44 (some v42)) fun v45 o45=>
 bd (qc (qf tab o45 26 v6) o45) fun v46 o46=>
 bd (zL tab o46 34 [(0, (some (.v (.int .i64 5))))]) fun v47 o47=>
 bd (qn ⟨tab, qm, K⟩ o47 24 [v46, v47]) fun v48 o48=>
 bd (qc (ql v48 0) o48) fun v49 o49=>
 bd (qc (ql v48 1) o49) fun v50 o50=>
 bd (qD tab o50 26) fun v51 o51=>
 bd (qp tab o51 26 v51 (some v49)) fun v52 o52=>
 bd (qc (qf tab o52 26 v6) o52) fun v53 o53=>
 bd (zL tab o53 34 [(0, (some (.v (.int .i64 2)))), (1, (some (.v (.int .i64 6))))]) fun v54 o54=>
 bd (qn ⟨tab, qm, K⟩ o54 28 [v53, v54]) fun v55 o55=>
 bd (qc (ql v55 0) o55) fun v56 o56=>
 bd (qc (ql v55 1) o56) fun v57 o57=>
 bd (qD tab o57 26) fun v58 o58=>
 bd (qp tab o58 26 v58 (some v56)) fun v59 o59=>
 bd (qc (qf tab o59 26 v6) o59) fun v60 o60=>
 bd (zL tab o60 43 [(0, (some (.v (.int .i64 2)))), (1, (some (.v (.int .i64 1))))]) fun v61 o61=>
 bd (qv tab o61 44 1 [(0, v61)]) fun v62 o62=>
 bd (zL tab o62 47 [(0, (some (.v (.int .i64 1)))), (1, (some (.v (.int .i64 1)))), (3, (some v62))]) fun v63 o63=>
 bd (qv tab o63 23 1 [(0, v63)]) fun v64 o64=>
 bd (zL tab o64 34 [(0, (some (.v (.int .i64 3)))), (3, (some v64))]) fun v65 o65=>
 bd (qn ⟨tab, qm, K⟩ o65 24 [v60, v65]) fun v66 o66=>
 bd (qc (ql v66 0) o66) fun v67 o67=>
 bd (qc (ql v66 1) o67) fun v68 o68=>
 bd (qD tab o68 26) fun v69 o69=>
 bd (qp tab o69 26 v69 (some v67)) fun v70 o70=>
 bd (qc (qw tab .eql 4 v43 v21) o70) fun v71 o71=>
 bd (gd v71 true (some (v50, o71)) o71) fun v72 o72=>
 bd (gd v71 true (qc (unS .not v72) o72) o72) fun v73 o73=>
 bd (qc (qL v71 v73 (.v (.bool false))) o73) fun v74 o74=>
 bd (gd v74 true (some (v57, o74)) o74) fun v75 o75=>
 bd (gd v74 true (qc (unS .not v75) o75) o75) fun v76 o76=>
 bd (qc (qL v74 v76 (.v (.bool false))) o76) fun v77 o77=>
 bd (gd v77 true (some (v68, o77)) o77) fun v78 o78=>
 bd (gd v77 true (qc (unS .not v78) o78) o78) fun v79 o79=>
 bd (qc (qL v77 v79 (.v (.bool false))) o79) fun v80 o80=>
 zq tab nl o80 (qx (some v80) (some []))))
noncomputable def X7 (K : zKT) (N nl : Nat) (x0 : SV) (os : List SO) : Out := qA (cx K) N nl fi7 c7 [(0, x0)] os (qV tab [] nl rs7)
noncomputable def B7 (K : zKT) (N nl : Nat) (x0 : SV) (os : List SO) : Out :=
 bd (ze tab 22 os x0) fun v1 o1=>
 bd (qc (qw tab .gtr 3 v1 (.v (.int .i64 1048576))) o1) fun v2 o2=>
 qE v2 (zq tab nl o2 (qx (some (.v (.bool true))) (some [])))
 (bd (qn ⟨tab, qm, K⟩ o2 29 [x0]) fun v3 o3 =>
 bd (qc (ql v3 0) o3) fun v4 o4=>
 bd (qc (ql v3 1) o4) fun v5 o5=>
 bd (qD tab o5 26) fun v6 o6=>
 bd (qD tab o6 34) fun v7 o7=>
 bd (qp tab o7 26 v6 (some v4)) fun v8 o8=>
 bd (qp tab o8 34 v7 (some v5)) fun v9 o9=>
 bd (qc (qf tab o9 26 v6) o9) fun v10 o10=>
 bd (qc (qf tab o10 34 v7) o10) fun v11 o11=>
 bd (qn ⟨tab, qm, K⟩ o11 30 [v10, v11]) fun v12 o12=>
 bd (qc (ql v12 0) o12) fun v13 o13=>
 bd (qc (ql v12 1) o13) fun v14 o14=>
 bd (qD tab o14 26) fun v15 o15=>
 bd (qp tab o15 26 v15 (some v13)) fun v16 o16=>
 bd (qc (qf tab o16 26 v6) o16) fun v17 o17=>
 bd (qc (qf tab o17 34 v7) o17) fun v18 o18=>
 bd (qn ⟨tab, qm, K⟩ o18 28 [v17, v18]) fun v19 o19=>
 bd (qc (ql v19 0) o19) fun v20 o20=>
 bd (qc (ql v19 1) o20) fun v21 o21=>
 bd (qD tab o21 26) fun v22 o22=>
 bd (qp tab o22 26 v22 (some v20)) fun v23 o23=>
 bd (qc (qw tab .neq 4 v21 v14) o23) fun v24 o24=>
 bd (gd v24 false (qc (qf tab o24 26 v22) o24) o24) fun v25 o25=>
 bd (gd v24 false (qc (qf tab o25 26 v15) o25) o25) fun v26 o26=>
 bd (gd v24 false (qn ⟨tab, qm, K⟩ o26 25 [v25, v26]) o26) fun v27 o27=>
 bd (gd v24 false (qc (unS .not v27) o27) o27) fun v28 o28=>
 bd (qc (qL v24 (.v (.bool true)) v28) o28) fun v29 o29=>
 bd (gd v29 false (some (v21, o29)) o29) fun v30 o30=>
 bd (gd v29 false (qc (unS .not v30) o30) o30) fun v31 o31=>
 bd (qc (qL v29 (.v (.bool true)) v31) o31) fun v32 o32=>
 qE v32 (bd (qc (qw tab .eql 4 v21 v14) o32) fun v33 o33 =>
 bd (gd v33 true (qc (qf tab o33 26 v22) o33) o33) fun v34 o34=>
 bd (gd v33 true (qc (qf tab o34 26 v15) o34) o34) fun v35 o35=>
 bd (gd v33 true (qn ⟨tab, qm, K⟩ o35 25 [v34, v35]) o35) fun v36 o36=>
 bd (qc (qL v33 v36 (.v (.bool false))) o36) fun v37 o37=>
 zq tab nl o37 (qx (some v37) (some [])))
 (bd (qc (qf tab o32 26 v22) o32) fun v38 o38 =>
 bd (qc (qf tab o38 34 v7) o38) fun v39 o39=>
 bd (qn ⟨tab, qm, K⟩ o39 24 [v38, v39]) fun v40 o40=>
 bd (qc (ql v40 0) o40) fun v41 o41=>
 bd (qc (ql v40 1) o41) fun v42 o42=>
 bd (qD tab o42 26) fun v43 o43=>
 bd (qp tab o43 26 v43 (some v41)) fun v44 o44=>
 bd (qc (qf tab o44 26 v6) o44) fun v45 o45=>
 bd (qc (qf tab o45 34 v7) o45) fun v46 o46=>
 bd (qn ⟨tab, qm, K⟩ o46 24 [v45, v46]) fun v47 o47=>
 bd (qc (ql v47 0) o47) fun v48 o48=>
 bd (qc (ql v47 1) o48) fun v49 o49=>
 bd (qD tab o49 26) fun v50 o50=>
 bd (qp tab o50 26 v50 (some v48)) fun v51 o51=>
 bd (qc (unS .not v42) o51) fun v52 o52=>
 bd (gd v52 false (some (v49, o52)) o52) fun v53 o53=>
 bd (gd v52 false (qc (unS .not v53) o53) o53) fun v54 o54=>
 bd (qc (qL v52 (.v (.bool true)) v54) o54) fun v55 o55=>
 bd (gd v55 false (qc (qf tab o55 26 v43) o55) o55) fun v56 o56=>
 bd (gd v55 false (qc (qf tab o56 26 v50) o56) o56) fun v57 o57=>
 bd (gd v55 false (qn ⟨tab, qm, K⟩ o57 25 [v56, v57]) o57) fun v58 o58=>
 bd (gd v55 false (qc (unS .not v58) o58) o58) fun v59 o59=>
 bd (qc (qL v55 (.v (.bool true)) v59) o59) fun v60 o60=>
 bd (gd v60 false (qc (qf tab o60 26 v22) o60) o60) fun v61 o61=>
 bd (gd v60 false (qn ⟨tab, qm, K⟩ o61 19 [v61]) o61) fun v62 o62=>
 bd (gd v60 false (qc (unS .not v62) o62) o62) fun v63 o63=>
 bd (qc (qL v60 (.v (.bool true)) v63) o63) fun v64 o64=>
 qE v64 (zq tab nl o64 (qx (some (.v (.bool false))) (some [])))
 (bd (qc (qa tab 34 v7 0) o64) fun v65 o65 =>
 bd (qc (qf tab o65 3 v65) o65) fun v66 o66=>
 bd (qc (qw tab .eql 3 v66 (.v (.int .i64 2))) o66) fun v67 o67=>
 qE v67 (bd (qc (qa tab 26 v22 1) o67) fun v68 o68 =>
 bd (qc (qf tab o68 24 v68) o68) fun v69 o69=>
 bd (qc (qa tab 34 v7 1) o69) fun v70 o70=>
 bd (qc (qf tab o70 3 v70) o70) fun v71 o71=>
 bd (qc (qj tab o71 24 v69 v71) o71) fun v72 o72=>
 bd (qc (qf tab o72 3 v72) o72) fun v73 o73=>
 bd (qc (qw tab .eql 3 v73 (.v (.int .i64 (-2)))) o73) fun v74 o74=>
 zq tab nl o74 (qx (some v74) (some [])))
 (bd (qc (qw tab .eql 3 v66 (.v (.int .i64 3))) o67) fun v75 o75 =>
 qE v75 (bd (qc (qa tab 26 v22 0) o75) fun v76 o76 =>
 bd (qc (qf tab o76 23 v76) o76) fun v77 o77=>
 bd (ze tab 23 o77 v77) fun v78 o78=>
 bd (qc (qw tab .eql 3 v78 (.v (.int .i64 0))) o78) fun v79 o79=>
 bd (gd v79 true (qc (qa tab 26 v22 1) o79) o79) fun v80 o80=>
 bd (gd v79 true (qc (qf tab o80 24 v80) o80) o80) fun v81 o81=>
 bd (gd v79 true (qc (qa tab 26 v6 1) o81) o81) fun v82 o82=>
 bd (gd v79 true (qc (qf tab o82 24 v82) o82) o82) fun v83 o83=>
 bd (gd v79 true (qn ⟨tab, qm, K⟩ o83 20 [v81, v83]) o83) fun v84 o84=>
 bd (qc (qL v79 v84 (.v (.bool false))) o84) fun v85 o85=>
 zq tab nl o85 (qx (some v85) (some [])))
 (bd (qc (qf tab o75 26 v22) o75) fun v86 o86 =>
 bd (qc (qf tab o86 26 v6) o86) fun v87 o87=>
 bd (qn ⟨tab, qm, K⟩ o87 25 [v86, v87]) fun v88 o88=>
 zq tab nl o88 (qx (some v88) (some [])))))))
noncomputable def bk8_11 (K : zKT) (N nl : Nat) (m11 : Nat) : Env → List SO → Out := fun env os => q8 nl (fi8.lp 11) (fun env os nx => qA (cx K) N nl fi8 (qM c8 [1, 1, 1, 1, 1, 1, 1, 1, 0, 1, 0, 0]) env os (qP nx (qu 0 (zu (qA (cx K) N nl fi8 (qM c8 [1, 1, 1, 1, 1, 1, 1, 1, 1])) (fi8.jn 15) (qV tab [] nl rs8))))) m11 (zB (fi8.lp 11).alive env) os
noncomputable def qaR (K : zKT) (N nl : Nat) (m11 : Nat) (x3 x4 x6 x7 x8 : SV) (os : List SO) : Out := q8 nl (fi8.lp 11) (fun env os nx => qA (cx K) N nl fi8 (qM c8 [1, 1, 1, 1, 1, 1, 1, 1, 0, 1, 0, 0]) env os (qP nx (qu 0 (zu (qA (cx K) N nl fi8 (qM c8 [1, 1, 1, 1, 1, 1, 1, 1, 1])) (fi8.jn 15) (qV tab [] nl rs8))))) m11 [(3, x3), (4, x4), (6, x6), (7, x7), (8, x8)] os
noncomputable def qdx (K : zKT) (N nl : Nat) (m11 : Nat) (x3 x4 x6 x7 x8 : SV) (os : List SO) : Out :=
 bd (qc (qw tab .add 3 x8 (.v (.int .i64 2))) os) fun v33 o33=>
 bd (qc (qw tab .lss 3 v33 x6) o33) fun v34 o34=>
 qE v34 (bd (qc (qj tab o34 48 x4 x8) o34) fun v35 o35 =>
 bd (qc (qa tab 34 v35 0) o35) fun v36 o36=>
 bd (qc (qf tab o36 3 v36) o36) fun v37 o37=>
 bd (qc (qw tab .neq 3 v37 (.v (.int .i64 2))) o37) fun v38 o38=>
 bd (gd v38 false (some (x7, o38)) o38) fun v39 o39=>
 bd (gd v38 false (some (x4, o39)) o39) fun v40 o40=>
 bd (gd v38 false (some (x8, o40)) o40) fun v41 o41=>
 bd (gd v38 false (qc (qj tab o41 48 v40 v41) o41) o41) fun v42 o42=>
 bd (gd v38 false (qc (qa tab 34 v42 1) o42) o42) fun v43 o43=>
 bd (gd v38 false (qc (qf tab o43 3 v43) o43) o43) fun v44 o44=>
 bd (gd v38 false (qc (qj tab o44 24 v39 v44) o44) o44) fun v45 o45=>
 bd (gd v38 false (qc (qf tab o45 3 v45) o45) o45) fun v46 o46=>
 bd (gd v38 false (some (x4, o46)) o46) fun v47 o47=>
 bd (gd v38 false (some (x8, o47)) o47) fun v48 o48=>
 bd (gd v38 false (qc (qj tab o48 48 v47 v48) o48) o48) fun v49 o49=>
 bd (gd v38 false (qc (qa tab 34 v49 2) o49) o49) fun v50 o50=>
 bd (gd v38 false (qc (qf tab o50 3 v50) o50) o50) fun v51 o51=>
 bd (gd v38 false (qc (qw tab .neq 3 v46 v51) o51) o51) fun v52 o52=>
 bd (qc (qL v38 (.v (.bool true)) v52) o52) fun v53 o53=>
 bd (gd v53 false (qc (qa tab 26 x3 1) o53) o53) fun v54 o54=>
 bd (gd v53 false (qc (qf tab o54 24 v54) o54) o54) fun v55 o55=>
 bd (gd v53 false (some (x4, o55)) o55) fun v56 o56=>
 bd (gd v53 false (some (x8, o56)) o56) fun v57 o57=>
 bd (gd v53 false (qc (qj tab o57 48 v56 v57) o57) o57) fun v58 o58=>
 bd (gd v53 false (qc (qa tab 34 v58 1) o58) o58) fun v59 o59=>
 bd (gd v53 false (qc (qf tab o59 3 v59) o59) o59) fun v60 o60=>
 bd (gd v53 false (qc (qj tab o60 24 v55 v60) o60) o60) fun v61 o61=>
 bd (gd v53 false (qc (qf tab o61 3 v61) o61) o61) fun v62 o62=>
 bd (gd v53 false (some (x4, o62)) o62) fun v63 o63=>
 bd (gd v53 false (some (x8, o63)) o63) fun v64 o64=>
 bd (gd v53 false (qc (qj tab o64 48 v63 v64) o64) o64) fun v65 o65=>
 bd (gd v53 false (qc (qa tab 34 v65 2) o65) o65) fun v66 o66=>
 bd (gd v53 false (qc (qf tab o66 3 v66) o66) o66) fun v67 o67=>
 bd (gd v53 false (qc (qw tab .eql 3 v62 v67) o67) o67) fun v68 o68=>
 bd (qc (qL v53 (.v (.bool true)) v68) o68) fun v69 o69=>
 qE v69 (zq tab nl o69 (qx (some (.v (.bool false))) (some [])))
 (bd (qc (qw tab .add 3 x8 (.v (.int .i64 1))) o69) fun v70 o70 =>
 qaR K N nl m11 x3 x4 x6 x7 v70 o70))
 (bd (qc (qw tab .geq 3 x6 (.v (.int .i64 2))) o34) fun v71 o71 =>
 bd (gd v71 true (some (x4, o71)) o71) fun v72 o72=>
 bd (gd v71 true (some (x6, o72)) o72) fun v73 o73=>
 bd (gd v71 true (qc (qw tab .sub 3 v73 (.v (.int .i64 2))) o73) o73) fun v74 o74=>
 bd (gd v71 true (qc (qj tab o74 48 v72 v74) o74) o74) fun v75 o75=>
 bd (gd v71 true (qc (qa tab 34 v75 0) o75) o75) fun v76 o76=>
 bd (gd v71 true (qc (qf tab o76 3 v76) o76) o76) fun v77 o77=>
 bd (gd v71 true (qc (qw tab .eql 3 v77 (.v (.int .i64 3))) o77) o77) fun v78 o78=>
 bd (qc (qL v71 v78 (.v (.bool false))) o78) fun v79 o79=>
 bd (gd v79 true (some (x4, o79)) o79) fun v80 o80=>
 bd (gd v79 true (some (x6, o80)) o80) fun v81 o81=>
 bd (gd v79 true (qc (qw tab .sub 3 v81 (.v (.int .i64 1))) o81) o81) fun v82 o82=>
 bd (gd v79 true (qc (qj tab o82 48 v80 v82) o82) o82) fun v83 o83=>
 bd (gd v79 true (qc (qa tab 34 v83 0) o83) o83) fun v84 o84=>
 bd (gd v79 true (qc (qf tab o84 3 v84) o84) o84) fun v85 o85=>
 bd (gd v79 true (qc (qw tab .eql 3 v85 (.v (.int .i64 4))) o85) o85) fun v86 o86=>
 bd (qc (qL v79 v86 (.v (.bool false))) o86) fun v87 o87=>
 bd (gd v87 true (some (x4, o87)) o87) fun v88 o88=>
 bd (gd v87 true (some (x6, o88)) o88) fun v89 o89=>
 bd (gd v87 true (qc (qw tab .sub 3 v89 (.v (.int .i64 2))) o89) o89) fun v90 o90=>
 bd (gd v87 true (qc (qj tab o90 48 v88 v90) o90) o90) fun v91 o91=>
 bd (gd v87 true (qc (qa tab 34 v91 3) o91) o91) fun v92 o92=>
 bd (gd v87 true (qc (qf tab o92 23 v92) o92) o92) fun v93 o93=>
 bd (gd v87 true (qc (qa tab 26 x3 3) o93) o93) fun v94 o94=>
 bd (gd v87 true (qc (qf tab o94 23 v94) o94) o94) fun v95 o95=>
 bd (gd v87 true (qn ⟨tab, qm, K⟩ o95 26 [v93, v95]) o95) fun v96 o96=>
 bd (qc (qL v87 v96 (.v (.bool false))) o96) fun v97 o97=>
 zq tab nl o97 (qx (some v97) (some [])))
noncomputable def X8 (K : zKT) (N nl : Nat) (x0 : SV) (os : List SO) : Out := qA (cx K) N nl fi8 c8 [(0, x0)] os (qV tab [] nl rs8)
noncomputable def B8 (K : zKT) (N nl : Nat) (x0 : SV) (os : List SO) : Out :=
 bd (ze tab 22 os x0) fun v1 o1=>
 bd (qc (qw tab .gtr 3 v1 (.v (.int .i64 1048576))) o1) fun v2 o2=>
 qE v2 (zq tab nl o2 (qx (some (.v (.bool true))) (some [])))
 (bd (qn ⟨tab, qm, K⟩ o2 31 [x0]) fun v3 o3 =>
 bd (qD tab o3 26) fun v4 o4=>
 bd (qp tab o4 26 v4 (some v3)) fun v5 o5=>
 bd (qc (qf tab o5 26 v4) o5) fun v6 o6=>
 bd (qn ⟨tab, qm, K⟩ o6 32 [v6]) fun v7 o7=>
 bd (qc (qf tab o7 26 v4) o7) fun v8 o8=>
 bd (qn ⟨tab, qm, K⟩ o8 33 [v8]) fun v9 o9=>
 bd (ze tab 48 o9 v7) fun v10 o10=>
 bd (ze tab 48 o10 v9) fun v11 o11=>
 bd (qc (qw tab .neq 3 v10 v11) o11) fun v12 o12=>
 bd (gd v12 false (qc (qf tab o12 26 v4) o12) o12) fun v13 o13=>
 bd (gd v12 false (qn ⟨tab, qm, K⟩ o13 27 [v13]) o13) fun v14 o14=>
 bd (gd v12 false (qc (unS .not v14) o14) o14) fun v15 o15=>
 bd (qc (qL v12 (.v (.bool true)) v15) o15) fun v16 o16=>
 bd (gd v16 false (qc (qa tab 26 v4 2) o16) o16) fun v17 o17=>
 bd (gd v16 false (qc (qf tab o17 4 v17) o17) o17) fun v18 o18=>
 bd (gd v16 false (qc (unS .not v18) o18) o18) fun v19 o19=>
 bd (qc (qL v16 (.v (.bool true)) v19) o19) fun v20 o20=>
 qE v20 (bd (ze tab 48 o20 v9) fun v21 o21 =>
 bd (qc (qw tab .eql 3 v10 v21) o21) fun v22 o22=>
 bd (gd v22 true (some (v10, o22)) o22) fun v23 o23=>
 bd (gd v22 true (qc (qw tab .eql 3 v23 (.v (.int .i64 0))) o23) o23) fun v24 o24=>
 bd (gd v22 true (some (v24, o24)) o24) fun v25 o25=>
 bd (gd v25 false (qc (qa tab 26 v4 2) o25) o25) fun v26 o26=>
 bd (gd v25 false (qc (qf tab o26 4 v26) o26) o26) fun v27 o27=>
 bd (gd v22 true (qc (qL v25 (.v (.bool true)) v27) o27) o27) fun v28 o28=>
 bd (qc (qL v22 v28 (.v (.bool false))) o28) fun v29 o29=>
 zq tab nl o29 (qx (some v29) (some [])))
 (bd (qc (qa tab 26 v4 3) o20) fun v30 o30 =>
 bd (qc (qf tab o30 23 v30) o30) fun v31 o31=>
 bd (qn ⟨tab, qm, K⟩ o31 21 [v31]) fun v32 o32=>
 qaR K N nl N v4 v7 v10 v32 (.v (.int .i64 0)) o32))
noncomputable def X9 (K : zKT) (N nl : Nat) (x0 : SV) (os : List SO) : Out := qA (cx K) N nl fi9 c9 [(0, x0)] os (qV tab [] nl rs9)
noncomputable def B9 (K : zKT) (N nl : Nat) (x0 : SV) (os : List SO) : Out :=
 bd (ze tab 22 os x0) fun v1 o1=>
 bd (qc (qw tab .gtr 3 v1 (.v (.int .i64 1048576))) o1) fun v2 o2=>
 qE v2 (zq tab nl o2 (qx (some (.v (.bool true))) (some [])))
 (bd (qn ⟨tab, qm, K⟩ o2 34 [x0]) fun v3 o3 =>
 bd (qc (ql v3 0) o3) fun v4 o4=>
 bd (qc (ql v3 1) o4) fun v5 o5=>
 bd (qc (ql v3 2) o5) fun v6 o6=>
 bd (qc (ql v3 3) o6) fun v7 o7=>
 bd (qD tab o7 26) fun v8 o8=>
 bd (qp tab o8 26 v8 (some v4)) fun v9 o9=>
 bd (qc (qf tab o9 26 v8) o9) fun v10 o10=>
 bd (qn ⟨tab, qm, K⟩ o10 35 [v10, v5, v6, v7]) fun v11 o11=>
 bd (qc (ql v11 0) o11) fun v12 o12=>
 bd (qc (ql v11 1) o12) fun v13 o13=>
 bd (qD tab o13 26) fun v14 o14=>
 bd (qp tab o14 26 v14 (some v12)) fun v15 o15=>
 bd (qc (qf tab o15 26 v8) o15) fun v16 o16=>
 bd (qn ⟨tab, qm, K⟩ o16 36 [v16, v5, v6, v7]) fun v17 o17=>
 bd (qc (ql v17 0) o17) fun v18 o18=>
 bd (qc (ql v17 1) o18) fun v19 o19=>
 bd (qD tab o19 26) fun v20 o20=>
 bd (qp tab o20 26 v20 (some v18)) fun v21 o21=>
 bd (qc (qw tab .neq 4 v19 v13) o21) fun v22 o22=>
 bd (gd v22 false (qc (qf tab o22 26 v20) o22) o22) fun v23 o23=>
 bd (gd v22 false (qc (qf tab o23 26 v14) o23) o23) fun v24 o24=>
 bd (gd v22 false (qn ⟨tab, qm, K⟩ o24 25 [v23, v24]) o24) fun v25 o25=>
 bd (gd v22 false (qc (unS .not v25) o25) o25) fun v26 o26=>
 bd (qc (qL v22 (.v (.bool true)) v26) o26) fun v27 o27=>
 bd (gd v27 false (some (v19, o27)) o27) fun v28 o28=>
 bd (gd v27 false (qc (unS .not v28) o28) o28) fun v29 o29=>
 bd (qc (qL v27 (.v (.bool true)) v29) o29) fun v30 o30=>
 qE v30 (bd (qc (qw tab .eql 4 v19 v13) o30) fun v31 o31 =>
 bd (gd v31 true (qc (qf tab o31 26 v20) o31) o31) fun v32 o32=>
 bd (gd v31 true (qc (qf tab o32 26 v14) o32) o32) fun v33 o33=>
 bd (gd v31 true (qn ⟨tab, qm, K⟩ o33 25 [v32, v33]) o33) fun v34 o34=>
 bd (qc (qL v31 v34 (.v (.bool false))) o34) fun v35 o35=>
 zq tab nl o35 (qx (some v35) (some [])))
 (bd (qc (qf tab o30 26 v8) o30) fun v36 o36 =>
 bd (qn ⟨tab, qm, K⟩ o36 36 [v36, (nilA tab 48), (.v (.int .i64 3)), (.v (.bool true))]) fun v37 o37=>
 bd (qc (ql v37 0) o37) fun v38 o38=>
 bd (qc (ql v37 1) o38) fun v39 o39=>
 bd (qD tab o39 26) fun v40 o40=>
 bd (qp tab o40 26 v40 (some v38)) fun v41 o41=>
 bd (qc (qf tab o41 26 v8) o41) fun v42 o42=>
 bd (qn ⟨tab, qm, K⟩ o42 36 [v42, v5, (.v (.int .i64 0)), (.v (.bool false))]) fun v43 o43=>
 bd (qc (ql v43 0) o43) fun v44 o44=>
 bd (qc (ql v43 1) o44) fun v45 o45=>
 bd (qD tab o45 26) fun v46 o46=>
 bd (qp tab o46 26 v46 (some v44)) fun v47 o47=>
 bd (qc (qf tab o47 26 v8) o47) fun v48 o48=>
 bd (ze tab 48 o48 v5) fun v49 o49=>
 bd (qn ⟨tab, qm, K⟩ o49 36 [v48, v5, v49, v7]) fun v50 o50=>
 bd (qc (ql v50 0) o50) fun v51 o51=>
 bd (qc (ql v50 1) o51) fun v52 o52=>
 bd (qD tab o52 26) fun v53 o53=>
 bd (qp tab o53 26 v53 (some v51)) fun v54 o54=>
 bd (qc (qf tab o54 26 v8) o54) fun v55 o55=>
 bd (ze tab 48 o55 v5) fun v56 o56=>
 bd (qc (qw tab .add 3 v56 (.v (.int .i64 5))) o56) fun v57 o57=>
 bd (qn ⟨tab, qm, K⟩ o57 36 [v55, v5, v57, (.v (.bool false))]) fun v58 o58=>
 bd (qc (ql v58 0) o58) fun v59 o59=>
 bd (qc (ql v58 1) o59) fun v60 o60=>
 bd (qD tab o60 26) fun v61 o61=>
 bd (qp tab o61 26 v61 (some v59)) fun v62 o62=>
 bd (qc (qf tab o62 26 v8) o62) fun v63 o63=>
 bd (qn ⟨tab, qm, K⟩ o63 36 [v63, v5, (.v (.int .i64 (-1))), v7]) fun v64 o64=>
 bd (qc (ql v64 0) o64) fun v65 o65=>
 bd (qc (ql v64 1) o65) fun v66 o66=>
 bd (qD tab o66 26) fun v67 o67=>
 bd (qp tab o67 26 v67 (some v65)) fun v68 o68=>
 bd (gd v39 true (some (v45, o68)) o68) fun v69 o69=>
 bd (qc (qL v39 v69 (.v (.bool false))) o69) fun v70 o70=>
 bd (gd v70 true (some (v52, o70)) o70) fun v71 o71=>
 bd (qc (qL v70 v71 (.v (.bool false))) o71) fun v72 o72=>
 bd (gd v72 true (some (v60, o72)) o72) fun v73 o73=>
 bd (qc (qL v72 v73 (.v (.bool false))) o73) fun v74 o74=>
 bd (gd v74 true (some (v66, o74)) o74) fun v75 o75=>
 bd (gd v74 true (qc (unS .not v75) o75) o75) fun v76 o76=>
 bd (qc (qL v74 v76 (.v (.bool false))) o76) fun v77 o77=>
 bd (gd v77 true (qc (qf tab o77 26 v40) o77) o77) fun v78 o78=>
 bd (gd v77 true (qc (qf tab o78 26 v8) o78) o78) fun v79 o79=>
 bd (gd v77 true (qn ⟨tab, qm, K⟩ o79 25 [v78, v79]) o79) fun v80 o80=>
 bd (qc (qL v77 v80 (.v (.bool false))) o80) fun v81 o81=>
 bd (gd v81 true (qc (qf tab o81 26 v46) o81) o81) fun v82 o82=>
 bd (gd v81 true (qc (qf tab o82 26 v8) o82) o82) fun v83 o83=>
 bd (gd v81 true (qn ⟨tab, qm, K⟩ o83 25 [v82, v83]) o83) fun v84 o84=>
 bd (qc (qL v81 v84 (.v (.bool false))) o84) fun v85 o85=>
 bd (gd v85 true (qc (qf tab o85 26 v53) o85) o85) fun v86 o86=>
 bd (gd v85 true (qc (qf tab o86 26 v61) o86) o86) fun v87 o87=>
 bd (gd v85 true (qn ⟨tab, qm, K⟩ o87 25 [v86, v87]) o87) fun v88 o88=>
 bd (qc (qL v85 v88 (.v (.bool false))) o88) fun v89 o89=>
 zq tab nl o89 (qx (some v89) (some []))))
noncomputable def qjk (K : zKT) (N nl : Nat) (m14 : Nat) : Env → List SO → Out := fun env os => q8 nl (JQ.lp 14) (fun env os nx => qA (cx K) N nl JQ (qM c10 [1, 1, 1, 1, 1, 1, 1, 1, 1, 1, 0, 1, 0, 0]) env os (qP nx (qu 0 (zu (qA (cx K) N nl JQ (qM c10 [1, 1, 1, 1, 1, 1, 1, 1, 1, 1, 1])) (JQ.jn 20) (qV tab [] nl rs10))))) m14 (zB (JQ.lp 14).alive env) os
noncomputable def Kd (K : zKT) (N nl : Nat) (m14 : Nat) (x3 x5 x7 x8 x9 x10 : SV) (os : List SO) : Out := q8 nl (JQ.lp 14) (fun env os nx => qA (cx K) N nl JQ (qM c10 [1, 1, 1, 1, 1, 1, 1, 1, 1, 1, 0, 1, 0, 0]) env os (qP nx (qu 0 (zu (qA (cx K) N nl JQ (qM c10 [1, 1, 1, 1, 1, 1, 1, 1, 1, 1, 1])) (JQ.jn 20) (qV tab [] nl rs10))))) m14 [(3, x3), (5, x5), (7, x7), (8, x8), (9, x9), (10, x10)] os
noncomputable def JW (K : zKT) (N nl : Nat) (m14 : Nat) (x3 x5 x7 x8 x9 x10 : SV) (os : List SO) : Out := qA (cx K) N nl JQ (qM c10 [1, 1, 1, 1, 1, 1, 1, 1, 1, 1, 0, 1, 0, 0, 1, 1]) [(3, x3), (5, x5), (7, x7), (8, x8), (9, x9), (10, x10)] os (qP (qjk K N nl m14) (qu 0 (zu (qA (cx K) N nl JQ (qM c10 [1, 1, 1, 1, 1, 1, 1, 1, 1, 1, 1])) (JQ.jn 20) (qV tab [] nl rs10))))
noncomputable def Xk (K : zKT) (N nl : Nat) (m14 : Nat) (x3 x5 x7 x8 x9 x10 : SV) (os : List SO) : Out :=
 bd (ze tab 24 os x8) fun v62 o62=>
 bd (qc (qw tab .lss 3 x10 v62) o62) fun v63 o63=>
 qE v63 (bd (qc (qj tab o63 24 x8 x10) o63) fun v64 o64 =>
 bd (qc (qf tab o64 3 v64) o64) fun v65 o65=>
 bd (qc (qa tab 26 x3 1) o65) fun v66 o66=>
 bd (qc (qf tab o66 24 v66) o66) fun v67 o67=>
 bd (qc (qj tab o67 24 v67 x10) o67) fun v68 o68=>
 bd (qc (qf tab o68 3 v68) o68) fun v69 o69=>
 bd (qc (qw tab .neq 3 v65 v69) o69) fun v70 o70=>
 qE v70 (bd (qc (qw tab .sub 3 x7 (.v (.int .i64 2))) o70) fun v71 o71 =>
 bd (qc (qw tab .geq 3 x9 v71) o71) fun v72 o72=>
 bd (gd v72 false (some (x5, o72)) o72) fun v73 o73=>
 bd (gd v72 false (some (x9, o73)) o73) fun v74 o74=>
 bd (gd v72 false (qc (qj tab o74 48 v73 v74) o74) o74) fun v75 o75=>
 bd (gd v72 false (qc (qa tab 34 v75 0) o75) o75) fun v76 o76=>
 bd (gd v72 false (qc (qf tab o76 3 v76) o76) o76) fun v77 o77=>
 bd (gd v72 false (qc (qw tab .neq 3 v77 (.v (.int .i64 2))) o77) o77) fun v78 o78=>
 bd (qc (qL v72 (.v (.bool true)) v78) o78) fun v79 o79=>
 bd (gd v79 false (some (x5, o79)) o79) fun v80 o80=>
 bd (gd v79 false (some (x9, o80)) o80) fun v81 o81=>
 bd (gd v79 false (qc (qj tab o81 48 v80 v81) o81) o81) fun v82 o82=>
 bd (gd v79 false (qc (qa tab 34 v82 1) o82) o82) fun v83 o83=>
 bd (gd v79 false (qc (qf tab o83 3 v83) o83) o83) fun v84 o84=>
 bd (gd v79 false (some (x10, o84)) o84) fun v85 o85=>
 bd (gd v79 false (qc (qw tab .neq 3 v84 v85) o85) o85) fun v86 o86=>
 bd (qc (qL v79 (.v (.bool true)) v86) o86) fun v87 o87=>
 bd (gd v87 false (some (x5, o87)) o87) fun v88 o88=>
 bd (gd v87 false (some (x9, o88)) o88) fun v89 o89=>
 bd (gd v87 false (qc (qj tab o89 48 v88 v89) o89) o89) fun v90 o90=>
 bd (gd v87 false (qc (qa tab 34 v90 2) o90) o90) fun v91 o91=>
 bd (gd v87 false (qc (qf tab o91 3 v91) o91) o91) fun v92 o92=>
 bd (gd v87 false (some (x8, o92)) o92) fun v93 o93=>
 bd (gd v87 false (some (x10, o93)) o93) fun v94 o94=>
 bd (gd v87 false (qc (qj tab o94 24 v93 v94) o94) o94) fun v95 o95=>
 bd (gd v87 false (qc (qf tab o95 3 v95) o95) o95) fun v96 o96=>
 bd (gd v87 false (qc (qw tab .neq 3 v92 v96) o96) o96) fun v97 o97=>
 bd (qc (qL v87 (.v (.bool true)) v97) o97) fun v98 o98=>
 qE v98 (zq tab nl o98 (qx (some (.v (.bool false))) (some [])))
 (bd (qc (qw tab .add 3 x9 (.v (.int .i64 1))) o98) fun v99 o99 =>
 JW K N nl m14 x3 x5 x7 x8 v99 x10 o99))
 (JW K N nl m14 x3 x5 x7 x8 x9 x10 o70))
 (bd (qc (qw tab .sub 3 x7 (.v (.int .i64 2))) o63) fun v100 o100 =>
 bd (qc (qw tab .eql 3 x9 v100) o100) fun v101 o101=>
 zq tab nl o101 (qx (some v101) (some [])))
noncomputable def Xl (K : zKT) (N nl : Nat) (m14 : Nat) (x3 x5 x7 x8 x9 x10 : SV) (os : List SO) : Out :=
 bd (qc (qw tab .add 3 x10 (.v (.int .i64 1))) os) fun v102 o102=>
 Kd K N nl m14 x3 x5 x7 x8 x9 v102 o102
noncomputable def X10 (K : zKT) (N nl : Nat) (x0 : SV) (os : List SO) : Out := qA (cx K) N nl JQ c10 [(0, x0)] os (qV tab [] nl rs10)
noncomputable def B10 (K : zKT) (N nl : Nat) (x0 : SV) (os : List SO) : Out :=
 bd (ze tab 22 os x0) fun v1 o1=>
 bd (qc (qw tab .gtr 3 v1 (.v (.int .i64 1048576))) o1) fun v2 o2=>
 qE v2 (zq tab nl o2 (qx (some (.v (.bool true))) (some [])))
 (bd (qn ⟨tab, qm, K⟩ o2 37 [x0]) fun v3 o3 =>
 bd (qc (ql v3 0) o3) fun v4 o4=>
 bd (qc (ql v3 1) o4) fun v5 o5=>
 bd (qD tab o5 26) fun v6 o6=>
 bd (qp tab o6 26 v6 (some v4)) fun v7 o7=>
 bd (qc (qf tab o7 26 v6) o7) fun v8 o8=>
 bd (qn ⟨tab, qm, K⟩ o8 38 [v8, v5]) fun v9 o9=>
 bd (qc (qf tab o9 26 v6) o9) fun v10 o10=>
 bd (qn ⟨tab, qm, K⟩ o10 39 [v10, v5]) fun v11 o11=>
 bd (ze tab 48 o11 v9) fun v12 o12=>
 bd (ze tab 48 o12 v11) fun v13 o13=>
 bd (qc (qw tab .neq 3 v12 v13) o13) fun v14 o14=>
 bd (gd v14 false (some (v12, o14)) o14) fun v15 o15=>
 bd (gd v14 false (qc (qw tab .eql 3 v15 (.v (.int .i64 0))) o15) o15) fun v16 o16=>
 bd (qc (qL v14 (.v (.bool true)) v16) o16) fun v17 o17=>
 qE v17 (bd (ze tab 48 o17 v11) fun v18 o18 =>
 bd (qc (qw tab .eql 3 v12 v18) o18) fun v19 o19=>
 zq tab nl o19 (qx (some v19) (some [])))
 (bd (qc (qw tab .lss 3 v12 (.v (.int .i64 3))) o17) fun v20 o20 =>
 bd (gd v20 false (some (v9, o20)) o20) fun v21 o21=>
 bd (gd v20 false (qc (qj tab o21 48 v21 (.v (.int .i64 0))) o21) o21) fun v22 o22=>
 bd (gd v20 false (qc (qa tab 34 v22 0) o22) o22) fun v23 o23=>
 bd (gd v20 false (qc (qf tab o23 3 v23) o23) o23) fun v24 o24=>
 bd (gd v20 false (qc (qw tab .neq 3 v24 (.v (.int .i64 1))) o24) o24) fun v25 o25=>
 bd (qc (qL v20 (.v (.bool true)) v25) o25) fun v26 o26=>
 bd (gd v26 false (some (v9, o26)) o26) fun v27 o27=>
 bd (gd v26 false (some (v12, o27)) o27) fun v28 o28=>
 bd (gd v26 false (qc (qw tab .sub 3 v28 (.v (.int .i64 2))) o28) o28) fun v29 o29=>
 bd (gd v26 false (qc (qj tab o29 48 v27 v29) o29) o29) fun v30 o30=>
 bd (gd v26 false (qc (qa tab 34 v30 0) o30) o30) fun v31 o31=>
 bd (gd v26 false (qc (qf tab o31 3 v31) o31) o31) fun v32 o32=>
 bd (gd v26 false (qc (qw tab .neq 3 v32 (.v (.int .i64 3))) o32) o32) fun v33 o33=>
 bd (qc (qL v26 (.v (.bool true)) v33) o33) fun v34 o34=>
 bd (gd v34 false (some (v9, o34)) o34) fun v35 o35=>
 bd (gd v34 false (some (v12, o35)) o35) fun v36 o36=>
 bd (gd v34 false (qc (qw tab .sub 3 v36 (.v (.int .i64 1))) o36) o36) fun v37 o37=>
 bd (gd v34 false (qc (qj tab o37 48 v35 v37) o37) o37) fun v38 o38=>
 bd (gd v34 false (qc (qa tab 34 v38 0) o38) o38) fun v39 o39=>
 bd (gd v34 false (qc (qf tab o39 3 v39) o39) o39) fun v40 o40=>
 bd (gd v34 false (qc (qw tab .neq 3 v40 (.v (.int .i64 4))) o40) o40) fun v41 o41=>
 bd (qc (qL v34 (.v (.bool true)) v41) o41) fun v42 o42=>
 bd (gd v42 false (some (v9, o42)) o42) fun v43 o43=>
 bd (gd v42 false (qc (qj tab o43 48 v43 (.v (.int .i64 0))) o43) o43) fun v44 o44=>
 bd (gd v42 false (qc (qa tab 34 v44 3) o44) o44) fun v45 o45=>
 bd (gd v42 false (qc (qf tab o45 23 v45) o45) o45) fun v46 o46=>
 bd (gd v42 false (some (v5, o46)) o46) fun v47 o47=>
 bd (gd v42 false (qn ⟨tab, qm, K⟩ o47 26 [v46, v47]) o47) fun v48 o48=>
 bd (gd v42 false (qc (unS .not v48) o48) o48) fun v49 o49=>
 bd (qc (qL v42 (.v (.bool true)) v49) o49) fun v50 o50=>
 bd (gd v50 false (some (v9, o50)) o50) fun v51 o51=>
 bd (gd v50 false (some (v12, o51)) o51) fun v52 o52=>
 bd (gd v50 false (qc (qw tab .sub 3 v52 (.v (.int .i64 2))) o52) o52) fun v53 o53=>
 bd (gd v50 false (qc (qj tab o53 48 v51 v53) o53) o53) fun v54 o54=>
 bd (gd v50 false (qc (qa tab 34 v54 3) o54) o54) fun v55 o55=>
 bd (gd v50 false (qc (qf tab o55 23 v55) o55) o55) fun v56 o56=>
 bd (gd v50 false (some (v5, o56)) o56) fun v57 o57=>
 bd (gd v50 false (qn ⟨tab, qm, K⟩ o57 26 [v56, v57]) o57) fun v58 o58=>
 bd (gd v50 false (qc (unS .not v58) o58) o58) fun v59 o59=>
 bd (qc (qL v50 (.v (.bool true)) v59) o59) fun v60 o60=>
 qE v60 (zq tab nl o60 (qx (some (.v (.bool false))) (some [])))
 (bd (qn ⟨tab, qm, K⟩ o60 21 [v5]) fun v61 o61 =>
 Kd K N nl N v6 v9 v12 v61 (.v (.int .i64 1)) (.v (.int .i64 0)) o61)))
noncomputable def Yf (K : zKT) (N nl : Nat) (x8 x12 x13 : SV) (os : List SO) : Out := qA (cx K) N nl fi11 (qM c11 [1, 1, 1, 1, 1, 1, 1, 1, 1, 1, 1, 1]) [(8, x8), (12, x12), (13, x13)] os (qV tab [] nl rs11)
noncomputable def Xm (K : zKT) (N nl : Nat) (x8 x12 x13 : SV) (os : List SO) : Out :=
 bd (gd x13 true (qc (qf tab os 26 x12) os) os) fun v64 o64=>
 bd (gd x13 true (qn ⟨tab, qm, K⟩ o64 32 [v64]) o64) fun v65 o65=>
 bd (gd x13 true (ze tab 48 o65 v65) o65) fun v66 o66=>
 bd (gd x13 true (some (x8, o66)) o66) fun v67 o67=>
 bd (gd x13 true (qc (qw tab .sub 3 v67 (.v (.int .i64 1))) o67) o67) fun v68 o68=>
 bd (gd x13 true (qc (qw tab .eql 3 v66 v68) o68) o68) fun v69 o69=>
 bd (qc (qL x13 v69 (.v (.bool false))) o69) fun v70 o70=>
 zq tab nl o70 (qx (some v70) (some []))
noncomputable def X11 (K : zKT) (N nl : Nat) (x0 x1 : SV) (os : List SO) : Out := qA (cx K) N nl fi11 c11 [(0, x0), (1, x1)] os (qV tab [] nl rs11)
noncomputable def B11 (K : zKT) (N nl : Nat) (x0 x1 : SV) (os : List SO) : Out :=
 bd (ze tab 22 os x0) fun v1 o1=>
 bd (qc (qw tab .gtr 3 v1 (.v (.int .i64 1048576))) o1) fun v2 o2=>
 bd (gd v2 false (some (x1, o2)) o2) fun v3 o3=>
 bd (gd v2 false (ze tab 22 o3 v3) o3) fun v4 o4=>
 bd (gd v2 false (qc (qw tab .gtr 3 v4 (.v (.int .i64 1048576))) o4) o4) fun v5 o5=>
 bd (qc (qL v2 (.v (.bool true)) v5) o5) fun v6 o6=>
 qE v6 (zq tab nl o6 (qx (some (.v (.bool true))) (some [])))
 (bd (qn ⟨tab, qm, K⟩ o6 31 [x0]) fun v7 o7 =>
 bd (qD tab o7 26) fun v8 o8=>
 bd (qp tab o8 26 v8 (some v7)) fun v9 o9=>
 bd (qc (qf tab o9 26 v8) o9) fun v10 o10=>
 bd (qn ⟨tab, qm, K⟩ o10 32 [v10]) fun v11 o11=>
 bd (qc (qf tab o11 26 v8) o11) fun v12 o12=>
 bd (qn ⟨tab, qm, K⟩ o12 33 [v12]) fun v13 o13=>
 bd (ze tab 48 o13 v11) fun v14 o14=>
 bd (ze tab 48 o14 v13) fun v15 o15=>
 bd (qc (qw tab .neq 3 v14 v15) o15) fun v16 o16=>
 bd (gd v16 false (some (v14, o16)) o16) fun v17 o17=>
 bd (gd v16 false (qc (qw tab .eql 3 v17 (.v (.int .i64 0))) o17) o17) fun v18 o18=>
 bd (qc (qL v16 (.v (.bool true)) v18) o18) fun v19 o19=>
 qE v19 (bd (ze tab 48 o19 v13) fun v20 o20 =>
 bd (qc (qw tab .eql 3 v14 v20) o20) fun v21 o21=>
 zq tab nl o21 (qx (some v21) (some [])))
 (bd (qc (qf tab o19 26 v8) o19) fun v22 o22 =>
 bd (qn ⟨tab, qm, K⟩ o22 36 [v22, v11, v14, (.v (.bool false))]) fun v23 o23=>
 bd (qc (ql v23 0) o23) fun v24 o24=>
 bd (qc (ql v23 1) o24) fun v25 o25=>
 bd (qD tab o25 26) fun v26 o26=>
 bd (qp tab o26 26 v26 (some v24)) fun v27 o27=>
 bd (qc (unS .not v25) o27) fun v28 o28=>
 bd (gd v28 false (qc (qf tab o28 26 v26) o28) o28) fun v29 o29=>
 bd (gd v28 false (qn ⟨tab, qm, K⟩ o29 32 [v29]) o29) fun v30 o30=>
 bd (gd v28 false (ze tab 48 o30 v30) o30) fun v31 o31=>
 bd (gd v28 false (qc (qw tab .neq 3 v31 (.v (.int .i64 0))) o31) o31) fun v32 o32=>
 bd (qc (qL v28 (.v (.bool true)) v32) o32) fun v33 o33=>
 qE v33 (zq tab nl o33 (qx (some (.v (.bool false))) (some [])))
 (bd (ze tab 22 o33 x1) fun v34 o34 =>
 bd (qc (qw tab .rem 3 v34 v14) o34) fun v35 o35=>
 bd (qc (qj tab o35 48 v11 v35) o35) fun v36 o36=>
 bd (qc (qa tab 34 v36 0) o36) fun v37 o37=>
 bd (qc (qf tab o37 3 v37) o37) fun v38 o38=>
 bd (qc (qw tab .neq 3 v38 (.v (.int .i64 2))) o38) fun v39 o39=>
 qE v39 (zq tab nl o39 (qx (some (.v (.bool true))) (some [])))
 (wZ (wZ (bd (qc (qf tab o39 26 v8) o39) fun v40 o40 =>
 bd (qc (qj tab o40 48 v11 v35) o40) fun v41 o41=>
 bd (qc (qf tab o41 34 v41) o41) fun v42 o42=>
 bd (qn ⟨tab, qm, K⟩ o42 24 [v40, v42]) fun v43 o43=>
 bd (qc (ql v43 0) o43) fun v44 o44=>
 bd (qc (ql v43 1) o44) fun v45 o45=>
 bd (qD tab o45 26) fun v46 o46=>
 bd (qp tab o46 26 v46 (some v44)) fun v47 o47=>
 Yf K N nl v14 v46 v45 o47)
 (zQ (zv v8) <|
 bd (qc (qf tab o39 26 v8) o39) fun v48 o48=>
 bd (qc (qj tab o48 48 v11 v35) o48) fun v49 o49=>
 zQ (zv v49) <|
 bd (qc (qf tab o49 34 v49) o49) fun v50 o50=>
 bd (qD tab o50 26) fun v51 o51=>
 bd (qn ⟨tab, qm, K⟩ o51 24 [v48, v50]) fun v52 o52=>
 bd (qc (ql v52 0) o52) fun v53 o53=>
 bd (qc (ql v52 1) o53) fun v54 o54=>
 bd (qp tab o54 26 v51 (some v53)) fun v55 o55=>
 Yf K N nl v14 v51 v54 o55))
 (zQ (zv v8) <|
 bd (qc (qf tab o39 26 v8) o39) fun v56 o56=>
 bd (qD tab o56 26) fun v57 o57=>
 bd (qc (qj tab o57 48 v11 v35) o57) fun v58 o58=>
 bd (qc (qf tab o58 34 v58) o58) fun v59 o59=>
 bd (qn ⟨tab, qm, K⟩ o59 24 [v56, v59]) fun v60 o60=>
 bd (qc (ql v60 0) o60) fun v61 o61=>
 bd (qc (ql v60 1) o61) fun v62 o62=>
 bd (qp tab o62 26 v57 (some v61)) fun v63 o63=>
 Yf K N nl v14 v57 v62 o63)))))
noncomputable def Wh (K : zKT) (N nl : Nat) (m10 : Nat) : Env → List SO → Out := fun env os => q8 nl (Qa.lp 10) (fun env os nx => qA (cx K) N nl Qa (qM c12 [1, 1, 1, 1, 1, 1, 1, 0, 1, 0, 0]) env os (qP nx (qu 0 (zu (qA (cx K) N nl Qa (qM c12 [1, 1, 1, 1, 1, 1, 1, 1])) (Qa.jn 18) (qV tab [] nl qi7))))) m10 (zB (Qa.lp 10).alive env) os
noncomputable def Ke (K : zKT) (N nl : Nat) (m10 : Nat) (x4 x5 x6 x9 x11 x12 : SV) (os : List SO) : Out := q8 nl (Qa.lp 10) (fun env os nx => qA (cx K) N nl Qa (qM c12 [1, 1, 1, 1, 1, 1, 1, 0, 1, 0, 0]) env os (qP nx (qu 0 (zu (qA (cx K) N nl Qa (qM c12 [1, 1, 1, 1, 1, 1, 1, 1])) (Qa.jn 18) (qV tab [] nl qi7))))) m10 [(4, x4), (5, x5), (6, x6), (9, x9), (11, x11), (12, x12)] os
noncomputable def Kf (K : zKT) (N nl : Nat) (m10 : Nat) (xs : List SV) (os : List SO) : Out := (fun env os nx => qA (cx K) N nl Qa (qM c12 [1, 1, 1, 1, 1, 1, 1, 0, 1, 0, 0]) env os (qP nx (qu 0 (zu (qA (cx K) N nl Qa (qM c12 [1, 1, 1, 1, 1, 1, 1, 1])) (Qa.jn 18) (qV tab [] nl qi7))))) (jX [4, 5, 6, 9, 11, 12] xs) os (Wh K N nl m10)
noncomputable def Yg (K : zKT) (N nl : Nat) (m10 : Nat) (x4 x5 x6 x9 x11 x12 x13 : SV) (os : List SO) : Out := qA (cx K) N nl Qa (qM c12 [1, 1, 1, 1, 1, 1, 1, 0, 1, 0, 0, 1, 0, 0, 1, 0, 1]) [(4, x4), (5, x5), (6, x6), (9, x9), (11, x11), (12, x12), (13, x13)] os (qu 1 (zu (qA (cx K) N nl Qa (qM c12 [1, 1, 1, 1, 1, 1, 1, 0, 1, 0, 0, 1, 1])) (Qa.jn 11) (qP (Wh K N nl m10) (qu 0 (zu (qA (cx K) N nl Qa (qM c12 [1, 1, 1, 1, 1, 1, 1, 1])) (Qa.jn 18) (qV tab [] nl qi7))))))
noncomputable def Yh (K : zKT) (N nl : Nat) (m10 : Nat) (x4 x5 x6 x9 x11 x12 x15 : SV) (os : List SO) : Out := qA (cx K) N nl Qa (qM c12 [1, 1, 1, 1, 1, 1, 1, 0, 1, 0, 0, 1, 0, 0, 1, 1, 1, 0, 1]) [(4, x4), (5, x5), (6, x6), (9, x9), (11, x11), (12, x12), (15, x15)] os (qu 1 (zu (qA (cx K) N nl Qa (qM c12 [1, 1, 1, 1, 1, 1, 1, 0, 1, 0, 0, 1, 1])) (Qa.jn 11) (qP (Wh K N nl m10) (qu 0 (zu (qA (cx K) N nl Qa (qM c12 [1, 1, 1, 1, 1, 1, 1, 1])) (Qa.jn 18) (qV tab [] nl qi7))))))
noncomputable def Yi (K : zKT) (N nl : Nat) (m10 : Nat) (x4 x5 x6 x9 x11 x12 : SV) (os : List SO) : Out := qA (cx K) N nl Qa (qM c12 [1, 1, 1, 1, 1, 1, 1, 0, 1, 0, 0, 1, 1]) [(4, x4), (5, x5), (6, x6), (9, x9), (11, x11), (12, x12)] os (qP (Wh K N nl m10) (qu 0 (zu (qA (cx K) N nl Qa (qM c12 [1, 1, 1, 1, 1, 1, 1, 1])) (Qa.jn 18) (qV tab [] nl qi7))))
noncomputable def Xn (K : zKT) (N nl : Nat) (m10 : Nat) (x4 x5 x6 x9 x11 x12 : SV) (os : List SO) : Out :=
 bd (ze tab 48 os x4) fun v39 o39=>
 bd (qc (qw tab .lss 3 x12 v39) o39) fun v40 o40=>
 bd (gd v40 true (some (x12, o40)) o40) fun v41 o41=>
 bd (gd v40 true (some (x5, o41)) o41) fun v42 o42=>
 bd (gd v40 true (qc (qw tab .leq 3 v41 v42) o42) o42) fun v43 o43=>
 bd (qc (qL v40 v43 (.v (.bool false))) o43) fun v44 o44=>
 qE v44 (bd (qc (qw tab .lss 3 x12 x5) o44) fun v45 o45 =>
 qE v45 (wZ (wZ (bd (qc (qf tab o45 26 x11) o45) fun v46 o46 =>
 bd (qc (qj tab o46 48 x4 x12) o46) fun v47 o47=>
 bd (qc (qf tab o47 34 v47) o47) fun v48 o48=>
 bd (qn ⟨tab, qm, K⟩ o48 24 [v46, v48]) fun v49 o49=>
 bd (qc (ql v49 0) o49) fun v50 o50=>
 bd (qc (ql v49 1) o50) fun v51 o51=>
 bd (qD tab o51 26) fun v52 o52=>
 bd (qp tab o52 26 v52 (some v50)) fun v53 o53=>
 Yg K N nl m10 x4 x5 x6 x9 x11 x12 v52 o53)
 (zQ (zv x11) <|
 bd (qc (qf tab o45 26 x11) o45) fun v54 o54=>
 bd (qc (qj tab o54 48 x4 x12) o54) fun v55 o55=>
 zQ (zv v55) <|
 bd (qc (qf tab o55 34 v55) o55) fun v56 o56=>
 bd (qD tab o56 26) fun v57 o57=>
 bd (qn ⟨tab, qm, K⟩ o57 24 [v54, v56]) fun v58 o58=>
 bd (qc (ql v58 0) o58) fun v59 o59=>
 bd (qc (ql v58 1) o59) fun v60 o60=>
 bd (qp tab o60 26 v57 (some v59)) fun v61 o61=>
 Yg K N nl m10 x4 x5 x6 x9 x11 x12 v57 o61))
 (zQ (zv x11) <|
 bd (qc (qf tab o45 26 x11) o45) fun v62 o62=>
 bd (qD tab o62 26) fun v63 o63=>
 bd (qc (qj tab o63 48 x4 x12) o63) fun v64 o64=>
 bd (qc (qf tab o64 34 v64) o64) fun v65 o65=>
 bd (qn ⟨tab, qm, K⟩ o65 24 [v62, v65]) fun v66 o66=>
 bd (qc (ql v66 0) o66) fun v67 o67=>
 bd (qc (ql v66 1) o67) fun v68 o68=>
 bd (qp tab o68 26 v63 (some v67)) fun v69 o69=>
 Yg K N nl m10 x4 x5 x6 x9 x11 x12 v63 o69))
 (qE x6 (wZ (wZ (bd (qc (qf tab o45 26 x11) o45) fun v70 o70 =>
 bd (qc (qj tab o70 48 x4 x12) o70) fun v71 o71=>
 bd (qc (qf tab o71 34 v71) o71) fun v72 o72=>
 bd (qn ⟨tab, qm, K⟩ o72 28 [v70, v72]) fun v73 o73=>
 bd (qc (ql v73 0) o73) fun v74 o74=>
 bd (qc (ql v73 1) o74) fun v75 o75=>
 bd (qD tab o75 26) fun v76 o76=>
 bd (qp tab o76 26 v76 (some v74)) fun v77 o77=>
 Yh K N nl m10 x4 x5 x6 x9 x11 x12 v76 o77)
 (zQ (zv x11) <|
 bd (qc (qf tab o45 26 x11) o45) fun v78 o78=>
 bd (qc (qj tab o78 48 x4 x12) o78) fun v79 o79=>
 zQ (zv v79) <|
 bd (qc (qf tab o79 34 v79) o79) fun v80 o80=>
 bd (qD tab o80 26) fun v81 o81=>
 bd (qn ⟨tab, qm, K⟩ o81 28 [v78, v80]) fun v82 o82=>
 bd (qc (ql v82 0) o82) fun v83 o83=>
 bd (qc (ql v82 1) o83) fun v84 o84=>
 bd (qp tab o84 26 v81 (some v83)) fun v85 o85=>
 Yh K N nl m10 x4 x5 x6 x9 x11 x12 v81 o85))
 (zQ (zv x11) <|
 bd (qc (qf tab o45 26 x11) o45) fun v86 o86=>
 bd (qD tab o86 26) fun v87 o87=>
 bd (qc (qj tab o87 48 x4 x12) o87) fun v88 o88=>
 bd (qc (qf tab o88 34 v88) o88) fun v89 o89=>
 bd (qn ⟨tab, qm, K⟩ o89 28 [v86, v89]) fun v90 o90=>
 bd (qc (ql v90 0) o90) fun v91 o91=>
 bd (qc (ql v90 1) o91) fun v92 o92=>
 bd (qp tab o92 26 v87 (some v91)) fun v93 o93=>
 Yh K N nl m10 x4 x5 x6 x9 x11 x12 v87 o93))
 (Yi K N nl m10 x4 x5 x6 x9 x11 x12 o45)))
 (bd (qc (qf tab o44 26 x9) o44) fun v94 o94 =>
 bd (qc (qf tab o94 26 x11) o94) fun v95 o95=>
 bd (qn ⟨tab, qm, K⟩ o95 25 [v94, v95]) fun v96 o96=>
 bd (gd v96 true (qc (qf tab o96 26 x9) o96) o96) fun v97 o97=>
 bd (gd v96 true (qn ⟨tab, qm, K⟩ o97 19 [v97]) o97) fun v98 o98=>
 bd (qc (qL v96 v98 (.v (.bool false))) o98) fun v99 o99=>
 zq tab nl o99 (qx (some v99) (some [])))
noncomputable def Xo (K : zKT) (N nl : Nat) (m10 : Nat) (x4 x5 x6 x9 x11 x12 x13 : SV) (os : List SO) : Out :=
 bd (qc (qf tab os 26 x13) os) fun v100 o100=>
 bd (qp tab o100 26 x11 (some v100)) fun v101 o101=>
 Yi K N nl m10 x4 x5 x6 x9 x11 x12 o101
noncomputable def Xp (K : zKT) (N nl : Nat) (m10 : Nat) (x4 x5 x6 x9 x11 x12 x15 : SV) (os : List SO) : Out :=
 bd (qc (qf tab os 26 x15) os) fun v102 o102=>
 bd (qp tab o102 26 x11 (some v102)) fun v103 o103=>
 Yi K N nl m10 x4 x5 x6 x9 x11 x12 o103
noncomputable def Xq (K : zKT) (N nl : Nat) (m10 : Nat) (x4 x5 x6 x9 x11 x12 : SV) (os : List SO) : Out :=
 bd (qc (qw tab .add 3 x12 (.v (.int .i64 1))) os) fun v104 o104=>
 Ke K N nl m10 x4 x5 x6 x9 x11 v104 o104
noncomputable def X12 (K : zKT) (N nl : Nat) (x0 : SV) (os : List SO) : Out := qA (cx K) N nl Qa c12 [(0, x0)] os (qV tab [] nl qi7)
noncomputable def B12 (K : zKT) (N nl : Nat) (x0 : SV) (os : List SO) : Out :=
 bd (ze tab 22 os x0) fun v1 o1=>
 bd (qc (qw tab .gtr 3 v1 (.v (.int .i64 1048576))) o1) fun v2 o2=>
 qE v2 (zq tab nl o2 (qx (some (.v (.bool true))) (some [])))
 (bd (qn ⟨tab, qm, K⟩ o2 34 [x0]) fun v3 o3 =>
 bd (qc (ql v3 0) o3) fun v4 o4=>
 bd (qc (ql v3 1) o4) fun v5 o5=>
 bd (qc (ql v3 2) o5) fun v6 o6=>
 bd (qc (ql v3 3) o6) fun v7 o7=>
 bd (qD tab o7 26) fun v8 o8=>
 bd (qp tab o8 26 v8 (some v4)) fun v9 o9=>
 bd (qc (qf tab o9 26 v8) o9) fun v10 o10=>
 bd (qn ⟨tab, qm, K⟩ o10 35 [v10, v5, v6, v7]) fun v11 o11=>
 bd (qc (ql v11 0) o11) fun v12 o12=>
 bd (qc (ql v11 1) o12) fun v13 o13=>
 bd (qD tab o13 26) fun v14 o14=>
 bd (qp tab o14 26 v14 (some v12)) fun v15 o15=>
 bd (qc (qf tab o15 26 v8) o15) fun v16 o16=>
 bd (qn ⟨tab, qm, K⟩ o16 36 [v16, v5, v6, v7]) fun v17 o17=>
 bd (qc (ql v17 0) o17) fun v18 o18=>
 bd (qc (ql v17 1) o18) fun v19 o19=>
 bd (qD tab o19 26) fun v20 o20=>
 bd (qp tab o20 26 v20 (some v18)) fun v21 o21=>
 bd (qc (qw tab .neq 4 v19 v13) o21) fun v22 o22=>
 bd (gd v22 false (qc (qf tab o22 26 v20) o22) o22) fun v23 o23=>
 bd (gd v22 false (qc (qf tab o23 26 v14) o23) o23) fun v24 o24=>
 bd (gd v22 false (qn ⟨tab, qm, K⟩ o24 25 [v23, v24]) o24) fun v25 o25=>
 bd (gd v22 false (qc (unS .not v25) o25) o25) fun v26 o26=>
 bd (qc (qL v22 (.v (.bool true)) v26) o26) fun v27 o27=>
 bd (gd v27 false (some (v19, o27)) o27) fun v28 o28=>
 bd (gd v27 false (qc (unS .not v28) o28) o28) fun v29 o29=>
 bd (qc (qL v27 (.v (.bool true)) v29) o29) fun v30 o30=>
 qE v30 (bd (qc (qw tab .eql 4 v19 v13) o30) fun v31 o31 =>
 bd (gd v31 true (qc (qf tab o31 26 v20) o31) o31) fun v32 o32=>
 bd (gd v31 true (qc (qf tab o32 26 v14) o32) o32) fun v33 o33=>
 bd (gd v31 true (qn ⟨tab, qm, K⟩ o33 25 [v32, v33]) o33) fun v34 o34=>
 bd (qc (qL v31 v34 (.v (.bool false))) o34) fun v35 o35=>
 zq tab nl o35 (qx (some v35) (some [])))
 (bd (qc (qf tab o30 26 v8) o30) fun v36 o36 =>
 bd (qD tab o36 26) fun v37 o37=>
 bd (qp tab o37 26 v37 (some v36)) fun v38 o38=>
 Ke K N nl N v5 v6 v7 v20 v37 (.v (.int .i64 0)) o38))
noncomputable def qdy (K : zKT) (N nl : Nat) (m10 : Nat) : Env → List SO → Out := fun env os => q8 nl (Wg.lp 10) (fun env os nx => qA (cx K) N nl Wg (qM c13 [1, 1, 1, 1, 1, 1, 1, 0, 1, 0, 0]) env os (qP nx (qu 0 (zu (qA (cx K) N nl Wg (qM c13 [1, 1, 1, 1, 1, 1, 1, 1])) (Wg.jn 16) (qV tab [] nl rs13))))) m10 (zB (Wg.lp 10).alive env) os
noncomputable def Kg (K : zKT) (N nl : Nat) (m10 : Nat) (x4 x5 x7 x8 : SV) (os : List SO) : Out := q8 nl (Wg.lp 10) (fun env os nx => qA (cx K) N nl Wg (qM c13 [1, 1, 1, 1, 1, 1, 1, 0, 1, 0, 0]) env os (qP nx (qu 0 (zu (qA (cx K) N nl Wg (qM c13 [1, 1, 1, 1, 1, 1, 1, 1])) (Wg.jn 16) (qV tab [] nl rs13))))) m10 [(4, x4), (5, x5), (7, x7), (8, x8)] os
noncomputable def Kh (K : zKT) (N nl : Nat) (m10 : Nat) (xs : List SV) (os : List SO) : Out := (fun env os nx => qA (cx K) N nl Wg (qM c13 [1, 1, 1, 1, 1, 1, 1, 0, 1, 0, 0]) env os (qP nx (qu 0 (zu (qA (cx K) N nl Wg (qM c13 [1, 1, 1, 1, 1, 1, 1, 1])) (Wg.jn 16) (qV tab [] nl rs13))))) (jX [4, 5, 7, 8] xs) os (qdy K N nl m10)
noncomputable def Yj (K : zKT) (N nl : Nat) (m10 : Nat) (x4 x5 x7 x8 x9 x10 : SV) (os : List SO) : Out := qA (cx K) N nl Wg (qM c13 [1, 1, 1, 1, 1, 1, 1, 0, 1, 0, 0, 1, 0, 0, 1]) [(4, x4), (5, x5), (7, x7), (8, x8), (9, x9), (10, x10)] os (qu 1 (zu (qA (cx K) N nl Wg (qM c13 [1, 1, 1, 1, 1, 1, 1, 0, 1, 0, 0, 1, 1])) (Wg.jn 11) (qP (qdy K N nl m10) (qu 0 (zu (qA (cx K) N nl Wg (qM c13 [1, 1, 1, 1, 1, 1, 1, 1])) (Wg.jn 16) (qV tab [] nl rs13))))))
noncomputable def Xr (K : zKT) (N nl : Nat) (m10 : Nat) (x4 x5 x7 x8 : SV) (os : List SO) : Out :=
 bd (ze tab 48 os x5) fun v25 o25=>
 bd (qc (qw tab .lss 3 x8 v25) o25) fun v26 o26=>
 qE v26 (wZ (wZ (bd (qc (qf tab o26 26 x7) o26) fun v27 o27 =>
 bd (qc (qj tab o27 48 x5 x8) o27) fun v28 o28=>
 bd (qc (qf tab o28 34 v28) o28) fun v29 o29=>
 bd (qn ⟨tab, qm, K⟩ o29 24 [v27, v29]) fun v30 o30=>
 bd (qc (ql v30 0) o30) fun v31 o31=>
 bd (qc (ql v30 1) o31) fun v32 o32=>
 bd (qD tab o32 26) fun v33 o33=>
 bd (qp tab o33 26 v33 (some v31)) fun v34 o34=>
 Yj K N nl m10 x4 x5 x7 x8 v33 v32 o34)
 (zQ (zv x7) <|
 bd (qc (qf tab o26 26 x7) o26) fun v35 o35=>
 bd (qc (qj tab o35 48 x5 x8) o35) fun v36 o36=>
 zQ (zv v36) <|
 bd (qc (qf tab o36 34 v36) o36) fun v37 o37=>
 bd (qD tab o37 26) fun v38 o38=>
 bd (qn ⟨tab, qm, K⟩ o38 24 [v35, v37]) fun v39 o39=>
 bd (qc (ql v39 0) o39) fun v40 o40=>
 bd (qc (ql v39 1) o40) fun v41 o41=>
 bd (qp tab o41 26 v38 (some v40)) fun v42 o42=>
 Yj K N nl m10 x4 x5 x7 x8 v38 v41 o42))
 (zQ (zv x7) <|
 bd (qc (qf tab o26 26 x7) o26) fun v43 o43=>
 bd (qD tab o43 26) fun v44 o44=>
 bd (qc (qj tab o44 48 x5 x8) o44) fun v45 o45=>
 bd (qc (qf tab o45 34 v45) o45) fun v46 o46=>
 bd (qn ⟨tab, qm, K⟩ o46 24 [v43, v46]) fun v47 o47=>
 bd (qc (ql v47 0) o47) fun v48 o48=>
 bd (qc (ql v47 1) o48) fun v49 o49=>
 bd (qp tab o49 26 v44 (some v48)) fun v50 o50=>
 Yj K N nl m10 x4 x5 x7 x8 v44 v49 o50))
 (bd (qc (qf tab o26 26 x7) o26) fun v51 o51 =>
 bd (qn ⟨tab, qm, K⟩ o51 16 [v51]) fun v52 o52=>
 bd (gd v52 true (qc (qa tab 26 x7 0) o52) o52) fun v53 o53=>
 bd (gd v52 true (qc (qf tab o53 23 v53) o53) o53) fun v54 o54=>
 bd (gd v52 true (some (x4, o54)) o54) fun v55 o55=>
 bd (gd v52 true (qn ⟨tab, qm, K⟩ o55 26 [v54, v55]) o55) fun v56 o56=>
 bd (qc (qL v52 v56 (.v (.bool false))) o56) fun v57 o57=>
 zq tab nl o57 (qx (some v57) (some [])))
noncomputable def Xs (K : zKT) (N nl : Nat) (m10 : Nat) (x4 x5 x7 x8 x9 x10 : SV) (os : List SO) : Out :=
 bd (qc (unS .not x10) os) fun v58 o58=>
 qE v58 (zq tab nl o58 (qx (some (.v (.bool false))) (some [])))
 (bd (qc (qf tab o58 26 x9) o58) fun v59 o59 =>
 bd (qp tab o59 26 x7 (some v59)) fun v60 o60=>
 bd (qc (qw tab .add 3 x8 (.v (.int .i64 1))) o60) fun v61 o61=>
 Kg K N nl m10 x4 x5 x7 v61 o61)
noncomputable def X13 (K : zKT) (N nl : Nat) (x0 : SV) (os : List SO) : Out := qA (cx K) N nl Wg c13 [(0, x0)] os (qV tab [] nl rs13)
noncomputable def B13 (K : zKT) (N nl : Nat) (x0 : SV) (os : List SO) : Out :=
 bd (ze tab 22 os x0) fun v1 o1=>
 bd (qc (qw tab .gtr 3 v1 (.v (.int .i64 1048576))) o1) fun v2 o2=>
 qE v2 (zq tab nl o2 (qx (some (.v (.bool true))) (some [])))
 (bd (qn ⟨tab, qm, K⟩ o2 37 [x0]) fun v3 o3 =>
 bd (qc (ql v3 0) o3) fun v4 o4=>
 bd (qc (ql v3 1) o4) fun v5 o5=>
 bd (qD tab o5 26) fun v6 o6=>
 bd (qp tab o6 26 v6 (some v4)) fun v7 o7=>
 bd (qc (qf tab o7 26 v6) o7) fun v8 o8=>
 bd (qn ⟨tab, qm, K⟩ o8 38 [v8, v5]) fun v9 o9=>
 bd (qc (qf tab o9 26 v6) o9) fun v10 o10=>
 bd (qn ⟨tab, qm, K⟩ o10 39 [v10, v5]) fun v11 o11=>
 bd (ze tab 48 o11 v9) fun v12 o12=>
 bd (ze tab 48 o12 v11) fun v13 o13=>
 bd (qc (qw tab .neq 3 v12 v13) o13) fun v14 o14=>
 bd (gd v14 false (some (v9, o14)) o14) fun v15 o15=>
 bd (gd v14 false (ze tab 48 o15 v15) o15) fun v16 o16=>
 bd (gd v14 false (qc (qw tab .eql 3 v16 (.v (.int .i64 0))) o16) o16) fun v17 o17=>
 bd (qc (qL v14 (.v (.bool true)) v17) o17) fun v18 o18=>
 qE v18 (bd (ze tab 48 o18 v9) fun v19 o19 =>
 bd (ze tab 48 o19 v11) fun v20 o20=>
 bd (qc (qw tab .eql 3 v19 v20) o20) fun v21 o21=>
 zq tab nl o21 (qx (some v21) (some [])))
 (bd (qc (qf tab o18 26 v6) o18) fun v22 o22 =>
 bd (qD tab o22 26) fun v23 o23=>
 bd (qp tab o23 26 v23 (some v22)) fun v24 o24=>
 Kg K N nl N v5 v9 v23 (.v (.int .i64 0)) o24))
noncomputable def Qb (K : zKT) (N nl : Nat) (x1 x5 x8 x9 : SV) (os : List SO) : Out := qA (cx K) N nl fi14 (qM c14 [1, 1, 1, 1, 1, 1, 1]) [(1, x1), (5, x5), (8, x8), (9, x9)] os (qV tab [] nl rs14)
noncomputable def y5 (K : zKT) (N nl : Nat) (x5 x9 x11 x12 : SV) (os : List SO) : Out := qA (cx K) N nl fi14 (qM c14 [1, 1, 1, 1, 1, 1, 1, 1, 1]) [(5, x5), (9, x9), (11, x11), (12, x12)] os (qV tab [] nl rs14)
noncomputable def qdz (K : zKT) (N nl : Nat) (x1 x5 x8 x9 : SV) (os : List SO) : Out :=
 bd (qc (qf tab os 26 x8) os) fun v141 o141=>
 bd (qn ⟨tab, qm, K⟩ o141 32 [v141]) fun v142 o142=>
 wZ (wZ (wZ (wZ (bd (qc (qf tab o142 26 x8) o142) fun v143 o143 =>
 bd (ze tab 22 o143 x1) fun v144 o144=>
 bd (qc (qw tab .quo 3 v144 (.v (.int .i64 3))) o144) fun v145 o145=>
 bd (ze tab 48 o145 v142) fun v146 o146=>
 bd (qc (qw tab .add 3 v146 (.v (.int .i64 1))) o146) fun v147 o147=>
 bd (qc (qw tab .rem 3 v145 v147) o147) fun v148 o148=>
 bd (ze tab 22 o148 x1) fun v149 o149=>
 bd (qc (qw tab .rem 3 v149 (.v (.int .i64 3))) o149) fun v150 o150=>
 bd (qc (qw tab .eql 3 v150 (.v (.int .i64 0))) o150) fun v151 o151=>
 bd (qn ⟨tab, qm, K⟩ o151 36 [v143, v142, v148, v151]) fun v152 o152=>
 bd (qc (ql v152 0) o152) fun v153 o153=>
 bd (qc (ql v152 1) o153) fun v154 o154=>
 bd (qD tab o154 26) fun v155 o155=>
 bd (qp tab o155 26 v155 (some v153)) fun v156 o156=>
 y5 K N nl x5 x9 v155 v154 o156)
 (zQ (zv x8) <|
 bd (qc (qf tab o142 26 x8) o142) fun v157 o157=>
 bd (ze tab 22 o157 x1) fun v158 o158=>
 bd (qc (qw tab .quo 3 v158 (.v (.int .i64 3))) o158) fun v159 o159=>
 bd (ze tab 48 o159 v142) fun v160 o160=>
 bd (qc (qw tab .add 3 v160 (.v (.int .i64 1))) o160) fun v161 o161=>
 bd (qc (qw tab .rem 3 v159 v161) o161) fun v162 o162=>
 bd (ze tab 22 o162 x1) fun v163 o163=>
 bd (qc (qw tab .rem 3 v163 (.v (.int .i64 3))) o163) fun v164 o164=>
 bd (qc (qw tab .eql 3 v164 (.v (.int .i64 0))) o164) fun v165 o165=>
 bd (qD tab o165 26) fun v166 o166=>
 bd (qn ⟨tab, qm, K⟩ o166 36 [v157, v142, v162, v165]) fun v167 o167=>
 bd (qc (ql v167 0) o167) fun v168 o168=>
 bd (qc (ql v167 1) o168) fun v169 o169=>
 bd (qp tab o169 26 v166 (some v168)) fun v170 o170=>
 y5 K N nl x5 x9 v166 v169 o170))
 (zQ (zv x8) <|
 bd (qc (qf tab o142 26 x8) o142) fun v171 o171=>
 bd (ze tab 22 o171 x1) fun v172 o172=>
 bd (qc (qw tab .quo 3 v172 (.v (.int .i64 3))) o172) fun v173 o173=>
 bd (ze tab 48 o173 v142) fun v174 o174=>
 bd (qc (qw tab .add 3 v174 (.v (.int .i64 1))) o174) fun v175 o175=>
 bd (qc (qw tab .rem 3 v173 v175) o175) fun v176 o176=>
 bd (qD tab o176 26) fun v177 o177=>
 bd (ze tab 22 o177 x1) fun v178 o178=>
 bd (qc (qw tab .rem 3 v178 (.v (.int .i64 3))) o178) fun v179 o179=>
 bd (qc (qw tab .eql 3 v179 (.v (.int .i64 0))) o179) fun v180 o180=>
 bd (qn ⟨tab, qm, K⟩ o180 36 [v171, v142, v176, v180]) fun v181 o181=>
 bd (qc (ql v181 0) o181) fun v182 o182=>
 bd (qc (ql v181 1) o182) fun v183 o183=>
 bd (qp tab o183 26 v177 (some v182)) fun v184 o184=>
 y5 K N nl x5 x9 v177 v183 o184))
 (wZ (zQ (zv x8) <|
 bd (qc (qf tab o142 26 x8) o142) fun v185 o185=>
 bd (ze tab 22 o185 x1) fun v186 o186=>
 bd (qc (qw tab .quo 3 v186 (.v (.int .i64 3))) o186) fun v187 o187=>
 bd (ze tab 22 o187 x1) fun v188 o188=>
 bd (qc (qw tab .rem 3 v188 (.v (.int .i64 3))) o188) fun v189 o189=>
 bd (qc (qw tab .eql 3 v189 (.v (.int .i64 0))) o189) fun v190 o190=>
 bd (qD tab o190 26) fun v191 o191=>
 bd (ze tab 48 o191 v142) fun v192 o192=>
 bd (qc (qw tab .add 3 v192 (.v (.int .i64 1))) o192) fun v193 o193=>
 bd (qc (qw tab .rem 3 v187 v193) o193) fun v194 o194=>
 bd (qn ⟨tab, qm, K⟩ o194 36 [v185, v142, v194, v190]) fun v195 o195=>
 bd (qc (ql v195 0) o195) fun v196 o196=>
 bd (qc (ql v195 1) o196) fun v197 o197=>
 bd (qp tab o197 26 v191 (some v196)) fun v198 o198=>
 y5 K N nl x5 x9 v191 v197 o198)
 (zQ (zv x8) <|
 bd (qc (qf tab o142 26 x8) o142) fun v199 o199=>
 bd (ze tab 22 o199 x1) fun v200 o200=>
 bd (qc (qw tab .quo 3 v200 (.v (.int .i64 3))) o200) fun v201 o201=>
 bd (qD tab o201 26) fun v202 o202=>
 bd (ze tab 48 o202 v142) fun v203 o203=>
 bd (qc (qw tab .add 3 v203 (.v (.int .i64 1))) o203) fun v204 o204=>
 bd (qc (qw tab .rem 3 v201 v204) o204) fun v205 o205=>
 bd (ze tab 22 o205 x1) fun v206 o206=>
 bd (qc (qw tab .rem 3 v206 (.v (.int .i64 3))) o206) fun v207 o207=>
 bd (qc (qw tab .eql 3 v207 (.v (.int .i64 0))) o207) fun v208 o208=>
 bd (qn ⟨tab, qm, K⟩ o208 36 [v199, v142, v205, v208]) fun v209 o209=>
 bd (qc (ql v209 0) o209) fun v210 o210=>
 bd (qc (ql v209 1) o210) fun v211 o211=>
 bd (qp tab o211 26 v202 (some v210)) fun v212 o212=>
 y5 K N nl x5 x9 v202 v211 o212)))
 (wZ (wZ (zQ (zv x8) <|
 bd (qc (qf tab o142 26 x8) o142) fun v213 o213=>
 bd (ze tab 48 o213 v142) fun v214 o214=>
 bd (qc (qw tab .add 3 v214 (.v (.int .i64 1))) o214) fun v215 o215=>
 bd (ze tab 22 o215 x1) fun v216 o216=>
 bd (qc (qw tab .rem 3 v216 (.v (.int .i64 3))) o216) fun v217 o217=>
 bd (qc (qw tab .eql 3 v217 (.v (.int .i64 0))) o217) fun v218 o218=>
 bd (qD tab o218 26) fun v219 o219=>
 bd (ze tab 22 o219 x1) fun v220 o220=>
 bd (qc (qw tab .quo 3 v220 (.v (.int .i64 3))) o220) fun v221 o221=>
 bd (qc (qw tab .rem 3 v221 v215) o221) fun v222 o222=>
 bd (qn ⟨tab, qm, K⟩ o222 36 [v213, v142, v222, v218]) fun v223 o223=>
 bd (qc (ql v223 0) o223) fun v224 o224=>
 bd (qc (ql v223 1) o224) fun v225 o225=>
 bd (qp tab o225 26 v219 (some v224)) fun v226 o226=>
 y5 K N nl x5 x9 v219 v225 o226)
 (zQ (zv x8) <|
 bd (qc (qf tab o142 26 x8) o142) fun v227 o227=>
 bd (ze tab 48 o227 v142) fun v228 o228=>
 bd (qc (qw tab .add 3 v228 (.v (.int .i64 1))) o228) fun v229 o229=>
 bd (qD tab o229 26) fun v230 o230=>
 bd (ze tab 22 o230 x1) fun v231 o231=>
 bd (qc (qw tab .quo 3 v231 (.v (.int .i64 3))) o231) fun v232 o232=>
 bd (qc (qw tab .rem 3 v232 v229) o232) fun v233 o233=>
 bd (ze tab 22 o233 x1) fun v234 o234=>
 bd (qc (qw tab .rem 3 v234 (.v (.int .i64 3))) o234) fun v235 o235=>
 bd (qc (qw tab .eql 3 v235 (.v (.int .i64 0))) o235) fun v236 o236=>
 bd (qn ⟨tab, qm, K⟩ o236 36 [v227, v142, v233, v236]) fun v237 o237=>
 bd (qc (ql v237 0) o237) fun v238 o238=>
 bd (qc (ql v237 1) o238) fun v239 o239=>
 bd (qp tab o239 26 v230 (some v238)) fun v240 o240=>
 y5 K N nl x5 x9 v230 v239 o240))
 (wZ (zQ (zv x8) <|
 bd (qc (qf tab o142 26 x8) o142) fun v241 o241=>
 bd (ze tab 22 o241 x1) fun v242 o242=>
 bd (qc (qw tab .rem 3 v242 (.v (.int .i64 3))) o242) fun v243 o243=>
 bd (qc (qw tab .eql 3 v243 (.v (.int .i64 0))) o243) fun v244 o244=>
 bd (qD tab o244 26) fun v245 o245=>
 bd (ze tab 22 o245 x1) fun v246 o246=>
 bd (qc (qw tab .quo 3 v246 (.v (.int .i64 3))) o246) fun v247 o247=>
 bd (ze tab 48 o247 v142) fun v248 o248=>
 bd (qc (qw tab .add 3 v248 (.v (.int .i64 1))) o248) fun v249 o249=>
 bd (qc (qw tab .rem 3 v247 v249) o249) fun v250 o250=>
 bd (qn ⟨tab, qm, K⟩ o250 36 [v241, v142, v250, v244]) fun v251 o251=>
 bd (qc (ql v251 0) o251) fun v252 o252=>
 bd (qc (ql v251 1) o252) fun v253 o253=>
 bd (qp tab o253 26 v245 (some v252)) fun v254 o254=>
 y5 K N nl x5 x9 v245 v253 o254)
 (zQ (zv x8) <|
 bd (qc (qf tab o142 26 x8) o142) fun v255 o255=>
 bd (qD tab o255 26) fun v256 o256=>
 bd (ze tab 22 o256 x1) fun v257 o257=>
 bd (qc (qw tab .quo 3 v257 (.v (.int .i64 3))) o257) fun v258 o258=>
 bd (ze tab 48 o258 v142) fun v259 o259=>
 bd (qc (qw tab .add 3 v259 (.v (.int .i64 1))) o259) fun v260 o260=>
 bd (qc (qw tab .rem 3 v258 v260) o260) fun v261 o261=>
 bd (ze tab 22 o261 x1) fun v262 o262=>
 bd (qc (qw tab .rem 3 v262 (.v (.int .i64 3))) o262) fun v263 o263=>
 bd (qc (qw tab .eql 3 v263 (.v (.int .i64 0))) o263) fun v264 o264=>
 bd (qn ⟨tab, qm, K⟩ o264 36 [v255, v142, v261, v264]) fun v265 o265=>
 bd (qc (ql v265 0) o265) fun v266 o266=>
 bd (qc (ql v265 1) o266) fun v267 o267=>
 bd (qp tab o267 26 v256 (some v266)) fun v268 o268=>
 y5 K N nl x5 x9 v256 v267 o268)))
noncomputable def Xt (K : zKT) (N nl : Nat) (x5 x9 x11 x12 : SV) (os : List SO) : Out :=
 bd (qc (qf tab os 26 x11) os) fun v269 o269=>
 bd (qn ⟨tab, qm, K⟩ o269 40 [v269]) fun v270 o270=>
 bd (qc (ql v270 0) o270) fun v271 o271=>
 bd (qc (ql v270 1) o271) fun v272 o272=>
 bd (qD tab o272 26) fun v273 o273=>
 bd (qp tab o273 26 v273 (some v271)) fun v274 o274=>
 bd (qc (qf tab o274 26 x5) o274) fun v275 o275=>
 bd (qn ⟨tab, qm, K⟩ o275 40 [v275]) fun v276 o276=>
 bd (qc (ql v276 0) o276) fun v277 o277=>
 bd (qc (ql v276 1) o277) fun v278 o278=>
 bd (qD tab o278 26) fun v279 o279=>
 bd (qp tab o279 26 v279 (some v277)) fun v280 o280=>
 bd (gd x9 true (some (x12, o280)) o280) fun v281 o281=>
 bd (qc (qL x9 v281 (.v (.bool false))) o281) fun v282 o282=>
 bd (gd v282 true (some (v272, o282)) o282) fun v283 o283=>
 bd (qc (qL v282 v283 (.v (.bool false))) o283) fun v284 o284=>
 bd (gd v284 true (some (v278, o284)) o284) fun v285 o285=>
 bd (qc (qL v284 v285 (.v (.bool false))) o285) fun v286 o286=>
 bd (gd v286 true (qc (qf tab o286 26 v273) o286) o286) fun v287 o287=>
 bd (gd v286 true (qc (qf tab o287 26 v279) o287) o287) fun v288 o288=>
 bd (gd v286 true (qn ⟨tab, qm, K⟩ o288 25 [v287, v288]) o288) fun v289 o289=>
 bd (qc (qL v286 v289 (.v (.bool false))) o289) fun v290 o290=>
 zq tab nl o290 (qx (some v290) (some []))
noncomputable def X14 (K : zKT) (N nl : Nat) (x0 x1 : SV) (os : List SO) : Out := qA (cx K) N nl fi14 c14 [(0, x0), (1, x1)] os (qV tab [] nl rs14)
noncomputable def B14 (K : zKT) (N nl : Nat) (x0 x1 : SV) (os : List SO) : Out :=
 bd (ze tab 22 os x0) fun v1 o1=>
 bd (qc (qw tab .gtr 3 v1 (.v (.int .i64 1048576))) o1) fun v2 o2=>
 bd (gd v2 false (some (x1, o2)) o2) fun v3 o3=>
 bd (gd v2 false (ze tab 22 o3 v3) o3) fun v4 o4=>
 bd (gd v2 false (qc (qw tab .gtr 3 v4 (.v (.int .i64 1048576))) o4) o4) fun v5 o5=>
 bd (qc (qL v2 (.v (.bool true)) v5) o5) fun v6 o6=>
 qE v6 (zq tab nl o6 (qx (some (.v (.bool true))) (some [])))
 (bd (qn ⟨tab, qm, K⟩ o6 31 [x0]) fun v7 o7 =>
 bd (qD tab o7 26) fun v8 o8=>
 bd (qp tab o8 26 v8 (some v7)) fun v9 o9=>
 bd (qc (qf tab o9 26 v8) o9) fun v10 o10=>
 bd (qn ⟨tab, qm, K⟩ o10 32 [v10]) fun v11 o11=>
 bd (qc (qf tab o11 26 v8) o11) fun v12 o12=>
 bd (qn ⟨tab, qm, K⟩ o12 33 [v12]) fun v13 o13=>
 bd (ze tab 48 o13 v11) fun v14 o14=>
 bd (ze tab 48 o14 v13) fun v15 o15=>
 bd (qc (qw tab .neq 3 v14 v15) o15) fun v16 o16=>
 bd (gd v16 false (qc (qf tab o16 26 v8) o16) o16) fun v17 o17=>
 bd (gd v16 false (qn ⟨tab, qm, K⟩ o17 27 [v17]) o17) fun v18 o18=>
 bd (gd v16 false (qc (unS .not v18) o18) o18) fun v19 o19=>
 bd (qc (qL v16 (.v (.bool true)) v19) o19) fun v20 o20=>
 qE v20 (bd (ze tab 48 o20 v11) fun v21 o21 =>
 bd (ze tab 48 o21 v13) fun v22 o22=>
 bd (qc (qw tab .eql 3 v21 v22) o22) fun v23 o23=>
 zq tab nl o23 (qx (some v23) (some [])))
 (wZ (wZ (wZ (wZ (bd (qc (qf tab o20 26 v8) o20) fun v24 o24 =>
 bd (ze tab 22 o24 x1) fun v25 o25=>
 bd (ze tab 48 o25 v11) fun v26 o26=>
 bd (qc (qw tab .add 3 v26 (.v (.int .i64 1))) o26) fun v27 o27=>
 bd (qc (qw tab .rem 3 v25 v27) o27) fun v28 o28=>
 bd (ze tab 22 o28 x1) fun v29 o29=>
 bd (qc (qw tab .rem 3 v29 (.v (.int .i64 2))) o29) fun v30 o30=>
 bd (qc (qw tab .eql 3 v30 (.v (.int .i64 0))) o30) fun v31 o31=>
 bd (qn ⟨tab, qm, K⟩ o31 36 [v24, v11, v28, v31]) fun v32 o32=>
 bd (qc (ql v32 0) o32) fun v33 o33=>
 bd (qc (ql v32 1) o33) fun v34 o34=>
 bd (qD tab o34 26) fun v35 o35=>
 bd (qp tab o35 26 v35 (some v33)) fun v36 o36=>
 Qb K N nl x1 v8 v35 v34 o36)
 (zQ (zv v8) <|
 bd (qc (qf tab o20 26 v8) o20) fun v37 o37=>
 bd (ze tab 22 o37 x1) fun v38 o38=>
 bd (ze tab 48 o38 v11) fun v39 o39=>
 bd (qc (qw tab .add 3 v39 (.v (.int .i64 1))) o39) fun v40 o40=>
 bd (qc (qw tab .rem 3 v38 v40) o40) fun v41 o41=>
 bd (ze tab 22 o41 x1) fun v42 o42=>
 bd (qc (qw tab .rem 3 v42 (.v (.int .i64 2))) o42) fun v43 o43=>
 bd (qc (qw tab .eql 3 v43 (.v (.int .i64 0))) o43) fun v44 o44=>
 bd (qD tab o44 26) fun v45 o45=>
 bd (qn ⟨tab, qm, K⟩ o45 36 [v37, v11, v41, v44]) fun v46 o46=>
 bd (qc (ql v46 0) o46) fun v47 o47=>
 bd (qc (ql v46 1) o47) fun v48 o48=>
 bd (qp tab o48 26 v45 (some v47)) fun v49 o49=>
 Qb K N nl x1 v8 v45 v48 o49))
 (zQ (zv v8) <|
 bd (qc (qf tab o20 26 v8) o20) fun v50 o50=>
 bd (ze tab 22 o50 x1) fun v51 o51=>
 bd (ze tab 48 o51 v11) fun v52 o52=>
 bd (qc (qw tab .add 3 v52 (.v (.int .i64 1))) o52) fun v53 o53=>
 bd (qc (qw tab .rem 3 v51 v53) o53) fun v54 o54=>
 bd (qD tab o54 26) fun v55 o55=>
 bd (ze tab 22 o55 x1) fun v56 o56=>
 bd (qc (qw tab .rem 3 v56 (.v (.int .i64 2))) o56) fun v57 o57=>
 bd (qc (qw tab .eql 3 v57 (.v (.int .i64 0))) o57) fun v58 o58=>
 bd (qn ⟨tab, qm, K⟩ o58 36 [v50, v11, v54, v58]) fun v59 o59=>
 bd (qc (ql v59 0) o59) fun v60 o60=>
 bd (qc (ql v59 1) o60) fun v61 o61=>
 bd (qp tab o61 26 v55 (some v60)) fun v62 o62=>
 Qb K N nl x1 v8 v55 v61 o62))
 (wZ (zQ (zv v8) <|
 bd (qc (qf tab o20 26 v8) o20) fun v63 o63=>
 bd (ze tab 22 o63 x1) fun v64 o64=>
 bd (ze tab 22 o64 x1) fun v65 o65=>
 bd (qc (qw tab .rem 3 v65 (.v (.int .i64 2))) o65) fun v66 o66=>
 bd (qc (qw tab .eql 3 v66 (.v (.int .i64 0))) o66) fun v67 o67=>
 bd (qD tab o67 26) fun v68 o68=>
 bd (ze tab 48 o68 v11) fun v69 o69=>
 bd (qc (qw tab .add 3 v69 (.v (.int .i64 1))) o69) fun v70 o70=>
 bd (qc (qw tab .rem 3 v64 v70) o70) fun v71 o71=>
 bd (qn ⟨tab, qm, K⟩ o71 36 [v63, v11, v71, v67]) fun v72 o72=>
 bd (qc (ql v72 0) o72) fun v73 o73=>
 bd (qc (ql v72 1) o73) fun v74 o74=>
 bd (qp tab o74 26 v68 (some v73)) fun v75 o75=>
 Qb K N nl x1 v8 v68 v74 o75)
 (zQ (zv v8) <|
 bd (qc (qf tab o20 26 v8) o20) fun v76 o76=>
 bd (ze tab 22 o76 x1) fun v77 o77=>
 bd (qD tab o77 26) fun v78 o78=>
 bd (ze tab 48 o78 v11) fun v79 o79=>
 bd (qc (qw tab .add 3 v79 (.v (.int .i64 1))) o79) fun v80 o80=>
 bd (qc (qw tab .rem 3 v77 v80) o80) fun v81 o81=>
 bd (ze tab 22 o81 x1) fun v82 o82=>
 bd (qc (qw tab .rem 3 v82 (.v (.int .i64 2))) o82) fun v83 o83=>
 bd (qc (qw tab .eql 3 v83 (.v (.int .i64 0))) o83) fun v84 o84=>
 bd (qn ⟨tab, qm, K⟩ o84 36 [v76, v11, v81, v84]) fun v85 o85=>
 bd (qc (ql v85 0) o85) fun v86 o86=>
 bd (qc (ql v85 1) o86) fun v87 o87=>
 bd (qp tab o87 26 v78 (some v86)) fun v88 o88=>
 Qb K N nl x1 v8 v78 v87 o88)))
 (wZ (wZ (zQ (zv v8) <|
 bd (qc (qf tab o20 26 v8) o20) fun v89 o89=>
 bd (ze tab 48 o89 v11) fun v90 o90=>
 bd (qc (qw tab .add 3 v90 (.v (.int .i64 1))) o90) fun v91 o91=>
 bd (ze tab 22 o91 x1) fun v92 o92=>
 bd (qc (qw tab .rem 3 v92 (.v (.int .i64 2))) o92) fun v93 o93=>
 bd (qc (qw tab .eql 3 v93 (.v (.int .i64 0))) o93) fun v94 o94=>
 bd (qD tab o94 26) fun v95 o95=>
 bd (ze tab 22 o95 x1) fun v96 o96=>
 bd (qc (qw tab .rem 3 v96 v91) o96) fun v97 o97=>
 bd (qn ⟨tab, qm, K⟩ o97 36 [v89, v11, v97, v94]) fun v98 o98=>
 bd (qc (ql v98 0) o98) fun v99 o99=>
 bd (qc (ql v98 1) o99) fun v100 o100=>
 bd (qp tab o100 26 v95 (some v99)) fun v101 o101=>
 Qb K N nl x1 v8 v95 v100 o101)
 (zQ (zv v8) <|
 bd (qc (qf tab o20 26 v8) o20) fun v102 o102=>
 bd (ze tab 48 o102 v11) fun v103 o103=>
 bd (qc (qw tab .add 3 v103 (.v (.int .i64 1))) o103) fun v104 o104=>
 bd (qD tab o104 26) fun v105 o105=>
 bd (ze tab 22 o105 x1) fun v106 o106=>
 bd (qc (qw tab .rem 3 v106 v104) o106) fun v107 o107=>
 bd (ze tab 22 o107 x1) fun v108 o108=>
 bd (qc (qw tab .rem 3 v108 (.v (.int .i64 2))) o108) fun v109 o109=>
 bd (qc (qw tab .eql 3 v109 (.v (.int .i64 0))) o109) fun v110 o110=>
 bd (qn ⟨tab, qm, K⟩ o110 36 [v102, v11, v107, v110]) fun v111 o111=>
 bd (qc (ql v111 0) o111) fun v112 o112=>
 bd (qc (ql v111 1) o112) fun v113 o113=>
 bd (qp tab o113 26 v105 (some v112)) fun v114 o114=>
 Qb K N nl x1 v8 v105 v113 o114))
 (wZ (zQ (zv v8) <|
 bd (qc (qf tab o20 26 v8) o20) fun v115 o115=>
 bd (ze tab 22 o115 x1) fun v116 o116=>
 bd (qc (qw tab .rem 3 v116 (.v (.int .i64 2))) o116) fun v117 o117=>
 bd (qc (qw tab .eql 3 v117 (.v (.int .i64 0))) o117) fun v118 o118=>
 bd (qD tab o118 26) fun v119 o119=>
 bd (ze tab 22 o119 x1) fun v120 o120=>
 bd (ze tab 48 o120 v11) fun v121 o121=>
 bd (qc (qw tab .add 3 v121 (.v (.int .i64 1))) o121) fun v122 o122=>
 bd (qc (qw tab .rem 3 v120 v122) o122) fun v123 o123=>
 bd (qn ⟨tab, qm, K⟩ o123 36 [v115, v11, v123, v118]) fun v124 o124=>
 bd (qc (ql v124 0) o124) fun v125 o125=>
 bd (qc (ql v124 1) o125) fun v126 o126=>
 bd (qp tab o126 26 v119 (some v125)) fun v127 o127=>
 Qb K N nl x1 v8 v119 v126 o127)
 (zQ (zv v8) <|
 bd (qc (qf tab o20 26 v8) o20) fun v128 o128=>
 bd (qD tab o128 26) fun v129 o129=>
 bd (ze tab 22 o129 x1) fun v130 o130=>
 bd (ze tab 48 o130 v11) fun v131 o131=>
 bd (qc (qw tab .add 3 v131 (.v (.int .i64 1))) o131) fun v132 o132=>
 bd (qc (qw tab .rem 3 v130 v132) o132) fun v133 o133=>
 bd (ze tab 22 o133 x1) fun v134 o134=>
 bd (qc (qw tab .rem 3 v134 (.v (.int .i64 2))) o134) fun v135 o135=>
 bd (qc (qw tab .eql 3 v135 (.v (.int .i64 0))) o135) fun v136 o136=>
 bd (qn ⟨tab, qm, K⟩ o136 36 [v128, v11, v133, v136]) fun v137 o137=>
 bd (qc (ql v137 0) o137) fun v138 o138=>
 bd (qc (ql v137 1) o138) fun v139 o139=>
 bd (qp tab o139 26 v129 (some v138)) fun v140 o140=>
 Qb K N nl x1 v8 v129 v139 o140)))))
noncomputable def qgu (K : zKT) (N nl : Nat) (x2 x4 : SV) (os : List SO) : Out := qA (cx K) N nl fi15 (qM c15 [1, 1, 1, 1]) [(2, x2), (4, x4)] os (qV tab [0, 1, 3] nl rs15)
noncomputable def qdA (K : zKT) (N nl : Nat) (x2 x4 : SV) (os : List SO) : Out :=
 bd (qc (qf tab os 26 x4) os) fun v18 o18=>
 bd (qp tab o18 26 x2 (some v18)) fun v19 o19=>
 kY tab [0, 1, 3] nl o19 (qx (qf tab o19 26 x2) (some []))
noncomputable def X15 (K : zKT) (N nl : Nat) (x0 : SV) (os : List SO) : Out := qA (cx K) N nl fi15 c15 [(0, x0)] os (qV tab [0, 1, 3] nl rs15)
noncomputable def B15 (K : zKT) (N nl : Nat) (x0 : SV) (os : List SO) : Out :=
 bd (qD tab os 26) fun v1 o1=>
 bd (qn ⟨tab, qm, K⟩ o1 41 [x0]) fun v2 o2=>
 bd (qn ⟨tab, qm, K⟩ o2 42 [v2]) fun v3 o3=>
 bd (qc (ql v3 0) o3) fun v4 o4=>
 bd (qc (ql v3 1) o4) fun v5 o5=>
 bd (qD tab o5 26) fun v6 o6=>
 bd (qp tab o6 26 v6 (some v4)) fun v7 o7=>
 bd (qn ⟨tab, qm, K⟩ o7 43 [v2, (.v (.int .i64 2))]) fun v8 o8=>
 bd (qc (qw tab .eql 3 v8 (.v (.int .i64 0))) o8) fun v9 o9=>
 bd (gd v9 true (qc (qf tab o9 26 v6) o9) o9) fun v10 o10=>
 bd (gd v9 true (qn ⟨tab, qm, K⟩ o10 27 [v10]) o10) fun v11 o11=>
 bd (qc (qL v9 v11 (.v (.bool false))) o11) fun v12 o12=>
 qE v12 (zQ (zv v6) <|
 bd (qc (qf tab o12 26 v6) o12) fun v13 o13=>
 bd (qc (qf tab o13 26 v6) o13) fun v14 o14=>
 zQ (zy ⟨tab, qm, K⟩ o14 (SV.fn 45 []) [v14] [v6] false) <|
 bd (qn ⟨tab, qm, K⟩ o14 45 [v14]) fun v15 o15=>
 bd (qn ⟨tab, qm, K⟩ o15 44 [v13, v15, (.v (.int .i64 20)), (.v (.bool false))]) fun v16 o16=>
 bd (qp tab o16 26 v6 (some v16)) fun v17 o17=>
 qgu K N nl v1 v6 o17)
 (qgu K N nl v1 v6 o12)
noncomputable def X16 (K : zKT) (N nl : Nat) (x0 : SV) (os : List SO) : Out := qA (cx K) N nl fi16 c16 [(0, x0)] os (qV tab [] nl rs16)
noncomputable def B16 (K : zKT) (N nl : Nat) (x0 : SV) (os : List SO) : Out :=
 bd (wt tab os 26 (some x0)) fun v1 o1=>
 bd (qc (qf tab o1 26 v1) o1) fun v2 o2=>
 bd (qn ⟨tab, qm, K⟩ o2 19 [v2]) fun v3 o3=>
 bd (gd v3 true (qc (qa tab 26 v1 2) o3) o3) fun v4 o4=>
 bd (gd v3 true (qc (qf tab o4 4 v4) o4) o4) fun v5 o5=>
 bd (gd v3 true (qc (unS .not v5) o5) o5) fun v6 o6=>
 bd (qc (qL v3 v6 (.v (.bool false))) o6) fun v7 o7=>
 bd (gd v7 true (qc (qa tab 26 v1 1) o7) o7) fun v8 o8=>
 zQ (zv v8) <|
 bd (gd v7 true (qc (qf tab o8 24 v8) o8) o8) fun v9 o9=>
 bd (gd v7 true (qc (qa tab 26 v1 0) o9) o9) fun v10 o10=>
 bd (gd v7 true (qc (qf tab o10 23 v10) o10) o10) fun v11 o11=>
 zQ (zy ⟨tab, qm, K⟩ o11 (SV.fn 21 []) [v11] [v8] false) <|
 bd (gd v7 true (qn ⟨tab, qm, K⟩ o11 21 [v11]) o11) fun v12 o12=>
 bd (gd v7 true (qn ⟨tab, qm, K⟩ o12 46 [v9, v12]) o12) fun v13 o13=>
 bd (qc (qL v7 v13 (.v (.bool false))) o13) fun v14 o14=>
 zq tab nl o14 (qx (some v14) (some []))
noncomputable def X17 (K : zKT) (N nl : Nat) (x0 : SV) (os : List SO) : Out := qA (cx K) N nl fi17 c17 [(0, x0)] os (qV tab [] nl rs17)
noncomputable def B17 (K : zKT) (N nl : Nat) (x0 : SV) (os : List SO) : Out :=
 bd (wt tab os 26 (some x0)) fun v1 o1=>
 bd (qc (qf tab o1 26 v1) o1) fun v2 o2=>
 bd (qn ⟨tab, qm, K⟩ o2 27 [v2]) fun v3 o3=>
 bd (gd v3 true (qc (qa tab 26 v1 2) o3) o3) fun v4 o4=>
 bd (gd v3 true (qc (qf tab o4 4 v4) o4) o4) fun v5 o5=>
 bd (gd v3 true (qc (unS .not v5) o5) o5) fun v6 o6=>
 bd (qc (qL v3 v6 (.v (.bool false))) o6) fun v7 o7=>
 bd (gd v7 true (qc (qa tab 26 v1 1) o7) o7) fun v8 o8=>
 zQ (zv v8) <|
 bd (gd v7 true (qc (qf tab o8 24 v8) o8) o8) fun v9 o9=>
 bd (gd v7 true (qc (qa tab 26 v1 0) o9) o9) fun v10 o10=>
 bd (gd v7 true (qc (qf tab o10 23 v10) o10) o10) fun v11 o11=>
 zQ (zy ⟨tab, qm, K⟩ o11 (SV.fn 48 []) [v11] [v8] false) <|
 bd (gd v7 true (qn ⟨tab, qm, K⟩ o11 48 [v11]) o11) fun v12 o12=>
 bd (gd v7 true (qn ⟨tab, qm, K⟩ o12 47 [v9, v12]) o12) fun v13 o13=>
 bd (qc (qL v7 v13 (.v (.bool false))) o13) fun v14 o14=>
 zq tab nl o14 (qx (some v14) (some []))
noncomputable def X18 (K : zKT) (N nl : Nat) (os : List SO) : Out := qA (cx K) N nl fi18 c18 [] os (qV tab [] nl rs18)
noncomputable def B18 (K : zKT) (N nl : Nat) (os : List SO) : Out :=
 bd (qD tab os 26) fun v1 o1=>
 bd (qv tab o1 24 1 [(0, (.v (.int .i64 (-1))))]) fun v2 o2=>
 bd (qn ⟨tab, qm, K⟩ o2 49 [v2, (.v (.int .i64 6))]) fun v3 o3=>
 bd (zL tab o3 26 [(1, (some v3))]) fun v4 o4=>
 bd (qp tab o4 26 v1 (some v4)) fun v5 o5=>
 zq tab nl o5 (qx (qf tab o5 26 v1) (some []))
noncomputable def X19 (K : zKT) (N nl : Nat) (x0 : SV) (os : List SO) : Out := qA (cx K) N nl fi19 c19 [(0, x0)] os (qV tab [] nl rs19)
noncomputable def B19 (K : zKT) (N nl : Nat) (x0 : SV) (os : List SO) : Out :=
 bd (wt tab os 26 (some x0)) fun v1 o1=>
 bd (qc (qa tab 26 v1 1) o1) fun v2 o2=>
 bd (qc (qf tab o2 24 v2) o2) fun v3 o3=>
 bd (ze tab 24 o3 v3) fun v4 o4=>
 bd (qc (qw tab .neq 3 v4 (.v (.int .i64 6))) o4) fun v5 o5=>
 bd (gd v5 false (qc (qa tab 26 v1 1) o5) o5) fun v6 o6=>
 bd (gd v5 false (qc (qf tab o6 24 v6) o6) o6) fun v7 o7=>
 bd (gd v5 false (some ((SV.fn 50 []), o7)) o7) fun v8 o8=>
 bd (gd v5 false (qn ⟨tab, qm, K⟩ o8 52 [v7, v8]) o8) fun v9 o9=>
 bd (qc (qL v5 (.v (.bool true)) v9) o9) fun v10 o10=>
 qE v10 (zq tab nl o10 (qx (some (.v (.bool false))) (some [])))
 (bd (qc (qa tab 26 v1 0) o10) fun v11 o11 =>
 bd (qc (qf tab o11 23 v11) o11) fun v12 o12=>
 bd (qn ⟨tab, qm, K⟩ o12 53 [v12]) fun v13 o13=>
 bd (gd v13 true (qc (qa tab 26 v1 3) o13) o13) fun v14 o14=>
 bd (gd v13 true (qc (qf tab o14 23 v14) o14) o14) fun v15 o15=>
 bd (gd v13 true (qn ⟨tab, qm, K⟩ o15 53 [v15]) o15) fun v16 o16=>
 bd (qc (qL v13 v16 (.v (.bool false))) o16) fun v17 o17=>
 bd (gd v17 true (qc (qa tab 26 v1 2) o17) o17) fun v18 o18=>
 bd (gd v17 true (qc (qf tab o18 4 v18) o18) o18) fun v19 o19=>
 bd (gd v17 true (some (v19, o19)) o19) fun v20 o20=>
 bd (gd v20 false (qc (qa tab 26 v1 3) o20) o20) fun v21 o21=>
 bd (gd v20 false (qc (qf tab o21 23 v21) o21) o21) fun v22 o22=>
 bd (gd v20 false (ze tab 23 o22 v22) o22) fun v23 o23=>
 bd (gd v20 false (qc (qw tab .eql 3 v23 (.v (.int .i64 0))) o23) o23) fun v24 o24=>
 bd (gd v17 true (qc (qL v20 (.v (.bool true)) v24) o24) o24) fun v25 o25=>
 bd (qc (qL v17 v25 (.v (.bool false))) o25) fun v26 o26=>
 zq tab nl o26 (qx (some v26) (some [])))
noncomputable def bk20_4 (K : zKT) (N nl : Nat) (m4 : Nat) : Env → List SO → Out := fun env os => q8 nl (qdm.lp 4) (fun env os nx => qA (cx K) N nl qdm (qM c20 [1, 1, 0, 1, 0, 0]) env os (qP nx (qu 0 (zu (qA (cx K) N nl qdm (qM c20 [1, 1, 1])) (qdm.jn 8) (qV tab [] nl rs20))))) m4 (zB (qdm.lp 4).alive env) os
noncomputable def qaS (K : zKT) (N nl : Nat) (m4 : Nat) (x0 x1 x5 : SV) (os : List SO) : Out := q8 nl (qdm.lp 4) (fun env os nx => qA (cx K) N nl qdm (qM c20 [1, 1, 0, 1, 0, 0]) env os (qP nx (qu 0 (zu (qA (cx K) N nl qdm (qM c20 [1, 1, 1])) (qdm.jn 8) (qV tab [] nl rs20))))) m4 [(0, x0), (1, x1), (5, x5)] os
noncomputable def qdB (K : zKT) (N nl : Nat) (m4 : Nat) (x0 x1 x5 : SV) (os : List SO) : Out :=
 bd (ze tab 24 os x0) fun v4 o4=>
 bd (qc (qw tab .lss 3 x5 v4) o4) fun v5 o5=>
 qE v5 (bd (qc (qj tab o5 24 x0 x5) o5) fun v6 o6 =>
 bd (qc (qf tab o6 3 v6) o6) fun v7 o7=>
 bd (qc (qj tab o7 24 x1 x5) o7) fun v8 o8=>
 bd (qc (qf tab o8 3 v8) o8) fun v9 o9=>
 bd (qc (qw tab .neq 3 v7 v9) o9) fun v10 o10=>
 qE v10 (zq tab nl o10 (qx (some (.v (.bool false))) (some [])))
 (bd (qc (qw tab .add 3 x5 (.v (.int .i64 1))) o10) fun v11 o11 =>
 qaS K N nl m4 x0 x1 v11 o11))
 (zq tab nl o5 (qx (some (.v (.bool true))) (some [])))
noncomputable def X20 (K : zKT) (N nl : Nat) (x0 x1 : SV) (os : List SO) : Out := qA (cx K) N nl qdm c20 [(0, x0), (1, x1)] os (qV tab [] nl rs20)
noncomputable def B20 (K : zKT) (N nl : Nat) (x0 x1 : SV) (os : List SO) : Out :=
 bd (ze tab 24 os x0) fun v1 o1=>
 bd (ze tab 24 o1 x1) fun v2 o2=>
 bd (qc (qw tab .neq 3 v1 v2) o2) fun v3 o3=>
 qE v3 (zq tab nl o3 (qx (some (.v (.bool false))) (some [])))
 (qaS K N nl N x0 x1 (.v (.int .i64 0)) o3)
noncomputable def JX (K : zKT) (N nl : Nat) (m5 : Nat) : Env → List SO → Out := fun env os => q8 nl (xL.lp 5) (fun env os nx => qA (cx K) N nl xL (qM c21 [1, 1, 1, 0, 1, 0, 0]) env os (qP nx (qu 0 (zu (qA (cx K) N nl xL (qM c21 [1, 1, 1, 1])) (xL.jn 13) (qV tab [] nl qi8))))) m5 (zB (xL.lp 5).alive env) os
noncomputable def bk21_8 (K : zKT) (N nl : Nat) (m5 : Nat) (m8 : Nat) : Env → List SO → Out := fun env os => q8 nl (xL.lp 8) (fun env os nx => qA (cx K) N nl xL (qM c21 [1, 1, 1, 0, 1, 0, 0, 1, 1, 0, 0, 1, 1, 0, 0]) env os (qP nx (qu 2 (qu 1 (zu (qA (cx K) N nl xL (qM c21 [1, 1, 1, 0, 1, 0, 0, 1, 1, 1])) (xL.jn 12) (qP (JX K N nl m5) (qu 0 (zu (qA (cx K) N nl xL (qM c21 [1, 1, 1, 1])) (xL.jn 13) (qV tab [] nl qi8))))))))) m8 (zB (xL.lp 8).alive env) os
noncomputable def Wi (K : zKT) (N nl : Nat) (m5 : Nat) (x3 x13 x14 x15 : SV) (os : List SO) : Out := q8 nl (xL.lp 5) (fun env os nx => qA (cx K) N nl xL (qM c21 [1, 1, 1, 0, 1, 0, 0]) env os (qP nx (qu 0 (zu (qA (cx K) N nl xL (qM c21 [1, 1, 1, 1])) (xL.jn 13) (qV tab [] nl qi8))))) m5 [(3, x3), (13, x13), (14, x14), (15, x15)] os
noncomputable def qaT (K : zKT) (N nl : Nat) (m5 : Nat) (xs : List SV) (os : List SO) : Out := (fun env os nx => qA (cx K) N nl xL (qM c21 [1, 1, 1, 0, 1, 0, 0]) env os (qP nx (qu 0 (zu (qA (cx K) N nl xL (qM c21 [1, 1, 1, 1])) (xL.jn 13) (qV tab [] nl qi8))))) (jX [3, 13, 14, 15] xs) os (JX K N nl m5)
noncomputable def qaU (K : zKT) (N nl : Nat) (m5 : Nat) (m8 : Nat) (x3 x13 x14 x15 x20 x21 x22 : SV) (os : List SO) : Out := q8 nl (xL.lp 8) (fun env os nx => qA (cx K) N nl xL (qM c21 [1, 1, 1, 0, 1, 0, 0, 1, 1, 0, 0, 1, 1, 0, 0]) env os (qP nx (qu 2 (qu 1 (zu (qA (cx K) N nl xL (qM c21 [1, 1, 1, 0, 1, 0, 0, 1, 1, 1])) (xL.jn 12) (qP (JX K N nl m5) (qu 0 (zu (qA (cx K) N nl xL (qM c21 [1, 1, 1, 1])) (xL.jn 13) (qV tab [] nl qi8))))))))) m8 [(3, x3), (13, x13), (14, x14), (15, x15), (20, x20), (21, x21), (22, x22)] os
noncomputable def qaV (K : zKT) (N nl : Nat) (m5 : Nat) (m8 : Nat) (xs : List SV) (os : List SO) : Out := (fun env os nx => qA (cx K) N nl xL (qM c21 [1, 1, 1, 0, 1, 0, 0, 1, 1, 0, 0, 1, 1, 0, 0]) env os (qP nx (qu 2 (qu 1 (zu (qA (cx K) N nl xL (qM c21 [1, 1, 1, 0, 1, 0, 0, 1, 1, 1])) (xL.jn 12) (qP (JX K N nl m5) (qu 0 (zu (qA (cx K) N nl xL (qM c21 [1, 1, 1, 1])) (xL.jn 13) (qV tab [] nl qi8))))))))) (jX [3, 13, 14, 15, 20, 21, 22] xs) os (bk21_8 K N nl m5 m8)
noncomputable def qdC (K : zKT) (N nl : Nat) (m5 : Nat) (x3 x13 x14 x15 : SV) (os : List SO) : Out :=
 bd (qc (qw tab .lss 3 x15 x14) os) fun v8 o8=>
 qE v8 (bd (qc (qj tab o8 23 x13 x15) o8) fun v9 o9 =>
 bd (qc (qf tab o9 47 v9) o9) fun v10 o10=>
 bd (qD tab o10 47) fun v11 o11=>
 bd (qp tab o11 47 v11 (some v10)) fun v12 o12=>
 bd (qc (qa tab 47 v11 2) o12) fun v13 o13=>
 bd (qc (qf tab o13 45 v13) o13) fun v14 o14=>
 bd (ze tab 45 o14 v14) fun v15 o15=>
 qaU K N nl m5 N x3 x13 x14 x15 v14 v15 (.v (.int .i64 0)) o15)
 (zq tab nl o8 (qx (some x3) (some [])))
noncomputable def qdD (K : zKT) (N nl : Nat) (m5 : Nat) (m8 : Nat) (x3 x13 x14 x15 x20 x21 x22 : SV) (os : List SO) : Out :=
 bd (qc (qw tab .lss 3 x22 x21) os) fun v16 o16=>
 qE v16 (bd (qc (qj tab o16 45 x20 x22) o16) fun v17 o17 =>
 bd (qc (qf tab o17 68 v17) o17) fun v18 o18=>
 bd (qD tab o18 68) fun v19 o19=>
 bd (qp tab o19 68 v19 (some v18)) fun v20 o20=>
 bd (qc (qa tab 68 v19 0) o20) fun v21 o21=>
 bd (qc (qf tab o21 3 v21) o21) fun v22 o22=>
 bd (qc (qa tab 68 v19 1) o22) fun v23 o23=>
 bd (qc (qf tab o23 3 v23) o23) fun v24 o24=>
 bd (qc (qj tab o24 24 x3 v22) o24) fun v25 o25=>
 bd (qp tab o25 3 v25 (some v24)) fun v26 o26=>
 bd (qc (qw tab .add 3 x22 (.v (.int .i64 1))) o26) fun v27 o27=>
 qaU K N nl m5 m8 x3 x13 x14 x15 x20 x21 v27 o27)
 (bd (qc (qw tab .add 3 x15 (.v (.int .i64 1))) o16) fun v28 o28 =>
 Wi K N nl m5 x3 x13 x14 v28 o28)
noncomputable def X21 (K : zKT) (N nl : Nat) (x0 : SV) (os : List SO) : Out := qA (cx K) N nl xL c21 [(0, x0)] os (qV tab [] nl qi8)
noncomputable def B21 (K : zKT) (N nl : Nat) (x0 : SV) (os : List SO) : Out :=
 bd (evN tab 24 os none) fun v1 o1=>
 bd (qn ⟨tab, qm, K⟩ o1 53 [x0]) fun v2 o2=>
 bd (qc (unS .not v2) o2) fun v3 o3=>
 qE v3 (bd (evN tab 24 o3 none) fun v4 o4 =>
 zq tab nl o4 (qx (some v4) (some [])))
 (bd (qv tab o3 24 1 [(0, (.v (.int .i64 (-1))))]) fun v5 o5 =>
 bd (qn ⟨tab, qm, K⟩ o5 49 [v5, (.v (.int .i64 6))]) fun v6 o6=>
 bd (ze tab 23 o6 x0) fun v7 o7=>
 Wi K N nl N v6 x0 v7 (.v (.int .i64 0)) o7)
noncomputable def X22 (K : zKT) (N nl : Nat) (x0 : SV) (os : List SO) : Out := qA (cx K) N nl fi22 c22 [(0, x0)] os (qV tab [0, 1, 3, 103] nl rs22)
noncomputable def B22 (K : zKT) (N nl : Nat) (x0 : SV) (os : List SO) : Out :=
 bd (qD tab os 26) fun v1 o1=>
 bd (qD tab o1 34) fun v2 o2=>
 bd (qn ⟨tab, qm, K⟩ o2 41 [x0]) fun v3 o3=>
 bd (qn ⟨tab, qm, K⟩ o3 42 [v3]) fun v4 o4=>
 bd (qc (ql v4 0) o4) fun v5 o5=>
 bd (qc (ql v4 1) o5) fun v6 o6=>
 bd (qD tab o6 26) fun v7 o7=>
 bd (qp tab o7 26 v7 (some v5)) fun v8 o8=>
 zQ (zv v7) <|
 bd (qc (qf tab o8 26 v7) o8) fun v9 o9=>
 zQ (zy ⟨tab, qm, K⟩ o9 (SV.fn 54 []) [v3, v6] [v7] false) <|
 bd (qn ⟨tab, qm, K⟩ o9 54 [v3, v6]) fun v10 o10=>
 bd (qp tab o10 26 v1 (some v9)) fun v11 o11=>
 bd (qp tab o11 34 v2 (some v10)) fun v12 o12=>
 kY tab [0, 1, 3, 103] nl o12 (qx (qf tab o12 26 v1) (qx (qf tab o12 34 v2) (some [])))
noncomputable def X23 (K : zKT) (N nl : Nat) (x0 x1 : SV) (os : List SO) : Out := qA (cx K) N nl fi23 c23 [(0, x0), (1, x1)] os (qV tab [0, 1, 3] nl rs23)
noncomputable def B23 (K : zKT) (N nl : Nat) (x0 x1 : SV) (os : List SO) : Out :=
 bd (wt tab os 26 (some x0)) fun v1 o1=>
 bd (wt tab o1 34 (some x1)) fun v2 o2=>
 bd (qD tab o2 26) fun v3 o3=>
 bd (qc (qf tab o3 26 v1) o3) fun v4 o4=>
 bd (qn ⟨tab, qm, K⟩ o4 27 [v4]) fun v5 o5=>
 bd (qc (unS .not v5) o5) fun v6 o6=>
 bd (gd v6 false (qc (qf tab o6 34 v2) o6) o6) fun v7 o7=>
 bd (gd v6 false (qn ⟨tab, qm, K⟩ o7 55 [v7]) o7) fun v8 o8=>
 bd (gd v6 false (qc (unS .not v8) o8) o8) fun v9 o9=>
 bd (qc (qL v6 (.v (.bool true)) v9) o9) fun v10 o10=>
 qE v10 (bd (zL tab o10 26 []) fun v11 o11 =>
 bd (qp tab o11 26 v3 (some v11)) fun v12 o12=>
 kY tab [0, 1, 3] nl o12 (qx (qf tab o12 26 v3) (qx (some (.v (.bool false))) (some []))))
 (bd (qc (qf tab o10 26 v1) o10) fun v13 o13 =>
 zQ (zy ⟨tab, qm, K⟩ o13 (SV.fn 57 []) [v13] [] true) <|
 bd (qn ⟨tab, qm, K⟩ o13 57 [v13]) fun v14 o14=>
 zQ (zv v2) <|
 bd (qc (qf tab o14 34 v2) o14) fun v15 o15=>
 bd (qn ⟨tab, qm, K⟩ o15 56 [v14, v15]) fun v16 o16=>
 bd (qp tab o16 26 v3 (some v16)) fun v17 o17=>
 kY tab [0, 1, 3] nl o17 (qx (qf tab o17 26 v3) (qx (some (.v (.bool true))) (some []))))
noncomputable def X24 (K : zKT) (N nl : Nat) (x0 x1 : SV) (os : List SO) : Out := qA (cx K) N nl fi24 c24 [(0, x0), (1, x1)] os (qV tab [0, 1, 3] nl rs24)
noncomputable def B24 (K : zKT) (N nl : Nat) (x0 x1 : SV) (os : List SO) : Out :=
 bd (wt tab os 26 (some x0)) fun v1 o1=>
 bd (wt tab o1 34 (some x1)) fun v2 o2=>
 bd (qD tab o2 26) fun v3 o3=>
 bd (qc (qf tab o3 26 v1) o3) fun v4 o4=>
 bd (qn ⟨tab, qm, K⟩ o4 19 [v4]) fun v5 o5=>
 bd (qc (unS .not v5) o5) fun v6 o6=>
 bd (gd v6 false (qc (qf tab o6 34 v2) o6) o6) fun v7 o7=>
 bd (gd v6 false (qn ⟨tab, qm, K⟩ o7 58 [v7]) o7) fun v8 o8=>
 bd (gd v6 false (qc (unS .not v8) o8) o8) fun v9 o9=>
 bd (qc (qL v6 (.v (.bool true)) v9) o9) fun v10 o10=>
 qE v10 (bd (zL tab o10 26 []) fun v11 o11 =>
 bd (qp tab o11 26 v3 (some v11)) fun v12 o12=>
 kY tab [0, 1, 3] nl o12 (qx (qf tab o12 26 v3) (qx (some (.v (.bool false))) (some []))))
 (bd (qc (qf tab o10 26 v1) o10) fun v13 o13 =>
 bd (qn ⟨tab, qm, K⟩ o13 59 [v13]) fun v14 o14=>
 bd (qD tab o14 26) fun v15 o15=>
 bd (qp tab o15 26 v15 (some v14)) fun v16 o16=>
 bd (qc (qf tab o16 34 v2) o16) fun v17 o17=>
 bd (qn ⟨tab, qm, K⟩ o17 60 [v15, v17]) fun v18 o18=>
 bd (qc (qf tab o18 26 v15) o18) fun v19 o19=>
 bd (qp tab o19 26 v3 (some v19)) fun v20 o20=>
 kY tab [0, 1, 3] nl o20 (qx (qf tab o20 26 v3) (qx (some (.v (.bool true))) (some []))))
noncomputable def X25 (K : zKT) (N nl : Nat) (x0 x1 : SV) (os : List SO) : Out := qA (cx K) N nl fi25 c25 [(0, x0), (1, x1)] os (qV tab [] nl rs25)
noncomputable def B25 (K : zKT) (N nl : Nat) (x0 x1 : SV) (os : List SO) : Out :=
 bd (wt tab os 26 (some x0)) fun v1 o1=>
 bd (wt tab o1 26 (some x1)) fun v2 o2=>
 bd (qc (qa tab 26 v1 0) o2) fun v3 o3=>
 bd (qc (qf tab o3 23 v3) o3) fun v4 o4=>
 bd (qc (qa tab 26 v2 0) o4) fun v5 o5=>
 bd (qc (qf tab o5 23 v5) o5) fun v6 o6=>
 bd (qn ⟨tab, qm, K⟩ o6 26 [v4, v6]) fun v7 o7=>
 bd (gd v7 true (qc (qa tab 26 v1 1) o7) o7) fun v8 o8=>
 bd (gd v7 true (qc (qf tab o8 24 v8) o8) o8) fun v9 o9=>
 bd (gd v7 true (qc (qa tab 26 v2 1) o9) o9) fun v10 o10=>
 bd (gd v7 true (qc (qf tab o10 24 v10) o10) o10) fun v11 o11=>
 bd (gd v7 true (qn ⟨tab, qm, K⟩ o11 20 [v9, v11]) o11) fun v12 o12=>
 bd (qc (qL v7 v12 (.v (.bool false))) o12) fun v13 o13=>
 bd (gd v13 true (qc (qa tab 26 v1 2) o13) o13) fun v14 o14=>
 bd (gd v13 true (qc (qf tab o14 4 v14) o14) o14) fun v15 o15=>
 bd (gd v13 true (qc (qa tab 26 v2 2) o15) o15) fun v16 o16=>
 bd (gd v13 true (qc (qf tab o16 4 v16) o16) o16) fun v17 o17=>
 bd (gd v13 true (qc (qw tab .eql 4 v15 v17) o17) o17) fun v18 o18=>
 bd (qc (qL v13 v18 (.v (.bool false))) o18) fun v19 o19=>
 bd (gd v19 true (qc (qa tab 26 v1 3) o19) o19) fun v20 o20=>
 bd (gd v19 true (qc (qf tab o20 23 v20) o20) o20) fun v21 o21=>
 bd (gd v19 true (qc (qa tab 26 v2 3) o21) o21) fun v22 o22=>
 bd (gd v19 true (qc (qf tab o22 23 v22) o22) o22) fun v23 o23=>
 bd (gd v19 true (qn ⟨tab, qm, K⟩ o23 26 [v21, v23]) o23) fun v24 o24=>
 bd (qc (qL v19 v24 (.v (.bool false))) o24) fun v25 o25=>
 zq tab nl o25 (qx (some v25) (some []))
noncomputable def bk26_4 (K : zKT) (N nl : Nat) (m4 : Nat) : Env → List SO → Out := fun env os => q8 nl (qdn.lp 4) (fun env os nx => qA (cx K) N nl qdn (qM c26 [1, 1, 0, 1, 0, 0]) env os (qP nx (qu 0 (zu (qA (cx K) N nl qdn (qM c26 [1, 1, 1])) (qdn.jn 8) (qV tab [] nl rs26))))) m4 (zB (qdn.lp 4).alive env) os
noncomputable def qaW (K : zKT) (N nl : Nat) (m4 : Nat) (x0 x1 x5 : SV) (os : List SO) : Out := q8 nl (qdn.lp 4) (fun env os nx => qA (cx K) N nl qdn (qM c26 [1, 1, 0, 1, 0, 0]) env os (qP nx (qu 0 (zu (qA (cx K) N nl qdn (qM c26 [1, 1, 1])) (qdn.jn 8) (qV tab [] nl rs26))))) m4 [(0, x0), (1, x1), (5, x5)] os
noncomputable def qdE (K : zKT) (N nl : Nat) (m4 : Nat) (x0 x1 x5 : SV) (os : List SO) : Out :=
 bd (ze tab 23 os x0) fun v4 o4=>
 bd (qc (qw tab .lss 3 x5 v4) o4) fun v5 o5=>
 qE v5 (bd (qc (qj tab o5 23 x0 x5) o5) fun v6 o6 =>
 bd (qc (qf tab o6 47 v6) o6) fun v7 o7=>
 bd (qc (qj tab o7 23 x1 x5) o7) fun v8 o8=>
 bd (qc (qf tab o8 47 v8) o8) fun v9 o9=>
 bd (qn ⟨tab, qm, K⟩ o9 61 [v7, v9]) fun v10 o10=>
 bd (qc (unS .not v10) o10) fun v11 o11=>
 qE v11 (zq tab nl o11 (qx (some (.v (.bool false))) (some [])))
 (bd (qc (qw tab .add 3 x5 (.v (.int .i64 1))) o11) fun v12 o12 =>
 qaW K N nl m4 x0 x1 v12 o12))
 (zq tab nl o5 (qx (some (.v (.bool true))) (some [])))
noncomputable def X26 (K : zKT) (N nl : Nat) (x0 x1 : SV) (os : List SO) : Out := qA (cx K) N nl qdn c26 [(0, x0), (1, x1)] os (qV tab [] nl rs26)
noncomputable def B26 (K : zKT) (N nl : Nat) (x0 x1 : SV) (os : List SO) : Out :=
 bd (ze tab 23 os x0) fun v1 o1=>
 bd (ze tab 23 o1 x1) fun v2 o2=>
 bd (qc (qw tab .neq 3 v1 v2) o2) fun v3 o3=>
 qE v3 (zq tab nl o3 (qx (some (.v (.bool false))) (some [])))
 (qaW K N nl N x0 x1 (.v (.int .i64 0)) o3)
noncomputable def bk27_2 (K : zKT) (N nl : Nat) (m2 : Nat) : Env → List SO → Out := fun env os => q8 nl (qdo.lp 2) (fun env os nx => qA (cx K) N nl qdo (qM c27 [1, 0, 1, 0, 0]) env os (qP nx (qu 0 (zu (qA (cx K) N nl qdo (qM c27 [1, 1])) (qdo.jn 6) (qV tab [] nl rs27))))) m2 (zB (qdo.lp 2).alive env) os
noncomputable def qaX (K : zKT) (N nl : Nat) (m2 : Nat) (x1 x3 : SV) (os : List SO) : Out := q8 nl (qdo.lp 2) (fun env os nx => qA (cx K) N nl qdo (qM c27 [1, 0, 1, 0, 0]) env os (qP nx (qu 0 (zu (qA (cx K) N nl qdo (qM c27 [1, 1])) (qdo.jn 6) (qV tab [] nl rs27))))) m2 [(1, x1), (3, x3)] os
noncomputable def qdF (K : zKT) (N nl : Nat) (m2 : Nat) (x1 x3 : SV) (os : List SO) : Out :=
 bd (qc (qa tab 26 x1 1) os) fun v2 o2=>
 bd (qc (qf tab o2 24 v2) o2) fun v3 o3=>
 bd (ze tab 24 o3 v3) fun v4 o4=>
 bd (qc (qw tab .lss 3 x3 v4) o4) fun v5 o5=>
 qE v5 (bd (qc (qa tab 26 x1 1) o5) fun v6 o6 =>
 bd (qc (qf tab o6 24 v6) o6) fun v7 o7=>
 bd (qc (qj tab o7 24 v7 x3) o7) fun v8 o8=>
 bd (qc (qf tab o8 3 v8) o8) fun v9 o9=>
 bd (qn ⟨tab, qm, K⟩ o9 62 [v9, (.v (.int .i64 (-2))), (.v (.int .i64 9))]) fun v10 o10=>
 bd (qc (unS .not v10) o10) fun v11 o11=>
 qE v11 (zq tab nl o11 (qx (some (.v (.bool false))) (some [])))
 (bd (qc (qw tab .add 3 x3 (.v (.int .i64 1))) o11) fun v12 o12 =>
 qaX K N nl m2 x1 v12 o12))
 (bd (qc (qa tab 26 x1 1) o5) fun v13 o13 =>
 bd (qc (qf tab o13 24 v13) o13) fun v14 o14=>
 bd (ze tab 24 o14 v14) fun v15 o15=>
 bd (qc (qw tab .eql 3 v15 (.v (.int .i64 6))) o15) fun v16 o16=>
 bd (gd v16 true (qc (qa tab 26 x1 0) o16) o16) fun v17 o17=>
 bd (gd v16 true (qc (qf tab o17 23 v17) o17) o17) fun v18 o18=>
 bd (gd v16 true (qn ⟨tab, qm, K⟩ o18 63 [v18]) o18) fun v19 o19=>
 bd (qc (qL v16 v19 (.v (.bool false))) o19) fun v20 o20=>
 bd (gd v20 true (qc (qa tab 26 x1 3) o20) o20) fun v21 o21=>
 bd (gd v20 true (qc (qf tab o21 23 v21) o21) o21) fun v22 o22=>
 bd (gd v20 true (qn ⟨tab, qm, K⟩ o22 63 [v22]) o22) fun v23 o23=>
 bd (qc (qL v20 v23 (.v (.bool false))) o23) fun v24 o24=>
 bd (gd v24 true (qc (qa tab 26 x1 2) o24) o24) fun v25 o25=>
 bd (gd v24 true (qc (qf tab o25 4 v25) o25) o25) fun v26 o26=>
 bd (gd v24 true (some (v26, o26)) o26) fun v27 o27=>
 bd (gd v27 false (qc (qa tab 26 x1 3) o27) o27) fun v28 o28=>
 bd (gd v27 false (qc (qf tab o28 23 v28) o28) o28) fun v29 o29=>
 bd (gd v27 false (ze tab 23 o29 v29) o29) fun v30 o30=>
 bd (gd v27 false (qc (qw tab .eql 3 v30 (.v (.int .i64 0))) o30) o30) fun v31 o31=>
 bd (gd v24 true (qc (qL v27 (.v (.bool true)) v31) o31) o31) fun v32 o32=>
 bd (qc (qL v24 v32 (.v (.bool false))) o32) fun v33 o33=>
 zq tab nl o33 (qx (some v33) (some [])))
noncomputable def X27 (K : zKT) (N nl : Nat) (x0 : SV) (os : List SO) : Out := qA (cx K) N nl qdo c27 [(0, x0)] os (qV tab [] nl rs27)
noncomputable def B27 (K : zKT) (N nl : Nat) (x0 : SV) (os : List SO) : Out :=
 bd (wt tab os 26 (some x0)) fun v1 o1=>
 qaX K N nl N v1 (.v (.int .i64 0)) o1
noncomputable def X28 (K : zKT) (N nl : Nat) (x0 x1 : SV) (os : List SO) : Out := qA (cx K) N nl fi28 c28 [(0, x0), (1, x1)] os (qV tab [0, 1, 3] nl rs28)
noncomputable def B28 (K : zKT) (N nl : Nat) (x0 x1 : SV) (os : List SO) : Out :=
 bd (wt tab os 26 (some x0)) fun v1 o1=>
 bd (wt tab o1 34 (some x1)) fun v2 o2=>
 bd (qD tab o2 26) fun v3 o3=>
 bd (qc (qf tab o3 26 v1) o3) fun v4 o4=>
 bd (qn ⟨tab, qm, K⟩ o4 19 [v4]) fun v5 o5=>
 bd (qc (unS .not v5) o5) fun v6 o6=>
 bd (gd v6 false (qc (qf tab o6 34 v2) o6) o6) fun v7 o7=>
 bd (gd v6 false (qn ⟨tab, qm, K⟩ o7 58 [v7]) o7) fun v8 o8=>
 bd (gd v6 false (qc (unS .not v8) o8) o8) fun v9 o9=>
 bd (qc (qL v6 (.v (.bool true)) v9) o9) fun v10 o10=>
 qE v10 (bd (zL tab o10 26 []) fun v11 o11 =>
 bd (qp tab o11 26 v3 (some v11)) fun v12 o12=>
 kY tab [0, 1, 3] nl o12 (qx (qf tab o12 26 v3) (qx (some (.v (.bool false))) (some []))))
 (bd (qc (qf tab o10 26 v1) o10) fun v13 o13 =>
 bd (qn ⟨tab, qm, K⟩ o13 59 [v13]) fun v14 o14=>
 bd (qD tab o14 26) fun v15 o15=>
 bd (qp tab o15 26 v15 (some v14)) fun v16 o16=>
 bd (qc (qf tab o16 34 v2) o16) fun v17 o17=>
 bd (qn ⟨tab, qm, K⟩ o17 64 [v15, v17]) fun v18 o18=>
 bd (qc (qf tab o18 26 v15) o18) fun v19 o19=>
 bd (qp tab o19 26 v3 (some v19)) fun v20 o20=>
 kY tab [0, 1, 3] nl o20 (qx (qf tab o20 26 v3) (qx (some (.v (.bool true))) (some []))))
noncomputable def X29 (K : zKT) (N nl : Nat) (x0 : SV) (os : List SO) : Out := qA (cx K) N nl fi29 c29 [(0, x0)] os (qV tab [0, 1, 3, 103] nl rs29)
noncomputable def B29 (K : zKT) (N nl : Nat) (x0 : SV) (os : List SO) : Out :=
 bd (qD tab os 26) fun v1 o1=>
 bd (qD tab o1 34) fun v2 o2=>
 bd (qn ⟨tab, qm, K⟩ o2 22 [x0]) fun v3 o3=>
 bd (qc (ql v3 0) o3) fun v4 o4=>
 bd (qc (ql v3 1) o4) fun v5 o5=>
 bd (qp tab o5 26 v1 (some v4)) fun v6 o6=>
 bd (qp tab o6 34 v2 (some v5)) fun v7 o7=>
 kY tab [0, 1, 3, 103] nl o7 (qx (qf tab o7 26 v1) (qx (qf tab o7 34 v2) (some [])))
noncomputable def X30 (K : zKT) (N nl : Nat) (x0 x1 : SV) (os : List SO) : Out := qA (cx K) N nl fi30 c30 [(0, x0), (1, x1)] os (qV tab [0, 1, 3] nl rs30)
noncomputable def B30 (K : zKT) (N nl : Nat) (x0 x1 : SV) (os : List SO) : Out :=
 bd (wt tab os 26 (some x0)) fun v1 o1=>
 bd (wt tab o1 34 (some x1)) fun v2 o2=>
 bd (qD tab o2 26) fun v3 o3=>
 bd (qc (qf tab o3 26 v1) o3) fun v4 o4=>
 bd (qn ⟨tab, qm, K⟩ o4 27 [v4]) fun v5 o5=>
 bd (qc (unS .not v5) o5) fun v6 o6=>
 bd (gd v6 false (qc (qf tab o6 34 v2) o6) o6) fun v7 o7=>
 bd (gd v6 false (qn ⟨tab, qm, K⟩ o7 55 [v7]) o7) fun v8 o8=>
 bd (gd v6 false (qc (unS .not v8) o8) o8) fun v9 o9=>
 bd (qc (qL v6 (.v (.bool true)) v9) o9) fun v10 o10=>
 qE v10 (bd (zL tab o10 26 []) fun v11 o11 =>
 bd (qp tab o11 26 v3 (some v11)) fun v12 o12=>
 kY tab [0, 1, 3] nl o12 (qx (qf tab o12 26 v3) (qx (some (.v (.bool false))) (some []))))
 (bd (qc (qf tab o10 26 v1) o10) fun v13 o13 =>
 zQ (zy ⟨tab, qm, K⟩ o13 (SV.fn 57 []) [v13] [] true) <|
 bd (qn ⟨tab, qm, K⟩ o13 57 [v13]) fun v14 o14=>
 zQ (zv v2) <|
 bd (qc (qf tab o14 34 v2) o14) fun v15 o15=>
 bd (qn ⟨tab, qm, K⟩ o15 65 [v14, v15]) fun v16 o16=>
 bd (qp tab o16 26 v3 (some v16)) fun v17 o17=>
 kY tab [0, 1, 3] nl o17 (qx (qf tab o17 26 v3) (qx (some (.v (.bool true))) (some []))))
noncomputable def bk31_4 (K : zKT) (N nl : Nat) (m4 : Nat) : Env → List SO → Out := fun env os => q8 nl (JR.lp 4) (fun env os nx => qA (cx K) N nl JR (qM c31 [1, 1, 1, 0, 1, 0, 0]) env os (qP nx (qu 0 (zu (qA (cx K) N nl JR (qM c31 [1, 1, 1, 1])) (JR.jn 7) (qV tab [0, 1, 3] nl rs31))))) m4 (zB (JR.lp 4).alive env) os
noncomputable def qaY (K : zKT) (N nl : Nat) (m4 : Nat) (x2 x3 x4 x6 : SV) (os : List SO) : Out := q8 nl (JR.lp 4) (fun env os nx => qA (cx K) N nl JR (qM c31 [1, 1, 1, 0, 1, 0, 0]) env os (qP nx (qu 0 (zu (qA (cx K) N nl JR (qM c31 [1, 1, 1, 1])) (JR.jn 7) (qV tab [0, 1, 3] nl rs31))))) m4 [(2, x2), (3, x3), (4, x4), (6, x6)] os
noncomputable def qaZ (K : zKT) (N nl : Nat) (m4 : Nat) (xs : List SV) (os : List SO) : Out := (fun env os nx => qA (cx K) N nl JR (qM c31 [1, 1, 1, 0, 1, 0, 0]) env os (qP nx (qu 0 (zu (qA (cx K) N nl JR (qM c31 [1, 1, 1, 1])) (JR.jn 7) (qV tab [0, 1, 3] nl rs31))))) (jX [2, 3, 4, 6] xs) os (bk31_4 K N nl m4)
noncomputable def qdG (K : zKT) (N nl : Nat) (m4 : Nat) (x2 x3 x4 x6 : SV) (os : List SO) : Out :=
 bd (qc (qw tab .lss 3 x6 (.v (.int .i64 4))) os) fun v8 o8=>
 bd (gd v8 true (qc (qa tab 26 x4 2) o8) o8) fun v9 o9=>
 bd (gd v8 true (qc (qf tab o9 4 v9) o9) o9) fun v10 o10=>
 bd (gd v8 true (qc (unS .not v10) o10) o10) fun v11 o11=>
 bd (qc (qL v8 v11 (.v (.bool false))) o11) fun v12 o12=>
 bd (gd v12 true (some (x3, o12)) o12) fun v13 o13=>
 bd (gd v12 true (qn ⟨tab, qm, K⟩ o13 43 [v13, (.v (.int .i64 6))]) o13) fun v14 o14=>
 bd (gd v12 true (qc (qw tab .gtr 3 v14 (.v (.int .i64 0))) o14) o14) fun v15 o15=>
 bd (qc (qL v12 v15 (.v (.bool false))) o15) fun v16 o16=>
 qE v16 (bd (qn ⟨tab, qm, K⟩ o16 42 [x3]) fun v17 o17 =>
 bd (qc (ql v17 0) o17) fun v18 o18=>
 bd (qc (ql v17 1) o18) fun v19 o19=>
 bd (qp tab o19 26 x4 (some v18)) fun v20 o20=>
 bd (qc (qw tab .add 3 x6 (.v (.int .i64 1))) o20) fun v21 o21=>
 qaY K N nl m4 x2 x3 x4 v21 o21)
 (bd (qc (qf tab o16 26 x4) o16) fun v22 o22 =>
 bd (qp tab o22 26 x2 (some v22)) fun v23 o23=>
 kY tab [0, 1, 3] nl o23 (qx (qf tab o23 26 x2) (some [])))
noncomputable def X31 (K : zKT) (N nl : Nat) (x0 : SV) (os : List SO) : Out := qA (cx K) N nl JR c31 [(0, x0)] os (qV tab [0, 1, 3] nl rs31)
noncomputable def B31 (K : zKT) (N nl : Nat) (x0 : SV) (os : List SO) : Out :=
 bd (qD tab os 26) fun v1 o1=>
 bd (qn ⟨tab, qm, K⟩ o1 41 [x0]) fun v2 o2=>
 bd (qn ⟨tab, qm, K⟩ o2 42 [v2]) fun v3 o3=>
 bd (qc (ql v3 0) o3) fun v4 o4=>
 bd (qc (ql v3 1) o4) fun v5 o5=>
 bd (qD tab o5 26) fun v6 o6=>
 bd (qp tab o6 26 v6 (some v4)) fun v7 o7=>
 qaY K N nl N v1 v2 v6 (.v (.int .i64 0)) o7
noncomputable def X32 (K : zKT) (N nl : Nat) (x0 : SV) (os : List SO) : Out := qA (cx K) N nl fi32 c32 [(0, x0)] os (qV tab [0] nl rs32)
noncomputable def B32 (K : zKT) (N nl : Nat) (x0 : SV) (os : List SO) : Out :=
 bd (wt tab os 26 (some x0)) fun v1 o1=>
 bd (evN tab 48 o1 none) fun v2 o2=>
 bd (qc (qf tab o2 26 v1) o2) fun v3 o3=>
 bd (qn ⟨tab, qm, K⟩ o3 19 [v3]) fun v4 o4=>
 bd (qc (unS .not v4) o4) fun v5 o5=>
 bd (gd v5 false (qc (qa tab 26 v1 2) o5) o5) fun v6 o6=>
 bd (gd v5 false (qc (qf tab o6 4 v6) o6) o6) fun v7 o7=>
 bd (gd v5 false (qc (unS .not v7) o7) o7) fun v8 o8=>
 bd (qc (qL v5 (.v (.bool true)) v8) o8) fun v9 o9=>
 qE v9 (bd (evN tab 48 o9 none) fun v10 o10 =>
 kY tab [0] nl o10 (qx (some v10) (some [])))
 (bd (qc (qf tab o9 26 v1) o9) fun v11 o11 =>
 bd (qc (qa tab 26 v1 3) o11) fun v12 o12=>
 bd (qc (qf tab o12 23 v12) o12) fun v13 o13=>
 bd (qn ⟨tab, qm, K⟩ o13 67 [v11, v13]) fun v14 o14=>
 bd (qn ⟨tab, qm, K⟩ o14 66 [v14]) fun v15 o15=>
 kY tab [0] nl o15 (qx (some v15) (some [])))
noncomputable def X33 (K : zKT) (N nl : Nat) (x0 : SV) (os : List SO) : Out := qA (cx K) N nl fi33 c33 [(0, x0)] os (qV tab [0] nl rs33)
noncomputable def B33 (K : zKT) (N nl : Nat) (x0 : SV) (os : List SO) : Out :=
 bd (wt tab os 26 (some x0)) fun v1 o1=>
 bd (evN tab 48 o1 none) fun v2 o2=>
 bd (qc (qf tab o2 26 v1) o2) fun v3 o3=>
 bd (qn ⟨tab, qm, K⟩ o3 27 [v3]) fun v4 o4=>
 bd (qc (unS .not v4) o4) fun v5 o5=>
 qE v5 (bd (qv tab o5 48 0 []) fun v6 o6 =>
 kY tab [0] nl o6 (qx (some v6) (some [])))
 (bd (qc (qf tab o5 26 v1) o5) fun v7 o7 =>
 bd (qn ⟨tab, qm, K⟩ o7 45 [v7]) fun v8 o8=>
 kY tab [0] nl o8 (qx (some v8) (some [])))
noncomputable def qgv (K : zKT) (N nl : Nat) (x2 x6 x7 x8 x9 : SV) (os : List SO) : Out := qA (cx K) N nl fi34 (qM c34 [1, 1, 1, 1, 1]) [(2, x2), (6, x6), (7, x7), (8, x8), (9, x9)] os (qV tab [0, 1, 3, 100] nl rs34)
noncomputable def qgw (K : zKT) (N nl : Nat) (x2 x6 x7 x9 : SV) (os : List SO) : Out := qA (cx K) N nl fi34 (qM c34 [1, 1, 1, 1, 1, 1]) [(2, x2), (6, x6), (7, x7), (9, x9)] os (qV tab [0, 1, 3, 100] nl rs34)
noncomputable def qdH (K : zKT) (N nl : Nat) (x2 x6 x7 x8 x9 : SV) (os : List SO) : Out :=
 bd (qn ⟨tab, qm, K⟩ os 43 [x6, (.v (.int .i64 8))]) fun v14 o14=>
 bd (qc (qw tab .eql 3 v14 (.v (.int .i64 0))) o14) fun v15 o15=>
 qE v15 (bd (qn ⟨tab, qm, K⟩ o15 54 [x6, x8]) fun v16 o16 =>
 bd (qv tab o16 48 1 [(0, v16)]) fun v17 o17=>
 bd (zx tab o17 48 48 x9 v17) fun v18 o18=>
 qgw K N nl x2 x6 x7 v18 o18)
 (qgw K N nl x2 x6 x7 x9 o15)
noncomputable def qdI (K : zKT) (N nl : Nat) (x2 x6 x7 x9 : SV) (os : List SO) : Out :=
 zQ (zv x7) <|
 bd (qc (qf tab os 26 x7) os) fun v19 o19=>
 bd (ze tab 48 o19 x9) fun v20 o20=>
 bd (qc (qw tab .add 3 v20 (.v (.int .i64 2))) o20) fun v21 o21=>
 zQ (zy ⟨tab, qm, K⟩ o21 (SV.fn 43 []) [x6, v21] [x7] false) <|
 bd (qn ⟨tab, qm, K⟩ o21 43 [x6, v21]) fun v22 o22=>
 zQ (zy ⟨tab, qm, K⟩ o22 (SV.fn 43 []) [x6, (.v (.int .i64 24))] [x7] false) <|
 bd (qn ⟨tab, qm, K⟩ o22 43 [x6, (.v (.int .i64 24))]) fun v23 o23=>
 bd (qc (qw tab .quo 3 v23 (.v (.int .i64 23))) o23) fun v24 o24=>
 bd (qc (qw tab .mul 3 v24 (.v (.int .i64 9))) o24) fun v25 o25=>
 bd (qc (qw tab .sub 3 v22 v25) o25) fun v26 o26=>
 zQ (zy ⟨tab, qm, K⟩ o26 (SV.fn 43 []) [x6, (.v (.int .i64 2))] [x7] false) <|
 bd (qn ⟨tab, qm, K⟩ o26 43 [x6, (.v (.int .i64 2))]) fun v27 o27=>
 bd (qc (qw tab .eql 3 v27 (.v (.int .i64 0))) o27) fun v28 o28=>
 bd (qp tab o28 26 x2 (some v19)) fun v29 o29=>
 kY tab [0, 1, 3, 100] nl o29 (qx (qf tab o29 26 x2) (qx (some x9) (qx (some v26) (qx (some v28) (some [])))))
noncomputable def X34 (K : zKT) (N nl : Nat) (x0 : SV) (os : List SO) : Out := qA (cx K) N nl fi34 c34 [(0, x0)] os (qV tab [0, 1, 3, 100] nl rs34)
noncomputable def B34 (K : zKT) (N nl : Nat) (x0 : SV) (os : List SO) : Out :=
 bd (qD tab os 26) fun v1 o1=>
 bd (evN tab 48 o1 none) fun v2 o2=>
 bd (qn ⟨tab, qm, K⟩ o2 41 [x0]) fun v3 o3=>
 bd (qn ⟨tab, qm, K⟩ o3 42 [v3]) fun v4 o4=>
 bd (qc (ql v4 0) o4) fun v5 o5=>
 bd (qc (ql v4 1) o5) fun v6 o6=>
 bd (qD tab o6 26) fun v7 o7=>
 bd (qp tab o7 26 v7 (some v5)) fun v8 o8=>
 bd (qv tab o8 48 0 []) fun v9 o9=>
 bd (qc (qf tab o9 26 v7) o9) fun v10 o10=>
 bd (qn ⟨tab, qm, K⟩ o10 27 [v10]) fun v11 o11=>
 qE v11 (bd (qc (qf tab o11 26 v7) o11) fun v12 o12 =>
 bd (qn ⟨tab, qm, K⟩ o12 68 [v12, v6]) fun v13 o13=>
 qgv K N nl v1 v3 v7 v6 v13 o13)
 (qgv K N nl v1 v3 v7 v6 v9 o11)
noncomputable def bk35_2 (K : zKT) (N nl : Nat) (m2 : Nat) : Env → List SO → Out := fun env os => q8 nl (JS.lp 2) (fun env os nx => qA (cx K) N nl JS (qM c35 [1, 0, 1, 0, 0]) env os (qP nx (qu 0 (zu (qA (cx K) N nl JS (qM c35 [1, 1])) (JS.jn 6) (qV tab [0, 1, 3] nl rs35))))) m2 (zB (JS.lp 2).alive env) os
noncomputable def qa0 (K : zKT) (N nl : Nat) (m2 : Nat) (x1 x2 x3 x4 x8 x10 : SV) (os : List SO) : Out := q8 nl (JS.lp 2) (fun env os nx => qA (cx K) N nl JS (qM c35 [1, 0, 1, 0, 0]) env os (qP nx (qu 0 (zu (qA (cx K) N nl JS (qM c35 [1, 1])) (JS.jn 6) (qV tab [0, 1, 3] nl rs35))))) m2 [(1, x1), (2, x2), (3, x3), (4, x4), (8, x8), (10, x10)] os
noncomputable def qa1 (K : zKT) (N nl : Nat) (m2 : Nat) (xs : List SV) (os : List SO) : Out := (fun env os nx => qA (cx K) N nl JS (qM c35 [1, 0, 1, 0, 0]) env os (qP nx (qu 0 (zu (qA (cx K) N nl JS (qM c35 [1, 1])) (JS.jn 6) (qV tab [0, 1, 3] nl rs35))))) (jX [1, 2, 3, 4, 8, 10] xs) os (bk35_2 K N nl m2)
noncomputable def Ki (K : zKT) (N nl : Nat) (m2 : Nat) (x1 x2 x3 x4 x8 x10 : SV) (os : List SO) : Out :=
 bd (ze tab 48 os x1) fun v3 o3=>
 bd (qc (qw tab .lss 3 x10 v3) o3) fun v4 o4=>
 qE v4 (bd (qc (qj tab o4 48 x1 x10) o4) fun v5 o5 =>
 bd (qc (qf tab o5 34 v5) o5) fun v6 o6=>
 bd (qn ⟨tab, qm, K⟩ o6 55 [v6]) fun v7 o7=>
 bd (qc (unS .not v7) o7) fun v8 o8=>
 qE v8 (bd (zL tab o8 26 []) fun v9 o9 =>
 bd (qp tab o9 26 x8 (some v9)) fun v10 o10=>
 kY tab [0, 1, 3] nl o10 (qx (qf tab o10 26 x8) (qx (some (.v (.bool false))) (some []))))
 (bd (qc (qw tab .add 3 x10 (.v (.int .i64 1))) o8) fun v11 o11 =>
 qa0 K N nl m2 x1 x2 x3 x4 x8 v11 o11))
 (bd (qc (qf tab o4 26 x4) o4) fun v12 o12 =>
 bd (qn ⟨tab, qm, K⟩ o12 27 [v12]) fun v13 o13=>
 bd (qc (unS .not v13) o13) fun v14 o14=>
 bd (gd v14 false (some (x2, o14)) o14) fun v15 o15=>
 bd (gd v14 false (qc (qw tab .lss 3 v15 (.v (.int .i64 0))) o15) o15) fun v16 o16=>
 bd (qc (qL v14 (.v (.bool true)) v16) o16) fun v17 o17=>
 qE v17 (bd (zL tab o17 26 []) fun v18 o18 =>
 bd (qp tab o18 26 x8 (some v18)) fun v19 o19=>
 kY tab [0, 1, 3] nl o19 (qx (qf tab o19 26 x8) (qx (some (.v (.bool false))) (some []))))
 (bd (qc (qf tab o17 26 x4) o17) fun v20 o20 =>
 bd (qn ⟨tab, qm, K⟩ o20 57 [v20]) fun v21 o21=>
 bd (qn ⟨tab, qm, K⟩ o21 44 [v21, x1, x2, x3]) fun v22 o22=>
 bd (qp tab o22 26 x8 (some v22)) fun v23 o23=>
 kY tab [0, 1, 3] nl o23 (qx (qf tab o23 26 x8) (qx (some (.v (.bool true))) (some [])))))
noncomputable def X35 (K : zKT) (N nl : Nat) (x0 x1 x2 x3 : SV) (os : List SO) : Out := qA (cx K) N nl JS c35 [(0, x0), (1, x1), (2, x2), (3, x3)] os (qV tab [0, 1, 3] nl rs35)
noncomputable def B35 (K : zKT) (N nl : Nat) (x0 x1 x2 x3 : SV) (os : List SO) : Out :=
 bd (wt tab os 26 (some x0)) fun v1 o1=>
 bd (qD tab o1 26) fun v2 o2=>
 qa0 K N nl N x1 x2 x3 v1 v2 (.v (.int .i64 0)) o2
noncomputable def bk36_6 (K : zKT) (N nl : Nat) (m6 : Nat) : Env → List SO → Out := fun env os => q8 nl (Xi.lp 6) (fun env os nx => qA (cx K) N nl Xi (qM c36 [1, 1, 1, 1, 0, 1, 0, 0]) env os (qP nx (qu 0 (zu (qA (cx K) N nl Xi (qM c36 [1, 1, 1, 1, 1])) (Xi.jn 10) (qV tab [0, 1, 3] nl rs36))))) m6 (zB (Xi.lp 6).alive env) os
noncomputable def qa2 (K : zKT) (N nl : Nat) (m6 : Nat) (x1 x2 x3 x8 x10 x33 x34 x35 : SV) (os : List SO) : Out := q8 nl (Xi.lp 6) (fun env os nx => qA (cx K) N nl Xi (qM c36 [1, 1, 1, 1, 0, 1, 0, 0]) env os (qP nx (qu 0 (zu (qA (cx K) N nl Xi (qM c36 [1, 1, 1, 1, 1])) (Xi.jn 10) (qV tab [0, 1, 3] nl rs36))))) m6 [(1, x1), (2, x2), (3, x3), (8, x8), (10, x10), (33, x33), (34, x34), (35, x35)] os
noncomputable def qa3 (K : zKT) (N nl : Nat) (m6 : Nat) (xs : List SV) (os : List SO) : Out := (fun env os nx => qA (cx K) N nl Xi (qM c36 [1, 1, 1, 1, 0, 1, 0, 0]) env os (qP nx (qu 0 (zu (qA (cx K) N nl Xi (qM c36 [1, 1, 1, 1, 1])) (Xi.jn 10) (qV tab [0, 1, 3] nl rs36))))) (jX [1, 2, 3, 8, 10, 33, 34, 35] xs) os (bk36_6 K N nl m6)
noncomputable def JY (K : zKT) (N nl : Nat) (x8 x10 : SV) (os : List SO) : Out := qA (cx K) N nl Xi (qM c36 [1, 1, 1, 1, 1, 1]) [(8, x8), (10, x10)] os (qV tab [0, 1, 3] nl rs36)
noncomputable def qdJ (K : zKT) (N nl : Nat) (m6 : Nat) (x1 x2 x3 x8 x10 x33 x34 x35 : SV) (os : List SO) : Out :=
 bd (qc (qw tab .lss 3 x35 x34) os) fun v22 o22=>
 qE v22 (bd (qc (qj tab o22 48 x33 x35) o22) fun v23 o23 =>
 bd (qc (qf tab o23 34 v23) o23) fun v24 o24=>
 bd (qD tab o24 34) fun v25 o25=>
 bd (qp tab o25 34 v25 (some v24)) fun v26 o26=>
 bd (qc (qf tab o26 34 v25) o26) fun v27 o27=>
 bd (qn ⟨tab, qm, K⟩ o27 60 [x10, v27]) fun v28 o28=>
 bd (qc (qw tab .add 3 x35 (.v (.int .i64 1))) o28) fun v29 o29=>
 qa2 K N nl m6 x1 x2 x3 x8 x10 x33 x34 v29 o29)
 (bd (gd x3 true (some (x2, o22)) o22) fun v30 o30 =>
 bd (gd x3 true (some (x1, o30)) o30) fun v31 o31=>
 bd (gd x3 true (ze tab 48 o31 v31) o31) fun v32 o32=>
 bd (gd x3 true (qc (qw tab .lss 3 v30 v32) o32) o32) fun v33 o33=>
 bd (qc (qL x3 v33 (.v (.bool false))) o33) fun v34 o34=>
 qE v34 (bd (qc (qj tab o34 48 x1 x2) o34) fun v35 o35 =>
 bd (qc (qf tab o35 34 v35) o35) fun v36 o36=>
 bd (qn ⟨tab, qm, K⟩ o36 64 [x10, v36]) fun v37 o37=>
 JY K N nl x8 x10 o37)
 (JY K N nl x8 x10 o34))
noncomputable def Xu (K : zKT) (N nl : Nat) (x8 x10 : SV) (os : List SO) : Out :=
 bd (qc (qf tab os 26 x10) os) fun v38 o38=>
 bd (qp tab o38 26 x8 (some v38)) fun v39 o39=>
 kY tab [0, 1, 3] nl o39 (qx (qf tab o39 26 x8) (qx (some (.v (.bool true))) (some [])))
noncomputable def X36 (K : zKT) (N nl : Nat) (x0 x1 x2 x3 : SV) (os : List SO) : Out := qA (cx K) N nl Xi c36 [(0, x0), (1, x1), (2, x2), (3, x3)] os (qV tab [0, 1, 3] nl rs36)
noncomputable def B36 (K : zKT) (N nl : Nat) (x0 x1 x2 x3 : SV) (os : List SO) : Out :=
 bd (wt tab os 26 (some x0)) fun v1 o1=>
 bd (qD tab o1 26) fun v2 o2=>
 bd (qc (qf tab o2 26 v1) o2) fun v3 o3=>
 bd (qn ⟨tab, qm, K⟩ o3 19 [v3]) fun v4 o4=>
 bd (qc (unS .not v4) o4) fun v5 o5=>
 bd (gd v5 false (some (x2, o5)) o5) fun v6 o6=>
 bd (gd v5 false (qc (qw tab .lss 3 v6 (.v (.int .i64 0))) o6) o6) fun v7 o7=>
 bd (qc (qL v5 (.v (.bool true)) v7) o7) fun v8 o8=>
 bd (gd v8 false (some (x1, o8)) o8) fun v9 o9=>
 bd (gd v8 false (qn ⟨tab, qm, K⟩ o9 69 [v9, (SV.fn 70 [])]) o9) fun v10 o10=>
 bd (qc (qL v8 (.v (.bool true)) v10) o10) fun v11 o11=>
 qE v11 (bd (zL tab o11 26 []) fun v12 o12 =>
 bd (qp tab o12 26 v2 (some v12)) fun v13 o13=>
 kY tab [0, 1, 3] nl o13 (qx (qf tab o13 26 v2) (qx (some (.v (.bool false))) (some []))))
 (bd (qc (qf tab o11 26 v1) o11) fun v14 o14 =>
 bd (qn ⟨tab, qm, K⟩ o14 59 [v14]) fun v15 o15=>
 bd (qD tab o15 26) fun v16 o16=>
 bd (qp tab o16 26 v16 (some v15)) fun v17 o17=>
 bd (ze tab 48 o17 x1) fun v18 o18=>
 bd (qc (minS x2 v18) o18) fun v19 o19=>
 bd (qc (wC tab o19 48 x1 none (some v19)) o19) fun v20 o20=>
 bd (ze tab 48 o20 v20) fun v21 o21=>
 qa2 K N nl N x1 v19 x3 v2 v16 v20 v21 (.v (.int .i64 0)) o21)
noncomputable def qgx (K : zKT) (N nl : Nat) (x2 x4 x5 x6 : SV) (os : List SO) : Out := qA (cx K) N nl fi37 (qM c37 [1, 1, 1, 1]) [(2, x2), (4, x4), (5, x5), (6, x6)] os (qV tab [0, 1, 3, 100] nl rs37)
noncomputable def qgy (K : zKT) (N nl : Nat) (x2 x5 x6 : SV) (os : List SO) : Out := qA (cx K) N nl fi37 (qM c37 [1, 1, 1, 1, 1]) [(2, x2), (5, x5), (6, x6)] os (qV tab [0, 1, 3, 100] nl rs37)
noncomputable def qdK (K : zKT) (N nl : Nat) (x2 x4 x5 x6 : SV) (os : List SO) : Out :=
 bd (qn ⟨tab, qm, K⟩ os 43 [x4, (.v (.int .i64 3))]) fun v19 o19=>
 bd (qc (qw tab .eql 3 v19 (.v (.int .i64 0))) o19) fun v20 o20=>
 qE v20 (bd (qn ⟨tab, qm, K⟩ o20 72 [x4]) fun v21 o21 =>
 bd (qn ⟨tab, qm, K⟩ o21 71 [x4, v21]) fun v22 o22=>
 qgy K N nl x2 x5 v22 o22)
 (qgy K N nl x2 x5 x6 o20)
noncomputable def qdL (K : zKT) (N nl : Nat) (x2 x5 x6 : SV) (os : List SO) : Out :=
 bd (qc (qf tab os 26 x5) os) fun v23 o23=>
 bd (qp tab o23 26 x2 (some v23)) fun v24 o24=>
 kY tab [0, 1, 3, 100] nl o24 (qx (qf tab o24 26 x2) (qx (some x6) (some [])))
noncomputable def X37 (K : zKT) (N nl : Nat) (x0 : SV) (os : List SO) : Out := qA (cx K) N nl fi37 c37 [(0, x0)] os (qV tab [0, 1, 3, 100] nl rs37)
noncomputable def B37 (K : zKT) (N nl : Nat) (x0 : SV) (os : List SO) : Out :=
 bd (qD tab os 26) fun v1 o1=>
 bd (evN tab 23 o1 none) fun v2 o2=>
 bd (qn ⟨tab, qm, K⟩ o2 41 [x0]) fun v3 o3=>
 bd (qn ⟨tab, qm, K⟩ o3 42 [v3]) fun v4 o4=>
 bd (qc (ql v4 0) o4) fun v5 o5=>
 bd (qc (ql v4 1) o5) fun v6 o6=>
 bd (qD tab o6 26) fun v7 o7=>
 bd (qp tab o7 26 v7 (some v5)) fun v8 o8=>
 bd (qn ⟨tab, qm, K⟩ o8 43 [v3, (.v (.int .i64 6))]) fun v9 o9=>
 bd (qc (qw tab .gtr 3 v9 (.v (.int .i64 0))) o9) fun v10 o10=>
 bd (gd v10 true (qc (qf tab o10 26 v7) o10) o10) fun v11 o11=>
 bd (gd v10 true (qn ⟨tab, qm, K⟩ o11 27 [v11]) o11) fun v12 o12=>
 bd (qc (qL v10 v12 (.v (.bool false))) o12) fun v13 o13=>
 qE v13 (zQ (zv v7) <|
 bd (qc (qf tab o13 26 v7) o13) fun v14 o14=>
 bd (qc (qf tab o14 26 v7) o14) fun v15 o15=>
 zQ (zy ⟨tab, qm, K⟩ o15 (SV.fn 45 []) [v15] [v7] false) <|
 bd (qn ⟨tab, qm, K⟩ o15 45 [v15]) fun v16 o16=>
 bd (qn ⟨tab, qm, K⟩ o16 44 [v14, v16, (.v (.int .i64 20)), (.v (.bool false))]) fun v17 o17=>
 bd (qp tab o17 26 v7 (some v17)) fun v18 o18=>
 qgx K N nl v1 v3 v7 v6 o18)
 (qgx K N nl v1 v3 v7 v6 o13)
noncomputable def X38 (K : zKT) (N nl : Nat) (x0 x1 : SV) (os : List SO) : Out := qA (cx K) N nl fi38 c38 [(0, x0), (1, x1)] os (qV tab [0] nl rs38)
noncomputable def B38 (K : zKT) (N nl : Nat) (x0 x1 : SV) (os : List SO) : Out :=
 bd (wt tab os 26 (some x0)) fun v1 o1=>
 bd (evN tab 48 o1 none) fun v2 o2=>
 bd (qc (qf tab o2 26 v1) o2) fun v3 o3=>
 bd (qn ⟨tab, qm, K⟩ o3 16 [v3]) fun v4 o4=>
 bd (qc (unS .not v4) o4) fun v5 o5=>
 bd (gd v5 false (some (x1, o5)) o5) fun v6 o6=>
 bd (gd v5 false (qn ⟨tab, qm, K⟩ o6 53 [v6]) o6) fun v7 o7=>
 bd (gd v5 false (qc (unS .not v7) o7) o7) fun v8 o8=>
 bd (qc (qL v5 (.v (.bool true)) v8) o8) fun v9 o9=>
 qE v9 (bd (evN tab 48 o9 none) fun v10 o10 =>
 kY tab [0] nl o10 (qx (some v10) (some [])))
 (wZ (wZ (zQ (zy ⟨tab, qm, K⟩ o9 (SV.fn 73 []) [x1] [] true) <|
 bd (qn ⟨tab, qm, K⟩ o9 73 [x1]) fun v11 o11=>
 bd (zL tab o11 34 [(0, (some (.v (.int .i64 1)))), (3, (some v11))]) fun v12 o12=>
 bd (qv tab o12 48 1 [(0, v12)]) fun v13 o13=>
 zQ (zv v1) <|
 bd (qc (qf tab o13 26 v1) o13) fun v14 o14=>
 bd (qn ⟨tab, qm, K⟩ o14 67 [v14, x1]) fun v15 o15=>
 bd (zx tab o15 48 48 v13 v15) fun v16 o16=>
 kY tab [0] nl o16 (qx (some v16) (some [])))
 (zQ (zy ⟨tab, qm, K⟩ o9 (SV.fn 73 []) [x1] [] true) <|
 bd (qn ⟨tab, qm, K⟩ o9 73 [x1]) fun v17 o17=>
 bd (zL tab o17 34 [(0, (some (.v (.int .i64 1)))), (3, (some v17))]) fun v18 o18=>
 zQ (zv v1) <|
 bd (qc (qf tab o18 26 v1) o18) fun v19 o19=>
 bd (qn ⟨tab, qm, K⟩ o19 67 [v19, x1]) fun v20 o20=>
 bd (qv tab o20 48 1 [(0, v18)]) fun v21 o21=>
 bd (zx tab o21 48 48 v21 v20) fun v22 o22=>
 kY tab [0] nl o22 (qx (some v22) (some []))))
 (zQ (zy ⟨tab, qm, K⟩ o9 (SV.fn 73 []) [x1] [] true) <|
 bd (qn ⟨tab, qm, K⟩ o9 73 [x1]) fun v23 o23=>
 zQ (zv v1) <|
 bd (qc (qf tab o23 26 v1) o23) fun v24 o24=>
 bd (qn ⟨tab, qm, K⟩ o24 67 [v24, x1]) fun v25 o25=>
 bd (zL tab o25 34 [(0, (some (.v (.int .i64 1)))), (3, (some v23))]) fun v26 o26=>
 bd (qv tab o26 48 1 [(0, v26)]) fun v27 o27=>
 bd (zx tab o27 48 48 v27 v25) fun v28 o28=>
 kY tab [0] nl o28 (qx (some v28) (some []))))
noncomputable def X39 (K : zKT) (N nl : Nat) (x0 x1 : SV) (os : List SO) : Out := qA (cx K) N nl fi39 c39 [(0, x0), (1, x1)] os (qV tab [0] nl rs39)
noncomputable def B39 (K : zKT) (N nl : Nat) (x0 x1 : SV) (os : List SO) : Out :=
 bd (wt tab os 26 (some x0)) fun v1 o1=>
 bd (evN tab 48 o1 none) fun v2 o2=>
 bd (qc (qf tab o2 26 v1) o2) fun v3 o3=>
 bd (qn ⟨tab, qm, K⟩ o3 17 [v3]) fun v4 o4=>
 bd (qc (unS .not v4) o4) fun v5 o5=>
 bd (gd v5 false (some (x1, o5)) o5) fun v6 o6=>
 bd (gd v5 false (qn ⟨tab, qm, K⟩ o6 63 [v6]) o6) fun v7 o7=>
 bd (gd v5 false (qc (unS .not v7) o7) o7) fun v8 o8=>
 bd (qc (qL v5 (.v (.bool true)) v8) o8) fun v9 o9=>
 qE v9 (bd (qv tab o9 48 0 []) fun v10 o10 =>
 kY tab [0] nl o10 (qx (some v10) (some [])))
 (bd (qc (qf tab o9 26 v1) o9) fun v11 o11 =>
 bd (qn ⟨tab, qm, K⟩ o11 68 [v11, x1]) fun v12 o12=>
 kY tab [0] nl o12 (qx (some v12) (some [])))
noncomputable def X40 (K : zKT) (N nl : Nat) (x0 : SV) (os : List SO) : Out := qA (cx K) N nl fi40 c40 [(0, x0)] os (qV tab [0, 1, 3] nl rs40)
noncomputable def B40 (K : zKT) (N nl : Nat) (x0 : SV) (os : List SO) : Out :=
 bd (wt tab os 26 (some x0)) fun v1 o1=>
 bd (qD tab o1 26) fun v2 o2=>
 bd (qc (qf tab o2 26 v1) o2) fun v3 o3=>
 bd (qn ⟨tab, qm, K⟩ o3 32 [v3]) fun v4 o4=>
 bd (qc (qf tab o4 26 v1) o4) fun v5 o5=>
 bd (ze tab 48 o5 v4) fun v6 o6=>
 bd (qn ⟨tab, qm, K⟩ o6 36 [v5, v4, v6, (.v (.bool false))]) fun v7 o7=>
 bd (qc (ql v7 0) o7) fun v8 o8=>
 bd (qc (ql v7 1) o8) fun v9 o9=>
 bd (qp tab o9 26 v2 (some v8)) fun v10 o10=>
 kY tab [0, 1, 3] nl o10 (qx (qf tab o10 26 v2) (qx (some v9) (some [])))
noncomputable def qgz (K : zKT) (N nl : Nat) (x0 : SV) (os : List SO) : Out := qA (cx K) N nl fi41 (qM c41 [1, 1]) [(0, x0)] os (qV tab [] nl rs41)
noncomputable def qdM (K : zKT) (N nl : Nat) (x0 : SV) (os : List SO) : Out :=
 bd (zL tab os 82 [(0, (some x0))]) fun v4 o4=>
 bd (wt tab o4 82 (some v4)) fun v5 o5=>
 zq tab nl o5 (qx (some v5) (some []))
noncomputable def X41 (K : zKT) (N nl : Nat) (x0 : SV) (os : List SO) : Out := qA (cx K) N nl fi41 c41 [(0, x0)] os (qV tab [] nl rs41)
noncomputable def B41 (K : zKT) (N nl : Nat) (x0 : SV) (os : List SO) : Out :=
 bd (ze tab 22 os x0) fun v1 o1=>
 bd (qc (qw tab .gtr 3 v1 (.v (.int .i64 2000))) o1) fun v2 o2=>
 qE v2 (bd (qc (wC tab o2 22 x0 none (some (.v (.int .i64 2000)))) o2) fun v3 o3 =>
 qgz K N nl v3 o3)
 (qgz K N nl x0 o2)
noncomputable def qa4 (K : zKT) (N nl : Nat) (x0 x2 x5 x6 : SV) (os : List SO) : Out := qA (cx K) N nl fi42 (qM c42 [1, 1, 1, 1, 1, 1]) [(0, x0), (2, x2), (5, x5), (6, x6)] os (qV tab [0, 3, 100] nl rs42)
noncomputable def xO (K : zKT) (N nl : Nat) (x2 x5 x6 : SV) (os : List SO) : Out := qA (cx K) N nl fi42 (qM c42 [1, 1, 1, 1, 1, 1, 1]) [(2, x2), (5, x5), (6, x6)] os (qV tab [0, 3, 100] nl rs42)
noncomputable def JZ (K : zKT) (N nl : Nat) (x0 x2 x5 x6 : SV) (os : List SO) : Out :=
 bd (qn ⟨tab, qm, K⟩ os 43 [x0, (.v (.int .i64 24))]) fun v25 o25=>
 bd (qc (qw tab .eql 3 v25 (.v (.int .i64 0))) o25) fun v26 o26=>
 qE v26 (wZ (wZ (wZ (bd (qc (qa tab 26 x5 1) o26) fun v27 o27 =>
 zQ (zv v27) <|
 bd (qc (qf tab o27 24 v27) o27) fun v28 o28=>
 bd (qc (qa tab 26 x5 1) o28) fun v29 o29=>
 bd (qc (qf tab o29 24 v29) o29) fun v30 o30=>
 bd (ze tab 24 o30 v30) fun v31 o31=>
 zQ (zy ⟨tab, qm, K⟩ o31 (SV.fn 43 []) [x0, v31] [v27] false) <|
 bd (qn ⟨tab, qm, K⟩ o31 43 [x0, v31]) fun v32 o32=>
 bd (qv tab o32 24 4 [(0, (.v (.int .i64 (-3)))), (1, (.v (.int .i64 0))), (2, (.v (.int .i64 5))), (3, (.v (.int .i64 10)))]) fun v33 o33=>
 zQ (zy ⟨tab, qm, K⟩ o33 (SV.fn 43 []) [x0, (.v (.int .i64 4))] [v27] false) <|
 bd (qn ⟨tab, qm, K⟩ o33 43 [x0, (.v (.int .i64 4))]) fun v34 o34=>
 bd (qc (qj tab o34 24 v33 v34) o34) fun v35 o35=>
 bd (qc (qf tab o35 3 v35) o35) fun v36 o36=>
 bd (qc (qj tab o36 24 v28 v32) o36) fun v37 o37=>
 bd (qp tab o37 3 v37 (some v36)) fun v38 o38=>
 xO K N nl x2 x5 x6 o38)
 (bd (qc (qa tab 26 x5 1) o26) fun v39 o39 =>
 zQ (zv v39) <|
 bd (qc (qf tab o39 24 v39) o39) fun v40 o40=>
 bd (qc (qa tab 26 x5 1) o40) fun v41 o41=>
 bd (qc (qf tab o41 24 v41) o41) fun v42 o42=>
 bd (ze tab 24 o42 v42) fun v43 o43=>
 zQ (zy ⟨tab, qm, K⟩ o43 (SV.fn 43 []) [x0, v43] [v39] false) <|
 bd (qn ⟨tab, qm, K⟩ o43 43 [x0, v43]) fun v44 o44=>
 zQ (zy ⟨tab, qm, K⟩ o44 (SV.fn 43 []) [x0, (.v (.int .i64 4))] [v39] false) <|
 bd (qn ⟨tab, qm, K⟩ o44 43 [x0, (.v (.int .i64 4))]) fun v45 o45=>
 bd (qv tab o45 24 4 [(0, (.v (.int .i64 (-3)))), (1, (.v (.int .i64 0))), (2, (.v (.int .i64 5))), (3, (.v (.int .i64 10)))]) fun v46 o46=>
 bd (qc (qj tab o46 24 v46 v45) o46) fun v47 o47=>
 bd (qc (qf tab o47 3 v47) o47) fun v48 o48=>
 bd (qc (qj tab o48 24 v40 v44) o48) fun v49 o49=>
 bd (qp tab o49 3 v49 (some v48)) fun v50 o50=>
 xO K N nl x2 x5 x6 o50))
 (bd (qc (qa tab 26 x5 1) o26) fun v51 o51 =>
 zQ (zv v51) <|
 bd (qc (qf tab o51 24 v51) o51) fun v52 o52=>
 bd (qc (qa tab 26 x5 1) o52) fun v53 o53=>
 bd (qc (qf tab o53 24 v53) o53) fun v54 o54=>
 bd (ze tab 24 o54 v54) fun v55 o55=>
 bd (qv tab o55 24 4 [(0, (.v (.int .i64 (-3)))), (1, (.v (.int .i64 0))), (2, (.v (.int .i64 5))), (3, (.v (.int .i64 10)))]) fun v56 o56=>
 zQ (zy ⟨tab, qm, K⟩ o56 (SV.fn 43 []) [x0, v55] [v51] false) <|
 bd (qn ⟨tab, qm, K⟩ o56 43 [x0, v55]) fun v57 o57=>
 zQ (zy ⟨tab, qm, K⟩ o57 (SV.fn 43 []) [x0, (.v (.int .i64 4))] [v51] false) <|
 bd (qn ⟨tab, qm, K⟩ o57 43 [x0, (.v (.int .i64 4))]) fun v58 o58=>
 bd (qc (qj tab o58 24 v56 v58) o58) fun v59 o59=>
 bd (qc (qf tab o59 3 v59) o59) fun v60 o60=>
 bd (qc (qj tab o60 24 v52 v57) o60) fun v61 o61=>
 bd (qp tab o61 3 v61 (some v60)) fun v62 o62=>
 xO K N nl x2 x5 x6 o62))
 (bd (qc (qa tab 26 x5 1) o26) fun v63 o63 =>
 zQ (zv v63) <|
 bd (qc (qf tab o63 24 v63) o63) fun v64 o64=>
 bd (qc (qa tab 26 x5 1) o64) fun v65 o65=>
 zQ (zv v65) <|
 bd (qc (qf tab o65 24 v65) o65) fun v66 o66=>
 bd (qv tab o66 24 4 [(0, (.v (.int .i64 (-3)))), (1, (.v (.int .i64 0))), (2, (.v (.int .i64 5))), (3, (.v (.int .i64 10)))]) fun v67 o67=>
 bd (ze tab 24 o67 v66) fun v68 o68=>
 zQ (zy ⟨tab, qm, K⟩ o68 (SV.fn 43 []) [x0, v68] [v63] false) <|
 bd (qn ⟨tab, qm, K⟩ o68 43 [x0, v68]) fun v69 o69=>
 zQ (zy ⟨tab, qm, K⟩ o69 (SV.fn 43 []) [x0, (.v (.int .i64 4))] [v63] false) <|
 bd (qn ⟨tab, qm, K⟩ o69 43 [x0, (.v (.int .i64 4))]) fun v70 o70=>
 bd (qc (qj tab o70 24 v67 v70) o70) fun v71 o71=>
 bd (qc (qf tab o71 3 v71) o71) fun v72 o72=>
 bd (qc (qj tab o72 24 v64 v69) o72) fun v73 o73=>
 bd (qp tab o73 3 v73 (some v72)) fun v74 o74=>
 xO K N nl x2 x5 x6 o74))
 (bd (qc (qw tab .eql 3 v25 (.v (.int .i64 1))) o26) fun v75 o75 =>
 qE v75 (bd (qc (qa tab 26 x5 2) o75) fun v76 o76 =>
 bd (qc (qf tab o76 4 v76) o76) fun v77 o77=>
 bd (qc (unS .not v77) o77) fun v78 o78=>
 bd (qc (qa tab 26 x5 2) o78) fun v79 o79=>
 bd (qp tab o79 4 v79 (some v78)) fun v80 o80=>
 xO K N nl x2 x5 x6 o80)
 (bd (qc (qw tab .eql 3 v25 (.v (.int .i64 2))) o75) fun v81 o81 =>
 qE v81 (bd (qc (qa tab 26 x5 1) o81) fun v82 o82 =>
 bd (qc (qf tab o82 24 v82) o82) fun v83 o83=>
 bd (qc (wC tab o83 24 v83 (some (.v (.int .i64 1))) none) o83) fun v84 o84=>
 bd (qc (qa tab 26 x5 1) o84) fun v85 o85=>
 bd (qp tab o85 24 v85 (some v84)) fun v86 o86=>
 xO K N nl x2 x5 x6 o86)
 (bd (qc (qw tab .eql 3 v25 (.v (.int .i64 3))) o81) fun v87 o87 =>
 qE v87 (bd (qn ⟨tab, qm, K⟩ o87 75 [x0]) fun v88 o88 =>
 bd (qc (qa tab 26 x5 0) o88) fun v89 o89=>
 bd (qp tab o89 23 v89 (some v88)) fun v90 o90=>
 xO K N nl x2 x5 x6 o90)
 (xO K N nl x2 x5 x6 o87))))
noncomputable def wL (K : zKT) (N nl : Nat) (x2 x5 x6 : SV) (os : List SO) : Out :=
 bd (qc (qf tab os 26 x5) os) fun v91 o91=>
 bd (qp tab o91 26 x2 (some v91)) fun v92 o92=>
 kY tab [0, 3, 100] nl o92 (qx (qf tab o92 26 x2) (qx (some x6) (some [])))
noncomputable def X42 (K : zKT) (N nl : Nat) (x0 : SV) (os : List SO) : Out := qA (cx K) N nl fi42 c42 [(0, x0)] os (qV tab [0, 3, 100] nl rs42)
noncomputable def B42 (K : zKT) (N nl : Nat) (x0 : SV) (os : List SO) : Out :=
 bd (qD tab os 26) fun v1 o1=>
 bd (evN tab 23 o1 none) fun v2 o2=>
 bd (qn ⟨tab, qm, K⟩ o2 72 [x0]) fun v3 o3=>
 bd (qn ⟨tab, qm, K⟩ o3 74 []) fun v4 o4=>
 bd (qD tab o4 26) fun v5 o5=>
 bd (qp tab o5 26 v5 (some v4)) fun v6 o6=>
 zQ (zv v5) <|
 bd (qc (qf tab o6 26 v5) o6) fun v7 o7=>
 zQ (zv v5) <|
 bd (qc (qf tab o7 26 v5) o7) fun v8 o8=>
 zQ (zy ⟨tab, qm, K⟩ o8 (SV.fn 71 []) [x0, v3] [v5, v5] false) <|
 bd (qn ⟨tab, qm, K⟩ o8 71 [x0, v3]) fun v9 o9=>
 zQ (zy ⟨tab, qm, K⟩ o9 (SV.fn 68 []) [v8, v9] [v5] false) <|
 bd (qn ⟨tab, qm, K⟩ o9 68 [v8, v9]) fun v10 o10=>
 bd (qn ⟨tab, qm, K⟩ o10 44 [v7, v10, (.v (.int .i64 20)), (.v (.bool false))]) fun v11 o11=>
 bd (qp tab o11 26 v5 (some v11)) fun v12 o12=>
 bd (qn ⟨tab, qm, K⟩ o12 72 [x0]) fun v13 o13=>
 bd (qn ⟨tab, qm, K⟩ o13 71 [x0, v13]) fun v14 o14=>
 bd (qn ⟨tab, qm, K⟩ o14 43 [x0, (.v (.int .i64 3))]) fun v15 o15=>
 bd (qc (qw tab .gtr 3 v15 (.v (.int .i64 0))) o15) fun v16 o16=>
 qE v16 (zQ (zv v5) <|
 bd (qc (qf tab o16 26 v5) o16) fun v17 o17=>
 bd (qc (qf tab o17 26 v5) o17) fun v18 o18=>
 zQ (zy ⟨tab, qm, K⟩ o18 (SV.fn 68 []) [v18, v14] [v5] false) <|
 bd (qn ⟨tab, qm, K⟩ o18 68 [v18, v14]) fun v19 o19=>
 zQ (zy ⟨tab, qm, K⟩ o19 (SV.fn 43 []) [x0, (.v (.int .i64 8))] [v5] false) <|
 bd (qn ⟨tab, qm, K⟩ o19 43 [x0, (.v (.int .i64 8))]) fun v20 o20=>
 zQ (zy ⟨tab, qm, K⟩ o20 (SV.fn 43 []) [x0, (.v (.int .i64 2))] [v5] false) <|
 bd (qn ⟨tab, qm, K⟩ o20 43 [x0, (.v (.int .i64 2))]) fun v21 o21=>
 bd (qc (qw tab .eql 3 v21 (.v (.int .i64 0))) o21) fun v22 o22=>
 bd (qn ⟨tab, qm, K⟩ o22 44 [v17, v19, v20, v22]) fun v23 o23=>
 bd (qp tab o23 26 v5 (some v23)) fun v24 o24=>
 qa4 K N nl x0 v1 v5 v14 o24)
 (qa4 K N nl x0 v1 v5 v14 o16)
noncomputable def X43 (K : zKT) (N nl : Nat) (x0 x1 : SV) (os : List SO) : Out := qA (cx K) N nl fi43 c43 [(0, x0), (1, x1)] os (qV tab [] nl rs43)
noncomputable def B43 (K : zKT) (N nl : Nat) (x0 x1 : SV) (os : List SO) : Out :=
 bd (qc (ZP x0) os) fun v1 o1=>
 bd (qc (qa tab 82 v1 1) o1) fun v2 o2=>
 bd (qc (qf tab o2 3 v2) o2) fun v3 o3=>
 bd (qc (qw tab .add 3 v3 (.v (.int .i64 1))) o3) fun v4 o4=>
 bd (qc (ZP x0) o4) fun v5 o5=>
 bd (qc (qa tab 82 v5 1) o5) fun v6 o6=>
 bd (qp tab o6 3 v6 (some v4)) fun v7 o7=>
 bd (qc (qw tab .lss 3 x1 (.v (.int .i64 1))) o7) fun v8 o8=>
 bd (gd v8 false (some (x0, o8)) o8) fun v9 o9=>
 bd (gd v8 false (qc (ZP v9) o9) o9) fun v10 o10=>
 bd (gd v8 false (qc (qa tab 82 v10 0) o10) o10) fun v11 o11=>
 bd (gd v8 false (qc (qf tab o11 22 v11) o11) o11) fun v12 o12=>
 bd (gd v8 false (ze tab 22 o12 v12) o12) fun v13 o13=>
 bd (gd v8 false (qc (qw tab .eql 3 v13 (.v (.int .i64 0))) o13) o13) fun v14 o14=>
 bd (qc (qL v8 (.v (.bool true)) v14) o14) fun v15 o15=>
 qE v15 (zq tab nl o15 (qx (some (.v (.int .i64 0))) (some [])))
 (bd (qc (ZP x0) o15) fun v16 o16 =>
 bd (qc (qa tab 82 v16 1) o16) fun v17 o17=>
 bd (qc (qf tab o17 3 v17) o17) fun v18 o18=>
 bd (qc (qw tab .sub 3 v18 (.v (.int .i64 1))) o18) fun v19 o19=>
 bd (qc (ZP x0) o19) fun v20 o20=>
 bd (qc (qa tab 82 v20 0) o20) fun v21 o21=>
 bd (qc (qf tab o21 22 v21) o21) fun v22 o22=>
 bd (ze tab 22 o22 v22) fun v23 o23=>
 bd (qc (qw tab .lss 3 v19 v23) o23) fun v24 o24=>
 qE v24 (bd (qc (ZP x0) o24) fun v25 o25 =>
 bd (qc (qa tab 82 v25 0) o25) fun v26 o26=>
 bd (qc (qf tab o26 22 v26) o26) fun v27 o27=>
 bd (qc (qj tab o27 22 v27 v19) o27) fun v28 o28=>
 bd (qc (qf tab o28 5 v28) o28) fun v29 o29=>
 bd (jf tab o29 5 3 v29) fun v30 o30=>
 bd (qc (qw tab .rem 3 v30 x1) o30) fun v31 o31=>
 zq tab nl o31 (qx (some v31) (some [])))
 (bd (qc (ZP x0) o24) fun v32 o32 =>
 bd (qc (qa tab 82 v32 0) o32) fun v33 o33=>
 bd (qc (qf tab o33 22 v33) o33) fun v34 o34=>
 bd (qc (ZP x0) o34) fun v35 o35=>
 bd (qc (qa tab 82 v35 0) o35) fun v36 o36=>
 bd (qc (qf tab o36 22 v36) o36) fun v37 o37=>
 bd (ze tab 22 o37 v37) fun v38 o38=>
 bd (qc (qw tab .rem 3 v19 v38) o38) fun v39 o39=>
 bd (qc (qj tab o39 22 v34 v39) o39) fun v40 o40=>
 bd (qc (qf tab o40 5 v40) o40) fun v41 o41=>
 bd (jf tab o41 5 3 v41) fun v42 o42=>
 bd (qc (qw tab .mul 3 v42 (.v (.int .i64 131))) o42) fun v43 o43=>
 bd (qc (ZP x0) o43) fun v44 o44=>
 bd (qc (qa tab 82 v44 0) o44) fun v45 o45=>
 bd (qc (qf tab o45 22 v45) o45) fun v46 o46=>
 bd (qc (qw tab .mul 3 v19 (.v (.int .i64 7))) o46) fun v47 o47=>
 bd (qc (qw tab .add 3 v47 (.v (.int .i64 3))) o47) fun v48 o48=>
 bd (qc (ZP x0) o48) fun v49 o49=>
 bd (qc (qa tab 82 v49 0) o49) fun v50 o50=>
 bd (qc (qf tab o50 22 v50) o50) fun v51 o51=>
 bd (ze tab 22 o51 v51) fun v52 o52=>
 bd (qc (qw tab .rem 3 v48 v52) o52) fun v53 o53=>
 bd (qc (qj tab o53 22 v46 v53) o53) fun v54 o54=>
 bd (qc (qf tab o54 5 v54) o54) fun v55 o55=>
 bd (jf tab o55 5 3 v55) fun v56 o56=>
 bd (qc (qw tab .mul 3 v56 (.v (.int .i64 1117))) o56) fun v57 o57=>
 bd (qc (qw tab .add 3 v43 v57) o57) fun v58 o58=>
 bd (qc (qw tab .mul 3 v19 (.v (.int .i64 29))) o58) fun v59 o59=>
 bd (qc (qw tab .add 3 v58 v59) o59) fun v60 o60=>
 bd (qc (ZP x0) o60) fun v61 o61=>
 bd (qc (qa tab 82 v61 0) o61) fun v62 o62=>
 bd (qc (qf tab o62 22 v62) o62) fun v63 o63=>
 bd (ze tab 22 o63 v63) fun v64 o64=>
 bd (qc (qw tab .quo 3 v19 v64) o64) fun v65 o65=>
 bd (qc (qw tab .mul 3 v65 (.v (.int .i64 53))) o65) fun v66 o66=>
 bd (qc (qw tab .add 3 v60 v66) o66) fun v67 o67=>
 bd (qc (qw tab .quo 3 v67 (.v (.int .i64 64))) o67) fun v68 o68=>
 bd (qc (qw tab .xor 3 v67 v68) o68) fun v69 o69=>
 bd (qc (qw tab .rem 3 v69 x1) o69) fun v70 o70=>
 zq tab nl o70 (qx (some v70) (some []))))
noncomputable def bk44_2 (K : zKT) (N nl : Nat) (m2 : Nat) : Env → List SO → Out := fun env os => q8 nl (Xj.lp 2) (fun env os nx => qA (cx K) N nl Xj (qM c44 [1, 0, 1, 0, 0]) env os (qP nx (qu 0 (zu (qA (cx K) N nl Xj (qM c44 [1, 1])) (Xj.jn 5) (qV tab [0, 3] nl rs44))))) m2 (zB (Xj.lp 2).alive env) os
noncomputable def qa5 (K : zKT) (N nl : Nat) (m2 : Nat) (x1 x2 x3 x4 x8 x9 : SV) (os : List SO) : Out := q8 nl (Xj.lp 2) (fun env os nx => qA (cx K) N nl Xj (qM c44 [1, 0, 1, 0, 0]) env os (qP nx (qu 0 (zu (qA (cx K) N nl Xj (qM c44 [1, 1])) (Xj.jn 5) (qV tab [0, 3] nl rs44))))) m2 [(1, x1), (2, x2), (3, x3), (4, x4), (8, x8), (9, x9)] os
noncomputable def qa6 (K : zKT) (N nl : Nat) (m2 : Nat) (xs : List SV) (os : List SO) : Out := (fun env os nx => qA (cx K) N nl Xj (qM c44 [1, 0, 1, 0, 0]) env os (qP nx (qu 0 (zu (qA (cx K) N nl Xj (qM c44 [1, 1])) (Xj.jn 5) (qV tab [0, 3] nl rs44))))) (jX [1, 2, 3, 4, 8, 9] xs) os (bk44_2 K N nl m2)
noncomputable def qgA (K : zKT) (N nl : Nat) (x4 x8 : SV) (os : List SO) : Out := qA (cx K) N nl Xj (qM c44 [1, 1, 1]) [(4, x4), (8, x8)] os (qV tab [0, 3] nl rs44)
noncomputable def qdN (K : zKT) (N nl : Nat) (m2 : Nat) (x1 x2 x3 x4 x8 x9 : SV) (os : List SO) : Out :=
 bd (ze tab 48 os x1) fun v3 o3=>
 bd (qc (qw tab .lss 3 x9 v3) o3) fun v4 o4=>
 bd (gd v4 true (some (x9, o4)) o4) fun v5 o5=>
 bd (gd v4 true (some (x2, o5)) o5) fun v6 o6=>
 bd (gd v4 true (qc (qw tab .lss 3 v5 v6) o6) o6) fun v7 o7=>
 bd (qc (qL v4 v7 (.v (.bool false))) o7) fun v8 o8=>
 qE v8 (bd (qc (qf tab o8 26 x4) o8) fun v9 o9 =>
 bd (qc (qj tab o9 48 x1 x9) o9) fun v10 o10=>
 bd (qc (qf tab o10 34 v10) o10) fun v11 o11=>
 bd (qn ⟨tab, qm, K⟩ o11 56 [v9, v11]) fun v12 o12=>
 bd (qp tab o12 26 x4 (some v12)) fun v13 o13=>
 bd (qc (qw tab .add 3 x9 (.v (.int .i64 1))) o13) fun v14 o14=>
 qa5 K N nl m2 x1 x2 x3 x4 x8 v14 o14)
 (bd (gd x3 true (some (x2, o8)) o8) fun v15 o15 =>
 bd (gd x3 true (some (x1, o15)) o15) fun v16 o16=>
 bd (gd x3 true (ze tab 48 o16 v16) o16) fun v17 o17=>
 bd (gd x3 true (qc (qw tab .sub 3 v17 (.v (.int .i64 1))) o17) o17) fun v18 o18=>
 bd (gd x3 true (qn ⟨tab, qm, K⟩ o18 62 [v15, (.v (.int .i64 0)), v18]) o18) fun v19 o19=>
 bd (qc (qL x3 v19 (.v (.bool false))) o19) fun v20 o20=>
 qE v20 (bd (qc (qf tab o20 26 x4) o20) fun v21 o21 =>
 bd (qc (qj tab o21 48 x1 x2) o21) fun v22 o22=>
 bd (qc (qf tab o22 34 v22) o22) fun v23 o23=>
 bd (qn ⟨tab, qm, K⟩ o23 65 [v21, v23]) fun v24 o24=>
 bd (qp tab o24 26 x4 (some v24)) fun v25 o25=>
 qgA K N nl x4 x8 o25)
 (qgA K N nl x4 x8 o20))
noncomputable def qdO (K : zKT) (N nl : Nat) (x4 x8 : SV) (os : List SO) : Out :=
 bd (qc (qf tab os 26 x4) os) fun v26 o26=>
 bd (qp tab o26 26 x8 (some v26)) fun v27 o27=>
 kY tab [0, 3] nl o27 (qx (qf tab o27 26 x8) (some []))
noncomputable def X44 (K : zKT) (N nl : Nat) (x0 x1 x2 x3 : SV) (os : List SO) : Out := qA (cx K) N nl Xj c44 [(0, x0), (1, x1), (2, x2), (3, x3)] os (qV tab [0, 3] nl rs44)
noncomputable def B44 (K : zKT) (N nl : Nat) (x0 x1 x2 x3 : SV) (os : List SO) : Out :=
 bd (wt tab os 26 (some x0)) fun v1 o1=>
 bd (qD tab o1 26) fun v2 o2=>
 qa5 K N nl N x1 x2 x3 v1 v2 (.v (.int .i64 0)) o2
noncomputable def X45 (K : zKT) (N nl : Nat) (x0 : SV) (os : List SO) : Out := qA (cx K) N nl fi45 c45 [(0, x0)] os (qV tab [0] nl rs45)
noncomputable def B45 (K : zKT) (N nl : Nat) (x0 : SV) (os : List SO) : Out :=
 bd (wt tab os 26 (some x0)) fun v1 o1=>
 bd (evN tab 48 o1 none) fun v2 o2=>
 bd (qc (qa tab 26 v1 2) o2) fun v3 o3=>
 bd (qc (qf tab o3 4 v3) o3) fun v4 o4=>
 bd (qc (unS .not v4) o4) fun v5 o5=>
 qE v5 (bd (qv tab o5 48 0 []) fun v6 o6 =>
 kY tab [0] nl o6 (qx (some v6) (some [])))
 (bd (qc (qf tab o5 26 v1) o5) fun v7 o7 =>
 bd (qc (qa tab 26 v1 3) o7) fun v8 o8=>
 bd (qc (qf tab o8 23 v8) o8) fun v9 o9=>
 bd (qn ⟨tab, qm, K⟩ o9 68 [v7, v9]) fun v10 o10=>
 bd (qc (wC tab o10 48 v10 (some (.v (.int .i64 1))) none) o10) fun v11 o11=>
 kY tab [0] nl o11 (qx (some v11) (some [])))
noncomputable def bk46_4 (K : zKT) (N nl : Nat) (m4 : Nat) : Env → List SO → Out := fun env os => q8 nl (qdp.lp 4) (fun env os nx => qA (cx K) N nl qdp (qM c46 [1, 1, 0, 1, 0, 0]) env os (qP nx (qu 0 (zu (qA (cx K) N nl qdp (qM c46 [1, 1, 1])) (qdp.jn 9) (qV tab [] nl rs46))))) m4 (zB (qdp.lp 4).alive env) os
noncomputable def qa7 (K : zKT) (N nl : Nat) (m4 : Nat) (x0 x1 x12 x13 : SV) (os : List SO) : Out := q8 nl (qdp.lp 4) (fun env os nx => qA (cx K) N nl qdp (qM c46 [1, 1, 0, 1, 0, 0]) env os (qP nx (qu 0 (zu (qA (cx K) N nl qdp (qM c46 [1, 1, 1])) (qdp.jn 9) (qV tab [] nl rs46))))) m4 [(0, x0), (1, x1), (12, x12), (13, x13)] os
noncomputable def qdP (K : zKT) (N nl : Nat) (m4 : Nat) (x0 x1 x12 x13 : SV) (os : List SO) : Out :=
 bd (qc (qw tab .lss 3 x13 x12) os) fun v5 o5=>
 qE v5 (bd (qc (qj tab o5 24 x0 x13) o5) fun v6 o6 =>
 bd (qc (qf tab o6 3 v6) o6) fun v7 o7=>
 bd (qc (qj tab o7 24 x1 x13) o7) fun v8 o8=>
 bd (qc (qf tab o8 3 v8) o8) fun v9 o9=>
 bd (qc (qw tab .neq 3 v7 v9) o9) fun v10 o10=>
 qE v10 (zq tab nl o10 (qx (some (.v (.bool false))) (some [])))
 (bd (qc (qw tab .add 3 x13 (.v (.int .i64 1))) o10) fun v11 o11 =>
 qa7 K N nl m4 x0 x1 x12 v11 o11))
 (zq tab nl o5 (qx (some (.v (.bool true))) (some [])))
noncomputable def X46 (K : zKT) (N nl : Nat) (x0 x1 : SV) (os : List SO) : Out := qA (cx K) N nl qdp c46 [(0, x0), (1, x1)] os (qV tab [] nl rs46)
noncomputable def B46 (K : zKT) (N nl : Nat) (x0 x1 : SV) (os : List SO) : Out :=
 bd (ze tab 24 os x0) fun v1 o1=>
 bd (ze tab 24 o1 x1) fun v2 o2=>
 bd (qc (qw tab .neq 3 v1 v2) o2) fun v3 o3=>
 qE v3 (zq tab nl o3 (qx (some (.v (.bool false))) (some [])))
 (bd (ze tab 24 o3 x0) fun v4 o4 =>
 qa7 K N nl N x0 x1 v4 (.v (.int .i64 0)) o4)
noncomputable def bk47_2 (K : zKT) (N nl : Nat) (m2 : Nat) : Env → List SO → Out := fun env os => q8 nl (qdq.lp 2) (fun env os nx => qA (cx K) N nl qdq (qM c47 [1, 0, 1, 0, 0]) env os (qP nx (qu 0 (zu (qA (cx K) N nl qdq (qM c47 [1, 1])) (qdq.jn 6) (qV tab [] nl rs47))))) m2 (zB (qdq.lp 2).alive env) os
noncomputable def qa8 (K : zKT) (N nl : Nat) (m2 : Nat) (x0 x1 x5 : SV) (os : List SO) : Out := q8 nl (qdq.lp 2) (fun env os nx => qA (cx K) N nl qdq (qM c47 [1, 0, 1, 0, 0]) env os (qP nx (qu 0 (zu (qA (cx K) N nl qdq (qM c47 [1, 1])) (qdq.jn 6) (qV tab [] nl rs47))))) m2 [(0, x0), (1, x1), (5, x5)] os
noncomputable def qdQ (K : zKT) (N nl : Nat) (m2 : Nat) (x0 x1 x5 : SV) (os : List SO) : Out :=
 bd (ze tab 24 os x0) fun v1 o1=>
 bd (qc (qw tab .lss 3 x5 v1) o1) fun v2 o2=>
 qE v2 (bd (qc (qj tab o2 24 x0 x5) o2) fun v3 o3 =>
 bd (qc (qf tab o3 3 v3) o3) fun v4 o4=>
 bd (qc (qj tab o4 24 x1 x5) o4) fun v5 o5=>
 bd (qc (qf tab o5 3 v5) o5) fun v6 o6=>
 bd (qc (qw tab .neq 3 v4 v6) o6) fun v7 o7=>
 qE v7 (zq tab nl o7 (qx (some (.v (.bool false))) (some [])))
 (bd (qc (qw tab .add 3 x5 (.v (.int .i64 1))) o7) fun v8 o8 =>
 qa8 K N nl m2 x0 x1 v8 o8))
 (zq tab nl o2 (qx (some (.v (.bool true))) (some [])))
noncomputable def X47 (K : zKT) (N nl : Nat) (x0 x1 : SV) (os : List SO) : Out := qA (cx K) N nl qdq c47 [(0, x0), (1, x1)] os (qV tab [] nl rs47)
noncomputable def B47 (K : zKT) (N nl : Nat) (x0 x1 : SV) (os : List SO) : Out :=
 qa8 K N nl N x0 x1 (.v (.int .i64 0)) os
noncomputable def bk48_3 (K : zKT) (N nl : Nat) (m3 : Nat) : Env → List SO → Out := fun env os => q8 nl (xH.lp 3) (fun env os nx => qA (cx K) N nl xH (qM c48 [1, 1, 0, 1, 0, 0]) env os (qP nx (qu 0 (zu (qA (cx K) N nl xH (qM c48 [1, 1, 1])) (xH.jn 6) (qV tab [] nl qi9))))) m3 (zB (xH.lp 3).alive env) os
noncomputable def qh9 (K : zKT) (N nl : Nat) (m7 : Nat) : Env → List SO → Out := fun env os => q8 nl (xH.lp 7) (fun env os nx => qA (cx K) N nl xH (qM c48 [1, 1, 1, 0, 1, 0, 0]) env os (qP nx (qu 2 (zu (qA (cx K) N nl xH (qM c48 [1, 1, 1, 1])) (xH.jn 13) (qV tab [] nl qi9))))) m7 (zB (xH.lp 7).alive env) os
noncomputable def bk48_10 (K : zKT) (N nl : Nat) (m7 : Nat) (m10 : Nat) : Env → List SO → Out := fun env os => q8 nl (xH.lp 10) (fun env os nx => qA (cx K) N nl xH (qM c48 [1, 1, 1, 0, 1, 0, 0, 1, 0, 0, 1, 0, 0]) env os (qP nx (qu 4 (qu 3 (zu (qA (cx K) N nl xH (qM c48 [1, 1, 1, 0, 1, 0, 0, 1, 1])) (xH.jn 8) (qP (qh9 K N nl m7) (qu 2 (zu (qA (cx K) N nl xH (qM c48 [1, 1, 1, 1])) (xH.jn 13) (qV tab [] nl qi9))))))))) m10 (zB (xH.lp 10).alive env) os
noncomputable def qa9 (K : zKT) (N nl : Nat) (m3 : Nat) (x0 x3 x4 : SV) (os : List SO) : Out := q8 nl (xH.lp 3) (fun env os nx => qA (cx K) N nl xH (qM c48 [1, 1, 0, 1, 0, 0]) env os (qP nx (qu 0 (zu (qA (cx K) N nl xH (qM c48 [1, 1, 1])) (xH.jn 6) (qV tab [] nl qi9))))) m3 [(0, x0), (3, x3), (4, x4)] os
noncomputable def Yk (K : zKT) (N nl : Nat) (m7 : Nat) (x0 x3 x5 : SV) (os : List SO) : Out := q8 nl (xH.lp 7) (fun env os nx => qA (cx K) N nl xH (qM c48 [1, 1, 1, 0, 1, 0, 0]) env os (qP nx (qu 2 (zu (qA (cx K) N nl xH (qM c48 [1, 1, 1, 1])) (xH.jn 13) (qV tab [] nl qi9))))) m7 [(0, x0), (3, x3), (5, x5)] os
noncomputable def Kj (K : zKT) (N nl : Nat) (m7 : Nat) (m10 : Nat) (x0 x3 x5 x6 : SV) (os : List SO) : Out := q8 nl (xH.lp 10) (fun env os nx => qA (cx K) N nl xH (qM c48 [1, 1, 1, 0, 1, 0, 0, 1, 0, 0, 1, 0, 0]) env os (qP nx (qu 4 (qu 3 (zu (qA (cx K) N nl xH (qM c48 [1, 1, 1, 0, 1, 0, 0, 1, 1])) (xH.jn 8) (qP (qh9 K N nl m7) (qu 2 (zu (qA (cx K) N nl xH (qM c48 [1, 1, 1, 1])) (xH.jn 13) (qV tab [] nl qi9))))))))) m10 [(0, x0), (3, x3), (5, x5), (6, x6)] os
noncomputable def J0 (K : zKT) (N nl : Nat) (m3 : Nat) (x0 x3 x4 : SV) (os : List SO) : Out :=
 bd (ze tab 24 os x3) fun v3 o3=>
 bd (qc (qw tab .lss 3 x4 v3) o3) fun v4 o4=>
 qE v4 (bd (qc (qj tab o4 24 x3 x4) o4) fun v5 o5 =>
 bd (qp tab o5 3 v5 (some (.v (.int .i64 (-1))))) fun v6 o6=>
 bd (qc (qw tab .add 3 x4 (.v (.int .i64 1))) o6) fun v7 o7=>
 qa9 K N nl m3 x0 x3 v7 o7)
 (Yk K N nl N x0 x3 (.v (.int .i64 0)) o4)
noncomputable def qdR (K : zKT) (N nl : Nat) (m7 : Nat) (x0 x3 x5 : SV) (os : List SO) : Out :=
 bd (ze tab 23 os x0) fun v8 o8=>
 bd (qc (qw tab .lss 3 x5 v8) o8) fun v9 o9=>
 qE v9 (Kj K N nl m7 N x0 x3 x5 (.v (.int .i64 0)) o9)
 (zq tab nl o9 (qx (some x3) (some [])))
noncomputable def Xv (K : zKT) (N nl : Nat) (m7 : Nat) (m10 : Nat) (x0 x3 x5 x6 : SV) (os : List SO) : Out :=
 bd (qc (qj tab os 23 x0 x5) os) fun v10 o10=>
 bd (qc (qa tab 47 v10 2) o10) fun v11 o11=>
 bd (qc (qf tab o11 45 v11) o11) fun v12 o12=>
 bd (ze tab 45 o12 v12) fun v13 o13=>
 bd (qc (qw tab .lss 3 x6 v13) o13) fun v14 o14=>
 qE v14 (bd (qc (qj tab o14 23 x0 x5) o14) fun v15 o15 =>
 bd (qc (qa tab 47 v15 2) o15) fun v16 o16=>
 bd (qc (qf tab o16 45 v16) o16) fun v17 o17=>
 bd (qc (qj tab o17 45 v17 x6) o17) fun v18 o18=>
 bd (qc (qa tab 68 v18 0) o18) fun v19 o19=>
 bd (qc (qf tab o19 3 v19) o19) fun v20 o20=>
 bd (qc (qj tab o20 23 x0 x5) o20) fun v21 o21=>
 bd (qc (qa tab 47 v21 2) o21) fun v22 o22=>
 bd (qc (qf tab o22 45 v22) o22) fun v23 o23=>
 bd (qc (qj tab o23 45 v23 x6) o23) fun v24 o24=>
 bd (qc (qa tab 68 v24 1) o24) fun v25 o25=>
 bd (qc (qf tab o25 3 v25) o25) fun v26 o26=>
 bd (qc (qj tab o26 24 x3 v20) o26) fun v27 o27=>
 bd (qp tab o27 3 v27 (some v26)) fun v28 o28=>
 bd (qc (qw tab .add 3 x6 (.v (.int .i64 1))) o28) fun v29 o29=>
 Kj K N nl m7 m10 x0 x3 x5 v29 o29)
 (bd (qc (qw tab .add 3 x5 (.v (.int .i64 1))) o14) fun v30 o30 =>
 Yk K N nl m7 x0 x3 v30 o30)
noncomputable def X48 (K : zKT) (N nl : Nat) (x0 : SV) (os : List SO) : Out := qA (cx K) N nl xH c48 [(0, x0)] os (qV tab [] nl qi9)
noncomputable def B48 (K : zKT) (N nl : Nat) (x0 : SV) (os : List SO) : Out :=
 bd (evN tab 24 os none) fun v1 o1=>
 bd (qax tab o1 24 (.v (.int .i64 6)) (.v (.int .i64 6))) fun v2 o2=>
 qa9 K N nl N x0 v2 (.v (.int .i64 0)) o2
noncomputable def bk49_8 (K : zKT) (N nl : Nat) (m8 : Nat) : Env → List SO → Out := fun env os => q8 nl (fi49.lp 8) (fun env os nx => qA (cx K) N nl fi49 (qM c49 [1, 1, 1, 1, 1, 1, 0, 0, 0]) env os (qP nx (qu 0 (zu (qA (cx K) N nl fi49 (qM c49 [1, 1, 1, 1, 1, 1, 1])) (fi49.jn 10) (qV tab [] nl rs49))))) m8 (zB (fi49.lp 8).alive env) os
noncomputable def X50 (K : zKT) (N nl : Nat) (x0 : SV) (os : List SO) : Out := qA (cx K) N nl fi50 c50 [(0, x0)] os (qV tab [] nl rs50)
noncomputable def B50 (K : zKT) (N nl : Nat) (x0 : SV) (os : List SO) : Out :=
 bd (qn ⟨tab, qm, K⟩ os 51 [x0, (.v (.int .i64 (-2))), (.v (.int .i64 9))]) fun v1 o1=>
 bd (qc (unS .not v1) o1) fun v2 o2=>
 zq tab nl o2 (qx (some v2) (some []))
noncomputable def X51 (K : zKT) (N nl : Nat) (x0 x1 x2 : SV) (os : List SO) : Out := qA (cx K) N nl fi51 c51 [(0, x0), (1, x1), (2, x2)] os (qV tab [] nl rs51)
noncomputable def B51 (K : zKT) (N nl : Nat) (x0 x1 x2 : SV) (os : List SO) : Out :=
 bd (qc (qw tab .geq 3 x0 x1) os) fun v1 o1=>
 bd (gd v1 true (some (x0, o1)) o1) fun v2 o2=>
 bd (gd v1 true (some (x2, o2)) o2) fun v3 o3=>
 bd (gd v1 true (qc (qw tab .leq 3 v2 v3) o3) o3) fun v4 o4=>
 bd (qc (qL v1 v4 (.v (.bool false))) o4) fun v5 o5=>
 zq tab nl o5 (qx (some v5) (some []))
noncomputable def X52 (K : zKT) (N nl : Nat) (x0 x1 : SV) (os : List SO) : Out := qA (cx K) N nl fi52 c52 [(0, x0), (1, x1)] os (qV tab [] nl rs52)
noncomputable def B52 (K : zKT) (N nl : Nat) (x0 x1 : SV) (os : List SO) : Out :=
 bd (qn ⟨tab, qm, K⟩ os 77 [x0, x1]) fun v1 o1=>
 bd (qc (qw tab .geq 3 v1 (.v (.int .i64 0))) o1) fun v2 o2=>
 zq tab nl o2 (qx (some v2) (some []))
noncomputable def J1 (K : zKT) (N nl : Nat) (m5 : Nat) : Env → List SO → Out := fun env os => q8 nl (xM.lp 5) (fun env os nx => qA (cx K) N nl xM (qM c53 [1, 1, 1, 0, 1, 0, 0]) env os (qP nx (qu 0 (zu (qA (cx K) N nl xM (qM c53 [1, 1, 1, 1])) (xM.jn 17) (qV tab [] nl qja))))) m5 (zB (xM.lp 5).alive env) os
noncomputable def qjl (K : zKT) (N nl : Nat) (m5 : Nat) (m10 : Nat) : Env → List SO → Out := fun env os => q8 nl (xM.lp 10) (fun env os nx => qA (cx K) N nl xM (qM c53 [1, 1, 1, 0, 1, 0, 0, 1, 1, 0, 0, 1, 1, 1, 0, 0]) env os (qP nx (qu 2 (qu 1 (zu (qA (cx K) N nl xM (qM c53 [1, 1, 1, 0, 1, 0, 0, 1, 1, 1])) (xM.jn 16) (qP (J1 K N nl m5) (qu 0 (zu (qA (cx K) N nl xM (qM c53 [1, 1, 1, 1])) (xM.jn 17) (qV tab [] nl qja))))))))) m10 (zB (xM.lp 10).alive env) os
noncomputable def Yl (K : zKT) (N nl : Nat) (m5 : Nat) (x1 x3 x11 x12 x13 : SV) (os : List SO) : Out := q8 nl (xM.lp 5) (fun env os nx => qA (cx K) N nl xM (qM c53 [1, 1, 1, 0, 1, 0, 0]) env os (qP nx (qu 0 (zu (qA (cx K) N nl xM (qM c53 [1, 1, 1, 1])) (xM.jn 17) (qV tab [] nl qja))))) m5 [(1, x1), (3, x3), (11, x11), (12, x12), (13, x13)] os
noncomputable def qba (K : zKT) (N nl : Nat) (m5 : Nat) (xs : List SV) (os : List SO) : Out := (fun env os nx => qA (cx K) N nl xM (qM c53 [1, 1, 1, 0, 1, 0, 0]) env os (qP nx (qu 0 (zu (qA (cx K) N nl xM (qM c53 [1, 1, 1, 1])) (xM.jn 17) (qV tab [] nl qja))))) (jX [1, 3, 11, 12, 13] xs) os (J1 K N nl m5)
noncomputable def Kk (K : zKT) (N nl : Nat) (m5 : Nat) (m10 : Nat) (x1 x3 x11 x12 x13 x38 x39 x40 : SV) (os : List SO) : Out := q8 nl (xM.lp 10) (fun env os nx => qA (cx K) N nl xM (qM c53 [1, 1, 1, 0, 1, 0, 0, 1, 1, 0, 0, 1, 1, 1, 0, 0]) env os (qP nx (qu 2 (qu 1 (zu (qA (cx K) N nl xM (qM c53 [1, 1, 1, 0, 1, 0, 0, 1, 1, 1])) (xM.jn 16) (qP (J1 K N nl m5) (qu 0 (zu (qA (cx K) N nl xM (qM c53 [1, 1, 1, 1])) (xM.jn 17) (qV tab [] nl qja))))))))) m10 [(1, x1), (3, x3), (11, x11), (12, x12), (13, x13), (38, x38), (39, x39), (40, x40)] os
noncomputable def Kl (K : zKT) (N nl : Nat) (m5 : Nat) (m10 : Nat) (xs : List SV) (os : List SO) : Out := (fun env os nx => qA (cx K) N nl xM (qM c53 [1, 1, 1, 0, 1, 0, 0, 1, 1, 0, 0, 1, 1, 1, 0, 0]) env os (qP nx (qu 2 (qu 1 (zu (qA (cx K) N nl xM (qM c53 [1, 1, 1, 0, 1, 0, 0, 1, 1, 1])) (xM.jn 16) (qP (J1 K N nl m5) (qu 0 (zu (qA (cx K) N nl xM (qM c53 [1, 1, 1, 1])) (xM.jn 17) (qV tab [] nl qja))))))))) (jX [1, 3, 11, 12, 13, 38, 39, 40] xs) os (qjl K N nl m5 m10)
noncomputable def qdS (K : zKT) (N nl : Nat) (m5 : Nat) (x1 x3 x11 x12 x13 : SV) (os : List SO) : Out :=
 bd (qc (qw tab .lss 3 x13 x12) os) fun v8 o8=>
 qE v8 (bd (qc (qj tab o8 23 x11 x13) o8) fun v9 o9 =>
 bd (qc (qf tab o9 47 v9) o9) fun v10 o10=>
 bd (qD tab o10 47) fun v11 o11=>
 bd (qp tab o11 47 v11 (some v10)) fun v12 o12=>
 bd (qc (qw tab .gtr 3 x13 (.v (.int .i64 0))) o12) fun v13 o13=>
 bd (gd v13 true (qc (qf tab o13 23 x1) o13) o13) fun v14 o14=>
 bd (gd v13 true (some (x13, o14)) o14) fun v15 o15=>
 bd (gd v13 true (qc (qw tab .sub 3 v15 (.v (.int .i64 1))) o15) o15) fun v16 o16=>
 bd (gd v13 true (qc (qj tab o16 23 v14 v16) o16) o16) fun v17 o17=>
 bd (gd v13 true (qc (qa tab 47 v17 0) o17) o17) fun v18 o18=>
 bd (gd v13 true (qc (qf tab o18 3 v18) o18) o18) fun v19 o19=>
 bd (gd v13 true (qc (qa tab 47 v11 0) o19) o19) fun v20 o20=>
 bd (gd v13 true (qc (qf tab o20 3 v20) o20) o20) fun v21 o21=>
 bd (gd v13 true (qc (qw tab .eql 3 v19 v21) o21) o21) fun v22 o22=>
 bd (qc (qL v13 v22 (.v (.bool false))) o22) fun v23 o23=>
 bd (gd v23 false (qc (qa tab 47 v11 3) o23) o23) fun v24 o24=>
 bd (gd v23 false (qc (qf tab o24 44 v24) o24) o24) fun v25 o25=>
 bd (gd v23 false (some ((SV.fn 80 [x1]), o25)) o25) fun v26 o26=>
 bd (gd v23 false (qn ⟨tab, qm, K⟩ o26 79 [v25, v26]) o26) fun v27 o27=>
 bd (qc (qL v23 (.v (.bool true)) v27) o27) fun v28 o28=>
 qE v28 (zq tab nl o28 (qx (some (.v (.bool false))) (some [])))
 (bd (qc (qa tab 47 v11 2) o28) fun v29 o29 =>
 bd (qc (qf tab o29 45 v29) o29) fun v30 o30=>
 bd (ze tab 45 o30 v30) fun v31 o31=>
 Kk K N nl m5 N x1 x3 x11 x12 x13 v30 v31 (.v (.int .i64 0)) o31))
 (zq tab nl o8 (qx (some (.v (.bool true))) (some [])))
noncomputable def Xw (K : zKT) (N nl : Nat) (m5 : Nat) (m10 : Nat) (x1 x3 x11 x12 x13 x38 x39 x40 : SV) (os : List SO) : Out :=
 bd (qc (qw tab .lss 3 x40 x39) os) fun v32 o32=>
 qE v32 (bd (qc (qj tab o32 45 x38 x40) o32) fun v33 o33 =>
 bd (qc (qf tab o33 68 v33) o33) fun v34 o34=>
 bd (qD tab o34 68) fun v35 o35=>
 bd (qp tab o35 68 v35 (some v34)) fun v36 o36=>
 bd (qc (qa tab 68 v35 0) o36) fun v37 o37=>
 bd (qc (qf tab o37 3 v37) o37) fun v38 o38=>
 bd (qc (qj tab o38 87 x3 v38) o38) fun v39 o39=>
 bd (qc (qf tab o39 4 v39) o39) fun v40 o40=>
 qE v40 (zq tab nl o40 (qx (some (.v (.bool false))) (some [])))
 (bd (qc (qa tab 68 v35 0) o40) fun v41 o41 =>
 bd (qc (qf tab o41 3 v41) o41) fun v42 o42=>
 bd (qc (qj tab o42 87 x3 v42) o42) fun v43 o43=>
 bd (qp tab o43 4 v43 (some (.v (.bool true)))) fun v44 o44=>
 bd (qc (qw tab .add 3 x40 (.v (.int .i64 1))) o44) fun v45 o45=>
 Kk K N nl m5 m10 x1 x3 x11 x12 x13 x38 x39 v45 o45))
 (bd (qc (qw tab .add 3 x13 (.v (.int .i64 1))) o32) fun v46 o46 =>
 Yl K N nl m5 x1 x3 x11 x12 v46 o46)
noncomputable def X53 (K : zKT) (N nl : Nat) (x0 : SV) (os : List SO) : Out := qA (cx K) N nl xM c53 [(0, x0)] os (qV tab [] nl qja)
noncomputable def B53 (K : zKT) (N nl : Nat) (x0 : SV) (os : List SO) : Out :=
 bd (wt tab os 23 (some x0)) fun v1 o1=>
 bd (qc (qf tab o1 23 v1) o1) fun v2 o2=>
 bd (qn ⟨tab, qm, K⟩ o2 78 [v2]) fun v3 o3=>
 bd (qc (unS .not v3) o3) fun v4 o4=>
 qE v4 (zq tab nl o4 (qx (some (.v (.bool false))) (some [])))
 (bd (qD tab o4 87) fun v5 o5 =>
 bd (qc (qf tab o5 23 v1) o5) fun v6 o6=>
 bd (ze tab 23 o6 v6) fun v7 o7=>
 Yl K N nl N v1 v5 v6 v7 (.v (.int .i64 0)) o7)
noncomputable def Xx (K : zKT) (N nl : Nat) (x0 x4 x5 : SV) (os : List SO) : Out := qA (cx K) N nl fi54 (qM c54 [1, 1, 1]) [(0, x0), (4, x4), (5, x5)] os (qV tab [3] nl rs54)
noncomputable def Km (K : zKT) (N nl : Nat) (x4 x5 : SV) (os : List SO) : Out := qA (cx K) N nl fi54 (qM c54 [1, 1, 1, 1]) [(4, x4), (5, x5)] os (qV tab [3] nl rs54)
noncomputable def qdT (K : zKT) (N nl : Nat) (x0 x4 x5 : SV) (os : List SO) : Out :=
 bd (qn ⟨tab, qm, K⟩ os 43 [x0, (.v (.int .i64 24))]) fun v23 o23=>
 bd (qc (qw tab .eql 3 v23 (.v (.int .i64 0))) o23) fun v24 o24=>
 qE v24 (bd (qn ⟨tab, qm, K⟩ o24 43 [x0, (.v (.int .i64 6))]) fun v25 o25 =>
 bd (qc (qa tab 34 x5 0) o25) fun v26 o26=>
 bd (qp tab o26 3 v26 (some v25)) fun v27 o27=>
 Km K N nl x4 x5 o27)
 (bd (qc (qw tab .eql 3 v23 (.v (.int .i64 1))) o24) fun v28 o28 =>
 qE v28 (bd (qn ⟨tab, qm, K⟩ o28 43 [x0, (.v (.int .i64 7))]) fun v29 o29 =>
 bd (qc (qa tab 34 x5 1) o29) fun v30 o30=>
 bd (qp tab o30 3 v30 (some v29)) fun v31 o31=>
 Km K N nl x4 x5 o31)
 (bd (qc (qw tab .eql 3 v23 (.v (.int .i64 2))) o28) fun v32 o32 =>
 qE v32 (bd (qn ⟨tab, qm, K⟩ o32 43 [x0, (.v (.int .i64 14))]) fun v33 o33 =>
 bd (qc (qw tab .sub 3 v33 (.v (.int .i64 3))) o33) fun v34 o34=>
 bd (qc (qa tab 34 x5 2) o34) fun v35 o35=>
 bd (qp tab o35 3 v35 (some v34)) fun v36 o36=>
 Km K N nl x4 x5 o36)
 (Km K N nl x4 x5 o32)))
noncomputable def Xy (K : zKT) (N nl : Nat) (x4 x5 : SV) (os : List SO) : Out :=
 bd (qc (qf tab os 34 x5) os) fun v37 o37=>
 bd (qp tab o37 34 x4 (some v37)) fun v38 o38=>
 kY tab [3] nl o38 (qx (qf tab o38 34 x4) (some []))
noncomputable def X54 (K : zKT) (N nl : Nat) (x0 x1 : SV) (os : List SO) : Out := qA (cx K) N nl fi54 c54 [(0, x0), (1, x1)] os (qV tab [3] nl rs54)
noncomputable def B54 (K : zKT) (N nl : Nat) (x0 x1 : SV) (os : List SO) : Out :=
 bd (qD tab os 34) fun v1 o1=>
 bd (qn ⟨tab, qm, K⟩ o1 43 [x0, (.v (.int .i64 4))]) fun v2 o2=>
 bd (qc (qw tab .add 3 (.v (.int .i64 1)) v2) o2) fun v3 o3=>
 bd (zL tab o3 34 [(0, (some v3))]) fun v4 o4=>
 bd (qD tab o4 34) fun v5 o5=>
 bd (qp tab o5 34 v5 (some v4)) fun v6 o6=>
 bd (qc (qa tab 34 v5 0) o6) fun v7 o7=>
 bd (qc (qf tab o7 3 v7) o7) fun v8 o8=>
 bd (qc (qw tab .eql 3 v8 (.v (.int .i64 2))) o8) fun v9 o9=>
 qE v9 (bd (qn ⟨tab, qm, K⟩ o9 43 [x0, (.v (.int .i64 6))]) fun v10 o10 =>
 bd (qc (qa tab 34 v5 1) o10) fun v11 o11=>
 bd (qp tab o11 3 v11 (some v10)) fun v12 o12=>
 bd (qn ⟨tab, qm, K⟩ o12 43 [x0, (.v (.int .i64 11))]) fun v13 o13=>
 bd (qc (qw tab .sub 3 v13 (.v (.int .i64 1))) o13) fun v14 o14=>
 bd (qc (qa tab 34 v5 2) o14) fun v15 o15=>
 bd (qp tab o15 3 v15 (some v14)) fun v16 o16=>
 Xx K N nl x0 v1 v5 o16)
 (bd (qc (qw tab .eql 3 v8 (.v (.int .i64 1))) o9) fun v17 o17 =>
 qE v17 (qE v17 (bd (qc (qa tab 34 v5 3) o17) fun v18 o18 =>
 bd (qp tab o18 23 v18 (some x1)) fun v19 o19=>
 Xx K N nl x0 v1 v5 o19)
 (Xx K N nl x0 v1 v5 o17))
 (bd (qc (qw tab .eql 3 v8 (.v (.int .i64 3))) o17) fun v20 o20 =>
 qE v20 (bd (qc (qa tab 34 v5 3) o20) fun v21 o21 =>
 bd (qp tab o21 23 v21 (some x1)) fun v22 o22=>
 Xx K N nl x0 v1 v5 o22)
 (Xx K N nl x0 v1 v5 o20)))
noncomputable def J55_9 (K : zKT) (N nl : Nat) (os : List SO) : Out := qA (cx K) N nl fi55 (qM c55 [1, 1]) [] os (qV tab [] nl rs55)
noncomputable def X55 (K : zKT) (N nl : Nat) (x0 : SV) (os : List SO) : Out := qA (cx K) N nl fi55 c55 [(0, x0)] os (qV tab [] nl rs55)
noncomputable def B55 (K : zKT) (N nl : Nat) (x0 : SV) (os : List SO) : Out :=
 bd (wt tab os 34 (some x0)) fun v1 o1=>
 bd (qc (qa tab 34 v1 0) o1) fun v2 o2=>
 bd (qc (qf tab o2 3 v2) o2) fun v3 o3=>
 bd (qc (qw tab .eql 3 v3 (.v (.int .i64 1))) o3) fun v4 o4=>
 qE v4 (qE v4 (bd (qc (qa tab 34 v1 1) o4) fun v5 o5 =>
 bd (qc (qf tab o5 3 v5) o5) fun v6 o6=>
 bd (qc (qw tab .eql 3 v6 (.v (.int .i64 0))) o6) fun v7 o7=>
 bd (gd v7 true (qc (qa tab 34 v1 2) o7) o7) fun v8 o8=>
 bd (gd v7 true (qc (qf tab o8 3 v8) o8) o8) fun v9 o9=>
 bd (gd v7 true (qc (qw tab .eql 3 v9 (.v (.int .i64 0))) o9) o9) fun v10 o10=>
 bd (qc (qL v7 v10 (.v (.bool false))) o10) fun v11 o11=>
 bd (gd v11 true (qc (qa tab 34 v1 3) o11) o11) fun v12 o12=>
 bd (gd v11 true (qc (qf tab o12 23 v12) o12) o12) fun v13 o13=>
 bd (gd v11 true (qn ⟨tab, qm, K⟩ o13 63 [v13]) o13) fun v14 o14=>
 bd (qc (qL v11 v14 (.v (.bool false))) o14) fun v15 o15=>
 zq tab nl o15 (qx (some v15) (some [])))
 (bd (qc (qw tab .eql 3 v3 (.v (.int .i64 2))) o4) fun v16 o16 =>
 qE v16 (bd (qc (qa tab 34 v1 1) o16) fun v17 o17 =>
 bd (qc (qf tab o17 3 v17) o17) fun v18 o18=>
 bd (qn ⟨tab, qm, K⟩ o18 62 [v18, (.v (.int .i64 0)), (.v (.int .i64 5))]) fun v19 o19=>
 bd (gd v19 true (qc (qa tab 34 v1 2) o19) o19) fun v20 o20=>
 bd (gd v19 true (qc (qf tab o20 3 v20) o20) o20) fun v21 o21=>
 bd (gd v19 true (qn ⟨tab, qm, K⟩ o21 62 [v21, (.v (.int .i64 (-1))), (.v (.int .i64 9))]) o21) fun v22 o22=>
 bd (qc (qL v19 v22 (.v (.bool false))) o22) fun v23 o23=>
 bd (gd v23 true (qc (qa tab 34 v1 3) o23) o23) fun v24 o24=>
 bd (gd v23 true (qc (qf tab o24 23 v24) o24) o24) fun v25 o25=>
 bd (gd v23 true (ze tab 23 o25 v25) o25) fun v26 o26=>
 bd (gd v23 true (qc (qw tab .eql 3 v26 (.v (.int .i64 0))) o26) o26) fun v27 o27=>
 bd (qc (qL v23 v27 (.v (.bool false))) o27) fun v28 o28=>
 zq tab nl o28 (qx (some v28) (some [])))
 (bd (qc (qw tab .eql 3 v3 (.v (.int .i64 4))) o16) fun v29 o29 =>
 qE v29 (bd (qc (qa tab 34 v1 1) o29) fun v30 o30 =>
 bd (qc (qf tab o30 3 v30) o30) fun v31 o31=>
 bd (qc (qw tab .eql 3 v31 (.v (.int .i64 0))) o31) fun v32 o32=>
 bd (gd v32 true (qc (qa tab 34 v1 2) o32) o32) fun v33 o33=>
 bd (gd v32 true (qc (qf tab o33 3 v33) o33) o33) fun v34 o34=>
 bd (gd v32 true (qc (qw tab .eql 3 v34 (.v (.int .i64 0))) o34) o34) fun v35 o35=>
 bd (qc (qL v32 v35 (.v (.bool false))) o35) fun v36 o36=>
 bd (gd v36 true (qc (qa tab 34 v1 3) o36) o36) fun v37 o37=>
 bd (gd v36 true (qc (qf tab o37 23 v37) o37) o37) fun v38 o38=>
 bd (gd v36 true (ze tab 23 o38 v38) o38) fun v39 o39=>
 bd (gd v36 true (qc (qw tab .eql 3 v39 (.v (.int .i64 0))) o39) o39) fun v40 o40=>
 bd (qc (qL v36 v40 (.v (.bool false))) o40) fun v41 o41=>
 zq tab nl o41 (qx (some v41) (some [])))
 (J55_9 K N nl o29))))
 (bd (qc (qw tab .eql 3 v3 (.v (.int .i64 3))) o4) fun v42 o42 =>
 qE v42 (bd (qc (qa tab 34 v1 1) o42) fun v43 o43 =>
 bd (qc (qf tab o43 3 v43) o43) fun v44 o44=>
 bd (qc (qw tab .eql 3 v44 (.v (.int .i64 0))) o44) fun v45 o45=>
 bd (gd v45 true (qc (qa tab 34 v1 2) o45) o45) fun v46 o46=>
 bd (gd v45 true (qc (qf tab o46 3 v46) o46) o46) fun v47 o47=>
 bd (gd v45 true (qc (qw tab .eql 3 v47 (.v (.int .i64 0))) o47) o47) fun v48 o48=>
 bd (qc (qL v45 v48 (.v (.bool false))) o48) fun v49 o49=>
 bd (gd v49 true (qc (qa tab 34 v1 3) o49) o49) fun v50 o50=>
 bd (gd v49 true (qc (qf tab o50 23 v50) o50) o50) fun v51 o51=>
 bd (gd v49 true (qn ⟨tab, qm, K⟩ o51 63 [v51]) o51) fun v52 o52=>
 bd (qc (qL v49 v52 (.v (.bool false))) o52) fun v53 o53=>
 zq tab nl o53 (qx (some v53) (some [])))
 (bd (qc (qw tab .eql 3 v3 (.v (.int .i64 2))) o42) fun v54 o54 =>
 qE v54 (bd (qc (qa tab 34 v1 1) o54) fun v55 o55 =>
 bd (qc (qf tab o55 3 v55) o55) fun v56 o56=>
 bd (qn ⟨tab, qm, K⟩ o56 62 [v56, (.v (.int .i64 0)), (.v (.int .i64 5))]) fun v57 o57=>
 bd (gd v57 true (qc (qa tab 34 v1 2) o57) o57) fun v58 o58=>
 bd (gd v57 true (qc (qf tab o58 3 v58) o58) o58) fun v59 o59=>
 bd (gd v57 true (qn ⟨tab, qm, K⟩ o59 62 [v59, (.v (.int .i64 (-1))), (.v (.int .i64 9))]) o59) fun v60 o60=>
 bd (qc (qL v57 v60 (.v (.bool false))) o60) fun v61 o61=>
 bd (gd v61 true (qc (qa tab 34 v1 3) o61) o61) fun v62 o62=>
 bd (gd v61 true (qc (qf tab o62 23 v62) o62) o62) fun v63 o63=>
 bd (gd v61 true (ze tab 23 o63 v63) o63) fun v64 o64=>
 bd (gd v61 true (qc (qw tab .eql 3 v64 (.v (.int .i64 0))) o64) o64) fun v65 o65=>
 bd (qc (qL v61 v65 (.v (.bool false))) o65) fun v66 o66=>
 zq tab nl o66 (qx (some v66) (some [])))
 (bd (qc (qw tab .eql 3 v3 (.v (.int .i64 4))) o54) fun v67 o67 =>
 qE v67 (bd (qc (qa tab 34 v1 1) o67) fun v68 o68 =>
 bd (qc (qf tab o68 3 v68) o68) fun v69 o69=>
 bd (qc (qw tab .eql 3 v69 (.v (.int .i64 0))) o69) fun v70 o70=>
 bd (gd v70 true (qc (qa tab 34 v1 2) o70) o70) fun v71 o71=>
 bd (gd v70 true (qc (qf tab o71 3 v71) o71) o71) fun v72 o72=>
 bd (gd v70 true (qc (qw tab .eql 3 v72 (.v (.int .i64 0))) o72) o72) fun v73 o73=>
 bd (qc (qL v70 v73 (.v (.bool false))) o73) fun v74 o74=>
 bd (gd v74 true (qc (qa tab 34 v1 3) o74) o74) fun v75 o75=>
 bd (gd v74 true (qc (qf tab o75 23 v75) o75) o75) fun v76 o76=>
 bd (gd v74 true (ze tab 23 o76 v76) o76) fun v77 o77=>
 bd (gd v74 true (qc (qw tab .eql 3 v77 (.v (.int .i64 0))) o77) o77) fun v78 o78=>
 bd (qc (qL v74 v78 (.v (.bool false))) o78) fun v79 o79=>
 zq tab nl o79 (qx (some v79) (some [])))
 (J55_9 K N nl o67))))
noncomputable def Zp (K : zKT) (N nl : Nat) (x2 x4 : SV) (os : List SO) : Out := qA (cx K) N nl fi56 (qM c56 [1, 1]) [(2, x2), (4, x4)] os (qV tab [0, 3] nl rs56)
noncomputable def Xz (K : zKT) (N nl : Nat) (x2 x4 : SV) (os : List SO) : Out :=
 bd (qc (qf tab os 26 x2) os) fun v35 o35=>
 bd (qp tab o35 26 x4 (some v35)) fun v36 o36=>
 kY tab [0, 3] nl o36 (qx (qf tab o36 26 x4) (some []))
noncomputable def X56 (K : zKT) (N nl : Nat) (x0 x1 : SV) (os : List SO) : Out := qA (cx K) N nl fi56 c56 [(0, x0), (1, x1)] os (qV tab [0, 3] nl rs56)
noncomputable def B56 (K : zKT) (N nl : Nat) (x0 x1 : SV) (os : List SO) : Out :=
 bd (wt tab os 26 (some x0)) fun v1 o1=>
 bd (wt tab o1 34 (some x1)) fun v2 o2=>
 bd (qD tab o2 26) fun v3 o3=>
 bd (qc (qa tab 34 v2 0) o3) fun v4 o4=>
 bd (qc (qf tab o4 3 v4) o4) fun v5 o5=>
 bd (qc (qw tab .eql 3 v5 (.v (.int .i64 1))) o5) fun v6 o6=>
 qE v6 (bd (qc (qa tab 26 v1 2) o6) fun v7 o7 =>
 bd (qp tab o7 4 v7 (some (.v (.bool true)))) fun v8 o8=>
 bd (qc (qa tab 34 v2 3) o8) fun v9 o9=>
 bd (qc (qf tab o9 23 v9) o9) fun v10 o10=>
 bd (qn ⟨tab, qm, K⟩ o10 82 [v10]) fun v11 o11=>
 bd (qc (qa tab 26 v1 3) o11) fun v12 o12=>
 bd (qp tab o12 23 v12 (some v11)) fun v13 o13=>
 Zp K N nl v1 v3 o13)
 (bd (qc (qw tab .eql 3 v5 (.v (.int .i64 2))) o6) fun v14 o14 =>
 qE v14 (bd (qc (qa tab 26 v1 1) o14) fun v15 o15 =>
 bd (qc (qf tab o15 24 v15) o15) fun v16 o16=>
 bd (qc (qa tab 34 v2 1) o16) fun v17 o17=>
 bd (qc (qf tab o17 3 v17) o17) fun v18 o18=>
 bd (qc (qa tab 34 v2 2) o18) fun v19 o19=>
 bd (qc (qf tab o19 3 v19) o19) fun v20 o20=>
 bd (qc (qj tab o20 24 v16 v18) o20) fun v21 o21=>
 bd (qp tab o21 3 v21 (some v20)) fun v22 o22=>
 Zp K N nl v1 v3 o22)
 (bd (qc (qw tab .eql 3 v5 (.v (.int .i64 3))) o14) fun v23 o23 =>
 qE v23 (bd (qc (qa tab 34 v2 3) o23) fun v24 o24 =>
 bd (qc (qf tab o24 23 v24) o24) fun v25 o25=>
 bd (qn ⟨tab, qm, K⟩ o25 82 [v25]) fun v26 o26=>
 bd (qc (qa tab 26 v1 0) o26) fun v27 o27=>
 bd (qp tab o27 23 v27 (some v26)) fun v28 o28=>
 Zp K N nl v1 v3 o28)
 (bd (qc (qw tab .eql 3 v5 (.v (.int .i64 4))) o23) fun v29 o29 =>
 qE v29 (bd (qc (qa tab 26 v1 2) o29) fun v30 o30 =>
 bd (qp tab o30 4 v30 (some (.v (.bool false)))) fun v31 o31=>
 bd (qv tab o31 23 0 []) fun v32 o32=>
 bd (qc (qa tab 26 v1 3) o32) fun v33 o33=>
 bd (qp tab o33 23 v33 (some v32)) fun v34 o34=>
 Zp K N nl v1 v3 o34)
 (Zp K N nl v1 v3 o29))))
noncomputable def X57 (K : zKT) (N nl : Nat) (x0 : SV) (os : List SO) : Out := qA (cx K) N nl fi57 c57 [(0, x0)] os (qV tab [0, 3] nl rs57)
noncomputable def B57 (K : zKT) (N nl : Nat) (x0 : SV) (os : List SO) : Out :=
 bd (wt tab os 26 (some x0)) fun v1 o1=>
 bd (qD tab o1 26) fun v2 o2=>
 wZ (wZ (wZ (bd (qc (qa tab 26 v1 0) o2) fun v3 o3 =>
 bd (qc (qf tab o3 23 v3) o3) fun v4 o4=>
 zQ (zy ⟨tab, qm, K⟩ o4 (SV.fn 82 []) [v4] [] true) <|
 bd (qn ⟨tab, qm, K⟩ o4 82 [v4]) fun v5 o5=>
 bd (qv tab o5 24 0 []) fun v6 o6=>
 bd (qc (qa tab 26 v1 1) o6) fun v7 o7=>
 zQ (zv v7) <|
 bd (qc (qf tab o7 24 v7) o7) fun v8 o8=>
 bd (zx tab o8 24 24 v6 v8) fun v9 o9=>
 bd (qc (qa tab 26 v1 2) o9) fun v10 o10=>
 zQ (zv v10) <|
 bd (qc (qf tab o10 4 v10) o10) fun v11 o11=>
 bd (qc (qa tab 26 v1 3) o11) fun v12 o12=>
 bd (qc (qf tab o12 23 v12) o12) fun v13 o13=>
 zQ (zy ⟨tab, qm, K⟩ o13 (SV.fn 82 []) [v13] [v10] false) <|
 bd (qn ⟨tab, qm, K⟩ o13 82 [v13]) fun v14 o14=>
 bd (zL tab o14 26 [(0, (some v5)), (1, (some v9)), (2, (some v11)), (3, (some v14))]) fun v15 o15=>
 bd (qp tab o15 26 v2 (some v15)) fun v16 o16=>
 kY tab [0, 3] nl o16 (qx (qf tab o16 26 v2) (some [])))
 (bd (qc (qa tab 26 v1 0) o2) fun v17 o17 =>
 bd (qc (qf tab o17 23 v17) o17) fun v18 o18=>
 zQ (zy ⟨tab, qm, K⟩ o18 (SV.fn 82 []) [v18] [] true) <|
 bd (qn ⟨tab, qm, K⟩ o18 82 [v18]) fun v19 o19=>
 bd (qv tab o19 24 0 []) fun v20 o20=>
 bd (qc (qa tab 26 v1 1) o20) fun v21 o21=>
 zQ (zv v21) <|
 bd (qc (qf tab o21 24 v21) o21) fun v22 o22=>
 bd (qc (qa tab 26 v1 2) o22) fun v23 o23=>
 bd (qc (qa tab 26 v1 3) o23) fun v24 o24=>
 zQ (zv v24) <|
 bd (qc (qf tab o24 23 v24) o24) fun v25 o25=>
 bd (zx tab o25 24 24 v20 v22) fun v26 o26=>
 zQ (zv v23) <|
 bd (qc (qf tab o26 4 v23) o26) fun v27 o27=>
 zQ (zy ⟨tab, qm, K⟩ o27 (SV.fn 82 []) [v25] [v23] false) <|
 bd (qn ⟨tab, qm, K⟩ o27 82 [v25]) fun v28 o28=>
 bd (zL tab o28 26 [(0, (some v19)), (1, (some v26)), (2, (some v27)), (3, (some v28))]) fun v29 o29=>
 bd (qp tab o29 26 v2 (some v29)) fun v30 o30=>
 kY tab [0, 3] nl o30 (qx (qf tab o30 26 v2) (some []))))
 (wZ (bd (qc (qa tab 26 v1 0) o2) fun v31 o31 =>
 bd (qc (qf tab o31 23 v31) o31) fun v32 o32=>
 zQ (zy ⟨tab, qm, K⟩ o32 (SV.fn 82 []) [v32] [] true) <|
 bd (qn ⟨tab, qm, K⟩ o32 82 [v32]) fun v33 o33=>
 bd (qv tab o33 24 0 []) fun v34 o34=>
 bd (qc (qa tab 26 v1 1) o34) fun v35 o35=>
 zQ (zv v35) <|
 bd (qc (qf tab o35 24 v35) o35) fun v36 o36=>
 bd (qc (qa tab 26 v1 2) o36) fun v37 o37=>
 zQ (zv v37) <|
 bd (qc (qf tab o37 4 v37) o37) fun v38 o38=>
 bd (zx tab o38 24 24 v34 v36) fun v39 o39=>
 bd (qc (qa tab 26 v1 3) o39) fun v40 o40=>
 bd (qc (qf tab o40 23 v40) o40) fun v41 o41=>
 bd (qn ⟨tab, qm, K⟩ o41 82 [v41]) fun v42 o42=>
 bd (zL tab o42 26 [(0, (some v33)), (1, (some v39)), (2, (some v38)), (3, (some v42))]) fun v43 o43=>
 bd (qp tab o43 26 v2 (some v43)) fun v44 o44=>
 kY tab [0, 3] nl o44 (qx (qf tab o44 26 v2) (some [])))
 (bd (qc (qa tab 26 v1 0) o2) fun v45 o45 =>
 bd (qc (qf tab o45 23 v45) o45) fun v46 o46=>
 zQ (zy ⟨tab, qm, K⟩ o46 (SV.fn 82 []) [v46] [] true) <|
 bd (qn ⟨tab, qm, K⟩ o46 82 [v46]) fun v47 o47=>
 bd (qv tab o47 24 0 []) fun v48 o48=>
 bd (qc (qa tab 26 v1 1) o48) fun v49 o49=>
 zQ (zv v49) <|
 bd (qc (qf tab o49 24 v49) o49) fun v50 o50=>
 bd (qc (qa tab 26 v1 2) o50) fun v51 o51=>
 zQ (zv v51) <|
 bd (qc (qf tab o51 4 v51) o51) fun v52 o52=>
 bd (qc (qa tab 26 v1 3) o52) fun v53 o53=>
 zQ (zv v53) <|
 bd (qc (qf tab o53 23 v53) o53) fun v54 o54=>
 bd (zx tab o54 24 24 v48 v50) fun v55 o55=>
 bd (qn ⟨tab, qm, K⟩ o55 82 [v54]) fun v56 o56=>
 bd (zL tab o56 26 [(0, (some v47)), (1, (some v55)), (2, (some v52)), (3, (some v56))]) fun v57 o57=>
 bd (qp tab o57 26 v2 (some v57)) fun v58 o58=>
 kY tab [0, 3] nl o58 (qx (qf tab o58 26 v2) (some [])))))
 (wZ (wZ (bd (qc (qa tab 26 v1 0) o2) fun v59 o59 =>
 zQ (zv v59) <|
 bd (qc (qf tab o59 23 v59) o59) fun v60 o60=>
 bd (qv tab o60 24 0 []) fun v61 o61=>
 zQ (zy ⟨tab, qm, K⟩ o61 (SV.fn 82 []) [v60] [] true) <|
 bd (qn ⟨tab, qm, K⟩ o61 82 [v60]) fun v62 o62=>
 bd (qc (qa tab 26 v1 1) o62) fun v63 o63=>
 zQ (zv v63) <|
 bd (qc (qf tab o63 24 v63) o63) fun v64 o64=>
 bd (zx tab o64 24 24 v61 v64) fun v65 o65=>
 bd (qc (qa tab 26 v1 2) o65) fun v66 o66=>
 zQ (zv v66) <|
 bd (qc (qf tab o66 4 v66) o66) fun v67 o67=>
 bd (qc (qa tab 26 v1 3) o67) fun v68 o68=>
 bd (qc (qf tab o68 23 v68) o68) fun v69 o69=>
 zQ (zy ⟨tab, qm, K⟩ o69 (SV.fn 82 []) [v69] [v66] false) <|
 bd (qn ⟨tab, qm, K⟩ o69 82 [v69]) fun v70 o70=>
 bd (zL tab o70 26 [(0, (some v62)), (1, (some v65)), (2, (some v67)), (3, (some v70))]) fun v71 o71=>
 bd (qp tab o71 26 v2 (some v71)) fun v72 o72=>
 kY tab [0, 3] nl o72 (qx (qf tab o72 26 v2) (some [])))
 (bd (qc (qa tab 26 v1 0) o2) fun v73 o73 =>
 zQ (zv v73) <|
 bd (qc (qf tab o73 23 v73) o73) fun v74 o74=>
 bd (qv tab o74 24 0 []) fun v75 o75=>
 zQ (zy ⟨tab, qm, K⟩ o75 (SV.fn 82 []) [v74] [] true) <|
 bd (qn ⟨tab, qm, K⟩ o75 82 [v74]) fun v76 o76=>
 bd (qc (qa tab 26 v1 1) o76) fun v77 o77=>
 zQ (zv v77) <|
 bd (qc (qf tab o77 24 v77) o77) fun v78 o78=>
 bd (qc (qa tab 26 v1 2) o78) fun v79 o79=>
 bd (qc (qa tab 26 v1 3) o79) fun v80 o80=>
 zQ (zv v80) <|
 bd (qc (qf tab o80 23 v80) o80) fun v81 o81=>
 bd (zx tab o81 24 24 v75 v78) fun v82 o82=>
 zQ (zv v79) <|
 bd (qc (qf tab o82 4 v79) o82) fun v83 o83=>
 zQ (zy ⟨tab, qm, K⟩ o83 (SV.fn 82 []) [v81] [v79] false) <|
 bd (qn ⟨tab, qm, K⟩ o83 82 [v81]) fun v84 o84=>
 bd (zL tab o84 26 [(0, (some v76)), (1, (some v82)), (2, (some v83)), (3, (some v84))]) fun v85 o85=>
 bd (qp tab o85 26 v2 (some v85)) fun v86 o86=>
 kY tab [0, 3] nl o86 (qx (qf tab o86 26 v2) (some []))))
 (wZ (bd (qc (qa tab 26 v1 0) o2) fun v87 o87 =>
 zQ (zv v87) <|
 bd (qc (qf tab o87 23 v87) o87) fun v88 o88=>
 bd (qv tab o88 24 0 []) fun v89 o89=>
 zQ (zy ⟨tab, qm, K⟩ o89 (SV.fn 82 []) [v88] [] true) <|
 bd (qn ⟨tab, qm, K⟩ o89 82 [v88]) fun v90 o90=>
 bd (qc (qa tab 26 v1 1) o90) fun v91 o91=>
 zQ (zv v91) <|
 bd (qc (qf tab o91 24 v91) o91) fun v92 o92=>
 bd (qc (qa tab 26 v1 2) o92) fun v93 o93=>
 zQ (zv v93) <|
 bd (qc (qf tab o93 4 v93) o93) fun v94 o94=>
 bd (zx tab o94 24 24 v89 v92) fun v95 o95=>
 bd (qc (qa tab 26 v1 3) o95) fun v96 o96=>
 bd (qc (qf tab o96 23 v96) o96) fun v97 o97=>
 bd (qn ⟨tab, qm, K⟩ o97 82 [v97]) fun v98 o98=>
 bd (zL tab o98 26 [(0, (some v90)), (1, (some v95)), (2, (some v94)), (3, (some v98))]) fun v99 o99=>
 bd (qp tab o99 26 v2 (some v99)) fun v100 o100=>
 kY tab [0, 3] nl o100 (qx (qf tab o100 26 v2) (some [])))
 (bd (qc (qa tab 26 v1 0) o2) fun v101 o101 =>
 zQ (zv v101) <|
 bd (qc (qf tab o101 23 v101) o101) fun v102 o102=>
 bd (qv tab o102 24 0 []) fun v103 o103=>
 zQ (zy ⟨tab, qm, K⟩ o103 (SV.fn 82 []) [v102] [] true) <|
 bd (qn ⟨tab, qm, K⟩ o103 82 [v102]) fun v104 o104=>
 bd (qc (qa tab 26 v1 1) o104) fun v105 o105=>
 zQ (zv v105) <|
 bd (qc (qf tab o105 24 v105) o105) fun v106 o106=>
 bd (qc (qa tab 26 v1 2) o106) fun v107 o107=>
 zQ (zv v107) <|
 bd (qc (qf tab o107 4 v107) o107) fun v108 o108=>
 bd (qc (qa tab 26 v1 3) o108) fun v109 o109=>
 zQ (zv v109) <|
 bd (qc (qf tab o109 23 v109) o109) fun v110 o110=>
 bd (zx tab o110 24 24 v103 v106) fun v111 o111=>
 bd (qn ⟨tab, qm, K⟩ o111 82 [v110]) fun v112 o112=>
 bd (zL tab o112 26 [(0, (some v104)), (1, (some v111)), (2, (some v108)), (3, (some v112))]) fun v113 o113=>
 bd (qp tab o113 26 v2 (some v113)) fun v114 o114=>
 kY tab [0, 3] nl o114 (qx (qf tab o114 26 v2) (some [])))))
noncomputable def Qt (K : zKT) (N nl : Nat) (x3 x4 : SV) (os : List SO) : Out := qA (cx K) N nl fi58 (qM c58 [1, 1, 1, 1]) [(3, x3), (4, x4)] os (qV tab [] nl rs58)
noncomputable def XA (K : zKT) (N nl : Nat) (x3 x4 : SV) (os : List SO) : Out :=
 bd (gd x3 true (some (x4, os)) os) fun v41 o41=>
 bd (qc (qL x3 v41 (.v (.bool false))) o41) fun v42 o42=>
 zq tab nl o42 (qx (some v42) (some []))
noncomputable def X58 (K : zKT) (N nl : Nat) (x0 : SV) (os : List SO) : Out := qA (cx K) N nl fi58 c58 [(0, x0)] os (qV tab [] nl rs58)
noncomputable def B58 (K : zKT) (N nl : Nat) (x0 : SV) (os : List SO) : Out :=
 bd (wt tab os 34 (some x0)) fun v1 o1=>
 bd (qc (qa tab 34 v1 1) o1) fun v2 o2=>
 bd (qc (qf tab o2 3 v2) o2) fun v3 o3=>
 bd (qc (qw tab .eql 3 v3 (.v (.int .i64 0))) o3) fun v4 o4=>
 bd (gd v4 true (qc (qa tab 34 v1 2) o4) o4) fun v5 o5=>
 bd (gd v4 true (qc (qf tab o5 3 v5) o5) o5) fun v6 o6=>
 bd (gd v4 true (qc (qw tab .eql 3 v6 (.v (.int .i64 0))) o6) o6) fun v7 o7=>
 bd (qc (qL v4 v7 (.v (.bool false))) o7) fun v8 o8=>
 bd (qc (qa tab 34 v1 3) o8) fun v9 o9=>
 bd (qc (qf tab o9 23 v9) o9) fun v10 o10=>
 bd (ze tab 23 o10 v10) fun v11 o11=>
 bd (qc (qw tab .eql 3 v11 (.v (.int .i64 0))) o11) fun v12 o12=>
 bd (qc (qa tab 34 v1 0) o12) fun v13 o13=>
 bd (qc (qf tab o13 3 v13) o13) fun v14 o14=>
 bd (qc (qw tab .eql 3 v14 (.v (.int .i64 1))) o14) fun v15 o15=>
 qE v15 (qE v15 (bd (qc (qa tab 34 v1 3) o15) fun v16 o16 =>
 bd (qc (qf tab o16 23 v16) o16) fun v17 o17=>
 bd (qn ⟨tab, qm, K⟩ o17 53 [v17]) fun v18 o18=>
 Qt K N nl v8 v18 o18)
 (bd (qc (qw tab .eql 3 v14 (.v (.int .i64 2))) o15) fun v19 o19 =>
 qE v19 (bd (qc (qa tab 34 v1 1) o19) fun v20 o20 =>
 bd (qc (qf tab o20 3 v20) o20) fun v21 o21=>
 bd (qn ⟨tab, qm, K⟩ o21 51 [v21, (.v (.int .i64 0)), (.v (.int .i64 5))]) fun v22 o22=>
 bd (gd v22 true (qc (qa tab 34 v1 2) o22) o22) fun v23 o23=>
 bd (gd v22 true (qc (qf tab o23 3 v23) o23) o23) fun v24 o24=>
 bd (gd v22 true (qn ⟨tab, qm, K⟩ o24 51 [v24, (.v (.int .i64 (-1))), (.v (.int .i64 9))]) o24) fun v25 o25=>
 bd (qc (qL v22 v25 (.v (.bool false))) o25) fun v26 o26=>
 Qt K N nl v26 v12 o26)
 (bd (qc (qw tab .eql 3 v14 (.v (.int .i64 4))) o19) fun v27 o27 =>
 qE v27 (Qt K N nl v8 v12 o27)
 (zq tab nl o27 (qx (some (.v (.bool false))) (some []))))))
 (bd (qc (qw tab .eql 3 v14 (.v (.int .i64 3))) o15) fun v28 o28 =>
 qE v28 (bd (qc (qa tab 34 v1 3) o28) fun v29 o29 =>
 bd (qc (qf tab o29 23 v29) o29) fun v30 o30=>
 bd (qn ⟨tab, qm, K⟩ o30 53 [v30]) fun v31 o31=>
 Qt K N nl v8 v31 o31)
 (bd (qc (qw tab .eql 3 v14 (.v (.int .i64 2))) o28) fun v32 o32 =>
 qE v32 (bd (qc (qa tab 34 v1 1) o32) fun v33 o33 =>
 bd (qc (qf tab o33 3 v33) o33) fun v34 o34=>
 bd (qn ⟨tab, qm, K⟩ o34 51 [v34, (.v (.int .i64 0)), (.v (.int .i64 5))]) fun v35 o35=>
 bd (gd v35 true (qc (qa tab 34 v1 2) o35) o35) fun v36 o36=>
 bd (gd v35 true (qc (qf tab o36 3 v36) o36) o36) fun v37 o37=>
 bd (gd v35 true (qn ⟨tab, qm, K⟩ o37 51 [v37, (.v (.int .i64 (-1))), (.v (.int .i64 9))]) o37) fun v38 o38=>
 bd (qc (qL v35 v38 (.v (.bool false))) o38) fun v39 o39=>
 Qt K N nl v39 v12 o39)
 (bd (qc (qw tab .eql 3 v14 (.v (.int .i64 4))) o32) fun v40 o40 =>
 qE v40 (Qt K N nl v8 v12 o40)
 (zq tab nl o40 (qx (some (.v (.bool false))) (some []))))))
noncomputable def X59 (K : zKT) (N nl : Nat) (x0 : SV) (os : List SO) : Out := qA (cx K) N nl fi59 c59 [(0, x0)] os (qV tab [0, 3] nl rs59)
noncomputable def B59 (K : zKT) (N nl : Nat) (x0 : SV) (os : List SO) : Out :=
 bd (wt tab os 26 (some x0)) fun v1 o1=>
 bd (qD tab o1 26) fun v2 o2=>
 bd (qc (qa tab 26 v1 0) o2) fun v3 o3=>
 bd (qc (qf tab o3 23 v3) o3) fun v4 o4=>
 zQ (zy ⟨tab, qm, K⟩ o4 (SV.fn 73 []) [v4] [] true) <|
 bd (qn ⟨tab, qm, K⟩ o4 73 [v4]) fun v5 o5=>
 bd (qc (qa tab 26 v1 1) o5) fun v6 o6=>
 zQ (zv v6) <|
 bd (qc (qf tab o6 24 v6) o6) fun v7 o7=>
 zQ (zy ⟨tab, qm, K⟩ o7 (SV.fn 83 []) [v7] [] true) <|
 bd (qn ⟨tab, qm, K⟩ o7 83 [v7]) fun v8 o8=>
 bd (qc (qa tab 26 v1 2) o8) fun v9 o9=>
 zQ (zv v9) <|
 bd (qc (qf tab o9 4 v9) o9) fun v10 o10=>
 bd (qc (qa tab 26 v1 3) o10) fun v11 o11=>
 zQ (zv v11) <|
 bd (qc (qf tab o11 23 v11) o11) fun v12 o12=>
 zQ (zy ⟨tab, qm, K⟩ o12 (SV.fn 73 []) [v12] [v9] false) <|
 bd (qn ⟨tab, qm, K⟩ o12 73 [v12]) fun v13 o13=>
 bd (zL tab o13 26 [(0, (some v5)), (1, (some v8)), (2, (some v10)), (3, (some v13))]) fun v14 o14=>
 bd (qp tab o14 26 v2 (some v14)) fun v15 o15=>
 kY tab [0, 3] nl o15 (qx (qf tab o15 26 v2) (some []))
noncomputable def X60 (K : zKT) (N nl : Nat) (x0 x1 : SV) (os : List SO) : Out := qA (cx K) N nl fi60 c60 [(0, x0), (1, x1)] os (qV tab [99999, 100000, 100003] nl rs60)
noncomputable def B60 (K : zKT) (N nl : Nat) (x0 x1 : SV) (os : List SO) : Out :=
 bd (wt tab os 34 (some x1)) fun v1 o1=>
 bd (qc (qa tab 34 v1 0) o1) fun v2 o2=>
 bd (qc (qf tab o2 3 v2) o2) fun v3 o3=>
 bd (qc (qw tab .eql 3 v3 (.v (.int .i64 1))) o3) fun v4 o4=>
 qE v4 (bd (qc (qa tab 34 v1 3) o4) fun v5 o5 =>
 bd (qc (qf tab o5 23 v5) o5) fun v6 o6=>
 bd (qn ⟨tab, qm, K⟩ o6 73 [v6]) fun v7 o7=>
 bd (qc (ZP x0) o7) fun v8 o8=>
 bd (qc (qa tab 26 v8 2) o8) fun v9 o9=>
 bd (qp tab o9 4 v9 (some (.v (.bool true)))) fun v10 o10=>
 bd (qc (ZP x0) o10) fun v11 o11=>
 bd (qc (qa tab 26 v11 3) o11) fun v12 o12=>
 bd (qp tab o12 23 v12 (some v7)) fun v13 o13=>
 kY tab [99999, 100000, 100003] nl o13 (some []))
 (bd (qc (qw tab .eql 3 v3 (.v (.int .i64 2))) o4) fun v14 o14 =>
 qE v14 (bd (qc (ZP x0) o14) fun v15 o15 =>
 bd (qc (qa tab 26 v15 1) o15) fun v16 o16=>
 bd (qc (qf tab o16 24 v16) o16) fun v17 o17=>
 bd (qc (qa tab 34 v1 1) o17) fun v18 o18=>
 bd (qc (qf tab o18 3 v18) o18) fun v19 o19=>
 bd (qc (qa tab 34 v1 2) o19) fun v20 o20=>
 bd (qc (qf tab o20 3 v20) o20) fun v21 o21=>
 bd (qc (qj tab o21 24 v17 v19) o21) fun v22 o22=>
 bd (qp tab o22 3 v22 (some v21)) fun v23 o23=>
 kY tab [99999, 100000, 100003] nl o23 (some []))
 (bd (qc (qw tab .eql 3 v3 (.v (.int .i64 3))) o14) fun v24 o24 =>
 qE v24 (bd (qc (qa tab 34 v1 3) o24) fun v25 o25 =>
 bd (qc (qf tab o25 23 v25) o25) fun v26 o26=>
 bd (qn ⟨tab, qm, K⟩ o26 73 [v26]) fun v27 o27=>
 bd (qc (ZP x0) o27) fun v28 o28=>
 bd (qc (qa tab 26 v28 0) o28) fun v29 o29=>
 bd (qp tab o29 23 v29 (some v27)) fun v30 o30=>
 kY tab [99999, 100000, 100003] nl o30 (some []))
 (bd (qc (qw tab .eql 3 v3 (.v (.int .i64 4))) o24) fun v31 o31 =>
 qE v31 (bd (qc (ZP x0) o31) fun v32 o32 =>
 bd (qc (qa tab 26 v32 2) o32) fun v33 o33=>
 bd (qp tab o33 4 v33 (some (.v (.bool false)))) fun v34 o34=>
 bd (qc (ZP x0) o34) fun v35 o35=>
 bd (qc (qa tab 26 v35 3) o35) fun v36 o36=>
 bd (qp tab o36 23 v36 none) fun v37 o37=>
 kY tab [99999, 100000, 100003] nl o37 (some []))
 (kY tab [99999, 100000, 100003] nl o31 (some [])))))
noncomputable def bk61_4 (K : zKT) (N nl : Nat) (m4 : Nat) : Env → List SO → Out := fun env os => q8 nl (Kc.lp 4) (fun env os nx => qA (cx K) N nl Kc (qM c61 [1, 1, 0, 1, 0, 0]) env os (qP nx (qu 0 (zu (qA (cx K) N nl Kc (qM c61 [1, 1, 1])) (Kc.jn 8) (qV tab [] nl rs61))))) m4 (zB (Kc.lp 4).alive env) os
noncomputable def bk61_9 (K : zKT) (N nl : Nat) (m9 : Nat) : Env → List SO → Out := fun env os => q8 nl (Kc.lp 9) (fun env os nx => qA (cx K) N nl Kc (qM c61 [1, 1, 1, 0, 1, 0, 0]) env os (qP nx (qu 2 (zu (qA (cx K) N nl Kc (qM c61 [1, 1, 1, 1])) (Kc.jn 13) (qV tab [] nl rs61))))) m9 (zB (Kc.lp 9).alive env) os
noncomputable def qbb (K : zKT) (N nl : Nat) (m4 : Nat) (x2 x3 x5 : SV) (os : List SO) : Out := q8 nl (Kc.lp 4) (fun env os nx => qA (cx K) N nl Kc (qM c61 [1, 1, 0, 1, 0, 0]) env os (qP nx (qu 0 (zu (qA (cx K) N nl Kc (qM c61 [1, 1, 1])) (Kc.jn 8) (qV tab [] nl rs61))))) m4 [(2, x2), (3, x3), (5, x5)] os
noncomputable def qbc (K : zKT) (N nl : Nat) (m9 : Nat) (x2 x3 x6 : SV) (os : List SO) : Out := q8 nl (Kc.lp 9) (fun env os nx => qA (cx K) N nl Kc (qM c61 [1, 1, 1, 0, 1, 0, 0]) env os (qP nx (qu 2 (zu (qA (cx K) N nl Kc (qM c61 [1, 1, 1, 1])) (Kc.jn 13) (qV tab [] nl rs61))))) m9 [(2, x2), (3, x3), (6, x6)] os
noncomputable def qdU (K : zKT) (N nl : Nat) (m4 : Nat) (x2 x3 x5 : SV) (os : List SO) : Out :=
 bd (qc (qa tab 47 x2 2) os) fun v30 o30=>
 bd (qc (qf tab o30 45 v30) o30) fun v31 o31=>
 bd (ze tab 45 o31 v31) fun v32 o32=>
 bd (qc (qw tab .lss 3 x5 v32) o32) fun v33 o33=>
 qE v33 (bd (qc (qa tab 47 x2 2) o33) fun v34 o34 =>
 bd (qc (qf tab o34 45 v34) o34) fun v35 o35=>
 bd (qc (qj tab o35 45 v35 x5) o35) fun v36 o36=>
 bd (qc (qf tab o36 68 v36) o36) fun v37 o37=>
 bd (qc (qa tab 47 x3 2) o37) fun v38 o38=>
 bd (qc (qf tab o38 45 v38) o38) fun v39 o39=>
 bd (qc (qj tab o39 45 v39 x5) o39) fun v40 o40=>
 bd (qc (qf tab o40 68 v40) o40) fun v41 o41=>
 bd (qc (qw tab .neq 68 v37 v41) o41) fun v42 o42=>
 qE v42 (zq tab nl o42 (qx (some (.v (.bool false))) (some [])))
 (bd (qc (qw tab .add 3 x5 (.v (.int .i64 1))) o42) fun v43 o43 =>
 qbb K N nl m4 x2 x3 v43 o43))
 (qbc K N nl N x2 x3 (.v (.int .i64 0)) o33)
noncomputable def qdV (K : zKT) (N nl : Nat) (m9 : Nat) (x2 x3 x6 : SV) (os : List SO) : Out :=
 bd (qc (qa tab 47 x2 3) os) fun v44 o44=>
 bd (qc (qf tab o44 44 v44) o44) fun v45 o45=>
 bd (ze tab 44 o45 v45) fun v46 o46=>
 bd (qc (qw tab .lss 3 x6 v46) o46) fun v47 o47=>
 qE v47 (bd (qc (qa tab 47 x2 3) o47) fun v48 o48 =>
 bd (qc (qf tab o48 44 v48) o48) fun v49 o49=>
 bd (qc (qj tab o49 44 v49 x6) o49) fun v50 o50=>
 bd (qc (qf tab o50 43 v50) o50) fun v51 o51=>
 bd (qc (qa tab 47 x3 3) o51) fun v52 o52=>
 bd (qc (qf tab o52 44 v52) o52) fun v53 o53=>
 bd (qc (qj tab o53 44 v53 x6) o53) fun v54 o54=>
 bd (qc (qf tab o54 43 v54) o54) fun v55 o55=>
 bd (qc (qw tab .neq 43 v51 v55) o55) fun v56 o56=>
 qE v56 (zq tab nl o56 (qx (some (.v (.bool false))) (some [])))
 (bd (qc (qw tab .add 3 x6 (.v (.int .i64 1))) o56) fun v57 o57 =>
 qbc K N nl m9 x2 x3 v57 o57))
 (zq tab nl o47 (qx (some (.v (.bool true))) (some [])))
noncomputable def X61 (K : zKT) (N nl : Nat) (x0 x1 : SV) (os : List SO) : Out := qA (cx K) N nl Kc c61 [(0, x0), (1, x1)] os (qV tab [] nl rs61)
noncomputable def B61 (K : zKT) (N nl : Nat) (x0 x1 : SV) (os : List SO) : Out :=
 bd (wt tab os 47 (some x0)) fun v1 o1=>
 bd (wt tab o1 47 (some x1)) fun v2 o2=>
 bd (qc (qa tab 47 v1 0) o2) fun v3 o3=>
 bd (qc (qf tab o3 3 v3) o3) fun v4 o4=>
 bd (qc (qa tab 47 v2 0) o4) fun v5 o5=>
 bd (qc (qf tab o5 3 v5) o5) fun v6 o6=>
 bd (qc (qw tab .neq 3 v4 v6) o6) fun v7 o7=>
 bd (gd v7 false (qc (qa tab 47 v1 1) o7) o7) fun v8 o8=>
 bd (gd v7 false (qc (qf tab o8 3 v8) o8) o8) fun v9 o9=>
 bd (gd v7 false (qc (qa tab 47 v2 1) o9) o9) fun v10 o10=>
 bd (gd v7 false (qc (qf tab o10 3 v10) o10) o10) fun v11 o11=>
 bd (gd v7 false (qc (qw tab .neq 3 v9 v11) o11) o11) fun v12 o12=>
 bd (qc (qL v7 (.v (.bool true)) v12) o12) fun v13 o13=>
 bd (gd v13 false (qc (qa tab 47 v1 2) o13) o13) fun v14 o14=>
 bd (gd v13 false (qc (qf tab o14 45 v14) o14) o14) fun v15 o15=>
 bd (gd v13 false (ze tab 45 o15 v15) o15) fun v16 o16=>
 bd (gd v13 false (qc (qa tab 47 v2 2) o16) o16) fun v17 o17=>
 bd (gd v13 false (qc (qf tab o17 45 v17) o17) o17) fun v18 o18=>
 bd (gd v13 false (ze tab 45 o18 v18) o18) fun v19 o19=>
 bd (gd v13 false (qc (qw tab .neq 3 v16 v19) o19) o19) fun v20 o20=>
 bd (qc (qL v13 (.v (.bool true)) v20) o20) fun v21 o21=>
 bd (gd v21 false (qc (qa tab 47 v1 3) o21) o21) fun v22 o22=>
 bd (gd v21 false (qc (qf tab o22 44 v22) o22) o22) fun v23 o23=>
 bd (gd v21 false (ze tab 44 o23 v23) o23) fun v24 o24=>
 bd (gd v21 false (qc (qa tab 47 v2 3) o24) o24) fun v25 o25=>
 bd (gd v21 false (qc (qf tab o25 44 v25) o25) o25) fun v26 o26=>
 bd (gd v21 false (ze tab 44 o26 v26) o26) fun v27 o27=>
 bd (gd v21 false (qc (qw tab .neq 3 v24 v27) o27) o27) fun v28 o28=>
 bd (qc (qL v21 (.v (.bool true)) v28) o28) fun v29 o29=>
 qE v29 (zq tab nl o29 (qx (some (.v (.bool false))) (some [])))
 (qbb K N nl N v1 v2 (.v (.int .i64 0)) o29)
noncomputable def X62 (K : zKT) (N nl : Nat) (x0 x1 x2 : SV) (os : List SO) : Out := qA (cx K) N nl fi62 c62 [(0, x0), (1, x1), (2, x2)] os (qV tab [] nl rs62)
noncomputable def B62 (K : zKT) (N nl : Nat) (x0 x1 x2 : SV) (os : List SO) : Out :=
 bd (qc (qw tab .geq 3 x0 x1) os) fun v1 o1=>
 bd (gd v1 true (some (x0, o1)) o1) fun v2 o2=>
 bd (gd v1 true (some (x2, o2)) o2) fun v3 o3=>
 bd (gd v1 true (qc (qw tab .leq 3 v2 v3) o3) o3) fun v4 o4=>
 bd (qc (qL v1 v4 (.v (.bool false))) o4) fun v5 o5=>
 zq tab nl o5 (qx (some v5) (some []))
noncomputable def J2 (K : zKT) (N nl : Nat) (m4 : Nat) : Env → List SO → Out := fun env os => q8 nl (yI.lp 4) (fun env os nx => qA (cx K) N nl yI (qM c63 [1, 1, 0, 1, 0, 0]) env os (qP nx (qu 0 (zu (qA (cx K) N nl yI (qM c63 [1, 1, 1])) (yI.jn 16) (qV tab [] nl qjb))))) m4 (zB (yI.lp 4).alive env) os
noncomputable def bk63_7 (K : zKT) (N nl : Nat) (m4 : Nat) (m7 : Nat) : Env → List SO → Out := fun env os => q8 nl (yI.lp 7) (fun env os nx => qA (cx K) N nl yI (qM c63 [1, 1, 0, 1, 0, 0, 1, 0, 0, 0, 1, 0, 0]) env os (qP nx (qu 2 (zu (qA (cx K) N nl yI (qM c63 [1, 1, 0, 1, 0, 0, 1, 0, 0, 1])) (yI.jn 11) (qu 1 (zu (qA (cx K) N nl yI (qM c63 [1, 1, 0, 1, 0, 0, 1, 1])) (yI.jn 5) (qP (J2 K N nl m4) (qu 0 (zu (qA (cx K) N nl yI (qM c63 [1, 1, 1])) (yI.jn 16) (qV tab [] nl qjb)))))))))) m7 (zB (yI.lp 7).alive env) os
noncomputable def bk63_12 (K : zKT) (N nl : Nat) (m4 : Nat) (m12 : Nat) : Env → List SO → Out := fun env os => q8 nl (yI.lp 12) (fun env os nx => qA (cx K) N nl yI (qM c63 [1, 1, 0, 1, 0, 0, 1, 0, 0, 1, 1, 0, 0]) env os (qP nx (qu 4 (qu 1 (zu (qA (cx K) N nl yI (qM c63 [1, 1, 0, 1, 0, 0, 1, 1])) (yI.jn 5) (qP (J2 K N nl m4) (qu 0 (zu (qA (cx K) N nl yI (qM c63 [1, 1, 1])) (yI.jn 16) (qV tab [] nl qjb))))))))) m12 (zB (yI.lp 12).alive env) os
noncomputable def Ym (K : zKT) (N nl : Nat) (m4 : Nat) (x0 x3 : SV) (os : List SO) : Out := q8 nl (yI.lp 4) (fun env os nx => qA (cx K) N nl yI (qM c63 [1, 1, 0, 1, 0, 0]) env os (qP nx (qu 0 (zu (qA (cx K) N nl yI (qM c63 [1, 1, 1])) (yI.jn 16) (qV tab [] nl qjb))))) m4 [(0, x0), (3, x3)] os
noncomputable def qbd (K : zKT) (N nl : Nat) (m4 : Nat) (m7 : Nat) (x0 x3 x4 : SV) (os : List SO) : Out := q8 nl (yI.lp 7) (fun env os nx => qA (cx K) N nl yI (qM c63 [1, 1, 0, 1, 0, 0, 1, 0, 0, 0, 1, 0, 0]) env os (qP nx (qu 2 (zu (qA (cx K) N nl yI (qM c63 [1, 1, 0, 1, 0, 0, 1, 0, 0, 1])) (yI.jn 11) (qu 1 (zu (qA (cx K) N nl yI (qM c63 [1, 1, 0, 1, 0, 0, 1, 1])) (yI.jn 5) (qP (J2 K N nl m4) (qu 0 (zu (qA (cx K) N nl yI (qM c63 [1, 1, 1])) (yI.jn 16) (qV tab [] nl qjb)))))))))) m7 [(0, x0), (3, x3), (4, x4)] os
noncomputable def Kn (K : zKT) (N nl : Nat) (m4 : Nat) (m12 : Nat) (x0 x3 x5 : SV) (os : List SO) : Out := q8 nl (yI.lp 12) (fun env os nx => qA (cx K) N nl yI (qM c63 [1, 1, 0, 1, 0, 0, 1, 0, 0, 1, 1, 0, 0]) env os (qP nx (qu 4 (qu 1 (zu (qA (cx K) N nl yI (qM c63 [1, 1, 0, 1, 0, 0, 1, 1])) (yI.jn 5) (qP (J2 K N nl m4) (qu 0 (zu (qA (cx K) N nl yI (qM c63 [1, 1, 1])) (yI.jn 16) (qV tab [] nl qjb))))))))) m12 [(0, x0), (3, x3), (5, x5)] os
noncomputable def qdW (K : zKT) (N nl : Nat) (m4 : Nat) (x0 x3 : SV) (os : List SO) : Out :=
 bd (ze tab 23 os x0) fun v7 o7=>
 bd (qc (qw tab .lss 3 x3 v7) o7) fun v8 o8=>
 qE v8 (qbd K N nl m4 N x0 x3 (.v (.int .i64 0)) o8)
 (zq tab nl o8 (qx (some (.v (.bool true))) (some [])))
noncomputable def qdX (K : zKT) (N nl : Nat) (m4 : Nat) (m7 : Nat) (x0 x3 x4 : SV) (os : List SO) : Out :=
 bd (qc (qj tab os 23 x0 x3) os) fun v9 o9=>
 bd (qc (qa tab 47 v9 3) o9) fun v10 o10=>
 bd (qc (qf tab o10 44 v10) o10) fun v11 o11=>
 bd (ze tab 44 o11 v11) fun v12 o12=>
 bd (qc (qw tab .lss 3 x4 v12) o12) fun v13 o13=>
 qE v13 (bd (qc (qj tab o13 23 x0 x3) o13) fun v14 o14 =>
 bd (qc (qa tab 47 v14 3) o14) fun v15 o15=>
 bd (qc (qf tab o15 44 v15) o15) fun v16 o16=>
 bd (qc (qj tab o16 44 v16 x4) o16) fun v17 o17=>
 bd (qc (qf tab o17 43 v17) o17) fun v18 o18=>
 bd (qn ⟨tab, qm, K⟩ o18 86 [x0, v18]) fun v19 o19=>
 bd (qc (unS .not v19) o19) fun v20 o20=>
 qE v20 (zq tab nl o20 (qx (some (.v (.bool false))) (some [])))
 (bd (qc (qw tab .add 3 x4 (.v (.int .i64 1))) o20) fun v21 o21 =>
 qbd K N nl m4 m7 x0 x3 v21 o21))
 (Kn K N nl m4 N x0 x3 (.v (.int .i64 0)) o13)
noncomputable def XB (K : zKT) (N nl : Nat) (m4 : Nat) (m12 : Nat) (x0 x3 x5 : SV) (os : List SO) : Out :=
 bd (qc (qj tab os 23 x0 x3) os) fun v22 o22=>
 bd (qc (qa tab 47 v22 2) o22) fun v23 o23=>
 bd (qc (qf tab o23 45 v23) o23) fun v24 o24=>
 bd (ze tab 45 o24 v24) fun v25 o25=>
 bd (qc (qw tab .lss 3 x5 v25) o25) fun v26 o26=>
 qE v26 (bd (qc (qj tab o26 23 x0 x3) o26) fun v27 o27 =>
 bd (qc (qa tab 47 v27 2) o27) fun v28 o28=>
 bd (qc (qf tab o28 45 v28) o28) fun v29 o29=>
 bd (qc (qj tab o29 45 v29 x5) o29) fun v30 o30=>
 bd (qc (qa tab 68 v30 0) o30) fun v31 o31=>
 bd (qc (qf tab o31 3 v31) o31) fun v32 o32=>
 bd (qn ⟨tab, qm, K⟩ o32 87 [x0, x3, v32]) fun v33 o33=>
 bd (qc (qw tab .geq 3 v33 (.v (.int .i64 0))) o33) fun v34 o34=>
 qE v34 (zq tab nl o34 (qx (some (.v (.bool false))) (some [])))
 (bd (qc (qw tab .add 3 x5 (.v (.int .i64 1))) o34) fun v35 o35 =>
 Kn K N nl m4 m12 x0 x3 v35 o35))
 (bd (qc (qw tab .add 3 x3 (.v (.int .i64 1))) o26) fun v36 o36 =>
 Ym K N nl m4 x0 v36 o36)
noncomputable def X63 (K : zKT) (N nl : Nat) (x0 : SV) (os : List SO) : Out := qA (cx K) N nl yI c63 [(0, x0)] os (qV tab [] nl qjb)
noncomputable def B63 (K : zKT) (N nl : Nat) (x0 : SV) (os : List SO) : Out :=
 bd (qn ⟨tab, qm, K⟩ os 84 [x0]) fun v1 o1=>
 bd (qc (unS .not v1) o1) fun v2 o2=>
 bd (gd v2 false (some (x0, o2)) o2) fun v3 o3=>
 bd (gd v2 false (qn ⟨tab, qm, K⟩ o3 85 [v3]) o3) fun v4 o4=>
 bd (gd v2 false (qc (unS .not v4) o4) o4) fun v5 o5=>
 bd (qc (qL v2 (.v (.bool true)) v5) o5) fun v6 o6=>
 qE v6 (zq tab nl o6 (qx (some (.v (.bool false))) (some [])))
 (Ym K N nl N x0 (.v (.int .i64 0)) o6)
noncomputable def X64 (K : zKT) (N nl : Nat) (x0 x1 : SV) (os : List SO) : Out := qA (cx K) N nl fi64 c64 [(0, x0), (1, x1)] os (qV tab [99999, 100000, 100003] nl rs64)
end Go.Proofs.Ytfjbclgbpdlkgaa
