/- The evaluator S and what it says of functions: Sb1. -/
import Derived.Test.YtikennabfbkdhaaTe
import Derived.Test.YtikennabfbkdhaaProg
import Derived.KernelRfl
/- The evaluator S: the functions of this seat, read chunk by chunk (1). -/
namespace Go.Proofs.Ytikennabfbkdhaa
open Go
set_option linter.unusedVariables false
set_option maxRecDepth 100000
def tiL : List (Option TI) :=
 [none,
  some ⟨1, 8, false, [.fn]⟩,
  some ⟨1, 8, false, [.int .i64]⟩,
  some ⟨1, 8, false, [.int .i64]⟩,
  some ⟨1, 1, false, [.bool]⟩,
  some ⟨1, 1, false, [.int .u8]⟩,
  some ⟨1, 1, false, [.int .u8]⟩,
  some ⟨4, 24, true, [.int .i64, .int .i64, .bool, .int .u8]⟩,
  some ⟨4, 24, true, [.int .i64, .int .i64, .bool, .int .u8]⟩,
  some ⟨1, 16, false, [.str]⟩,
  some ⟨1, 16, false, [.str]⟩,
  some ⟨1, 16, false, [.str]⟩,
  some ⟨1, 8, false, [.int .u64]⟩,
  some ⟨2, 24, true, [.str, .int .u64]⟩,
  some ⟨2, 24, true, [.str, .int .u64]⟩,
  some ⟨1, 8, false, [.ptr]⟩,
  some ⟨1, 8, false, [.ptr]⟩,
  some ⟨1, 8, false, [.ptr]⟩,
  some ⟨1, 8, true, [.ptr]⟩,
  some ⟨1, 8, true, [.ptr]⟩,
  none,
  some ⟨1, 4, false, [.int .i32]⟩,
  some ⟨1, 24, false, [.sl 1]⟩,
  some ⟨1, 24, false, [.sl 1]⟩,
  some ⟨3, 40, true, [.int .i64, .sl 1, .int .i64]⟩,
  some ⟨3, 40, true, [.int .i64, .sl 1, .int .i64]⟩,
  none,
  some ⟨1, 8, false, [.fn]⟩,
  some ⟨1, 24, false, [.sl 4]⟩,
  some ⟨1, 24, false, [.sl 4]⟩,
  some ⟨1, 24, false, [.sl 4]⟩,
  some ⟨1, 24, false, [.sl 3]⟩,
  some ⟨3, 40, true, [.int .i64, .int .i64, .sl 3]⟩,
  some ⟨3, 40, true, [.int .i64, .int .i64, .sl 3]⟩,
  some ⟨7, 88, true, [.int .i64, .sl 1, .int .i64, .bool, .int .i64, .int .i64, .sl 3]⟩,
  some ⟨7, 88, true, [.int .i64, .sl 1, .int .i64, .bool, .int .i64, .int .i64, .sl 3]⟩,
  some ⟨4, 80, true, [.sl 4, .sl 1, .bool, .sl 4]⟩,
  some ⟨4, 80, true, [.sl 4, .sl 1, .bool, .sl 4]⟩,
  some ⟨17, 296, true, [.int .i64, .sl 4, .sl 4, .sl 4, .sl 1, .int .i64, .sl 1, .int .i64, .bool, .int .i64, .int .i64, .sl 3, .sl 4, .sl 4, .sl 1, .bool, .sl 4]⟩,
  some ⟨17, 296, true, [.int .i64, .sl 4, .sl 4, .sl 4, .sl 1, .int .i64, .sl 1, .int .i64, .bool, .int .i64, .int .i64, .sl 3, .sl 4, .sl 4, .sl 1, .bool, .sl 4]⟩,
  none,
  some ⟨1, 8, false, [.fn]⟩,
  some ⟨1, 8, false, [.fn]⟩,
  some ⟨1, 8, false, [.fn]⟩,
  some ⟨1, 8, false, [.fn]⟩,
  some ⟨1, 8, false, [.fn]⟩,
  some ⟨1, 8, false, [.fn]⟩,
  some ⟨1, 8, false, [.fn]⟩,
  some ⟨1, 8, false, [.ptr]⟩,
  some ⟨1, 8, false, [.fn]⟩,
  some ⟨1, 8, false, [.fn]⟩,
  some ⟨1, 8, false, [.fn]⟩,
  some ⟨1, 8, false, [.fn]⟩,
  some ⟨1, 8, false, [.fn]⟩,
  some ⟨1, 8, false, [.fn]⟩,
  some ⟨1, 8, false, [.fn]⟩,
  some ⟨1, 8, false, [.fn]⟩,
  none,
  some ⟨1, 8, false, [.fn]⟩,
  some ⟨1, 8, false, [.fn]⟩,
  some ⟨4, 64, true, [.int .i64, .sl 1, .int .i64, .sl 1]⟩,
  some ⟨4, 64, true, [.int .i64, .sl 1, .int .i64, .sl 1]⟩,
  some ⟨1, 8, false, [.fn]⟩,
  some ⟨1, 8, false, [.fn]⟩,
  some ⟨1, 8, false, [.fn]⟩,
  some ⟨1, 8, false, [.fn]⟩,
  some ⟨1, 8, false, [.fn]⟩,
  some ⟨1, 8, false, [.fn]⟩,
  some ⟨4, 64, true, [.int .i64, .int .i64, .sl 3, .sl 1]⟩,
  some ⟨4, 64, true, [.int .i64, .int .i64, .sl 3, .sl 1]⟩,
  some ⟨1, 8, false, [.fn]⟩,
  some ⟨1, 8, false, [.fn]⟩,
  some ⟨1, 8, false, [.fn]⟩,
  some ⟨1, 8, false, [.fn]⟩,
  some ⟨1, 8, false, [.fn]⟩,
  some ⟨1, 8, false, [.fn]⟩,
  some ⟨1, 8, false, [.fn]⟩,
  some ⟨2, 32, true, [.sl 1, .int .i64]⟩,
  some ⟨2, 32, true, [.sl 1, .int .i64]⟩,
  some ⟨1, 8, false, [.fn]⟩,
  some ⟨1, 8, false, [.fn]⟩,
  some ⟨1, 24, false, [.sl 2]⟩,
  some ⟨1, 24, false, [.sl 2]⟩,
  some ⟨4, 64, true, [.int .i64, .int .i64, .sl 2, .sl 2]⟩,
  some ⟨4, 64, true, [.int .i64, .int .i64, .sl 2, .sl 2]⟩,
  some ⟨1, 8, false, [.fn]⟩,
  some ⟨1, 8, false, [.fn]⟩,
  some ⟨1, 8, false, [.fn]⟩,
  some ⟨1, 8, false, [.fn]⟩,
  some ⟨1, 8, false, [.fn]⟩,
  some ⟨1, 8, false, [.fn]⟩,
  some ⟨1, 8, false, [.fn]⟩,
  some ⟨1, 8, false, [.fn]⟩,
  some ⟨1, 8, false, [.fn]⟩,
  some ⟨1, 8, false, [.fn]⟩,
  some ⟨1, 8, false, [.fn]⟩,
  some ⟨1, 8, false, [.fn]⟩,
  some ⟨1, 8, false, [.fn]⟩,
  some ⟨2, 16, true, [.int .i64, .int .i64]⟩,
  some ⟨2, 16, true, [.int .i64, .int .i64]⟩,
  some ⟨1, 8, false, [.fn]⟩,
  some ⟨1, 8, false, [.int .u64]⟩,
  none,
  some ⟨1, 8, false, [.fn]⟩,
  some ⟨2, 16, true, [.int .i64, .int .i64]⟩,
  some ⟨2, 16, true, [.int .i64, .int .i64]⟩,
  some ⟨3, 24, true, [.int .i64, .int .i64, .int .i64]⟩,
  some ⟨3, 24, true, [.int .i64, .int .i64, .int .i64]⟩,
  some ⟨1, 8, false, [.fn]⟩,
  some ⟨1, 8, false, [.fn]⟩,
  some ⟨1, 8, false, [.fn]⟩,
  some ⟨6, 6, true, [.bool, .bool, .bool, .bool, .bool, .bool]⟩,
  some ⟨1, 8, false, [.fn]⟩,
  some ⟨1, 8, false, [.fn]⟩,
  some ⟨1, 8, false, [.fn]⟩,
  some ⟨1, 8, false, [.fn]⟩,
  some ⟨1, 8, false, [.fn]⟩,
  some ⟨1, 8, false, [.fn]⟩,
  some ⟨1, 8, false, [.fn]⟩,
  some ⟨1, 8, false, [.fn]⟩,
  some ⟨1, 24, false, [.sl 1]⟩,
  some ⟨1, 8, false, [.fn]⟩,
  some ⟨1, 8, false, [.fn]⟩,
  some ⟨1, 4, false, [.int .u32]⟩,
  none,
  some ⟨1, 8, false, [.fn]⟩,
  some ⟨1, 8, false, [.int .u64]⟩,
  none,
  some ⟨1, 8, false, [.fn]⟩,
  some ⟨1, 8, false, [.fn]⟩,
  some ⟨1, 8, false, [.fn]⟩,
  some ⟨4, 40, true, [.ptr, .ptr, .ptr, .str]⟩,
  some ⟨4, 40, true, [.ptr, .ptr, .ptr, .str]⟩,
  some ⟨0, 0, true, []⟩,
  some ⟨0, 0, true, []⟩,
  some ⟨0, 0, true, []⟩,
  some ⟨1, 8, false, [.fn]⟩,
  some ⟨1, 1, false, [.int .u8]⟩,
  some ⟨1, 1, false, [.int .u8]⟩,
  some ⟨1, 8, false, [.fn]⟩,
  some ⟨1, 8, false, [.ptr]⟩,
  some ⟨1, 4, false, [.int .i32]⟩,
  some ⟨1, 4, false, [.int .i32]⟩,
  some ⟨11, 48, true, [.int .u64, .int .u64, .int .u32, .int .u8, .int .u8, .int .u8, .int .u8, .fn, .ptr, .int .i32, .int .i32]⟩,
  some ⟨11, 48, true, [.int .u64, .int .u64, .int .u32, .int .u8, .int .u8, .int .u8, .int .u8, .fn, .ptr, .int .i32, .int .i32]⟩,
  some ⟨1, 8, false, [.fn]⟩,
  some ⟨1, 8, false, [.fn]⟩,
  some ⟨1, 8, false, [.fn]⟩,
  some ⟨1, 8, false, [.fn]⟩,
  some ⟨1, 8, false, [.fn]⟩,
  none]
def ukL : List (Option UK) :=
 [none,
  none,
  some (.int .i64),
  some (.int .i64),
  some (.bool),
  some (.int .u8),
  some (.int .u8),
  some (.struct [(0, 2), (1, 3), (2, 4), (3, 6)]),
  some (.struct [(0, 2), (1, 3), (2, 4), (3, 6)]),
  some (.str),
  some (.str),
  some (.str),
  some (.int .u64),
  some (.struct [(0, 9), (1, 12)]),
  some (.struct [(0, 9), (1, 12)]),
  none,
  none,
  none,
  some (.struct [(0, 17)]),
  some (.struct [(0, 17)]),
  none,
  some (.int .i32),
  some (.slice 5),
  some (.slice 3),
  some (.struct [(0, 3), (1, 23), (2, 3)]),
  some (.struct [(0, 3), (1, 23), (2, 3)]),
  none,
  none,
  some (.slice 61),
  some (.slice 69),
  some (.slice 84),
  some (.slice 107),
  some (.struct [(0, 3), (1, 3), (2, 31)]),
  some (.struct [(0, 3), (1, 3), (2, 31)]),
  some (.struct [(0, 25), (3, 4), (4, 33)]),
  some (.struct [(0, 25), (3, 4), (4, 33)]),
  some (.struct [(0, 30), (1, 23), (2, 4), (3, 30)]),
  some (.struct [(0, 30), (1, 23), (2, 4), (3, 30)]),
  some (.struct [(0, 3), (1, 28), (2, 29), (3, 30), (4, 23), (5, 35), (12, 30), (13, 37)]),
  some (.struct [(0, 3), (1, 28), (2, 29), (3, 30), (4, 23), (5, 35), (12, 30), (13, 37)]),
  none,
  none,
  none,
  none,
  none,
  none,
  none,
  none,
  none,
  none,
  none,
  none,
  none,
  none,
  none,
  none,
  none,
  none,
  none,
  none,
  some (.struct [(0, 25), (3, 23)]),
  some (.struct [(0, 25), (3, 23)]),
  none,
  none,
  none,
  none,
  none,
  none,
  some (.struct [(0, 33), (3, 23)]),
  some (.struct [(0, 33), (3, 23)]),
  none,
  none,
  none,
  none,
  none,
  none,
  none,
  some (.struct [(0, 22), (1, 3)]),
  some (.struct [(0, 22), (1, 3)]),
  none,
  none,
  some (.slice 99),
  some (.slice 105),
  some (.struct [(0, 3), (1, 3), (2, 81), (3, 82)]),
  some (.struct [(0, 3), (1, 3), (2, 81), (3, 82)]),
  none,
  none,
  none,
  none,
  none,
  none,
  none,
  none,
  none,
  none,
  none,
  none,
  none,
  some (.eqs [(0, 3), (1, 3)]),
  some (.eqs [(0, 3), (1, 3)]),
  none,
  some (.int .u64),
  none,
  none,
  some (.eqs [(0, 3), (1, 3)]),
  some (.eqs [(0, 3), (1, 3)]),
  some (.eqs [(0, 3), (1, 3), (2, 3)]),
  some (.eqs [(0, 3), (1, 3), (2, 3)]),
  none,
  none,
  none,
  some (.array 6 4),
  none,
  none,
  none,
  none,
  none,
  none,
  none,
  none,
  some (.slice 30),
  none,
  none,
  some (.int .u32),
  none,
  none,
  some (.int .u64),
  none,
  none,
  none,
  none,
  some (.struct [(0, 17), (1, 17), (2, 17), (3, 9)]),
  some (.struct [(0, 17), (1, 17), (2, 17), (3, 9)]),
  some (.array 0 16),
  some (.struct [(0, 133)]),
  some (.struct [(0, 133)]),
  none,
  some (.int .u8),
  some (.int .u8),
  none,
  none,
  some (.int .i32),
  some (.int .i32),
  some (.struct [(0, 12), (1, 12), (2, 123), (3, 137), (4, 5), (5, 5), (6, 138), (7, 139), (8, 140), (9, 141), (10, 142)]),
  some (.struct [(0, 12), (1, 12), (2, 123), (3, 137), (4, 5), (5, 5), (6, 138), (7, 139), (8, 140), (9, 141), (10, 142)]),
  none,
  none,
  none,
  none,
  none,
  none]
def tab : Tab := { ti := fun t => (tiL[t]?).getD none, und := fun t => (ukL[t]?).getD none, pz := fun t => Nat.beq t 29 || Nat.beq t 30 }
def ownF : Nat → Bool := fun f => match f with | 1000005 => true | 1000006 => true | 1000022 => true | 1000029 => true | 1000066 => true | 1000083 => true  | _ => false
abbrev cx (K : Nat → List SV → List SO → Out) : Cx := ⟨tab, ownF, K⟩
noncomputable def c3 : Code := Try.f3.body.getD .skip
def rs3 : List ResultVar := [.tmp 2]
def fi3 : FnI := { nt := 96, lp := fun i => ⟨false, []⟩, jn := fun i => none, dt := fun i => none }
noncomputable def c4 : Code := Try.f4.body.getD .skip
def rs4 : List ResultVar := [.cell 2 25, .tmp 3]
def fi4 : FnI := { nt := 28, lp := fun i => ⟨false, []⟩, jn := fun i => none, dt := fun i => none }
noncomputable def c5 : Code := Try.f5.body.getD .skip
def rs5 : List ResultVar := [.cell 4 39, .tmp 5]
def fi5 : FnI := { nt := 55, lp := fun i => ⟨false, []⟩, jn := fun i => if i = 5 then some [1, 4, 6, 8] else none, dt := fun i => if i = 4 then some (.split 1 2 (.split 1 7 (.split 2 7 (.split 5 7 (.split 6 7 (.leaf [0, 1, 2, 3, 4, 5, 6, 7, 8]) (.leaf [0, 1, 2, 3, 4, 5, 7, 6, 8])) (.leaf [0, 1, 2, 3, 4, 7, 5, 6, 8])) (.leaf [0, 1, 3, 4, 7, 2, 5, 6, 8])) (.leaf [0, 3, 4, 7, 1, 2, 5, 6, 8])) (.split 1 7 (.split 5 7 (.split 6 7 (.leaf [0, 2, 1, 3, 4, 5, 6, 7, 8]) (.leaf [0, 2, 1, 3, 4, 5, 7, 6, 8])) (.leaf [0, 2, 1, 3, 4, 7, 5, 6, 8])) (.split 2 7 (.leaf [0, 2, 3, 4, 7, 1, 5, 6, 8]) (.leaf [0, 3, 4, 7, 2, 1, 5, 6, 8])))) else if i = 5 then some (.split 1 4 (.split 6 7 (.leaf [0, 1, 2, 3, 4, 5, 6, 7, 8, 9, 10, 11, 12]) (.leaf [0, 1, 2, 3, 4, 5, 7, 6, 8, 9, 10, 11, 12])) (.split 0 6 (.split 1 6 (.split 6 7 (.leaf [0, 2, 3, 4, 1, 5, 6, 7, 8, 9, 10, 11, 12]) (.leaf [0, 2, 3, 4, 1, 5, 7, 6, 8, 9, 10, 11, 12])) (.split 6 7 (.split 1 9 (.leaf [0, 2, 3, 4, 5, 6, 1, 7, 8, 9, 10, 11, 12]) (.leaf [0, 2, 3, 4, 5, 6, 7, 8, 9, 1, 10, 11, 12])) (.split 1 9 (.leaf [0, 2, 3, 4, 5, 7, 6, 1, 8, 9, 10, 11, 12]) (.leaf [0, 2, 3, 4, 5, 7, 6, 8, 9, 1, 10, 11, 12])))) (.split 6 7 (.split 1 9 (.leaf [2, 3, 4, 5, 6, 0, 1, 7, 8, 9, 10, 11, 12]) (.leaf [2, 3, 4, 5, 6, 0, 7, 8, 9, 1, 10, 11, 12])) (.split 1 9 (.leaf [2, 3, 4, 5, 7, 6, 0, 1, 8, 9, 10, 11, 12]) (.leaf [2, 3, 4, 5, 7, 6, 0, 8, 9, 1, 10, 11, 12]))))) else none }
noncomputable def c6 : Code := Try.f6.body.getD .skip
def rs6 : List ResultVar := [.cell 4 39, .tmp 5]
def fi6 : FnI := { nt := 47, lp := fun i => ⟨false, []⟩, jn := fun i => if i = 5 then some [1, 4, 6, 8] else none, dt := fun i => if i = 4 then some (.split 1 6 (.split 4 6 (.split 5 6 (.leaf [0, 1, 2, 3, 4, 5, 6, 7]) (.leaf [0, 1, 2, 3, 4, 6, 5, 7])) (.leaf [0, 1, 2, 3, 6, 4, 5, 7])) (.leaf [0, 2, 3, 6, 1, 4, 5, 7])) else if i = 5 then some (.split 1 3 (.leaf [0, 1, 2, 3, 4, 5, 6, 7, 8]) (.split 1 5 (.leaf [0, 2, 3, 1, 4, 5, 6, 7, 8]) (.leaf [0, 2, 3, 4, 5, 1, 6, 7, 8]))) else none }
noncomputable def c7 : Code := Try.f7.body.getD .skip
def rs7 : List ResultVar := [.tmp 4]
def fi7 : FnI := { nt := 139, lp := fun i => if i = 4 then ⟨false, [2, 3, 5]⟩ else if i = 9 then ⟨false, [2, 3, 6]⟩ else ⟨false, []⟩, jn := fun i => none, dt := fun i => none }
noncomputable def c8 : Code := Try.f8.body.getD .skip
def rs8 : List ResultVar := [.tmp 2]
def fi8 : FnI := { nt := 52, lp := fun i => ⟨false, []⟩, jn := fun i => none, dt := fun i => none }
noncomputable def c9 : Code := Try.f9.body.getD .skip
def rs9 : List ResultVar := [.tmp 4]
def fi9 : FnI := { nt := 24, lp := fun i => ⟨false, []⟩, jn := fun i => none, dt := fun i => none }
noncomputable def c10 : Code := Try.f10.body.getD .skip
def rs10 : List ResultVar := [.tmp 2]
def fi10 : FnI := { nt := 18, lp := fun i => ⟨false, []⟩, jn := fun i => none, dt := fun i => none }
noncomputable def c11 : Code := Try.f11.body.getD .skip
def rs11 : List ResultVar := [.tmp 4]
def fi11 : FnI := { nt := 20, lp := fun i => ⟨false, []⟩, jn := fun i => none, dt := fun i => none }
noncomputable def c12 : Code := Try.f12.body.getD .skip
def rs12 : List ResultVar := [.tmp 2]
def fi12 : FnI := { nt := 11, lp := fun i => ⟨false, []⟩, jn := fun i => if i = 3 then some [0] else none, dt := fun i => none }
noncomputable def c13 : Code := Try.f13.body.getD .skip
def rs13 : List ResultVar := [.cell 2 25, .tmp 3]
def fi13 : FnI := { nt := 43, lp := fun i => if i = 7 then ⟨true, [0, 2, 4, 5, 6]⟩ else ⟨false, []⟩, jn := fun i => if i = 5 then some [0, 2, 4] else if i = 8 then some [0, 2, 4, 5, 6] else none, dt := fun i => if i = 9 then some (.split 5 8 (.split 6 10 (.split 8 10 (.split 8 14 (.split 11 14 (.leaf [0, 1, 2, 3, 4, 5, 6, 7, 8, 9, 10, 11, 12, 13, 14, 15, 16]) (.leaf [0, 1, 2, 3, 4, 5, 6, 7, 8, 9, 10, 13, 14, 11, 12, 15, 16])) (.leaf [0, 1, 2, 3, 4, 5, 6, 7, 9, 13, 14, 8, 10, 11, 12, 15, 16])) (.split 8 14 (.split 11 14 (.leaf [0, 1, 2, 3, 4, 5, 6, 7, 9, 10, 8, 11, 12, 13, 14, 15, 16]) (.leaf [0, 1, 2, 3, 4, 5, 6, 7, 9, 10, 8, 13, 14, 11, 12, 15, 16])) (.leaf [0, 1, 2, 3, 4, 5, 6, 7, 9, 10, 13, 14, 8, 11, 12, 15, 16]))) (.split 8 14 (.split 11 14 (.leaf [0, 1, 2, 3, 4, 5, 7, 9, 10, 6, 8, 11, 12, 13, 14, 15, 16]) (.leaf [0, 1, 2, 3, 4, 5, 7, 9, 10, 6, 8, 13, 14, 11, 12, 15, 16])) (.leaf [0, 1, 2, 3, 4, 5, 7, 9, 10, 6, 13, 14, 8, 11, 12, 15, 16]))) (.split 6 10 (.split 8 10 (.split 5 11 (.split 8 14 (.split 11 14 (.leaf [0, 1, 2, 3, 4, 6, 7, 8, 5, 9, 10, 11, 12, 13, 14, 15, 16]) (.leaf [0, 1, 2, 3, 4, 6, 7, 8, 5, 9, 10, 13, 14, 11, 12, 15, 16])) (.leaf [0, 1, 2, 3, 4, 6, 7, 9, 13, 14, 8, 5, 10, 11, 12, 15, 16])) (.split 8 14 (.split 11 14 (.leaf [0, 1, 2, 3, 4, 6, 7, 8, 9, 10, 11, 5, 12, 13, 14, 15, 16]) (.leaf [0, 1, 2, 3, 4, 6, 7, 8, 9, 10, 13, 14, 11, 5, 12, 15, 16])) (.leaf [0, 1, 2, 3, 4, 6, 7, 9, 13, 14, 8, 10, 11, 5, 12, 15, 16]))) (.split 5 11 (.split 8 14 (.split 11 14 (.leaf [0, 1, 2, 3, 4, 6, 7, 9, 10, 8, 5, 11, 12, 13, 14, 15, 16]) (.leaf [0, 1, 2, 3, 4, 6, 7, 9, 10, 8, 5, 13, 14, 11, 12, 15, 16])) (.leaf [0, 1, 2, 3, 4, 6, 7, 9, 10, 13, 14, 8, 5, 11, 12, 15, 16])) (.split 8 14 (.split 11 14 (.leaf [0, 1, 2, 3, 4, 6, 7, 9, 10, 8, 11, 5, 12, 13, 14, 15, 16]) (.leaf [0, 1, 2, 3, 4, 6, 7, 9, 10, 8, 13, 14, 11, 5, 12, 15, 16])) (.leaf [0, 1, 2, 3, 4, 6, 7, 9, 10, 13, 14, 8, 11, 5, 12, 15, 16])))) (.split 5 11 (.split 8 14 (.split 11 14 (.leaf [0, 1, 2, 3, 4, 7, 9, 10, 6, 8, 5, 11, 12, 13, 14, 15, 16]) (.leaf [0, 1, 2, 3, 4, 7, 9, 10, 6, 8, 5, 13, 14, 11, 12, 15, 16])) (.leaf [0, 1, 2, 3, 4, 7, 9, 10, 6, 13, 14, 8, 5, 11, 12, 15, 16])) (.split 8 14 (.split 11 14 (.leaf [0, 1, 2, 3, 4, 7, 9, 10, 6, 8, 11, 5, 12, 13, 14, 15, 16]) (.leaf [0, 1, 2, 3, 4, 7, 9, 10, 6, 8, 13, 14, 11, 5, 12, 15, 16])) (.leaf [0, 1, 2, 3, 4, 7, 9, 10, 6, 13, 14, 8, 11, 5, 12, 15, 16]))))) else none }
noncomputable def c14 : Code := Try.f14.body.getD .skip
def rs14 : List ResultVar := [.tmp 4]
def fi14 : FnI := { nt := 99, lp := fun i => ⟨false, []⟩, jn := fun i => none, dt := fun i => none }
noncomputable def c15 : Code := Try.f15.body.getD .skip
def rs15 : List ResultVar := [.cell 2 25]
def fi15 : FnI := { nt := 46, lp := fun i => ⟨false, []⟩, jn := fun i => if i = 4 then some [0, 2, 3] else if i = 10 then some [2, 4] else none, dt := fun i => none }
noncomputable def c16 : Code := Try.f16.body.getD .skip
def rs16 : List ResultVar := [.tmp 2]
def fi16 : FnI := { nt := 29, lp := fun i => if i = 3 then ⟨true, [0, 3, 4]⟩ else ⟨false, []⟩, jn := fun i => if i = 4 then some [0, 3, 4] else if i = 9 then some [3] else none, dt := fun i => none }
noncomputable def c17 : Code := Try.f17.body.getD .skip
def rs17 : List ResultVar := [.tmp 2]
def fi17 : FnI := { nt := 19, lp := fun i => ⟨false, []⟩, jn := fun i => none, dt := fun i => none }
noncomputable def c18 : Code := Try.f18.body.getD .skip
def rs18 : List ResultVar := [.tmp 2]
def fi18 : FnI := { nt := 32, lp := fun i => if i = 2 then ⟨false, [0, 3]⟩ else ⟨false, []⟩, jn := fun i => none, dt := fun i => none }
noncomputable def c19 : Code := Try.f19.body.getD .skip
def rs19 : List ResultVar := [.tmp 4]
def fi19 : FnI := { nt := 32, lp := fun i => if i = 3 then ⟨false, [0, 1, 5, 6]⟩ else if i = 6 then ⟨false, [0, 1, 5, 6, 7]⟩ else ⟨false, []⟩, jn := fun i => if i = 7 then some [0, 1, 5, 6, 7] else none, dt := fun i => none }
noncomputable def c20 : Code := Try.f20.body.getD .skip
def rs20 : List ResultVar := [.cell 2 35, .tmp 3]
def fi20 : FnI := { nt := 11, lp := fun i => ⟨false, []⟩, jn := fun i => none, dt := fun i => none }
noncomputable def c21 : Code := Try.f21.body.getD .skip
def rs21 : List ResultVar := [.cell 2 25]
def fi21 : FnI := { nt := 9, lp := fun i => ⟨false, []⟩, jn := fun i => none, dt := fun i => none }
noncomputable def c22 : Code := Try.f22.body.getD .skip
def rs22 : List ResultVar := [.cell 0 37]
def fi22 : FnI := { nt := 5, lp := fun i => ⟨false, []⟩, jn := fun i => none, dt := fun i => none }
noncomputable def c23 : Code := Try.f23.body.getD .skip
def rs23 : List ResultVar := [.tmp 2]
def fi23 : FnI := { nt := 19, lp := fun i => ⟨false, []⟩, jn := fun i => none, dt := fun i => none }
noncomputable def c24 : Code := Try.f24.body.getD .skip
def rs24 : List ResultVar := [.tmp 2]
def fi24 : FnI := { nt := 29, lp := fun i => if i = 2 then ⟨false, [0, 5, 6, 7]⟩ else ⟨false, []⟩, jn := fun i => none, dt := fun i => none }
noncomputable def c25 : Code := Try.f25.body.getD .skip
def rs25 : List ResultVar := [.tmp 4]
def fi25 : FnI := { nt := 12, lp := fun i => ⟨false, []⟩, jn := fun i => none, dt := fun i => none }
noncomputable def c26 : Code := Try.f26.body.getD .skip
def rs26 : List ResultVar := [.cell 2 35, .tmp 3]
def fi26 : FnI := { nt := 11, lp := fun i => ⟨false, []⟩, jn := fun i => none, dt := fun i => none }
noncomputable def c27 : Code := Try.f27.body.getD .skip
def rs27 : List ResultVar := [.cell 2 25]
def fi27 : FnI := { nt := 11, lp := fun i => ⟨false, []⟩, jn := fun i => none, dt := fun i => none }
noncomputable def c28 : Code := Try.f28.body.getD .skip
def rs28 : List ResultVar := [.tmp 2]
def fi28 : FnI := { nt := 8, lp := fun i => ⟨false, []⟩, jn := fun i => none, dt := fun i => none }
noncomputable def c29 : Code := Try.f29.body.getD .skip
def rs29 : List ResultVar := [.cell 0 37]
def fi29 : FnI := { nt := 4, lp := fun i => ⟨false, []⟩, jn := fun i => none, dt := fun i => none }
noncomputable def c30 : Code := Try.f30.body.getD .skip
def rs30 : List ResultVar := [.tmp 4]
def fi30 : FnI := { nt := 27, lp := fun i => if i = 4 then ⟨false, [0, 1, 5]⟩ else ⟨false, []⟩, jn := fun i => none, dt := fun i => none }
noncomputable def c31 : Code := Try.f31.body.getD .skip
def rs31 : List ResultVar := [.tmp 4]
def fi31 : FnI := { nt := 26, lp := fun i => if i = 4 then ⟨false, [0, 1, 5]⟩ else ⟨false, []⟩, jn := fun i => none, dt := fun i => none }
noncomputable def c32 : Code := Try.f32.body.getD .skip
def rs32 : List ResultVar := [.tmp 4]
def fi32 : FnI := { nt := 24, lp := fun i => ⟨false, []⟩, jn := fun i => none, dt := fun i => none }
noncomputable def c33 : Code := Try.f33.body.getD .skip
def rs33 : List ResultVar := [.tmp 4]
def fi33 : FnI := { nt := 24, lp := fun i => ⟨false, []⟩, jn := fun i => none, dt := fun i => none }
noncomputable def c34 : Code := Try.f34.body.getD .skip
def rs34 : List ResultVar := [.tmp 4]
def fi34 : FnI := { nt := 31, lp := fun i => ⟨false, []⟩, jn := fun i => none, dt := fun i => none }
noncomputable def c35 : Code := Try.f35.body.getD .skip
def rs35 : List ResultVar := [.tmp 6]
def fi35 : FnI := { nt := 15, lp := fun i => ⟨false, []⟩, jn := fun i => none, dt := fun i => none }
noncomputable def c36 : Code := Try.f36.body.getD .skip
def rs36 : List ResultVar := [.tmp 2]
def fi36 : FnI := { nt := 56, lp := fun i => if i = 2 then ⟨true, [1, 6, 7, 8]⟩ else ⟨false, []⟩, jn := fun i => none, dt := fun i => none }
noncomputable def c37 : Code := Try.f37.body.getD .skip
def rs37 : List ResultVar := [.tmp 2]
def fi37 : FnI := { nt := 41, lp := fun i => if i = 2 then ⟨true, [1, 6, 7, 8]⟩ else ⟨false, []⟩, jn := fun i => none, dt := fun i => none }
noncomputable def c38 : Code := Try.f38.body.getD .skip
def rs38 : List ResultVar := [.tmp 2]
def fi38 : FnI := { nt := 30, lp := fun i => if i = 2 then ⟨true, [0, 5, 6, 7]⟩ else ⟨false, []⟩, jn := fun i => none, dt := fun i => none }
noncomputable def c39 : Code := Try.f39.body.getD .skip
def rs39 : List ResultVar := [.tmp 2]
def fi39 : FnI := { nt := 16, lp := fun i => ⟨false, []⟩, jn := fun i => none, dt := fun i => none }
noncomputable def c40 : Code := Try.f40.body.getD .skip
def rs40 : List ResultVar := [.tmp 2]
def fi40 : FnI := { nt := 32, lp := fun i => ⟨false, []⟩, jn := fun i => none, dt := fun i => none }
noncomputable def c41 : Code := Try.f41.body.getD .skip
def rs41 : List ResultVar := [.tmp 2]
def fi41 : FnI := { nt := 39, lp := fun i => ⟨false, []⟩, jn := fun i => none, dt := fun i => none }
noncomputable def c42 : Code := Try.f42.body.getD .skip
def rs42 : List ResultVar := [.tmp 4]
def fi42 : FnI := { nt := 26, lp := fun i => if i = 4 then ⟨false, [0, 1, 12, 13]⟩ else ⟨false, []⟩, jn := fun i => none, dt := fun i => none }
noncomputable def c43 : Code := Try.f43.body.getD .skip
def rs43 : List ResultVar := [.tmp 2]
def fi43 : FnI := { nt := 35, lp := fun i => if i = 5 then ⟨true, [3, 13, 14, 15]⟩ else if i = 8 then ⟨true, [3, 13, 14, 15, 20, 21, 22]⟩ else ⟨false, []⟩, jn := fun i => none, dt := fun i => none }
noncomputable def c44 : Code := Try.f44.body.getD .skip
def rs44 : List ResultVar := [.tmp 4]
def fi44 : FnI := { nt := 29, lp := fun i => if i = 5 then ⟨false, [1, 5, 16, 17, 18]⟩ else ⟨false, []⟩, jn := fun i => if i = 9 then some [1, 5, 16, 17, 18] else none, dt := fun i => none }
noncomputable def c45 : Code := Try.f45.body.getD .skip
def rs45 : List ResultVar := [.tmp 6]
def fi45 : FnI := { nt := 15, lp := fun i => ⟨false, []⟩, jn := fun i => none, dt := fun i => none }
noncomputable def c46 : Code := Try.f46.body.getD .skip
def rs46 : List ResultVar := [.tmp 2]
def fi46 : FnI := { nt := 54, lp := fun i => if i = 3 then ⟨false, [0, 3, 4]⟩ else if i = 7 then ⟨false, [0, 3, 5]⟩ else if i = 10 then ⟨false, [0, 3, 5, 6]⟩ else ⟨false, []⟩, jn := fun i => none, dt := fun i => none }
noncomputable def c47 : Code := Try.f47.body.getD .skip
def rs47 : List ResultVar := [.tmp 4]
def fi47 : FnI := { nt := 48, lp := fun i => if i = 8 then ⟨false, [7, 8]⟩ else ⟨false, []⟩, jn := fun i => if i = 3 then some [0, 1] else if i = 6 then some [0, 6] else none, dt := fun i => none }
noncomputable def c48 : Code := Try.f48.body.getD .skip
def rs48 : List ResultVar := [.tmp 4]
def fi48 : FnI := { nt := 73, lp := fun i => if i = 4 then ⟨false, [2, 3, 5]⟩ else if i = 9 then ⟨false, [2, 3, 6]⟩ else ⟨false, []⟩, jn := fun i => none, dt := fun i => none }
noncomputable def c49 : Code := Try.f49.body.getD .skip
def rs49 : List ResultVar := [.tmp 4]
def fi49 : FnI := { nt := 26, lp := fun i => if i = 4 then ⟨false, [0, 1, 5]⟩ else ⟨false, []⟩, jn := fun i => none, dt := fun i => none }
noncomputable def c50 : Code := Try.f50.body.getD .skip
def rs50 : List ResultVar := [.tmp 4]
def fi50 : FnI := { nt := 25, lp := fun i => ⟨false, []⟩, jn := fun i => none, dt := fun i => none }
noncomputable def c51 : Code := Try.f51.body.getD .skip
def rs51 : List ResultVar := [.tmp 2]
def fi51 : FnI := { nt := 82, lp := fun i => if i = 2 then ⟨true, [1, 6, 7, 8]⟩ else ⟨false, []⟩, jn := fun i => none, dt := fun i => none }
noncomputable def c52 : Code := Try.f52.body.getD .skip
def rs52 : List ResultVar := [.tmp 2]
def fi52 : FnI := { nt := 106, lp := fun i => if i = 4 then ⟨true, [1, 30, 31, 32]⟩ else if i = 10 then ⟨true, [1, 65, 66, 67]⟩ else ⟨false, []⟩, jn := fun i => none, dt := fun i => none }
noncomputable def c53 : Code := Try.f53.body.getD .skip
def rs53 : List ResultVar := [.tmp 4]
def fi53 : FnI := { nt := 17, lp := fun i => ⟨false, []⟩, jn := fun i => none, dt := fun i => none }
noncomputable def c54 : Code := Try.f54.body.getD .skip
def rs54 : List ResultVar := [.tmp 4]
def fi54 : FnI := { nt := 24, lp := fun i => ⟨false, []⟩, jn := fun i => none, dt := fun i => none }
noncomputable def c55 : Code := Try.f55.body.getD .skip
def rs55 : List ResultVar := [.tmp 2]
def fi55 : FnI := { nt := 6, lp := fun i => ⟨false, []⟩, jn := fun i => none, dt := fun i => none }
noncomputable def c56 : Code := Try.f56.body.getD .skip
def rs56 : List ResultVar := [.tmp 4]
def fi56 : FnI := { nt := 9, lp := fun i => ⟨false, []⟩, jn := fun i => none, dt := fun i => none }
noncomputable def c57 : Code := Try.f57.body.getD .skip
def rs57 : List ResultVar := [.tmp 2]
def fi57 : FnI := { nt := 53, lp := fun i => if i = 5 then ⟨true, [1, 3, 11, 12, 13]⟩ else if i = 10 then ⟨true, [1, 3, 11, 12, 13, 38, 39, 40]⟩ else ⟨false, []⟩, jn := fun i => none, dt := fun i => none }
noncomputable def c58 : Code := Try.f58.body.getD .skip
def rs58 : List ResultVar := [.tmp 3]
def fi58 : FnI := { nt := 10, lp := fun i => ⟨false, []⟩, jn := fun i => none, dt := fun i => none }
noncomputable def c59 : Code := Try.f59.body.getD .skip
def rs59 : List ResultVar := [.tmp 4]
def fi59 : FnI := { nt := 24, lp := fun i => ⟨false, []⟩, jn := fun i => none, dt := fun i => none }
noncomputable def c60 : Code := Try.f60.body.getD .skip
def rs60 : List ResultVar := [.tmp 3]
def fi60 : FnI := { nt := 10, lp := fun i => ⟨false, []⟩, jn := fun i => none, dt := fun i => none }
noncomputable def c61 : Code := Try.f61.body.getD .skip
def rs61 : List ResultVar := [.tmp 3]
def fi61 : FnI := { nt := 10, lp := fun i => ⟨false, []⟩, jn := fun i => none, dt := fun i => none }
noncomputable def c62 : Code := Try.f62.body.getD .skip
def rs62 : List ResultVar := [.tmp 4]
def fi62 : FnI := { nt := 9, lp := fun i => ⟨false, []⟩, jn := fun i => none, dt := fun i => none }
noncomputable def c63 : Code := Try.f63.body.getD .skip
def rs63 : List ResultVar := [.tmp 4]
def fi63 : FnI := { nt := 31, lp := fun i => ⟨false, []⟩, jn := fun i => none, dt := fun i => none }
noncomputable def c64 : Code := Try.f64.body.getD .skip
def rs64 : List ResultVar := [.tmp 4]
def fi64 : FnI := { nt := 9, lp := fun i => ⟨false, []⟩, jn := fun i => none, dt := fun i => none }
noncomputable def c65 : Code := Try.f65.body.getD .skip
def rs65 : List ResultVar := [.tmp 4]
def fi65 : FnI := { nt := 9, lp := fun i => ⟨false, []⟩, jn := fun i => none, dt := fun i => none }
noncomputable def c66 : Code := Try.f66.body.getD .skip
def rs66 : List ResultVar := [.tmp 2]
def fi66 : FnI := { nt := 36, lp := fun i => if i = 3 then ⟨false, [0, 3, 9, 10, 11]⟩ else if i = 11 then ⟨true, [6, 25, 26, 27]⟩ else ⟨false, []⟩, jn := fun i => if i = 8 then some [0, 3, 9, 10, 11] else none, dt := fun i => none }
noncomputable def c67 : Code := Try.f67.body.getD .skip
def rs67 : List ResultVar := [.tmp 4]
def fi67 : FnI := { nt := 9, lp := fun i => ⟨false, []⟩, jn := fun i => none, dt := fun i => none }
noncomputable def c68 : Code := Try.f68.body.getD .skip
def rs68 : List ResultVar := [.tmp 4, .tmp 5]
def fi68 : FnI := { nt := 30, lp := fun i => ⟨false, []⟩, jn := fun i => none, dt := fun i => none }
noncomputable def c69 : Code := Try.f69.body.getD .skip
def rs69 : List ResultVar := [.tmp 2]
def fi69 : FnI := { nt := 5, lp := fun i => ⟨false, []⟩, jn := fun i => none, dt := fun i => none }
noncomputable def c70 : Code := Try.f70.body.getD .skip
def rs70 : List ResultVar := [.tmp 2]
def fi70 : FnI := { nt := 5, lp := fun i => ⟨false, []⟩, jn := fun i => none, dt := fun i => none }
noncomputable def c71 : Code := Try.f71.body.getD .skip
def rs71 : List ResultVar := [.tmp 2]
def fi71 : FnI := { nt := 18, lp := fun i => if i = 3 then ⟨false, [3, 6, 7, 8]⟩ else ⟨false, []⟩, jn := fun i => none, dt := fun i => none }
noncomputable def c72 : Code := Try.f72.body.getD .skip
def rs72 : List ResultVar := [.tmp 4]
def fi72 : FnI := { nt := 20, lp := fun i => ⟨false, []⟩, jn := fun i => none, dt := fun i => none }
noncomputable def c73 : Code := Try.f73.body.getD .skip
def rs73 : List ResultVar := [.tmp 4]
def fi73 : FnI := { nt := 26, lp := fun i => if i = 4 then ⟨false, [0, 1, 12, 13]⟩ else ⟨false, []⟩, jn := fun i => none, dt := fun i => none }
noncomputable def c74 : Code := Try.f74.body.getD .skip
def rs74 : List ResultVar := [.tmp 4]
def fi74 : FnI := { nt := 19, lp := fun i => if i = 2 then ⟨false, [0, 1, 7, 8]⟩ else ⟨false, []⟩, jn := fun i => none, dt := fun i => none }
noncomputable def c75 : Code := Try.f75.body.getD .skip
def rs75 : List ResultVar := [.tmp 4]
def fi75 : FnI := { nt := 9, lp := fun i => ⟨false, []⟩, jn := fun i => none, dt := fun i => none }
noncomputable def c76 : Code := Try.f76.body.getD .skip
def rs76 : List ResultVar := [.tmp 3]
def fi76 : FnI := { nt := 8, lp := fun i => ⟨false, []⟩, jn := fun i => none, dt := fun i => none }
noncomputable def c77 : Code := Try.f77.body.getD .skip
def rs77 : List ResultVar := [.tmp 4]
def fi77 : FnI := { nt := 8, lp := fun i => ⟨false, []⟩, jn := fun i => none, dt := fun i => none }
noncomputable def c78 : Code := Try.f78.body.getD .skip
def rs78 : List ResultVar := [.tmp 4]
def fi78 : FnI := { nt := 19, lp := fun i => if i = 2 then ⟨false, [0, 1, 7, 8]⟩ else ⟨false, []⟩, jn := fun i => none, dt := fun i => none }
noncomputable def c79 : Code := Try.f79.body.getD .skip
def rs79 : List ResultVar := [.tmp 4]
def fi79 : FnI := { nt := 26, lp := fun i => if i = 4 then ⟨false, [0, 1, 12, 13]⟩ else ⟨false, []⟩, jn := fun i => none, dt := fun i => none }
noncomputable def c80 : Code := Try.f80.body.getD .skip
def rs80 : List ResultVar := [.tmp 4]
def fi80 : FnI := { nt := 26, lp := fun i => if i = 4 then ⟨false, [0, 1, 12, 13]⟩ else ⟨false, []⟩, jn := fun i => none, dt := fun i => none }
noncomputable def c81 : Code := Try.f81.body.getD .skip
def rs81 : List ResultVar := [.tmp 4]
def fi81 : FnI := { nt := 19, lp := fun i => if i = 2 then ⟨false, [0, 1, 7, 8]⟩ else ⟨false, []⟩, jn := fun i => none, dt := fun i => none }
noncomputable def c82 : Code := Try.f82.body.getD .skip
def rs82 : List ResultVar := [.tmp 4]
def fi82 : FnI := { nt := 19, lp := fun i => if i = 2 then ⟨false, [0, 1, 7, 8]⟩ else ⟨false, []⟩, jn := fun i => none, dt := fun i => none }
noncomputable def c83 : Code := Try.f83.body.getD .skip
def rs83 : List ResultVar := [.tmp 4]
def fi83 : FnI := { nt := 27, lp := fun i => ⟨false, []⟩, jn := fun i => if i = 3 then some [0, 1] else if i = 6 then some [0] else none, dt := fun i => none }
noncomputable def c84 : Code := Try.f84.body.getD .skip
def rs84 : List ResultVar := [.tmp 4]
def fi84 : FnI := { nt := 19, lp := fun i => if i = 2 then ⟨false, [0, 1, 7, 8]⟩ else ⟨false, []⟩, jn := fun i => none, dt := fun i => none }
noncomputable def c85 : Code := Try.f85.body.getD .skip
def rs85 : List ResultVar := [.tmp 4, .tmp 5]
def fi85 : FnI := { nt := 17, lp := fun i => ⟨false, []⟩, jn := fun i => none, dt := fun i => none }
noncomputable def c86 : Code := Try.f86.body.getD .skip
def rs86 : List ResultVar := [.tmp 4, .tmp 5]
def fi86 : FnI := { nt := 51, lp := fun i => ⟨false, []⟩, jn := fun i => none, dt := fun i => none }
noncomputable def c87 : Code := Try.f87.body.getD .skip
def rs87 : List ResultVar := [.tmp 2]
def fi87 : FnI := { nt := 6, lp := fun i => ⟨false, []⟩, jn := fun i => none, dt := fun i => none }
noncomputable def c88 : Code := Try.f88.body.getD .skip
def rs88 : List ResultVar := [.tmp 4]
def fi88 : FnI := { nt := 19, lp := fun i => if i = 2 then ⟨false, [0, 1, 7, 8]⟩ else ⟨false, []⟩, jn := fun i => none, dt := fun i => none }
noncomputable def c89 : Code := Try.f89.body.getD .skip
def rs89 : List ResultVar := [.tmp 3]
def fi89 : FnI := { nt := 16, lp := fun i => ⟨false, []⟩, jn := fun i => none, dt := fun i => none }
noncomputable def codeL : List (Option Func) := [none, none, none, some Try.f3, some Try.f4, some Try.f5, some Try.f6, some Try.f7, some Try.f8, some Try.f9, some Try.f10, some Try.f11, some Try.f12, some Try.f13, some Try.f14, some Try.f15, some Try.f16, some Try.f17, some Try.f18, some Try.f19, some Try.f20, some Try.f21, some Try.f22, some Try.f23, some Try.f24, some Try.f25, some Try.f26, some Try.f27, some Try.f28, some Try.f29, some Try.f30, some Try.f31, some Try.f32, some Try.f33, some Try.f34, some Try.f35, some Try.f36, some Try.f37, some Try.f38, some Try.f39, some Try.f40, some Try.f41, some Try.f42, some Try.f43, some Try.f44, some Try.f45, some Try.f46, some Try.f47, some Try.f48, some Try.f49, some Try.f50, some Try.f51, some Try.f52, some Try.f53, some Try.f54, some Try.f55, some Try.f56, some Try.f57, some Try.f58, some Try.f59, some Try.f60, some Try.f61, some Try.f62, some Try.f63, some Try.f64, some Try.f65, some Try.f66, some Try.f67, some Try.f68, some Try.f69, some Try.f70, some Try.f71, some Try.f72, some Try.f73, some Try.f74, some Try.f75, some Try.f76, some Try.f77, some Try.f78, some Try.f79, some Try.f80, some Try.f81, some Try.f82, some Try.f83, some Try.f84, some Try.f85, some Try.f86, some Try.f87, some Try.f88, some Try.f89]
def fiL : List FnI := [⟨0, fun _ => ⟨false, []⟩, fun _ => none, fun _ => none⟩, ⟨0, fun _ => ⟨false, []⟩, fun _ => none, fun _ => none⟩, ⟨0, fun _ => ⟨false, []⟩, fun _ => none, fun _ => none⟩, fi3, fi4, fi5, fi6, fi7, fi8, fi9, fi10, fi11, fi12, fi13, fi14, fi15, fi16, fi17, fi18, fi19, fi20, fi21, fi22, fi23, fi24, fi25, fi26, fi27, fi28, fi29, fi30, fi31, fi32, fi33, fi34, fi35, fi36, fi37, fi38, fi39, fi40, fi41, fi42, fi43, fi44, fi45, fi46, fi47, fi48, fi49, fi50, fi51, fi52, fi53, fi54, fi55, fi56, fi57, fi58, fi59, fi60, fi61, fi62, fi63, fi64, fi65, fi66, fi67, fi68, fi69, fi70, fi71, fi72, fi73, fi74, fi75, fi76, fi77, fi78, fi79, fi80, fi81, fi82, fi83, fi84, fi85, fi86, fi87, fi88, fi89]
def primF (f : Nat) : Option (List SV → List SO → Out) := if f = 28 then some (cloneS 1 8) else none
def purF : Nat → List Nat := fun f => match f with | 4 => [1, 100] | 5 => [1, 2, 3, 4, 6, 11, 12, 13, 14, 16] | 6 => [1, 2, 3, 4, 6, 11, 12, 13, 14, 16] | 22 => [0, 1, 3] | 29 => [0, 1, 3]  | _ => []
noncomputable def prg : Prg := { T := tab, own := ownF, pur := purF, code := fun f => (codeL[f]?).getD none, fi := fun f => (fiL[f]?).getD ⟨0, fun _ => ⟨false, []⟩, fun _ => none, fun _ => none⟩, prim := primF }
noncomputable def X3 (K : Nat → List SV → List SO → Out) (N nl : Nat) (x0 : SV) (os : List SO) : Out := exec (cx K) N nl fi3 c3 [(0, x0)] os (kEnd tab [] nl rs3)
noncomputable def B3 (K : Nat → List SV → List SO → Out) (N nl : Nat) (x0 : SV) (os : List SO) : Out :=
 bd (lenO tab 22 os x0) fun v1 o1 =>
 bd (ret1 (binS tab .gtr 3 v1 (SV.v (.int .i64 1048576))) o1) fun v2 o2 =>
 condS v2 (retV tab nl o2 (resC1 (some (SV.v (.bool true))) (some [])))
 (bd (callS ⟨tab, ownF, K⟩ o2 4 [x0]) fun v3 o3 =>
 bd (ret1 (extractS v3 0) o3) fun v4 o4 =>
 bd (ret1 (extractS v3 1) o4) fun v5 o5 =>
 bd (allocS tab o5 25) fun v6 o6 =>
 bd (storeO tab o6 25 v6 (some v4)) fun v7 o7 =>
 bd (ret1 (loadS tab o7 25 v6) o7) fun v8 o8 =>
 bd (callS ⟨tab, ownF, K⟩ o8 5 [v8, v5]) fun v9 o9 =>
 bd (ret1 (extractS v9 0) o9) fun v10 o10 =>
 bd (ret1 (extractS v9 1) o10) fun v11 o11 =>
 bd (allocS tab o11 39) fun v12 o12 =>
 bd (storeO tab o12 39 v12 (some v10)) fun v13 o13 =>
 bd (ret1 (loadS tab o13 25 v6) o13) fun v14 o14 =>
 bd (callS ⟨tab, ownF, K⟩ o14 6 [v14, v5]) fun v15 o15 =>
 bd (ret1 (extractS v15 0) o15) fun v16 o16 =>
 bd (ret1 (extractS v15 1) o16) fun v17 o17 =>
 bd (allocS tab o17 39) fun v18 o18 =>
 bd (storeO tab o18 39 v18 (some v16)) fun v19 o19 =>
 bd (ret1 (binS tab .neq 4 v17 v11) o19) fun v20 o20 =>
 bd (gd v20 false (ret1 (loadS tab o20 39 v18) o20) o20) fun v21 o21 =>
 bd (gd v20 false (ret1 (loadS tab o21 39 v12) o21) o21) fun v22 o22 =>
 bd (gd v20 false (callS ⟨tab, ownF, K⟩ o22 7 [v21, v22]) o22) fun v23 o23 =>
 bd (gd v20 false (ret1 (unS .not v23) o23) o23) fun v24 o24 =>
 bd (ret1 (pickS v20 (SV.v (.bool true)) v24) o24) fun v25 o25 =>
 bd (gd v25 false (some (v17, o25)) o25) fun v26 o26 =>
 bd (gd v25 false (ret1 (unS .not v26) o26) o26) fun v27 o27 =>
 bd (ret1 (pickS v25 (SV.v (.bool true)) v27) o27) fun v28 o28 =>
 condS v28 (bd (ret1 (binS tab .eql 4 v17 v11) o28) fun v29 o29 =>
 bd (gd v29 true (ret1 (loadS tab o29 39 v18) o29) o29) fun v30 o30 =>
 bd (gd v29 true (ret1 (loadS tab o30 39 v12) o30) o30) fun v31 o31 =>
 bd (gd v29 true (callS ⟨tab, ownF, K⟩ o31 7 [v30, v31]) o31) fun v32 o32 =>
 bd (ret1 (pickS v29 v32 (SV.v (.bool false))) o32) fun v33 o33 =>
 retV tab nl o33 (resC1 (some v33) (some [])))
 (bd (ret1 (loadS tab o28 39 v18) o28) fun v34 o34 =>
 bd (callS ⟨tab, ownF, K⟩ o34 8 [v34]) fun v35 o35 =>
 bd (gd v35 true (ret1 (fieldAddrS tab 39 v18 5) o35) o35) fun v36 o36 =>
 bd (gd v35 true (ret1 (fieldAddrS tab 35 v36 0) o36) o36) fun v37 o37 =>
 bd (gd v35 true (ret1 (loadS tab o37 25 v37) o37) o37) fun v38 o38 =>
 bd (gd v35 true (ret1 (loadS tab o38 25 v6) o38) o38) fun v39 o39 =>
 bd (gd v35 true (callS ⟨tab, ownF, K⟩ o39 9 [v38, v39]) o39) fun v40 o40 =>
 bd (ret1 (pickS v35 v40 (SV.v (.bool false))) o40) fun v41 o41 =>
 bd (gd v41 true (ret1 (fieldAddrS tab 39 v18 5) o41) o41) fun v42 o42 =>
 bd (gd v41 true (ret1 (fieldAddrS tab 35 v42 1) o42) o42) fun v43 o43 =>
 bd (gd v41 true (ret1 (loadS tab o43 4 v43) o43) o43) fun v44 o44 =>
 bd (gd v41 true (ret1 (unS .not v44) o44) o44) fun v45 o45 =>
 bd (ret1 (pickS v41 v45 (SV.v (.bool false))) o45) fun v46 o46 =>
 bd (gd v46 true (ret1 (fieldAddrS tab 39 v18 1) o46) o46) fun v47 o47 =>
 bd (gd v46 true (ret1 (loadS tab o47 28 v47) o47) o47) fun v48 o48 =>
 bd (gd v46 true (lenO tab 28 o48 v48) o48) fun v49 o49 =>
 bd (gd v46 true (ret1 (binS tab .eql 3 v49 (SV.v (.int .i64 1))) o49) o49) fun v50 o50 =>
 bd (ret1 (pickS v46 v50 (SV.v (.bool false))) o50) fun v51 o51 =>
 bd (gd v51 true (ret1 (fieldAddrS tab 39 v18 2) o51) o51) fun v52 o52 =>
 bd (gd v51 true (ret1 (loadS tab o52 29 v52) o52) o52) fun v53 o53 =>
 bd (gd v51 true (lenO tab 29 o53 v53) o53) fun v54 o54 =>
 bd (gd v51 true (ret1 (fieldAddrS tab 39 v18 3) o54) o54) fun v55 o55 =>
 bd (gd v51 true (ret1 (loadS tab o55 30 v55) o55) o55) fun v56 o56 =>
 bd (gd v51 true (lenO tab 30 o56 v56) o56) fun v57 o57 =>
 bd (gd v51 true (ret1 (binS tab .add 3 v54 v57) o57) o57) fun v58 o58 =>
 bd (gd v51 true (ret1 (fieldAddrS tab 39 v18 6) o58) o58) fun v59 o59 =>
 bd (gd v51 true (ret1 (loadS tab o59 30 v59) o59) o59) fun v60 o60 =>
 bd (gd v51 true (lenO tab 30 o60 v60) o60) fun v61 o61 =>
 bd (gd v51 true (ret1 (binS tab .add 3 v58 v61) o61) o61) fun v62 o62 =>
 bd (gd v51 true (ret1 (binS tab .eql 3 v62 (SV.v (.int .i64 0))) o62) o62) fun v63 o63 =>
 bd (ret1 (pickS v51 v63 (SV.v (.bool false))) o63) fun v64 o64 =>
 bd (gd v64 true (ret1 (fieldAddrS tab 39 v18 7) o64) o64) fun v65 o65 =>
 bd (gd v64 true (ret1 (loadS tab o65 37 v65) o65) o65) fun v66 o66 =>
 bd (gd v64 true (callS ⟨tab, ownF, K⟩ o66 10 [v66]) o66) fun v67 o67 =>
 bd (ret1 (pickS v64 v67 (SV.v (.bool false))) o67) fun v68 o68 =>
 bd (gd v68 true (ret1 (loadS tab o68 25 v6) o68) o68) fun v69 o69 =>
 bd (gd v68 true (some (v5, o69)) o69) fun v70 o70 =>
 bd (gd v68 true (callS ⟨tab, ownF, K⟩ o70 11 [v69, v70]) o70) fun v71 o71 =>
 bd (gd v68 true (ret1 (unS .not v71) o71) o71) fun v72 o72 =>
 bd (ret1 (pickS v68 v72 (SV.v (.bool false))) o72) fun v73 o73 =>
 retV tab nl o73 (resC1 (some v73) (some []))))
noncomputable def X4 (K : Nat → List SV → List SO → Out) (N nl : Nat) (x0 : SV) (os : List SO) : Out := exec (cx K) N nl fi4 c4 [(0, x0)] os (kEnd tab [1, 100] nl rs4)
noncomputable def B4 (K : Nat → List SV → List SO → Out) (N nl : Nat) (x0 : SV) (os : List SO) : Out :=
 bd (allocS tab os 25) fun v1 o1 =>
 bd (evN tab 23 o1 none) fun v2 o2 =>
 bd (callS ⟨tab, ownF, K⟩ o2 12 [x0]) fun v3 o3 =>
 bd (callS ⟨tab, ownF, K⟩ o3 13 [v3]) fun v4 o4 =>
 bd (ret1 (extractS v4 0) o4) fun v5 o5 =>
 bd (ret1 (extractS v4 1) o5) fun v6 o6 =>
 bd (allocS tab o6 25) fun v7 o7 =>
 bd (storeO tab o7 25 v7 (some v5)) fun v8 o8 =>
 bd (callS ⟨tab, ownF, K⟩ o8 14 [v3, (SV.v (.int .i64 12))]) fun v9 o9 =>
 bd (ret1 (binS tab .eql 3 v9 (SV.v (.int .i64 0))) o9) fun v10 o10 =>
 condS v10 (bd (callS ⟨tab, ownF, K⟩ o10 15 [v3]) fun v11 o11 =>
 bd (storeO tab o11 25 v1 (some v11)) fun v12 o12 =>
 retP tab [1, 100] nl o12 (resC1 (loadS tab o12 25 v1) (resC1 (some v6) (some []))))
 (bd (ret1 (binS tab .eql 3 v9 (SV.v (.int .i64 1))) o10) fun v13 o13 =>
 condS v13 (dchk (isBox v7) <|
 bd (ret1 (loadS tab o13 25 v7) o13) fun v14 o14 =>
 dchk (keepOk ⟨tab, ownF, K⟩ o14 (SV.fn 16 []) [v3] [v7] false) <|
 bd (callS ⟨tab, ownF, K⟩ o14 16 [v3]) fun v15 o15 =>
 bd (storeO tab o15 25 v1 (some v14)) fun v16 o16 =>
 retP tab [1, 100] nl o16 (resC1 (loadS tab o16 25 v1) (resC1 (some v15) (some []))))
 (bd (ret1 (loadS tab o13 25 v7) o13) fun v17 o17 =>
 bd (storeO tab o17 25 v1 (some v17)) fun v18 o18 =>
 retP tab [1, 100] nl o18 (resC1 (loadS tab o18 25 v1) (resC1 (some v6) (some [])))))
noncomputable def J5_5 (K : Nat → List SV → List SO → Out) (N nl : Nat) (x1 x4 x6 x8 : SV) (os : List SO) : Out := exec (cx K) N nl fi5 (subC c5 [1, 1, 1, 1]) [(1, x1), (4, x4), (6, x6), (8, x8)] os (kEnd tab [1, 2, 3, 4, 6, 11, 12, 13, 14, 16] nl rs5)
noncomputable def JB5_5 (K : Nat → List SV → List SO → Out) (N nl : Nat) (x1 x4 x6 x8 : SV) (os : List SO) : Out :=
 both (both (bd (ret1 (loadS tab os 61 x8) os) fun v120 o120 =>
 bd (buildSliceS tab o120 28 1 [(0, v120)]) fun v121 o121 =>
 bd (nilSl tab o121 29) fun v122 o122 =>
 bd (nilSl tab o122 30) fun v123 o123 =>
 bd (buildSliceS tab o123 23 0 []) fun v124 o124 =>
 bd (appendS tab o124 23 23 v124 x1) fun v125 o125 =>
 dchk (isBox x6) <|
 bd (ret1 (loadS tab o125 35 x6) o125) fun v126 o126 =>
 bd (nilSl tab o126 30) fun v127 o127 =>
 dchk (keepOk ⟨tab, ownF, K⟩ o127 (SV.fn 22 []) [] [x6] false) <|
 bd (callS ⟨tab, ownF, K⟩ o127 22 []) fun v128 o128 =>
 bd (buildS tab o128 39 [(1, (some v121)), (2, (some v122)), (3, (some v123)), (4, (some v125)), (5, (some v126)), (6, (some v127)), (7, (some v128))]) fun v129 o129 =>
 bd (storeO tab o129 39 x4 (some v129)) fun v130 o130 =>
 retP tab [1, 2, 3, 4, 6, 11, 12, 13, 14, 16] nl o130 (resC1 (loadS tab o130 39 x4) (resC1 (some (SV.v (.bool true))) (some []))))
 (bd (ret1 (loadS tab os 61 x8) os) fun v131 o131 =>
 bd (buildSliceS tab o131 28 1 [(0, v131)]) fun v132 o132 =>
 bd (nilSl tab o132 29) fun v133 o133 =>
 bd (nilSl tab o133 30) fun v134 o134 =>
 bd (buildSliceS tab o134 23 0 []) fun v135 o135 =>
 dchk (isBox x6) <|
 bd (ret1 (loadS tab o135 35 x6) o135) fun v136 o136 =>
 bd (appendS tab o136 23 23 v135 x1) fun v137 o137 =>
 bd (nilSl tab o137 30) fun v138 o138 =>
 bd (callS ⟨tab, ownF, K⟩ o138 22 []) fun v139 o139 =>
 bd (buildS tab o139 39 [(1, (some v132)), (2, (some v133)), (3, (some v134)), (4, (some v137)), (5, (some v136)), (6, (some v138)), (7, (some v139))]) fun v140 o140 =>
 bd (storeO tab o140 39 x4 (some v140)) fun v141 o141 =>
 retP tab [1, 2, 3, 4, 6, 11, 12, 13, 14, 16] nl o141 (resC1 (loadS tab o141 39 x4) (resC1 (some (SV.v (.bool true))) (some [])))))
 (both (both (both (dchk (isBox x8) <|
 bd (ret1 (loadS tab os 61 x8) os) fun v142 o142 =>
 bd (nilSl tab o142 29) fun v143 o143 =>
 bd (nilSl tab o143 30) fun v144 o144 =>
 bd (buildSliceS tab o144 23 0 []) fun v145 o145 =>
 bd (buildSliceS tab o145 28 1 [(0, v142)]) fun v146 o146 =>
 bd (appendS tab o146 23 23 v145 x1) fun v147 o147 =>
 dchk (isBox x6) <|
 bd (ret1 (loadS tab o147 35 x6) o147) fun v148 o148 =>
 bd (nilSl tab o148 30) fun v149 o149 =>
 dchk (keepOk ⟨tab, ownF, K⟩ o149 (SV.fn 22 []) [] [x6] false) <|
 bd (callS ⟨tab, ownF, K⟩ o149 22 []) fun v150 o150 =>
 bd (buildS tab o150 39 [(1, (some v146)), (2, (some v143)), (3, (some v144)), (4, (some v147)), (5, (some v148)), (6, (some v149)), (7, (some v150))]) fun v151 o151 =>
 bd (storeO tab o151 39 x4 (some v151)) fun v152 o152 =>
 retP tab [1, 2, 3, 4, 6, 11, 12, 13, 14, 16] nl o152 (resC1 (loadS tab o152 39 x4) (resC1 (some (SV.v (.bool true))) (some []))))
 (dchk (isBox x8) <|
 bd (ret1 (loadS tab os 61 x8) os) fun v153 o153 =>
 bd (nilSl tab o153 29) fun v154 o154 =>
 bd (nilSl tab o154 30) fun v155 o155 =>
 bd (buildSliceS tab o155 23 0 []) fun v156 o156 =>
 bd (buildSliceS tab o156 28 1 [(0, v153)]) fun v157 o157 =>
 dchk (isBox x6) <|
 bd (ret1 (loadS tab o157 35 x6) o157) fun v158 o158 =>
 bd (appendS tab o158 23 23 v156 x1) fun v159 o159 =>
 bd (nilSl tab o159 30) fun v160 o160 =>
 bd (callS ⟨tab, ownF, K⟩ o160 22 []) fun v161 o161 =>
 bd (buildS tab o161 39 [(1, (some v157)), (2, (some v154)), (3, (some v155)), (4, (some v159)), (5, (some v158)), (6, (some v160)), (7, (some v161))]) fun v162 o162 =>
 bd (storeO tab o162 39 x4 (some v162)) fun v163 o163 =>
 retP tab [1, 2, 3, 4, 6, 11, 12, 13, 14, 16] nl o163 (resC1 (loadS tab o163 39 x4) (resC1 (some (SV.v (.bool true))) (some [])))))
 (both (both (dchk (isBox x8) <|
 bd (ret1 (loadS tab os 61 x8) os) fun v164 o164 =>
 bd (nilSl tab o164 29) fun v165 o165 =>
 bd (nilSl tab o165 30) fun v166 o166 =>
 bd (buildSliceS tab o166 23 0 []) fun v167 o167 =>
 bd (appendS tab o167 23 23 v167 x1) fun v168 o168 =>
 bd (buildSliceS tab o168 28 1 [(0, v164)]) fun v169 o169 =>
 dchk (isBox x6) <|
 bd (ret1 (loadS tab o169 35 x6) o169) fun v170 o170 =>
 bd (nilSl tab o170 30) fun v171 o171 =>
 dchk (keepOk ⟨tab, ownF, K⟩ o171 (SV.fn 22 []) [] [x6] false) <|
 bd (callS ⟨tab, ownF, K⟩ o171 22 []) fun v172 o172 =>
 bd (buildS tab o172 39 [(1, (some v169)), (2, (some v165)), (3, (some v166)), (4, (some v168)), (5, (some v170)), (6, (some v171)), (7, (some v172))]) fun v173 o173 =>
 bd (storeO tab o173 39 x4 (some v173)) fun v174 o174 =>
 retP tab [1, 2, 3, 4, 6, 11, 12, 13, 14, 16] nl o174 (resC1 (loadS tab o174 39 x4) (resC1 (some (SV.v (.bool true))) (some []))))
 (dchk (isBox x8) <|
 bd (ret1 (loadS tab os 61 x8) os) fun v175 o175 =>
 bd (nilSl tab o175 29) fun v176 o176 =>
 bd (nilSl tab o176 30) fun v177 o177 =>
 bd (buildSliceS tab o177 23 0 []) fun v178 o178 =>
 bd (appendS tab o178 23 23 v178 x1) fun v179 o179 =>
 dchk (isBox x6) <|
 bd (ret1 (loadS tab o179 35 x6) o179) fun v180 o180 =>
 bd (nilSl tab o180 30) fun v181 o181 =>
 dchk (keepOk ⟨tab, ownF, K⟩ o181 (SV.fn 22 []) [] [x6] false) <|
 bd (callS ⟨tab, ownF, K⟩ o181 22 []) fun v182 o182 =>
 bd (buildSliceS tab o182 28 1 [(0, v175)]) fun v183 o183 =>
 bd (buildS tab o183 39 [(1, (some v183)), (2, (some v176)), (3, (some v177)), (4, (some v179)), (5, (some v180)), (6, (some v181)), (7, (some v182))]) fun v184 o184 =>
 bd (storeO tab o184 39 x4 (some v184)) fun v185 o185 =>
 retP tab [1, 2, 3, 4, 6, 11, 12, 13, 14, 16] nl o185 (resC1 (loadS tab o185 39 x4) (resC1 (some (SV.v (.bool true))) (some [])))))
 (both (dchk (isBox x8) <|
 bd (ret1 (loadS tab os 61 x8) os) fun v186 o186 =>
 bd (nilSl tab o186 29) fun v187 o187 =>
 bd (nilSl tab o187 30) fun v188 o188 =>
 bd (buildSliceS tab o188 23 0 []) fun v189 o189 =>
 dchk (isBox x6) <|
 bd (ret1 (loadS tab o189 35 x6) o189) fun v190 o190 =>
 bd (appendS tab o190 23 23 v189 x1) fun v191 o191 =>
 bd (buildSliceS tab o191 28 1 [(0, v186)]) fun v192 o192 =>
 bd (nilSl tab o192 30) fun v193 o193 =>
 bd (callS ⟨tab, ownF, K⟩ o193 22 []) fun v194 o194 =>
 bd (buildS tab o194 39 [(1, (some v192)), (2, (some v187)), (3, (some v188)), (4, (some v191)), (5, (some v190)), (6, (some v193)), (7, (some v194))]) fun v195 o195 =>
 bd (storeO tab o195 39 x4 (some v195)) fun v196 o196 =>
 retP tab [1, 2, 3, 4, 6, 11, 12, 13, 14, 16] nl o196 (resC1 (loadS tab o196 39 x4) (resC1 (some (SV.v (.bool true))) (some []))))
 (dchk (isBox x8) <|
 bd (ret1 (loadS tab os 61 x8) os) fun v197 o197 =>
 bd (nilSl tab o197 29) fun v198 o198 =>
 bd (nilSl tab o198 30) fun v199 o199 =>
 bd (buildSliceS tab o199 23 0 []) fun v200 o200 =>
 dchk (isBox x6) <|
 bd (ret1 (loadS tab o200 35 x6) o200) fun v201 o201 =>
 bd (appendS tab o201 23 23 v200 x1) fun v202 o202 =>
 bd (nilSl tab o202 30) fun v203 o203 =>
 bd (callS ⟨tab, ownF, K⟩ o203 22 []) fun v204 o204 =>
 bd (buildSliceS tab o204 28 1 [(0, v197)]) fun v205 o205 =>
 bd (buildS tab o205 39 [(1, (some v205)), (2, (some v198)), (3, (some v199)), (4, (some v202)), (5, (some v201)), (6, (some v203)), (7, (some v204))]) fun v206 o206 =>
 bd (storeO tab o206 39 x4 (some v206)) fun v207 o207 =>
 retP tab [1, 2, 3, 4, 6, 11, 12, 13, 14, 16] nl o207 (resC1 (loadS tab o207 39 x4) (resC1 (some (SV.v (.bool true))) (some [])))))))
 (both (both (bd (nilSl tab os 29) fun v208 o208 =>
 bd (nilSl tab o208 30) fun v209 o209 =>
 bd (buildSliceS tab o209 23 0 []) fun v210 o210 =>
 bd (appendS tab o210 23 23 v210 x1) fun v211 o211 =>
 bd (ret1 (loadS tab o211 61 x8) o211) fun v212 o212 =>
 bd (buildSliceS tab o212 28 1 [(0, v212)]) fun v213 o213 =>
 dchk (isBox x6) <|
 bd (ret1 (loadS tab o213 35 x6) o213) fun v214 o214 =>
 bd (nilSl tab o214 30) fun v215 o215 =>
 dchk (keepOk ⟨tab, ownF, K⟩ o215 (SV.fn 22 []) [] [x6] false) <|
 bd (callS ⟨tab, ownF, K⟩ o215 22 []) fun v216 o216 =>
 bd (buildS tab o216 39 [(1, (some v213)), (2, (some v208)), (3, (some v209)), (4, (some v211)), (5, (some v214)), (6, (some v215)), (7, (some v216))]) fun v217 o217 =>
 bd (storeO tab o217 39 x4 (some v217)) fun v218 o218 =>
 retP tab [1, 2, 3, 4, 6, 11, 12, 13, 14, 16] nl o218 (resC1 (loadS tab o218 39 x4) (resC1 (some (SV.v (.bool true))) (some []))))
 (bd (nilSl tab os 29) fun v219 o219 =>
 bd (nilSl tab o219 30) fun v220 o220 =>
 bd (buildSliceS tab o220 23 0 []) fun v221 o221 =>
 bd (appendS tab o221 23 23 v221 x1) fun v222 o222 =>
 dchk (isBox x8) <|
 bd (ret1 (loadS tab o222 61 x8) o222) fun v223 o223 =>
 dchk (isBox x6) <|
 bd (ret1 (loadS tab o223 35 x6) o223) fun v224 o224 =>
 bd (nilSl tab o224 30) fun v225 o225 =>
 dchk (keepOk ⟨tab, ownF, K⟩ o225 (SV.fn 22 []) [] [x8, x6] false) <|
 bd (callS ⟨tab, ownF, K⟩ o225 22 []) fun v226 o226 =>
 bd (buildSliceS tab o226 28 1 [(0, v223)]) fun v227 o227 =>
 bd (buildS tab o227 39 [(1, (some v227)), (2, (some v219)), (3, (some v220)), (4, (some v222)), (5, (some v224)), (6, (some v225)), (7, (some v226))]) fun v228 o228 =>
 bd (storeO tab o228 39 x4 (some v228)) fun v229 o229 =>
 retP tab [1, 2, 3, 4, 6, 11, 12, 13, 14, 16] nl o229 (resC1 (loadS tab o229 39 x4) (resC1 (some (SV.v (.bool true))) (some [])))))
 (both (bd (nilSl tab os 29) fun v230 o230 =>
 bd (nilSl tab o230 30) fun v231 o231 =>
 bd (buildSliceS tab o231 23 0 []) fun v232 o232 =>
 dchk (isBox x6) <|
 bd (ret1 (loadS tab o232 35 x6) o232) fun v233 o233 =>
 bd (appendS tab o233 23 23 v232 x1) fun v234 o234 =>
 bd (ret1 (loadS tab o234 61 x8) o234) fun v235 o235 =>
 bd (buildSliceS tab o235 28 1 [(0, v235)]) fun v236 o236 =>
 bd (nilSl tab o236 30) fun v237 o237 =>
 bd (callS ⟨tab, ownF, K⟩ o237 22 []) fun v238 o238 =>
 bd (buildS tab o238 39 [(1, (some v236)), (2, (some v230)), (3, (some v231)), (4, (some v234)), (5, (some v233)), (6, (some v237)), (7, (some v238))]) fun v239 o239 =>
 bd (storeO tab o239 39 x4 (some v239)) fun v240 o240 =>
 retP tab [1, 2, 3, 4, 6, 11, 12, 13, 14, 16] nl o240 (resC1 (loadS tab o240 39 x4) (resC1 (some (SV.v (.bool true))) (some []))))
 (bd (nilSl tab os 29) fun v241 o241 =>
 bd (nilSl tab o241 30) fun v242 o242 =>
 bd (buildSliceS tab o242 23 0 []) fun v243 o243 =>
 dchk (isBox x6) <|
 bd (ret1 (loadS tab o243 35 x6) o243) fun v244 o244 =>
 bd (appendS tab o244 23 23 v243 x1) fun v245 o245 =>
 dchk (isBox x8) <|
 bd (ret1 (loadS tab o245 61 x8) o245) fun v246 o246 =>
 bd (nilSl tab o246 30) fun v247 o247 =>
 dchk (keepOk ⟨tab, ownF, K⟩ o247 (SV.fn 22 []) [] [x8] false) <|
 bd (callS ⟨tab, ownF, K⟩ o247 22 []) fun v248 o248 =>
 bd (buildSliceS tab o248 28 1 [(0, v246)]) fun v249 o249 =>
 bd (buildS tab o249 39 [(1, (some v249)), (2, (some v241)), (3, (some v242)), (4, (some v245)), (5, (some v244)), (6, (some v247)), (7, (some v248))]) fun v250 o250 =>
 bd (storeO tab o250 39 x4 (some v250)) fun v251 o251 =>
 retP tab [1, 2, 3, 4, 6, 11, 12, 13, 14, 16] nl o251 (resC1 (loadS tab o251 39 x4) (resC1 (some (SV.v (.bool true))) (some [])))))))
noncomputable def X5 (K : Nat → List SV → List SO → Out) (N nl : Nat) (x0 x1 : SV) (os : List SO) : Out := exec (cx K) N nl fi5 c5 [(0, x0), (1, x1)] os (kEnd tab [1, 2, 3, 4, 6, 11, 12, 13, 14, 16] nl rs5)
noncomputable def B5 (K : Nat → List SV → List SO → Out) (N nl : Nat) (x0 x1 : SV) (os : List SO) : Out :=
 bd (boxS tab os 25 (some x0)) fun v1 o1 =>
 bd (allocS tab o1 39) fun v2 o2 =>
 bd (ret1 (loadS tab o2 25 v1) o2) fun v3 o3 =>
 bd (callS ⟨tab, ownF, K⟩ o3 17 [v3]) fun v4 o4 =>
 bd (ret1 (unS .not v4) o4) fun v5 o5 =>
 bd (gd v5 false (some (x1, o5)) o5) fun v6 o6 =>
 bd (gd v5 false (callS ⟨tab, ownF, K⟩ o6 18 [v6]) o6) fun v7 o7 =>
 bd (gd v5 false (ret1 (unS .not v7) o7) o7) fun v8 o8 =>
 bd (ret1 (pickS v5 (SV.v (.bool true)) v8) o8) fun v9 o9 =>
 bd (gd v9 false (ret1 (fieldAddrS tab 25 v1 1) o9) o9) fun v10 o10 =>
 bd (gd v9 false (ret1 (loadS tab o10 23 v10) o10) o10) fun v11 o11 =>
 bd (gd v9 false (some (x1, o11)) o11) fun v12 o12 =>
 dchk (keepOk ⟨tab, ownF, K⟩ o12 (SV.fn 19 []) [v11, v12] [] true) <|
 bd (gd v9 false (callS ⟨tab, ownF, K⟩ o12 19 [v11, v12]) o12) fun v13 o13 =>
 bd (gd v9 false (ret1 (fieldAddrS tab 25 v1 2) o13) o13) fun v14 o14 =>
 dchk (isBox v14) <|
 bd (gd v9 false (ret1 (loadS tab o14 3 v14) o14) o14) fun v15 o15 =>
 bd (gd v9 false (ret1 (binS tab .geq 3 v13 v15) o15) o15) fun v16 o16 =>
 bd (ret1 (pickS v9 (SV.v (.bool true)) v16) o16) fun v17 o17 =>
 bd (gd v17 false (ret1 (fieldAddrS tab 25 v1 0) o17) o17) fun v18 o18 =>
 bd (gd v17 false (ret1 (loadS tab o18 3 v18) o18) o18) fun v19 o19 =>
 bd (gd v17 false (ret1 (binS tab .neq 3 v19 (SV.v (.int .i64 1))) o19) o19) fun v20 o20 =>
 bd (ret1 (pickS v17 (SV.v (.bool true)) v20) o20) fun v21 o21 =>
 condS v21 (bd (buildS tab o21 39 []) fun v22 o22 =>
 bd (storeO tab o22 39 v2 (some v22)) fun v23 o23 =>
 retP tab [1, 2, 3, 4, 6, 11, 12, 13, 14, 16] nl o23 (resC1 (loadS tab o23 39 v2) (resC1 (some (SV.v (.bool false))) (some []))))
 (bd (ret1 (loadS tab o21 25 v1) o21) fun v24 o24 =>
 bd (callS ⟨tab, ownF, K⟩ o24 20 [v24]) fun v25 o25 =>
 bd (ret1 (extractS v25 0) o25) fun v26 o26 =>
 bd (ret1 (extractS v25 1) o26) fun v27 o27 =>
 bd (allocS tab o27 35) fun v28 o28 =>
 bd (storeO tab o28 35 v28 (some v26)) fun v29 o29 =>
 both (both (both (both (both (bd (ret1 (loadS tab o29 25 v1) o29) fun v30 o30 =>
 dchk (keepOk ⟨tab, ownF, K⟩ o30 (SV.fn 21 []) [v30] [] true) <|
 bd (callS ⟨tab, ownF, K⟩ o30 21 [v30]) fun v31 o31 =>
 bd (buildSliceS tab o31 23 0 []) fun v32 o32 =>
 bd (ret1 (fieldAddrS tab 25 v1 1) o32) fun v33 o33 =>
 dchk (isBox v33) <|
 bd (ret1 (loadS tab o33 23 v33) o33) fun v34 o34 =>
 bd (appendS tab o34 23 23 v32 v34) fun v35 o35 =>
 bd (buildS tab o35 61 [(0, (some v31)), (1, (some v35))]) fun v36 o36 =>
 bd (allocS tab o36 61) fun v37 o37 =>
 bd (storeO tab o37 61 v37 (some v36)) fun v38 o38 =>
 J5_5 K N nl x1 v2 v28 v37 o38)
 (bd (ret1 (loadS tab o29 25 v1) o29) fun v39 o39 =>
 dchk (keepOk ⟨tab, ownF, K⟩ o39 (SV.fn 21 []) [v39] [] true) <|
 bd (callS ⟨tab, ownF, K⟩ o39 21 [v39]) fun v40 o40 =>
 bd (buildSliceS tab o40 23 0 []) fun v41 o41 =>
 bd (ret1 (fieldAddrS tab 25 v1 1) o41) fun v42 o42 =>
 dchk (isBox v42) <|
 bd (ret1 (loadS tab o42 23 v42) o42) fun v43 o43 =>
 bd (appendS tab o43 23 23 v41 v43) fun v44 o44 =>
 bd (allocS tab o44 61) fun v45 o45 =>
 bd (buildS tab o45 61 [(0, (some v40)), (1, (some v44))]) fun v46 o46 =>
 bd (storeO tab o46 61 v45 (some v46)) fun v47 o47 =>
 J5_5 K N nl x1 v2 v28 v45 o47))
 (bd (ret1 (loadS tab o29 25 v1) o29) fun v48 o48 =>
 dchk (keepOk ⟨tab, ownF, K⟩ o48 (SV.fn 21 []) [v48] [] true) <|
 bd (callS ⟨tab, ownF, K⟩ o48 21 [v48]) fun v49 o49 =>
 bd (buildSliceS tab o49 23 0 []) fun v50 o50 =>
 bd (ret1 (fieldAddrS tab 25 v1 1) o50) fun v51 o51 =>
 dchk (isBox v51) <|
 bd (ret1 (loadS tab o51 23 v51) o51) fun v52 o52 =>
 bd (allocS tab o52 61) fun v53 o53 =>
 bd (appendS tab o53 23 23 v50 v52) fun v54 o54 =>
 bd (buildS tab o54 61 [(0, (some v49)), (1, (some v54))]) fun v55 o55 =>
 bd (storeO tab o55 61 v53 (some v55)) fun v56 o56 =>
 J5_5 K N nl x1 v2 v28 v53 o56))
 (bd (ret1 (loadS tab o29 25 v1) o29) fun v57 o57 =>
 dchk (keepOk ⟨tab, ownF, K⟩ o57 (SV.fn 21 []) [v57] [] true) <|
 bd (callS ⟨tab, ownF, K⟩ o57 21 [v57]) fun v58 o58 =>
 bd (ret1 (fieldAddrS tab 25 v1 1) o58) fun v59 o59 =>
 dchk (isBox v59) <|
 bd (ret1 (loadS tab o59 23 v59) o59) fun v60 o60 =>
 bd (allocS tab o60 61) fun v61 o61 =>
 bd (buildSliceS tab o61 23 0 []) fun v62 o62 =>
 bd (appendS tab o62 23 23 v62 v60) fun v63 o63 =>
 bd (buildS tab o63 61 [(0, (some v58)), (1, (some v63))]) fun v64 o64 =>
 bd (storeO tab o64 61 v61 (some v64)) fun v65 o65 =>
 J5_5 K N nl x1 v2 v28 v61 o65))
 (dchk (isBox v1) <|
 bd (ret1 (loadS tab o29 25 v1) o29) fun v66 o66 =>
 bd (ret1 (fieldAddrS tab 25 v1 1) o66) fun v67 o67 =>
 dchk (isBox v67) <|
 bd (ret1 (loadS tab o67 23 v67) o67) fun v68 o68 =>
 bd (allocS tab o68 61) fun v69 o69 =>
 dchk (keepOk ⟨tab, ownF, K⟩ o69 (SV.fn 21 []) [v66] [v67] false) <|
 bd (callS ⟨tab, ownF, K⟩ o69 21 [v66]) fun v70 o70 =>
 bd (buildSliceS tab o70 23 0 []) fun v71 o71 =>
 bd (appendS tab o71 23 23 v71 v68) fun v72 o72 =>
 bd (buildS tab o72 61 [(0, (some v70)), (1, (some v72))]) fun v73 o73 =>
 bd (storeO tab o73 61 v69 (some v73)) fun v74 o74 =>
 J5_5 K N nl x1 v2 v28 v69 o74))
 (both (both (both (dchk (isBox v1) <|
 bd (ret1 (loadS tab o29 25 v1) o29) fun v75 o75 =>
 bd (buildSliceS tab o75 23 0 []) fun v76 o76 =>
 dchk (keepOk ⟨tab, ownF, K⟩ o76 (SV.fn 21 []) [v75] [] true) <|
 bd (callS ⟨tab, ownF, K⟩ o76 21 [v75]) fun v77 o77 =>
 bd (ret1 (fieldAddrS tab 25 v1 1) o77) fun v78 o78 =>
 dchk (isBox v78) <|
 bd (ret1 (loadS tab o78 23 v78) o78) fun v79 o79 =>
 bd (appendS tab o79 23 23 v76 v79) fun v80 o80 =>
 bd (buildS tab o80 61 [(0, (some v77)), (1, (some v80))]) fun v81 o81 =>
 bd (allocS tab o81 61) fun v82 o82 =>
 bd (storeO tab o82 61 v82 (some v81)) fun v83 o83 =>
 J5_5 K N nl x1 v2 v28 v82 o83)
 (dchk (isBox v1) <|
 bd (ret1 (loadS tab o29 25 v1) o29) fun v84 o84 =>
 bd (buildSliceS tab o84 23 0 []) fun v85 o85 =>
 dchk (keepOk ⟨tab, ownF, K⟩ o85 (SV.fn 21 []) [v84] [] true) <|
 bd (callS ⟨tab, ownF, K⟩ o85 21 [v84]) fun v86 o86 =>
 bd (ret1 (fieldAddrS tab 25 v1 1) o86) fun v87 o87 =>
 dchk (isBox v87) <|
 bd (ret1 (loadS tab o87 23 v87) o87) fun v88 o88 =>
 bd (appendS tab o88 23 23 v85 v88) fun v89 o89 =>
 bd (allocS tab o89 61) fun v90 o90 =>
 bd (buildS tab o90 61 [(0, (some v86)), (1, (some v89))]) fun v91 o91 =>
 bd (storeO tab o91 61 v90 (some v91)) fun v92 o92 =>
 J5_5 K N nl x1 v2 v28 v90 o92))
 (dchk (isBox v1) <|
 bd (ret1 (loadS tab o29 25 v1) o29) fun v93 o93 =>
 bd (buildSliceS tab o93 23 0 []) fun v94 o94 =>
 dchk (keepOk ⟨tab, ownF, K⟩ o94 (SV.fn 21 []) [v93] [] true) <|
 bd (callS ⟨tab, ownF, K⟩ o94 21 [v93]) fun v95 o95 =>
 bd (ret1 (fieldAddrS tab 25 v1 1) o95) fun v96 o96 =>
 dchk (isBox v96) <|
 bd (ret1 (loadS tab o96 23 v96) o96) fun v97 o97 =>
 bd (allocS tab o97 61) fun v98 o98 =>
 bd (appendS tab o98 23 23 v94 v97) fun v99 o99 =>
 bd (buildS tab o99 61 [(0, (some v95)), (1, (some v99))]) fun v100 o100 =>
 bd (storeO tab o100 61 v98 (some v100)) fun v101 o101 =>
 J5_5 K N nl x1 v2 v28 v98 o101))
 (both (dchk (isBox v1) <|
 bd (ret1 (loadS tab o29 25 v1) o29) fun v102 o102 =>
 bd (buildSliceS tab o102 23 0 []) fun v103 o103 =>
 bd (ret1 (fieldAddrS tab 25 v1 1) o103) fun v104 o104 =>
 dchk (isBox v104) <|
 bd (ret1 (loadS tab o104 23 v104) o104) fun v105 o105 =>
 bd (allocS tab o105 61) fun v106 o106 =>
 dchk (keepOk ⟨tab, ownF, K⟩ o106 (SV.fn 21 []) [v102] [v104] false) <|
 bd (callS ⟨tab, ownF, K⟩ o106 21 [v102]) fun v107 o107 =>
 bd (appendS tab o107 23 23 v103 v105) fun v108 o108 =>
 bd (buildS tab o108 61 [(0, (some v107)), (1, (some v108))]) fun v109 o109 =>
 bd (storeO tab o109 61 v106 (some v109)) fun v110 o110 =>
 J5_5 K N nl x1 v2 v28 v106 o110)
 (dchk (isBox v1) <|
 bd (ret1 (loadS tab o29 25 v1) o29) fun v111 o111 =>
 bd (ret1 (fieldAddrS tab 25 v1 1) o111) fun v112 o112 =>
 dchk (isBox v112) <|
 bd (ret1 (loadS tab o112 23 v112) o112) fun v113 o113 =>
 bd (allocS tab o113 61) fun v114 o114 =>
 bd (buildSliceS tab o114 23 0 []) fun v115 o115 =>
 dchk (keepOk ⟨tab, ownF, K⟩ o115 (SV.fn 21 []) [v111] [v112] false) <|
 bd (callS ⟨tab, ownF, K⟩ o115 21 [v111]) fun v116 o116 =>
 bd (appendS tab o116 23 23 v115 v113) fun v117 o117 =>
 bd (buildS tab o117 61 [(0, (some v116)), (1, (some v117))]) fun v118 o118 =>
 bd (storeO tab o118 61 v114 (some v118)) fun v119 o119 =>
 J5_5 K N nl x1 v2 v28 v114 o119))))
noncomputable def J6_5 (K : Nat → List SV → List SO → Out) (N nl : Nat) (x1 x4 x6 x8 : SV) (os : List SO) : Out := exec (cx K) N nl fi6 (subC c6 [1, 1, 1, 1]) [(1, x1), (4, x4), (6, x6), (8, x8)] os (kEnd tab [1, 2, 3, 4, 6, 11, 12, 13, 14, 16] nl rs6)
noncomputable def JB6_5 (K : Nat → List SV → List SO → Out) (N nl : Nat) (x1 x4 x6 x8 : SV) (os : List SO) : Out :=
 both (bd (ret1 (loadS tab os 61 x8) os) fun v59 o59 =>
 bd (buildSliceS tab o59 28 1 [(0, v59)]) fun v60 o60 =>
 dchk (keepOk ⟨tab, ownF, K⟩ o60 (SV.fn 28 []) [x1] [] true) <|
 bd (callS ⟨tab, ownF, K⟩ o60 28 [x1]) fun v61 o61 =>
 dchk (isBox x6) <|
 bd (ret1 (loadS tab o61 35 x6) o61) fun v62 o62 =>
 dchk (keepOk ⟨tab, ownF, K⟩ o62 (SV.fn 29 []) [] [x6] false) <|
 bd (callS ⟨tab, ownF, K⟩ o62 29 []) fun v63 o63 =>
 bd (buildS tab o63 39 [(1, (some v60)), (4, (some v61)), (5, (some v62)), (7, (some v63))]) fun v64 o64 =>
 bd (storeO tab o64 39 x4 (some v64)) fun v65 o65 =>
 retP tab [1, 2, 3, 4, 6, 11, 12, 13, 14, 16] nl o65 (resC1 (loadS tab o65 39 x4) (resC1 (some (SV.v (.bool true))) (some []))))
 (both (dchk (isBox x8) <|
 bd (ret1 (loadS tab os 61 x8) os) fun v66 o66 =>
 dchk (keepOk ⟨tab, ownF, K⟩ o66 (SV.fn 28 []) [x1] [x8] true) <|
 bd (callS ⟨tab, ownF, K⟩ o66 28 [x1]) fun v67 o67 =>
 bd (buildSliceS tab o67 28 1 [(0, v66)]) fun v68 o68 =>
 dchk (isBox x6) <|
 bd (ret1 (loadS tab o68 35 x6) o68) fun v69 o69 =>
 dchk (keepOk ⟨tab, ownF, K⟩ o69 (SV.fn 29 []) [] [x6] false) <|
 bd (callS ⟨tab, ownF, K⟩ o69 29 []) fun v70 o70 =>
 bd (buildS tab o70 39 [(1, (some v68)), (4, (some v67)), (5, (some v69)), (7, (some v70))]) fun v71 o71 =>
 bd (storeO tab o71 39 x4 (some v71)) fun v72 o72 =>
 retP tab [1, 2, 3, 4, 6, 11, 12, 13, 14, 16] nl o72 (resC1 (loadS tab o72 39 x4) (resC1 (some (SV.v (.bool true))) (some []))))
 (dchk (isBox x8) <|
 bd (ret1 (loadS tab os 61 x8) os) fun v73 o73 =>
 dchk (keepOk ⟨tab, ownF, K⟩ o73 (SV.fn 28 []) [x1] [x8] true) <|
 bd (callS ⟨tab, ownF, K⟩ o73 28 [x1]) fun v74 o74 =>
 dchk (isBox x6) <|
 bd (ret1 (loadS tab o74 35 x6) o74) fun v75 o75 =>
 dchk (keepOk ⟨tab, ownF, K⟩ o75 (SV.fn 29 []) [] [x8, x6] false) <|
 bd (callS ⟨tab, ownF, K⟩ o75 29 []) fun v76 o76 =>
 bd (buildSliceS tab o76 28 1 [(0, v73)]) fun v77 o77 =>
 bd (buildS tab o77 39 [(1, (some v77)), (4, (some v74)), (5, (some v75)), (7, (some v76))]) fun v78 o78 =>
 bd (storeO tab o78 39 x4 (some v78)) fun v79 o79 =>
 retP tab [1, 2, 3, 4, 6, 11, 12, 13, 14, 16] nl o79 (resC1 (loadS tab o79 39 x4) (resC1 (some (SV.v (.bool true))) (some [])))))
noncomputable def X6 (K : Nat → List SV → List SO → Out) (N nl : Nat) (x0 x1 : SV) (os : List SO) : Out := exec (cx K) N nl fi6 c6 [(0, x0), (1, x1)] os (kEnd tab [1, 2, 3, 4, 6, 11, 12, 13, 14, 16] nl rs6)
noncomputable def B6 (K : Nat → List SV → List SO → Out) (N nl : Nat) (x0 x1 : SV) (os : List SO) : Out :=
 bd (boxS tab os 25 (some x0)) fun v1 o1 =>
 bd (allocS tab o1 39) fun v2 o2 =>
 bd (ret1 (loadS tab o2 25 v1) o2) fun v3 o3 =>
 bd (callS ⟨tab, ownF, K⟩ o3 23 [v3]) fun v4 o4 =>
 bd (ret1 (unS .not v4) o4) fun v5 o5 =>
 bd (gd v5 false (ret1 (fieldAddrS tab 25 v1 0) o5) o5) fun v6 o6 =>
 bd (gd v5 false (ret1 (loadS tab o6 3 v6) o6) o6) fun v7 o7 =>
 bd (gd v5 false (ret1 (binS tab .neq 3 v7 (SV.v (.int .i64 1))) o7) o7) fun v8 o8 =>
 bd (ret1 (pickS v5 (SV.v (.bool true)) v8) o8) fun v9 o9 =>
 bd (gd v9 false (some (x1, o9)) o9) fun v10 o10 =>
 bd (gd v9 false (callS ⟨tab, ownF, K⟩ o10 24 [v10]) o10) fun v11 o11 =>
 bd (gd v9 false (ret1 (unS .not v11) o11) o11) fun v12 o12 =>
 bd (ret1 (pickS v9 (SV.v (.bool true)) v12) o12) fun v13 o13 =>
 bd (gd v13 false (ret1 (loadS tab o13 25 v1) o13) o13) fun v14 o14 =>
 bd (gd v13 false (some (x1, o14)) o14) fun v15 o15 =>
 bd (gd v13 false (callS ⟨tab, ownF, K⟩ o15 25 [v14, v15]) o15) fun v16 o16 =>
 bd (gd v13 false (ret1 (unS .not v16) o16) o16) fun v17 o17 =>
 bd (ret1 (pickS v13 (SV.v (.bool true)) v17) o17) fun v18 o18 =>
 condS v18 (bd (buildS tab o18 39 []) fun v19 o19 =>
 bd (storeO tab o19 39 v2 (some v19)) fun v20 o20 =>
 retP tab [1, 2, 3, 4, 6, 11, 12, 13, 14, 16] nl o20 (resC1 (loadS tab o20 39 v2) (resC1 (some (SV.v (.bool false))) (some []))))
 (bd (ret1 (loadS tab o18 25 v1) o18) fun v21 o21 =>
 bd (callS ⟨tab, ownF, K⟩ o21 26 [v21]) fun v22 o22 =>
 bd (ret1 (extractS v22 0) o22) fun v23 o23 =>
 bd (ret1 (extractS v22 1) o23) fun v24 o24 =>
 bd (allocS tab o24 35) fun v25 o25 =>
 bd (storeO tab o25 35 v25 (some v23)) fun v26 o26 =>
 both (both (both (bd (ret1 (loadS tab o26 25 v1) o26) fun v27 o27 =>
 dchk (keepOk ⟨tab, ownF, K⟩ o27 (SV.fn 27 []) [v27] [] true) <|
 bd (callS ⟨tab, ownF, K⟩ o27 27 [v27]) fun v28 o28 =>
 bd (ret1 (fieldAddrS tab 25 v1 1) o28) fun v29 o29 =>
 dchk (isBox v29) <|
 bd (ret1 (loadS tab o29 23 v29) o29) fun v30 o30 =>
 bd (callS ⟨tab, ownF, K⟩ o30 28 [v30]) fun v31 o31 =>
 bd (buildS tab o31 61 [(0, (some v28)), (1, (some v31))]) fun v32 o32 =>
 bd (allocS tab o32 61) fun v33 o33 =>
 bd (storeO tab o33 61 v33 (some v32)) fun v34 o34 =>
 J6_5 K N nl x1 v2 v25 v33 o34)
 (bd (ret1 (loadS tab o26 25 v1) o26) fun v35 o35 =>
 dchk (keepOk ⟨tab, ownF, K⟩ o35 (SV.fn 27 []) [v35] [] true) <|
 bd (callS ⟨tab, ownF, K⟩ o35 27 [v35]) fun v36 o36 =>
 bd (ret1 (fieldAddrS tab 25 v1 1) o36) fun v37 o37 =>
 dchk (isBox v37) <|
 bd (ret1 (loadS tab o37 23 v37) o37) fun v38 o38 =>
 bd (callS ⟨tab, ownF, K⟩ o38 28 [v38]) fun v39 o39 =>
 bd (allocS tab o39 61) fun v40 o40 =>
 bd (buildS tab o40 61 [(0, (some v36)), (1, (some v39))]) fun v41 o41 =>
 bd (storeO tab o41 61 v40 (some v41)) fun v42 o42 =>
 J6_5 K N nl x1 v2 v25 v40 o42))
 (bd (ret1 (loadS tab o26 25 v1) o26) fun v43 o43 =>
 dchk (keepOk ⟨tab, ownF, K⟩ o43 (SV.fn 27 []) [v43] [] true) <|
 bd (callS ⟨tab, ownF, K⟩ o43 27 [v43]) fun v44 o44 =>
 bd (ret1 (fieldAddrS tab 25 v1 1) o44) fun v45 o45 =>
 dchk (isBox v45) <|
 bd (ret1 (loadS tab o45 23 v45) o45) fun v46 o46 =>
 bd (allocS tab o46 61) fun v47 o47 =>
 bd (callS ⟨tab, ownF, K⟩ o47 28 [v46]) fun v48 o48 =>
 bd (buildS tab o48 61 [(0, (some v44)), (1, (some v48))]) fun v49 o49 =>
 bd (storeO tab o49 61 v47 (some v49)) fun v50 o50 =>
 J6_5 K N nl x1 v2 v25 v47 o50))
 (dchk (isBox v1) <|
 bd (ret1 (loadS tab o26 25 v1) o26) fun v51 o51 =>
 bd (ret1 (fieldAddrS tab 25 v1 1) o51) fun v52 o52 =>
 dchk (isBox v52) <|
 bd (ret1 (loadS tab o52 23 v52) o52) fun v53 o53 =>
 bd (allocS tab o53 61) fun v54 o54 =>
 dchk (keepOk ⟨tab, ownF, K⟩ o54 (SV.fn 27 []) [v51] [v52] false) <|
 bd (callS ⟨tab, ownF, K⟩ o54 27 [v51]) fun v55 o55 =>
 bd (callS ⟨tab, ownF, K⟩ o55 28 [v53]) fun v56 o56 =>
 bd (buildS tab o56 61 [(0, (some v55)), (1, (some v56))]) fun v57 o57 =>
 bd (storeO tab o57 61 v54 (some v57)) fun v58 o58 =>
 J6_5 K N nl x1 v2 v25 v54 o58))
noncomputable def bk7_4 (K : Nat → List SV → List SO → Out) (N nl : Nat) (m4 : Nat) : Env → List SO → Out := fun env os => loopS nl (fi7.lp 4) (fun env os nx => exec (cx K) N nl fi7 (subC c7 [1, 1, 0, 1, 0, 0]) env os (kLoop nx (kBlock 0 (kSeq (exec (cx K) N nl fi7 (subC c7 [1, 1, 1])) (fi7.jn 8) (kEnd tab [] nl rs7))))) m4 (killS (fi7.lp 4).alive env) os
noncomputable def bk7_9 (K : Nat → List SV → List SO → Out) (N nl : Nat) (m9 : Nat) : Env → List SO → Out := fun env os => loopS nl (fi7.lp 9) (fun env os nx => exec (cx K) N nl fi7 (subC c7 [1, 1, 1, 0, 1, 0, 0]) env os (kLoop nx (kBlock 2 (kSeq (exec (cx K) N nl fi7 (subC c7 [1, 1, 1, 1])) (fi7.jn 13) (kEnd tab [] nl rs7))))) m9 (killS (fi7.lp 9).alive env) os
noncomputable def L7_4 (K : Nat → List SV → List SO → Out) (N nl : Nat) (m4 : Nat) (x2 x3 x5 : SV) (os : List SO) : Out := loopS nl (fi7.lp 4) (fun env os nx => exec (cx K) N nl fi7 (subC c7 [1, 1, 0, 1, 0, 0]) env os (kLoop nx (kBlock 0 (kSeq (exec (cx K) N nl fi7 (subC c7 [1, 1, 1])) (fi7.jn 8) (kEnd tab [] nl rs7))))) m4 [(2, x2), (3, x3), (5, x5)] os
noncomputable def L7_9 (K : Nat → List SV → List SO → Out) (N nl : Nat) (m9 : Nat) (x2 x3 x6 : SV) (os : List SO) : Out := loopS nl (fi7.lp 9) (fun env os nx => exec (cx K) N nl fi7 (subC c7 [1, 1, 1, 0, 1, 0, 0]) env os (kLoop nx (kBlock 2 (kSeq (exec (cx K) N nl fi7 (subC c7 [1, 1, 1, 1])) (fi7.jn 13) (kEnd tab [] nl rs7))))) m9 [(2, x2), (3, x3), (6, x6)] os
noncomputable def LB7_4 (K : Nat → List SV → List SO → Out) (N nl : Nat) (m4 : Nat) (x2 x3 x5 : SV) (os : List SO) : Out :=
 bd (ret1 (fieldAddrS tab 39 x2 1) os) fun v38 o38 =>
 bd (ret1 (loadS tab o38 28 v38) o38) fun v39 o39 =>
 bd (lenO tab 28 o39 v39) fun v40 o40 =>
 bd (ret1 (binS tab .lss 3 x5 v40) o40) fun v41 o41 =>
 condS v41 (bd (ret1 (fieldAddrS tab 39 x2 1) o41) fun v42 o42 =>
 bd (ret1 (loadS tab o42 28 v42) o42) fun v43 o43 =>
 bd (ret1 (indexAddrS tab o43 28 v43 x5) o43) fun v44 o44 =>
 bd (ret1 (fieldAddrS tab 61 v44 0) o44) fun v45 o45 =>
 bd (ret1 (loadS tab o45 25 v45) o45) fun v46 o46 =>
 bd (ret1 (fieldAddrS tab 39 x3 1) o46) fun v47 o47 =>
 bd (ret1 (loadS tab o47 28 v47) o47) fun v48 o48 =>
 bd (ret1 (indexAddrS tab o48 28 v48 x5) o48) fun v49 o49 =>
 bd (ret1 (fieldAddrS tab 61 v49 0) o49) fun v50 o50 =>
 bd (ret1 (loadS tab o50 25 v50) o50) fun v51 o51 =>
 bd (callS ⟨tab, ownF, K⟩ o51 9 [v46, v51]) fun v52 o52 =>
 bd (ret1 (unS .not v52) o52) fun v53 o53 =>
 bd (gd v53 false (ret1 (fieldAddrS tab 39 x2 1) o53) o53) fun v54 o54 =>
 bd (gd v53 false (ret1 (loadS tab o54 28 v54) o54) o54) fun v55 o55 =>
 bd (gd v53 false (some (x5, o55)) o55) fun v56 o56 =>
 bd (gd v53 false (ret1 (indexAddrS tab o56 28 v55 v56) o56) o56) fun v57 o57 =>
 bd (gd v53 false (ret1 (fieldAddrS tab 61 v57 1) o57) o57) fun v58 o58 =>
 bd (gd v53 false (ret1 (loadS tab o58 23 v58) o58) o58) fun v59 o59 =>
 bd (gd v53 false (ret1 (fieldAddrS tab 39 x3 1) o59) o59) fun v60 o60 =>
 bd (gd v53 false (ret1 (loadS tab o60 28 v60) o60) o60) fun v61 o61 =>
 bd (gd v53 false (some (x5, o61)) o61) fun v62 o62 =>
 bd (gd v53 false (ret1 (indexAddrS tab o62 28 v61 v62) o62) o62) fun v63 o63 =>
 bd (gd v53 false (ret1 (fieldAddrS tab 61 v63 1) o63) o63) fun v64 o64 =>
 bd (gd v53 false (ret1 (loadS tab o64 23 v64) o64) o64) fun v65 o65 =>
 bd (gd v53 false (callS ⟨tab, ownF, K⟩ o65 31 [v59, v65]) o65) fun v66 o66 =>
 bd (gd v53 false (ret1 (unS .not v66) o66) o66) fun v67 o67 =>
 bd (ret1 (pickS v53 (SV.v (.bool true)) v67) o67) fun v68 o68 =>
 condS v68 (retV tab nl o68 (resC1 (some (SV.v (.bool false))) (some [])))
 (bd (ret1 (binS tab .add 3 x5 (SV.v (.int .i64 1))) o68) fun v69 o69 =>
 L7_4 K N nl m4 x2 x3 v69 o69))
 (L7_9 K N nl N x2 x3 (SV.v (.int .i64 0)) o41)
noncomputable def LB7_9 (K : Nat → List SV → List SO → Out) (N nl : Nat) (m9 : Nat) (x2 x3 x6 : SV) (os : List SO) : Out :=
 bd (ret1 (fieldAddrS tab 39 x2 2) os) fun v70 o70 =>
 bd (ret1 (loadS tab o70 29 v70) o70) fun v71 o71 =>
 bd (lenO tab 29 o71 v71) fun v72 o72 =>
 bd (ret1 (binS tab .lss 3 x6 v72) o72) fun v73 o73 =>
 condS v73 (bd (ret1 (fieldAddrS tab 39 x2 2) o73) fun v74 o74 =>
 bd (ret1 (loadS tab o74 29 v74) o74) fun v75 o75 =>
 bd (ret1 (indexAddrS tab o75 29 v75 x6) o75) fun v76 o76 =>
 bd (ret1 (fieldAddrS tab 69 v76 0) o76) fun v77 o77 =>
 bd (ret1 (loadS tab o77 33 v77) o77) fun v78 o78 =>
 bd (ret1 (fieldAddrS tab 39 x3 2) o78) fun v79 o79 =>
 bd (ret1 (loadS tab o79 29 v79) o79) fun v80 o80 =>
 bd (ret1 (indexAddrS tab o80 29 v80 x6) o80) fun v81 o81 =>
 bd (ret1 (fieldAddrS tab 69 v81 0) o81) fun v82 o82 =>
 bd (ret1 (loadS tab o82 33 v82) o82) fun v83 o83 =>
 bd (callS ⟨tab, ownF, K⟩ o83 32 [v78, v83]) fun v84 o84 =>
 bd (ret1 (unS .not v84) o84) fun v85 o85 =>
 bd (gd v85 false (ret1 (fieldAddrS tab 39 x2 2) o85) o85) fun v86 o86 =>
 bd (gd v85 false (ret1 (loadS tab o86 29 v86) o86) o86) fun v87 o87 =>
 bd (gd v85 false (some (x6, o87)) o87) fun v88 o88 =>
 bd (gd v85 false (ret1 (indexAddrS tab o88 29 v87 v88) o88) o88) fun v89 o89 =>
 bd (gd v85 false (ret1 (fieldAddrS tab 69 v89 1) o89) o89) fun v90 o90 =>
 bd (gd v85 false (ret1 (loadS tab o90 23 v90) o90) o90) fun v91 o91 =>
 bd (gd v85 false (ret1 (fieldAddrS tab 39 x3 2) o91) o91) fun v92 o92 =>
 bd (gd v85 false (ret1 (loadS tab o92 29 v92) o92) o92) fun v93 o93 =>
 bd (gd v85 false (some (x6, o93)) o93) fun v94 o94 =>
 bd (gd v85 false (ret1 (indexAddrS tab o94 29 v93 v94) o94) o94) fun v95 o95 =>
 bd (gd v85 false (ret1 (fieldAddrS tab 69 v95 1) o95) o95) fun v96 o96 =>
 bd (gd v85 false (ret1 (loadS tab o96 23 v96) o96) o96) fun v97 o97 =>
 bd (gd v85 false (callS ⟨tab, ownF, K⟩ o97 31 [v91, v97]) o97) fun v98 o98 =>
 bd (gd v85 false (ret1 (unS .not v98) o98) o98) fun v99 o99 =>
 bd (ret1 (pickS v85 (SV.v (.bool true)) v99) o99) fun v100 o100 =>
 condS v100 (retV tab nl o100 (resC1 (some (SV.v (.bool false))) (some [])))
 (bd (ret1 (binS tab .add 3 x6 (SV.v (.int .i64 1))) o100) fun v101 o101 =>
 L7_9 K N nl m9 x2 x3 v101 o101))
 (bd (ret1 (fieldAddrS tab 39 x2 5) o73) fun v102 o102 =>
 bd (ret1 (loadS tab o102 35 v102) o102) fun v103 o103 =>
 bd (ret1 (fieldAddrS tab 39 x3 5) o103) fun v104 o104 =>
 bd (ret1 (loadS tab o104 35 v104) o104) fun v105 o105 =>
 bd (callS ⟨tab, ownF, K⟩ o105 33 [v103, v105]) fun v106 o106 =>
 bd (gd v106 true (ret1 (fieldAddrS tab 39 x2 6) o106) o106) fun v107 o107 =>
 bd (gd v106 true (ret1 (loadS tab o107 30 v107) o107) o107) fun v108 o108 =>
 bd (gd v106 true (ret1 (fieldAddrS tab 39 x3 6) o108) o108) fun v109 o109 =>
 bd (gd v106 true (ret1 (loadS tab o109 30 v109) o109) o109) fun v110 o110 =>
 bd (gd v106 true (callS ⟨tab, ownF, K⟩ o110 30 [v108, v110]) o110) fun v111 o111 =>
 bd (ret1 (pickS v106 v111 (SV.v (.bool false))) o111) fun v112 o112 =>
 bd (gd v112 true (ret1 (fieldAddrS tab 39 x2 7) o112) o112) fun v113 o113 =>
 bd (gd v112 true (ret1 (loadS tab o113 37 v113) o113) o113) fun v114 o114 =>
 bd (gd v112 true (ret1 (fieldAddrS tab 39 x3 7) o114) o114) fun v115 o115 =>
 bd (gd v112 true (ret1 (loadS tab o115 37 v115) o115) o115) fun v116 o116 =>
 bd (gd v112 true (callS ⟨tab, ownF, K⟩ o116 34 [v114, v116]) o116) fun v117 o117 =>
 bd (ret1 (pickS v112 v117 (SV.v (.bool false))) o117) fun v118 o118 =>
 retV tab nl o118 (resC1 (some v118) (some [])))
noncomputable def X7 (K : Nat → List SV → List SO → Out) (N nl : Nat) (x0 x1 : SV) (os : List SO) : Out := exec (cx K) N nl fi7 c7 [(0, x0), (1, x1)] os (kEnd tab [] nl rs7)
noncomputable def B7 (K : Nat → List SV → List SO → Out) (N nl : Nat) (x0 x1 : SV) (os : List SO) : Out :=
 bd (boxS tab os 39 (some x0)) fun v1 o1 =>
 bd (boxS tab o1 39 (some x1)) fun v2 o2 =>
 bd (ret1 (fieldAddrS tab 39 v1 0) o2) fun v3 o3 =>
 bd (ret1 (loadS tab o3 3 v3) o3) fun v4 o4 =>
 bd (ret1 (fieldAddrS tab 39 v2 0) o4) fun v5 o5 =>
 bd (ret1 (loadS tab o5 3 v5) o5) fun v6 o6 =>
 bd (ret1 (binS tab .neq 3 v4 v6) o6) fun v7 o7 =>
 bd (gd v7 false (ret1 (fieldAddrS tab 39 v1 1) o7) o7) fun v8 o8 =>
 bd (gd v7 false (ret1 (loadS tab o8 28 v8) o8) o8) fun v9 o9 =>
 bd (gd v7 false (lenO tab 28 o9 v9) o9) fun v10 o10 =>
 bd (gd v7 false (ret1 (fieldAddrS tab 39 v2 1) o10) o10) fun v11 o11 =>
 bd (gd v7 false (ret1 (loadS tab o11 28 v11) o11) o11) fun v12 o12 =>
 bd (gd v7 false (lenO tab 28 o12 v12) o12) fun v13 o13 =>
 bd (gd v7 false (ret1 (binS tab .neq 3 v10 v13) o13) o13) fun v14 o14 =>
 bd (ret1 (pickS v7 (SV.v (.bool true)) v14) o14) fun v15 o15 =>
 bd (gd v15 false (ret1 (fieldAddrS tab 39 v1 2) o15) o15) fun v16 o16 =>
 bd (gd v15 false (ret1 (loadS tab o16 29 v16) o16) o16) fun v17 o17 =>
 bd (gd v15 false (lenO tab 29 o17 v17) o17) fun v18 o18 =>
 bd (gd v15 false (ret1 (fieldAddrS tab 39 v2 2) o18) o18) fun v19 o19 =>
 bd (gd v15 false (ret1 (loadS tab o19 29 v19) o19) o19) fun v20 o20 =>
 bd (gd v15 false (lenO tab 29 o20 v20) o20) fun v21 o21 =>
 bd (gd v15 false (ret1 (binS tab .neq 3 v18 v21) o21) o21) fun v22 o22 =>
 bd (ret1 (pickS v15 (SV.v (.bool true)) v22) o22) fun v23 o23 =>
 bd (gd v23 false (ret1 (fieldAddrS tab 39 v1 3) o23) o23) fun v24 o24 =>
 bd (gd v23 false (ret1 (loadS tab o24 30 v24) o24) o24) fun v25 o25 =>
 bd (gd v23 false (ret1 (fieldAddrS tab 39 v2 3) o25) o25) fun v26 o26 =>
 bd (gd v23 false (ret1 (loadS tab o26 30 v26) o26) o26) fun v27 o27 =>
 bd (gd v23 false (callS ⟨tab, ownF, K⟩ o27 30 [v25, v27]) o27) fun v28 o28 =>
 bd (gd v23 false (ret1 (unS .not v28) o28) o28) fun v29 o29 =>
 bd (ret1 (pickS v23 (SV.v (.bool true)) v29) o29) fun v30 o30 =>
 bd (gd v30 false (ret1 (fieldAddrS tab 39 v1 4) o30) o30) fun v31 o31 =>
 bd (gd v30 false (ret1 (loadS tab o31 23 v31) o31) o31) fun v32 o32 =>
 bd (gd v30 false (ret1 (fieldAddrS tab 39 v2 4) o32) o32) fun v33 o33 =>
 bd (gd v30 false (ret1 (loadS tab o33 23 v33) o33) o33) fun v34 o34 =>
 bd (gd v30 false (callS ⟨tab, ownF, K⟩ o34 31 [v32, v34]) o34) fun v35 o35 =>
 bd (gd v30 false (ret1 (unS .not v35) o35) o35) fun v36 o36 =>
 bd (ret1 (pickS v30 (SV.v (.bool true)) v36) o36) fun v37 o37 =>
 condS v37 (retV tab nl o37 (resC1 (some (SV.v (.bool false))) (some [])))
 (L7_4 K N nl N v1 v2 (SV.v (.int .i64 0)) o37)
noncomputable def X8 (K : Nat → List SV → List SO → Out) (N nl : Nat) (x0 : SV) (os : List SO) : Out := exec (cx K) N nl fi8 c8 [(0, x0)] os (kEnd tab [] nl rs8)
noncomputable def B8 (K : Nat → List SV → List SO → Out) (N nl : Nat) (x0 : SV) (os : List SO) : Out :=
 bd (boxS tab os 39 (some x0)) fun v1 o1 =>
 bd (ret1 (fieldAddrS tab 39 v1 0) o1) fun v2 o2 =>
 bd (ret1 (loadS tab o2 3 v2) o2) fun v3 o3 =>
 bd (callS ⟨tab, ownF, K⟩ o3 35 [v3, (SV.v (.int .i64 0)), (SV.v (.int .i64 60))]) fun v4 o4 =>
 bd (ret1 (unS .not v4) o4) fun v5 o5 =>
 bd (gd v5 false (ret1 (fieldAddrS tab 39 v1 4) o5) o5) fun v6 o6 =>
 bd (gd v5 false (ret1 (loadS tab o6 23 v6) o6) o6) fun v7 o7 =>
 bd (gd v5 false (callS ⟨tab, ownF, K⟩ o7 24 [v7]) o7) fun v8 o8 =>
 bd (gd v5 false (ret1 (unS .not v8) o8) o8) fun v9 o9 =>
 bd (ret1 (pickS v5 (SV.v (.bool true)) v9) o9) fun v10 o10 =>
 bd (gd v10 false (ret1 (loadS tab o10 39 v1) o10) o10) fun v11 o11 =>
 bd (gd v10 false (callS ⟨tab, ownF, K⟩ o11 36 [v11]) o11) fun v12 o12 =>
 bd (gd v10 false (ret1 (unS .not v12) o12) o12) fun v13 o13 =>
 bd (ret1 (pickS v10 (SV.v (.bool true)) v13) o13) fun v14 o14 =>
 bd (gd v14 false (ret1 (loadS tab o14 39 v1) o14) o14) fun v15 o15 =>
 bd (gd v14 false (callS ⟨tab, ownF, K⟩ o15 37 [v15]) o15) fun v16 o16 =>
 bd (gd v14 false (ret1 (unS .not v16) o16) o16) fun v17 o17 =>
 bd (ret1 (pickS v14 (SV.v (.bool true)) v17) o17) fun v18 o18 =>
 bd (gd v18 false (ret1 (fieldAddrS tab 39 v1 3) o18) o18) fun v19 o19 =>
 bd (gd v18 false (ret1 (loadS tab o19 30 v19) o19) o19) fun v20 o20 =>
 bd (gd v18 false (callS ⟨tab, ownF, K⟩ o20 38 [v20]) o20) fun v21 o21 =>
 bd (gd v18 false (ret1 (unS .not v21) o21) o21) fun v22 o22 =>
 bd (ret1 (pickS v18 (SV.v (.bool true)) v22) o22) fun v23 o23 =>
 bd (gd v23 false (ret1 (fieldAddrS tab 39 v1 3) o23) o23) fun v24 o24 =>
 bd (gd v23 false (ret1 (loadS tab o24 30 v24) o24) o24) fun v25 o25 =>
 bd (gd v23 false (lenO tab 30 o25 v25) o25) fun v26 o26 =>
 bd (gd v23 false (ret1 (binS tab .gtr 3 v26 (SV.v (.int .i64 8))) o26) o26) fun v27 o27 =>
 bd (ret1 (pickS v23 (SV.v (.bool true)) v27) o27) fun v28 o28 =>
 condS v28 (retV tab nl o28 (resC1 (some (SV.v (.bool false))) (some [])))
 (bd (ret1 (fieldAddrS tab 39 v1 5) o28) fun v29 o29 =>
 bd (ret1 (loadS tab o29 35 v29) o29) fun v30 o30 =>
 bd (callS ⟨tab, ownF, K⟩ o30 39 [v30]) fun v31 o31 =>
 bd (gd v31 true (ret1 (fieldAddrS tab 39 v1 6) o31) o31) fun v32 o32 =>
 bd (gd v31 true (ret1 (loadS tab o32 30 v32) o32) o32) fun v33 o33 =>
 bd (gd v31 true (callS ⟨tab, ownF, K⟩ o33 38 [v33]) o33) fun v34 o34 =>
 bd (ret1 (pickS v31 v34 (SV.v (.bool false))) o34) fun v35 o35 =>
 bd (gd v35 true (ret1 (fieldAddrS tab 39 v1 7) o35) o35) fun v36 o36 =>
 bd (gd v35 true (ret1 (loadS tab o36 37 v36) o36) o36) fun v37 o37 =>
 bd (gd v35 true (callS ⟨tab, ownF, K⟩ o37 40 [v37]) o37) fun v38 o38 =>
 bd (ret1 (pickS v35 v38 (SV.v (.bool false))) o38) fun v39 o39 =>
 bd (gd v39 true (ret1 (loadS tab o39 39 v1) o39) o39) fun v40 o40 =>
 bd (gd v39 true (callS ⟨tab, ownF, K⟩ o40 41 [v40]) o40) fun v41 o41 =>
 bd (ret1 (pickS v39 v41 (SV.v (.bool false))) o41) fun v42 o42 =>
 retV tab nl o42 (resC1 (some v42) (some [])))
noncomputable def X9 (K : Nat → List SV → List SO → Out) (N nl : Nat) (x0 x1 : SV) (os : List SO) : Out := exec (cx K) N nl fi9 c9 [(0, x0), (1, x1)] os (kEnd tab [] nl rs9)
noncomputable def B9 (K : Nat → List SV → List SO → Out) (N nl : Nat) (x0 x1 : SV) (os : List SO) : Out :=
 bd (boxS tab os 25 (some x0)) fun v1 o1 =>
 bd (boxS tab o1 25 (some x1)) fun v2 o2 =>
 bd (ret1 (fieldAddrS tab 25 v1 0) o2) fun v3 o3 =>
 bd (ret1 (loadS tab o3 3 v3) o3) fun v4 o4 =>
 bd (ret1 (fieldAddrS tab 25 v2 0) o4) fun v5 o5 =>
 bd (ret1 (loadS tab o5 3 v5) o5) fun v6 o6 =>
 bd (ret1 (binS tab .eql 3 v4 v6) o6) fun v7 o7 =>
 bd (gd v7 true (ret1 (fieldAddrS tab 25 v1 2) o7) o7) fun v8 o8 =>
 bd (gd v7 true (ret1 (loadS tab o8 3 v8) o8) o8) fun v9 o9 =>
 bd (gd v7 true (ret1 (fieldAddrS tab 25 v2 2) o9) o9) fun v10 o10 =>
 bd (gd v7 true (ret1 (loadS tab o10 3 v10) o10) o10) fun v11 o11 =>
 bd (gd v7 true (ret1 (binS tab .eql 3 v9 v11) o11) o11) fun v12 o12 =>
 bd (ret1 (pickS v7 v12 (SV.v (.bool false))) o12) fun v13 o13 =>
 bd (gd v13 true (ret1 (fieldAddrS tab 25 v1 1) o13) o13) fun v14 o14 =>
 bd (gd v13 true (ret1 (loadS tab o14 23 v14) o14) o14) fun v15 o15 =>
 bd (gd v13 true (ret1 (fieldAddrS tab 25 v2 1) o15) o15) fun v16 o16 =>
 bd (gd v13 true (ret1 (loadS tab o16 23 v16) o16) o16) fun v17 o17 =>
 bd (gd v13 true (callS ⟨tab, ownF, K⟩ o17 31 [v15, v17]) o17) fun v18 o18 =>
 bd (ret1 (pickS v13 v18 (SV.v (.bool false))) o18) fun v19 o19 =>
 retV tab nl o19 (resC1 (some v19) (some []))
noncomputable def X10 (K : Nat → List SV → List SO → Out) (N nl : Nat) (x0 : SV) (os : List SO) : Out := exec (cx K) N nl fi10 c10 [(0, x0)] os (kEnd tab [] nl rs10)
noncomputable def B10 (K : Nat → List SV → List SO → Out) (N nl : Nat) (x0 : SV) (os : List SO) : Out :=
 bd (boxS tab os 37 (some x0)) fun v1 o1 =>
 bd (ret1 (loadS tab o1 37 v1) o1) fun v2 o2 =>
 bd (callS ⟨tab, ownF, K⟩ o2 40 [v2]) fun v3 o3 =>
 bd (gd v3 true (ret1 (fieldAddrS tab 37 v1 2) o3) o3) fun v4 o4 =>
 bd (gd v3 true (ret1 (loadS tab o4 4 v4) o4) o4) fun v5 o5 =>
 bd (gd v3 true (ret1 (unS .not v5) o5) o5) fun v6 o6 =>
 bd (ret1 (pickS v3 v6 (SV.v (.bool false))) o6) fun v7 o7 =>
 bd (gd v7 true (ret1 (fieldAddrS tab 37 v1 1) o7) o7) fun v8 o8 =>
 dchk (isBox v8) <|
 bd (gd v7 true (ret1 (loadS tab o8 23 v8) o8) o8) fun v9 o9 =>
 bd (gd v7 true (ret1 (fieldAddrS tab 37 v1 0) o9) o9) fun v10 o10 =>
 bd (gd v7 true (ret1 (loadS tab o10 30 v10) o10) o10) fun v11 o11 =>
 dchk (keepOk ⟨tab, ownF, K⟩ o11 (SV.fn 43 []) [v11] [v8] false) <|
 bd (gd v7 true (callS ⟨tab, ownF, K⟩ o11 43 [v11]) o11) fun v12 o12 =>
 bd (gd v7 true (callS ⟨tab, ownF, K⟩ o12 42 [v9, v12]) o12) fun v13 o13 =>
 bd (ret1 (pickS v7 v13 (SV.v (.bool false))) o13) fun v14 o14 =>
 retV tab nl o14 (resC1 (some v14) (some []))
noncomputable def X11 (K : Nat → List SV → List SO → Out) (N nl : Nat) (x0 x1 : SV) (os : List SO) : Out := exec (cx K) N nl fi11 c11 [(0, x0), (1, x1)] os (kEnd tab [] nl rs11)
noncomputable def B11 (K : Nat → List SV → List SO → Out) (N nl : Nat) (x0 x1 : SV) (os : List SO) : Out :=
 bd (boxS tab os 25 (some x0)) fun v1 o1 =>
 bd (ret1 (loadS tab o1 25 v1) o1) fun v2 o2 =>
 bd (callS ⟨tab, ownF, K⟩ o2 23 [v2]) fun v3 o3 =>
 bd (gd v3 true (some (x1, o3)) o3) fun v4 o4 =>
 bd (gd v3 true (callS ⟨tab, ownF, K⟩ o4 24 [v4]) o4) fun v5 o5 =>
 bd (ret1 (pickS v3 v5 (SV.v (.bool false))) o5) fun v6 o6 =>
 bd (gd v6 true (ret1 (fieldAddrS tab 25 v1 1) o6) o6) fun v7 o7 =>
 bd (gd v6 true (ret1 (loadS tab o7 23 v7) o7) o7) fun v8 o8 =>
 bd (gd v6 true (some (x1, o8)) o8) fun v9 o9 =>
 dchk (keepOk ⟨tab, ownF, K⟩ o9 (SV.fn 44 []) [v8, v9] [] true) <|
 bd (gd v6 true (callS ⟨tab, ownF, K⟩ o9 44 [v8, v9]) o9) fun v10 o10 =>
 bd (gd v6 true (ret1 (fieldAddrS tab 25 v1 2) o10) o10) fun v11 o11 =>
 dchk (isBox v11) <|
 bd (gd v6 true (ret1 (loadS tab o11 3 v11) o11) o11) fun v12 o12 =>
 bd (gd v6 true (ret1 (binS tab .geq 3 v10 v12) o12) o12) fun v13 o13 =>
 bd (ret1 (pickS v6 v13 (SV.v (.bool false))) o13) fun v14 o14 =>
 retV tab nl o14 (resC1 (some v14) (some []))
noncomputable def J12_3 (K : Nat → List SV → List SO → Out) (N nl : Nat) (x0 : SV) (os : List SO) : Out := exec (cx K) N nl fi12 (subC c12 [1, 1]) [(0, x0)] os (kEnd tab [] nl rs12)
noncomputable def JB12_3 (K : Nat → List SV → List SO → Out) (N nl : Nat) (x0 : SV) (os : List SO) : Out :=
 bd (buildS tab os 78 [(0, (some x0))]) fun v4 o4 =>
 bd (boxS tab o4 78 (some v4)) fun v5 o5 =>
 retV tab nl o5 (resC1 (some v5) (some []))
noncomputable def X12 (K : Nat → List SV → List SO → Out) (N nl : Nat) (x0 : SV) (os : List SO) : Out := exec (cx K) N nl fi12 c12 [(0, x0)] os (kEnd tab [] nl rs12)
noncomputable def B12 (K : Nat → List SV → List SO → Out) (N nl : Nat) (x0 : SV) (os : List SO) : Out :=
 bd (lenO tab 22 os x0) fun v1 o1 =>
 bd (ret1 (binS tab .gtr 3 v1 (SV.v (.int .i64 2000))) o1) fun v2 o2 =>
 condS v2 (bd (ret1 (sliceS tab o2 22 x0 none (some (SV.v (.int .i64 2000)))) o2) fun v3 o3 =>
 J12_3 K N nl v3 o3)
 (J12_3 K N nl x0 o2)
noncomputable def bk13_7 (K : Nat → List SV → List SO → Out) (N nl : Nat) (m7 : Nat) : Env → List SO → Out := fun env os => loopS nl (fi13.lp 7) (fun env os nx => exec (cx K) N nl fi13 (subC c13 [1, 1, 1, 1, 1, 0, 1, 0, 0]) env os (kLoop nx (kBlock 0 (kSeq (exec (cx K) N nl fi13 (subC c13 [1, 1, 1, 1, 1, 1])) (fi13.jn 11) (kEnd tab [] nl rs13))))) m7 (killS (fi13.lp 7).alive env) os
noncomputable def J13_5 (K : Nat → List SV → List SO → Out) (N nl : Nat) (x0 x2 x4 : SV) (os : List SO) : Out := exec (cx K) N nl fi13 (subC c13 [1, 1, 1, 1]) [(0, x0), (2, x2), (4, x4)] os (kEnd tab [] nl rs13)
noncomputable def L13_7 (K : Nat → List SV → List SO → Out) (N nl : Nat) (m7 : Nat) (x0 x2 x4 x5 x6 : SV) (os : List SO) : Out := loopS nl (fi13.lp 7) (fun env os nx => exec (cx K) N nl fi13 (subC c13 [1, 1, 1, 1, 1, 0, 1, 0, 0]) env os (kLoop nx (kBlock 0 (kSeq (exec (cx K) N nl fi13 (subC c13 [1, 1, 1, 1, 1, 1])) (fi13.jn 11) (kEnd tab [] nl rs13))))) m7 [(0, x0), (2, x2), (4, x4), (5, x5), (6, x6)] os
noncomputable def G13_7 (K : Nat → List SV → List SO → Out) (N nl : Nat) (m7 : Nat) (xs : List SV) (os : List SO) : Out := (fun env os nx => exec (cx K) N nl fi13 (subC c13 [1, 1, 1, 1, 1, 0, 1, 0, 0]) env os (kLoop nx (kBlock 0 (kSeq (exec (cx K) N nl fi13 (subC c13 [1, 1, 1, 1, 1, 1])) (fi13.jn 11) (kEnd tab [] nl rs13))))) (zipE [0, 2, 4, 5, 6] xs) os (bk13_7 K N nl m7)
noncomputable def J13_8 (K : Nat → List SV → List SO → Out) (N nl : Nat) (m7 : Nat) (x0 x2 x4 x5 x6 : SV) (os : List SO) : Out := exec (cx K) N nl fi13 (subC c13 [1, 1, 1, 1, 1, 0, 1, 0, 0, 1, 1]) [(0, x0), (2, x2), (4, x4), (5, x5), (6, x6)] os (kLoop (bk13_7 K N nl m7) (kBlock 0 (kSeq (exec (cx K) N nl fi13 (subC c13 [1, 1, 1, 1, 1, 1])) (fi13.jn 11) (kEnd tab [] nl rs13))))
noncomputable def JB13_5 (K : Nat → List SV → List SO → Out) (N nl : Nat) (x0 x2 x4 : SV) (os : List SO) : Out :=
 bd (buildSliceS tab os 23 0 []) fun v14 o14 =>
 L13_7 K N nl N x0 x2 x4 v14 (SV.v (.int .i64 1)) o14
noncomputable def GB13_7 (K : Nat → List SV → List SO → Out) (N nl : Nat) (m7 : Nat) (x0 x2 x4 x5 x6 : SV) (os : List SO) : Out :=
 bd (ret1 (binS tab .leq 3 x6 (SV.v (.int .i64 6))) os) fun v15 o15 =>
 condS v15 (both (both (both (both (both (bd (callS ⟨tab, ownF, K⟩ o15 14 [x0, (SV.v (.int .i64 3))]) fun v16 o16 =>
 bd (ret1 (binS tab .eql 3 v16 (SV.v (.int .i64 0))) o16) fun v17 o17 =>
 bd (gd v17 true (ret1 (fieldAddrS tab 25 x4 1) o17) o17) fun v18 o18 =>
 dchk (isBox v18) <|
 bd (gd v17 true (ret1 (loadS tab o18 23 v18) o18) o18) fun v19 o19 =>
 bd (gd v17 true (buildSliceS tab o19 23 0 []) o19) fun v20 o20 =>
 bd (gd v17 true (some (x5, o20)) o20) fun v21 o21 =>
 bd (gd v17 true (appendS tab o21 23 23 v20 v21) o21) fun v22 o22 =>
 bd (gd v17 true (some (x6, o22)) o22) fun v23 o23 =>
 bd (gd v17 true (buildSliceS tab o23 23 1 [(0, v23)]) o23) fun v24 o24 =>
 bd (gd v17 true (appendS tab o24 23 23 v22 v24) o24) fun v25 o25 =>
 dchk (keepOk ⟨tab, ownF, K⟩ o25 (SV.fn 19 []) [v19, v25] [] true) <|
 bd (gd v17 true (callS ⟨tab, ownF, K⟩ o25 19 [v19, v25]) o25) fun v26 o26 =>
 bd (gd v17 true (ret1 (fieldAddrS tab 25 x4 2) o26) o26) fun v27 o27 =>
 dchk (isBox v27) <|
 bd (gd v17 true (ret1 (loadS tab o27 3 v27) o27) o27) fun v28 o28 =>
 bd (gd v17 true (ret1 (binS tab .lss 3 v26 v28) o28) o28) fun v29 o29 =>
 bd (ret1 (pickS v17 v29 (SV.v (.bool false))) o29) fun v30 o30 =>
 condS v30 (bd (buildSliceS tab o30 23 1 [(0, x6)]) fun v31 o31 =>
 bd (appendS tab o31 23 23 x5 v31) fun v32 o32 =>
 J13_8 K N nl m7 x0 x2 x4 v32 x6 o32)
 (J13_8 K N nl m7 x0 x2 x4 x5 x6 o30))
 (bd (callS ⟨tab, ownF, K⟩ o15 14 [x0, (SV.v (.int .i64 3))]) fun v33 o33 =>
 bd (ret1 (binS tab .eql 3 v33 (SV.v (.int .i64 0))) o33) fun v34 o34 =>
 bd (gd v34 true (ret1 (fieldAddrS tab 25 x4 1) o34) o34) fun v35 o35 =>
 dchk (isBox v35) <|
 bd (gd v34 true (ret1 (loadS tab o35 23 v35) o35) o35) fun v36 o36 =>
 bd (gd v34 true (buildSliceS tab o36 23 0 []) o36) fun v37 o37 =>
 bd (gd v34 true (some (x5, o37)) o37) fun v38 o38 =>
 bd (gd v34 true (appendS tab o38 23 23 v37 v38) o38) fun v39 o39 =>
 bd (gd v34 true (some (x6, o39)) o39) fun v40 o40 =>
 bd (gd v34 true (buildSliceS tab o40 23 1 [(0, v40)]) o40) fun v41 o41 =>
 bd (gd v34 true (ret1 (fieldAddrS tab 25 x4 2) o41) o41) fun v42 o42 =>
 dchk (isBox v42) <|
 bd (gd v34 true (ret1 (loadS tab o42 3 v42) o42) o42) fun v43 o43 =>
 bd (gd v34 true (appendS tab o43 23 23 v39 v41) o43) fun v44 o44 =>
 bd (gd v34 true (callS ⟨tab, ownF, K⟩ o44 19 [v36, v44]) o44) fun v45 o45 =>
 bd (gd v34 true (ret1 (binS tab .lss 3 v45 v43) o45) o45) fun v46 o46 =>
 bd (ret1 (pickS v34 v46 (SV.v (.bool false))) o46) fun v47 o47 =>
 condS v47 (bd (buildSliceS tab o47 23 1 [(0, x6)]) fun v48 o48 =>
 bd (appendS tab o48 23 23 x5 v48) fun v49 o49 =>
 J13_8 K N nl m7 x0 x2 x4 v49 x6 o49)
 (J13_8 K N nl m7 x0 x2 x4 x5 x6 o47)))
 (bd (callS ⟨tab, ownF, K⟩ o15 14 [x0, (SV.v (.int .i64 3))]) fun v50 o50 =>
 bd (ret1 (binS tab .eql 3 v50 (SV.v (.int .i64 0))) o50) fun v51 o51 =>
 bd (gd v51 true (ret1 (fieldAddrS tab 25 x4 1) o51) o51) fun v52 o52 =>
 dchk (isBox v52) <|
 bd (gd v51 true (ret1 (loadS tab o52 23 v52) o52) o52) fun v53 o53 =>
 bd (gd v51 true (buildSliceS tab o53 23 0 []) o53) fun v54 o54 =>
 bd (gd v51 true (some (x5, o54)) o54) fun v55 o55 =>
 bd (gd v51 true (some (x6, o55)) o55) fun v56 o56 =>
 bd (gd v51 true (ret1 (fieldAddrS tab 25 x4 2) o56) o56) fun v57 o57 =>
 dchk (isBox v57) <|
 bd (gd v51 true (ret1 (loadS tab o57 3 v57) o57) o57) fun v58 o58 =>
 bd (gd v51 true (appendS tab o58 23 23 v54 v55) o58) fun v59 o59 =>
 bd (gd v51 true (buildSliceS tab o59 23 1 [(0, v56)]) o59) fun v60 o60 =>
 bd (gd v51 true (appendS tab o60 23 23 v59 v60) o60) fun v61 o61 =>
 bd (gd v51 true (callS ⟨tab, ownF, K⟩ o61 19 [v53, v61]) o61) fun v62 o62 =>
 bd (gd v51 true (ret1 (binS tab .lss 3 v62 v58) o62) o62) fun v63 o63 =>
 bd (ret1 (pickS v51 v63 (SV.v (.bool false))) o63) fun v64 o64 =>
 condS v64 (bd (buildSliceS tab o64 23 1 [(0, x6)]) fun v65 o65 =>
 bd (appendS tab o65 23 23 x5 v65) fun v66 o66 =>
 J13_8 K N nl m7 x0 x2 x4 v66 x6 o66)
 (J13_8 K N nl m7 x0 x2 x4 x5 x6 o64)))
 (both (both (bd (callS ⟨tab, ownF, K⟩ o15 14 [x0, (SV.v (.int .i64 3))]) fun v67 o67 =>
 bd (ret1 (binS tab .eql 3 v67 (SV.v (.int .i64 0))) o67) fun v68 o68 =>
 bd (gd v68 true (ret1 (fieldAddrS tab 25 x4 1) o68) o68) fun v69 o69 =>
 dchk (isBox v69) <|
 bd (gd v68 true (ret1 (loadS tab o69 23 v69) o69) o69) fun v70 o70 =>
 bd (gd v68 true (buildSliceS tab o70 23 0 []) o70) fun v71 o71 =>
 bd (gd v68 true (some (x5, o71)) o71) fun v72 o72 =>
 bd (gd v68 true (some (x6, o72)) o72) fun v73 o73 =>
 bd (gd v68 true (buildSliceS tab o73 23 1 [(0, v73)]) o73) fun v74 o74 =>
 bd (gd v68 true (appendS tab o74 23 23 v71 v72) o74) fun v75 o75 =>
 bd (gd v68 true (appendS tab o75 23 23 v75 v74) o75) fun v76 o76 =>
 dchk (keepOk ⟨tab, ownF, K⟩ o76 (SV.fn 19 []) [v70, v76] [] true) <|
 bd (gd v68 true (callS ⟨tab, ownF, K⟩ o76 19 [v70, v76]) o76) fun v77 o77 =>
 bd (gd v68 true (ret1 (fieldAddrS tab 25 x4 2) o77) o77) fun v78 o78 =>
 dchk (isBox v78) <|
 bd (gd v68 true (ret1 (loadS tab o78 3 v78) o78) o78) fun v79 o79 =>
 bd (gd v68 true (ret1 (binS tab .lss 3 v77 v79) o79) o79) fun v80 o80 =>
 bd (ret1 (pickS v68 v80 (SV.v (.bool false))) o80) fun v81 o81 =>
 condS v81 (bd (buildSliceS tab o81 23 1 [(0, x6)]) fun v82 o82 =>
 bd (appendS tab o82 23 23 x5 v82) fun v83 o83 =>
 J13_8 K N nl m7 x0 x2 x4 v83 x6 o83)
 (J13_8 K N nl m7 x0 x2 x4 x5 x6 o81))
 (bd (callS ⟨tab, ownF, K⟩ o15 14 [x0, (SV.v (.int .i64 3))]) fun v84 o84 =>
 bd (ret1 (binS tab .eql 3 v84 (SV.v (.int .i64 0))) o84) fun v85 o85 =>
 bd (gd v85 true (ret1 (fieldAddrS tab 25 x4 1) o85) o85) fun v86 o86 =>
 dchk (isBox v86) <|
 bd (gd v85 true (ret1 (loadS tab o86 23 v86) o86) o86) fun v87 o87 =>
 bd (gd v85 true (buildSliceS tab o87 23 0 []) o87) fun v88 o88 =>
 bd (gd v85 true (some (x5, o88)) o88) fun v89 o89 =>
 bd (gd v85 true (some (x6, o89)) o89) fun v90 o90 =>
 bd (gd v85 true (buildSliceS tab o90 23 1 [(0, v90)]) o90) fun v91 o91 =>
 bd (gd v85 true (appendS tab o91 23 23 v88 v89) o91) fun v92 o92 =>
 bd (gd v85 true (ret1 (fieldAddrS tab 25 x4 2) o92) o92) fun v93 o93 =>
 bd (gd v85 true (ret1 (loadS tab o93 3 v93) o93) o93) fun v94 o94 =>
 bd (gd v85 true (appendS tab o94 23 23 v92 v91) o94) fun v95 o95 =>
 bd (gd v85 true (callS ⟨tab, ownF, K⟩ o95 19 [v87, v95]) o95) fun v96 o96 =>
 bd (gd v85 true (ret1 (binS tab .lss 3 v96 v94) o96) o96) fun v97 o97 =>
 bd (ret1 (pickS v85 v97 (SV.v (.bool false))) o97) fun v98 o98 =>
 condS v98 (bd (buildSliceS tab o98 23 1 [(0, x6)]) fun v99 o99 =>
 bd (appendS tab o99 23 23 x5 v99) fun v100 o100 =>
 J13_8 K N nl m7 x0 x2 x4 v100 x6 o100)
 (J13_8 K N nl m7 x0 x2 x4 x5 x6 o98)))
 (bd (callS ⟨tab, ownF, K⟩ o15 14 [x0, (SV.v (.int .i64 3))]) fun v101 o101 =>
 bd (ret1 (binS tab .eql 3 v101 (SV.v (.int .i64 0))) o101) fun v102 o102 =>
 bd (gd v102 true (ret1 (fieldAddrS tab 25 x4 1) o102) o102) fun v103 o103 =>
 dchk (isBox v103) <|
 bd (gd v102 true (ret1 (loadS tab o103 23 v103) o103) o103) fun v104 o104 =>
 bd (gd v102 true (buildSliceS tab o104 23 0 []) o104) fun v105 o105 =>
 bd (gd v102 true (some (x5, o105)) o105) fun v106 o106 =>
 bd (gd v102 true (some (x6, o106)) o106) fun v107 o107 =>
 bd (gd v102 true (buildSliceS tab o107 23 1 [(0, v107)]) o107) fun v108 o108 =>
 bd (gd v102 true (ret1 (fieldAddrS tab 25 x4 2) o108) o108) fun v109 o109 =>
 dchk (isBox v109) <|
 bd (gd v102 true (ret1 (loadS tab o109 3 v109) o109) o109) fun v110 o110 =>
 bd (gd v102 true (appendS tab o110 23 23 v105 v106) o110) fun v111 o111 =>
 bd (gd v102 true (appendS tab o111 23 23 v111 v108) o111) fun v112 o112 =>
 bd (gd v102 true (callS ⟨tab, ownF, K⟩ o112 19 [v104, v112]) o112) fun v113 o113 =>
 bd (gd v102 true (ret1 (binS tab .lss 3 v113 v110) o113) o113) fun v114 o114 =>
 bd (ret1 (pickS v102 v114 (SV.v (.bool false))) o114) fun v115 o115 =>
 condS v115 (bd (buildSliceS tab o115 23 1 [(0, x6)]) fun v116 o116 =>
 bd (appendS tab o116 23 23 x5 v116) fun v117 o117 =>
 J13_8 K N nl m7 x0 x2 x4 v117 x6 o117)
 (J13_8 K N nl m7 x0 x2 x4 x5 x6 o115))))
 (both (both (bd (callS ⟨tab, ownF, K⟩ o15 14 [x0, (SV.v (.int .i64 3))]) fun v118 o118 =>
 bd (ret1 (binS tab .eql 3 v118 (SV.v (.int .i64 0))) o118) fun v119 o119 =>
 bd (gd v119 true (ret1 (fieldAddrS tab 25 x4 1) o119) o119) fun v120 o120 =>
 dchk (isBox v120) <|
 bd (gd v119 true (ret1 (loadS tab o120 23 v120) o120) o120) fun v121 o121 =>
 bd (gd v119 true (some (x5, o121)) o121) fun v122 o122 =>
 bd (gd v119 true (some (x6, o122)) o122) fun v123 o123 =>
 bd (gd v119 true (buildSliceS tab o123 23 1 [(0, v123)]) o123) fun v124 o124 =>
 bd (gd v119 true (buildSliceS tab o124 23 0 []) o124) fun v125 o125 =>
 bd (gd v119 true (appendS tab o125 23 23 v125 v122) o125) fun v126 o126 =>
 bd (gd v119 true (appendS tab o126 23 23 v126 v124) o126) fun v127 o127 =>
 dchk (keepOk ⟨tab, ownF, K⟩ o127 (SV.fn 19 []) [v121, v127] [] true) <|
 bd (gd v119 true (callS ⟨tab, ownF, K⟩ o127 19 [v121, v127]) o127) fun v128 o128 =>
 bd (gd v119 true (ret1 (fieldAddrS tab 25 x4 2) o128) o128) fun v129 o129 =>
 dchk (isBox v129) <|
 bd (gd v119 true (ret1 (loadS tab o129 3 v129) o129) o129) fun v130 o130 =>
 bd (gd v119 true (ret1 (binS tab .lss 3 v128 v130) o130) o130) fun v131 o131 =>
 bd (ret1 (pickS v119 v131 (SV.v (.bool false))) o131) fun v132 o132 =>
 condS v132 (bd (buildSliceS tab o132 23 1 [(0, x6)]) fun v133 o133 =>
 bd (appendS tab o133 23 23 x5 v133) fun v134 o134 =>
 J13_8 K N nl m7 x0 x2 x4 v134 x6 o134)
 (J13_8 K N nl m7 x0 x2 x4 x5 x6 o132))
 (bd (callS ⟨tab, ownF, K⟩ o15 14 [x0, (SV.v (.int .i64 3))]) fun v135 o135 =>
 bd (ret1 (binS tab .eql 3 v135 (SV.v (.int .i64 0))) o135) fun v136 o136 =>
 bd (gd v136 true (ret1 (fieldAddrS tab 25 x4 1) o136) o136) fun v137 o137 =>
 dchk (isBox v137) <|
 bd (gd v136 true (ret1 (loadS tab o137 23 v137) o137) o137) fun v138 o138 =>
 bd (gd v136 true (some (x5, o138)) o138) fun v139 o139 =>
 bd (gd v136 true (some (x6, o139)) o139) fun v140 o140 =>
 bd (gd v136 true (buildSliceS tab o140 23 1 [(0, v140)]) o140) fun v141 o141 =>
 bd (gd v136 true (buildSliceS tab o141 23 0 []) o141) fun v142 o142 =>
 bd (gd v136 true (appendS tab o142 23 23 v142 v139) o142) fun v143 o143 =>
 bd (gd v136 true (ret1 (fieldAddrS tab 25 x4 2) o143) o143) fun v144 o144 =>
 bd (gd v136 true (ret1 (loadS tab o144 3 v144) o144) o144) fun v145 o145 =>
 bd (gd v136 true (appendS tab o145 23 23 v143 v141) o145) fun v146 o146 =>
 bd (gd v136 true (callS ⟨tab, ownF, K⟩ o146 19 [v138, v146]) o146) fun v147 o147 =>
 bd (gd v136 true (ret1 (binS tab .lss 3 v147 v145) o147) o147) fun v148 o148 =>
 bd (ret1 (pickS v136 v148 (SV.v (.bool false))) o148) fun v149 o149 =>
 condS v149 (bd (buildSliceS tab o149 23 1 [(0, x6)]) fun v150 o150 =>
 bd (appendS tab o150 23 23 x5 v150) fun v151 o151 =>
 J13_8 K N nl m7 x0 x2 x4 v151 x6 o151)
 (J13_8 K N nl m7 x0 x2 x4 x5 x6 o149)))
 (bd (callS ⟨tab, ownF, K⟩ o15 14 [x0, (SV.v (.int .i64 3))]) fun v152 o152 =>
 bd (ret1 (binS tab .eql 3 v152 (SV.v (.int .i64 0))) o152) fun v153 o153 =>
 bd (gd v153 true (ret1 (fieldAddrS tab 25 x4 1) o153) o153) fun v154 o154 =>
 dchk (isBox v154) <|
 bd (gd v153 true (ret1 (loadS tab o154 23 v154) o154) o154) fun v155 o155 =>
 bd (gd v153 true (some (x5, o155)) o155) fun v156 o156 =>
 bd (gd v153 true (some (x6, o156)) o156) fun v157 o157 =>
 bd (gd v153 true (buildSliceS tab o157 23 1 [(0, v157)]) o157) fun v158 o158 =>
 bd (gd v153 true (buildSliceS tab o158 23 0 []) o158) fun v159 o159 =>
 bd (gd v153 true (ret1 (fieldAddrS tab 25 x4 2) o159) o159) fun v160 o160 =>
 dchk (isBox v160) <|
 bd (gd v153 true (ret1 (loadS tab o160 3 v160) o160) o160) fun v161 o161 =>
 bd (gd v153 true (appendS tab o161 23 23 v159 v156) o161) fun v162 o162 =>
 bd (gd v153 true (appendS tab o162 23 23 v162 v158) o162) fun v163 o163 =>
 bd (gd v153 true (callS ⟨tab, ownF, K⟩ o163 19 [v155, v163]) o163) fun v164 o164 =>
 bd (gd v153 true (ret1 (binS tab .lss 3 v164 v161) o164) o164) fun v165 o165 =>
 bd (ret1 (pickS v153 v165 (SV.v (.bool false))) o165) fun v166 o166 =>
 condS v166 (bd (buildSliceS tab o166 23 1 [(0, x6)]) fun v167 o167 =>
 bd (appendS tab o167 23 23 x5 v167) fun v168 o168 =>
 J13_8 K N nl m7 x0 x2 x4 v168 x6 o168)
 (J13_8 K N nl m7 x0 x2 x4 x5 x6 o166))))
 (both (both (both (both (both (bd (callS ⟨tab, ownF, K⟩ o15 14 [x0, (SV.v (.int .i64 3))]) fun v169 o169 =>
 bd (ret1 (binS tab .eql 3 v169 (SV.v (.int .i64 0))) o169) fun v170 o170 =>
 bd (gd v170 true (ret1 (fieldAddrS tab 25 x4 1) o170) o170) fun v171 o171 =>
 bd (gd v170 true (buildSliceS tab o171 23 0 []) o171) fun v172 o172 =>
 bd (gd v170 true (some (x5, o172)) o172) fun v173 o173 =>
 bd (gd v170 true (appendS tab o173 23 23 v172 v173) o173) fun v174 o174 =>
 dchk (isBox v171) <|
 bd (gd v170 true (ret1 (loadS tab o174 23 v171) o174) o174) fun v175 o175 =>
 bd (gd v170 true (some (x6, o175)) o175) fun v176 o176 =>
 bd (gd v170 true (buildSliceS tab o176 23 1 [(0, v176)]) o176) fun v177 o177 =>
 bd (gd v170 true (appendS tab o177 23 23 v174 v177) o177) fun v178 o178 =>
 dchk (keepOk ⟨tab, ownF, K⟩ o178 (SV.fn 19 []) [v175, v178] [] true) <|
 bd (gd v170 true (callS ⟨tab, ownF, K⟩ o178 19 [v175, v178]) o178) fun v179 o179 =>
 bd (gd v170 true (ret1 (fieldAddrS tab 25 x4 2) o179) o179) fun v180 o180 =>
 dchk (isBox v180) <|
 bd (gd v170 true (ret1 (loadS tab o180 3 v180) o180) o180) fun v181 o181 =>
 bd (gd v170 true (ret1 (binS tab .lss 3 v179 v181) o181) o181) fun v182 o182 =>
 bd (ret1 (pickS v170 v182 (SV.v (.bool false))) o182) fun v183 o183 =>
 condS v183 (bd (buildSliceS tab o183 23 1 [(0, x6)]) fun v184 o184 =>
 bd (appendS tab o184 23 23 x5 v184) fun v185 o185 =>
 J13_8 K N nl m7 x0 x2 x4 v185 x6 o185)
 (J13_8 K N nl m7 x0 x2 x4 x5 x6 o183))
 (bd (callS ⟨tab, ownF, K⟩ o15 14 [x0, (SV.v (.int .i64 3))]) fun v186 o186 =>
 bd (ret1 (binS tab .eql 3 v186 (SV.v (.int .i64 0))) o186) fun v187 o187 =>
 bd (gd v187 true (ret1 (fieldAddrS tab 25 x4 1) o187) o187) fun v188 o188 =>
 bd (gd v187 true (buildSliceS tab o188 23 0 []) o188) fun v189 o189 =>
 bd (gd v187 true (some (x5, o189)) o189) fun v190 o190 =>
 bd (gd v187 true (appendS tab o190 23 23 v189 v190) o190) fun v191 o191 =>
 dchk (isBox v188) <|
 bd (gd v187 true (ret1 (loadS tab o191 23 v188) o191) o191) fun v192 o192 =>
 bd (gd v187 true (some (x6, o192)) o192) fun v193 o193 =>
 bd (gd v187 true (buildSliceS tab o193 23 1 [(0, v193)]) o193) fun v194 o194 =>
 bd (gd v187 true (ret1 (fieldAddrS tab 25 x4 2) o194) o194) fun v195 o195 =>
 dchk (isBox v195) <|
 bd (gd v187 true (ret1 (loadS tab o195 3 v195) o195) o195) fun v196 o196 =>
 bd (gd v187 true (appendS tab o196 23 23 v191 v194) o196) fun v197 o197 =>
 bd (gd v187 true (callS ⟨tab, ownF, K⟩ o197 19 [v192, v197]) o197) fun v198 o198 =>
 bd (gd v187 true (ret1 (binS tab .lss 3 v198 v196) o198) o198) fun v199 o199 =>
 bd (ret1 (pickS v187 v199 (SV.v (.bool false))) o199) fun v200 o200 =>
 condS v200 (bd (buildSliceS tab o200 23 1 [(0, x6)]) fun v201 o201 =>
 bd (appendS tab o201 23 23 x5 v201) fun v202 o202 =>
 J13_8 K N nl m7 x0 x2 x4 v202 x6 o202)
 (J13_8 K N nl m7 x0 x2 x4 x5 x6 o200)))
 (bd (callS ⟨tab, ownF, K⟩ o15 14 [x0, (SV.v (.int .i64 3))]) fun v203 o203 =>
 bd (ret1 (binS tab .eql 3 v203 (SV.v (.int .i64 0))) o203) fun v204 o204 =>
 bd (gd v204 true (ret1 (fieldAddrS tab 25 x4 1) o204) o204) fun v205 o205 =>
 bd (gd v204 true (buildSliceS tab o205 23 0 []) o205) fun v206 o206 =>
 bd (gd v204 true (some (x5, o206)) o206) fun v207 o207 =>
 bd (gd v204 true (some (x6, o207)) o207) fun v208 o208 =>
 bd (gd v204 true (ret1 (fieldAddrS tab 25 x4 2) o208) o208) fun v209 o209 =>
 dchk (isBox v209) <|
 bd (gd v204 true (ret1 (loadS tab o209 3 v209) o209) o209) fun v210 o210 =>
 bd (gd v204 true (appendS tab o210 23 23 v206 v207) o210) fun v211 o211 =>
 dchk (isBox v205) <|
 bd (gd v204 true (ret1 (loadS tab o211 23 v205) o211) o211) fun v212 o212 =>
 bd (gd v204 true (buildSliceS tab o212 23 1 [(0, v208)]) o212) fun v213 o213 =>
 bd (gd v204 true (appendS tab o213 23 23 v211 v213) o213) fun v214 o214 =>
 bd (gd v204 true (callS ⟨tab, ownF, K⟩ o214 19 [v212, v214]) o214) fun v215 o215 =>
 bd (gd v204 true (ret1 (binS tab .lss 3 v215 v210) o215) o215) fun v216 o216 =>
 bd (ret1 (pickS v204 v216 (SV.v (.bool false))) o216) fun v217 o217 =>
 condS v217 (bd (buildSliceS tab o217 23 1 [(0, x6)]) fun v218 o218 =>
 bd (appendS tab o218 23 23 x5 v218) fun v219 o219 =>
 J13_8 K N nl m7 x0 x2 x4 v219 x6 o219)
 (J13_8 K N nl m7 x0 x2 x4 x5 x6 o217)))
 (both (both (bd (callS ⟨tab, ownF, K⟩ o15 14 [x0, (SV.v (.int .i64 3))]) fun v220 o220 =>
 bd (ret1 (binS tab .eql 3 v220 (SV.v (.int .i64 0))) o220) fun v221 o221 =>
 bd (gd v221 true (ret1 (fieldAddrS tab 25 x4 1) o221) o221) fun v222 o222 =>
 bd (gd v221 true (buildSliceS tab o222 23 0 []) o222) fun v223 o223 =>
 bd (gd v221 true (some (x5, o223)) o223) fun v224 o224 =>
 bd (gd v221 true (appendS tab o224 23 23 v223 v224) o224) fun v225 o225 =>
 bd (gd v221 true (some (x6, o225)) o225) fun v226 o226 =>
 bd (gd v221 true (buildSliceS tab o226 23 1 [(0, v226)]) o226) fun v227 o227 =>
 bd (gd v221 true (appendS tab o227 23 23 v225 v227) o227) fun v228 o228 =>
 bd (gd v221 true (ret1 (loadS tab o228 23 v222) o228) o228) fun v229 o229 =>
 dchk (keepOk ⟨tab, ownF, K⟩ o229 (SV.fn 19 []) [v229, v228] [] true) <|
 bd (gd v221 true (callS ⟨tab, ownF, K⟩ o229 19 [v229, v228]) o229) fun v230 o230 =>
 bd (gd v221 true (ret1 (fieldAddrS tab 25 x4 2) o230) o230) fun v231 o231 =>
 dchk (isBox v231) <|
 bd (gd v221 true (ret1 (loadS tab o231 3 v231) o231) o231) fun v232 o232 =>
 bd (gd v221 true (ret1 (binS tab .lss 3 v230 v232) o232) o232) fun v233 o233 =>
 bd (ret1 (pickS v221 v233 (SV.v (.bool false))) o233) fun v234 o234 =>
 condS v234 (bd (buildSliceS tab o234 23 1 [(0, x6)]) fun v235 o235 =>
 bd (appendS tab o235 23 23 x5 v235) fun v236 o236 =>
 J13_8 K N nl m7 x0 x2 x4 v236 x6 o236)
 (J13_8 K N nl m7 x0 x2 x4 x5 x6 o234))
 (bd (callS ⟨tab, ownF, K⟩ o15 14 [x0, (SV.v (.int .i64 3))]) fun v237 o237 =>
 bd (ret1 (binS tab .eql 3 v237 (SV.v (.int .i64 0))) o237) fun v238 o238 =>
 bd (gd v238 true (ret1 (fieldAddrS tab 25 x4 1) o238) o238) fun v239 o239 =>
 bd (gd v238 true (buildSliceS tab o239 23 0 []) o239) fun v240 o240 =>
 bd (gd v238 true (some (x5, o240)) o240) fun v241 o241 =>
 bd (gd v238 true (appendS tab o241 23 23 v240 v241) o241) fun v242 o242 =>
 bd (gd v238 true (some (x6, o242)) o242) fun v243 o243 =>
 bd (gd v238 true (buildSliceS tab o243 23 1 [(0, v243)]) o243) fun v244 o244 =>
 bd (gd v238 true (ret1 (fieldAddrS tab 25 x4 2) o244) o244) fun v245 o245 =>
 dchk (isBox v245) <|
 bd (gd v238 true (ret1 (loadS tab o245 3 v245) o245) o245) fun v246 o246 =>
 bd (gd v238 true (appendS tab o246 23 23 v242 v244) o246) fun v247 o247 =>
 bd (gd v238 true (ret1 (loadS tab o247 23 v239) o247) o247) fun v248 o248 =>
 bd (gd v238 true (callS ⟨tab, ownF, K⟩ o248 19 [v248, v247]) o248) fun v249 o249 =>
 bd (gd v238 true (ret1 (binS tab .lss 3 v249 v246) o249) o249) fun v250 o250 =>
 bd (ret1 (pickS v238 v250 (SV.v (.bool false))) o250) fun v251 o251 =>
 condS v251 (bd (buildSliceS tab o251 23 1 [(0, x6)]) fun v252 o252 =>
 bd (appendS tab o252 23 23 x5 v252) fun v253 o253 =>
 J13_8 K N nl m7 x0 x2 x4 v253 x6 o253)
 (J13_8 K N nl m7 x0 x2 x4 x5 x6 o251)))
 (bd (callS ⟨tab, ownF, K⟩ o15 14 [x0, (SV.v (.int .i64 3))]) fun v254 o254 =>
 bd (ret1 (binS tab .eql 3 v254 (SV.v (.int .i64 0))) o254) fun v255 o255 =>
 bd (gd v255 true (ret1 (fieldAddrS tab 25 x4 1) o255) o255) fun v256 o256 =>
 bd (gd v255 true (buildSliceS tab o256 23 0 []) o256) fun v257 o257 =>
 bd (gd v255 true (some (x5, o257)) o257) fun v258 o258 =>
 bd (gd v255 true (some (x6, o258)) o258) fun v259 o259 =>
 bd (gd v255 true (ret1 (fieldAddrS tab 25 x4 2) o259) o259) fun v260 o260 =>
 dchk (isBox v260) <|
 bd (gd v255 true (ret1 (loadS tab o260 3 v260) o260) o260) fun v261 o261 =>
 bd (gd v255 true (appendS tab o261 23 23 v257 v258) o261) fun v262 o262 =>
 bd (gd v255 true (buildSliceS tab o262 23 1 [(0, v259)]) o262) fun v263 o263 =>
 bd (gd v255 true (appendS tab o263 23 23 v262 v263) o263) fun v264 o264 =>
 bd (gd v255 true (ret1 (loadS tab o264 23 v256) o264) o264) fun v265 o265 =>
 bd (gd v255 true (callS ⟨tab, ownF, K⟩ o265 19 [v265, v264]) o265) fun v266 o266 =>
 bd (gd v255 true (ret1 (binS tab .lss 3 v266 v261) o266) o266) fun v267 o267 =>
 bd (ret1 (pickS v255 v267 (SV.v (.bool false))) o267) fun v268 o268 =>
 condS v268 (bd (buildSliceS tab o268 23 1 [(0, x6)]) fun v269 o269 =>
 bd (appendS tab o269 23 23 x5 v269) fun v270 o270 =>
 J13_8 K N nl m7 x0 x2 x4 v270 x6 o270)
 (J13_8 K N nl m7 x0 x2 x4 x5 x6 o268))))
 (both (both (both (bd (callS ⟨tab, ownF, K⟩ o15 14 [x0, (SV.v (.int .i64 3))]) fun v271 o271 =>
 bd (ret1 (binS tab .eql 3 v271 (SV.v (.int .i64 0))) o271) fun v272 o272 =>
 bd (gd v272 true (ret1 (fieldAddrS tab 25 x4 1) o272) o272) fun v273 o273 =>
 bd (gd v272 true (buildSliceS tab o273 23 0 []) o273) fun v274 o274 =>
 bd (gd v272 true (some (x5, o274)) o274) fun v275 o275 =>
 bd (gd v272 true (some (x6, o275)) o275) fun v276 o276 =>
 bd (gd v272 true (buildSliceS tab o276 23 1 [(0, v276)]) o276) fun v277 o277 =>
 bd (gd v272 true (appendS tab o277 23 23 v274 v275) o277) fun v278 o278 =>
 bd (gd v272 true (ret1 (loadS tab o278 23 v273) o278) o278) fun v279 o279 =>
 bd (gd v272 true (appendS tab o279 23 23 v278 v277) o279) fun v280 o280 =>
 dchk (keepOk ⟨tab, ownF, K⟩ o280 (SV.fn 19 []) [v279, v280] [] true) <|
 bd (gd v272 true (callS ⟨tab, ownF, K⟩ o280 19 [v279, v280]) o280) fun v281 o281 =>
 bd (gd v272 true (ret1 (fieldAddrS tab 25 x4 2) o281) o281) fun v282 o282 =>
 dchk (isBox v282) <|
 bd (gd v272 true (ret1 (loadS tab o282 3 v282) o282) o282) fun v283 o283 =>
 bd (gd v272 true (ret1 (binS tab .lss 3 v281 v283) o283) o283) fun v284 o284 =>
 bd (ret1 (pickS v272 v284 (SV.v (.bool false))) o284) fun v285 o285 =>
 condS v285 (bd (buildSliceS tab o285 23 1 [(0, x6)]) fun v286 o286 =>
 bd (appendS tab o286 23 23 x5 v286) fun v287 o287 =>
 J13_8 K N nl m7 x0 x2 x4 v287 x6 o287)
 (J13_8 K N nl m7 x0 x2 x4 x5 x6 o285))
 (bd (callS ⟨tab, ownF, K⟩ o15 14 [x0, (SV.v (.int .i64 3))]) fun v288 o288 =>
 bd (ret1 (binS tab .eql 3 v288 (SV.v (.int .i64 0))) o288) fun v289 o289 =>
 bd (gd v289 true (ret1 (fieldAddrS tab 25 x4 1) o289) o289) fun v290 o290 =>
 bd (gd v289 true (buildSliceS tab o290 23 0 []) o290) fun v291 o291 =>
 bd (gd v289 true (some (x5, o291)) o291) fun v292 o292 =>
 bd (gd v289 true (some (x6, o292)) o292) fun v293 o293 =>
 bd (gd v289 true (buildSliceS tab o293 23 1 [(0, v293)]) o293) fun v294 o294 =>
 bd (gd v289 true (appendS tab o294 23 23 v291 v292) o294) fun v295 o295 =>
 bd (gd v289 true (ret1 (loadS tab o295 23 v290) o295) o295) fun v296 o296 =>
 bd (gd v289 true (ret1 (fieldAddrS tab 25 x4 2) o296) o296) fun v297 o297 =>
 bd (gd v289 true (ret1 (loadS tab o297 3 v297) o297) o297) fun v298 o298 =>
 bd (gd v289 true (appendS tab o298 23 23 v295 v294) o298) fun v299 o299 =>
 bd (gd v289 true (callS ⟨tab, ownF, K⟩ o299 19 [v296, v299]) o299) fun v300 o300 =>
 bd (gd v289 true (ret1 (binS tab .lss 3 v300 v298) o300) o300) fun v301 o301 =>
 bd (ret1 (pickS v289 v301 (SV.v (.bool false))) o301) fun v302 o302 =>
 condS v302 (bd (buildSliceS tab o302 23 1 [(0, x6)]) fun v303 o303 =>
 bd (appendS tab o303 23 23 x5 v303) fun v304 o304 =>
 J13_8 K N nl m7 x0 x2 x4 v304 x6 o304)
 (J13_8 K N nl m7 x0 x2 x4 x5 x6 o302)))
 (bd (callS ⟨tab, ownF, K⟩ o15 14 [x0, (SV.v (.int .i64 3))]) fun v305 o305 =>
 bd (ret1 (binS tab .eql 3 v305 (SV.v (.int .i64 0))) o305) fun v306 o306 =>
 bd (gd v306 true (ret1 (fieldAddrS tab 25 x4 1) o306) o306) fun v307 o307 =>
 bd (gd v306 true (buildSliceS tab o307 23 0 []) o307) fun v308 o308 =>
 bd (gd v306 true (some (x5, o308)) o308) fun v309 o309 =>
 bd (gd v306 true (some (x6, o309)) o309) fun v310 o310 =>
 bd (gd v306 true (buildSliceS tab o310 23 1 [(0, v310)]) o310) fun v311 o311 =>
 bd (gd v306 true (ret1 (fieldAddrS tab 25 x4 2) o311) o311) fun v312 o312 =>
 dchk (isBox v312) <|
 bd (gd v306 true (ret1 (loadS tab o312 3 v312) o312) o312) fun v313 o313 =>
 bd (gd v306 true (appendS tab o313 23 23 v308 v309) o313) fun v314 o314 =>
 bd (gd v306 true (ret1 (loadS tab o314 23 v307) o314) o314) fun v315 o315 =>
 bd (gd v306 true (appendS tab o315 23 23 v314 v311) o315) fun v316 o316 =>
 bd (gd v306 true (callS ⟨tab, ownF, K⟩ o316 19 [v315, v316]) o316) fun v317 o317 =>
 bd (gd v306 true (ret1 (binS tab .lss 3 v317 v313) o317) o317) fun v318 o318 =>
 bd (ret1 (pickS v306 v318 (SV.v (.bool false))) o318) fun v319 o319 =>
 condS v319 (bd (buildSliceS tab o319 23 1 [(0, x6)]) fun v320 o320 =>
 bd (appendS tab o320 23 23 x5 v320) fun v321 o321 =>
 J13_8 K N nl m7 x0 x2 x4 v321 x6 o321)
 (J13_8 K N nl m7 x0 x2 x4 x5 x6 o319)))
 (both (both (bd (callS ⟨tab, ownF, K⟩ o15 14 [x0, (SV.v (.int .i64 3))]) fun v322 o322 =>
 bd (ret1 (binS tab .eql 3 v322 (SV.v (.int .i64 0))) o322) fun v323 o323 =>
 bd (gd v323 true (ret1 (fieldAddrS tab 25 x4 1) o323) o323) fun v324 o324 =>
 bd (gd v323 true (buildSliceS tab o324 23 0 []) o324) fun v325 o325 =>
 bd (gd v323 true (some (x5, o325)) o325) fun v326 o326 =>
 bd (gd v323 true (some (x6, o326)) o326) fun v327 o327 =>
 bd (gd v323 true (buildSliceS tab o327 23 1 [(0, v327)]) o327) fun v328 o328 =>
 bd (gd v323 true (appendS tab o328 23 23 v325 v326) o328) fun v329 o329 =>
 bd (gd v323 true (appendS tab o329 23 23 v329 v328) o329) fun v330 o330 =>
 bd (gd v323 true (ret1 (loadS tab o330 23 v324) o330) o330) fun v331 o331 =>
 dchk (keepOk ⟨tab, ownF, K⟩ o331 (SV.fn 19 []) [v331, v330] [] true) <|
 bd (gd v323 true (callS ⟨tab, ownF, K⟩ o331 19 [v331, v330]) o331) fun v332 o332 =>
 bd (gd v323 true (ret1 (fieldAddrS tab 25 x4 2) o332) o332) fun v333 o333 =>
 dchk (isBox v333) <|
 bd (gd v323 true (ret1 (loadS tab o333 3 v333) o333) o333) fun v334 o334 =>
 bd (gd v323 true (ret1 (binS tab .lss 3 v332 v334) o334) o334) fun v335 o335 =>
 bd (ret1 (pickS v323 v335 (SV.v (.bool false))) o335) fun v336 o336 =>
 condS v336 (bd (buildSliceS tab o336 23 1 [(0, x6)]) fun v337 o337 =>
 bd (appendS tab o337 23 23 x5 v337) fun v338 o338 =>
 J13_8 K N nl m7 x0 x2 x4 v338 x6 o338)
 (J13_8 K N nl m7 x0 x2 x4 x5 x6 o336))
 (bd (callS ⟨tab, ownF, K⟩ o15 14 [x0, (SV.v (.int .i64 3))]) fun v339 o339 =>
 bd (ret1 (binS tab .eql 3 v339 (SV.v (.int .i64 0))) o339) fun v340 o340 =>
 bd (gd v340 true (ret1 (fieldAddrS tab 25 x4 1) o340) o340) fun v341 o341 =>
 bd (gd v340 true (buildSliceS tab o341 23 0 []) o341) fun v342 o342 =>
 bd (gd v340 true (some (x5, o342)) o342) fun v343 o343 =>
 bd (gd v340 true (some (x6, o343)) o343) fun v344 o344 =>
 bd (gd v340 true (buildSliceS tab o344 23 1 [(0, v344)]) o344) fun v345 o345 =>
 bd (gd v340 true (appendS tab o345 23 23 v342 v343) o345) fun v346 o346 =>
 bd (gd v340 true (ret1 (fieldAddrS tab 25 x4 2) o346) o346) fun v347 o347 =>
 bd (gd v340 true (ret1 (loadS tab o347 3 v347) o347) o347) fun v348 o348 =>
 bd (gd v340 true (appendS tab o348 23 23 v346 v345) o348) fun v349 o349 =>
 bd (gd v340 true (ret1 (loadS tab o349 23 v341) o349) o349) fun v350 o350 =>
 bd (gd v340 true (callS ⟨tab, ownF, K⟩ o350 19 [v350, v349]) o350) fun v351 o351 =>
 bd (gd v340 true (ret1 (binS tab .lss 3 v351 v348) o351) o351) fun v352 o352 =>
 bd (ret1 (pickS v340 v352 (SV.v (.bool false))) o352) fun v353 o353 =>
 condS v353 (bd (buildSliceS tab o353 23 1 [(0, x6)]) fun v354 o354 =>
 bd (appendS tab o354 23 23 x5 v354) fun v355 o355 =>
 J13_8 K N nl m7 x0 x2 x4 v355 x6 o355)
 (J13_8 K N nl m7 x0 x2 x4 x5 x6 o353)))
 (bd (callS ⟨tab, ownF, K⟩ o15 14 [x0, (SV.v (.int .i64 3))]) fun v356 o356 =>
 bd (ret1 (binS tab .eql 3 v356 (SV.v (.int .i64 0))) o356) fun v357 o357 =>
 bd (gd v357 true (ret1 (fieldAddrS tab 25 x4 1) o357) o357) fun v358 o358 =>
 bd (gd v357 true (buildSliceS tab o358 23 0 []) o358) fun v359 o359 =>
 bd (gd v357 true (some (x5, o359)) o359) fun v360 o360 =>
 bd (gd v357 true (some (x6, o360)) o360) fun v361 o361 =>
 bd (gd v357 true (buildSliceS tab o361 23 1 [(0, v361)]) o361) fun v362 o362 =>
 bd (gd v357 true (ret1 (fieldAddrS tab 25 x4 2) o362) o362) fun v363 o363 =>
 dchk (isBox v363) <|
 bd (gd v357 true (ret1 (loadS tab o363 3 v363) o363) o363) fun v364 o364 =>
 bd (gd v357 true (appendS tab o364 23 23 v359 v360) o364) fun v365 o365 =>
 bd (gd v357 true (appendS tab o365 23 23 v365 v362) o365) fun v366 o366 =>
 bd (gd v357 true (ret1 (loadS tab o366 23 v358) o366) o366) fun v367 o367 =>
 bd (gd v357 true (callS ⟨tab, ownF, K⟩ o367 19 [v367, v366]) o367) fun v368 o368 =>
 bd (gd v357 true (ret1 (binS tab .lss 3 v368 v364) o368) o368) fun v369 o369 =>
 bd (ret1 (pickS v357 v369 (SV.v (.bool false))) o369) fun v370 o370 =>
 condS v370 (bd (buildSliceS tab o370 23 1 [(0, x6)]) fun v371 o371 =>
 bd (appendS tab o371 23 23 x5 v371) fun v372 o372 =>
 J13_8 K N nl m7 x0 x2 x4 v372 x6 o372)
 (J13_8 K N nl m7 x0 x2 x4 x5 x6 o370)))))
 (both (both (both (bd (callS ⟨tab, ownF, K⟩ o15 14 [x0, (SV.v (.int .i64 3))]) fun v373 o373 =>
 bd (ret1 (binS tab .eql 3 v373 (SV.v (.int .i64 0))) o373) fun v374 o374 =>
 bd (gd v374 true (ret1 (fieldAddrS tab 25 x4 1) o374) o374) fun v375 o375 =>
 bd (gd v374 true (some (x5, o375)) o375) fun v376 o376 =>
 bd (gd v374 true (some (x6, o376)) o376) fun v377 o377 =>
 bd (gd v374 true (buildSliceS tab o377 23 1 [(0, v377)]) o377) fun v378 o378 =>
 bd (gd v374 true (buildSliceS tab o378 23 0 []) o378) fun v379 o379 =>
 bd (gd v374 true (appendS tab o379 23 23 v379 v376) o379) fun v380 o380 =>
 bd (gd v374 true (ret1 (loadS tab o380 23 v375) o380) o380) fun v381 o381 =>
 bd (gd v374 true (appendS tab o381 23 23 v380 v378) o381) fun v382 o382 =>
 dchk (keepOk ⟨tab, ownF, K⟩ o382 (SV.fn 19 []) [v381, v382] [] true) <|
 bd (gd v374 true (callS ⟨tab, ownF, K⟩ o382 19 [v381, v382]) o382) fun v383 o383 =>
 bd (gd v374 true (ret1 (fieldAddrS tab 25 x4 2) o383) o383) fun v384 o384 =>
 dchk (isBox v384) <|
 bd (gd v374 true (ret1 (loadS tab o384 3 v384) o384) o384) fun v385 o385 =>
 bd (gd v374 true (ret1 (binS tab .lss 3 v383 v385) o385) o385) fun v386 o386 =>
 bd (ret1 (pickS v374 v386 (SV.v (.bool false))) o386) fun v387 o387 =>
 condS v387 (bd (buildSliceS tab o387 23 1 [(0, x6)]) fun v388 o388 =>
 bd (appendS tab o388 23 23 x5 v388) fun v389 o389 =>
 J13_8 K N nl m7 x0 x2 x4 v389 x6 o389)
 (J13_8 K N nl m7 x0 x2 x4 x5 x6 o387))
 (bd (callS ⟨tab, ownF, K⟩ o15 14 [x0, (SV.v (.int .i64 3))]) fun v390 o390 =>
 bd (ret1 (binS tab .eql 3 v390 (SV.v (.int .i64 0))) o390) fun v391 o391 =>
 bd (gd v391 true (ret1 (fieldAddrS tab 25 x4 1) o391) o391) fun v392 o392 =>
 bd (gd v391 true (some (x5, o392)) o392) fun v393 o393 =>
 bd (gd v391 true (some (x6, o393)) o393) fun v394 o394 =>
 bd (gd v391 true (buildSliceS tab o394 23 1 [(0, v394)]) o394) fun v395 o395 =>
 bd (gd v391 true (buildSliceS tab o395 23 0 []) o395) fun v396 o396 =>
 bd (gd v391 true (appendS tab o396 23 23 v396 v393) o396) fun v397 o397 =>
 bd (gd v391 true (ret1 (loadS tab o397 23 v392) o397) o397) fun v398 o398 =>
 bd (gd v391 true (ret1 (fieldAddrS tab 25 x4 2) o398) o398) fun v399 o399 =>
 bd (gd v391 true (ret1 (loadS tab o399 3 v399) o399) o399) fun v400 o400 =>
 bd (gd v391 true (appendS tab o400 23 23 v397 v395) o400) fun v401 o401 =>
 bd (gd v391 true (callS ⟨tab, ownF, K⟩ o401 19 [v398, v401]) o401) fun v402 o402 =>
 bd (gd v391 true (ret1 (binS tab .lss 3 v402 v400) o402) o402) fun v403 o403 =>
 bd (ret1 (pickS v391 v403 (SV.v (.bool false))) o403) fun v404 o404 =>
 condS v404 (bd (buildSliceS tab o404 23 1 [(0, x6)]) fun v405 o405 =>
 bd (appendS tab o405 23 23 x5 v405) fun v406 o406 =>
 J13_8 K N nl m7 x0 x2 x4 v406 x6 o406)
 (J13_8 K N nl m7 x0 x2 x4 x5 x6 o404)))
 (bd (callS ⟨tab, ownF, K⟩ o15 14 [x0, (SV.v (.int .i64 3))]) fun v407 o407 =>
 bd (ret1 (binS tab .eql 3 v407 (SV.v (.int .i64 0))) o407) fun v408 o408 =>
 bd (gd v408 true (ret1 (fieldAddrS tab 25 x4 1) o408) o408) fun v409 o409 =>
 bd (gd v408 true (some (x5, o409)) o409) fun v410 o410 =>
 bd (gd v408 true (some (x6, o410)) o410) fun v411 o411 =>
 bd (gd v408 true (buildSliceS tab o411 23 1 [(0, v411)]) o411) fun v412 o412 =>
 bd (gd v408 true (buildSliceS tab o412 23 0 []) o412) fun v413 o413 =>
 bd (gd v408 true (ret1 (fieldAddrS tab 25 x4 2) o413) o413) fun v414 o414 =>
 dchk (isBox v414) <|
 bd (gd v408 true (ret1 (loadS tab o414 3 v414) o414) o414) fun v415 o415 =>
 bd (gd v408 true (appendS tab o415 23 23 v413 v410) o415) fun v416 o416 =>
 bd (gd v408 true (ret1 (loadS tab o416 23 v409) o416) o416) fun v417 o417 =>
 bd (gd v408 true (appendS tab o417 23 23 v416 v412) o417) fun v418 o418 =>
 bd (gd v408 true (callS ⟨tab, ownF, K⟩ o418 19 [v417, v418]) o418) fun v419 o419 =>
 bd (gd v408 true (ret1 (binS tab .lss 3 v419 v415) o419) o419) fun v420 o420 =>
 bd (ret1 (pickS v408 v420 (SV.v (.bool false))) o420) fun v421 o421 =>
 condS v421 (bd (buildSliceS tab o421 23 1 [(0, x6)]) fun v422 o422 =>
 bd (appendS tab o422 23 23 x5 v422) fun v423 o423 =>
 J13_8 K N nl m7 x0 x2 x4 v423 x6 o423)
 (J13_8 K N nl m7 x0 x2 x4 x5 x6 o421)))
 (both (both (bd (callS ⟨tab, ownF, K⟩ o15 14 [x0, (SV.v (.int .i64 3))]) fun v424 o424 =>
 bd (ret1 (binS tab .eql 3 v424 (SV.v (.int .i64 0))) o424) fun v425 o425 =>
 bd (gd v425 true (ret1 (fieldAddrS tab 25 x4 1) o425) o425) fun v426 o426 =>
 bd (gd v425 true (some (x5, o426)) o426) fun v427 o427 =>
 bd (gd v425 true (some (x6, o427)) o427) fun v428 o428 =>
 bd (gd v425 true (buildSliceS tab o428 23 1 [(0, v428)]) o428) fun v429 o429 =>
 bd (gd v425 true (buildSliceS tab o429 23 0 []) o429) fun v430 o430 =>
 bd (gd v425 true (appendS tab o430 23 23 v430 v427) o430) fun v431 o431 =>
 bd (gd v425 true (appendS tab o431 23 23 v431 v429) o431) fun v432 o432 =>
 bd (gd v425 true (ret1 (loadS tab o432 23 v426) o432) o432) fun v433 o433 =>
 dchk (keepOk ⟨tab, ownF, K⟩ o433 (SV.fn 19 []) [v433, v432] [] true) <|
 bd (gd v425 true (callS ⟨tab, ownF, K⟩ o433 19 [v433, v432]) o433) fun v434 o434 =>
 bd (gd v425 true (ret1 (fieldAddrS tab 25 x4 2) o434) o434) fun v435 o435 =>
 dchk (isBox v435) <|
 bd (gd v425 true (ret1 (loadS tab o435 3 v435) o435) o435) fun v436 o436 =>
 bd (gd v425 true (ret1 (binS tab .lss 3 v434 v436) o436) o436) fun v437 o437 =>
 bd (ret1 (pickS v425 v437 (SV.v (.bool false))) o437) fun v438 o438 =>
 condS v438 (bd (buildSliceS tab o438 23 1 [(0, x6)]) fun v439 o439 =>
 bd (appendS tab o439 23 23 x5 v439) fun v440 o440 =>
 J13_8 K N nl m7 x0 x2 x4 v440 x6 o440)
 (J13_8 K N nl m7 x0 x2 x4 x5 x6 o438))
 (bd (callS ⟨tab, ownF, K⟩ o15 14 [x0, (SV.v (.int .i64 3))]) fun v441 o441 =>
 bd (ret1 (binS tab .eql 3 v441 (SV.v (.int .i64 0))) o441) fun v442 o442 =>
 bd (gd v442 true (ret1 (fieldAddrS tab 25 x4 1) o442) o442) fun v443 o443 =>
 bd (gd v442 true (some (x5, o443)) o443) fun v444 o444 =>
 bd (gd v442 true (some (x6, o444)) o444) fun v445 o445 =>
 bd (gd v442 true (buildSliceS tab o445 23 1 [(0, v445)]) o445) fun v446 o446 =>
 bd (gd v442 true (buildSliceS tab o446 23 0 []) o446) fun v447 o447 =>
 bd (gd v442 true (appendS tab o447 23 23 v447 v444) o447) fun v448 o448 =>
 bd (gd v442 true (ret1 (fieldAddrS tab 25 x4 2) o448) o448) fun v449 o449 =>
 bd (gd v442 true (ret1 (loadS tab o449 3 v449) o449) o449) fun v450 o450 =>
 bd (gd v442 true (appendS tab o450 23 23 v448 v446) o450) fun v451 o451 =>
 bd (gd v442 true (ret1 (loadS tab o451 23 v443) o451) o451) fun v452 o452 =>
 bd (gd v442 true (callS ⟨tab, ownF, K⟩ o452 19 [v452, v451]) o452) fun v453 o453 =>
 bd (gd v442 true (ret1 (binS tab .lss 3 v453 v450) o453) o453) fun v454 o454 =>
 bd (ret1 (pickS v442 v454 (SV.v (.bool false))) o454) fun v455 o455 =>
 condS v455 (bd (buildSliceS tab o455 23 1 [(0, x6)]) fun v456 o456 =>
 bd (appendS tab o456 23 23 x5 v456) fun v457 o457 =>
 J13_8 K N nl m7 x0 x2 x4 v457 x6 o457)
 (J13_8 K N nl m7 x0 x2 x4 x5 x6 o455)))
 (bd (callS ⟨tab, ownF, K⟩ o15 14 [x0, (SV.v (.int .i64 3))]) fun v458 o458 =>
 bd (ret1 (binS tab .eql 3 v458 (SV.v (.int .i64 0))) o458) fun v459 o459 =>
 bd (gd v459 true (ret1 (fieldAddrS tab 25 x4 1) o459) o459) fun v460 o460 =>
 bd (gd v459 true (some (x5, o460)) o460) fun v461 o461 =>
 bd (gd v459 true (some (x6, o461)) o461) fun v462 o462 =>
 bd (gd v459 true (buildSliceS tab o462 23 1 [(0, v462)]) o462) fun v463 o463 =>
 bd (gd v459 true (buildSliceS tab o463 23 0 []) o463) fun v464 o464 =>
 bd (gd v459 true (ret1 (fieldAddrS tab 25 x4 2) o464) o464) fun v465 o465 =>
 dchk (isBox v465) <|
 bd (gd v459 true (ret1 (loadS tab o465 3 v465) o465) o465) fun v466 o466 =>
 bd (gd v459 true (appendS tab o466 23 23 v464 v461) o466) fun v467 o467 =>
 bd (gd v459 true (appendS tab o467 23 23 v467 v463) o467) fun v468 o468 =>
 bd (gd v459 true (ret1 (loadS tab o468 23 v460) o468) o468) fun v469 o469 =>
 bd (gd v459 true (callS ⟨tab, ownF, K⟩ o469 19 [v469, v468]) o469) fun v470 o470 =>
 bd (gd v459 true (ret1 (binS tab .lss 3 v470 v466) o470) o470) fun v471 o471 =>
 bd (ret1 (pickS v459 v471 (SV.v (.bool false))) o471) fun v472 o472 =>
 condS v472 (bd (buildSliceS tab o472 23 1 [(0, x6)]) fun v473 o473 =>
 bd (appendS tab o473 23 23 x5 v473) fun v474 o474 =>
 J13_8 K N nl m7 x0 x2 x4 v474 x6 o474)
 (J13_8 K N nl m7 x0 x2 x4 x5 x6 o472))))))
 (bd (ret1 (loadS tab o15 25 x4) o15) fun v475 o475 =>
 bd (storeO tab o475 25 x2 (some v475)) fun v476 o476 =>
 retV tab nl o476 (resC1 (loadS tab o476 25 x2) (resC1 (some x5) (some []))))
noncomputable def JB13_8 (K : Nat → List SV → List SO → Out) (N nl : Nat) (m7 : Nat) (x0 x2 x4 x5 x6 : SV) (os : List SO) : Out :=
 bd (ret1 (binS tab .add 3 x6 (SV.v (.int .i64 1))) os) fun v477 o477 =>
 L13_7 K N nl m7 x0 x2 x4 x5 v477 o477
noncomputable def X13 (K : Nat → List SV → List SO → Out) (N nl : Nat) (x0 : SV) (os : List SO) : Out := exec (cx K) N nl fi13 c13 [(0, x0)] os (kEnd tab [] nl rs13)
noncomputable def B13 (K : Nat → List SV → List SO → Out) (N nl : Nat) (x0 : SV) (os : List SO) : Out :=
 bd (allocS tab os 25) fun v1 o1 =>
 bd (evN tab 23 o1 none) fun v2 o2 =>
 bd (callS ⟨tab, ownF, K⟩ o2 15 [x0]) fun v3 o3 =>
 bd (allocS tab o3 25) fun v4 o4 =>
 bd (storeO tab o4 25 v4 (some v3)) fun v5 o5 =>
 bd (ret1 (fieldAddrS tab 25 v4 0) o5) fun v6 o6 =>
 bd (storeO tab o6 3 v6 (some (SV.v (.int .i64 1)))) fun v7 o7 =>
 bd (ret1 (loadS tab o7 25 v4) o7) fun v8 o8 =>
 bd (callS ⟨tab, ownF, K⟩ o8 17 [v8]) fun v9 o9 =>
 bd (ret1 (unS .not v9) o9) fun v10 o10 =>
 condS v10 (bd (buildSliceS tab o10 23 3 [(0, (SV.v (.int .i64 1))), (1, (SV.v (.int .i64 2))), (2, (SV.v (.int .i64 3)))]) fun v11 o11 =>
 bd (buildS tab o11 25 [(0, (some (SV.v (.int .i64 1)))), (1, (some v11)), (2, (some (SV.v (.int .i64 2))))]) fun v12 o12 =>
 bd (storeO tab o12 25 v4 (some v12)) fun v13 o13 =>
 J13_5 K N nl x0 v1 v4 o13)
 (J13_5 K N nl x0 v1 v4 o10)
noncomputable def X14 (K : Nat → List SV → List SO → Out) (N nl : Nat) (x0 x1 : SV) (os : List SO) : Out := exec (cx K) N nl fi14 c14 [(0, x0), (1, x1)] os (kEnd tab [] nl rs14)
noncomputable def B14 (K : Nat → List SV → List SO → Out) (N nl : Nat) (x0 x1 : SV) (os : List SO) : Out :=
 bd (ret1 (nilS x0) os) fun v1 o1 =>
 bd (ret1 (fieldAddrS tab 78 v1 1) o1) fun v2 o2 =>
 bd (ret1 (loadS tab o2 3 v2) o2) fun v3 o3 =>
 bd (ret1 (binS tab .add 3 v3 (SV.v (.int .i64 1))) o3) fun v4 o4 =>
 bd (ret1 (nilS x0) o4) fun v5 o5 =>
 bd (ret1 (fieldAddrS tab 78 v5 1) o5) fun v6 o6 =>
 bd (storeO tab o6 3 v6 (some v4)) fun v7 o7 =>
 bd (ret1 (binS tab .lss 3 x1 (SV.v (.int .i64 1))) o7) fun v8 o8 =>
 bd (gd v8 false (some (x0, o8)) o8) fun v9 o9 =>
 bd (gd v8 false (ret1 (nilS v9) o9) o9) fun v10 o10 =>
 bd (gd v8 false (ret1 (fieldAddrS tab 78 v10 0) o10) o10) fun v11 o11 =>
 bd (gd v8 false (ret1 (loadS tab o11 22 v11) o11) o11) fun v12 o12 =>
 bd (gd v8 false (lenO tab 22 o12 v12) o12) fun v13 o13 =>
 bd (gd v8 false (ret1 (binS tab .eql 3 v13 (SV.v (.int .i64 0))) o13) o13) fun v14 o14 =>
 bd (ret1 (pickS v8 (SV.v (.bool true)) v14) o14) fun v15 o15 =>
 condS v15 (retV tab nl o15 (resC1 (some (SV.v (.int .i64 0))) (some [])))
 (bd (ret1 (nilS x0) o15) fun v16 o16 =>
 bd (ret1 (fieldAddrS tab 78 v16 1) o16) fun v17 o17 =>
 bd (ret1 (loadS tab o17 3 v17) o17) fun v18 o18 =>
 bd (ret1 (binS tab .sub 3 v18 (SV.v (.int .i64 1))) o18) fun v19 o19 =>
 bd (ret1 (nilS x0) o19) fun v20 o20 =>
 bd (ret1 (fieldAddrS tab 78 v20 0) o20) fun v21 o21 =>
 bd (ret1 (loadS tab o21 22 v21) o21) fun v22 o22 =>
 bd (lenO tab 22 o22 v22) fun v23 o23 =>
 bd (ret1 (binS tab .lss 3 v19 v23) o23) fun v24 o24 =>
 condS v24 (bd (ret1 (nilS x0) o24) fun v25 o25 =>
 bd (ret1 (fieldAddrS tab 78 v25 0) o25) fun v26 o26 =>
 bd (ret1 (loadS tab o26 22 v26) o26) fun v27 o27 =>
 bd (ret1 (indexAddrS tab o27 22 v27 v19) o27) fun v28 o28 =>
 bd (ret1 (loadS tab o28 5 v28) o28) fun v29 o29 =>
 bd (convS tab o29 5 3 v29) fun v30 o30 =>
 bd (ret1 (binS tab .rem 3 v30 x1) o30) fun v31 o31 =>
 retV tab nl o31 (resC1 (some v31) (some [])))
 (bd (ret1 (nilS x0) o24) fun v32 o32 =>
 bd (ret1 (fieldAddrS tab 78 v32 0) o32) fun v33 o33 =>
 bd (ret1 (loadS tab o33 22 v33) o33) fun v34 o34 =>
 bd (ret1 (nilS x0) o34) fun v35 o35 =>
 bd (ret1 (fieldAddrS tab 78 v35 0) o35) fun v36 o36 =>
 bd (ret1 (loadS tab o36 22 v36) o36) fun v37 o37 =>
 bd (lenO tab 22 o37 v37) fun v38 o38 =>
 bd (ret1 (binS tab .rem 3 v19 v38) o38) fun v39 o39 =>
 bd (ret1 (indexAddrS tab o39 22 v34 v39) o39) fun v40 o40 =>
 bd (ret1 (loadS tab o40 5 v40) o40) fun v41 o41 =>
 bd (convS tab o41 5 3 v41) fun v42 o42 =>
 bd (ret1 (binS tab .mul 3 v42 (SV.v (.int .i64 131))) o42) fun v43 o43 =>
 bd (ret1 (nilS x0) o43) fun v44 o44 =>
 bd (ret1 (fieldAddrS tab 78 v44 0) o44) fun v45 o45 =>
 bd (ret1 (loadS tab o45 22 v45) o45) fun v46 o46 =>
 bd (ret1 (binS tab .mul 3 v19 (SV.v (.int .i64 7))) o46) fun v47 o47 =>
 bd (ret1 (binS tab .add 3 v47 (SV.v (.int .i64 3))) o47) fun v48 o48 =>
 bd (ret1 (nilS x0) o48) fun v49 o49 =>
 bd (ret1 (fieldAddrS tab 78 v49 0) o49) fun v50 o50 =>
 bd (ret1 (loadS tab o50 22 v50) o50) fun v51 o51 =>
 bd (lenO tab 22 o51 v51) fun v52 o52 =>
 bd (ret1 (binS tab .rem 3 v48 v52) o52) fun v53 o53 =>
 bd (ret1 (indexAddrS tab o53 22 v46 v53) o53) fun v54 o54 =>
 bd (ret1 (loadS tab o54 5 v54) o54) fun v55 o55 =>
 bd (convS tab o55 5 3 v55) fun v56 o56 =>
 bd (ret1 (binS tab .mul 3 v56 (SV.v (.int .i64 1117))) o56) fun v57 o57 =>
 bd (ret1 (binS tab .add 3 v43 v57) o57) fun v58 o58 =>
 bd (ret1 (binS tab .mul 3 v19 (SV.v (.int .i64 29))) o58) fun v59 o59 =>
 bd (ret1 (binS tab .add 3 v58 v59) o59) fun v60 o60 =>
 bd (ret1 (nilS x0) o60) fun v61 o61 =>
 bd (ret1 (fieldAddrS tab 78 v61 0) o61) fun v62 o62 =>
 bd (ret1 (loadS tab o62 22 v62) o62) fun v63 o63 =>
 bd (lenO tab 22 o63 v63) fun v64 o64 =>
 bd (ret1 (binS tab .quo 3 v19 v64) o64) fun v65 o65 =>
 bd (ret1 (binS tab .mul 3 v65 (SV.v (.int .i64 53))) o65) fun v66 o66 =>
 bd (ret1 (binS tab .add 3 v60 v66) o66) fun v67 o67 =>
 bd (ret1 (binS tab .quo 3 v67 (SV.v (.int .i64 64))) o67) fun v68 o68 =>
 bd (ret1 (binS tab .xor 3 v67 v68) o68) fun v69 o69 =>
 bd (ret1 (binS tab .rem 3 v69 x1) o69) fun v70 o70 =>
 retV tab nl o70 (resC1 (some v70) (some []))))
noncomputable def J15_4 (K : Nat → List SV → List SO → Out) (N nl : Nat) (x0 x2 x3 : SV) (os : List SO) : Out := exec (cx K) N nl fi15 (subC c15 [1, 1, 1]) [(0, x0), (2, x2), (3, x3)] os (kEnd tab [] nl rs15)
noncomputable def J15_10 (K : Nat → List SV → List SO → Out) (N nl : Nat) (x2 x4 : SV) (os : List SO) : Out := exec (cx K) N nl fi15 (subC c15 [1, 1, 1, 1, 1]) [(2, x2), (4, x4)] os (kEnd tab [] nl rs15)
noncomputable def JB15_4 (K : Nat → List SV → List SO → Out) (N nl : Nat) (x0 x2 x3 : SV) (os : List SO) : Out :=
 bd (callS ⟨tab, ownF, K⟩ os 14 [x0, (SV.v (.int .i64 3))]) fun v8 o8 =>
 bd (ret1 (binS tab .add 3 (SV.v (.int .i64 1)) v8) o8) fun v9 o9 =>
 bd (lenO tab 23 o9 x3) fun v10 o10 =>
 bd (callS ⟨tab, ownF, K⟩ o10 14 [x0, v10]) fun v11 o11 =>
 bd (ret1 (binS tab .add 3 (SV.v (.int .i64 1)) v11) o11) fun v12 o12 =>
 bd (buildS tab o12 25 [(0, (some v9)), (1, (some x3)), (2, (some v12))]) fun v13 o13 =>
 bd (allocS tab o13 25) fun v14 o14 =>
 bd (storeO tab o14 25 v14 (some v13)) fun v15 o15 =>
 bd (callS ⟨tab, ownF, K⟩ o15 14 [x0, (SV.v (.int .i64 20))]) fun v16 o16 =>
 bd (ret1 (binS tab .eql 3 v16 (SV.v (.int .i64 0))) o16) fun v17 o17 =>
 condS v17 (bd (buildSliceS tab o17 23 3 [(0, (SV.v (.int .i64 0))), (1, (SV.v (.int .i64 9))), (2, (SV.v (.int .i64 10)))]) fun v18 o18 =>
 bd (callS ⟨tab, ownF, K⟩ o18 14 [x0, (SV.v (.int .i64 3))]) fun v19 o19 =>
 bd (ret1 (indexAddrS tab o19 23 v18 v19) o19) fun v20 o20 =>
 bd (ret1 (loadS tab o20 3 v20) o20) fun v21 o21 =>
 bd (ret1 (fieldAddrS tab 25 v14 0) o21) fun v22 o22 =>
 bd (storeO tab o22 3 v22 (some v21)) fun v23 o23 =>
 J15_10 K N nl x2 v14 o23)
 (bd (ret1 (binS tab .eql 3 v16 (SV.v (.int .i64 1))) o17) fun v24 o24 =>
 condS v24 (bd (lenO tab 23 o24 x3) fun v25 o25 =>
 bd (ret1 (binS tab .add 3 v25 (SV.v (.int .i64 1))) o25) fun v26 o26 =>
 bd (buildSliceS tab o26 23 2 [(0, (SV.v (.int .i64 0))), (1, v26)]) fun v27 o27 =>
 bd (callS ⟨tab, ownF, K⟩ o27 14 [x0, (SV.v (.int .i64 2))]) fun v28 o28 =>
 bd (ret1 (indexAddrS tab o28 23 v27 v28) o28) fun v29 o29 =>
 bd (ret1 (loadS tab o29 3 v29) o29) fun v30 o30 =>
 bd (ret1 (fieldAddrS tab 25 v14 2) o30) fun v31 o31 =>
 bd (storeO tab o31 3 v31 (some v30)) fun v32 o32 =>
 J15_10 K N nl x2 v14 o32)
 (J15_10 K N nl x2 v14 o24))
noncomputable def JB15_10 (K : Nat → List SV → List SO → Out) (N nl : Nat) (x2 x4 : SV) (os : List SO) : Out :=
 bd (ret1 (loadS tab os 25 x4) os) fun v33 o33 =>
 bd (storeO tab o33 25 x2 (some v33)) fun v34 o34 =>
 retV tab nl o34 (resC1 (loadS tab o34 25 x2) (some []))
noncomputable def X15 (K : Nat → List SV → List SO → Out) (N nl : Nat) (x0 : SV) (os : List SO) : Out := exec (cx K) N nl fi15 c15 [(0, x0)] os (kEnd tab [] nl rs15)
noncomputable def B15 (K : Nat → List SV → List SO → Out) (N nl : Nat) (x0 : SV) (os : List SO) : Out :=
 bd (allocS tab os 25) fun v1 o1 =>
 bd (callS ⟨tab, ownF, K⟩ o1 16 [x0]) fun v2 o2 =>
 bd (lenO tab 23 o2 v2) fun v3 o3 =>
 bd (ret1 (binS tab .eql 3 v3 (SV.v (.int .i64 0))) o3) fun v4 o4 =>
 condS v4 (bd (callS ⟨tab, ownF, K⟩ o4 14 [x0, (SV.v (.int .i64 6))]) fun v5 o5 =>
 bd (ret1 (binS tab .add 3 (SV.v (.int .i64 1)) v5) o5) fun v6 o6 =>
 bd (buildSliceS tab o6 23 1 [(0, v6)]) fun v7 o7 =>
 J15_4 K N nl x0 v1 v7 o7)
 (J15_4 K N nl x0 v1 v2 o4)
noncomputable def bk16_3 (K : Nat → List SV → List SO → Out) (N nl : Nat) (m3 : Nat) : Env → List SO → Out := fun env os => loopS nl (fi16.lp 3) (fun env os nx => exec (cx K) N nl fi16 (subC c16 [1, 1, 0, 1, 0, 0]) env os (kLoop nx (kBlock 0 (kSeq (exec (cx K) N nl fi16 (subC c16 [1, 1, 1])) (fi16.jn 7) (kEnd tab [] nl rs16))))) m3 (killS (fi16.lp 3).alive env) os
noncomputable def L16_3 (K : Nat → List SV → List SO → Out) (N nl : Nat) (m3 : Nat) (x0 x3 x4 : SV) (os : List SO) : Out := loopS nl (fi16.lp 3) (fun env os nx => exec (cx K) N nl fi16 (subC c16 [1, 1, 0, 1, 0, 0]) env os (kLoop nx (kBlock 0 (kSeq (exec (cx K) N nl fi16 (subC c16 [1, 1, 1])) (fi16.jn 7) (kEnd tab [] nl rs16))))) m3 [(0, x0), (3, x3), (4, x4)] os
noncomputable def G16_3 (K : Nat → List SV → List SO → Out) (N nl : Nat) (m3 : Nat) (xs : List SV) (os : List SO) : Out := (fun env os nx => exec (cx K) N nl fi16 (subC c16 [1, 1, 0, 1, 0, 0]) env os (kLoop nx (kBlock 0 (kSeq (exec (cx K) N nl fi16 (subC c16 [1, 1, 1])) (fi16.jn 7) (kEnd tab [] nl rs16))))) (zipE [0, 3, 4] xs) os (bk16_3 K N nl m3)
noncomputable def J16_4 (K : Nat → List SV → List SO → Out) (N nl : Nat) (m3 : Nat) (x0 x3 x4 : SV) (os : List SO) : Out := exec (cx K) N nl fi16 (subC c16 [1, 1, 0, 1, 0, 0, 1, 1]) [(0, x0), (3, x3), (4, x4)] os (kLoop (bk16_3 K N nl m3) (kBlock 0 (kSeq (exec (cx K) N nl fi16 (subC c16 [1, 1, 1])) (fi16.jn 7) (kEnd tab [] nl rs16))))
noncomputable def J16_9 (K : Nat → List SV → List SO → Out) (N nl : Nat) (x3 : SV) (os : List SO) : Out := exec (cx K) N nl fi16 (subC c16 [1, 1, 1, 1]) [(3, x3)] os (kEnd tab [] nl rs16)
noncomputable def GB16_3 (K : Nat → List SV → List SO → Out) (N nl : Nat) (m3 : Nat) (x0 x3 x4 : SV) (os : List SO) : Out :=
 bd (ret1 (binS tab .leq 3 x4 (SV.v (.int .i64 6))) os) fun v3 o3 =>
 condS v3 (bd (callS ⟨tab, ownF, K⟩ o3 14 [x0, (SV.v (.int .i64 2))]) fun v4 o4 =>
 bd (ret1 (binS tab .eql 3 v4 (SV.v (.int .i64 0))) o4) fun v5 o5 =>
 condS v5 (bd (buildSliceS tab o5 23 1 [(0, x4)]) fun v6 o6 =>
 bd (appendS tab o6 23 23 x3 v6) fun v7 o7 =>
 J16_4 K N nl m3 x0 v7 x4 o7)
 (J16_4 K N nl m3 x0 x3 x4 o5))
 (bd (callS ⟨tab, ownF, K⟩ o3 14 [x0, (SV.v (.int .i64 16))]) fun v8 o8 =>
 bd (ret1 (binS tab .eql 3 v8 (SV.v (.int .i64 0))) o8) fun v9 o9 =>
 condS v9 (bd (buildSliceS tab o9 23 3 [(0, (SV.v (.int .i64 0))), (1, (SV.v (.int .i64 7))), (2, (SV.v (.int .i64 1)))]) fun v10 o10 =>
 bd (callS ⟨tab, ownF, K⟩ o10 14 [x0, (SV.v (.int .i64 3))]) fun v11 o11 =>
 bd (ret1 (indexAddrS tab o11 23 v10 v11) o11) fun v12 o12 =>
 bd (ret1 (loadS tab o12 3 v12) o12) fun v13 o13 =>
 bd (buildSliceS tab o13 23 1 [(0, v13)]) fun v14 o14 =>
 bd (appendS tab o14 23 23 x3 v14) fun v15 o15 =>
 J16_9 K N nl v15 o15)
 (J16_9 K N nl x3 o9))
noncomputable def JB16_4 (K : Nat → List SV → List SO → Out) (N nl : Nat) (m3 : Nat) (x0 x3 x4 : SV) (os : List SO) : Out :=
 bd (ret1 (binS tab .add 3 x4 (SV.v (.int .i64 1))) os) fun v16 o16 =>
 L16_3 K N nl m3 x0 x3 v16 o16
noncomputable def JB16_9 (K : Nat → List SV → List SO → Out) (N nl : Nat) (x3 : SV) (os : List SO) : Out :=
 retV tab nl os (resC1 (some x3) (some []))
noncomputable def X16 (K : Nat → List SV → List SO → Out) (N nl : Nat) (x0 : SV) (os : List SO) : Out := exec (cx K) N nl fi16 c16 [(0, x0)] os (kEnd tab [] nl rs16)
noncomputable def B16 (K : Nat → List SV → List SO → Out) (N nl : Nat) (x0 : SV) (os : List SO) : Out :=
 bd (evN tab 23 os none) fun v1 o1 =>
 bd (buildSliceS tab o1 23 0 []) fun v2 o2 =>
 L16_3 K N nl N x0 v2 (SV.v (.int .i64 1)) o2
noncomputable def X17 (K : Nat → List SV → List SO → Out) (N nl : Nat) (x0 : SV) (os : List SO) : Out := exec (cx K) N nl fi17 c17 [(0, x0)] os (kEnd tab [] nl rs17)
noncomputable def B17 (K : Nat → List SV → List SO → Out) (N nl : Nat) (x0 : SV) (os : List SO) : Out :=
 bd (boxS tab os 25 (some x0)) fun v1 o1 =>
 bd (ret1 (fieldAddrS tab 25 v1 0) o1) fun v2 o2 =>
 bd (ret1 (loadS tab o2 3 v2) o2) fun v3 o3 =>
 bd (callS ⟨tab, ownF, K⟩ o3 45 [v3, (SV.v (.int .i64 1)), (SV.v (.int .i64 9))]) fun v4 o4 =>
 bd (gd v4 true (ret1 (fieldAddrS tab 25 v1 1) o4) o4) fun v5 o5 =>
 bd (gd v4 true (ret1 (loadS tab o5 23 v5) o5) o5) fun v6 o6 =>
 bd (gd v4 true (callS ⟨tab, ownF, K⟩ o6 18 [v6]) o6) fun v7 o7 =>
 bd (ret1 (pickS v4 v7 (SV.v (.bool false))) o7) fun v8 o8 =>
 bd (gd v8 true (ret1 (fieldAddrS tab 25 v1 2) o8) o8) fun v9 o9 =>
 bd (gd v8 true (ret1 (loadS tab o9 3 v9) o9) o9) fun v10 o10 =>
 bd (gd v8 true (ret1 (fieldAddrS tab 25 v1 1) o10) o10) fun v11 o11 =>
 bd (gd v8 true (ret1 (loadS tab o11 23 v11) o11) o11) fun v12 o12 =>
 bd (gd v8 true (lenO tab 23 o12 v12) o12) fun v13 o13 =>
 bd (gd v8 true (callS ⟨tab, ownF, K⟩ o13 45 [v10, (SV.v (.int .i64 1)), v13]) o13) fun v14 o14 =>
 bd (ret1 (pickS v8 v14 (SV.v (.bool false))) o14) fun v15 o15 =>
 retV tab nl o15 (resC1 (some v15) (some []))
noncomputable def bk18_2 (K : Nat → List SV → List SO → Out) (N nl : Nat) (m2 : Nat) : Env → List SO → Out := fun env os => loopS nl (fi18.lp 2) (fun env os nx => exec (cx K) N nl fi18 (subC c18 [1, 0, 1, 0, 0]) env os (kLoop nx (kBlock 0 (kSeq (exec (cx K) N nl fi18 (subC c18 [1, 1])) (fi18.jn 6) (kEnd tab [] nl rs18))))) m2 (killS (fi18.lp 2).alive env) os
noncomputable def L18_2 (K : Nat → List SV → List SO → Out) (N nl : Nat) (m2 : Nat) (x0 x3 : SV) (os : List SO) : Out := loopS nl (fi18.lp 2) (fun env os nx => exec (cx K) N nl fi18 (subC c18 [1, 0, 1, 0, 0]) env os (kLoop nx (kBlock 0 (kSeq (exec (cx K) N nl fi18 (subC c18 [1, 1])) (fi18.jn 6) (kEnd tab [] nl rs18))))) m2 [(0, x0), (3, x3)] os
noncomputable def LB18_2 (K : Nat → List SV → List SO → Out) (N nl : Nat) (m2 : Nat) (x0 x3 : SV) (os : List SO) : Out :=
 bd (lenO tab 23 os x0) fun v1 o1 =>
 bd (ret1 (binS tab .lss 3 x3 v1) o1) fun v2 o2 =>
 condS v2 (bd (ret1 (indexAddrS tab o2 23 x0 x3) o2) fun v3 o3 =>
 bd (ret1 (loadS tab o3 3 v3) o3) fun v4 o4 =>
 bd (callS ⟨tab, ownF, K⟩ o4 45 [v4, (SV.v (.int .i64 1)), (SV.v (.int .i64 6))]) fun v5 o5 =>
 bd (ret1 (unS .not v5) o5) fun v6 o6 =>
 bd (gd v6 false (some (x3, o6)) o6) fun v7 o7 =>
 bd (gd v6 false (ret1 (binS tab .gtr 3 v7 (SV.v (.int .i64 0))) o7) o7) fun v8 o8 =>
 bd (gd v6 false (some (v8, o8)) o8) fun v9 o9 =>
 bd (gd v9 true (some (x0, o9)) o9) fun v10 o10 =>
 bd (gd v9 true (some (x3, o10)) o10) fun v11 o11 =>
 bd (gd v9 true (ret1 (binS tab .sub 3 v11 (SV.v (.int .i64 1))) o11) o11) fun v12 o12 =>
 bd (gd v9 true (ret1 (indexAddrS tab o12 23 v10 v12) o12) o12) fun v13 o13 =>
 bd (gd v9 true (ret1 (loadS tab o13 3 v13) o13) o13) fun v14 o14 =>
 bd (gd v9 true (some (x0, o14)) o14) fun v15 o15 =>
 bd (gd v9 true (some (x3, o15)) o15) fun v16 o16 =>
 bd (gd v9 true (ret1 (indexAddrS tab o16 23 v15 v16) o16) o16) fun v17 o17 =>
 bd (gd v9 true (ret1 (loadS tab o17 3 v17) o17) o17) fun v18 o18 =>
 bd (gd v9 true (ret1 (binS tab .geq 3 v14 v18) o18) o18) fun v19 o19 =>
 bd (gd v6 false (ret1 (pickS v9 v19 (SV.v (.bool false))) o19) o19) fun v20 o20 =>
 bd (ret1 (pickS v6 (SV.v (.bool true)) v20) o20) fun v21 o21 =>
 condS v21 (retV tab nl o21 (resC1 (some (SV.v (.bool false))) (some [])))
 (bd (ret1 (binS tab .add 3 x3 (SV.v (.int .i64 1))) o21) fun v22 o22 =>
 L18_2 K N nl m2 x0 v22 o22))
 (retV tab nl o2 (resC1 (some (SV.v (.bool true))) (some [])))
noncomputable def X18 (K : Nat → List SV → List SO → Out) (N nl : Nat) (x0 : SV) (os : List SO) : Out := exec (cx K) N nl fi18 c18 [(0, x0)] os (kEnd tab [] nl rs18)
noncomputable def B18 (K : Nat → List SV → List SO → Out) (N nl : Nat) (x0 : SV) (os : List SO) : Out :=
 L18_2 K N nl N x0 (SV.v (.int .i64 0)) os
noncomputable def bk19_3 (K : Nat → List SV → List SO → Out) (N nl : Nat) (m3 : Nat) : Env → List SO → Out := fun env os => loopS nl (fi19.lp 3) (fun env os nx => exec (cx K) N nl fi19 (subC c19 [1, 1, 0, 1, 0, 0]) env os (kLoop nx (kBlock 0 (kSeq (exec (cx K) N nl fi19 (subC c19 [1, 1, 1])) (fi19.jn 10) (kEnd tab [] nl rs19))))) m3 (killS (fi19.lp 3).alive env) os
noncomputable def bk19_6 (K : Nat → List SV → List SO → Out) (N nl : Nat) (m3 : Nat) (m6 : Nat) : Env → List SO → Out := fun env os => loopS nl (fi19.lp 6) (fun env os nx => exec (cx K) N nl fi19 (subC c19 [1, 1, 0, 1, 0, 0, 1, 0, 0, 1, 0, 0]) env os (kLoop nx (kBlock 2 (kBlock 1 (kSeq (exec (cx K) N nl fi19 (subC c19 [1, 1, 0, 1, 0, 0, 1, 1])) (fi19.jn 4) (kLoop (bk19_3 K N nl m3) (kBlock 0 (kSeq (exec (cx K) N nl fi19 (subC c19 [1, 1, 1])) (fi19.jn 10) (kEnd tab [] nl rs19))))))))) m6 (killS (fi19.lp 6).alive env) os
noncomputable def L19_3 (K : Nat → List SV → List SO → Out) (N nl : Nat) (m3 : Nat) (x0 x1 x5 x6 : SV) (os : List SO) : Out := loopS nl (fi19.lp 3) (fun env os nx => exec (cx K) N nl fi19 (subC c19 [1, 1, 0, 1, 0, 0]) env os (kLoop nx (kBlock 0 (kSeq (exec (cx K) N nl fi19 (subC c19 [1, 1, 1])) (fi19.jn 10) (kEnd tab [] nl rs19))))) m3 [(0, x0), (1, x1), (5, x5), (6, x6)] os
noncomputable def L19_6 (K : Nat → List SV → List SO → Out) (N nl : Nat) (m3 : Nat) (m6 : Nat) (x0 x1 x5 x6 x7 : SV) (os : List SO) : Out := loopS nl (fi19.lp 6) (fun env os nx => exec (cx K) N nl fi19 (subC c19 [1, 1, 0, 1, 0, 0, 1, 0, 0, 1, 0, 0]) env os (kLoop nx (kBlock 2 (kBlock 1 (kSeq (exec (cx K) N nl fi19 (subC c19 [1, 1, 0, 1, 0, 0, 1, 1])) (fi19.jn 4) (kLoop (bk19_3 K N nl m3) (kBlock 0 (kSeq (exec (cx K) N nl fi19 (subC c19 [1, 1, 1])) (fi19.jn 10) (kEnd tab [] nl rs19))))))))) m6 [(0, x0), (1, x1), (5, x5), (6, x6), (7, x7)] os
noncomputable def J19_7 (K : Nat → List SV → List SO → Out) (N nl : Nat) (m3 m6 : Nat) (x0 x1 x5 x6 x7 : SV) (os : List SO) : Out := exec (cx K) N nl fi19 (subC c19 [1, 1, 0, 1, 0, 0, 1, 0, 0, 1, 0, 0, 1, 1]) [(0, x0), (1, x1), (5, x5), (6, x6), (7, x7)] os (kLoop (bk19_6 K N nl m3 m6) (kBlock 2 (kBlock 1 (kSeq (exec (cx K) N nl fi19 (subC c19 [1, 1, 0, 1, 0, 0, 1, 1])) (fi19.jn 4) (kLoop (bk19_3 K N nl m3) (kBlock 0 (kSeq (exec (cx K) N nl fi19 (subC c19 [1, 1, 1])) (fi19.jn 10) (kEnd tab [] nl rs19))))))))
noncomputable def LB19_3 (K : Nat → List SV → List SO → Out) (N nl : Nat) (m3 : Nat) (x0 x1 x5 x6 : SV) (os : List SO) : Out :=
 bd (lenO tab 23 os x0) fun v1 o1 =>
 bd (ret1 (binS tab .lss 3 x6 v1) o1) fun v2 o2 =>
 condS v2 (L19_6 K N nl m3 N x0 x1 x5 x6 (SV.v (.int .i64 0)) o2)
 (retV tab nl o2 (resC1 (some x5) (some [])))
noncomputable def LB19_6 (K : Nat → List SV → List SO → Out) (N nl : Nat) (m3 : Nat) (m6 : Nat) (x0 x1 x5 x6 x7 : SV) (os : List SO) : Out :=
 bd (lenO tab 23 os x1) fun v3 o3 =>
 bd (ret1 (binS tab .lss 3 x7 v3) o3) fun v4 o4 =>
 condS v4 (bd (ret1 (indexAddrS tab o4 23 x0 x6) o4) fun v5 o5 =>
 bd (ret1 (loadS tab o5 3 v5) o5) fun v6 o6 =>
 bd (ret1 (indexAddrS tab o6 23 x1 x7) o6) fun v7 o7 =>
 bd (ret1 (loadS tab o7 3 v7) o7) fun v8 o8 =>
 bd (ret1 (binS tab .eql 3 v6 v8) o8) fun v9 o9 =>
 condS v9 (bd (ret1 (binS tab .add 3 x5 (SV.v (.int .i64 1))) o9) fun v10 o10 =>
 J19_7 K N nl m3 m6 x0 x1 v10 x6 x7 o10)
 (J19_7 K N nl m3 m6 x0 x1 x5 x6 x7 o9))
 (bd (ret1 (binS tab .add 3 x6 (SV.v (.int .i64 1))) o4) fun v11 o11 =>
 L19_3 K N nl m3 x0 x1 x5 v11 o11)
noncomputable def JB19_7 (K : Nat → List SV → List SO → Out) (N nl : Nat) (m3 m6 : Nat) (x0 x1 x5 x6 x7 : SV) (os : List SO) : Out :=
 bd (ret1 (binS tab .add 3 x7 (SV.v (.int .i64 1))) os) fun v12 o12 =>
 L19_6 K N nl m3 m6 x0 x1 x5 x6 v12 o12
noncomputable def X19 (K : Nat → List SV → List SO → Out) (N nl : Nat) (x0 x1 : SV) (os : List SO) : Out := exec (cx K) N nl fi19 c19 [(0, x0), (1, x1)] os (kEnd tab [] nl rs19)
noncomputable def B19 (K : Nat → List SV → List SO → Out) (N nl : Nat) (x0 x1 : SV) (os : List SO) : Out :=
 L19_3 K N nl N x0 x1 (SV.v (.int .i64 0)) (SV.v (.int .i64 0)) os
noncomputable def X20 (K : Nat → List SV → List SO → Out) (N nl : Nat) (x0 : SV) (os : List SO) : Out := exec (cx K) N nl fi20 c20 [(0, x0)] os (kEnd tab [] nl rs20)
noncomputable def B20 (K : Nat → List SV → List SO → Out) (N nl : Nat) (x0 : SV) (os : List SO) : Out :=
 bd (boxS tab os 25 (some x0)) fun v1 o1 =>
 bd (allocS tab o1 35) fun v2 o2 =>
 bd (ret1 (loadS tab o2 25 v1) o2) fun v3 o3 =>
 bd (callS ⟨tab, ownF, K⟩ o3 17 [v3]) fun v4 o4 =>
 bd (ret1 (unS .not v4) o4) fun v5 o5 =>
 condS v5 (bd (buildS tab o5 35 []) fun v6 o6 =>
 bd (storeO tab o6 35 v2 (some v6)) fun v7 o7 =>
 retV tab nl o7 (resC1 (loadS tab o7 35 v2) (resC1 (some (SV.v (.bool false))) (some []))))
 (bd (ret1 (loadS tab o5 25 v1) o5) fun v8 o8 =>
 bd (callS ⟨tab, ownF, K⟩ o8 21 [v8]) fun v9 o9 =>
 bd (buildS tab o9 35 [(0, (some v9))]) fun v10 o10 =>
 bd (storeO tab o10 35 v2 (some v10)) fun v11 o11 =>
 retV tab nl o11 (resC1 (loadS tab o11 35 v2) (resC1 (some (SV.v (.bool true))) (some []))))
noncomputable def X21 (K : Nat → List SV → List SO → Out) (N nl : Nat) (x0 : SV) (os : List SO) : Out := exec (cx K) N nl fi21 c21 [(0, x0)] os (kEnd tab [] nl rs21)
noncomputable def B21 (K : Nat → List SV → List SO → Out) (N nl : Nat) (x0 : SV) (os : List SO) : Out :=
 bd (boxS tab os 25 (some x0)) fun v1 o1 =>
 bd (allocS tab o1 25) fun v2 o2 =>
 bd (buildSliceS tab o2 23 0 []) fun v3 o3 =>
 bd (ret1 (fieldAddrS tab 25 v1 1) o3) fun v4 o4 =>
 bd (ret1 (loadS tab o4 23 v4) o4) fun v5 o5 =>
 bd (appendS tab o5 23 23 v3 v5) fun v6 o6 =>
 bd (ret1 (fieldAddrS tab 25 v1 1) o6) fun v7 o7 =>
 bd (storeO tab o7 23 v7 (some v6)) fun v8 o8 =>
 bd (ret1 (loadS tab o8 25 v1) o8) fun v9 o9 =>
 bd (storeO tab o9 25 v2 (some v9)) fun v10 o10 =>
 retV tab nl o10 (resC1 (loadS tab o10 25 v2) (some []))
noncomputable def X22 (K : Nat → List SV → List SO → Out) (N nl : Nat) (os : List SO) : Out := exec (cx K) N nl fi22 c22 [] os (kEnd tab [0, 1, 3] nl rs22)
noncomputable def B22 (K : Nat → List SV → List SO → Out) (N nl : Nat) (os : List SO) : Out :=
 bd (allocS tab os 37) fun v1 o1 =>
 bd (nilSl tab o1 30) fun v2 o2 =>
 bd (callS ⟨tab, ownF, K⟩ o2 46 [(nilA tab 30)]) fun v3 o3 =>
 bd (nilSl tab o3 30) fun v4 o4 =>
 bd (buildS tab o4 37 [(0, (some v2)), (1, (some v3)), (3, (some v4))]) fun v5 o5 =>
 bd (storeO tab o5 37 v1 (some v5)) fun v6 o6 =>
 retP tab [0, 1, 3] nl o6 (resC1 (loadS tab o6 37 v1) (some []))
noncomputable def X23 (K : Nat → List SV → List SO → Out) (N nl : Nat) (x0 : SV) (os : List SO) : Out := exec (cx K) N nl fi23 c23 [(0, x0)] os (kEnd tab [] nl rs23)
noncomputable def B23 (K : Nat → List SV → List SO → Out) (N nl : Nat) (x0 : SV) (os : List SO) : Out :=
 bd (boxS tab os 25 (some x0)) fun v1 o1 =>
 bd (ret1 (fieldAddrS tab 25 v1 0) o1) fun v2 o2 =>
 bd (ret1 (loadS tab o2 3 v2) o2) fun v3 o3 =>
 bd (callS ⟨tab, ownF, K⟩ o3 35 [v3, (SV.v (.int .i64 1)), (SV.v (.int .i64 9))]) fun v4 o4 =>
 bd (gd v4 true (ret1 (fieldAddrS tab 25 v1 1) o4) o4) fun v5 o5 =>
 bd (gd v4 true (ret1 (loadS tab o5 23 v5) o5) o5) fun v6 o6 =>
 bd (gd v4 true (callS ⟨tab, ownF, K⟩ o6 24 [v6]) o6) fun v7 o7 =>
 bd (ret1 (pickS v4 v7 (SV.v (.bool false))) o7) fun v8 o8 =>
 bd (gd v8 true (ret1 (fieldAddrS tab 25 v1 2) o8) o8) fun v9 o9 =>
 bd (gd v8 true (ret1 (loadS tab o9 3 v9) o9) o9) fun v10 o10 =>
 bd (gd v8 true (ret1 (fieldAddrS tab 25 v1 1) o10) o10) fun v11 o11 =>
 bd (gd v8 true (ret1 (loadS tab o11 23 v11) o11) o11) fun v12 o12 =>
 bd (gd v8 true (lenO tab 23 o12 v12) o12) fun v13 o13 =>
 bd (gd v8 true (callS ⟨tab, ownF, K⟩ o13 35 [v10, (SV.v (.int .i64 1)), v13]) o13) fun v14 o14 =>
 bd (ret1 (pickS v8 v14 (SV.v (.bool false))) o14) fun v15 o15 =>
 retV tab nl o15 (resC1 (some v15) (some []))
noncomputable def bk24_2 (K : Nat → List SV → List SO → Out) (N nl : Nat) (m2 : Nat) : Env → List SO → Out := fun env os => loopS nl (fi24.lp 2) (fun env os nx => exec (cx K) N nl fi24 (subC c24 [1, 0, 1, 0, 0]) env os (kLoop nx (kBlock 0 (kSeq (exec (cx K) N nl fi24 (subC c24 [1, 1])) (fi24.jn 7) (kEnd tab [] nl rs24))))) m2 (killS (fi24.lp 2).alive env) os
noncomputable def L24_2 (K : Nat → List SV → List SO → Out) (N nl : Nat) (m2 : Nat) (x0 x5 x6 x7 : SV) (os : List SO) : Out := loopS nl (fi24.lp 2) (fun env os nx => exec (cx K) N nl fi24 (subC c24 [1, 0, 1, 0, 0]) env os (kLoop nx (kBlock 0 (kSeq (exec (cx K) N nl fi24 (subC c24 [1, 1])) (fi24.jn 7) (kEnd tab [] nl rs24))))) m2 [(0, x0), (5, x5), (6, x6), (7, x7)] os
noncomputable def LB24_2 (K : Nat → List SV → List SO → Out) (N nl : Nat) (m2 : Nat) (x0 x5 x6 x7 : SV) (os : List SO) : Out :=
 bd (ret1 (binS tab .lss 3 x7 x6) os) fun v2 o2 =>
 condS v2 (bd (ret1 (indexAddrS tab o2 23 x5 x7) o2) fun v3 o3 =>
 bd (ret1 (loadS tab o3 3 v3) o3) fun v4 o4 =>
 bd (callS ⟨tab, ownF, K⟩ o4 35 [v4, (SV.v (.int .i64 1)), (SV.v (.int .i64 6))]) fun v5 o5 =>
 bd (ret1 (unS .not v5) o5) fun v6 o6 =>
 bd (gd v6 false (some (x7, o6)) o6) fun v7 o7 =>
 bd (gd v6 false (ret1 (binS tab .gtr 3 v7 (SV.v (.int .i64 0))) o7) o7) fun v8 o8 =>
 bd (gd v6 false (some (v8, o8)) o8) fun v9 o9 =>
 bd (gd v9 true (some (v4, o9)) o9) fun v10 o10 =>
 bd (gd v9 true (some (x0, o10)) o10) fun v11 o11 =>
 bd (gd v9 true (some (x7, o11)) o11) fun v12 o12 =>
 bd (gd v9 true (ret1 (binS tab .sub 3 v12 (SV.v (.int .i64 1))) o12) o12) fun v13 o13 =>
 bd (gd v9 true (ret1 (indexAddrS tab o13 23 v11 v13) o13) o13) fun v14 o14 =>
 bd (gd v9 true (ret1 (loadS tab o14 3 v14) o14) o14) fun v15 o15 =>
 bd (gd v9 true (ret1 (binS tab .leq 3 v10 v15) o15) o15) fun v16 o16 =>
 bd (gd v6 false (ret1 (pickS v9 v16 (SV.v (.bool false))) o16) o16) fun v17 o17 =>
 bd (ret1 (pickS v6 (SV.v (.bool true)) v17) o17) fun v18 o18 =>
 condS v18 (retV tab nl o18 (resC1 (some (SV.v (.bool false))) (some [])))
 (bd (ret1 (binS tab .add 3 x7 (SV.v (.int .i64 1))) o18) fun v19 o19 =>
 L24_2 K N nl m2 x0 x5 x6 v19 o19))
 (retV tab nl o2 (resC1 (some (SV.v (.bool true))) (some [])))
noncomputable def X24 (K : Nat → List SV → List SO → Out) (N nl : Nat) (x0 : SV) (os : List SO) : Out := exec (cx K) N nl fi24 c24 [(0, x0)] os (kEnd tab [] nl rs24)
noncomputable def B24 (K : Nat → List SV → List SO → Out) (N nl : Nat) (x0 : SV) (os : List SO) : Out :=
 bd (lenO tab 23 os x0) fun v1 o1 =>
 L24_2 K N nl N x0 x0 v1 (SV.v (.int .i64 0)) o1
noncomputable def X25 (K : Nat → List SV → List SO → Out) (N nl : Nat) (x0 x1 : SV) (os : List SO) : Out := exec (cx K) N nl fi25 c25 [(0, x0), (1, x1)] os (kEnd tab [] nl rs25)
noncomputable def B25 (K : Nat → List SV → List SO → Out) (N nl : Nat) (x0 x1 : SV) (os : List SO) : Out :=
 bd (boxS tab os 25 (some x0)) fun v1 o1 =>
 bd (ret1 (fieldAddrS tab 25 v1 1) o1) fun v2 o2 =>
 bd (ret1 (loadS tab o2 23 v2) o2) fun v3 o3 =>
 dchk (keepOk ⟨tab, ownF, K⟩ o3 (SV.fn 44 []) [v3, x1] [] true) <|
 bd (callS ⟨tab, ownF, K⟩ o3 44 [v3, x1]) fun v4 o4 =>
 bd (ret1 (fieldAddrS tab 25 v1 2) o4) fun v5 o5 =>
 dchk (isBox v5) <|
 bd (ret1 (loadS tab o5 3 v5) o5) fun v6 o6 =>
 bd (ret1 (binS tab .lss 3 v4 v6) o6) fun v7 o7 =>
 retV tab nl o7 (resC1 (some v7) (some []))
noncomputable def X26 (K : Nat → List SV → List SO → Out) (N nl : Nat) (x0 : SV) (os : List SO) : Out := exec (cx K) N nl fi26 c26 [(0, x0)] os (kEnd tab [] nl rs26)
noncomputable def B26 (K : Nat → List SV → List SO → Out) (N nl : Nat) (x0 : SV) (os : List SO) : Out :=
 bd (boxS tab os 25 (some x0)) fun v1 o1 =>
 bd (allocS tab o1 35) fun v2 o2 =>
 bd (ret1 (loadS tab o2 25 v1) o2) fun v3 o3 =>
 bd (callS ⟨tab, ownF, K⟩ o3 23 [v3]) fun v4 o4 =>
 bd (ret1 (unS .not v4) o4) fun v5 o5 =>
 condS v5 (bd (buildS tab o5 35 []) fun v6 o6 =>
 bd (storeO tab o6 35 v2 (some v6)) fun v7 o7 =>
 retV tab nl o7 (resC1 (loadS tab o7 35 v2) (resC1 (some (SV.v (.bool false))) (some []))))
 (bd (ret1 (loadS tab o5 25 v1) o5) fun v8 o8 =>
 bd (callS ⟨tab, ownF, K⟩ o8 27 [v8]) fun v9 o9 =>
 bd (buildS tab o9 35 [(0, (some v9))]) fun v10 o10 =>
 bd (storeO tab o10 35 v2 (some v10)) fun v11 o11 =>
 retV tab nl o11 (resC1 (loadS tab o11 35 v2) (resC1 (some (SV.v (.bool true))) (some []))))
noncomputable def X27 (K : Nat → List SV → List SO → Out) (N nl : Nat) (x0 : SV) (os : List SO) : Out := exec (cx K) N nl fi27 c27 [(0, x0)] os (kEnd tab [] nl rs27)
noncomputable def B27 (K : Nat → List SV → List SO → Out) (N nl : Nat) (x0 : SV) (os : List SO) : Out :=
 bd (boxS tab os 25 (some x0)) fun v1 o1 =>
 bd (allocS tab o1 25) fun v2 o2 =>
 bd (ret1 (fieldAddrS tab 25 v1 0) o2) fun v3 o3 =>
 dchk (isBox v3) <|
 bd (ret1 (loadS tab o3 3 v3) o3) fun v4 o4 =>
 bd (ret1 (fieldAddrS tab 25 v1 1) o4) fun v5 o5 =>
 bd (ret1 (loadS tab o5 23 v5) o5) fun v6 o6 =>
 dchk (keepOk ⟨tab, ownF, K⟩ o6 (SV.fn 28 []) [v6] [v3] true) <|
 bd (callS ⟨tab, ownF, K⟩ o6 28 [v6]) fun v7 o7 =>
 bd (ret1 (fieldAddrS tab 25 v1 2) o7) fun v8 o8 =>
 dchk (isBox v8) <|
 bd (ret1 (loadS tab o8 3 v8) o8) fun v9 o9 =>
 bd (buildS tab o9 25 [(0, (some v4)), (1, (some v7)), (2, (some v9))]) fun v10 o10 =>
 bd (storeO tab o10 25 v2 (some v10)) fun v11 o11 =>
 retV tab nl o11 (resC1 (loadS tab o11 25 v2) (some []))
noncomputable def X29 (K : Nat → List SV → List SO → Out) (N nl : Nat) (os : List SO) : Out := exec (cx K) N nl fi29 c29 [] os (kEnd tab [0, 1, 3] nl rs29)
noncomputable def B29 (K : Nat → List SV → List SO → Out) (N nl : Nat) (os : List SO) : Out :=
 bd (allocS tab os 37) fun v1 o1 =>
 bd (buildSliceS tab o1 23 1 [(0, (SV.v (.int .i64 (-1))))]) fun v2 o2 =>
 bd (callS ⟨tab, ownF, K⟩ o2 47 [v2, (SV.v (.int .i64 6))]) fun v3 o3 =>
 bd (buildS tab o3 37 [(1, (some v3))]) fun v4 o4 =>
 bd (storeO tab o4 37 v1 (some v4)) fun v5 o5 =>
 retP tab [0, 1, 3] nl o5 (resC1 (loadS tab o5 37 v1) (some []))
noncomputable def bk30_4 (K : Nat → List SV → List SO → Out) (N nl : Nat) (m4 : Nat) : Env → List SO → Out := fun env os => loopS nl (fi30.lp 4) (fun env os nx => exec (cx K) N nl fi30 (subC c30 [1, 1, 0, 1, 0, 0]) env os (kLoop nx (kBlock 0 (kSeq (exec (cx K) N nl fi30 (subC c30 [1, 1, 1])) (fi30.jn 8) (kEnd tab [] nl rs30))))) m4 (killS (fi30.lp 4).alive env) os
noncomputable def L30_4 (K : Nat → List SV → List SO → Out) (N nl : Nat) (m4 : Nat) (x0 x1 x5 : SV) (os : List SO) : Out := loopS nl (fi30.lp 4) (fun env os nx => exec (cx K) N nl fi30 (subC c30 [1, 1, 0, 1, 0, 0]) env os (kLoop nx (kBlock 0 (kSeq (exec (cx K) N nl fi30 (subC c30 [1, 1, 1])) (fi30.jn 8) (kEnd tab [] nl rs30))))) m4 [(0, x0), (1, x1), (5, x5)] os
noncomputable def LB30_4 (K : Nat → List SV → List SO → Out) (N nl : Nat) (m4 : Nat) (x0 x1 x5 : SV) (os : List SO) : Out :=
 bd (lenO tab 30 os x0) fun v4 o4 =>
 bd (ret1 (binS tab .lss 3 x5 v4) o4) fun v5 o5 =>
 condS v5 (bd (ret1 (indexAddrS tab o5 30 x0 x5) o5) fun v6 o6 =>
 bd (ret1 (loadS tab o6 84 v6) o6) fun v7 o7 =>
 bd (ret1 (indexAddrS tab o7 30 x1 x5) o7) fun v8 o8 =>
 bd (ret1 (loadS tab o8 84 v8) o8) fun v9 o9 =>
 bd (callS ⟨tab, ownF, K⟩ o9 48 [v7, v9]) fun v10 o10 =>
 bd (ret1 (unS .not v10) o10) fun v11 o11 =>
 condS v11 (retV tab nl o11 (resC1 (some (SV.v (.bool false))) (some [])))
 (bd (ret1 (binS tab .add 3 x5 (SV.v (.int .i64 1))) o11) fun v12 o12 =>
 L30_4 K N nl m4 x0 x1 v12 o12))
 (retV tab nl o5 (resC1 (some (SV.v (.bool true))) (some [])))
noncomputable def X30 (K : Nat → List SV → List SO → Out) (N nl : Nat) (x0 x1 : SV) (os : List SO) : Out := exec (cx K) N nl fi30 c30 [(0, x0), (1, x1)] os (kEnd tab [] nl rs30)
noncomputable def B30 (K : Nat → List SV → List SO → Out) (N nl : Nat) (x0 x1 : SV) (os : List SO) : Out :=
 bd (lenO tab 30 os x0) fun v1 o1 =>
 bd (lenO tab 30 o1 x1) fun v2 o2 =>
 bd (ret1 (binS tab .neq 3 v1 v2) o2) fun v3 o3 =>
 condS v3 (retV tab nl o3 (resC1 (some (SV.v (.bool false))) (some [])))
 (L30_4 K N nl N x0 x1 (SV.v (.int .i64 0)) o3)
noncomputable def bk31_4 (K : Nat → List SV → List SO → Out) (N nl : Nat) (m4 : Nat) : Env → List SO → Out := fun env os => loopS nl (fi31.lp 4) (fun env os nx => exec (cx K) N nl fi31 (subC c31 [1, 1, 0, 1, 0, 0]) env os (kLoop nx (kBlock 0 (kSeq (exec (cx K) N nl fi31 (subC c31 [1, 1, 1])) (fi31.jn 8) (kEnd tab [] nl rs31))))) m4 (killS (fi31.lp 4).alive env) os
noncomputable def L31_4 (K : Nat → List SV → List SO → Out) (N nl : Nat) (m4 : Nat) (x0 x1 x5 : SV) (os : List SO) : Out := loopS nl (fi31.lp 4) (fun env os nx => exec (cx K) N nl fi31 (subC c31 [1, 1, 0, 1, 0, 0]) env os (kLoop nx (kBlock 0 (kSeq (exec (cx K) N nl fi31 (subC c31 [1, 1, 1])) (fi31.jn 8) (kEnd tab [] nl rs31))))) m4 [(0, x0), (1, x1), (5, x5)] os
noncomputable def LB31_4 (K : Nat → List SV → List SO → Out) (N nl : Nat) (m4 : Nat) (x0 x1 x5 : SV) (os : List SO) : Out :=
 bd (lenO tab 23 os x0) fun v4 o4 =>
 bd (ret1 (binS tab .lss 3 x5 v4) o4) fun v5 o5 =>
 condS v5 (bd (ret1 (indexAddrS tab o5 23 x0 x5) o5) fun v6 o6 =>
 bd (ret1 (loadS tab o6 3 v6) o6) fun v7 o7 =>
 bd (ret1 (indexAddrS tab o7 23 x1 x5) o7) fun v8 o8 =>
 bd (ret1 (loadS tab o8 3 v8) o8) fun v9 o9 =>
 bd (ret1 (binS tab .neq 3 v7 v9) o9) fun v10 o10 =>
 condS v10 (retV tab nl o10 (resC1 (some (SV.v (.bool false))) (some [])))
 (bd (ret1 (binS tab .add 3 x5 (SV.v (.int .i64 1))) o10) fun v11 o11 =>
 L31_4 K N nl m4 x0 x1 v11 o11))
 (retV tab nl o5 (resC1 (some (SV.v (.bool true))) (some [])))
noncomputable def X31 (K : Nat → List SV → List SO → Out) (N nl : Nat) (x0 x1 : SV) (os : List SO) : Out := exec (cx K) N nl fi31 c31 [(0, x0), (1, x1)] os (kEnd tab [] nl rs31)
noncomputable def B31 (K : Nat → List SV → List SO → Out) (N nl : Nat) (x0 x1 : SV) (os : List SO) : Out :=
 bd (lenO tab 23 os x0) fun v1 o1 =>
 bd (lenO tab 23 o1 x1) fun v2 o2 =>
 bd (ret1 (binS tab .neq 3 v1 v2) o2) fun v3 o3 =>
 condS v3 (retV tab nl o3 (resC1 (some (SV.v (.bool false))) (some [])))
 (L31_4 K N nl N x0 x1 (SV.v (.int .i64 0)) o3)
noncomputable def X32 (K : Nat → List SV → List SO → Out) (N nl : Nat) (x0 x1 : SV) (os : List SO) : Out := exec (cx K) N nl fi32 c32 [(0, x0), (1, x1)] os (kEnd tab [] nl rs32)
noncomputable def B32 (K : Nat → List SV → List SO → Out) (N nl : Nat) (x0 x1 : SV) (os : List SO) : Out :=
 bd (boxS tab os 33 (some x0)) fun v1 o1 =>
 bd (boxS tab o1 33 (some x1)) fun v2 o2 =>
 bd (ret1 (fieldAddrS tab 33 v1 0) o2) fun v3 o3 =>
 bd (ret1 (loadS tab o3 3 v3) o3) fun v4 o4 =>
 bd (ret1 (fieldAddrS tab 33 v2 0) o4) fun v5 o5 =>
 bd (ret1 (loadS tab o5 3 v5) o5) fun v6 o6 =>
 bd (ret1 (binS tab .eql 3 v4 v6) o6) fun v7 o7 =>
 bd (gd v7 true (ret1 (fieldAddrS tab 33 v1 1) o7) o7) fun v8 o8 =>
 bd (gd v7 true (ret1 (loadS tab o8 3 v8) o8) o8) fun v9 o9 =>
 bd (gd v7 true (ret1 (fieldAddrS tab 33 v2 1) o9) o9) fun v10 o10 =>
 bd (gd v7 true (ret1 (loadS tab o10 3 v10) o10) o10) fun v11 o11 =>
 bd (gd v7 true (ret1 (binS tab .eql 3 v9 v11) o11) o11) fun v12 o12 =>
 bd (ret1 (pickS v7 v12 (SV.v (.bool false))) o12) fun v13 o13 =>
 bd (gd v13 true (ret1 (fieldAddrS tab 33 v1 2) o13) o13) fun v14 o14 =>
 bd (gd v13 true (ret1 (loadS tab o14 31 v14) o14) o14) fun v15 o15 =>
 bd (gd v13 true (ret1 (fieldAddrS tab 33 v2 2) o15) o15) fun v16 o16 =>
 bd (gd v13 true (ret1 (loadS tab o16 31 v16) o16) o16) fun v17 o17 =>
 bd (gd v13 true (callS ⟨tab, ownF, K⟩ o17 49 [v15, v17]) o17) fun v18 o18 =>
 bd (ret1 (pickS v13 v18 (SV.v (.bool false))) o18) fun v19 o19 =>
 retV tab nl o19 (resC1 (some v19) (some []))
noncomputable def X33 (K : Nat → List SV → List SO → Out) (N nl : Nat) (x0 x1 : SV) (os : List SO) : Out := exec (cx K) N nl fi33 c33 [(0, x0), (1, x1)] os (kEnd tab [] nl rs33)
noncomputable def B33 (K : Nat → List SV → List SO → Out) (N nl : Nat) (x0 x1 : SV) (os : List SO) : Out :=
 bd (boxS tab os 35 (some x0)) fun v1 o1 =>
 bd (boxS tab o1 35 (some x1)) fun v2 o2 =>
 bd (ret1 (fieldAddrS tab 35 v1 0) o2) fun v3 o3 =>
 bd (ret1 (loadS tab o3 25 v3) o3) fun v4 o4 =>
 bd (ret1 (fieldAddrS tab 35 v2 0) o4) fun v5 o5 =>
 bd (ret1 (loadS tab o5 25 v5) o5) fun v6 o6 =>
 bd (callS ⟨tab, ownF, K⟩ o6 9 [v4, v6]) fun v7 o7 =>
 bd (gd v7 true (ret1 (fieldAddrS tab 35 v1 1) o7) o7) fun v8 o8 =>
 bd (gd v7 true (ret1 (loadS tab o8 4 v8) o8) o8) fun v9 o9 =>
 bd (gd v7 true (ret1 (fieldAddrS tab 35 v2 1) o9) o9) fun v10 o10 =>
 bd (gd v7 true (ret1 (loadS tab o10 4 v10) o10) o10) fun v11 o11 =>
 bd (gd v7 true (ret1 (binS tab .eql 4 v9 v11) o11) o11) fun v12 o12 =>
 bd (ret1 (pickS v7 v12 (SV.v (.bool false))) o12) fun v13 o13 =>
 bd (gd v13 true (ret1 (fieldAddrS tab 35 v1 2) o13) o13) fun v14 o14 =>
 bd (gd v13 true (ret1 (loadS tab o14 33 v14) o14) o14) fun v15 o15 =>
 bd (gd v13 true (ret1 (fieldAddrS tab 35 v2 2) o15) o15) fun v16 o16 =>
 bd (gd v13 true (ret1 (loadS tab o16 33 v16) o16) o16) fun v17 o17 =>
 bd (gd v13 true (callS ⟨tab, ownF, K⟩ o17 32 [v15, v17]) o17) fun v18 o18 =>
 bd (ret1 (pickS v13 v18 (SV.v (.bool false))) o18) fun v19 o19 =>
 retV tab nl o19 (resC1 (some v19) (some []))
noncomputable def X34 (K : Nat → List SV → List SO → Out) (N nl : Nat) (x0 x1 : SV) (os : List SO) : Out := exec (cx K) N nl fi34 c34 [(0, x0), (1, x1)] os (kEnd tab [] nl rs34)
noncomputable def B34 (K : Nat → List SV → List SO → Out) (N nl : Nat) (x0 x1 : SV) (os : List SO) : Out :=
 bd (boxS tab os 37 (some x0)) fun v1 o1 =>
 bd (boxS tab o1 37 (some x1)) fun v2 o2 =>
 bd (ret1 (fieldAddrS tab 37 v1 0) o2) fun v3 o3 =>
 bd (ret1 (loadS tab o3 30 v3) o3) fun v4 o4 =>
 bd (ret1 (fieldAddrS tab 37 v2 0) o4) fun v5 o5 =>
 bd (ret1 (loadS tab o5 30 v5) o5) fun v6 o6 =>
 bd (callS ⟨tab, ownF, K⟩ o6 30 [v4, v6]) fun v7 o7 =>
 bd (gd v7 true (ret1 (fieldAddrS tab 37 v1 1) o7) o7) fun v8 o8 =>
 bd (gd v7 true (ret1 (loadS tab o8 23 v8) o8) o8) fun v9 o9 =>
 bd (gd v7 true (ret1 (fieldAddrS tab 37 v2 1) o9) o9) fun v10 o10 =>
 bd (gd v7 true (ret1 (loadS tab o10 23 v10) o10) o10) fun v11 o11 =>
 bd (gd v7 true (callS ⟨tab, ownF, K⟩ o11 31 [v9, v11]) o11) fun v12 o12 =>
 bd (ret1 (pickS v7 v12 (SV.v (.bool false))) o12) fun v13 o13 =>
 bd (gd v13 true (ret1 (fieldAddrS tab 37 v1 2) o13) o13) fun v14 o14 =>
 bd (gd v13 true (ret1 (loadS tab o14 4 v14) o14) o14) fun v15 o15 =>
 bd (gd v13 true (ret1 (fieldAddrS tab 37 v2 2) o15) o15) fun v16 o16 =>
 bd (gd v13 true (ret1 (loadS tab o16 4 v16) o16) o16) fun v17 o17 =>
 bd (gd v13 true (ret1 (binS tab .eql 4 v15 v17) o17) o17) fun v18 o18 =>
 bd (ret1 (pickS v13 v18 (SV.v (.bool false))) o18) fun v19 o19 =>
 bd (gd v19 true (ret1 (fieldAddrS tab 37 v1 3) o19) o19) fun v20 o20 =>
 bd (gd v19 true (ret1 (loadS tab o20 30 v20) o20) o20) fun v21 o21 =>
 bd (gd v19 true (ret1 (fieldAddrS tab 37 v2 3) o21) o21) fun v22 o22 =>
 bd (gd v19 true (ret1 (loadS tab o22 30 v22) o22) o22) fun v23 o23 =>
 bd (gd v19 true (callS ⟨tab, ownF, K⟩ o23 30 [v21, v23]) o23) fun v24 o24 =>
 bd (ret1 (pickS v19 v24 (SV.v (.bool false))) o24) fun v25 o25 =>
 retV tab nl o25 (resC1 (some v25) (some []))
noncomputable def X35 (K : Nat → List SV → List SO → Out) (N nl : Nat) (x0 x1 x2 : SV) (os : List SO) : Out := exec (cx K) N nl fi35 c35 [(0, x0), (1, x1), (2, x2)] os (kEnd tab [] nl rs35)
noncomputable def B35 (K : Nat → List SV → List SO → Out) (N nl : Nat) (x0 x1 x2 : SV) (os : List SO) : Out :=
 bd (ret1 (binS tab .geq 3 x0 x1) os) fun v1 o1 =>
 bd (gd v1 true (some (x0, o1)) o1) fun v2 o2 =>
 bd (gd v1 true (some (x2, o2)) o2) fun v3 o3 =>
 bd (gd v1 true (ret1 (binS tab .leq 3 v2 v3) o3) o3) fun v4 o4 =>
 bd (ret1 (pickS v1 v4 (SV.v (.bool false))) o4) fun v5 o5 =>
 retV tab nl o5 (resC1 (some v5) (some []))
noncomputable def bk36_2 (K : Nat → List SV → List SO → Out) (N nl : Nat) (m2 : Nat) : Env → List SO → Out := fun env os => loopS nl (fi36.lp 2) (fun env os nx => exec (cx K) N nl fi36 (subC c36 [1, 0, 1, 0, 0]) env os (kLoop nx (kBlock 0 (kSeq (exec (cx K) N nl fi36 (subC c36 [1, 1])) (fi36.jn 7) (kEnd tab [] nl rs36))))) m2 (killS (fi36.lp 2).alive env) os
noncomputable def L36_2 (K : Nat → List SV → List SO → Out) (N nl : Nat) (m2 : Nat) (x1 x6 x7 x8 : SV) (os : List SO) : Out := loopS nl (fi36.lp 2) (fun env os nx => exec (cx K) N nl fi36 (subC c36 [1, 0, 1, 0, 0]) env os (kLoop nx (kBlock 0 (kSeq (exec (cx K) N nl fi36 (subC c36 [1, 1])) (fi36.jn 7) (kEnd tab [] nl rs36))))) m2 [(1, x1), (6, x6), (7, x7), (8, x8)] os
noncomputable def G36_2 (K : Nat → List SV → List SO → Out) (N nl : Nat) (m2 : Nat) (xs : List SV) (os : List SO) : Out := (fun env os nx => exec (cx K) N nl fi36 (subC c36 [1, 0, 1, 0, 0]) env os (kLoop nx (kBlock 0 (kSeq (exec (cx K) N nl fi36 (subC c36 [1, 1])) (fi36.jn 7) (kEnd tab [] nl rs36))))) (zipE [1, 6, 7, 8] xs) os (bk36_2 K N nl m2)
noncomputable def GB36_2 (K : Nat → List SV → List SO → Out) (N nl : Nat) (m2 : Nat) (x1 x6 x7 x8 : SV) (os : List SO) : Out :=
 bd (ret1 (binS tab .lss 3 x8 x7) os) fun v5 o5 =>
 condS v5 (bd (ret1 (indexAddrS tab o5 28 x6 x8) o5) fun v6 o6 =>
 bd (ret1 (loadS tab o6 61 v6) o6) fun v7 o7 =>
 bd (allocS tab o7 61) fun v8 o8 =>
 bd (storeO tab o8 61 v8 (some v7)) fun v9 o9 =>
 bd (ret1 (fieldAddrS tab 61 v8 0) o9) fun v10 o10 =>
 bd (ret1 (fieldAddrS tab 25 v10 0) o10) fun v11 o11 =>
 bd (ret1 (loadS tab o11 3 v11) o11) fun v12 o12 =>
 bd (ret1 (binS tab .add 3 x8 (SV.v (.int .i64 1))) o12) fun v13 o13 =>
 bd (ret1 (binS tab .neq 3 v12 v13) o13) fun v14 o14 =>
 bd (gd v14 false (ret1 (fieldAddrS tab 61 v8 0) o14) o14) fun v15 o15 =>
 bd (gd v14 false (ret1 (loadS tab o15 25 v15) o15) o15) fun v16 o16 =>
 bd (gd v14 false (ret1 (fieldAddrS tab 61 v8 1) o16) o16) fun v17 o17 =>
 bd (gd v14 false (ret1 (loadS tab o17 23 v17) o17) o17) fun v18 o18 =>
 bd (gd v14 false (callS ⟨tab, ownF, K⟩ o18 11 [v16, v18]) o18) fun v19 o19 =>
 bd (gd v14 false (ret1 (unS .not v19) o19) o19) fun v20 o20 =>
 bd (ret1 (pickS v14 (SV.v (.bool true)) v20) o20) fun v21 o21 =>
 bd (gd v21 false (ret1 (fieldAddrS tab 61 v8 0) o21) o21) fun v22 o22 =>
 bd (gd v21 false (ret1 (loadS tab o22 25 v22) o22) o22) fun v23 o23 =>
 bd (gd v21 false (ret1 (fieldAddrS tab 39 x1 4) o23) o23) fun v24 o24 =>
 bd (gd v21 false (ret1 (loadS tab o24 23 v24) o24) o24) fun v25 o25 =>
 bd (gd v21 false (callS ⟨tab, ownF, K⟩ o25 25 [v23, v25]) o25) fun v26 o26 =>
 bd (gd v21 false (ret1 (unS .not v26) o26) o26) fun v27 o27 =>
 bd (ret1 (pickS v21 (SV.v (.bool true)) v27) o27) fun v28 o28 =>
 bd (gd v28 false (some (x8, o28)) o28) fun v29 o29 =>
 bd (gd v28 false (ret1 (binS tab .gtr 3 v29 (SV.v (.int .i64 0))) o29) o29) fun v30 o30 =>
 bd (gd v28 false (some (v30, o30)) o30) fun v31 o31 =>
 bd (gd v31 true (ret1 (fieldAddrS tab 39 x1 1) o31) o31) fun v32 o32 =>
 bd (gd v31 true (ret1 (loadS tab o32 28 v32) o32) o32) fun v33 o33 =>
 bd (gd v31 true (some (x8, o33)) o33) fun v34 o34 =>
 bd (gd v31 true (ret1 (binS tab .sub 3 v34 (SV.v (.int .i64 1))) o34) o34) fun v35 o35 =>
 bd (gd v31 true (ret1 (indexAddrS tab o35 28 v33 v35) o35) o35) fun v36 o36 =>
 bd (gd v31 true (ret1 (fieldAddrS tab 61 v36 0) o36) o36) fun v37 o37 =>
 bd (gd v31 true (ret1 (loadS tab o37 25 v37) o37) o37) fun v38 o38 =>
 bd (gd v31 true (ret1 (loadS tab o38 61 v8) o38) o38) fun v39 o39 =>
 bd (gd v31 true (callS ⟨tab, ownF, K⟩ o39 50 [v38, v39]) o39) fun v40 o40 =>
 bd (gd v31 true (ret1 (unS .not v40) o40) o40) fun v41 o41 =>
 bd (gd v28 false (ret1 (pickS v31 v41 (SV.v (.bool false))) o41) o41) fun v42 o42 =>
 bd (ret1 (pickS v28 (SV.v (.bool true)) v42) o42) fun v43 o43 =>
 condS v43 (retV tab nl o43 (resC1 (some (SV.v (.bool false))) (some [])))
 (bd (ret1 (binS tab .add 3 x8 (SV.v (.int .i64 1))) o43) fun v44 o44 =>
 L36_2 K N nl m2 x1 x6 x7 v44 o44))
 (bd (ret1 (fieldAddrS tab 39 x1 1) o5) fun v45 o45 =>
 bd (ret1 (loadS tab o45 28 v45) o45) fun v46 o46 =>
 bd (lenO tab 28 o46 v46) fun v47 o47 =>
 bd (ret1 (binS tab .gtr 3 v47 (SV.v (.int .i64 0))) o47) fun v48 o48 =>
 retV tab nl o48 (resC1 (some v48) (some [])))
noncomputable def X36 (K : Nat → List SV → List SO → Out) (N nl : Nat) (x0 : SV) (os : List SO) : Out := exec (cx K) N nl fi36 c36 [(0, x0)] os (kEnd tab [] nl rs36)
noncomputable def B36 (K : Nat → List SV → List SO → Out) (N nl : Nat) (x0 : SV) (os : List SO) : Out :=
 bd (boxS tab os 39 (some x0)) fun v1 o1 =>
 bd (ret1 (fieldAddrS tab 39 v1 1) o1) fun v2 o2 =>
 bd (ret1 (loadS tab o2 28 v2) o2) fun v3 o3 =>
 bd (lenO tab 28 o3 v3) fun v4 o4 =>
 L36_2 K N nl N v1 v3 v4 (SV.v (.int .i64 0)) o4
noncomputable def bk37_2 (K : Nat → List SV → List SO → Out) (N nl : Nat) (m2 : Nat) : Env → List SO → Out := fun env os => loopS nl (fi37.lp 2) (fun env os nx => exec (cx K) N nl fi37 (subC c37 [1, 0, 1, 0, 0]) env os (kLoop nx (kBlock 0 (kSeq (exec (cx K) N nl fi37 (subC c37 [1, 1])) (fi37.jn 7) (kEnd tab [] nl rs37))))) m2 (killS (fi37.lp 2).alive env) os
noncomputable def L37_2 (K : Nat → List SV → List SO → Out) (N nl : Nat) (m2 : Nat) (x1 x6 x7 x8 : SV) (os : List SO) : Out := loopS nl (fi37.lp 2) (fun env os nx => exec (cx K) N nl fi37 (subC c37 [1, 0, 1, 0, 0]) env os (kLoop nx (kBlock 0 (kSeq (exec (cx K) N nl fi37 (subC c37 [1, 1])) (fi37.jn 7) (kEnd tab [] nl rs37))))) m2 [(1, x1), (6, x6), (7, x7), (8, x8)] os
noncomputable def G37_2 (K : Nat → List SV → List SO → Out) (N nl : Nat) (m2 : Nat) (xs : List SV) (os : List SO) : Out := (fun env os nx => exec (cx K) N nl fi37 (subC c37 [1, 0, 1, 0, 0]) env os (kLoop nx (kBlock 0 (kSeq (exec (cx K) N nl fi37 (subC c37 [1, 1])) (fi37.jn 7) (kEnd tab [] nl rs37))))) (zipE [1, 6, 7, 8] xs) os (bk37_2 K N nl m2)
noncomputable def GB37_2 (K : Nat → List SV → List SO → Out) (N nl : Nat) (m2 : Nat) (x1 x6 x7 x8 : SV) (os : List SO) : Out :=
 bd (ret1 (binS tab .lss 3 x8 x7) os) fun v5 o5 =>
 condS v5 (bd (ret1 (indexAddrS tab o5 29 x6 x8) o5) fun v6 o6 =>
 bd (ret1 (loadS tab o6 69 v6) o6) fun v7 o7 =>
 bd (allocS tab o7 69) fun v8 o8 =>
 bd (storeO tab o8 69 v8 (some v7)) fun v9 o9 =>
 bd (ret1 (fieldAddrS tab 69 v8 0) o9) fun v10 o10 =>
 bd (ret1 (loadS tab o10 33 v10) o10) fun v11 o11 =>
 bd (callS ⟨tab, ownF, K⟩ o11 51 [v11]) fun v12 o12 =>
 bd (ret1 (unS .not v12) o12) fun v13 o13 =>
 bd (gd v13 false (ret1 (fieldAddrS tab 69 v8 1) o13) o13) fun v14 o14 =>
 bd (gd v13 false (ret1 (loadS tab o14 23 v14) o14) o14) fun v15 o15 =>
 bd (gd v13 false (callS ⟨tab, ownF, K⟩ o15 24 [v15]) o15) fun v16 o16 =>
 bd (gd v13 false (ret1 (unS .not v16) o16) o16) fun v17 o17 =>
 bd (ret1 (pickS v13 (SV.v (.bool true)) v17) o17) fun v18 o18 =>
 bd (gd v18 false (ret1 (fieldAddrS tab 69 v8 0) o18) o18) fun v19 o19 =>
 bd (gd v18 false (ret1 (fieldAddrS tab 33 v19 0) o19) o19) fun v20 o20 =>
 bd (gd v18 false (ret1 (loadS tab o20 3 v20) o20) o20) fun v21 o21 =>
 bd (gd v18 false (some (x8, o21)) o21) fun v22 o22 =>
 bd (gd v18 false (ret1 (binS tab .add 3 v22 (SV.v (.int .i64 1))) o22) o22) fun v23 o23 =>
 bd (gd v18 false (ret1 (binS tab .neq 3 v21 v23) o23) o23) fun v24 o24 =>
 bd (ret1 (pickS v18 (SV.v (.bool true)) v24) o24) fun v25 o25 =>
 bd (gd v25 false (ret1 (fieldAddrS tab 69 v8 0) o25) o25) fun v26 o26 =>
 bd (gd v25 false (ret1 (fieldAddrS tab 33 v26 1) o26) o26) fun v27 o27 =>
 bd (gd v25 false (ret1 (loadS tab o27 3 v27) o27) o27) fun v28 o28 =>
 bd (gd v25 false (ret1 (fieldAddrS tab 39 x1 0) o28) o28) fun v29 o29 =>
 bd (gd v25 false (ret1 (loadS tab o29 3 v29) o29) o29) fun v30 o30 =>
 bd (gd v25 false (ret1 (binS tab .add 3 v30 (SV.v (.int .i64 6))) o30) o30) fun v31 o31 =>
 bd (gd v25 false (ret1 (binS tab .gtr 3 v28 v31) o31) o31) fun v32 o32 =>
 bd (ret1 (pickS v25 (SV.v (.bool true)) v32) o32) fun v33 o33 =>
 condS v33 (retV tab nl o33 (resC1 (some (SV.v (.bool false))) (some [])))
 (bd (ret1 (binS tab .add 3 x8 (SV.v (.int .i64 1))) o33) fun v34 o34 =>
 L37_2 K N nl m2 x1 x6 x7 v34 o34))
 (retV tab nl o5 (resC1 (some (SV.v (.bool true))) (some [])))
noncomputable def X37 (K : Nat → List SV → List SO → Out) (N nl : Nat) (x0 : SV) (os : List SO) : Out := exec (cx K) N nl fi37 c37 [(0, x0)] os (kEnd tab [] nl rs37)
noncomputable def B37 (K : Nat → List SV → List SO → Out) (N nl : Nat) (x0 : SV) (os : List SO) : Out :=
 bd (boxS tab os 39 (some x0)) fun v1 o1 =>
 bd (ret1 (fieldAddrS tab 39 v1 2) o1) fun v2 o2 =>
 bd (ret1 (loadS tab o2 29 v2) o2) fun v3 o3 =>
 bd (lenO tab 29 o3 v3) fun v4 o4 =>
 L37_2 K N nl N v1 v3 v4 (SV.v (.int .i64 0)) o4
noncomputable def bk38_2 (K : Nat → List SV → List SO → Out) (N nl : Nat) (m2 : Nat) : Env → List SO → Out := fun env os => loopS nl (fi38.lp 2) (fun env os nx => exec (cx K) N nl fi38 (subC c38 [1, 0, 1, 0, 0]) env os (kLoop nx (kBlock 0 (kSeq (exec (cx K) N nl fi38 (subC c38 [1, 1])) (fi38.jn 7) (kEnd tab [] nl rs38))))) m2 (killS (fi38.lp 2).alive env) os
noncomputable def L38_2 (K : Nat → List SV → List SO → Out) (N nl : Nat) (m2 : Nat) (x0 x5 x6 x7 : SV) (os : List SO) : Out := loopS nl (fi38.lp 2) (fun env os nx => exec (cx K) N nl fi38 (subC c38 [1, 0, 1, 0, 0]) env os (kLoop nx (kBlock 0 (kSeq (exec (cx K) N nl fi38 (subC c38 [1, 1])) (fi38.jn 7) (kEnd tab [] nl rs38))))) m2 [(0, x0), (5, x5), (6, x6), (7, x7)] os
noncomputable def G38_2 (K : Nat → List SV → List SO → Out) (N nl : Nat) (m2 : Nat) (xs : List SV) (os : List SO) : Out := (fun env os nx => exec (cx K) N nl fi38 (subC c38 [1, 0, 1, 0, 0]) env os (kLoop nx (kBlock 0 (kSeq (exec (cx K) N nl fi38 (subC c38 [1, 1])) (fi38.jn 7) (kEnd tab [] nl rs38))))) (zipE [0, 5, 6, 7] xs) os (bk38_2 K N nl m2)
noncomputable def GB38_2 (K : Nat → List SV → List SO → Out) (N nl : Nat) (m2 : Nat) (x0 x5 x6 x7 : SV) (os : List SO) : Out :=
 bd (ret1 (binS tab .lss 3 x7 x6) os) fun v2 o2 =>
 condS v2 (bd (ret1 (indexAddrS tab o2 30 x5 x7) o2) fun v3 o3 =>
 bd (ret1 (loadS tab o3 84 v3) o3) fun v4 o4 =>
 bd (allocS tab o4 84) fun v5 o5 =>
 bd (storeO tab o5 84 v5 (some v4)) fun v6 o6 =>
 bd (ret1 (loadS tab o6 84 v5) o6) fun v7 o7 =>
 bd (callS ⟨tab, ownF, K⟩ o7 52 [v7]) fun v8 o8 =>
 bd (ret1 (unS .not v8) o8) fun v9 o9 =>
 bd (gd v9 false (some (x7, o9)) o9) fun v10 o10 =>
 bd (gd v9 false (ret1 (binS tab .gtr 3 v10 (SV.v (.int .i64 0))) o10) o10) fun v11 o11 =>
 bd (gd v9 false (some (v11, o11)) o11) fun v12 o12 =>
 bd (gd v12 true (some (x0, o12)) o12) fun v13 o13 =>
 bd (gd v12 true (some (x7, o13)) o13) fun v14 o14 =>
 bd (gd v12 true (ret1 (binS tab .sub 3 v14 (SV.v (.int .i64 1))) o14) o14) fun v15 o15 =>
 bd (gd v12 true (ret1 (indexAddrS tab o15 30 v13 v15) o15) o15) fun v16 o16 =>
 bd (gd v12 true (ret1 (loadS tab o16 84 v16) o16) o16) fun v17 o17 =>
 bd (gd v12 true (ret1 (loadS tab o17 84 v5) o17) o17) fun v18 o18 =>
 bd (gd v12 true (callS ⟨tab, ownF, K⟩ o18 53 [v17, v18]) o18) fun v19 o19 =>
 bd (gd v12 true (ret1 (binS tab .geq 3 v19 (SV.v (.int .i64 0))) o19) o19) fun v20 o20 =>
 bd (gd v9 false (ret1 (pickS v12 v20 (SV.v (.bool false))) o20) o20) fun v21 o21 =>
 bd (ret1 (pickS v9 (SV.v (.bool true)) v21) o21) fun v22 o22 =>
 condS v22 (retV tab nl o22 (resC1 (some (SV.v (.bool false))) (some [])))
 (bd (ret1 (binS tab .add 3 x7 (SV.v (.int .i64 1))) o22) fun v23 o23 =>
 L38_2 K N nl m2 x0 x5 x6 v23 o23))
 (retV tab nl o2 (resC1 (some (SV.v (.bool true))) (some [])))
noncomputable def X38 (K : Nat → List SV → List SO → Out) (N nl : Nat) (x0 : SV) (os : List SO) : Out := exec (cx K) N nl fi38 c38 [(0, x0)] os (kEnd tab [] nl rs38)
noncomputable def B38 (K : Nat → List SV → List SO → Out) (N nl : Nat) (x0 : SV) (os : List SO) : Out :=
 bd (lenO tab 30 os x0) fun v1 o1 =>
 L38_2 K N nl N x0 x0 v1 (SV.v (.int .i64 0)) o1
noncomputable def X39 (K : Nat → List SV → List SO → Out) (N nl : Nat) (x0 : SV) (os : List SO) : Out := exec (cx K) N nl fi39 c39 [(0, x0)] os (kEnd tab [] nl rs39)
noncomputable def B39 (K : Nat → List SV → List SO → Out) (N nl : Nat) (x0 : SV) (os : List SO) : Out :=
 bd (boxS tab os 35 (some x0)) fun v1 o1 =>
 bd (ret1 (fieldAddrS tab 35 v1 0) o1) fun v2 o2 =>
 bd (ret1 (loadS tab o2 25 v2) o2) fun v3 o3 =>
 bd (callS ⟨tab, ownF, K⟩ o3 23 [v3]) fun v4 o4 =>
 bd (ret1 (unS .not v4) o4) fun v5 o5 =>
 condS v5 (retV tab nl o5 (resC1 (some (SV.v (.bool false))) (some [])))
 (bd (ret1 (fieldAddrS tab 35 v1 1) o5) fun v6 o6 =>
 bd (ret1 (loadS tab o6 4 v6) o6) fun v7 o7 =>
 condS v7 (bd (ret1 (fieldAddrS tab 35 v1 2) o7) fun v8 o8 =>
 bd (ret1 (loadS tab o8 33 v8) o8) fun v9 o9 =>
 bd (callS ⟨tab, ownF, K⟩ o9 51 [v9]) fun v10 o10 =>
 retV tab nl o10 (resC1 (some v10) (some [])))
 (bd (ret1 (fieldAddrS tab 35 v1 2) o7) fun v11 o11 =>
 bd (ret1 (loadS tab o11 33 v11) o11) fun v12 o12 =>
 bd (buildS tab o12 33 []) fun v13 o13 =>
 bd (callS ⟨tab, ownF, K⟩ o13 54 [v12, v13]) fun v14 o14 =>
 retV tab nl o14 (resC1 (some v14) (some []))))
noncomputable def X40 (K : Nat → List SV → List SO → Out) (N nl : Nat) (x0 : SV) (os : List SO) : Out := exec (cx K) N nl fi40 c40 [(0, x0)] os (kEnd tab [] nl rs40)
noncomputable def B40 (K : Nat → List SV → List SO → Out) (N nl : Nat) (x0 : SV) (os : List SO) : Out :=
 bd (boxS tab os 37 (some x0)) fun v1 o1 =>
 bd (ret1 (fieldAddrS tab 37 v1 1) o1) fun v2 o2 =>
 bd (ret1 (loadS tab o2 23 v2) o2) fun v3 o3 =>
 bd (lenO tab 23 o3 v3) fun v4 o4 =>
 bd (ret1 (binS tab .neq 3 v4 (SV.v (.int .i64 6))) o4) fun v5 o5 =>
 bd (gd v5 false (ret1 (fieldAddrS tab 37 v1 1) o5) o5) fun v6 o6 =>
 bd (gd v5 false (ret1 (loadS tab o6 23 v6) o6) o6) fun v7 o7 =>
 bd (gd v5 false (some ((SV.fn 55 []), o7)) o7) fun v8 o8 =>
 bd (gd v5 false (callS ⟨tab, ownF, K⟩ o8 56 [v7, v8]) o8) fun v9 o9 =>
 bd (ret1 (pickS v5 (SV.v (.bool true)) v9) o9) fun v10 o10 =>
 condS v10 (retV tab nl o10 (resC1 (some (SV.v (.bool false))) (some [])))
 (bd (ret1 (fieldAddrS tab 37 v1 0) o10) fun v11 o11 =>
 bd (ret1 (loadS tab o11 30 v11) o11) fun v12 o12 =>
 bd (callS ⟨tab, ownF, K⟩ o12 57 [v12]) fun v13 o13 =>
 bd (gd v13 true (ret1 (fieldAddrS tab 37 v1 3) o13) o13) fun v14 o14 =>
 bd (gd v13 true (ret1 (loadS tab o14 30 v14) o14) o14) fun v15 o15 =>
 bd (gd v13 true (callS ⟨tab, ownF, K⟩ o15 57 [v15]) o15) fun v16 o16 =>
 bd (ret1 (pickS v13 v16 (SV.v (.bool false))) o16) fun v17 o17 =>
 bd (gd v17 true (ret1 (fieldAddrS tab 37 v1 2) o17) o17) fun v18 o18 =>
 bd (gd v17 true (ret1 (loadS tab o18 4 v18) o18) o18) fun v19 o19 =>
 bd (gd v17 true (some (v19, o19)) o19) fun v20 o20 =>
 bd (gd v20 false (ret1 (fieldAddrS tab 37 v1 3) o20) o20) fun v21 o21 =>
 bd (gd v20 false (ret1 (loadS tab o21 30 v21) o21) o21) fun v22 o22 =>
 bd (gd v20 false (lenO tab 30 o22 v22) o22) fun v23 o23 =>
 bd (gd v20 false (ret1 (binS tab .eql 3 v23 (SV.v (.int .i64 0))) o23) o23) fun v24 o24 =>
 bd (gd v17 true (ret1 (pickS v20 (SV.v (.bool true)) v24) o24) o24) fun v25 o25 =>
 bd (ret1 (pickS v17 v25 (SV.v (.bool false))) o25) fun v26 o26 =>
 retV tab nl o26 (resC1 (some v26) (some [])))
noncomputable def X41 (K : Nat → List SV → List SO → Out) (N nl : Nat) (x0 : SV) (os : List SO) : Out := exec (cx K) N nl fi41 c41 [(0, x0)] os (kEnd tab [] nl rs41)
noncomputable def B41 (K : Nat → List SV → List SO → Out) (N nl : Nat) (x0 : SV) (os : List SO) : Out :=
 bd (boxS tab os 39 (some x0)) fun v1 o1 =>
 bd (ret1 (fieldAddrS tab 39 v1 1) o1) fun v2 o2 =>
 bd (ret1 (loadS tab o2 28 v2) o2) fun v3 o3 =>
 bd (callS ⟨tab, ownF, K⟩ o3 64 [v3, (SV.fn 58 [v1])]) fun v4 o4 =>
 bd (ret1 (unS .not v4) o4) fun v5 o5 =>
 bd (gd v5 false (ret1 (fieldAddrS tab 39 v1 5) o5) o5) fun v6 o6 =>
 bd (gd v5 false (ret1 (fieldAddrS tab 35 v6 1) o6) o6) fun v7 o7 =>
 bd (gd v5 false (ret1 (loadS tab o7 4 v7) o7) o7) fun v8 o8 =>
 bd (gd v5 false (some (v8, o8)) o8) fun v9 o9 =>
 bd (gd v9 true (ret1 (fieldAddrS tab 39 v1 2) o9) o9) fun v10 o10 =>
 bd (gd v9 true (ret1 (loadS tab o10 29 v10) o10) o10) fun v11 o11 =>
 bd (gd v9 true (some ((SV.fn 60 [v1]), o11)) o11) fun v12 o12 =>
 bd (gd v9 true (callS ⟨tab, ownF, K⟩ o12 65 [v11, v12]) o12) fun v13 o13 =>
 bd (gd v9 true (ret1 (unS .not v13) o13) o13) fun v14 o14 =>
 bd (gd v5 false (ret1 (pickS v9 v14 (SV.v (.bool false))) o14) o14) fun v15 o15 =>
 bd (ret1 (pickS v5 (SV.v (.bool true)) v15) o15) fun v16 o16 =>
 condS v16 (retV tab nl o16 (resC1 (some (SV.v (.bool false))) (some [])))
 (bd (ret1 (fieldAddrS tab 39 v1 6) o16) fun v17 o17 =>
 bd (ret1 (loadS tab o17 30 v17) o17) fun v18 o18 =>
 bd (ret1 (fieldAddrS tab 39 v1 7) o18) fun v19 o19 =>
 bd (ret1 (fieldAddrS tab 37 v19 0) o19) fun v20 o20 =>
 bd (ret1 (loadS tab o20 30 v20) o20) fun v21 o21 =>
 bd (ret1 (fieldAddrS tab 39 v1 7) o21) fun v22 o22 =>
 bd (ret1 (fieldAddrS tab 37 v22 3) o22) fun v23 o23 =>
 bd (ret1 (loadS tab o23 30 v23) o23) fun v24 o24 =>
 bd (buildSliceS tab o24 120 3 [(0, v18), (1, v21), (2, v24)]) fun v25 o25 =>
 bd (callS ⟨tab, ownF, K⟩ o25 66 [v25]) fun v26 o26 =>
 bd (callS ⟨tab, ownF, K⟩ o26 62 [v26, (SV.fn 61 [v1])]) fun v27 o27 =>
 bd (ret1 (unS .not v27) o27) fun v28 o28 =>
 retV tab nl o28 (resC1 (some v28) (some [])))
noncomputable def bk42_4 (K : Nat → List SV → List SO → Out) (N nl : Nat) (m4 : Nat) : Env → List SO → Out := fun env os => loopS nl (fi42.lp 4) (fun env os nx => exec (cx K) N nl fi42 (subC c42 [1, 1, 0, 1, 0, 0]) env os (kLoop nx (kBlock 0 (kSeq (exec (cx K) N nl fi42 (subC c42 [1, 1, 1])) (fi42.jn 9) (kEnd tab [] nl rs42))))) m4 (killS (fi42.lp 4).alive env) os
noncomputable def L42_4 (K : Nat → List SV → List SO → Out) (N nl : Nat) (m4 : Nat) (x0 x1 x12 x13 : SV) (os : List SO) : Out := loopS nl (fi42.lp 4) (fun env os nx => exec (cx K) N nl fi42 (subC c42 [1, 1, 0, 1, 0, 0]) env os (kLoop nx (kBlock 0 (kSeq (exec (cx K) N nl fi42 (subC c42 [1, 1, 1])) (fi42.jn 9) (kEnd tab [] nl rs42))))) m4 [(0, x0), (1, x1), (12, x12), (13, x13)] os
noncomputable def LB42_4 (K : Nat → List SV → List SO → Out) (N nl : Nat) (m4 : Nat) (x0 x1 x12 x13 : SV) (os : List SO) : Out :=
 bd (ret1 (binS tab .lss 3 x13 x12) os) fun v5 o5 =>
 condS v5 (bd (ret1 (indexAddrS tab o5 23 x0 x13) o5) fun v6 o6 =>
 bd (ret1 (loadS tab o6 3 v6) o6) fun v7 o7 =>
 bd (ret1 (indexAddrS tab o7 23 x1 x13) o7) fun v8 o8 =>
 bd (ret1 (loadS tab o8 3 v8) o8) fun v9 o9 =>
 bd (ret1 (binS tab .neq 3 v7 v9) o9) fun v10 o10 =>
 condS v10 (retV tab nl o10 (resC1 (some (SV.v (.bool false))) (some [])))
 (bd (ret1 (binS tab .add 3 x13 (SV.v (.int .i64 1))) o10) fun v11 o11 =>
 L42_4 K N nl m4 x0 x1 x12 v11 o11))
 (retV tab nl o5 (resC1 (some (SV.v (.bool true))) (some [])))
noncomputable def X42 (K : Nat → List SV → List SO → Out) (N nl : Nat) (x0 x1 : SV) (os : List SO) : Out := exec (cx K) N nl fi42 c42 [(0, x0), (1, x1)] os (kEnd tab [] nl rs42)
noncomputable def B42 (K : Nat → List SV → List SO → Out) (N nl : Nat) (x0 x1 : SV) (os : List SO) : Out :=
 bd (lenO tab 23 os x0) fun v1 o1 =>
 bd (lenO tab 23 o1 x1) fun v2 o2 =>
 bd (ret1 (binS tab .neq 3 v1 v2) o2) fun v3 o3 =>
 condS v3 (retV tab nl o3 (resC1 (some (SV.v (.bool false))) (some [])))
 (bd (lenO tab 23 o3 x0) fun v4 o4 =>
 L42_4 K N nl N x0 x1 v4 (SV.v (.int .i64 0)) o4)
noncomputable def bk43_5 (K : Nat → List SV → List SO → Out) (N nl : Nat) (m5 : Nat) : Env → List SO → Out := fun env os => loopS nl (fi43.lp 5) (fun env os nx => exec (cx K) N nl fi43 (subC c43 [1, 1, 1, 0, 1, 0, 0]) env os (kLoop nx (kBlock 0 (kSeq (exec (cx K) N nl fi43 (subC c43 [1, 1, 1, 1])) (fi43.jn 13) (kEnd tab [] nl rs43))))) m5 (killS (fi43.lp 5).alive env) os
noncomputable def bk43_8 (K : Nat → List SV → List SO → Out) (N nl : Nat) (m5 : Nat) (m8 : Nat) : Env → List SO → Out := fun env os => loopS nl (fi43.lp 8) (fun env os nx => exec (cx K) N nl fi43 (subC c43 [1, 1, 1, 0, 1, 0, 0, 1, 1, 0, 0, 1, 1, 0, 0]) env os (kLoop nx (kBlock 2 (kBlock 1 (kSeq (exec (cx K) N nl fi43 (subC c43 [1, 1, 1, 0, 1, 0, 0, 1, 1, 1])) (fi43.jn 12) (kLoop (bk43_5 K N nl m5) (kBlock 0 (kSeq (exec (cx K) N nl fi43 (subC c43 [1, 1, 1, 1])) (fi43.jn 13) (kEnd tab [] nl rs43))))))))) m8 (killS (fi43.lp 8).alive env) os
noncomputable def L43_5 (K : Nat → List SV → List SO → Out) (N nl : Nat) (m5 : Nat) (x3 x13 x14 x15 : SV) (os : List SO) : Out := loopS nl (fi43.lp 5) (fun env os nx => exec (cx K) N nl fi43 (subC c43 [1, 1, 1, 0, 1, 0, 0]) env os (kLoop nx (kBlock 0 (kSeq (exec (cx K) N nl fi43 (subC c43 [1, 1, 1, 1])) (fi43.jn 13) (kEnd tab [] nl rs43))))) m5 [(3, x3), (13, x13), (14, x14), (15, x15)] os
noncomputable def G43_5 (K : Nat → List SV → List SO → Out) (N nl : Nat) (m5 : Nat) (xs : List SV) (os : List SO) : Out := (fun env os nx => exec (cx K) N nl fi43 (subC c43 [1, 1, 1, 0, 1, 0, 0]) env os (kLoop nx (kBlock 0 (kSeq (exec (cx K) N nl fi43 (subC c43 [1, 1, 1, 1])) (fi43.jn 13) (kEnd tab [] nl rs43))))) (zipE [3, 13, 14, 15] xs) os (bk43_5 K N nl m5)
noncomputable def L43_8 (K : Nat → List SV → List SO → Out) (N nl : Nat) (m5 : Nat) (m8 : Nat) (x3 x13 x14 x15 x20 x21 x22 : SV) (os : List SO) : Out := loopS nl (fi43.lp 8) (fun env os nx => exec (cx K) N nl fi43 (subC c43 [1, 1, 1, 0, 1, 0, 0, 1, 1, 0, 0, 1, 1, 0, 0]) env os (kLoop nx (kBlock 2 (kBlock 1 (kSeq (exec (cx K) N nl fi43 (subC c43 [1, 1, 1, 0, 1, 0, 0, 1, 1, 1])) (fi43.jn 12) (kLoop (bk43_5 K N nl m5) (kBlock 0 (kSeq (exec (cx K) N nl fi43 (subC c43 [1, 1, 1, 1])) (fi43.jn 13) (kEnd tab [] nl rs43))))))))) m8 [(3, x3), (13, x13), (14, x14), (15, x15), (20, x20), (21, x21), (22, x22)] os
noncomputable def G43_8 (K : Nat → List SV → List SO → Out) (N nl : Nat) (m5 : Nat) (m8 : Nat) (xs : List SV) (os : List SO) : Out := (fun env os nx => exec (cx K) N nl fi43 (subC c43 [1, 1, 1, 0, 1, 0, 0, 1, 1, 0, 0, 1, 1, 0, 0]) env os (kLoop nx (kBlock 2 (kBlock 1 (kSeq (exec (cx K) N nl fi43 (subC c43 [1, 1, 1, 0, 1, 0, 0, 1, 1, 1])) (fi43.jn 12) (kLoop (bk43_5 K N nl m5) (kBlock 0 (kSeq (exec (cx K) N nl fi43 (subC c43 [1, 1, 1, 1])) (fi43.jn 13) (kEnd tab [] nl rs43))))))))) (zipE [3, 13, 14, 15, 20, 21, 22] xs) os (bk43_8 K N nl m5 m8)
noncomputable def GB43_5 (K : Nat → List SV → List SO → Out) (N nl : Nat) (m5 : Nat) (x3 x13 x14 x15 : SV) (os : List SO) : Out :=
 bd (ret1 (binS tab .lss 3 x15 x14) os) fun v8 o8 =>
 condS v8 (bd (ret1 (indexAddrS tab o8 30 x13 x15) o8) fun v9 o9 =>
 bd (ret1 (loadS tab o9 84 v9) o9) fun v10 o10 =>
 bd (allocS tab o10 84) fun v11 o11 =>
 bd (storeO tab o11 84 v11 (some v10)) fun v12 o12 =>
 bd (ret1 (fieldAddrS tab 84 v11 2) o12) fun v13 o13 =>
 bd (ret1 (loadS tab o13 81 v13) o13) fun v14 o14 =>
 bd (lenO tab 81 o14 v14) fun v15 o15 =>
 L43_8 K N nl m5 N x3 x13 x14 x15 v14 v15 (SV.v (.int .i64 0)) o15)
 (retV tab nl o8 (resC1 (some x3) (some [])))
noncomputable def GB43_8 (K : Nat → List SV → List SO → Out) (N nl : Nat) (m5 : Nat) (m8 : Nat) (x3 x13 x14 x15 x20 x21 x22 : SV) (os : List SO) : Out :=
 bd (ret1 (binS tab .lss 3 x22 x21) os) fun v16 o16 =>
 condS v16 (bd (ret1 (indexAddrS tab o16 81 x20 x22) o16) fun v17 o17 =>
 bd (ret1 (loadS tab o17 99 v17) o17) fun v18 o18 =>
 bd (allocS tab o18 99) fun v19 o19 =>
 bd (storeO tab o19 99 v19 (some v18)) fun v20 o20 =>
 bd (ret1 (fieldAddrS tab 99 v19 0) o20) fun v21 o21 =>
 bd (ret1 (loadS tab o21 3 v21) o21) fun v22 o22 =>
 bd (ret1 (fieldAddrS tab 99 v19 1) o22) fun v23 o23 =>
 bd (ret1 (loadS tab o23 3 v23) o23) fun v24 o24 =>
 bd (ret1 (indexAddrS tab o24 23 x3 v22) o24) fun v25 o25 =>
 bd (storeO tab o25 3 v25 (some v24)) fun v26 o26 =>
 bd (ret1 (binS tab .add 3 x22 (SV.v (.int .i64 1))) o26) fun v27 o27 =>
 L43_8 K N nl m5 m8 x3 x13 x14 x15 x20 x21 v27 o27)
 (bd (ret1 (binS tab .add 3 x15 (SV.v (.int .i64 1))) o16) fun v28 o28 =>
 L43_5 K N nl m5 x3 x13 x14 v28 o28)
noncomputable def X43 (K : Nat → List SV → List SO → Out) (N nl : Nat) (x0 : SV) (os : List SO) : Out := exec (cx K) N nl fi43 c43 [(0, x0)] os (kEnd tab [] nl rs43)
noncomputable def B43 (K : Nat → List SV → List SO → Out) (N nl : Nat) (x0 : SV) (os : List SO) : Out :=
 bd (evN tab 23 os none) fun v1 o1 =>
 bd (callS ⟨tab, ownF, K⟩ o1 57 [x0]) fun v2 o2 =>
 bd (ret1 (unS .not v2) o2) fun v3 o3 =>
 condS v3 (bd (evN tab 23 o3 none) fun v4 o4 =>
 retV tab nl o4 (resC1 (some v4) (some [])))
 (bd (buildSliceS tab o3 23 1 [(0, (SV.v (.int .i64 (-1))))]) fun v5 o5 =>
 bd (callS ⟨tab, ownF, K⟩ o5 47 [v5, (SV.v (.int .i64 6))]) fun v6 o6 =>
 bd (lenO tab 30 o6 x0) fun v7 o7 =>
 L43_5 K N nl N v6 x0 v7 (SV.v (.int .i64 0)) o7)
noncomputable def bk44_5 (K : Nat → List SV → List SO → Out) (N nl : Nat) (m5 : Nat) : Env → List SO → Out := fun env os => loopS nl (fi44.lp 5) (fun env os nx => exec (cx K) N nl fi44 (subC c44 [1, 1, 1, 0, 1, 0, 0]) env os (kLoop nx (kBlock 0 (kSeq (exec (cx K) N nl fi44 (subC c44 [1, 1, 1, 1])) (fi44.jn 10) (kEnd tab [] nl rs44))))) m5 (killS (fi44.lp 5).alive env) os
noncomputable def L44_5 (K : Nat → List SV → List SO → Out) (N nl : Nat) (m5 : Nat) (x1 x5 x16 x17 x18 : SV) (os : List SO) : Out := loopS nl (fi44.lp 5) (fun env os nx => exec (cx K) N nl fi44 (subC c44 [1, 1, 1, 0, 1, 0, 0]) env os (kLoop nx (kBlock 0 (kSeq (exec (cx K) N nl fi44 (subC c44 [1, 1, 1, 1])) (fi44.jn 10) (kEnd tab [] nl rs44))))) m5 [(1, x1), (5, x5), (16, x16), (17, x17), (18, x18)] os
noncomputable def J44_9 (K : Nat → List SV → List SO → Out) (N nl : Nat) (m5 : Nat) (x1 x5 x16 x17 x18 : SV) (os : List SO) : Out := exec (cx K) N nl fi44 (subC c44 [1, 1, 1, 0, 1, 0, 0, 1, 1, 1]) [(1, x1), (5, x5), (16, x16), (17, x17), (18, x18)] os (kLoop (bk44_5 K N nl m5) (kBlock 0 (kSeq (exec (cx K) N nl fi44 (subC c44 [1, 1, 1, 1])) (fi44.jn 10) (kEnd tab [] nl rs44))))
noncomputable def LB44_5 (K : Nat → List SV → List SO → Out) (N nl : Nat) (m5 : Nat) (x1 x5 x16 x17 x18 : SV) (os : List SO) : Out :=
 bd (ret1 (binS tab .lss 3 x18 x17) os) fun v8 o8 =>
 condS v8 (bd (ret1 (indexAddrS tab o8 23 x16 x18) o8) fun v9 o9 =>
 bd (ret1 (loadS tab o9 3 v9) o9) fun v10 o10 =>
 bd (callS ⟨tab, ownF, K⟩ o10 67 [x1, v10]) fun v11 o11 =>
 condS v11 (bd (ret1 (binS tab .add 3 x5 (SV.v (.int .i64 1))) o11) fun v12 o12 =>
 J44_9 K N nl m5 x1 v12 x16 x17 x18 o12)
 (J44_9 K N nl m5 x1 x5 x16 x17 x18 o11))
 (retV tab nl o8 (resC1 (some x5) (some [])))
noncomputable def JB44_9 (K : Nat → List SV → List SO → Out) (N nl : Nat) (m5 : Nat) (x1 x5 x16 x17 x18 : SV) (os : List SO) : Out :=
 bd (ret1 (binS tab .add 3 x18 (SV.v (.int .i64 1))) os) fun v13 o13 =>
 L44_5 K N nl m5 x1 x5 x16 x17 v13 o13
noncomputable def X44 (K : Nat → List SV → List SO → Out) (N nl : Nat) (x0 x1 : SV) (os : List SO) : Out := exec (cx K) N nl fi44 c44 [(0, x0), (1, x1)] os (kEnd tab [] nl rs44)
noncomputable def B44 (K : Nat → List SV → List SO → Out) (N nl : Nat) (x0 x1 : SV) (os : List SO) : Out :=
 bd (callS ⟨tab, ownF, K⟩ os 24 [x0]) fun v1 o1 =>
 bd (ret1 (unS .not v1) o1) fun v2 o2 =>
 bd (gd v2 false (some (x1, o2)) o2) fun v3 o3 =>
 bd (gd v2 false (callS ⟨tab, ownF, K⟩ o3 24 [v3]) o3) fun v4 o4 =>
 bd (gd v2 false (ret1 (unS .not v4) o4) o4) fun v5 o5 =>
 bd (ret1 (pickS v2 (SV.v (.bool true)) v5) o5) fun v6 o6 =>
 condS v6 (retV tab nl o6 (resC1 (some (SV.v (.int .i64 (-1)))) (some [])))
 (bd (lenO tab 23 o6 x0) fun v7 o7 =>
 L44_5 K N nl N x1 (SV.v (.int .i64 0)) x0 v7 (SV.v (.int .i64 0)) o7)
noncomputable def X45 (K : Nat → List SV → List SO → Out) (N nl : Nat) (x0 x1 x2 : SV) (os : List SO) : Out := exec (cx K) N nl fi45 c45 [(0, x0), (1, x1), (2, x2)] os (kEnd tab [] nl rs45)
noncomputable def B45 (K : Nat → List SV → List SO → Out) (N nl : Nat) (x0 x1 x2 : SV) (os : List SO) : Out :=
 bd (ret1 (binS tab .geq 3 x0 x1) os) fun v1 o1 =>
 bd (gd v1 true (some (x0, o1)) o1) fun v2 o2 =>
 bd (gd v1 true (some (x2, o2)) o2) fun v3 o3 =>
 bd (gd v1 true (ret1 (binS tab .leq 3 v2 v3) o3) o3) fun v4 o4 =>
 bd (ret1 (pickS v1 v4 (SV.v (.bool false))) o4) fun v5 o5 =>
 retV tab nl o5 (resC1 (some v5) (some []))
noncomputable def bk46_3 (K : Nat → List SV → List SO → Out) (N nl : Nat) (m3 : Nat) : Env → List SO → Out := fun env os => loopS nl (fi46.lp 3) (fun env os nx => exec (cx K) N nl fi46 (subC c46 [1, 1, 0, 1, 0, 0]) env os (kLoop nx (kBlock 0 (kSeq (exec (cx K) N nl fi46 (subC c46 [1, 1, 1])) (fi46.jn 6) (kEnd tab [] nl rs46))))) m3 (killS (fi46.lp 3).alive env) os
noncomputable def bk46_7 (K : Nat → List SV → List SO → Out) (N nl : Nat) (m7 : Nat) : Env → List SO → Out := fun env os => loopS nl (fi46.lp 7) (fun env os nx => exec (cx K) N nl fi46 (subC c46 [1, 1, 1, 0, 1, 0, 0]) env os (kLoop nx (kBlock 2 (kSeq (exec (cx K) N nl fi46 (subC c46 [1, 1, 1, 1])) (fi46.jn 13) (kEnd tab [] nl rs46))))) m7 (killS (fi46.lp 7).alive env) os
noncomputable def bk46_10 (K : Nat → List SV → List SO → Out) (N nl : Nat) (m7 : Nat) (m10 : Nat) : Env → List SO → Out := fun env os => loopS nl (fi46.lp 10) (fun env os nx => exec (cx K) N nl fi46 (subC c46 [1, 1, 1, 0, 1, 0, 0, 1, 0, 0, 1, 0, 0]) env os (kLoop nx (kBlock 4 (kBlock 3 (kSeq (exec (cx K) N nl fi46 (subC c46 [1, 1, 1, 0, 1, 0, 0, 1, 1])) (fi46.jn 8) (kLoop (bk46_7 K N nl m7) (kBlock 2 (kSeq (exec (cx K) N nl fi46 (subC c46 [1, 1, 1, 1])) (fi46.jn 13) (kEnd tab [] nl rs46))))))))) m10 (killS (fi46.lp 10).alive env) os
noncomputable def L46_3 (K : Nat → List SV → List SO → Out) (N nl : Nat) (m3 : Nat) (x0 x3 x4 : SV) (os : List SO) : Out := loopS nl (fi46.lp 3) (fun env os nx => exec (cx K) N nl fi46 (subC c46 [1, 1, 0, 1, 0, 0]) env os (kLoop nx (kBlock 0 (kSeq (exec (cx K) N nl fi46 (subC c46 [1, 1, 1])) (fi46.jn 6) (kEnd tab [] nl rs46))))) m3 [(0, x0), (3, x3), (4, x4)] os
noncomputable def L46_7 (K : Nat → List SV → List SO → Out) (N nl : Nat) (m7 : Nat) (x0 x3 x5 : SV) (os : List SO) : Out := loopS nl (fi46.lp 7) (fun env os nx => exec (cx K) N nl fi46 (subC c46 [1, 1, 1, 0, 1, 0, 0]) env os (kLoop nx (kBlock 2 (kSeq (exec (cx K) N nl fi46 (subC c46 [1, 1, 1, 1])) (fi46.jn 13) (kEnd tab [] nl rs46))))) m7 [(0, x0), (3, x3), (5, x5)] os
noncomputable def L46_10 (K : Nat → List SV → List SO → Out) (N nl : Nat) (m7 : Nat) (m10 : Nat) (x0 x3 x5 x6 : SV) (os : List SO) : Out := loopS nl (fi46.lp 10) (fun env os nx => exec (cx K) N nl fi46 (subC c46 [1, 1, 1, 0, 1, 0, 0, 1, 0, 0, 1, 0, 0]) env os (kLoop nx (kBlock 4 (kBlock 3 (kSeq (exec (cx K) N nl fi46 (subC c46 [1, 1, 1, 0, 1, 0, 0, 1, 1])) (fi46.jn 8) (kLoop (bk46_7 K N nl m7) (kBlock 2 (kSeq (exec (cx K) N nl fi46 (subC c46 [1, 1, 1, 1])) (fi46.jn 13) (kEnd tab [] nl rs46))))))))) m10 [(0, x0), (3, x3), (5, x5), (6, x6)] os
noncomputable def LB46_3 (K : Nat → List SV → List SO → Out) (N nl : Nat) (m3 : Nat) (x0 x3 x4 : SV) (os : List SO) : Out :=
 bd (lenO tab 23 os x3) fun v3 o3 =>
 bd (ret1 (binS tab .lss 3 x4 v3) o3) fun v4 o4 =>
 condS v4 (bd (ret1 (indexAddrS tab o4 23 x3 x4) o4) fun v5 o5 =>
 bd (storeO tab o5 3 v5 (some (SV.v (.int .i64 (-1))))) fun v6 o6 =>
 bd (ret1 (binS tab .add 3 x4 (SV.v (.int .i64 1))) o6) fun v7 o7 =>
 L46_3 K N nl m3 x0 x3 v7 o7)
 (L46_7 K N nl N x0 x3 (SV.v (.int .i64 0)) o4)
noncomputable def LB46_7 (K : Nat → List SV → List SO → Out) (N nl : Nat) (m7 : Nat) (x0 x3 x5 : SV) (os : List SO) : Out :=
 bd (lenO tab 30 os x0) fun v8 o8 =>
 bd (ret1 (binS tab .lss 3 x5 v8) o8) fun v9 o9 =>
 condS v9 (L46_10 K N nl m7 N x0 x3 x5 (SV.v (.int .i64 0)) o9)
 (retV tab nl o9 (resC1 (some x3) (some [])))
noncomputable def LB46_10 (K : Nat → List SV → List SO → Out) (N nl : Nat) (m7 : Nat) (m10 : Nat) (x0 x3 x5 x6 : SV) (os : List SO) : Out :=
 bd (ret1 (indexAddrS tab os 30 x0 x5) os) fun v10 o10 =>
 bd (ret1 (fieldAddrS tab 84 v10 2) o10) fun v11 o11 =>
 bd (ret1 (loadS tab o11 81 v11) o11) fun v12 o12 =>
 bd (lenO tab 81 o12 v12) fun v13 o13 =>
 bd (ret1 (binS tab .lss 3 x6 v13) o13) fun v14 o14 =>
 condS v14 (bd (ret1 (indexAddrS tab o14 30 x0 x5) o14) fun v15 o15 =>
 bd (ret1 (fieldAddrS tab 84 v15 2) o15) fun v16 o16 =>
 bd (ret1 (loadS tab o16 81 v16) o16) fun v17 o17 =>
 bd (ret1 (indexAddrS tab o17 81 v17 x6) o17) fun v18 o18 =>
 bd (ret1 (fieldAddrS tab 99 v18 0) o18) fun v19 o19 =>
 bd (ret1 (loadS tab o19 3 v19) o19) fun v20 o20 =>
 bd (ret1 (indexAddrS tab o20 30 x0 x5) o20) fun v21 o21 =>
 bd (ret1 (fieldAddrS tab 84 v21 2) o21) fun v22 o22 =>
 bd (ret1 (loadS tab o22 81 v22) o22) fun v23 o23 =>
 bd (ret1 (indexAddrS tab o23 81 v23 x6) o23) fun v24 o24 =>
 bd (ret1 (fieldAddrS tab 99 v24 1) o24) fun v25 o25 =>
 bd (ret1 (loadS tab o25 3 v25) o25) fun v26 o26 =>
 bd (ret1 (indexAddrS tab o26 23 x3 v20) o26) fun v27 o27 =>
 bd (storeO tab o27 3 v27 (some v26)) fun v28 o28 =>
 bd (ret1 (binS tab .add 3 x6 (SV.v (.int .i64 1))) o28) fun v29 o29 =>
 L46_10 K N nl m7 m10 x0 x3 x5 v29 o29)
 (bd (ret1 (binS tab .add 3 x5 (SV.v (.int .i64 1))) o14) fun v30 o30 =>
 L46_7 K N nl m7 x0 x3 v30 o30)
noncomputable def X46 (K : Nat → List SV → List SO → Out) (N nl : Nat) (x0 : SV) (os : List SO) : Out := exec (cx K) N nl fi46 c46 [(0, x0)] os (kEnd tab [] nl rs46)
noncomputable def B46 (K : Nat → List SV → List SO → Out) (N nl : Nat) (x0 : SV) (os : List SO) : Out :=
 bd (evN tab 23 os none) fun v1 o1 =>
 bd (makeS tab o1 23 (SV.v (.int .i64 6)) (SV.v (.int .i64 6))) fun v2 o2 =>
 L46_3 K N nl N x0 v2 (SV.v (.int .i64 0)) o2
noncomputable def bk47_8 (K : Nat → List SV → List SO → Out) (N nl : Nat) (m8 : Nat) : Env → List SO → Out := fun env os => loopS nl (fi47.lp 8) (fun env os nx => exec (cx K) N nl fi47 (subC c47 [1, 1, 1, 1, 1, 1, 0, 0, 0]) env os (kLoop nx (kBlock 0 (kSeq (exec (cx K) N nl fi47 (subC c47 [1, 1, 1, 1, 1, 1, 1])) (fi47.jn 10) (kEnd tab [] nl rs47))))) m8 (killS (fi47.lp 8).alive env) os
noncomputable def bk48_4 (K : Nat → List SV → List SO → Out) (N nl : Nat) (m4 : Nat) : Env → List SO → Out := fun env os => loopS nl (fi48.lp 4) (fun env os nx => exec (cx K) N nl fi48 (subC c48 [1, 1, 0, 1, 0, 0]) env os (kLoop nx (kBlock 0 (kSeq (exec (cx K) N nl fi48 (subC c48 [1, 1, 1])) (fi48.jn 8) (kEnd tab [] nl rs48))))) m4 (killS (fi48.lp 4).alive env) os
noncomputable def bk48_9 (K : Nat → List SV → List SO → Out) (N nl : Nat) (m9 : Nat) : Env → List SO → Out := fun env os => loopS nl (fi48.lp 9) (fun env os nx => exec (cx K) N nl fi48 (subC c48 [1, 1, 1, 0, 1, 0, 0]) env os (kLoop nx (kBlock 2 (kSeq (exec (cx K) N nl fi48 (subC c48 [1, 1, 1, 1])) (fi48.jn 13) (kEnd tab [] nl rs48))))) m9 (killS (fi48.lp 9).alive env) os
noncomputable def bk49_4 (K : Nat → List SV → List SO → Out) (N nl : Nat) (m4 : Nat) : Env → List SO → Out := fun env os => loopS nl (fi49.lp 4) (fun env os nx => exec (cx K) N nl fi49 (subC c49 [1, 1, 0, 1, 0, 0]) env os (kLoop nx (kBlock 0 (kSeq (exec (cx K) N nl fi49 (subC c49 [1, 1, 1])) (fi49.jn 8) (kEnd tab [] nl rs49))))) m4 (killS (fi49.lp 4).alive env) os
noncomputable def L49_4 (K : Nat → List SV → List SO → Out) (N nl : Nat) (m4 : Nat) (x0 x1 x5 : SV) (os : List SO) : Out := loopS nl (fi49.lp 4) (fun env os nx => exec (cx K) N nl fi49 (subC c49 [1, 1, 0, 1, 0, 0]) env os (kLoop nx (kBlock 0 (kSeq (exec (cx K) N nl fi49 (subC c49 [1, 1, 1])) (fi49.jn 8) (kEnd tab [] nl rs49))))) m4 [(0, x0), (1, x1), (5, x5)] os
noncomputable def LB49_4 (K : Nat → List SV → List SO → Out) (N nl : Nat) (m4 : Nat) (x0 x1 x5 : SV) (os : List SO) : Out :=
 bd (lenO tab 31 os x0) fun v4 o4 =>
 bd (ret1 (binS tab .lss 3 x5 v4) o4) fun v5 o5 =>
 condS v5 (bd (ret1 (indexAddrS tab o5 31 x0 x5) o5) fun v6 o6 =>
 bd (ret1 (loadS tab o6 107 v6) o6) fun v7 o7 =>
 bd (ret1 (indexAddrS tab o7 31 x1 x5) o7) fun v8 o8 =>
 bd (ret1 (loadS tab o8 107 v8) o8) fun v9 o9 =>
 bd (ret1 (binS tab .neq 107 v7 v9) o9) fun v10 o10 =>
 condS v10 (retV tab nl o10 (resC1 (some (SV.v (.bool false))) (some [])))
 (bd (ret1 (binS tab .add 3 x5 (SV.v (.int .i64 1))) o10) fun v11 o11 =>
 L49_4 K N nl m4 x0 x1 v11 o11))
 (retV tab nl o5 (resC1 (some (SV.v (.bool true))) (some [])))
noncomputable def X49 (K : Nat → List SV → List SO → Out) (N nl : Nat) (x0 x1 : SV) (os : List SO) : Out := exec (cx K) N nl fi49 c49 [(0, x0), (1, x1)] os (kEnd tab [] nl rs49)
noncomputable def B49 (K : Nat → List SV → List SO → Out) (N nl : Nat) (x0 x1 : SV) (os : List SO) : Out :=
 bd (lenO tab 31 os x0) fun v1 o1 =>
 bd (lenO tab 31 o1 x1) fun v2 o2 =>
 bd (ret1 (binS tab .neq 3 v1 v2) o2) fun v3 o3 =>
 condS v3 (retV tab nl o3 (resC1 (some (SV.v (.bool false))) (some [])))
 (L49_4 K N nl N x0 x1 (SV.v (.int .i64 0)) o3)
noncomputable def bk51_2 (K : Nat → List SV → List SO → Out) (N nl : Nat) (m2 : Nat) : Env → List SO → Out := fun env os => loopS nl (fi51.lp 2) (fun env os nx => exec (cx K) N nl fi51 (subC c51 [1, 0, 1, 0, 0]) env os (kLoop nx (kBlock 0 (kSeq (exec (cx K) N nl fi51 (subC c51 [1, 1])) (fi51.jn 9) (kEnd tab [] nl rs51))))) m2 (killS (fi51.lp 2).alive env) os
noncomputable def L51_2 (K : Nat → List SV → List SO → Out) (N nl : Nat) (m2 : Nat) (x1 x6 x7 x8 : SV) (os : List SO) : Out := loopS nl (fi51.lp 2) (fun env os nx => exec (cx K) N nl fi51 (subC c51 [1, 0, 1, 0, 0]) env os (kLoop nx (kBlock 0 (kSeq (exec (cx K) N nl fi51 (subC c51 [1, 1])) (fi51.jn 9) (kEnd tab [] nl rs51))))) m2 [(1, x1), (6, x6), (7, x7), (8, x8)] os
noncomputable def G51_2 (K : Nat → List SV → List SO → Out) (N nl : Nat) (m2 : Nat) (xs : List SV) (os : List SO) : Out := (fun env os nx => exec (cx K) N nl fi51 (subC c51 [1, 0, 1, 0, 0]) env os (kLoop nx (kBlock 0 (kSeq (exec (cx K) N nl fi51 (subC c51 [1, 1])) (fi51.jn 9) (kEnd tab [] nl rs51))))) (zipE [1, 6, 7, 8] xs) os (bk51_2 K N nl m2)
noncomputable def GB51_2 (K : Nat → List SV → List SO → Out) (N nl : Nat) (m2 : Nat) (x1 x6 x7 x8 : SV) (os : List SO) : Out :=
 bd (ret1 (binS tab .lss 3 x8 x7) os) fun v5 o5 =>
 condS v5 (bd (ret1 (indexAddrS tab o5 31 x6 x8) o5) fun v6 o6 =>
 bd (ret1 (loadS tab o6 107 v6) o6) fun v7 o7 =>
 bd (allocS tab o7 107) fun v8 o8 =>
 bd (storeO tab o8 107 v8 (some v7)) fun v9 o9 =>
 bd (ret1 (fieldAddrS tab 107 v8 0) o9) fun v10 o10 =>
 bd (ret1 (loadS tab o10 3 v10) o10) fun v11 o11 =>
 bd (callS ⟨tab, ownF, K⟩ o11 69 [v11]) fun v12 o12 =>
 bd (ret1 (unS .not v12) o12) fun v13 o13 =>
 bd (gd v13 false (ret1 (fieldAddrS tab 107 v8 1) o13) o13) fun v14 o14 =>
 bd (gd v13 false (ret1 (loadS tab o14 3 v14) o14) o14) fun v15 o15 =>
 bd (gd v13 false (callS ⟨tab, ownF, K⟩ o15 70 [v15]) o15) fun v16 o16 =>
 bd (gd v13 false (ret1 (unS .not v16) o16) o16) fun v17 o17 =>
 bd (ret1 (pickS v13 (SV.v (.bool true)) v17) o17) fun v18 o18 =>
 bd (gd v18 false (ret1 (fieldAddrS tab 107 v8 2) o18) o18) fun v19 o19 =>
 bd (gd v18 false (ret1 (loadS tab o19 3 v19) o19) o19) fun v20 o20 =>
 bd (gd v18 false (callS ⟨tab, ownF, K⟩ o20 35 [v20, (SV.v (.int .i64 0)), (SV.v (.int .i64 9972))]) o20) fun v21 o21 =>
 bd (gd v18 false (ret1 (unS .not v21) o21) o21) fun v22 o22 =>
 bd (ret1 (pickS v18 (SV.v (.bool true)) v22) o22) fun v23 o23 =>
 condS v23 (retV tab nl o23 (resC1 (some (SV.v (.bool false))) (some [])))
 (bd (ret1 (binS tab .gtr 3 x8 (SV.v (.int .i64 0))) o23) fun v24 o24 =>
 bd (gd v24 true (ret1 (fieldAddrS tab 107 v8 0) o24) o24) fun v25 o25 =>
 bd (gd v24 true (ret1 (loadS tab o25 3 v25) o25) o25) fun v26 o26 =>
 bd (gd v24 true (ret1 (fieldAddrS tab 33 x1 2) o26) o26) fun v27 o27 =>
 bd (gd v24 true (ret1 (loadS tab o27 31 v27) o27) o27) fun v28 o28 =>
 bd (gd v24 true (some (x8, o28)) o28) fun v29 o29 =>
 bd (gd v24 true (ret1 (binS tab .sub 3 v29 (SV.v (.int .i64 1))) o29) o29) fun v30 o30 =>
 bd (gd v24 true (ret1 (indexAddrS tab o30 31 v28 v30) o30) o30) fun v31 o31 =>
 bd (gd v24 true (ret1 (fieldAddrS tab 107 v31 0) o31) o31) fun v32 o32 =>
 bd (gd v24 true (ret1 (loadS tab o32 3 v32) o32) o32) fun v33 o33 =>
 bd (gd v24 true (ret1 (binS tab .lss 3 v26 v33) o33) o33) fun v34 o34 =>
 bd (gd v24 true (some (v34, o34)) o34) fun v35 o35 =>
 bd (gd v35 false (ret1 (fieldAddrS tab 107 v8 0) o35) o35) fun v36 o36 =>
 bd (gd v35 false (ret1 (loadS tab o36 3 v36) o36) o36) fun v37 o37 =>
 bd (gd v35 false (ret1 (fieldAddrS tab 33 x1 2) o37) o37) fun v38 o38 =>
 bd (gd v35 false (ret1 (loadS tab o38 31 v38) o38) o38) fun v39 o39 =>
 bd (gd v35 false (some (x8, o39)) o39) fun v40 o40 =>
 bd (gd v35 false (ret1 (binS tab .sub 3 v40 (SV.v (.int .i64 1))) o40) o40) fun v41 o41 =>
 bd (gd v35 false (ret1 (indexAddrS tab o41 31 v39 v41) o41) o41) fun v42 o42 =>
 bd (gd v35 false (ret1 (fieldAddrS tab 107 v42 0) o42) o42) fun v43 o43 =>
 bd (gd v35 false (ret1 (loadS tab o43 3 v43) o43) o43) fun v44 o44 =>
 bd (gd v35 false (ret1 (binS tab .eql 3 v37 v44) o44) o44) fun v45 o45 =>
 bd (gd v35 false (some (v45, o45)) o45) fun v46 o46 =>
 bd (gd v46 true (ret1 (fieldAddrS tab 107 v8 1) o46) o46) fun v47 o47 =>
 bd (gd v46 true (ret1 (loadS tab o47 3 v47) o47) o47) fun v48 o48 =>
 bd (gd v46 true (ret1 (fieldAddrS tab 33 x1 2) o48) o48) fun v49 o49 =>
 bd (gd v46 true (ret1 (loadS tab o49 31 v49) o49) o49) fun v50 o50 =>
 bd (gd v46 true (some (x8, o50)) o50) fun v51 o51 =>
 bd (gd v46 true (ret1 (binS tab .sub 3 v51 (SV.v (.int .i64 1))) o51) o51) fun v52 o52 =>
 bd (gd v46 true (ret1 (indexAddrS tab o52 31 v50 v52) o52) o52) fun v53 o53 =>
 bd (gd v46 true (ret1 (fieldAddrS tab 107 v53 1) o53) o53) fun v54 o54 =>
 bd (gd v46 true (ret1 (loadS tab o54 3 v54) o54) o54) fun v55 o55 =>
 bd (gd v46 true (ret1 (binS tab .leq 3 v48 v55) o55) o55) fun v56 o56 =>
 bd (gd v35 false (ret1 (pickS v46 v56 (SV.v (.bool false))) o56) o56) fun v57 o57 =>
 bd (gd v24 true (ret1 (pickS v35 (SV.v (.bool true)) v57) o57) o57) fun v58 o58 =>
 bd (ret1 (pickS v24 v58 (SV.v (.bool false))) o58) fun v59 o59 =>
 condS v59 (retV tab nl o59 (resC1 (some (SV.v (.bool false))) (some [])))
 (bd (ret1 (binS tab .add 3 x8 (SV.v (.int .i64 1))) o59) fun v60 o60 =>
 L51_2 K N nl m2 x1 x6 x7 v60 o60)))
 (bd (ret1 (fieldAddrS tab 33 x1 0) o5) fun v61 o61 =>
 bd (ret1 (loadS tab o61 3 v61) o61) fun v62 o62 =>
 bd (callS ⟨tab, ownF, K⟩ o62 35 [v62, (SV.v (.int .i64 1)), (SV.v (.int .i64 30))]) fun v63 o63 =>
 bd (gd v63 true (ret1 (fieldAddrS tab 33 x1 1) o63) o63) fun v64 o64 =>
 bd (gd v63 true (ret1 (loadS tab o64 3 v64) o64) o64) fun v65 o65 =>
 bd (gd v63 true (callS ⟨tab, ownF, K⟩ o65 35 [v65, (SV.v (.int .i64 0)), (SV.v (.int .i64 60))]) o65) fun v66 o66 =>
 bd (ret1 (pickS v63 v66 (SV.v (.bool false))) o66) fun v67 o67 =>
 bd (gd v67 true (ret1 (fieldAddrS tab 33 x1 2) o67) o67) fun v68 o68 =>
 bd (gd v67 true (ret1 (loadS tab o68 31 v68) o68) o68) fun v69 o69 =>
 bd (gd v67 true (lenO tab 31 o69 v69) o69) fun v70 o70 =>
 bd (gd v67 true (ret1 (binS tab .leq 3 v70 (SV.v (.int .i64 8))) o70) o70) fun v71 o71 =>
 bd (ret1 (pickS v67 v71 (SV.v (.bool false))) o71) fun v72 o72 =>
 retV tab nl o72 (resC1 (some v72) (some [])))
noncomputable def X51 (K : Nat → List SV → List SO → Out) (N nl : Nat) (x0 : SV) (os : List SO) : Out := exec (cx K) N nl fi51 c51 [(0, x0)] os (kEnd tab [] nl rs51)
noncomputable def B51 (K : Nat → List SV → List SO → Out) (N nl : Nat) (x0 : SV) (os : List SO) : Out :=
 bd (boxS tab os 33 (some x0)) fun v1 o1 =>
 bd (ret1 (fieldAddrS tab 33 v1 2) o1) fun v2 o2 =>
 bd (ret1 (loadS tab o2 31 v2) o2) fun v3 o3 =>
 bd (lenO tab 31 o3 v3) fun v4 o4 =>
 L51_2 K N nl N v1 v3 v4 (SV.v (.int .i64 0)) o4
noncomputable def bk52_4 (K : Nat → List SV → List SO → Out) (N nl : Nat) (m4 : Nat) : Env → List SO → Out := fun env os => loopS nl (fi52.lp 4) (fun env os nx => exec (cx K) N nl fi52 (subC c52 [1, 1, 0, 1, 0, 0]) env os (kLoop nx (kBlock 0 (kSeq (exec (cx K) N nl fi52 (subC c52 [1, 1, 1])) (fi52.jn 9) (kEnd tab [] nl rs52))))) m4 (killS (fi52.lp 4).alive env) os
noncomputable def bk52_10 (K : Nat → List SV → List SO → Out) (N nl : Nat) (m10 : Nat) : Env → List SO → Out := fun env os => loopS nl (fi52.lp 10) (fun env os nx => exec (cx K) N nl fi52 (subC c52 [1, 1, 1, 0, 1, 0, 0]) env os (kLoop nx (kBlock 2 (kSeq (exec (cx K) N nl fi52 (subC c52 [1, 1, 1, 1])) (fi52.jn 15) (kEnd tab [] nl rs52))))) m10 (killS (fi52.lp 10).alive env) os
noncomputable def L52_4 (K : Nat → List SV → List SO → Out) (N nl : Nat) (m4 : Nat) (x1 x30 x31 x32 : SV) (os : List SO) : Out := loopS nl (fi52.lp 4) (fun env os nx => exec (cx K) N nl fi52 (subC c52 [1, 1, 0, 1, 0, 0]) env os (kLoop nx (kBlock 0 (kSeq (exec (cx K) N nl fi52 (subC c52 [1, 1, 1])) (fi52.jn 9) (kEnd tab [] nl rs52))))) m4 [(1, x1), (30, x30), (31, x31), (32, x32)] os
noncomputable def G52_4 (K : Nat → List SV → List SO → Out) (N nl : Nat) (m4 : Nat) (xs : List SV) (os : List SO) : Out := (fun env os nx => exec (cx K) N nl fi52 (subC c52 [1, 1, 0, 1, 0, 0]) env os (kLoop nx (kBlock 0 (kSeq (exec (cx K) N nl fi52 (subC c52 [1, 1, 1])) (fi52.jn 9) (kEnd tab [] nl rs52))))) (zipE [1, 30, 31, 32] xs) os (bk52_4 K N nl m4)
noncomputable def L52_10 (K : Nat → List SV → List SO → Out) (N nl : Nat) (m10 : Nat) (x1 x65 x66 x67 : SV) (os : List SO) : Out := loopS nl (fi52.lp 10) (fun env os nx => exec (cx K) N nl fi52 (subC c52 [1, 1, 1, 0, 1, 0, 0]) env os (kLoop nx (kBlock 2 (kSeq (exec (cx K) N nl fi52 (subC c52 [1, 1, 1, 1])) (fi52.jn 15) (kEnd tab [] nl rs52))))) m10 [(1, x1), (65, x65), (66, x66), (67, x67)] os
noncomputable def G52_10 (K : Nat → List SV → List SO → Out) (N nl : Nat) (m10 : Nat) (xs : List SV) (os : List SO) : Out := (fun env os nx => exec (cx K) N nl fi52 (subC c52 [1, 1, 1, 0, 1, 0, 0]) env os (kLoop nx (kBlock 2 (kSeq (exec (cx K) N nl fi52 (subC c52 [1, 1, 1, 1])) (fi52.jn 15) (kEnd tab [] nl rs52))))) (zipE [1, 65, 66, 67] xs) os (bk52_10 K N nl m10)
noncomputable def GB52_4 (K : Nat → List SV → List SO → Out) (N nl : Nat) (m4 : Nat) (x1 x30 x31 x32 : SV) (os : List SO) : Out :=
 bd (ret1 (binS tab .lss 3 x32 x31) os) fun v24 o24 =>
 condS v24 (bd (ret1 (indexAddrS tab o24 81 x30 x32) o24) fun v25 o25 =>
 bd (ret1 (loadS tab o25 99 v25) o25) fun v26 o26 =>
 bd (allocS tab o26 99) fun v27 o27 =>
 bd (storeO tab o27 99 v27 (some v26)) fun v28 o28 =>
 bd (ret1 (fieldAddrS tab 99 v27 0) o28) fun v29 o29 =>
 bd (ret1 (loadS tab o29 3 v29) o29) fun v30 o30 =>
 bd (callS ⟨tab, ownF, K⟩ o30 35 [v30, (SV.v (.int .i64 0)), (SV.v (.int .i64 5))]) fun v31 o31 =>
 bd (ret1 (unS .not v31) o31) fun v32 o32 =>
 bd (gd v32 false (ret1 (fieldAddrS tab 99 v27 1) o32) o32) fun v33 o33 =>
 bd (gd v32 false (ret1 (loadS tab o33 3 v33) o33) o33) fun v34 o34 =>
 bd (gd v32 false (callS ⟨tab, ownF, K⟩ o34 35 [v34, (SV.v (.int .i64 0)), (SV.v (.int .i64 9))]) o34) fun v35 o35 =>
 bd (gd v32 false (ret1 (unS .not v35) o35) o35) fun v36 o36 =>
 bd (ret1 (pickS v32 (SV.v (.bool true)) v36) o36) fun v37 o37 =>
 bd (gd v37 false (some (x32, o37)) o37) fun v38 o38 =>
 bd (gd v37 false (ret1 (binS tab .gtr 3 v38 (SV.v (.int .i64 0))) o38) o38) fun v39 o39 =>
 bd (gd v37 false (some (v39, o39)) o39) fun v40 o40 =>
 bd (gd v40 true (ret1 (fieldAddrS tab 99 v27 0) o40) o40) fun v41 o41 =>
 bd (gd v40 true (ret1 (loadS tab o41 3 v41) o41) o41) fun v42 o42 =>
 bd (gd v40 true (ret1 (fieldAddrS tab 84 x1 2) o42) o42) fun v43 o43 =>
 bd (gd v40 true (ret1 (loadS tab o43 81 v43) o43) o43) fun v44 o44 =>
 bd (gd v40 true (some (x32, o44)) o44) fun v45 o45 =>
 bd (gd v40 true (ret1 (binS tab .sub 3 v45 (SV.v (.int .i64 1))) o45) o45) fun v46 o46 =>
 bd (gd v40 true (ret1 (indexAddrS tab o46 81 v44 v46) o46) o46) fun v47 o47 =>
 bd (gd v40 true (ret1 (fieldAddrS tab 99 v47 0) o47) o47) fun v48 o48 =>
 bd (gd v40 true (ret1 (loadS tab o48 3 v48) o48) o48) fun v49 o49 =>
 bd (gd v40 true (ret1 (binS tab .leq 3 v42 v49) o49) o49) fun v50 o50 =>
 bd (gd v37 false (ret1 (pickS v40 v50 (SV.v (.bool false))) o50) o50) fun v51 o51 =>
 bd (ret1 (pickS v37 (SV.v (.bool true)) v51) o51) fun v52 o52 =>
 condS v52 (retV tab nl o52 (resC1 (some (SV.v (.bool false))) (some [])))
 (bd (ret1 (binS tab .add 3 x32 (SV.v (.int .i64 1))) o52) fun v53 o53 =>
 L52_4 K N nl m4 x1 x30 x31 v53 o53))
 (bd (ret1 (fieldAddrS tab 84 x1 3) o24) fun v54 o54 =>
 bd (ret1 (loadS tab o54 82 v54) o54) fun v55 o55 =>
 bd (lenO tab 82 o55 v55) fun v56 o56 =>
 L52_10 K N nl N x1 v55 v56 (SV.v (.int .i64 0)) o56)
noncomputable def GB52_10 (K : Nat → List SV → List SO → Out) (N nl : Nat) (m10 : Nat) (x1 x65 x66 x67 : SV) (os : List SO) : Out :=
 bd (ret1 (binS tab .lss 3 x67 x66) os) fun v57 o57 =>
 condS v57 (bd (ret1 (indexAddrS tab o57 82 x65 x67) o57) fun v58 o58 =>
 bd (ret1 (loadS tab o58 105 v58) o58) fun v59 o59 =>
 bd (allocS tab o59 105) fun v60 o60 =>
 bd (storeO tab o60 105 v60 (some v59)) fun v61 o61 =>
 bd (ret1 (fieldAddrS tab 105 v60 0) o61) fun v62 o62 =>
 bd (ret1 (loadS tab o62 3 v62) o62) fun v63 o63 =>
 bd (callS ⟨tab, ownF, K⟩ o63 69 [v63]) fun v64 o64 =>
 bd (ret1 (unS .not v64) o64) fun v65 o65 =>
 bd (gd v65 false (ret1 (fieldAddrS tab 105 v60 0) o65) o65) fun v66 o66 =>
 bd (gd v65 false (ret1 (loadS tab o66 3 v66) o66) o66) fun v67 o67 =>
 bd (gd v65 false (ret1 (fieldAddrS tab 84 x1 0) o67) o67) fun v68 o68 =>
 bd (gd v65 false (ret1 (loadS tab o68 3 v68) o68) o68) fun v69 o69 =>
 bd (gd v65 false (ret1 (binS tab .eql 3 v67 v69) o69) o69) fun v70 o70 =>
 bd (ret1 (pickS v65 (SV.v (.bool true)) v70) o70) fun v71 o71 =>
 bd (gd v71 false (ret1 (fieldAddrS tab 105 v60 1) o71) o71) fun v72 o72 =>
 bd (gd v71 false (ret1 (loadS tab o72 3 v72) o72) o72) fun v73 o73 =>
 bd (gd v71 false (callS ⟨tab, ownF, K⟩ o73 70 [v73]) o73) fun v74 o74 =>
 bd (gd v71 false (ret1 (unS .not v74) o74) o74) fun v75 o75 =>
 bd (ret1 (pickS v71 (SV.v (.bool true)) v75) o75) fun v76 o76 =>
 bd (gd v76 false (some (x67, o76)) o76) fun v77 o77 =>
 bd (gd v76 false (ret1 (binS tab .gtr 3 v77 (SV.v (.int .i64 0))) o77) o77) fun v78 o78 =>
 bd (gd v76 false (some (v78, o78)) o78) fun v79 o79 =>
 bd (gd v79 true (ret1 (fieldAddrS tab 105 v60 0) o79) o79) fun v80 o80 =>
 bd (gd v79 true (ret1 (loadS tab o80 3 v80) o80) o80) fun v81 o81 =>
 bd (gd v79 true (ret1 (fieldAddrS tab 84 x1 3) o81) o81) fun v82 o82 =>
 bd (gd v79 true (ret1 (loadS tab o82 82 v82) o82) o82) fun v83 o83 =>
 bd (gd v79 true (some (x67, o83)) o83) fun v84 o84 =>
 bd (gd v79 true (ret1 (binS tab .sub 3 v84 (SV.v (.int .i64 1))) o84) o84) fun v85 o85 =>
 bd (gd v79 true (ret1 (indexAddrS tab o85 82 v83 v85) o85) o85) fun v86 o86 =>
 bd (gd v79 true (ret1 (fieldAddrS tab 105 v86 0) o86) o86) fun v87 o87 =>
 bd (gd v79 true (ret1 (loadS tab o87 3 v87) o87) o87) fun v88 o88 =>
 bd (gd v79 true (ret1 (binS tab .leq 3 v81 v88) o88) o88) fun v89 o89 =>
 bd (gd v76 false (ret1 (pickS v79 v89 (SV.v (.bool false))) o89) o89) fun v90 o90 =>
 bd (ret1 (pickS v76 (SV.v (.bool true)) v90) o90) fun v91 o91 =>
 condS v91 (retV tab nl o91 (resC1 (some (SV.v (.bool false))) (some [])))
 (bd (ret1 (binS tab .add 3 x67 (SV.v (.int .i64 1))) o91) fun v92 o92 =>
 L52_10 K N nl m10 x1 x65 x66 v92 o92))
 (retV tab nl o57 (resC1 (some (SV.v (.bool true))) (some [])))
noncomputable def X52 (K : Nat → List SV → List SO → Out) (N nl : Nat) (x0 : SV) (os : List SO) : Out := exec (cx K) N nl fi52 c52 [(0, x0)] os (kEnd tab [] nl rs52)
noncomputable def B52 (K : Nat → List SV → List SO → Out) (N nl : Nat) (x0 : SV) (os : List SO) : Out :=
 bd (boxS tab os 84 (some x0)) fun v1 o1 =>
 bd (ret1 (fieldAddrS tab 84 v1 0) o1) fun v2 o2 =>
 bd (ret1 (loadS tab o2 3 v2) o2) fun v3 o3 =>
 bd (callS ⟨tab, ownF, K⟩ o3 69 [v3]) fun v4 o4 =>
 bd (ret1 (unS .not v4) o4) fun v5 o5 =>
 bd (gd v5 false (ret1 (fieldAddrS tab 84 v1 1) o5) o5) fun v6 o6 =>
 bd (gd v5 false (ret1 (loadS tab o6 3 v6) o6) o6) fun v7 o7 =>
 bd (gd v5 false (callS ⟨tab, ownF, K⟩ o7 70 [v7]) o7) fun v8 o8 =>
 bd (gd v5 false (ret1 (unS .not v8) o8) o8) fun v9 o9 =>
 bd (ret1 (pickS v5 (SV.v (.bool true)) v9) o9) fun v10 o10 =>
 bd (gd v10 false (ret1 (fieldAddrS tab 84 v1 2) o10) o10) fun v11 o11 =>
 bd (gd v10 false (ret1 (loadS tab o11 81 v11) o11) o11) fun v12 o12 =>
 bd (gd v10 false (lenO tab 81 o12 v12) o12) fun v13 o13 =>
 bd (gd v10 false (ret1 (binS tab .gtr 3 v13 (SV.v (.int .i64 2))) o13) o13) fun v14 o14 =>
 bd (ret1 (pickS v10 (SV.v (.bool true)) v14) o14) fun v15 o15 =>
 bd (gd v15 false (ret1 (fieldAddrS tab 84 v1 3) o15) o15) fun v16 o16 =>
 bd (gd v15 false (ret1 (loadS tab o16 82 v16) o16) o16) fun v17 o17 =>
 bd (gd v15 false (lenO tab 82 o17 v17) o17) fun v18 o18 =>
 bd (gd v15 false (ret1 (binS tab .gtr 3 v18 (SV.v (.int .i64 2))) o18) o18) fun v19 o19 =>
 bd (ret1 (pickS v15 (SV.v (.bool true)) v19) o19) fun v20 o20 =>
 condS v20 (retV tab nl o20 (resC1 (some (SV.v (.bool false))) (some [])))
 (bd (ret1 (fieldAddrS tab 84 v1 2) o20) fun v21 o21 =>
 bd (ret1 (loadS tab o21 81 v21) o21) fun v22 o22 =>
 bd (lenO tab 81 o22 v22) fun v23 o23 =>
 L52_4 K N nl N v1 v22 v23 (SV.v (.int .i64 0)) o23)
noncomputable def X53 (K : Nat → List SV → List SO → Out) (N nl : Nat) (x0 x1 : SV) (os : List SO) : Out := exec (cx K) N nl fi53 c53 [(0, x0), (1, x1)] os (kEnd tab [] nl rs53)
noncomputable def B53 (K : Nat → List SV → List SO → Out) (N nl : Nat) (x0 x1 : SV) (os : List SO) : Out :=
 bd (boxS tab os 84 (some x0)) fun v1 o1 =>
 bd (boxS tab o1 84 (some x1)) fun v2 o2 =>
 bd (ret1 (fieldAddrS tab 84 v1 0) o2) fun v3 o3 =>
 bd (ret1 (loadS tab o3 3 v3) o3) fun v4 o4 =>
 bd (ret1 (fieldAddrS tab 84 v2 0) o4) fun v5 o5 =>
 bd (ret1 (loadS tab o5 3 v5) o5) fun v6 o6 =>
 dchk (keepOk ⟨tab, ownF, K⟩ o6 (SV.fn 72 []) [v4, v6] [] true) <|
 bd (callS ⟨tab, ownF, K⟩ o6 72 [v4, v6]) fun v7 o7 =>
 bd (ret1 (fieldAddrS tab 84 v1 1) o7) fun v8 o8 =>
 dchk (isBox v8) <|
 bd (ret1 (loadS tab o8 3 v8) o8) fun v9 o9 =>
 bd (ret1 (fieldAddrS tab 84 v2 1) o9) fun v10 o10 =>
 dchk (isBox v10) <|
 bd (ret1 (loadS tab o10 3 v10) o10) fun v11 o11 =>
 bd (callS ⟨tab, ownF, K⟩ o11 72 [v9, v11]) fun v12 o12 =>
 bd (buildSliceS tab o12 23 2 [(0, v7), (1, v12)]) fun v13 o13 =>
 bd (callS ⟨tab, ownF, K⟩ o13 71 [v13]) fun v14 o14 =>
 retV tab nl o14 (resC1 (some v14) (some []))
noncomputable def X54 (K : Nat → List SV → List SO → Out) (N nl : Nat) (x0 x1 : SV) (os : List SO) : Out := exec (cx K) N nl fi54 c54 [(0, x0), (1, x1)] os (kEnd tab [] nl rs54)
noncomputable def B54 (K : Nat → List SV → List SO → Out) (N nl : Nat) (x0 x1 : SV) (os : List SO) : Out :=
 bd (boxS tab os 33 (some x0)) fun v1 o1 =>
 bd (boxS tab o1 33 (some x1)) fun v2 o2 =>
 bd (ret1 (fieldAddrS tab 33 v1 0) o2) fun v3 o3 =>
 bd (ret1 (loadS tab o3 3 v3) o3) fun v4 o4 =>
 bd (ret1 (fieldAddrS tab 33 v2 0) o4) fun v5 o5 =>
 bd (ret1 (loadS tab o5 3 v5) o5) fun v6 o6 =>
 bd (ret1 (binS tab .eql 3 v4 v6) o6) fun v7 o7 =>
 bd (gd v7 true (ret1 (fieldAddrS tab 33 v1 1) o7) o7) fun v8 o8 =>
 bd (gd v7 true (ret1 (loadS tab o8 3 v8) o8) o8) fun v9 o9 =>
 bd (gd v7 true (ret1 (fieldAddrS tab 33 v2 1) o9) o9) fun v10 o10 =>
 bd (gd v7 true (ret1 (loadS tab o10 3 v10) o10) o10) fun v11 o11 =>
 bd (gd v7 true (ret1 (binS tab .eql 3 v9 v11) o11) o11) fun v12 o12 =>
 bd (ret1 (pickS v7 v12 (SV.v (.bool false))) o12) fun v13 o13 =>
 bd (gd v13 true (ret1 (fieldAddrS tab 33 v1 2) o13) o13) fun v14 o14 =>
 bd (gd v13 true (ret1 (loadS tab o14 31 v14) o14) o14) fun v15 o15 =>
 bd (gd v13 true (ret1 (fieldAddrS tab 33 v2 2) o15) o15) fun v16 o16 =>
 bd (gd v13 true (ret1 (loadS tab o16 31 v16) o16) o16) fun v17 o17 =>
 bd (gd v13 true (callS ⟨tab, ownF, K⟩ o17 73 [v15, v17]) o17) fun v18 o18 =>
 bd (ret1 (pickS v13 v18 (SV.v (.bool false))) o18) fun v19 o19 =>
 retV tab nl o19 (resC1 (some v19) (some []))
noncomputable def X55 (K : Nat → List SV → List SO → Out) (N nl : Nat) (x0 : SV) (os : List SO) : Out := exec (cx K) N nl fi55 c55 [(0, x0)] os (kEnd tab [] nl rs55)
noncomputable def B55 (K : Nat → List SV → List SO → Out) (N nl : Nat) (x0 : SV) (os : List SO) : Out :=
 bd (callS ⟨tab, ownF, K⟩ os 35 [x0, (SV.v (.int .i64 (-2))), (SV.v (.int .i64 9))]) fun v1 o1 =>
 bd (ret1 (unS .not v1) o1) fun v2 o2 =>
 retV tab nl o2 (resC1 (some v2) (some []))
noncomputable def X56 (K : Nat → List SV → List SO → Out) (N nl : Nat) (x0 x1 : SV) (os : List SO) : Out := exec (cx K) N nl fi56 c56 [(0, x0), (1, x1)] os (kEnd tab [] nl rs56)
noncomputable def B56 (K : Nat → List SV → List SO → Out) (N nl : Nat) (x0 x1 : SV) (os : List SO) : Out :=
 bd (callS ⟨tab, ownF, K⟩ os 74 [x0, x1]) fun v1 o1 =>
 bd (ret1 (binS tab .geq 3 v1 (SV.v (.int .i64 0))) o1) fun v2 o2 =>
 retV tab nl o2 (resC1 (some v2) (some []))
noncomputable def bk57_5 (K : Nat → List SV → List SO → Out) (N nl : Nat) (m5 : Nat) : Env → List SO → Out := fun env os => loopS nl (fi57.lp 5) (fun env os nx => exec (cx K) N nl fi57 (subC c57 [1, 1, 1, 0, 1, 0, 0]) env os (kLoop nx (kBlock 0 (kSeq (exec (cx K) N nl fi57 (subC c57 [1, 1, 1, 1])) (fi57.jn 17) (kEnd tab [] nl rs57))))) m5 (killS (fi57.lp 5).alive env) os
noncomputable def bk57_10 (K : Nat → List SV → List SO → Out) (N nl : Nat) (m5 : Nat) (m10 : Nat) : Env → List SO → Out := fun env os => loopS nl (fi57.lp 10) (fun env os nx => exec (cx K) N nl fi57 (subC c57 [1, 1, 1, 0, 1, 0, 0, 1, 1, 0, 0, 1, 1, 1, 0, 0]) env os (kLoop nx (kBlock 2 (kBlock 1 (kSeq (exec (cx K) N nl fi57 (subC c57 [1, 1, 1, 0, 1, 0, 0, 1, 1, 1])) (fi57.jn 16) (kLoop (bk57_5 K N nl m5) (kBlock 0 (kSeq (exec (cx K) N nl fi57 (subC c57 [1, 1, 1, 1])) (fi57.jn 17) (kEnd tab [] nl rs57))))))))) m10 (killS (fi57.lp 10).alive env) os
noncomputable def L57_5 (K : Nat → List SV → List SO → Out) (N nl : Nat) (m5 : Nat) (x1 x3 x11 x12 x13 : SV) (os : List SO) : Out := loopS nl (fi57.lp 5) (fun env os nx => exec (cx K) N nl fi57 (subC c57 [1, 1, 1, 0, 1, 0, 0]) env os (kLoop nx (kBlock 0 (kSeq (exec (cx K) N nl fi57 (subC c57 [1, 1, 1, 1])) (fi57.jn 17) (kEnd tab [] nl rs57))))) m5 [(1, x1), (3, x3), (11, x11), (12, x12), (13, x13)] os
noncomputable def G57_5 (K : Nat → List SV → List SO → Out) (N nl : Nat) (m5 : Nat) (xs : List SV) (os : List SO) : Out := (fun env os nx => exec (cx K) N nl fi57 (subC c57 [1, 1, 1, 0, 1, 0, 0]) env os (kLoop nx (kBlock 0 (kSeq (exec (cx K) N nl fi57 (subC c57 [1, 1, 1, 1])) (fi57.jn 17) (kEnd tab [] nl rs57))))) (zipE [1, 3, 11, 12, 13] xs) os (bk57_5 K N nl m5)
noncomputable def L57_10 (K : Nat → List SV → List SO → Out) (N nl : Nat) (m5 : Nat) (m10 : Nat) (x1 x3 x11 x12 x13 x38 x39 x40 : SV) (os : List SO) : Out := loopS nl (fi57.lp 10) (fun env os nx => exec (cx K) N nl fi57 (subC c57 [1, 1, 1, 0, 1, 0, 0, 1, 1, 0, 0, 1, 1, 1, 0, 0]) env os (kLoop nx (kBlock 2 (kBlock 1 (kSeq (exec (cx K) N nl fi57 (subC c57 [1, 1, 1, 0, 1, 0, 0, 1, 1, 1])) (fi57.jn 16) (kLoop (bk57_5 K N nl m5) (kBlock 0 (kSeq (exec (cx K) N nl fi57 (subC c57 [1, 1, 1, 1])) (fi57.jn 17) (kEnd tab [] nl rs57))))))))) m10 [(1, x1), (3, x3), (11, x11), (12, x12), (13, x13), (38, x38), (39, x39), (40, x40)] os
noncomputable def G57_10 (K : Nat → List SV → List SO → Out) (N nl : Nat) (m5 : Nat) (m10 : Nat) (xs : List SV) (os : List SO) : Out := (fun env os nx => exec (cx K) N nl fi57 (subC c57 [1, 1, 1, 0, 1, 0, 0, 1, 1, 0, 0, 1, 1, 1, 0, 0]) env os (kLoop nx (kBlock 2 (kBlock 1 (kSeq (exec (cx K) N nl fi57 (subC c57 [1, 1, 1, 0, 1, 0, 0, 1, 1, 1])) (fi57.jn 16) (kLoop (bk57_5 K N nl m5) (kBlock 0 (kSeq (exec (cx K) N nl fi57 (subC c57 [1, 1, 1, 1])) (fi57.jn 17) (kEnd tab [] nl rs57))))))))) (zipE [1, 3, 11, 12, 13, 38, 39, 40] xs) os (bk57_10 K N nl m5 m10)
noncomputable def GB57_5 (K : Nat → List SV → List SO → Out) (N nl : Nat) (m5 : Nat) (x1 x3 x11 x12 x13 : SV) (os : List SO) : Out :=
 bd (ret1 (binS tab .lss 3 x13 x12) os) fun v8 o8 =>
 condS v8 (bd (ret1 (indexAddrS tab o8 30 x11 x13) o8) fun v9 o9 =>
 bd (ret1 (loadS tab o9 84 v9) o9) fun v10 o10 =>
 bd (allocS tab o10 84) fun v11 o11 =>
 bd (storeO tab o11 84 v11 (some v10)) fun v12 o12 =>
 bd (ret1 (binS tab .gtr 3 x13 (SV.v (.int .i64 0))) o12) fun v13 o13 =>
 bd (gd v13 true (ret1 (loadS tab o13 30 x1) o13) o13) fun v14 o14 =>
 bd (gd v13 true (some (x13, o14)) o14) fun v15 o15 =>
 bd (gd v13 true (ret1 (binS tab .sub 3 v15 (SV.v (.int .i64 1))) o15) o15) fun v16 o16 =>
 bd (gd v13 true (ret1 (indexAddrS tab o16 30 v14 v16) o16) o16) fun v17 o17 =>
 bd (gd v13 true (ret1 (fieldAddrS tab 84 v17 0) o17) o17) fun v18 o18 =>
 bd (gd v13 true (ret1 (loadS tab o18 3 v18) o18) o18) fun v19 o19 =>
 bd (gd v13 true (ret1 (fieldAddrS tab 84 v11 0) o19) o19) fun v20 o20 =>
 bd (gd v13 true (ret1 (loadS tab o20 3 v20) o20) o20) fun v21 o21 =>
 bd (gd v13 true (ret1 (binS tab .eql 3 v19 v21) o21) o21) fun v22 o22 =>
 bd (ret1 (pickS v13 v22 (SV.v (.bool false))) o22) fun v23 o23 =>
 bd (gd v23 false (ret1 (fieldAddrS tab 84 v11 3) o23) o23) fun v24 o24 =>
 bd (gd v23 false (ret1 (loadS tab o24 82 v24) o24) o24) fun v25 o25 =>
 bd (gd v23 false (some ((SV.fn 76 [x1]), o25)) o25) fun v26 o26 =>
 bd (gd v23 false (callS ⟨tab, ownF, K⟩ o26 75 [v25, v26]) o26) fun v27 o27 =>
 bd (ret1 (pickS v23 (SV.v (.bool true)) v27) o27) fun v28 o28 =>
 condS v28 (retV tab nl o28 (resC1 (some (SV.v (.bool false))) (some [])))
 (bd (ret1 (fieldAddrS tab 84 v11 2) o28) fun v29 o29 =>
 bd (ret1 (loadS tab o29 81 v29) o29) fun v30 o30 =>
 bd (lenO tab 81 o30 v30) fun v31 o31 =>
 L57_10 K N nl m5 N x1 x3 x11 x12 x13 v30 v31 (SV.v (.int .i64 0)) o31))
 (retV tab nl o8 (resC1 (some (SV.v (.bool true))) (some [])))
noncomputable def GB57_10 (K : Nat → List SV → List SO → Out) (N nl : Nat) (m5 : Nat) (m10 : Nat) (x1 x3 x11 x12 x13 x38 x39 x40 : SV) (os : List SO) : Out :=
 bd (ret1 (binS tab .lss 3 x40 x39) os) fun v32 o32 =>
 condS v32 (bd (ret1 (indexAddrS tab o32 81 x38 x40) o32) fun v33 o33 =>
 bd (ret1 (loadS tab o33 99 v33) o33) fun v34 o34 =>
 bd (allocS tab o34 99) fun v35 o35 =>
 bd (storeO tab o35 99 v35 (some v34)) fun v36 o36 =>
 bd (ret1 (fieldAddrS tab 99 v35 0) o36) fun v37 o37 =>
 bd (ret1 (loadS tab o37 3 v37) o37) fun v38 o38 =>
 bd (ret1 (indexAddrS tab o38 111 x3 v38) o38) fun v39 o39 =>
 bd (ret1 (loadS tab o39 4 v39) o39) fun v40 o40 =>
 condS v40 (retV tab nl o40 (resC1 (some (SV.v (.bool false))) (some [])))
 (bd (ret1 (fieldAddrS tab 99 v35 0) o40) fun v41 o41 =>
 bd (ret1 (loadS tab o41 3 v41) o41) fun v42 o42 =>
 bd (ret1 (indexAddrS tab o42 111 x3 v42) o42) fun v43 o43 =>
 bd (storeO tab o43 4 v43 (some (SV.v (.bool true)))) fun v44 o44 =>
 bd (ret1 (binS tab .add 3 x40 (SV.v (.int .i64 1))) o44) fun v45 o45 =>
 L57_10 K N nl m5 m10 x1 x3 x11 x12 x13 x38 x39 v45 o45))
 (bd (ret1 (binS tab .add 3 x13 (SV.v (.int .i64 1))) o32) fun v46 o46 =>
 L57_5 K N nl m5 x1 x3 x11 x12 v46 o46)
noncomputable def X57 (K : Nat → List SV → List SO → Out) (N nl : Nat) (x0 : SV) (os : List SO) : Out := exec (cx K) N nl fi57 c57 [(0, x0)] os (kEnd tab [] nl rs57)
noncomputable def B57 (K : Nat → List SV → List SO → Out) (N nl : Nat) (x0 : SV) (os : List SO) : Out :=
 bd (boxS tab os 30 (some x0)) fun v1 o1 =>
 bd (ret1 (loadS tab o1 30 v1) o1) fun v2 o2 =>
 bd (callS ⟨tab, ownF, K⟩ o2 38 [v2]) fun v3 o3 =>
 bd (ret1 (unS .not v3) o3) fun v4 o4 =>
 condS v4 (retV tab nl o4 (resC1 (some (SV.v (.bool false))) (some [])))
 (bd (allocS tab o4 111) fun v5 o5 =>
 bd (ret1 (loadS tab o5 30 v1) o5) fun v6 o6 =>
 bd (lenO tab 30 o6 v6) fun v7 o7 =>
 L57_5 K N nl N v1 v5 v6 v7 (SV.v (.int .i64 0)) o7)
noncomputable def X58 (K : Nat → List SV → List SO → Out) (N nl : Nat) (x0 x1 : SV) (os : List SO) : Out := exec (cx K) N nl fi58 c58 [(0, x0), (1, x1)] os (kEnd tab [] nl rs58)
noncomputable def B58 (K : Nat → List SV → List SO → Out) (N nl : Nat) (x0 x1 : SV) (os : List SO) : Out :=
 bd (boxS tab os 61 (some x0)) fun v1 o1 =>
 bd (ret1 (fieldAddrS tab 61 v1 0) o1) fun v2 o2 =>
 bd (ret1 (loadS tab o2 25 v2) o2) fun v3 o3 =>
 bd (ret1 (fieldAddrS tab 39 x1 5) o3) fun v4 o4 =>
 bd (ret1 (fieldAddrS tab 35 v4 0) o4) fun v5 o5 =>
 bd (ret1 (loadS tab o5 25 v5) o5) fun v6 o6 =>
 bd (callS ⟨tab, ownF, K⟩ o6 59 [v3, v6]) fun v7 o7 =>
 retV tab nl o7 (resC1 (some v7) (some []))
noncomputable def X59 (K : Nat → List SV → List SO → Out) (N nl : Nat) (x0 x1 : SV) (os : List SO) : Out := exec (cx K) N nl fi59 c59 [(0, x0), (1, x1)] os (kEnd tab [] nl rs59)
noncomputable def B59 (K : Nat → List SV → List SO → Out) (N nl : Nat) (x0 x1 : SV) (os : List SO) : Out :=
 bd (boxS tab os 25 (some x0)) fun v1 o1 =>
 bd (boxS tab o1 25 (some x1)) fun v2 o2 =>
 bd (ret1 (fieldAddrS tab 25 v1 0) o2) fun v3 o3 =>
 bd (ret1 (loadS tab o3 3 v3) o3) fun v4 o4 =>
 bd (ret1 (fieldAddrS tab 25 v2 0) o4) fun v5 o5 =>
 bd (ret1 (loadS tab o5 3 v5) o5) fun v6 o6 =>
 bd (ret1 (binS tab .eql 3 v4 v6) o6) fun v7 o7 =>
 bd (gd v7 true (ret1 (fieldAddrS tab 25 v1 2) o7) o7) fun v8 o8 =>
 bd (gd v7 true (ret1 (loadS tab o8 3 v8) o8) o8) fun v9 o9 =>
 bd (gd v7 true (ret1 (fieldAddrS tab 25 v2 2) o9) o9) fun v10 o10 =>
 bd (gd v7 true (ret1 (loadS tab o10 3 v10) o10) o10) fun v11 o11 =>
 bd (gd v7 true (ret1 (binS tab .eql 3 v9 v11) o11) o11) fun v12 o12 =>
 bd (ret1 (pickS v7 v12 (SV.v (.bool false))) o12) fun v13 o13 =>
 bd (gd v13 true (ret1 (fieldAddrS tab 25 v1 1) o13) o13) fun v14 o14 =>
 bd (gd v13 true (ret1 (loadS tab o14 23 v14) o14) o14) fun v15 o15 =>
 bd (gd v13 true (ret1 (fieldAddrS tab 25 v2 1) o15) o15) fun v16 o16 =>
 bd (gd v13 true (ret1 (loadS tab o16 23 v16) o16) o16) fun v17 o17 =>
 bd (gd v13 true (callS ⟨tab, ownF, K⟩ o17 42 [v15, v17]) o17) fun v18 o18 =>
 bd (ret1 (pickS v13 v18 (SV.v (.bool false))) o18) fun v19 o19 =>
 retV tab nl o19 (resC1 (some v19) (some []))
noncomputable def X62 (K : Nat → List SV → List SO → Out) (N nl : Nat) (x0 x1 : SV) (os : List SO) : Out := exec (cx K) N nl fi62 c62 [(0, x0), (1, x1)] os (kEnd tab [] nl rs62)
noncomputable def B62 (K : Nat → List SV → List SO → Out) (N nl : Nat) (x0 x1 : SV) (os : List SO) : Out :=
 bd (callS ⟨tab, ownF, K⟩ os 78 [x0, x1]) fun v1 o1 =>
 bd (ret1 (binS tab .geq 3 v1 (SV.v (.int .i64 0))) o1) fun v2 o2 =>
 retV tab nl o2 (resC1 (some v2) (some []))
noncomputable def X64 (K : Nat → List SV → List SO → Out) (N nl : Nat) (x0 x1 : SV) (os : List SO) : Out := exec (cx K) N nl fi64 c64 [(0, x0), (1, x1)] os (kEnd tab [] nl rs64)
noncomputable def B64 (K : Nat → List SV → List SO → Out) (N nl : Nat) (x0 x1 : SV) (os : List SO) : Out :=
 bd (callS ⟨tab, ownF, K⟩ os 81 [x0, x1]) fun v1 o1 =>
 bd (ret1 (binS tab .geq 3 v1 (SV.v (.int .i64 0))) o1) fun v2 o2 =>
 retV tab nl o2 (resC1 (some v2) (some []))
noncomputable def bk66_3 (K : Nat → List SV → List SO → Out) (N nl : Nat) (m3 : Nat) : Env → List SO → Out := fun env os => loopS nl (fi66.lp 3) (fun env os nx => exec (cx K) N nl fi66 (subC c66 [1, 1, 0, 1, 0, 0]) env os (kLoop nx (kBlock 0 (kSeq (exec (cx K) N nl fi66 (subC c66 [1, 1, 1])) (fi66.jn 9) (kEnd tab [] nl rs66))))) m3 (killS (fi66.lp 3).alive env) os
noncomputable def bk66_11 (K : Nat → List SV → List SO → Out) (N nl : Nat) (m11 : Nat) : Env → List SO → Out := fun env os => loopS nl (fi66.lp 11) (fun env os nx => exec (cx K) N nl fi66 (subC c66 [1, 1, 1, 1, 0, 1, 0, 0]) env os (kLoop nx (kBlock 2 (kSeq (exec (cx K) N nl fi66 (subC c66 [1, 1, 1, 1, 1])) (fi66.jn 15) (kEnd tab [] nl rs66))))) m11 (killS (fi66.lp 11).alive env) os
noncomputable def X67 (K : Nat → List SV → List SO → Out) (N nl : Nat) (x0 x1 : SV) (os : List SO) : Out := exec (cx K) N nl fi67 c67 [(0, x0), (1, x1)] os (kEnd tab [] nl rs67)
noncomputable def B67 (K : Nat → List SV → List SO → Out) (N nl : Nat) (x0 x1 : SV) (os : List SO) : Out :=
 bd (callS ⟨tab, ownF, K⟩ os 84 [x0, x1]) fun v1 o1 =>
 bd (ret1 (binS tab .geq 3 v1 (SV.v (.int .i64 0))) o1) fun v2 o2 =>
 retV tab nl o2 (resC1 (some v2) (some []))
noncomputable def X69 (K : Nat → List SV → List SO → Out) (N nl : Nat) (x0 : SV) (os : List SO) : Out := exec (cx K) N nl fi69 c69 [(0, x0)] os (kEnd tab [] nl rs69)
noncomputable def B69 (K : Nat → List SV → List SO → Out) (N nl : Nat) (x0 : SV) (os : List SO) : Out :=
 bd (callS ⟨tab, ownF, K⟩ os 35 [x0, (SV.v (.int .i64 1)), (SV.v (.int .i64 4))]) fun v1 o1 =>
 retV tab nl o1 (resC1 (some v1) (some []))
noncomputable def X70 (K : Nat → List SV → List SO → Out) (N nl : Nat) (x0 : SV) (os : List SO) : Out := exec (cx K) N nl fi70 c70 [(0, x0)] os (kEnd tab [] nl rs70)
noncomputable def B70 (K : Nat → List SV → List SO → Out) (N nl : Nat) (x0 : SV) (os : List SO) : Out :=
 bd (callS ⟨tab, ownF, K⟩ os 35 [x0, (SV.v (.int .i64 1)), (SV.v (.int .i64 5))]) fun v1 o1 =>
 retV tab nl o1 (resC1 (some v1) (some []))
noncomputable def bk71_3 (K : Nat → List SV → List SO → Out) (N nl : Nat) (m3 : Nat) : Env → List SO → Out := fun env os => loopS nl (fi71.lp 3) (fun env os nx => exec (cx K) N nl fi71 (subC c71 [1, 1, 0, 1, 0, 0]) env os (kLoop nx (kBlock 0 (kSeq (exec (cx K) N nl fi71 (subC c71 [1, 1, 1])) (fi71.jn 8) (kEnd tab [] nl rs71))))) m3 (killS (fi71.lp 3).alive env) os
noncomputable def L71_3 (K : Nat → List SV → List SO → Out) (N nl : Nat) (m3 : Nat) (x3 x6 x7 x8 : SV) (os : List SO) : Out := loopS nl (fi71.lp 3) (fun env os nx => exec (cx K) N nl fi71 (subC c71 [1, 1, 0, 1, 0, 0]) env os (kLoop nx (kBlock 0 (kSeq (exec (cx K) N nl fi71 (subC c71 [1, 1, 1])) (fi71.jn 8) (kEnd tab [] nl rs71))))) m3 [(3, x3), (6, x6), (7, x7), (8, x8)] os
noncomputable def LB71_3 (K : Nat → List SV → List SO → Out) (N nl : Nat) (m3 : Nat) (x3 x6 x7 x8 : SV) (os : List SO) : Out :=
 bd (ret1 (binS tab .lss 3 x8 x7) os) fun v2 o2 =>
 condS v2 (bd (ret1 (indexAddrS tab o2 23 x6 x8) o2) fun v3 o3 =>
 bd (ret1 (loadS tab o3 3 v3) o3) fun v4 o4 =>
 bd (ret1 (binS tab .neq 3 v4 x3) o4) fun v5 o5 =>
 condS v5 (retV tab nl o5 (resC1 (some v4) (some [])))
 (bd (ret1 (binS tab .add 3 x8 (SV.v (.int .i64 1))) o5) fun v6 o6 =>
 L71_3 K N nl m3 x3 x6 x7 v6 o6))
 (retV tab nl o2 (resC1 (some x3) (some [])))
noncomputable def X71 (K : Nat → List SV → List SO → Out) (N nl : Nat) (x0 : SV) (os : List SO) : Out := exec (cx K) N nl fi71 c71 [(0, x0)] os (kEnd tab [] nl rs71)
noncomputable def B71 (K : Nat → List SV → List SO → Out) (N nl : Nat) (x0 : SV) (os : List SO) : Out :=
 bd (lenO tab 23 os x0) fun v1 o1 =>
 L71_3 K N nl N (SV.v (.int .i64 0)) x0 v1 (SV.v (.int .i64 0)) o1
noncomputable def X72 (K : Nat → List SV → List SO → Out) (N nl : Nat) (x0 x1 : SV) (os : List SO) : Out := exec (cx K) N nl fi72 c72 [(0, x0), (1, x1)] os (kEnd tab [] nl rs72)
noncomputable def B72 (K : Nat → List SV → List SO → Out) (N nl : Nat) (x0 x1 : SV) (os : List SO) : Out :=
 bd (callS ⟨tab, ownF, K⟩ os 87 [x0]) fun v1 o1 =>
 bd (callS ⟨tab, ownF, K⟩ o1 87 [x1]) fun v2 o2 =>
 condS v1 (condS v2 (retV tab nl o2 (resC1 (some (SV.v (.int .i64 0))) (some [])))
 (retV tab nl o2 (resC1 (some (SV.v (.int .i64 (-1)))) (some []))))
 (condS v2 (retV tab nl o2 (resC1 (some (SV.v (.int .i64 1))) (some [])))
 (bd (ret1 (binS tab .lss 3 x0 x1) o2) fun v3 o3 =>
 condS v3 (retV tab nl o3 (resC1 (some (SV.v (.int .i64 (-1)))) (some [])))
 (bd (ret1 (binS tab .gtr 3 x0 x1) o3) fun v4 o4 =>
 condS v4 (retV tab nl o4 (resC1 (some (SV.v (.int .i64 1))) (some [])))
 (retV tab nl o4 (resC1 (some (SV.v (.int .i64 0))) (some []))))))
noncomputable def bk73_4 (K : Nat → List SV → List SO → Out) (N nl : Nat) (m4 : Nat) : Env → List SO → Out := fun env os => loopS nl (fi73.lp 4) (fun env os nx => exec (cx K) N nl fi73 (subC c73 [1, 1, 0, 1, 0, 0]) env os (kLoop nx (kBlock 0 (kSeq (exec (cx K) N nl fi73 (subC c73 [1, 1, 1])) (fi73.jn 9) (kEnd tab [] nl rs73))))) m4 (killS (fi73.lp 4).alive env) os
noncomputable def L73_4 (K : Nat → List SV → List SO → Out) (N nl : Nat) (m4 : Nat) (x0 x1 x12 x13 : SV) (os : List SO) : Out := loopS nl (fi73.lp 4) (fun env os nx => exec (cx K) N nl fi73 (subC c73 [1, 1, 0, 1, 0, 0]) env os (kLoop nx (kBlock 0 (kSeq (exec (cx K) N nl fi73 (subC c73 [1, 1, 1])) (fi73.jn 9) (kEnd tab [] nl rs73))))) m4 [(0, x0), (1, x1), (12, x12), (13, x13)] os
noncomputable def LB73_4 (K : Nat → List SV → List SO → Out) (N nl : Nat) (m4 : Nat) (x0 x1 x12 x13 : SV) (os : List SO) : Out :=
 bd (ret1 (binS tab .lss 3 x13 x12) os) fun v5 o5 =>
 condS v5 (bd (ret1 (indexAddrS tab o5 31 x0 x13) o5) fun v6 o6 =>
 bd (ret1 (loadS tab o6 107 v6) o6) fun v7 o7 =>
 bd (ret1 (indexAddrS tab o7 31 x1 x13) o7) fun v8 o8 =>
 bd (ret1 (loadS tab o8 107 v8) o8) fun v9 o9 =>
 bd (ret1 (binS tab .neq 107 v7 v9) o9) fun v10 o10 =>
 condS v10 (retV tab nl o10 (resC1 (some (SV.v (.bool false))) (some [])))
 (bd (ret1 (binS tab .add 3 x13 (SV.v (.int .i64 1))) o10) fun v11 o11 =>
 L73_4 K N nl m4 x0 x1 x12 v11 o11))
 (retV tab nl o5 (resC1 (some (SV.v (.bool true))) (some [])))
noncomputable def X73 (K : Nat → List SV → List SO → Out) (N nl : Nat) (x0 x1 : SV) (os : List SO) : Out := exec (cx K) N nl fi73 c73 [(0, x0), (1, x1)] os (kEnd tab [] nl rs73)
noncomputable def B73 (K : Nat → List SV → List SO → Out) (N nl : Nat) (x0 x1 : SV) (os : List SO) : Out :=
 bd (lenO tab 31 os x0) fun v1 o1 =>
 bd (lenO tab 31 o1 x1) fun v2 o2 =>
 bd (ret1 (binS tab .neq 3 v1 v2) o2) fun v3 o3 =>
 condS v3 (retV tab nl o3 (resC1 (some (SV.v (.bool false))) (some [])))
 (bd (lenO tab 31 o3 x0) fun v4 o4 =>
 L73_4 K N nl N x0 x1 v4 (SV.v (.int .i64 0)) o4)
noncomputable def bk74_2 (K : Nat → List SV → List SO → Out) (N nl : Nat) (m2 : Nat) : Env → List SO → Out := fun env os => loopS nl (fi74.lp 2) (fun env os nx => exec (cx K) N nl fi74 (subC c74 [1, 0, 1, 0, 0]) env os (kLoop nx (kBlock 0 (kSeq (exec (cx K) N nl fi74 (subC c74 [1, 1])) (fi74.jn 7) (kEnd tab [] nl rs74))))) m2 (killS (fi74.lp 2).alive env) os
noncomputable def L74_2 (K : Nat → List SV → List SO → Out) (N nl : Nat) (m2 : Nat) (x0 x1 x7 x8 : SV) (os : List SO) : Out := loopS nl (fi74.lp 2) (fun env os nx => exec (cx K) N nl fi74 (subC c74 [1, 0, 1, 0, 0]) env os (kLoop nx (kBlock 0 (kSeq (exec (cx K) N nl fi74 (subC c74 [1, 1])) (fi74.jn 7) (kEnd tab [] nl rs74))))) m2 [(0, x0), (1, x1), (7, x7), (8, x8)] os
noncomputable def LB74_2 (K : Nat → List SV → List SO → Out) (N nl : Nat) (m2 : Nat) (x0 x1 x7 x8 : SV) (os : List SO) : Out :=
 bd (ret1 (binS tab .lss 3 x8 x7) os) fun v2 o2 =>
 condS v2 (bd (ret1 (indexAddrS tab o2 23 x0 x8) o2) fun v3 o3 =>
 bd (ret1 (loadS tab o3 3 v3) o3) fun v4 o4 =>
 bd (calleeS ⟨tab, ownF, K⟩ o4 x1 [v4]) fun v5 o5 =>
 condS v5 (retV tab nl o5 (resC1 (some x8) (some [])))
 (bd (ret1 (binS tab .add 3 x8 (SV.v (.int .i64 1))) o5) fun v6 o6 =>
 L74_2 K N nl m2 x0 x1 x7 v6 o6))
 (retV tab nl o2 (resC1 (some (SV.v (.int .i64 (-1)))) (some [])))
noncomputable def X74 (K : Nat → List SV → List SO → Out) (N nl : Nat) (x0 x1 : SV) (os : List SO) : Out := exec (cx K) N nl fi74 c74 [(0, x0), (1, x1)] os (kEnd tab [] nl rs74)
noncomputable def B74 (K : Nat → List SV → List SO → Out) (N nl : Nat) (x0 x1 : SV) (os : List SO) : Out :=
 bd (lenO tab 23 os x0) fun v1 o1 =>
 L74_2 K N nl N x0 x1 v1 (SV.v (.int .i64 0)) o1
noncomputable def X75 (K : Nat → List SV → List SO → Out) (N nl : Nat) (x0 x1 : SV) (os : List SO) : Out := exec (cx K) N nl fi75 c75 [(0, x0), (1, x1)] os (kEnd tab [] nl rs75)
noncomputable def B75 (K : Nat → List SV → List SO → Out) (N nl : Nat) (x0 x1 : SV) (os : List SO) : Out :=
 bd (callS ⟨tab, ownF, K⟩ os 88 [x0, x1]) fun v1 o1 =>
 bd (ret1 (binS tab .geq 3 v1 (SV.v (.int .i64 0))) o1) fun v2 o2 =>
 retV tab nl o2 (resC1 (some v2) (some []))
noncomputable def X76 (K : Nat → List SV → List SO → Out) (N nl : Nat) (x0 x1 : SV) (os : List SO) : Out := exec (cx K) N nl fi76 c76 [(0, x0), (1, x1)] os (kEnd tab [] nl rs76)
noncomputable def B76 (K : Nat → List SV → List SO → Out) (N nl : Nat) (x0 x1 : SV) (os : List SO) : Out :=
 bd (boxS tab os 105 (some x0)) fun v1 o1 =>
 bd (ret1 (loadS tab o1 30 x1) o1) fun v2 o2 =>
 bd (ret1 (loadS tab o2 105 v1) o2) fun v3 o3 =>
 bd (callS ⟨tab, ownF, K⟩ o3 77 [v2, v3]) fun v4 o4 =>
 bd (ret1 (unS .not v4) o4) fun v5 o5 =>
 retV tab nl o5 (resC1 (some v5) (some []))
noncomputable def X77 (K : Nat → List SV → List SO → Out) (N nl : Nat) (x0 x1 : SV) (os : List SO) : Out := exec (cx K) N nl fi77 c77 [(0, x0), (1, x1)] os (kEnd tab [] nl rs77)
noncomputable def B77 (K : Nat → List SV → List SO → Out) (N nl : Nat) (x0 x1 : SV) (os : List SO) : Out :=
 bd (boxS tab os 105 (some x1)) fun v1 o1 =>
 bd (callS ⟨tab, ownF, K⟩ o1 62 [x0, (SV.fn 89 [v1])]) fun v2 o2 =>
 retV tab nl o2 (resC1 (some v2) (some []))
noncomputable def bk78_2 (K : Nat → List SV → List SO → Out) (N nl : Nat) (m2 : Nat) : Env → List SO → Out := fun env os => loopS nl (fi78.lp 2) (fun env os nx => exec (cx K) N nl fi78 (subC c78 [1, 0, 1, 0, 0]) env os (kLoop nx (kBlock 0 (kSeq (exec (cx K) N nl fi78 (subC c78 [1, 1])) (fi78.jn 7) (kEnd tab [] nl rs78))))) m2 (killS (fi78.lp 2).alive env) os
noncomputable def L78_2 (K : Nat → List SV → List SO → Out) (N nl : Nat) (m2 : Nat) (x0 x1 x7 x8 : SV) (os : List SO) : Out := loopS nl (fi78.lp 2) (fun env os nx => exec (cx K) N nl fi78 (subC c78 [1, 0, 1, 0, 0]) env os (kLoop nx (kBlock 0 (kSeq (exec (cx K) N nl fi78 (subC c78 [1, 1])) (fi78.jn 7) (kEnd tab [] nl rs78))))) m2 [(0, x0), (1, x1), (7, x7), (8, x8)] os
noncomputable def LB78_2 (K : Nat → List SV → List SO → Out) (N nl : Nat) (m2 : Nat) (x0 x1 x7 x8 : SV) (os : List SO) : Out :=
 bd (ret1 (binS tab .lss 3 x8 x7) os) fun v2 o2 =>
 condS v2 (bd (ret1 (indexAddrS tab o2 30 x0 x8) o2) fun v3 o3 =>
 bd (ret1 (loadS tab o3 84 v3) o3) fun v4 o4 =>
 bd (calleeS ⟨tab, ownF, K⟩ o4 x1 [v4]) fun v5 o5 =>
 condS v5 (retV tab nl o5 (resC1 (some x8) (some [])))
 (bd (ret1 (binS tab .add 3 x8 (SV.v (.int .i64 1))) o5) fun v6 o6 =>
 L78_2 K N nl m2 x0 x1 x7 v6 o6))
 (retV tab nl o2 (resC1 (some (SV.v (.int .i64 (-1)))) (some [])))
noncomputable def X78 (K : Nat → List SV → List SO → Out) (N nl : Nat) (x0 x1 : SV) (os : List SO) : Out := exec (cx K) N nl fi78 c78 [(0, x0), (1, x1)] os (kEnd tab [] nl rs78)
noncomputable def B78 (K : Nat → List SV → List SO → Out) (N nl : Nat) (x0 x1 : SV) (os : List SO) : Out :=
 bd (lenO tab 30 os x0) fun v1 o1 =>
 L78_2 K N nl N x0 x1 v1 (SV.v (.int .i64 0)) o1
noncomputable def bk79_4 (K : Nat → List SV → List SO → Out) (N nl : Nat) (m4 : Nat) : Env → List SO → Out := fun env os => loopS nl (fi79.lp 4) (fun env os nx => exec (cx K) N nl fi79 (subC c79 [1, 1, 0, 1, 0, 0]) env os (kLoop nx (kBlock 0 (kSeq (exec (cx K) N nl fi79 (subC c79 [1, 1, 1])) (fi79.jn 9) (kEnd tab [] nl rs79))))) m4 (killS (fi79.lp 4).alive env) os
noncomputable def bk80_4 (K : Nat → List SV → List SO → Out) (N nl : Nat) (m4 : Nat) : Env → List SO → Out := fun env os => loopS nl (fi80.lp 4) (fun env os nx => exec (cx K) N nl fi80 (subC c80 [1, 1, 0, 1, 0, 0]) env os (kLoop nx (kBlock 0 (kSeq (exec (cx K) N nl fi80 (subC c80 [1, 1, 1])) (fi80.jn 9) (kEnd tab [] nl rs80))))) m4 (killS (fi80.lp 4).alive env) os
noncomputable def bk81_2 (K : Nat → List SV → List SO → Out) (N nl : Nat) (m2 : Nat) : Env → List SO → Out := fun env os => loopS nl (fi81.lp 2) (fun env os nx => exec (cx K) N nl fi81 (subC c81 [1, 0, 1, 0, 0]) env os (kLoop nx (kBlock 0 (kSeq (exec (cx K) N nl fi81 (subC c81 [1, 1])) (fi81.jn 7) (kEnd tab [] nl rs81))))) m2 (killS (fi81.lp 2).alive env) os
noncomputable def L81_2 (K : Nat → List SV → List SO → Out) (N nl : Nat) (m2 : Nat) (x0 x1 x7 x8 : SV) (os : List SO) : Out := loopS nl (fi81.lp 2) (fun env os nx => exec (cx K) N nl fi81 (subC c81 [1, 0, 1, 0, 0]) env os (kLoop nx (kBlock 0 (kSeq (exec (cx K) N nl fi81 (subC c81 [1, 1])) (fi81.jn 7) (kEnd tab [] nl rs81))))) m2 [(0, x0), (1, x1), (7, x7), (8, x8)] os
noncomputable def LB81_2 (K : Nat → List SV → List SO → Out) (N nl : Nat) (m2 : Nat) (x0 x1 x7 x8 : SV) (os : List SO) : Out :=
 bd (ret1 (binS tab .lss 3 x8 x7) os) fun v2 o2 =>
 condS v2 (bd (ret1 (indexAddrS tab o2 28 x0 x8) o2) fun v3 o3 =>
 bd (ret1 (loadS tab o3 61 v3) o3) fun v4 o4 =>
 bd (calleeS ⟨tab, ownF, K⟩ o4 x1 [v4]) fun v5 o5 =>
 condS v5 (retV tab nl o5 (resC1 (some x8) (some [])))
 (bd (ret1 (binS tab .add 3 x8 (SV.v (.int .i64 1))) o5) fun v6 o6 =>
 L81_2 K N nl m2 x0 x1 x7 v6 o6))
 (retV tab nl o2 (resC1 (some (SV.v (.int .i64 (-1)))) (some [])))
noncomputable def X81 (K : Nat → List SV → List SO → Out) (N nl : Nat) (x0 x1 : SV) (os : List SO) : Out := exec (cx K) N nl fi81 c81 [(0, x0), (1, x1)] os (kEnd tab [] nl rs81)
noncomputable def B81 (K : Nat → List SV → List SO → Out) (N nl : Nat) (x0 x1 : SV) (os : List SO) : Out :=
 bd (lenO tab 28 os x0) fun v1 o1 =>
 L81_2 K N nl N x0 x1 v1 (SV.v (.int .i64 0)) o1
noncomputable def bk82_2 (K : Nat → List SV → List SO → Out) (N nl : Nat) (m2 : Nat) : Env → List SO → Out := fun env os => loopS nl (fi82.lp 2) (fun env os nx => exec (cx K) N nl fi82 (subC c82 [1, 0, 1, 0, 0]) env os (kLoop nx (kBlock 0 (kSeq (exec (cx K) N nl fi82 (subC c82 [1, 1])) (fi82.jn 7) (kEnd tab [] nl rs82))))) m2 (killS (fi82.lp 2).alive env) os
noncomputable def bk84_2 (K : Nat → List SV → List SO → Out) (N nl : Nat) (m2 : Nat) : Env → List SO → Out := fun env os => loopS nl (fi84.lp 2) (fun env os nx => exec (cx K) N nl fi84 (subC c84 [1, 0, 1, 0, 0]) env os (kLoop nx (kBlock 0 (kSeq (exec (cx K) N nl fi84 (subC c84 [1, 1])) (fi84.jn 7) (kEnd tab [] nl rs84))))) m2 (killS (fi84.lp 2).alive env) os
noncomputable def L84_2 (K : Nat → List SV → List SO → Out) (N nl : Nat) (m2 : Nat) (x0 x1 x7 x8 : SV) (os : List SO) : Out := loopS nl (fi84.lp 2) (fun env os nx => exec (cx K) N nl fi84 (subC c84 [1, 0, 1, 0, 0]) env os (kLoop nx (kBlock 0 (kSeq (exec (cx K) N nl fi84 (subC c84 [1, 1])) (fi84.jn 7) (kEnd tab [] nl rs84))))) m2 [(0, x0), (1, x1), (7, x7), (8, x8)] os
end Go.Proofs.Ytikennabfbkdhaa
