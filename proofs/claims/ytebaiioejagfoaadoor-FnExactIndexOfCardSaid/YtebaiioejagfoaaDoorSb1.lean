/- The evaluator S and what it says of functions: Sb1. -/
import Derived.Test.YtebaiioejagfoaaDoorTe
import Derived.Test.YtebaiioejagfoaaDoorProg
import Derived.KernelRfl
/- The evaluator S: the functions of this seat, read chunk by chunk (1). -/
namespace Go.Proofs.YtebaiioejagfoaaDoor
open Go
set_option linter.unusedVariables false
set_option maxRecDepth 100000
def tiL : List (Option TI) :=
 [none,
  some ⟨1, 8, false, [.fn]⟩,
  some ⟨1, 8, false, [.int .i64]⟩,
  some ⟨1, 8, false, [.int .i64]⟩,
  some ⟨1, 1, false, [.bool]⟩,
  some ⟨1, 1, false, [.int .u8]⟩,
  some ⟨1, 1, false, [.int .u8]⟩,
  some ⟨4, 24, true, [.int .i64, .int .i64, .bool, .int .u8]⟩,
  some ⟨4, 24, true, [.int .i64, .int .i64, .bool, .int .u8]⟩,
  some ⟨1, 16, false, [.str]⟩,
  some ⟨1, 16, false, [.str]⟩,
  some ⟨1, 16, false, [.str]⟩,
  some ⟨1, 8, false, [.int .u64]⟩,
  some ⟨2, 24, true, [.str, .int .u64]⟩,
  some ⟨2, 24, true, [.str, .int .u64]⟩,
  some ⟨1, 8, false, [.ptr]⟩,
  some ⟨1, 8, false, [.ptr]⟩,
  some ⟨1, 8, false, [.ptr]⟩,
  some ⟨1, 8, true, [.ptr]⟩,
  some ⟨1, 8, true, [.ptr]⟩,
  none,
  some ⟨1, 4, false, [.int .i32]⟩,
  some ⟨1, 24, false, [.sl 4]⟩,
  some ⟨1, 8, false, [.fn]⟩,
  some ⟨1, 24, false, [.sl 3]⟩,
  some ⟨3, 40, true, [.int .i64, .int .i64, .sl 3]⟩,
  some ⟨3, 40, true, [.int .i64, .int .i64, .sl 3]⟩,
  none,
  some ⟨1, 8, false, [.fn]⟩,
  some ⟨1, 24, false, [.sl 4]⟩,
  some ⟨1, 8, false, [.fn]⟩,
  some ⟨1, 8, false, [.fn]⟩,
  some ⟨1, 8, false, [.fn]⟩,
  some ⟨1, 8, false, [.fn]⟩,
  some ⟨1, 8, false, [.fn]⟩,
  some ⟨1, 8, false, [.fn]⟩,
  some ⟨1, 8, false, [.fn]⟩,
  some ⟨1, 24, false, [.sl 2]⟩,
  some ⟨1, 24, false, [.sl 2]⟩,
  some ⟨4, 64, true, [.int .i64, .int .i64, .sl 2, .sl 2]⟩,
  some ⟨4, 64, true, [.int .i64, .int .i64, .sl 2, .sl 2]⟩,
  some ⟨1, 8, false, [.fn]⟩,
  some ⟨1, 24, false, [.sl 2]⟩,
  some ⟨1, 24, false, [.sl 2]⟩,
  some ⟨4, 64, true, [.int .i64, .int .i64, .sl 2, .sl 2]⟩,
  some ⟨4, 64, true, [.int .i64, .int .i64, .sl 2, .sl 2]⟩,
  some ⟨1, 8, false, [.fn]⟩,
  some ⟨1, 8, false, [.fn]⟩,
  some ⟨3, 24, true, [.int .i64, .int .i64, .int .i64]⟩,
  some ⟨3, 24, true, [.int .i64, .int .i64, .int .i64]⟩,
  some ⟨1, 8, false, [.fn]⟩,
  some ⟨1, 8, false, [.fn]⟩,
  some ⟨1, 8, false, [.fn]⟩,
  some ⟨1, 8, false, [.fn]⟩,
  some ⟨1, 8, false, [.fn]⟩,
  some ⟨1, 8, false, [.fn]⟩,
  some ⟨1, 8, false, [.fn]⟩,
  some ⟨1, 8, false, [.fn]⟩,
  some ⟨1, 8, false, [.fn]⟩,
  some ⟨1, 8, false, [.fn]⟩,
  some ⟨1, 8, false, [.fn]⟩,
  some ⟨1, 8, false, [.fn]⟩,
  some ⟨1, 8, false, [.fn]⟩,
  some ⟨1, 8, false, [.fn]⟩,
  some ⟨2, 16, true, [.int .i64, .int .i64]⟩,
  some ⟨2, 16, true, [.int .i64, .int .i64]⟩,
  some ⟨2, 16, true, [.int .i64, .int .i64]⟩,
  some ⟨2, 16, true, [.int .i64, .int .i64]⟩,
  some ⟨1, 8, false, [.fn]⟩,
  some ⟨1, 8, false, [.fn]⟩,
  some ⟨1, 8, false, [.fn]⟩,
  some ⟨1, 8, false, [.fn]⟩,
  some ⟨1, 8, false, [.fn]⟩,
  some ⟨1, 8, false, [.fn]⟩,
  some ⟨1, 8, false, [.fn]⟩,
  some ⟨1, 8, false, [.fn]⟩,
  some ⟨1, 8, false, [.fn]⟩,
  some ⟨1, 8, false, [.fn]⟩,
  some ⟨1, 24, false, [.sl 1]⟩,
  some ⟨1, 8, false, [.fn]⟩,
  some ⟨2, 16, true, [.int .i64, .int .i64]⟩,
  some ⟨1, 8, false, [.fn]⟩,
  some ⟨2, 16, true, [.int .i64, .int .i64]⟩,
  some ⟨1, 8, false, [.fn]⟩,
  some ⟨1, 8, false, [.fn]⟩,
  some ⟨1, 8, false, [.ptr]⟩,
  some ⟨2, 32, true, [.ptr, .sl 1]⟩,
  some ⟨2, 32, true, [.ptr, .sl 1]⟩,
  none,
  none,
  none,
  some ⟨1, 8, false, [.fn]⟩,
  some ⟨1, 8, false, [.fn]⟩,
  some ⟨1, 8, false, [.fn]⟩,
  some ⟨1, 8, false, [.fn]⟩,
  some ⟨1, 24, false, [.sl 1]⟩,
  some ⟨1, 8, false, [.ptr]⟩,
  none,
  some ⟨1, 8, false, [.fn]⟩,
  some ⟨1, 8, false, [.fn]⟩,
  some ⟨24, 24, true, [.int .u8, .int .u8, .int .u8, .int .u8, .int .u8, .int .u8, .int .u8, .int .u8, .int .u8, .int .u8, .int .u8, .int .u8, .int .u8, .int .u8, .int .u8, .int .u8, .int .u8, .int .u8, .int .u8, .int .u8, .int .u8, .int .u8, .int .u8, .int .u8]⟩,
  some ⟨1, 8, false, [.int .u64]⟩,
  some ⟨1, 8, false, [.fn]⟩,
  some ⟨1, 8, false, [.fn]⟩,
  none,
  some ⟨1, 8, false, [.fn]⟩,
  some ⟨1, 8, false, [.fn]⟩,
  some ⟨1, 8, false, [.fn]⟩,
  some ⟨20, 160, true, [.int .u64, .int .u64, .int .u64, .int .u64, .int .u64, .int .u64, .int .u64, .int .u64, .int .u64, .int .u64, .int .u64, .int .u64, .int .u64, .int .u64, .int .u64, .int .u64, .int .u64, .int .u64, .int .u64, .int .u64]⟩,
  some ⟨1, 4, false, [.int .u32]⟩,
  some ⟨65, 65, true, [.int .u8, .int .u8, .int .u8, .int .u8, .int .u8, .int .u8, .int .u8, .int .u8, .int .u8, .int .u8, .int .u8, .int .u8, .int .u8, .int .u8, .int .u8, .int .u8, .int .u8, .int .u8, .int .u8, .int .u8, .int .u8, .int .u8, .int .u8, .int .u8, .int .u8, .int .u8, .int .u8, .int .u8, .int .u8, .int .u8, .int .u8, .int .u8, .int .u8, .int .u8, .int .u8, .int .u8, .int .u8, .int .u8, .int .u8, .int .u8, .int .u8, .int .u8, .int .u8, .int .u8, .int .u8, .int .u8, .int .u8, .int .u8, .int .u8, .int .u8, .int .u8, .int .u8, .int .u8, .int .u8, .int .u8, .int .u8, .int .u8, .int .u8, .int .u8, .int .u8, .int .u8, .int .u8, .int .u8, .int .u8, .int .u8]⟩,
  some ⟨1, 8, false, [.int .u64]⟩,
  some ⟨1, 8, false, [.fn]⟩,
  some ⟨1, 8, false, [.fn]⟩,
  some ⟨32, 32, true, [.int .u8, .int .u8, .int .u8, .int .u8, .int .u8, .int .u8, .int .u8, .int .u8, .int .u8, .int .u8, .int .u8, .int .u8, .int .u8, .int .u8, .int .u8, .int .u8, .int .u8, .int .u8, .int .u8, .int .u8, .int .u8, .int .u8, .int .u8, .int .u8, .int .u8, .int .u8, .int .u8, .int .u8, .int .u8, .int .u8, .int .u8, .int .u8]⟩,
  some ⟨64, 64, true, [.int .u8, .int .u8, .int .u8, .int .u8, .int .u8, .int .u8, .int .u8, .int .u8, .int .u8, .int .u8, .int .u8, .int .u8, .int .u8, .int .u8, .int .u8, .int .u8, .int .u8, .int .u8, .int .u8, .int .u8, .int .u8, .int .u8, .int .u8, .int .u8, .int .u8, .int .u8, .int .u8, .int .u8, .int .u8, .int .u8, .int .u8, .int .u8, .int .u8, .int .u8, .int .u8, .int .u8, .int .u8, .int .u8, .int .u8, .int .u8, .int .u8, .int .u8, .int .u8, .int .u8, .int .u8, .int .u8, .int .u8, .int .u8, .int .u8, .int .u8, .int .u8, .int .u8, .int .u8, .int .u8, .int .u8, .int .u8, .int .u8, .int .u8, .int .u8, .int .u8, .int .u8, .int .u8, .int .u8, .int .u8]⟩,
  some ⟨4, 40, true, [.ptr, .ptr, .ptr, .str]⟩,
  some ⟨4, 40, true, [.ptr, .ptr, .ptr, .str]⟩,
  some ⟨0, 0, true, []⟩,
  some ⟨0, 0, true, []⟩,
  some ⟨0, 0, true, []⟩,
  some ⟨1, 8, false, [.fn]⟩,
  some ⟨1, 1, false, [.int .u8]⟩,
  some ⟨1, 1, false, [.int .u8]⟩,
  some ⟨1, 8, false, [.fn]⟩,
  some ⟨1, 4, false, [.int .i32]⟩,
  some ⟨1, 4, false, [.int .i32]⟩,
  some ⟨11, 48, true, [.int .u64, .int .u64, .int .u32, .int .u8, .int .u8, .int .u8, .int .u8, .fn, .ptr, .int .i32, .int .i32]⟩,
  some ⟨11, 48, true, [.int .u64, .int .u64, .int .u32, .int .u8, .int .u8, .int .u8, .int .u8, .fn, .ptr, .int .i32, .int .i32]⟩,
  some ⟨1, 8, false, [.fn]⟩,
  some ⟨1, 8, false, [.fn]⟩]
def ukL : List (Option UK) :=
 [none,
  none,
  some (.int .i64),
  some (.int .i64),
  some (.bool),
  some (.int .u8),
  some (.int .u8),
  some (.struct [(0, 2), (1, 3), (2, 4), (3, 6)]),
  some (.struct [(0, 2), (1, 3), (2, 4), (3, 6)]),
  some (.str),
  some (.str),
  some (.str),
  some (.int .u64),
  some (.struct [(0, 9), (1, 12)]),
  some (.struct [(0, 9), (1, 12)]),
  none,
  none,
  none,
  some (.struct [(0, 17)]),
  some (.struct [(0, 17)]),
  none,
  some (.int .i32),
  some (.slice 40),
  none,
  some (.slice 49),
  some (.struct [(0, 3), (1, 3), (2, 24)]),
  some (.struct [(0, 3), (1, 3), (2, 24)]),
  none,
  none,
  some (.slice 45),
  none,
  none,
  none,
  none,
  none,
  none,
  none,
  some (.slice 80),
  some (.slice 82),
  some (.struct [(0, 3), (1, 3), (2, 37), (3, 38)]),
  some (.struct [(0, 3), (1, 3), (2, 37), (3, 38)]),
  none,
  some (.slice 65),
  some (.slice 67),
  some (.struct [(0, 3), (1, 3), (2, 42), (3, 43)]),
  some (.struct [(0, 3), (1, 3), (2, 42), (3, 43)]),
  none,
  none,
  some (.eqs [(0, 3), (1, 3), (2, 3)]),
  some (.eqs [(0, 3), (1, 3), (2, 3)]),
  none,
  none,
  none,
  none,
  none,
  none,
  none,
  none,
  none,
  none,
  none,
  none,
  none,
  none,
  some (.eqs [(0, 3), (1, 3)]),
  some (.eqs [(0, 3), (1, 3)]),
  some (.eqs [(0, 3), (1, 3)]),
  some (.eqs [(0, 3), (1, 3)]),
  none,
  none,
  none,
  none,
  none,
  none,
  none,
  none,
  none,
  none,
  some (.slice 5),
  none,
  some (.eqs [(0, 3), (1, 3)]),
  none,
  some (.eqs [(0, 3), (1, 3)]),
  none,
  none,
  none,
  some (.struct [(0, 85), (1, 78)]),
  some (.struct [(0, 85), (1, 78)]),
  none,
  none,
  none,
  none,
  none,
  none,
  none,
  some (.slice 3),
  none,
  none,
  none,
  none,
  some (.array 24 5),
  some (.int .u64),
  none,
  none,
  none,
  none,
  none,
  none,
  some (.array 20 101),
  some (.int .u32),
  some (.array 65 5),
  some (.int .u64),
  none,
  none,
  some (.array 32 5),
  some (.array 64 5),
  some (.struct [(0, 17), (1, 17), (2, 17), (3, 9)]),
  some (.struct [(0, 17), (1, 17), (2, 17), (3, 9)]),
  some (.array 0 16),
  some (.struct [(0, 118)]),
  some (.struct [(0, 118)]),
  none,
  some (.int .u8),
  some (.int .u8),
  none,
  some (.int .i32),
  some (.int .i32),
  some (.struct [(0, 12), (1, 12), (2, 109), (3, 122), (4, 5), (5, 5), (6, 123), (7, 124), (8, 96), (9, 125), (10, 126)]),
  some (.struct [(0, 12), (1, 12), (2, 109), (3, 122), (4, 5), (5, 5), (6, 123), (7, 124), (8, 96), (9, 125), (10, 126)]),
  none,
  none]
def tab : Tab := { ti := fun t => (tiL[t]?).getD none, und := fun t => (ukL[t]?).getD none }
def ownF : Nat → Bool := fun f => match f with | 10 => true | 11 => true | 24 => true | 25 => true | 26 => true | 1000006 => true  | _ => false
abbrev cx (K : Nat → List SV → List SO → Out) : Cx := ⟨tab, ownF, K⟩
noncomputable def c3 : Code := Tryd.f3.body.getD .skip
def rs3 : List ResultVar := [.tmp 6]
def fi3 : FnI := { nt := 106, lp := fun i => ⟨false, []⟩, jn := fun i => none, dt := fun i => none }
noncomputable def c4 : Code := Tryd.f4.body.getD .skip
def rs4 : List ResultVar := [.tmp 4]
def fi4 : FnI := { nt := 27, lp := fun i => if i = 5 then ⟨false, [0, 1, 5]⟩ else ⟨false, []⟩, jn := fun i => none, dt := fun i => none }
noncomputable def c5 : Code := Tryd.f5.body.getD .skip
def rs5 : List ResultVar := [.cell 6 26, .tmp 7]
def fi5 : FnI := { nt := 51, lp := fun i => if i = 5 then ⟨true, [2, 6, 8, 9]⟩ else ⟨false, []⟩, jn := fun i => if i = 6 then some [2, 6, 8, 9] else none, dt := fun i => if i = 7 then some (.split 4 16 (.split 9 16 (.leaf [0, 1, 2, 3, 4, 5, 6, 7, 8, 9, 10, 11, 12, 13, 14, 15, 16, 17, 18, 19, 20, 21, 22]) (.split 9 17 (.leaf [0, 1, 2, 3, 4, 5, 6, 7, 8, 12, 13, 14, 15, 16, 9, 10, 11, 17, 18, 19, 20, 21, 22]) (.leaf [0, 1, 2, 3, 4, 5, 6, 7, 8, 12, 13, 14, 15, 16, 17, 9, 10, 11, 18, 19, 20, 21, 22]))) (.split 9 16 (.split 4 17 (.leaf [0, 1, 2, 3, 7, 8, 9, 10, 11, 12, 13, 14, 15, 16, 4, 5, 6, 17, 18, 19, 20, 21, 22]) (.leaf [0, 1, 2, 3, 7, 8, 9, 10, 11, 12, 13, 14, 15, 16, 17, 4, 5, 6, 18, 19, 20, 21, 22])) (.split 4 17 (.split 9 17 (.leaf [0, 1, 2, 3, 7, 8, 12, 13, 14, 15, 16, 4, 5, 6, 9, 10, 11, 17, 18, 19, 20, 21, 22]) (.leaf [0, 1, 2, 3, 7, 8, 12, 13, 14, 15, 16, 4, 5, 6, 17, 9, 10, 11, 18, 19, 20, 21, 22])) (.split 9 17 (.leaf [0, 1, 2, 3, 7, 8, 12, 13, 14, 15, 16, 9, 10, 11, 17, 4, 5, 6, 18, 19, 20, 21, 22]) (.leaf [0, 1, 2, 3, 7, 8, 12, 13, 14, 15, 16, 17, 4, 5, 6, 9, 10, 11, 18, 19, 20, 21, 22]))))) else none }
noncomputable def c6 : Code := Tryd.f6.body.getD .skip
def rs6 : List ResultVar := [.tmp 2]
def fi6 : FnI := { nt := 23, lp := fun i => if i = 3 then ⟨true, [0, 3, 4]⟩ else ⟨false, []⟩, jn := fun i => none, dt := fun i => none }
noncomputable def c7 : Code := Tryd.f7.body.getD .skip
def rs7 : List ResultVar := [.cell 6 26, .tmp 7]
def fi7 : FnI := { nt := 37, lp := fun i => if i = 5 then ⟨true, [6, 8, 18, 19, 20]⟩ else ⟨false, []⟩, jn := fun i => none, dt := fun i => none }
noncomputable def c8 : Code := Tryd.f8.body.getD .skip
def rs8 : List ResultVar := [.tmp 4]
def fi8 : FnI := { nt := 21, lp := fun i => ⟨false, []⟩, jn := fun i => none, dt := fun i => none }
noncomputable def c9 : Code := Tryd.f9.body.getD .skip
def rs9 : List ResultVar := [.tmp 4]
def fi9 : FnI := { nt := 27, lp := fun i => if i = 4 then ⟨false, [0, 1, 5]⟩ else ⟨false, []⟩, jn := fun i => none, dt := fun i => none }
noncomputable def c10 : Code := Tryd.f10.body.getD .skip
def rs10 : List ResultVar := [.tmp 4]
def fi10 : FnI := { nt := 41, lp := fun i => if i = 2 then ⟨false, [0, 1, 5]⟩ else ⟨false, []⟩, jn := fun i => none, dt := fun i => none }
noncomputable def c11 : Code := Tryd.f11.body.getD .skip
def rs11 : List ResultVar := [.tmp 4]
def fi11 : FnI := { nt := 10, lp := fun i => ⟨false, []⟩, jn := fun i => none, dt := fun i => none }
noncomputable def c12 : Code := Tryd.f12.body.getD .skip
def rs12 : List ResultVar := [.tmp 4]
def fi12 : FnI := { nt := 12, lp := fun i => ⟨false, []⟩, jn := fun i => none, dt := fun i => none }
noncomputable def c13 : Code := Tryd.f13.body.getD .skip
def rs13 : List ResultVar := [.tmp 4]
def fi13 : FnI := { nt := 18, lp := fun i => ⟨false, []⟩, jn := fun i => none, dt := fun i => none }
noncomputable def c14 : Code := Tryd.f14.body.getD .skip
def rs14 : List ResultVar := [.tmp 2]
def fi14 : FnI := { nt := 46, lp := fun i => if i = 2 then ⟨false, [0, 3]⟩ else ⟨false, []⟩, jn := fun i => none, dt := fun i => none }
noncomputable def c15 : Code := Tryd.f15.body.getD .skip
def rs15 : List ResultVar := [.tmp 2]
def fi15 : FnI := { nt := 21, lp := fun i => if i = 3 then ⟨false, [0, 3, 4]⟩ else ⟨false, []⟩, jn := fun i => none, dt := fun i => none }
noncomputable def c16 : Code := Tryd.f16.body.getD .skip
def rs16 : List ResultVar := [.tmp 2]
def fi16 : FnI := { nt := 64, lp := fun i => if i = 5 then ⟨false, [1, 3, 4]⟩ else if i = 9 then ⟨false, [1, 3, 5]⟩ else ⟨false, []⟩, jn := fun i => if i = 6 then some [1, 3, 4] else none, dt := fun i => if i = 7 then some (.split 8 14 (.leaf [0, 1, 2, 3, 4, 5, 6, 7, 8, 9, 10, 11, 12, 13, 14, 15, 16, 17, 18, 19]) (.leaf [0, 1, 2, 3, 4, 5, 6, 7, 11, 12, 13, 14, 8, 9, 10, 15, 16, 17, 18, 19])) else none }
noncomputable def c17 : Code := Tryd.f17.body.getD .skip
def rs17 : List ResultVar := [.tmp 2]
def fi17 : FnI := { nt := 73, lp := fun i => if i = 4 then ⟨true, [1, 3]⟩ else ⟨false, []⟩, jn := fun i => none, dt := fun i => none }
noncomputable def c18 : Code := Tryd.f18.body.getD .skip
def rs18 : List ResultVar := [.cell 2 45]
def fi18 : FnI := { nt := 19, lp := fun i => ⟨false, []⟩, jn := fun i => none, dt := fun i => none }
noncomputable def c19 : Code := Tryd.f19.body.getD .skip
def rs19 : List ResultVar := [.tmp 2]
def fi19 : FnI := { nt := 30, lp := fun i => if i = 2 then ⟨true, [0, 5, 6, 7]⟩ else ⟨false, []⟩, jn := fun i => none, dt := fun i => none }
noncomputable def c20 : Code := Tryd.f20.body.getD .skip
def rs20 : List ResultVar := [.cell 2 49]
def fi20 : FnI := { nt := 11, lp := fun i => ⟨false, []⟩, jn := fun i => none, dt := fun i => none }
noncomputable def c21 : Code := Tryd.f21.body.getD .skip
def rs21 : List ResultVar := [.tmp 2]
def fi21 : FnI := { nt := 82, lp := fun i => if i = 2 then ⟨true, [1, 6, 7, 8]⟩ else ⟨false, []⟩, jn := fun i => none, dt := fun i => none }
noncomputable def c22 : Code := Tryd.f22.body.getD .skip
def rs22 : List ResultVar := [.tmp 4]
def fi22 : FnI := { nt := 27, lp := fun i => if i = 4 then ⟨false, [0, 1, 5]⟩ else ⟨false, []⟩, jn := fun i => none, dt := fun i => none }
noncomputable def c23 : Code := Tryd.f23.body.getD .skip
def rs23 : List ResultVar := [.tmp 4]
def fi23 : FnI := { nt := 27, lp := fun i => ⟨false, []⟩, jn := fun i => none, dt := fun i => none }
noncomputable def c24 : Code := Tryd.f24.body.getD .skip
def rs24 : List ResultVar := [.tmp 4]
def fi24 : FnI := { nt := 27, lp := fun i => if i = 2 then ⟨false, [0, 1, 5]⟩ else ⟨false, []⟩, jn := fun i => none, dt := fun i => none }
noncomputable def c25 : Code := Tryd.f25.body.getD .skip
def rs25 : List ResultVar := [.tmp 4]
def fi25 : FnI := { nt := 27, lp := fun i => if i = 2 then ⟨false, [0, 1, 5]⟩ else ⟨false, []⟩, jn := fun i => none, dt := fun i => none }
noncomputable def c26 : Code := Tryd.f26.body.getD .skip
def rs26 : List ResultVar := [.tmp 4]
def fi26 : FnI := { nt := 34, lp := fun i => if i = 2 then ⟨false, [0, 1, 5]⟩ else ⟨false, []⟩, jn := fun i => none, dt := fun i => none }
noncomputable def c27 : Code := Tryd.f27.body.getD .skip
def rs27 : List ResultVar := [.tmp 4]
def fi27 : FnI := { nt := 40, lp := fun i => if i = 2 then ⟨false, [0, 1, 5]⟩ else ⟨false, []⟩, jn := fun i => none, dt := fun i => none }
noncomputable def c28 : Code := Tryd.f28.body.getD .skip
def rs28 : List ResultVar := [.tmp 4]
def fi28 : FnI := { nt := 12, lp := fun i => ⟨false, []⟩, jn := fun i => none, dt := fun i => none }
noncomputable def c29 : Code := Tryd.f29.body.getD .skip
def rs29 : List ResultVar := [.tmp 4]
def fi29 : FnI := { nt := 12, lp := fun i => ⟨false, []⟩, jn := fun i => none, dt := fun i => none }
noncomputable def c30 : Code := Tryd.f30.body.getD .skip
def rs30 : List ResultVar := [.tmp 2]
def fi30 : FnI := { nt := 23, lp := fun i => ⟨false, []⟩, jn := fun i => none, dt := fun i => none }
noncomputable def c31 : Code := Tryd.f31.body.getD .skip
def rs31 : List ResultVar := [.tmp 8]
def fi31 : FnI := { nt := 22, lp := fun i => ⟨false, []⟩, jn := fun i => none, dt := fun i => none }
noncomputable def c32 : Code := Tryd.f32.body.getD .skip
def rs32 : List ResultVar := [.tmp 4]
def fi32 : FnI := { nt := 14, lp := fun i => ⟨false, []⟩, jn := fun i => none, dt := fun i => if i = 1 then some (.split 4 7 (.split 5 7 (.leaf [0, 1, 2, 3, 4, 5, 6, 7, 8, 9]) (.leaf [0, 1, 2, 3, 4, 6, 7, 5, 8, 9])) (.leaf [0, 1, 2, 3, 6, 7, 4, 5, 8, 9])) else none }
noncomputable def c33 : Code := Tryd.f33.body.getD .skip
def rs33 : List ResultVar := [.tmp 2]
def fi33 : FnI := { nt := 28, lp := fun i => ⟨false, []⟩, jn := fun i => none, dt := fun i => if i = 7 then some (.split 2 7 (.leaf [0, 1, 2, 3, 4, 5, 6, 7, 8, 9, 10]) (.split 2 8 (.leaf [0, 1, 3, 4, 5, 6, 7, 2, 8, 9, 10]) (.leaf [0, 1, 3, 4, 5, 6, 7, 8, 2, 9, 10]))) else none }
noncomputable def c34 : Code := Tryd.f34.body.getD .skip
def rs34 : List ResultVar := [.tmp 6]
def fi34 : FnI := { nt := 15, lp := fun i => ⟨false, []⟩, jn := fun i => none, dt := fun i => none }
noncomputable def c35 : Code := Tryd.f35.body.getD .skip
def rs35 : List ResultVar := [.tmp 2]
def fi35 : FnI := { nt := 23, lp := fun i => if i = 3 then ⟨false, [0, 3, 4]⟩ else ⟨false, []⟩, jn := fun i => none, dt := fun i => none }
noncomputable def c36 : Code := Tryd.f36.body.getD .skip
def rs36 : List ResultVar := [.tmp 2]
def fi36 : FnI := { nt := 23, lp := fun i => if i = 3 then ⟨false, [0, 3, 4]⟩ else ⟨false, []⟩, jn := fun i => none, dt := fun i => none }
noncomputable def c37 : Code := Tryd.f37.body.getD .skip
def rs37 : List ResultVar := [.tmp 2]
def fi37 : FnI := { nt := 106, lp := fun i => if i = 4 then ⟨true, [1, 30, 31, 32]⟩ else if i = 10 then ⟨true, [1, 65, 66, 67]⟩ else ⟨false, []⟩, jn := fun i => none, dt := fun i => none }
noncomputable def c38 : Code := Tryd.f38.body.getD .skip
def rs38 : List ResultVar := [.tmp 4]
def fi38 : FnI := { nt := 17, lp := fun i => ⟨false, []⟩, jn := fun i => none, dt := fun i => none }
noncomputable def c39 : Code := Tryd.f39.body.getD .skip
def rs39 : List ResultVar := [.tmp 2]
def fi39 : FnI := { nt := 22, lp := fun i => if i = 3 then ⟨false, [3, 7, 8, 9]⟩ else ⟨false, []⟩, jn := fun i => none, dt := fun i => none }
noncomputable def c40 : Code := Tryd.f40.body.getD .skip
def rs40 : List ResultVar := [.tmp 2]
def fi40 : FnI := { nt := 51, lp := fun i => if i = 6 then ⟨true, [1, 3, 18, 19, 20]⟩ else if i = 11 then ⟨true, [3, 36, 37, 38]⟩ else ⟨false, []⟩, jn := fun i => none, dt := fun i => none }
noncomputable def c41 : Code := Tryd.f41.body.getD .skip
def rs41 : List ResultVar := [.tmp 2]
def fi41 : FnI := { nt := 5, lp := fun i => ⟨false, []⟩, jn := fun i => none, dt := fun i => none }
noncomputable def c42 : Code := Tryd.f42.body.getD .skip
def rs42 : List ResultVar := [.tmp 2]
def fi42 : FnI := { nt := 5, lp := fun i => ⟨false, []⟩, jn := fun i => none, dt := fun i => none }
noncomputable def c43 : Code := Tryd.f43.body.getD .skip
def rs43 : List ResultVar := [.tmp 6]
def fi43 : FnI := { nt := 15, lp := fun i => ⟨false, []⟩, jn := fun i => none, dt := fun i => none }
noncomputable def c44 : Code := Tryd.f44.body.getD .skip
def rs44 : List ResultVar := [.tmp 4]
def fi44 : FnI := { nt := 20, lp := fun i => ⟨false, []⟩, jn := fun i => none, dt := fun i => none }
noncomputable def c45 : Code := Tryd.f45.body.getD .skip
def rs45 : List ResultVar := [.tmp 4]
def fi45 : FnI := { nt := 27, lp := fun i => if i = 4 then ⟨false, [0, 1, 5]⟩ else ⟨false, []⟩, jn := fun i => none, dt := fun i => none }
noncomputable def c46 : Code := Tryd.f46.body.getD .skip
def rs46 : List ResultVar := [.tmp 4]
def fi46 : FnI := { nt := 27, lp := fun i => if i = 4 then ⟨false, [0, 1, 5]⟩ else ⟨false, []⟩, jn := fun i => none, dt := fun i => none }
noncomputable def c47 : Code := Tryd.f47.body.getD .skip
def rs47 : List ResultVar := [.tmp 2]
def fi47 : FnI := { nt := 47, lp := fun i => if i = 2 then ⟨false, [0, 3]⟩ else ⟨false, []⟩, jn := fun i => none, dt := fun i => none }
noncomputable def c48 : Code := Tryd.f48.body.getD .skip
def rs48 : List ResultVar := [.tmp 4]
def fi48 : FnI := { nt := 51, lp := fun i => if i = 2 then ⟨true, [0, 1, 5]⟩ else ⟨false, []⟩, jn := fun i => none, dt := fun i => none }
noncomputable def c49 : Code := Tryd.f49.body.getD .skip
def rs49 : List ResultVar := [.cell 2 65]
def fi49 : FnI := { nt := 11, lp := fun i => ⟨false, []⟩, jn := fun i => none, dt := fun i => none }
noncomputable def c50 : Code := Tryd.f50.body.getD .skip
def rs50 : List ResultVar := [.cell 2 67]
def fi50 : FnI := { nt := 11, lp := fun i => ⟨false, []⟩, jn := fun i => none, dt := fun i => none }
noncomputable def c51 : Code := Tryd.f51.body.getD .skip
def rs51 : List ResultVar := [.tmp 2]
def fi51 : FnI := { nt := 18, lp := fun i => if i = 3 then ⟨false, [3, 6, 7, 8]⟩ else ⟨false, []⟩, jn := fun i => none, dt := fun i => none }
noncomputable def c52 : Code := Tryd.f52.body.getD .skip
def rs52 : List ResultVar := [.tmp 4]
def fi52 : FnI := { nt := 20, lp := fun i => ⟨false, []⟩, jn := fun i => none, dt := fun i => none }
noncomputable def c53 : Code := Tryd.f53.body.getD .skip
def rs53 : List ResultVar := [.tmp 4, .tmp 5]
def fi53 : FnI := { nt := 19, lp := fun i => ⟨false, []⟩, jn := fun i => none, dt := fun i => none }
noncomputable def c54 : Code := Tryd.f54.body.getD .skip
def rs54 : List ResultVar := [.tmp 4]
def fi54 : FnI := { nt := 13, lp := fun i => ⟨false, []⟩, jn := fun i => none, dt := fun i => none }
noncomputable def c55 : Code := Tryd.f55.body.getD .skip
def rs55 : List ResultVar := [.tmp 2]
def fi55 : FnI := { nt := 5, lp := fun i => ⟨false, []⟩, jn := fun i => none, dt := fun i => none }
noncomputable def c56 : Code := Tryd.f56.body.getD .skip
def rs56 : List ResultVar := [.tmp 2]
def fi56 : FnI := { nt := 14, lp := fun i => ⟨false, []⟩, jn := fun i => none, dt := fun i => if i = 1 then some (.split 4 8 (.leaf [0, 1, 2, 3, 4, 5, 6, 7, 8, 9, 10, 11]) (.split 4 9 (.leaf [0, 1, 2, 3, 5, 6, 7, 8, 4, 9, 10, 11]) (.leaf [0, 1, 2, 3, 5, 6, 7, 8, 9, 4, 10, 11]))) else none }
noncomputable def c57 : Code := Tryd.f57.body.getD .skip
def rs57 : List ResultVar := [.tmp 4]
def fi57 : FnI := { nt := 15, lp := fun i => ⟨false, []⟩, jn := fun i => none, dt := fun i => none }
noncomputable def c58 : Code := Tryd.f58.body.getD .skip
def rs58 : List ResultVar := [.tmp 4]
def fi58 : FnI := { nt := 15, lp := fun i => ⟨false, []⟩, jn := fun i => none, dt := fun i => none }
noncomputable def c59 : Code := Tryd.f59.body.getD .skip
def rs59 : List ResultVar := [.tmp 2]
def fi59 : FnI := { nt := 6, lp := fun i => ⟨false, []⟩, jn := fun i => none, dt := fun i => none }
noncomputable def c60 : Code := Tryd.f60.body.getD .skip
def rs60 : List ResultVar := []
def fi60 : FnI := { nt := 20, lp := fun i => ⟨false, []⟩, jn := fun i => none, dt := fun i => none }
noncomputable def c61 : Code := Tryd.f61.body.getD .skip
def rs61 : List ResultVar := [.tmp 2]
def fi61 : FnI := { nt := 5, lp := fun i => ⟨false, []⟩, jn := fun i => none, dt := fun i => none }
noncomputable def c63 : Code := Tryd.f63.body.getD .skip
def rs63 : List ResultVar := [.tmp 4]
def fi63 : FnI := { nt := 54, lp := fun i => ⟨false, []⟩, jn := fun i => if i = 8 then some [0, 5, 6] else none, dt := fun i => none }
noncomputable def c64 : Code := Tryd.f64.body.getD .skip
def rs64 : List ResultVar := [.tmp 2]
def fi64 : FnI := { nt := 15, lp := fun i => ⟨false, []⟩, jn := fun i => none, dt := fun i => none }
noncomputable def c65 : Code := Tryd.f65.body.getD .skip
def rs65 : List ResultVar := [.tmp 2]
def fi65 : FnI := { nt := 15, lp := fun i => ⟨false, []⟩, jn := fun i => none, dt := fun i => none }
noncomputable def c66 : Code := Tryd.f66.body.getD .skip
def rs66 : List ResultVar := []
def fi66 : FnI := { nt := 167, lp := fun i => if i = 1 then ⟨false, [0, 1, 4]⟩ else ⟨false, []⟩, jn := fun i => if i = 20 then some [0, 4, 12] else if i = 25 then some [0, 4, 12] else none, dt := fun i => none }
noncomputable def c67 : Code := Tryd.f67.body.getD .skip
def rs67 : List ResultVar := [.tmp 10, .tmp 11]
def fi67 : FnI := { nt := 102, lp := fun i => if i = 11 then ⟨false, [0, 1, 3, 4, 10, 11, 12, 13, 14, 15, 16]⟩ else if i = 18 then ⟨false, [0, 1, 3, 4, 10, 11, 12, 13, 17]⟩ else ⟨false, []⟩, jn := fun i => if i = 3 then some [0, 1, 2, 3, 4, 10, 11] else if i = 7 then some [0, 1, 2, 3, 4, 10, 11, 12, 13] else if i = 25 then some [0, 3, 4, 10, 11, 12, 13] else if i = 28 then some [0, 4, 10, 11, 12, 13] else none, dt := fun i => none }
noncomputable def c68 : Code := Tryd.f68.body.getD .skip
def rs68 : List ResultVar := [.tmp 2]
def fi68 : FnI := { nt := 6, lp := fun i => ⟨false, []⟩, jn := fun i => none, dt := fun i => none }
noncomputable def c69 : Code := Tryd.f69.body.getD .skip
def rs69 : List ResultVar := [.tmp 2]
def fi69 : FnI := { nt := 25, lp := fun i => ⟨false, []⟩, jn := fun i => if i = 4 then some [0, 2] else if i = 7 then some [0, 2] else if i = 10 then some [0, 2] else none, dt := fun i => none }
noncomputable def c70 : Code := Tryd.f70.body.getD .skip
def rs70 : List ResultVar := [.tmp 2]
def fi70 : FnI := { nt := 4, lp := fun i => ⟨false, []⟩, jn := fun i => none, dt := fun i => none }
noncomputable def c71 : Code := Tryd.f71.body.getD .skip
def rs71 : List ResultVar := [.tmp 2]
def fi71 : FnI := { nt := 8, lp := fun i => ⟨false, []⟩, jn := fun i => none, dt := fun i => none }
noncomputable def c72 : Code := Tryd.f72.body.getD .skip
def rs72 : List ResultVar := [.tmp 2]
def fi72 : FnI := { nt := 8, lp := fun i => ⟨false, []⟩, jn := fun i => none, dt := fun i => none }
noncomputable def c73 : Code := Tryd.f73.body.getD .skip
def rs73 : List ResultVar := [.tmp 2]
def fi73 : FnI := { nt := 14, lp := fun i => ⟨false, []⟩, jn := fun i => none, dt := fun i => none }
noncomputable def c74 : Code := Tryd.f74.body.getD .skip
def rs74 : List ResultVar := [.tmp 2]
def fi74 : FnI := { nt := 14, lp := fun i => ⟨false, []⟩, jn := fun i => none, dt := fun i => none }
noncomputable def codeL : List (Option Func) := [none, none, none, some Tryd.f3, some Tryd.f4, some Tryd.f5, some Tryd.f6, some Tryd.f7, some Tryd.f8, some Tryd.f9, some Tryd.f10, some Tryd.f11, some Tryd.f12, some Tryd.f13, some Tryd.f14, some Tryd.f15, some Tryd.f16, some Tryd.f17, some Tryd.f18, some Tryd.f19, some Tryd.f20, some Tryd.f21, some Tryd.f22, some Tryd.f23, some Tryd.f24, some Tryd.f25, some Tryd.f26, some Tryd.f27, some Tryd.f28, some Tryd.f29, some Tryd.f30, some Tryd.f31, some Tryd.f32, some Tryd.f33, some Tryd.f34, some Tryd.f35, some Tryd.f36, some Tryd.f37, some Tryd.f38, some Tryd.f39, some Tryd.f40, some Tryd.f41, some Tryd.f42, some Tryd.f43, some Tryd.f44, some Tryd.f45, some Tryd.f46, some Tryd.f47, some Tryd.f48, some Tryd.f49, some Tryd.f50, some Tryd.f51, some Tryd.f52, some Tryd.f53, some Tryd.f54, some Tryd.f55, some Tryd.f56, some Tryd.f57, some Tryd.f58, some Tryd.f59, some Tryd.f60, some Tryd.f61, none, some Tryd.f63, some Tryd.f64, some Tryd.f65, some Tryd.f66, some Tryd.f67, some Tryd.f68, some Tryd.f69, some Tryd.f70, some Tryd.f71, some Tryd.f72, some Tryd.f73, some Tryd.f74]
def fiL : List FnI := [⟨0, fun _ => ⟨false, []⟩, fun _ => none, fun _ => none⟩, ⟨0, fun _ => ⟨false, []⟩, fun _ => none, fun _ => none⟩, ⟨0, fun _ => ⟨false, []⟩, fun _ => none, fun _ => none⟩, fi3, fi4, fi5, fi6, fi7, fi8, fi9, fi10, fi11, fi12, fi13, fi14, fi15, fi16, fi17, fi18, fi19, fi20, fi21, fi22, fi23, fi24, fi25, fi26, fi27, fi28, fi29, fi30, fi31, fi32, fi33, fi34, fi35, fi36, fi37, fi38, fi39, fi40, fi41, fi42, fi43, fi44, fi45, fi46, fi47, fi48, fi49, fi50, fi51, fi52, fi53, fi54, fi55, fi56, fi57, fi58, fi59, fi60, fi61, ⟨0, fun _ => ⟨false, []⟩, fun _ => none, fun _ => none⟩, fi63, fi64, fi65, fi66, fi67, fi68, fi69, fi70, fi71, fi72, fi73, fi74]
def primF (f : Nat) : Option (List SV → List SO → Out) := none
def purF : Nat → List Nat := fun f => match f with  | _ => []
noncomputable def prg : Prg := { T := tab, own := ownF, pur := purF, code := fun f => (codeL[f]?).getD none, fi := fun f => (fiL[f]?).getD ⟨0, fun _ => ⟨false, []⟩, fun _ => none, fun _ => none⟩, prim := primF }
noncomputable def X3 (K : Nat → List SV → List SO → Out) (N nl : Nat) (x0 x1 x2 : SV) (os : List SO) : Out := exec (cx K) N nl fi3 c3 [(0, x0), (1, x1), (2, x2)] os (kEnd tab [] nl rs3)
noncomputable def B3 (K : Nat → List SV → List SO → Out) (N nl : Nat) (x0 x1 x2 : SV) (os : List SO) : Out :=
 bd (callS ⟨tab, ownF, K⟩ os 4 [x2, (SV.v (.int .i64 1048576))]) fun v1 o1 =>
 bd (ret1 (binS tab .lss 3 v1 (SV.v (.int .i64 0))) o1) fun v2 o2 =>
 condS v2 (retV tab nl o2 (resC1 (some (SV.v (.bool true))) (some [])))
 (bd (callS ⟨tab, ownF, K⟩ o2 6 [x2]) fun v3 o3 =>
 bd (callS ⟨tab, ownF, K⟩ o3 5 [x0, x1, v3]) fun v4 o4 =>
 bd (ret1 (extractS v4 0) o4) fun v5 o5 =>
 bd (ret1 (extractS v4 1) o5) fun v6 o6 =>
 bd (allocS tab o6 26) fun v7 o7 =>
 bd (storeO tab o7 26 v7 (some v5)) fun v8 o8 =>
 bd (callS ⟨tab, ownF, K⟩ o8 6 [x2]) fun v9 o9 =>
 bd (callS ⟨tab, ownF, K⟩ o9 7 [x0, x1, v9]) fun v10 o10 =>
 bd (ret1 (extractS v10 0) o10) fun v11 o11 =>
 bd (ret1 (extractS v10 1) o11) fun v12 o12 =>
 bd (allocS tab o12 26) fun v13 o13 =>
 bd (storeO tab o13 26 v13 (some v11)) fun v14 o14 =>
 bd (ret1 (loadS tab o14 26 v13) o14) fun v15 o15 =>
 bd (ret1 (loadS tab o15 26 v7) o15) fun v16 o16 =>
 bd (callS ⟨tab, ownF, K⟩ o16 8 [v15, v16]) fun v17 o17 =>
 bd (ret1 (unS .not v17) o17) fun v18 o18 =>
 bd (gd v18 false (some (v12, o18)) o18) fun v19 o19 =>
 bd (gd v18 false (some (v6, o19)) o19) fun v20 o20 =>
 bd (gd v18 false (ret1 (binS tab .neq 4 v19 v20) o20) o20) fun v21 o21 =>
 bd (ret1 (pickS v18 (SV.v (.bool true)) v21) o21) fun v22 o22 =>
 condS v22 (retV tab nl o22 (resC1 (some (SV.v (.bool false))) (some [])))
 (bd (callS ⟨tab, ownF, K⟩ o22 6 [x2]) fun v23 o23 =>
 bd (callS ⟨tab, ownF, K⟩ o23 9 [v9, v23]) fun v24 o24 =>
 bd (ret1 (unS .not v24) o24) fun v25 o25 =>
 condS v25 (retV tab nl o25 (resC1 (some (SV.v (.bool false))) (some [])))
 (bd (callS ⟨tab, ownF, K⟩ o25 10 [v9, (SV.v (.int .i64 1))]) fun v26 o26 =>
 bd (ret1 (binS tab .lss 3 v26 (SV.v (.int .i64 0))) o26) fun v27 o27 =>
 bd (gd v27 false (ret1 (loadS tab o27 26 v13) o27) o27) fun v28 o28 =>
 bd (gd v27 false (ret1 (loadS tab o28 26 v7) o28) o28) fun v29 o29 =>
 bd (gd v27 false (callS ⟨tab, ownF, K⟩ o29 8 [v28, v29]) o29) fun v30 o30 =>
 bd (gd v27 false (ret1 (unS .not v30) o30) o30) fun v31 o31 =>
 bd (ret1 (pickS v27 (SV.v (.bool true)) v31) o31) fun v32 o32 =>
 bd (gd v32 false (some (v12, o32)) o32) fun v33 o33 =>
 bd (gd v32 false (some (v6, o33)) o33) fun v34 o34 =>
 bd (gd v32 false (ret1 (binS tab .neq 4 v33 v34) o34) o34) fun v35 o35 =>
 bd (ret1 (pickS v32 (SV.v (.bool true)) v35) o35) fun v36 o36 =>
 condS v36 (retV tab nl o36 (resC1 (some (SV.v (.bool false))) (some [])))
 (bd (ret1 (loadS tab o36 26 v13) o36) fun v37 o37 =>
 bd (callS ⟨tab, ownF, K⟩ o37 11 [v37, (SV.v (.int .i64 1))]) fun v38 o38 =>
 bd (ret1 (loadS tab o38 26 v13) o38) fun v39 o39 =>
 bd (callS ⟨tab, ownF, K⟩ o39 12 [v39, (SV.v (.int .i64 1))]) fun v40 o40 =>
 bd (ret1 (binS tab .lss 3 v40 (SV.v (.int .i64 0))) o40) fun v41 o41 =>
 condS v41 (retV tab nl o41 (resC1 (some (SV.v (.bool false))) (some [])))
 (bd (ret1 (binS tab .neq 3 v40 v38) o41) fun v42 o42 =>
 condS v42 (retV tab nl o42 (resC1 (some (SV.v (.bool false))) (some [])))
 (bd (callS ⟨tab, ownF, K⟩ o42 6 [x2]) fun v43 o43 =>
 bd (callS ⟨tab, ownF, K⟩ o43 7 [x0, x1, v43]) fun v44 o44 =>
 bd (ret1 (extractS v44 0) o44) fun v45 o45 =>
 bd (ret1 (extractS v44 1) o45) fun v46 o46 =>
 bd (allocS tab o46 26) fun v47 o47 =>
 bd (storeO tab o47 26 v47 (some v45)) fun v48 o48 =>
 bd (ret1 (loadS tab o48 26 v47) o48) fun v49 o49 =>
 bd (ret1 (loadS tab o49 26 v7) o49) fun v50 o50 =>
 bd (callS ⟨tab, ownF, K⟩ o50 8 [v49, v50]) fun v51 o51 =>
 bd (ret1 (unS .not v51) o51) fun v52 o52 =>
 bd (gd v52 false (some (v46, o52)) o52) fun v53 o53 =>
 bd (gd v52 false (some (v6, o53)) o53) fun v54 o54 =>
 bd (gd v52 false (ret1 (binS tab .neq 4 v53 v54) o54) o54) fun v55 o55 =>
 bd (ret1 (pickS v52 (SV.v (.bool true)) v55) o55) fun v56 o56 =>
 condS v56 (retV tab nl o56 (resC1 (some (SV.v (.bool false))) (some [])))
 (bd (ret1 (loadS tab o56 26 v13) o56) fun v57 o57 =>
 bd (callS ⟨tab, ownF, K⟩ o57 12 [v57, (SV.v (.int .i64 1))]) fun v58 o58 =>
 bd (ret1 (binS tab .lss 3 v58 (SV.v (.int .i64 0))) o58) fun v59 o59 =>
 condS v59 (retV tab nl o59 (resC1 (some (SV.v (.bool false))) (some [])))
 (bd (ret1 (binS tab .neq 3 v58 v38) o59) fun v60 o60 =>
 condS v60 (retV tab nl o60 (resC1 (some (SV.v (.bool false))) (some [])))
 (retV tab nl o60 (resC1 (some (SV.v (.bool true))) (some [])))))))))))
noncomputable def bk4_5 (K : Nat → List SV → List SO → Out) (N nl : Nat) (m5 : Nat) : Env → List SO → Out := fun env os => loopS nl (fi4.lp 5) (fun env os nx => exec (cx K) N nl fi4 (subC c4 [1, 1, 1, 0, 1, 0, 0]) env os (kLoop nx (kBlock 0 (kSeq (exec (cx K) N nl fi4 (subC c4 [1, 1, 1, 1])) (fi4.jn 10) (kEnd tab [] nl rs4))))) m5 (killS (fi4.lp 5).alive env) os
noncomputable def L4_5 (K : Nat → List SV → List SO → Out) (N nl : Nat) (m5 : Nat) (x0 x1 x5 : SV) (os : List SO) : Out := loopS nl (fi4.lp 5) (fun env os nx => exec (cx K) N nl fi4 (subC c4 [1, 1, 1, 0, 1, 0, 0]) env os (kLoop nx (kBlock 0 (kSeq (exec (cx K) N nl fi4 (subC c4 [1, 1, 1, 1])) (fi4.jn 10) (kEnd tab [] nl rs4))))) m5 [(0, x0), (1, x1), (5, x5)] os
noncomputable def LB4_5 (K : Nat → List SV → List SO → Out) (N nl : Nat) (m5 : Nat) (x0 x1 x5 : SV) (os : List SO) : Out :=
 bd (lenO tab 22 os x0) fun v4 o4 =>
 bd (ret1 (binS tab .lss 3 x5 v4) o4) fun v5 o5 =>
 condS v5 (bd (ret1 (indexAddrS tab o5 22 x0 x5) o5) fun v6 o6 =>
 bd (ret1 (loadS tab o6 40 v6) o6) fun v7 o7 =>
 bd (callS ⟨tab, ownF, K⟩ o7 13 [v7, x1]) fun v8 o8 =>
 bd (ret1 (binS tab .lss 3 v8 (SV.v (.int .i64 0))) o8) fun v9 o9 =>
 condS v9 (retV tab nl o9 (resC1 (some (SV.v (.int .i64 (-1)))) (some [])))
 (bd (ret1 (binS tab .add 3 x5 (SV.v (.int .i64 1))) o9) fun v10 o10 =>
 L4_5 K N nl m5 x0 v8 v10 o10))
 (retV tab nl o5 (resC1 (some x1) (some [])))
noncomputable def X4 (K : Nat → List SV → List SO → Out) (N nl : Nat) (x0 x1 : SV) (os : List SO) : Out := exec (cx K) N nl fi4 c4 [(0, x0), (1, x1)] os (kEnd tab [] nl rs4)
noncomputable def B4 (K : Nat → List SV → List SO → Out) (N nl : Nat) (x0 x1 : SV) (os : List SO) : Out :=
 bd (lenO tab 22 os x0) fun v1 o1 =>
 bd (ret1 (binS tab .sub 3 x1 v1) o1) fun v2 o2 =>
 bd (ret1 (binS tab .lss 3 v2 (SV.v (.int .i64 0))) o2) fun v3 o3 =>
 condS v3 (retV tab nl o3 (resC1 (some (SV.v (.int .i64 (-1)))) (some [])))
 (L4_5 K N nl N x0 v2 (SV.v (.int .i64 0)) o3)
noncomputable def bk5_5 (K : Nat → List SV → List SO → Out) (N nl : Nat) (m5 : Nat) : Env → List SO → Out := fun env os => loopS nl (fi5.lp 5) (fun env os nx => exec (cx K) N nl fi5 (subC c5 [1, 1, 1, 0, 1, 0, 0]) env os (kLoop nx (kBlock 0 (kSeq (exec (cx K) N nl fi5 (subC c5 [1, 1, 1, 1])) (fi5.jn 8) (kEnd tab [] nl rs5))))) m5 (killS (fi5.lp 5).alive env) os
noncomputable def L5_5 (K : Nat → List SV → List SO → Out) (N nl : Nat) (m5 : Nat) (x2 x6 x8 x9 : SV) (os : List SO) : Out := loopS nl (fi5.lp 5) (fun env os nx => exec (cx K) N nl fi5 (subC c5 [1, 1, 1, 0, 1, 0, 0]) env os (kLoop nx (kBlock 0 (kSeq (exec (cx K) N nl fi5 (subC c5 [1, 1, 1, 1])) (fi5.jn 8) (kEnd tab [] nl rs5))))) m5 [(2, x2), (6, x6), (8, x8), (9, x9)] os
noncomputable def G5_5 (K : Nat → List SV → List SO → Out) (N nl : Nat) (m5 : Nat) (xs : List SV) (os : List SO) : Out := (fun env os nx => exec (cx K) N nl fi5 (subC c5 [1, 1, 1, 0, 1, 0, 0]) env os (kLoop nx (kBlock 0 (kSeq (exec (cx K) N nl fi5 (subC c5 [1, 1, 1, 1])) (fi5.jn 8) (kEnd tab [] nl rs5))))) (zipE [2, 6, 8, 9] xs) os (bk5_5 K N nl m5)
noncomputable def J5_6 (K : Nat → List SV → List SO → Out) (N nl : Nat) (m5 : Nat) (x2 x6 x8 x9 : SV) (os : List SO) : Out := exec (cx K) N nl fi5 (subC c5 [1, 1, 1, 0, 1, 0, 0, 1, 1]) [(2, x2), (6, x6), (8, x8), (9, x9)] os (kLoop (bk5_5 K N nl m5) (kBlock 0 (kSeq (exec (cx K) N nl fi5 (subC c5 [1, 1, 1, 1])) (fi5.jn 8) (kEnd tab [] nl rs5))))
noncomputable def GB5_5 (K : Nat → List SV → List SO → Out) (N nl : Nat) (m5 : Nat) (x2 x6 x8 x9 : SV) (os : List SO) : Out :=
 bd (lenO tab 29 os x2) fun v10 o10 =>
 bd (ret1 (binS tab .lss 3 x9 v10) o10) fun v11 o11 =>
 condS v11 (both (both (bd (ret1 (fieldAddrS tab 26 x8 2) o11) fun v12 o12 =>
 dchk (isBox v12) <|
 bd (ret1 (loadS tab o12 24 v12) o12) fun v13 o13 =>
 bd (ret1 (indexAddrS tab o13 29 x2 x9) o13) fun v14 o14 =>
 bd (ret1 (fieldAddrS tab 45 v14 0) o14) fun v15 o15 =>
 dchk (isBox v15) <|
 bd (ret1 (loadS tab o15 3 v15) o15) fun v16 o16 =>
 bd (ret1 (indexAddrS tab o16 29 x2 x9) o16) fun v17 o17 =>
 bd (ret1 (fieldAddrS tab 45 v17 1) o17) fun v18 o18 =>
 dchk (isBox v18) <|
 bd (ret1 (loadS tab o18 3 v18) o18) fun v19 o19 =>
 bd (ret1 (indexAddrS tab o19 29 x2 x9) o19) fun v20 o20 =>
 bd (ret1 (loadS tab o20 45 v20) o20) fun v21 o21 =>
 dchk (keepOk ⟨tab, ownF, K⟩ o21 (SV.fn 16 []) [v21] [v12, v15, v18] false) <|
 bd (callS ⟨tab, ownF, K⟩ o21 16 [v21]) fun v22 o22 =>
 dchk (keepOk ⟨tab, ownF, K⟩ o22 (SV.fn 15 []) [v22] [v12, v15, v18] false) <|
 bd (callS ⟨tab, ownF, K⟩ o22 15 [v22]) fun v23 o23 =>
 bd (buildS tab o23 49 [(0, (some v16)), (1, (some v19)), (2, (some v23))]) fun v24 o24 =>
 bd (buildSliceS tab o24 24 1 [(0, v24)]) fun v25 o25 =>
 bd (appendS tab o25 24 24 v13 v25) fun v26 o26 =>
 bd (ret1 (fieldAddrS tab 26 x8 2) o26) fun v27 o27 =>
 bd (storeO tab o27 24 v27 (some v26)) fun v28 o28 =>
 J5_6 K N nl m5 x2 x6 x8 x9 o28)
 (both (bd (ret1 (fieldAddrS tab 26 x8 2) o11) fun v29 o29 =>
 dchk (isBox v29) <|
 bd (ret1 (loadS tab o29 24 v29) o29) fun v30 o30 =>
 bd (ret1 (indexAddrS tab o30 29 x2 x9) o30) fun v31 o31 =>
 bd (ret1 (fieldAddrS tab 45 v31 0) o31) fun v32 o32 =>
 dchk (isBox v32) <|
 bd (ret1 (loadS tab o32 3 v32) o32) fun v33 o33 =>
 bd (ret1 (indexAddrS tab o33 29 x2 x9) o33) fun v34 o34 =>
 bd (ret1 (loadS tab o34 45 v34) o34) fun v35 o35 =>
 dchk (keepOk ⟨tab, ownF, K⟩ o35 (SV.fn 16 []) [v35] [v29, v32] false) <|
 bd (callS ⟨tab, ownF, K⟩ o35 16 [v35]) fun v36 o36 =>
 bd (ret1 (indexAddrS tab o36 29 x2 x9) o36) fun v37 o37 =>
 bd (ret1 (fieldAddrS tab 45 v37 1) o37) fun v38 o38 =>
 dchk (isBox v38) <|
 bd (ret1 (loadS tab o38 3 v38) o38) fun v39 o39 =>
 dchk (keepOk ⟨tab, ownF, K⟩ o39 (SV.fn 15 []) [v36] [v29, v32, v38] false) <|
 bd (callS ⟨tab, ownF, K⟩ o39 15 [v36]) fun v40 o40 =>
 bd (buildS tab o40 49 [(0, (some v33)), (1, (some v39)), (2, (some v40))]) fun v41 o41 =>
 bd (buildSliceS tab o41 24 1 [(0, v41)]) fun v42 o42 =>
 bd (appendS tab o42 24 24 v30 v42) fun v43 o43 =>
 bd (ret1 (fieldAddrS tab 26 x8 2) o43) fun v44 o44 =>
 bd (storeO tab o44 24 v44 (some v43)) fun v45 o45 =>
 J5_6 K N nl m5 x2 x6 x8 x9 o45)
 (bd (ret1 (fieldAddrS tab 26 x8 2) o11) fun v46 o46 =>
 dchk (isBox v46) <|
 bd (ret1 (loadS tab o46 24 v46) o46) fun v47 o47 =>
 bd (ret1 (indexAddrS tab o47 29 x2 x9) o47) fun v48 o48 =>
 bd (ret1 (fieldAddrS tab 45 v48 0) o48) fun v49 o49 =>
 dchk (isBox v49) <|
 bd (ret1 (loadS tab o49 3 v49) o49) fun v50 o50 =>
 bd (ret1 (indexAddrS tab o50 29 x2 x9) o50) fun v51 o51 =>
 bd (ret1 (loadS tab o51 45 v51) o51) fun v52 o52 =>
 dchk (keepOk ⟨tab, ownF, K⟩ o52 (SV.fn 16 []) [v52] [v46, v49] false) <|
 bd (callS ⟨tab, ownF, K⟩ o52 16 [v52]) fun v53 o53 =>
 dchk (keepOk ⟨tab, ownF, K⟩ o53 (SV.fn 15 []) [v53] [v46, v49] false) <|
 bd (callS ⟨tab, ownF, K⟩ o53 15 [v53]) fun v54 o54 =>
 bd (ret1 (indexAddrS tab o54 29 x2 x9) o54) fun v55 o55 =>
 bd (ret1 (fieldAddrS tab 45 v55 1) o55) fun v56 o56 =>
 bd (ret1 (loadS tab o56 3 v56) o56) fun v57 o57 =>
 bd (buildS tab o57 49 [(0, (some v50)), (1, (some v57)), (2, (some v54))]) fun v58 o58 =>
 bd (buildSliceS tab o58 24 1 [(0, v58)]) fun v59 o59 =>
 bd (appendS tab o59 24 24 v47 v59) fun v60 o60 =>
 bd (ret1 (fieldAddrS tab 26 x8 2) o60) fun v61 o61 =>
 bd (storeO tab o61 24 v61 (some v60)) fun v62 o62 =>
 J5_6 K N nl m5 x2 x6 x8 x9 o62)))
 (both (both (bd (ret1 (fieldAddrS tab 26 x8 2) o11) fun v63 o63 =>
 dchk (isBox v63) <|
 bd (ret1 (loadS tab o63 24 v63) o63) fun v64 o64 =>
 bd (ret1 (indexAddrS tab o64 29 x2 x9) o64) fun v65 o65 =>
 bd (ret1 (fieldAddrS tab 45 v65 1) o65) fun v66 o66 =>
 dchk (isBox v66) <|
 bd (ret1 (loadS tab o66 3 v66) o66) fun v67 o67 =>
 bd (ret1 (indexAddrS tab o67 29 x2 x9) o67) fun v68 o68 =>
 bd (ret1 (loadS tab o68 45 v68) o68) fun v69 o69 =>
 dchk (keepOk ⟨tab, ownF, K⟩ o69 (SV.fn 16 []) [v69] [v63, v66] false) <|
 bd (callS ⟨tab, ownF, K⟩ o69 16 [v69]) fun v70 o70 =>
 bd (ret1 (indexAddrS tab o70 29 x2 x9) o70) fun v71 o71 =>
 bd (ret1 (fieldAddrS tab 45 v71 0) o71) fun v72 o72 =>
 dchk (isBox v72) <|
 bd (ret1 (loadS tab o72 3 v72) o72) fun v73 o73 =>
 dchk (keepOk ⟨tab, ownF, K⟩ o73 (SV.fn 15 []) [v70] [v63, v66, v72] false) <|
 bd (callS ⟨tab, ownF, K⟩ o73 15 [v70]) fun v74 o74 =>
 bd (buildS tab o74 49 [(0, (some v73)), (1, (some v67)), (2, (some v74))]) fun v75 o75 =>
 bd (buildSliceS tab o75 24 1 [(0, v75)]) fun v76 o76 =>
 bd (appendS tab o76 24 24 v64 v76) fun v77 o77 =>
 bd (ret1 (fieldAddrS tab 26 x8 2) o77) fun v78 o78 =>
 bd (storeO tab o78 24 v78 (some v77)) fun v79 o79 =>
 J5_6 K N nl m5 x2 x6 x8 x9 o79)
 (bd (ret1 (fieldAddrS tab 26 x8 2) o11) fun v80 o80 =>
 dchk (isBox v80) <|
 bd (ret1 (loadS tab o80 24 v80) o80) fun v81 o81 =>
 bd (ret1 (indexAddrS tab o81 29 x2 x9) o81) fun v82 o82 =>
 bd (ret1 (fieldAddrS tab 45 v82 1) o82) fun v83 o83 =>
 dchk (isBox v83) <|
 bd (ret1 (loadS tab o83 3 v83) o83) fun v84 o84 =>
 bd (ret1 (indexAddrS tab o84 29 x2 x9) o84) fun v85 o85 =>
 bd (ret1 (loadS tab o85 45 v85) o85) fun v86 o86 =>
 dchk (keepOk ⟨tab, ownF, K⟩ o86 (SV.fn 16 []) [v86] [v80, v83] false) <|
 bd (callS ⟨tab, ownF, K⟩ o86 16 [v86]) fun v87 o87 =>
 dchk (keepOk ⟨tab, ownF, K⟩ o87 (SV.fn 15 []) [v87] [v80, v83] false) <|
 bd (callS ⟨tab, ownF, K⟩ o87 15 [v87]) fun v88 o88 =>
 bd (ret1 (indexAddrS tab o88 29 x2 x9) o88) fun v89 o89 =>
 bd (ret1 (fieldAddrS tab 45 v89 0) o89) fun v90 o90 =>
 bd (ret1 (loadS tab o90 3 v90) o90) fun v91 o91 =>
 bd (buildS tab o91 49 [(0, (some v91)), (1, (some v84)), (2, (some v88))]) fun v92 o92 =>
 bd (buildSliceS tab o92 24 1 [(0, v92)]) fun v93 o93 =>
 bd (appendS tab o93 24 24 v81 v93) fun v94 o94 =>
 bd (ret1 (fieldAddrS tab 26 x8 2) o94) fun v95 o95 =>
 bd (storeO tab o95 24 v95 (some v94)) fun v96 o96 =>
 J5_6 K N nl m5 x2 x6 x8 x9 o96))
 (both (both (bd (ret1 (fieldAddrS tab 26 x8 2) o11) fun v97 o97 =>
 dchk (isBox v97) <|
 bd (ret1 (loadS tab o97 24 v97) o97) fun v98 o98 =>
 bd (ret1 (indexAddrS tab o98 29 x2 x9) o98) fun v99 o99 =>
 bd (ret1 (loadS tab o99 45 v99) o99) fun v100 o100 =>
 dchk (keepOk ⟨tab, ownF, K⟩ o100 (SV.fn 16 []) [v100] [v97] false) <|
 bd (callS ⟨tab, ownF, K⟩ o100 16 [v100]) fun v101 o101 =>
 bd (ret1 (indexAddrS tab o101 29 x2 x9) o101) fun v102 o102 =>
 bd (ret1 (fieldAddrS tab 45 v102 0) o102) fun v103 o103 =>
 dchk (isBox v103) <|
 bd (ret1 (loadS tab o103 3 v103) o103) fun v104 o104 =>
 bd (ret1 (indexAddrS tab o104 29 x2 x9) o104) fun v105 o105 =>
 bd (ret1 (fieldAddrS tab 45 v105 1) o105) fun v106 o106 =>
 dchk (isBox v106) <|
 bd (ret1 (loadS tab o106 3 v106) o106) fun v107 o107 =>
 dchk (keepOk ⟨tab, ownF, K⟩ o107 (SV.fn 15 []) [v101] [v97, v103, v106] false) <|
 bd (callS ⟨tab, ownF, K⟩ o107 15 [v101]) fun v108 o108 =>
 bd (buildS tab o108 49 [(0, (some v104)), (1, (some v107)), (2, (some v108))]) fun v109 o109 =>
 bd (buildSliceS tab o109 24 1 [(0, v109)]) fun v110 o110 =>
 bd (appendS tab o110 24 24 v98 v110) fun v111 o111 =>
 bd (ret1 (fieldAddrS tab 26 x8 2) o111) fun v112 o112 =>
 bd (storeO tab o112 24 v112 (some v111)) fun v113 o113 =>
 J5_6 K N nl m5 x2 x6 x8 x9 o113)
 (bd (ret1 (fieldAddrS tab 26 x8 2) o11) fun v114 o114 =>
 dchk (isBox v114) <|
 bd (ret1 (loadS tab o114 24 v114) o114) fun v115 o115 =>
 bd (ret1 (indexAddrS tab o115 29 x2 x9) o115) fun v116 o116 =>
 bd (ret1 (loadS tab o116 45 v116) o116) fun v117 o117 =>
 dchk (keepOk ⟨tab, ownF, K⟩ o117 (SV.fn 16 []) [v117] [v114] false) <|
 bd (callS ⟨tab, ownF, K⟩ o117 16 [v117]) fun v118 o118 =>
 bd (ret1 (indexAddrS tab o118 29 x2 x9) o118) fun v119 o119 =>
 bd (ret1 (fieldAddrS tab 45 v119 0) o119) fun v120 o120 =>
 dchk (isBox v120) <|
 bd (ret1 (loadS tab o120 3 v120) o120) fun v121 o121 =>
 dchk (keepOk ⟨tab, ownF, K⟩ o121 (SV.fn 15 []) [v118] [v114, v120] false) <|
 bd (callS ⟨tab, ownF, K⟩ o121 15 [v118]) fun v122 o122 =>
 bd (ret1 (indexAddrS tab o122 29 x2 x9) o122) fun v123 o123 =>
 bd (ret1 (fieldAddrS tab 45 v123 1) o123) fun v124 o124 =>
 bd (ret1 (loadS tab o124 3 v124) o124) fun v125 o125 =>
 bd (buildS tab o125 49 [(0, (some v121)), (1, (some v125)), (2, (some v122))]) fun v126 o126 =>
 bd (buildSliceS tab o126 24 1 [(0, v126)]) fun v127 o127 =>
 bd (appendS tab o127 24 24 v115 v127) fun v128 o128 =>
 bd (ret1 (fieldAddrS tab 26 x8 2) o128) fun v129 o129 =>
 bd (storeO tab o129 24 v129 (some v128)) fun v130 o130 =>
 J5_6 K N nl m5 x2 x6 x8 x9 o130))
 (both (bd (ret1 (fieldAddrS tab 26 x8 2) o11) fun v131 o131 =>
 dchk (isBox v131) <|
 bd (ret1 (loadS tab o131 24 v131) o131) fun v132 o132 =>
 bd (ret1 (indexAddrS tab o132 29 x2 x9) o132) fun v133 o133 =>
 bd (ret1 (loadS tab o133 45 v133) o133) fun v134 o134 =>
 dchk (keepOk ⟨tab, ownF, K⟩ o134 (SV.fn 16 []) [v134] [v131] false) <|
 bd (callS ⟨tab, ownF, K⟩ o134 16 [v134]) fun v135 o135 =>
 bd (ret1 (indexAddrS tab o135 29 x2 x9) o135) fun v136 o136 =>
 bd (ret1 (fieldAddrS tab 45 v136 1) o136) fun v137 o137 =>
 dchk (isBox v137) <|
 bd (ret1 (loadS tab o137 3 v137) o137) fun v138 o138 =>
 dchk (keepOk ⟨tab, ownF, K⟩ o138 (SV.fn 15 []) [v135] [v131, v137] false) <|
 bd (callS ⟨tab, ownF, K⟩ o138 15 [v135]) fun v139 o139 =>
 bd (ret1 (indexAddrS tab o139 29 x2 x9) o139) fun v140 o140 =>
 bd (ret1 (fieldAddrS tab 45 v140 0) o140) fun v141 o141 =>
 bd (ret1 (loadS tab o141 3 v141) o141) fun v142 o142 =>
 bd (buildS tab o142 49 [(0, (some v142)), (1, (some v138)), (2, (some v139))]) fun v143 o143 =>
 bd (buildSliceS tab o143 24 1 [(0, v143)]) fun v144 o144 =>
 bd (appendS tab o144 24 24 v132 v144) fun v145 o145 =>
 bd (ret1 (fieldAddrS tab 26 x8 2) o145) fun v146 o146 =>
 bd (storeO tab o146 24 v146 (some v145)) fun v147 o147 =>
 J5_6 K N nl m5 x2 x6 x8 x9 o147)
 (bd (ret1 (fieldAddrS tab 26 x8 2) o11) fun v148 o148 =>
 dchk (isBox v148) <|
 bd (ret1 (loadS tab o148 24 v148) o148) fun v149 o149 =>
 bd (ret1 (indexAddrS tab o149 29 x2 x9) o149) fun v150 o150 =>
 bd (ret1 (loadS tab o150 45 v150) o150) fun v151 o151 =>
 dchk (keepOk ⟨tab, ownF, K⟩ o151 (SV.fn 16 []) [v151] [v148] false) <|
 bd (callS ⟨tab, ownF, K⟩ o151 16 [v151]) fun v152 o152 =>
 dchk (keepOk ⟨tab, ownF, K⟩ o152 (SV.fn 15 []) [v152] [v148] false) <|
 bd (callS ⟨tab, ownF, K⟩ o152 15 [v152]) fun v153 o153 =>
 bd (ret1 (indexAddrS tab o153 29 x2 x9) o153) fun v154 o154 =>
 bd (ret1 (fieldAddrS tab 45 v154 0) o154) fun v155 o155 =>
 bd (ret1 (loadS tab o155 3 v155) o155) fun v156 o156 =>
 bd (ret1 (indexAddrS tab o156 29 x2 x9) o156) fun v157 o157 =>
 bd (ret1 (fieldAddrS tab 45 v157 1) o157) fun v158 o158 =>
 bd (ret1 (loadS tab o158 3 v158) o158) fun v159 o159 =>
 bd (buildS tab o159 49 [(0, (some v156)), (1, (some v159)), (2, (some v153))]) fun v160 o160 =>
 bd (buildSliceS tab o160 24 1 [(0, v160)]) fun v161 o161 =>
 bd (appendS tab o161 24 24 v149 v161) fun v162 o162 =>
 bd (ret1 (fieldAddrS tab 26 x8 2) o162) fun v163 o163 =>
 bd (storeO tab o163 24 v163 (some v162)) fun v164 o164 =>
 J5_6 K N nl m5 x2 x6 x8 x9 o164)))))
 (bd (ret1 (loadS tab o11 26 x8) o11) fun v165 o165 =>
 bd (callS ⟨tab, ownF, K⟩ o165 17 [v165]) fun v166 o166 =>
 bd (ret1 (unS .not v166) o166) fun v167 o167 =>
 condS v167 (bd (buildS tab o167 26 []) fun v168 o168 =>
 bd (storeO tab o168 26 x6 (some v168)) fun v169 o169 =>
 retV tab nl o169 (resC1 (loadS tab o169 26 x6) (resC1 (some (SV.v (.bool false))) (some []))))
 (bd (ret1 (loadS tab o167 26 x8) o167) fun v170 o170 =>
 bd (storeO tab o170 26 x6 (some v170)) fun v171 o171 =>
 retV tab nl o171 (resC1 (loadS tab o171 26 x6) (resC1 (some (SV.v (.bool true))) (some [])))))
noncomputable def JB5_6 (K : Nat → List SV → List SO → Out) (N nl : Nat) (m5 : Nat) (x2 x6 x8 x9 : SV) (os : List SO) : Out :=
 bd (ret1 (binS tab .add 3 x9 (SV.v (.int .i64 1))) os) fun v172 o172 =>
 L5_5 K N nl m5 x2 x6 x8 v172 o172
noncomputable def X5 (K : Nat → List SV → List SO → Out) (N nl : Nat) (x0 x1 x2 : SV) (os : List SO) : Out := exec (cx K) N nl fi5 c5 [(0, x0), (1, x1), (2, x2)] os (kEnd tab [] nl rs5)
noncomputable def B5 (K : Nat → List SV → List SO → Out) (N nl : Nat) (x0 x1 x2 : SV) (os : List SO) : Out :=
 bd (allocS tab os 26) fun v1 o1 =>
 bd (buildSliceS tab o1 24 0 []) fun v2 o2 =>
 bd (buildS tab o2 26 [(0, (some x0)), (1, (some x1)), (2, (some v2))]) fun v3 o3 =>
 bd (allocS tab o3 26) fun v4 o4 =>
 bd (storeO tab o4 26 v4 (some v3)) fun v5 o5 =>
 bd (callS ⟨tab, ownF, K⟩ o5 14 [x2]) fun v6 o6 =>
 bd (ret1 (unS .not v6) o6) fun v7 o7 =>
 condS v7 (bd (buildS tab o7 26 []) fun v8 o8 =>
 bd (storeO tab o8 26 v1 (some v8)) fun v9 o9 =>
 retV tab nl o9 (resC1 (loadS tab o9 26 v1) (resC1 (some (SV.v (.bool false))) (some []))))
 (L5_5 K N nl N x2 v1 v4 (SV.v (.int .i64 0)) o7)
noncomputable def bk6_3 (K : Nat → List SV → List SO → Out) (N nl : Nat) (m3 : Nat) : Env → List SO → Out := fun env os => loopS nl (fi6.lp 3) (fun env os nx => exec (cx K) N nl fi6 (subC c6 [1, 1, 0, 1, 0, 0]) env os (kLoop nx (kBlock 0 (kSeq (exec (cx K) N nl fi6 (subC c6 [1, 1, 1])) (fi6.jn 6) (kEnd tab [] nl rs6))))) m3 (killS (fi6.lp 3).alive env) os
noncomputable def L6_3 (K : Nat → List SV → List SO → Out) (N nl : Nat) (m3 : Nat) (x0 x3 x4 : SV) (os : List SO) : Out := loopS nl (fi6.lp 3) (fun env os nx => exec (cx K) N nl fi6 (subC c6 [1, 1, 0, 1, 0, 0]) env os (kLoop nx (kBlock 0 (kSeq (exec (cx K) N nl fi6 (subC c6 [1, 1, 1])) (fi6.jn 6) (kEnd tab [] nl rs6))))) m3 [(0, x0), (3, x3), (4, x4)] os
noncomputable def G6_3 (K : Nat → List SV → List SO → Out) (N nl : Nat) (m3 : Nat) (xs : List SV) (os : List SO) : Out := (fun env os nx => exec (cx K) N nl fi6 (subC c6 [1, 1, 0, 1, 0, 0]) env os (kLoop nx (kBlock 0 (kSeq (exec (cx K) N nl fi6 (subC c6 [1, 1, 1])) (fi6.jn 6) (kEnd tab [] nl rs6))))) (zipE [0, 3, 4] xs) os (bk6_3 K N nl m3)
noncomputable def GB6_3 (K : Nat → List SV → List SO → Out) (N nl : Nat) (m3 : Nat) (x0 x3 x4 : SV) (os : List SO) : Out :=
 bd (lenO tab 22 os x0) fun v4 o4 =>
 bd (ret1 (binS tab .lss 3 x4 v4) o4) fun v5 o5 =>
 condS v5 (bd (ret1 (indexAddrS tab o5 22 x0 x4) o5) fun v6 o6 =>
 bd (ret1 (loadS tab o6 40 v6) o6) fun v7 o7 =>
 bd (callS ⟨tab, ownF, K⟩ o7 18 [v7]) fun v8 o8 =>
 bd (ret1 (indexAddrS tab o8 29 x3 x4) o8) fun v9 o9 =>
 bd (storeO tab o9 45 v9 (some v8)) fun v10 o10 =>
 bd (ret1 (binS tab .add 3 x4 (SV.v (.int .i64 1))) o10) fun v11 o11 =>
 L6_3 K N nl m3 x0 x3 v11 o11)
 (retV tab nl o5 (resC1 (some x3) (some [])))
noncomputable def X6 (K : Nat → List SV → List SO → Out) (N nl : Nat) (x0 : SV) (os : List SO) : Out := exec (cx K) N nl fi6 c6 [(0, x0)] os (kEnd tab [] nl rs6)
noncomputable def B6 (K : Nat → List SV → List SO → Out) (N nl : Nat) (x0 : SV) (os : List SO) : Out :=
 bd (evN tab 29 os none) fun v1 o1 =>
 bd (lenO tab 22 o1 x0) fun v2 o2 =>
 bd (makeS tab o2 29 v2 v2) fun v3 o3 =>
 L6_3 K N nl N x0 v3 (SV.v (.int .i64 0)) o3
noncomputable def bk7_5 (K : Nat → List SV → List SO → Out) (N nl : Nat) (m5 : Nat) : Env → List SO → Out := fun env os => loopS nl (fi7.lp 5) (fun env os nx => exec (cx K) N nl fi7 (subC c7 [1, 1, 1, 0, 1, 0, 0]) env os (kLoop nx (kBlock 0 (kSeq (exec (cx K) N nl fi7 (subC c7 [1, 1, 1, 1])) (fi7.jn 9) (kEnd tab [] nl rs7))))) m5 (killS (fi7.lp 5).alive env) os
noncomputable def L7_5 (K : Nat → List SV → List SO → Out) (N nl : Nat) (m5 : Nat) (x6 x8 x18 x19 x20 : SV) (os : List SO) : Out := loopS nl (fi7.lp 5) (fun env os nx => exec (cx K) N nl fi7 (subC c7 [1, 1, 1, 0, 1, 0, 0]) env os (kLoop nx (kBlock 0 (kSeq (exec (cx K) N nl fi7 (subC c7 [1, 1, 1, 1])) (fi7.jn 9) (kEnd tab [] nl rs7))))) m5 [(6, x6), (8, x8), (18, x18), (19, x19), (20, x20)] os
noncomputable def G7_5 (K : Nat → List SV → List SO → Out) (N nl : Nat) (m5 : Nat) (xs : List SV) (os : List SO) : Out := (fun env os nx => exec (cx K) N nl fi7 (subC c7 [1, 1, 1, 0, 1, 0, 0]) env os (kLoop nx (kBlock 0 (kSeq (exec (cx K) N nl fi7 (subC c7 [1, 1, 1, 1])) (fi7.jn 9) (kEnd tab [] nl rs7))))) (zipE [6, 8, 18, 19, 20] xs) os (bk7_5 K N nl m5)
noncomputable def GB7_5 (K : Nat → List SV → List SO → Out) (N nl : Nat) (m5 : Nat) (x6 x8 x18 x19 x20 : SV) (os : List SO) : Out :=
 bd (ret1 (binS tab .lss 3 x20 x19) os) fun v10 o10 =>
 condS v10 (bd (ret1 (indexAddrS tab o10 29 x18 x20) o10) fun v11 o11 =>
 bd (ret1 (loadS tab o11 45 v11) o11) fun v12 o12 =>
 bd (allocS tab o12 45) fun v13 o13 =>
 bd (storeO tab o13 45 v13 (some v12)) fun v14 o14 =>
 bd (ret1 (fieldAddrS tab 26 x8 2) o14) fun v15 o15 =>
 dchk (isBox v15) <|
 bd (ret1 (loadS tab o15 24 v15) o15) fun v16 o16 =>
 bd (ret1 (loadS tab o16 45 v13) o16) fun v17 o17 =>
 dchk (keepOk ⟨tab, ownF, K⟩ o17 (SV.fn 20 []) [v17] [v15] false) <|
 bd (callS ⟨tab, ownF, K⟩ o17 20 [v17]) fun v18 o18 =>
 bd (buildSliceS tab o18 24 1 [(0, v18)]) fun v19 o19 =>
 bd (appendS tab o19 24 24 v16 v19) fun v20 o20 =>
 bd (ret1 (fieldAddrS tab 26 x8 2) o20) fun v21 o21 =>
 bd (storeO tab o21 24 v21 (some v20)) fun v22 o22 =>
 bd (ret1 (binS tab .add 3 x20 (SV.v (.int .i64 1))) o22) fun v23 o23 =>
 L7_5 K N nl m5 x6 x8 x18 x19 v23 o23)
 (bd (ret1 (loadS tab o10 26 x8) o10) fun v24 o24 =>
 bd (callS ⟨tab, ownF, K⟩ o24 21 [v24]) fun v25 o25 =>
 bd (ret1 (unS .not v25) o25) fun v26 o26 =>
 condS v26 (bd (buildS tab o26 26 []) fun v27 o27 =>
 bd (storeO tab o27 26 x6 (some v27)) fun v28 o28 =>
 retV tab nl o28 (resC1 (loadS tab o28 26 x6) (resC1 (some (SV.v (.bool false))) (some []))))
 (bd (ret1 (loadS tab o26 26 x8) o26) fun v29 o29 =>
 bd (storeO tab o29 26 x6 (some v29)) fun v30 o30 =>
 retV tab nl o30 (resC1 (loadS tab o30 26 x6) (resC1 (some (SV.v (.bool true))) (some [])))))
noncomputable def X7 (K : Nat → List SV → List SO → Out) (N nl : Nat) (x0 x1 x2 : SV) (os : List SO) : Out := exec (cx K) N nl fi7 c7 [(0, x0), (1, x1), (2, x2)] os (kEnd tab [] nl rs7)
noncomputable def B7 (K : Nat → List SV → List SO → Out) (N nl : Nat) (x0 x1 x2 : SV) (os : List SO) : Out :=
 bd (allocS tab os 26) fun v1 o1 =>
 bd (callS ⟨tab, ownF, K⟩ o1 19 [x2]) fun v2 o2 =>
 bd (ret1 (unS .not v2) o2) fun v3 o3 =>
 condS v3 (bd (buildS tab o3 26 []) fun v4 o4 =>
 bd (storeO tab o4 26 v1 (some v4)) fun v5 o5 =>
 retV tab nl o5 (resC1 (loadS tab o5 26 v1) (resC1 (some (SV.v (.bool false))) (some []))))
 (bd (buildS tab o3 26 [(0, (some x0)), (1, (some x1))]) fun v6 o6 =>
 bd (allocS tab o6 26) fun v7 o7 =>
 bd (storeO tab o7 26 v7 (some v6)) fun v8 o8 =>
 bd (lenO tab 29 o8 x2) fun v9 o9 =>
 L7_5 K N nl N v1 v7 x2 v9 (SV.v (.int .i64 0)) o9)
noncomputable def X8 (K : Nat → List SV → List SO → Out) (N nl : Nat) (x0 x1 : SV) (os : List SO) : Out := exec (cx K) N nl fi8 c8 [(0, x0), (1, x1)] os (kEnd tab [] nl rs8)
noncomputable def B8 (K : Nat → List SV → List SO → Out) (N nl : Nat) (x0 x1 : SV) (os : List SO) : Out :=
 bd (boxS tab os 26 (some x0)) fun v1 o1 =>
 bd (boxS tab o1 26 (some x1)) fun v2 o2 =>
 bd (ret1 (fieldAddrS tab 26 v1 0) o2) fun v3 o3 =>
 bd (ret1 (loadS tab o3 3 v3) o3) fun v4 o4 =>
 bd (ret1 (fieldAddrS tab 26 v2 0) o4) fun v5 o5 =>
 bd (ret1 (loadS tab o5 3 v5) o5) fun v6 o6 =>
 bd (ret1 (binS tab .neq 3 v4 v6) o6) fun v7 o7 =>
 condS v7 (retV tab nl o7 (resC1 (some (SV.v (.bool false))) (some [])))
 (bd (ret1 (fieldAddrS tab 26 v1 1) o7) fun v8 o8 =>
 bd (ret1 (loadS tab o8 3 v8) o8) fun v9 o9 =>
 bd (ret1 (fieldAddrS tab 26 v2 1) o9) fun v10 o10 =>
 bd (ret1 (loadS tab o10 3 v10) o10) fun v11 o11 =>
 bd (ret1 (binS tab .neq 3 v9 v11) o11) fun v12 o12 =>
 condS v12 (retV tab nl o12 (resC1 (some (SV.v (.bool false))) (some [])))
 (bd (ret1 (fieldAddrS tab 26 v1 2) o12) fun v13 o13 =>
 bd (ret1 (loadS tab o13 24 v13) o13) fun v14 o14 =>
 bd (ret1 (fieldAddrS tab 26 v2 2) o14) fun v15 o15 =>
 bd (ret1 (loadS tab o15 24 v15) o15) fun v16 o16 =>
 bd (callS ⟨tab, ownF, K⟩ o16 22 [v14, v16]) fun v17 o17 =>
 bd (ret1 (unS .not v17) o17) fun v18 o18 =>
 condS v18 (retV tab nl o18 (resC1 (some (SV.v (.bool false))) (some [])))
 (retV tab nl o18 (resC1 (some (SV.v (.bool true))) (some [])))))
noncomputable def bk9_4 (K : Nat → List SV → List SO → Out) (N nl : Nat) (m4 : Nat) : Env → List SO → Out := fun env os => loopS nl (fi9.lp 4) (fun env os nx => exec (cx K) N nl fi9 (subC c9 [1, 1, 0, 1, 0, 0]) env os (kLoop nx (kBlock 0 (kSeq (exec (cx K) N nl fi9 (subC c9 [1, 1, 1])) (fi9.jn 8) (kEnd tab [] nl rs9))))) m4 (killS (fi9.lp 4).alive env) os
noncomputable def L9_4 (K : Nat → List SV → List SO → Out) (N nl : Nat) (m4 : Nat) (x0 x1 x5 : SV) (os : List SO) : Out := loopS nl (fi9.lp 4) (fun env os nx => exec (cx K) N nl fi9 (subC c9 [1, 1, 0, 1, 0, 0]) env os (kLoop nx (kBlock 0 (kSeq (exec (cx K) N nl fi9 (subC c9 [1, 1, 1])) (fi9.jn 8) (kEnd tab [] nl rs9))))) m4 [(0, x0), (1, x1), (5, x5)] os
noncomputable def LB9_4 (K : Nat → List SV → List SO → Out) (N nl : Nat) (m4 : Nat) (x0 x1 x5 : SV) (os : List SO) : Out :=
 bd (lenO tab 29 os x0) fun v4 o4 =>
 bd (ret1 (binS tab .lss 3 x5 v4) o4) fun v5 o5 =>
 condS v5 (bd (ret1 (indexAddrS tab o5 29 x0 x5) o5) fun v6 o6 =>
 bd (ret1 (loadS tab o6 45 v6) o6) fun v7 o7 =>
 bd (ret1 (indexAddrS tab o7 29 x1 x5) o7) fun v8 o8 =>
 bd (ret1 (loadS tab o8 45 v8) o8) fun v9 o9 =>
 bd (callS ⟨tab, ownF, K⟩ o9 23 [v7, v9]) fun v10 o10 =>
 bd (ret1 (unS .not v10) o10) fun v11 o11 =>
 condS v11 (retV tab nl o11 (resC1 (some (SV.v (.bool false))) (some [])))
 (bd (ret1 (binS tab .add 3 x5 (SV.v (.int .i64 1))) o11) fun v12 o12 =>
 L9_4 K N nl m4 x0 x1 v12 o12))
 (retV tab nl o5 (resC1 (some (SV.v (.bool true))) (some [])))
noncomputable def X9 (K : Nat → List SV → List SO → Out) (N nl : Nat) (x0 x1 : SV) (os : List SO) : Out := exec (cx K) N nl fi9 c9 [(0, x0), (1, x1)] os (kEnd tab [] nl rs9)
noncomputable def B9 (K : Nat → List SV → List SO → Out) (N nl : Nat) (x0 x1 : SV) (os : List SO) : Out :=
 bd (lenO tab 29 os x0) fun v1 o1 =>
 bd (lenO tab 29 o1 x1) fun v2 o2 =>
 bd (ret1 (binS tab .neq 3 v1 v2) o2) fun v3 o3 =>
 condS v3 (retV tab nl o3 (resC1 (some (SV.v (.bool false))) (some [])))
 (L9_4 K N nl N x0 x1 (SV.v (.int .i64 0)) o3)
noncomputable def bk10_2 (K : Nat → List SV → List SO → Out) (N nl : Nat) (m2 : Nat) : Env → List SO → Out := fun env os => loopS nl (fi10.lp 2) (fun env os nx => exec (cx K) N nl fi10 (subC c10 [1, 0, 1, 0, 0]) env os (kLoop nx (kBlock 0 (kSeq (exec (cx K) N nl fi10 (subC c10 [1, 1])) (fi10.jn 10) (kEnd tab [] nl rs10))))) m2 (killS (fi10.lp 2).alive env) os
noncomputable def L10_2 (K : Nat → List SV → List SO → Out) (N nl : Nat) (m2 : Nat) (x0 x1 x5 : SV) (os : List SO) : Out := loopS nl (fi10.lp 2) (fun env os nx => exec (cx K) N nl fi10 (subC c10 [1, 0, 1, 0, 0]) env os (kLoop nx (kBlock 0 (kSeq (exec (cx K) N nl fi10 (subC c10 [1, 1])) (fi10.jn 10) (kEnd tab [] nl rs10))))) m2 [(0, x0), (1, x1), (5, x5)] os
noncomputable def LB10_2 (K : Nat → List SV → List SO → Out) (N nl : Nat) (m2 : Nat) (x0 x1 x5 : SV) (os : List SO) : Out :=
 bd (lenO tab 29 os x0) fun v1 o1 =>
 bd (ret1 (binS tab .lss 3 x5 v1) o1) fun v2 o2 =>
 condS v2 (bd (ret1 (indexAddrS tab o2 29 x0 x5) o2) fun v3 o3 =>
 bd (ret1 (fieldAddrS tab 45 v3 0) o3) fun v4 o4 =>
 bd (storeO tab o4 3 v4 (some x1)) fun v5 o5 =>
 bd (ret1 (binS tab .add 3 x1 (SV.v (.int .i64 1))) o5) fun v6 o6 =>
 bd (ret1 (indexAddrS tab o6 29 x0 x5) o6) fun v7 o7 =>
 bd (ret1 (fieldAddrS tab 45 v7 1) o7) fun v8 o8 =>
 bd (storeO tab o8 3 v8 (some v6)) fun v9 o9 =>
 bd (ret1 (binS tab .add 3 v6 (SV.v (.int .i64 1))) o9) fun v10 o10 =>
 bd (ret1 (indexAddrS tab o10 29 x0 x5) o10) fun v11 o11 =>
 bd (ret1 (fieldAddrS tab 45 v11 2) o11) fun v12 o12 =>
 bd (ret1 (loadS tab o12 42 v12) o12) fun v13 o13 =>
 bd (callS ⟨tab, ownF, K⟩ o13 24 [v13, v10]) fun v14 o14 =>
 bd (ret1 (indexAddrS tab o14 29 x0 x5) o14) fun v15 o15 =>
 bd (ret1 (fieldAddrS tab 45 v15 3) o15) fun v16 o16 =>
 bd (ret1 (loadS tab o16 43 v16) o16) fun v17 o17 =>
 bd (callS ⟨tab, ownF, K⟩ o17 25 [v17, v14]) fun v18 o18 =>
 bd (ret1 (binS tab .add 3 x5 (SV.v (.int .i64 1))) o18) fun v19 o19 =>
 L10_2 K N nl m2 x0 v18 v19 o19)
 (retV tab nl o2 (resC1 (some x1) (some [])))
noncomputable def X10 (K : Nat → List SV → List SO → Out) (N nl : Nat) (x0 x1 : SV) (os : List SO) : Out := exec (cx K) N nl fi10 c10 [(0, x0), (1, x1)] os (kEnd tab [] nl rs10)
noncomputable def B10 (K : Nat → List SV → List SO → Out) (N nl : Nat) (x0 x1 : SV) (os : List SO) : Out :=
 L10_2 K N nl N x0 x1 (SV.v (.int .i64 0)) os
noncomputable def X11 (K : Nat → List SV → List SO → Out) (N nl : Nat) (x0 x1 : SV) (os : List SO) : Out := exec (cx K) N nl fi11 c11 [(0, x0), (1, x1)] os (kEnd tab [] nl rs11)
noncomputable def B11 (K : Nat → List SV → List SO → Out) (N nl : Nat) (x0 x1 : SV) (os : List SO) : Out :=
 bd (boxS tab os 26 (some x0)) fun v1 o1 =>
 bd (ret1 (fieldAddrS tab 26 v1 2) o1) fun v2 o2 =>
 bd (ret1 (loadS tab o2 24 v2) o2) fun v3 o3 =>
 bd (callS ⟨tab, ownF, K⟩ o3 26 [v3, x1]) fun v4 o4 =>
 retV tab nl o4 (resC1 (some v4) (some []))
noncomputable def X12 (K : Nat → List SV → List SO → Out) (N nl : Nat) (x0 x1 : SV) (os : List SO) : Out := exec (cx K) N nl fi12 c12 [(0, x0), (1, x1)] os (kEnd tab [] nl rs12)
noncomputable def B12 (K : Nat → List SV → List SO → Out) (N nl : Nat) (x0 x1 : SV) (os : List SO) : Out :=
 bd (boxS tab os 26 (some x0)) fun v1 o1 =>
 bd (ret1 (fieldAddrS tab 26 v1 2) o1) fun v2 o2 =>
 bd (ret1 (loadS tab o2 24 v2) o2) fun v3 o3 =>
 bd (callS ⟨tab, ownF, K⟩ o3 27 [v3, x1]) fun v4 o4 =>
 bd (ret1 (binS tab .lss 3 v4 (SV.v (.int .i64 0))) o4) fun v5 o5 =>
 condS v5 (retV tab nl o5 (resC1 (some (SV.v (.int .i64 (-1)))) (some [])))
 (retV tab nl o5 (resC1 (some v4) (some [])))
noncomputable def X13 (K : Nat → List SV → List SO → Out) (N nl : Nat) (x0 x1 : SV) (os : List SO) : Out := exec (cx K) N nl fi13 c13 [(0, x0), (1, x1)] os (kEnd tab [] nl rs13)
noncomputable def B13 (K : Nat → List SV → List SO → Out) (N nl : Nat) (x0 x1 : SV) (os : List SO) : Out :=
 bd (boxS tab os 40 (some x0)) fun v1 o1 =>
 bd (ret1 (fieldAddrS tab 40 v1 2) o1) fun v2 o2 =>
 bd (ret1 (loadS tab o2 37 v2) o2) fun v3 o3 =>
 bd (callS ⟨tab, ownF, K⟩ o3 28 [v3, x1]) fun v4 o4 =>
 bd (ret1 (binS tab .lss 3 v4 (SV.v (.int .i64 0))) o4) fun v5 o5 =>
 condS v5 (retV tab nl o5 (resC1 (some (SV.v (.int .i64 (-1)))) (some [])))
 (bd (ret1 (fieldAddrS tab 40 v1 3) o5) fun v6 o6 =>
 bd (ret1 (loadS tab o6 38 v6) o6) fun v7 o7 =>
 bd (callS ⟨tab, ownF, K⟩ o7 29 [v7, v4]) fun v8 o8 =>
 bd (ret1 (binS tab .lss 3 v8 (SV.v (.int .i64 0))) o8) fun v9 o9 =>
 condS v9 (retV tab nl o9 (resC1 (some (SV.v (.int .i64 (-1)))) (some [])))
 (retV tab nl o9 (resC1 (some v8) (some []))))
noncomputable def bk14_2 (K : Nat → List SV → List SO → Out) (N nl : Nat) (m2 : Nat) : Env → List SO → Out := fun env os => loopS nl (fi14.lp 2) (fun env os nx => exec (cx K) N nl fi14 (subC c14 [1, 0, 1, 0, 0]) env os (kLoop nx (kBlock 0 (kSeq (exec (cx K) N nl fi14 (subC c14 [1, 1])) (fi14.jn 6) (kEnd tab [] nl rs14))))) m2 (killS (fi14.lp 2).alive env) os
noncomputable def L14_2 (K : Nat → List SV → List SO → Out) (N nl : Nat) (m2 : Nat) (x0 x3 : SV) (os : List SO) : Out := loopS nl (fi14.lp 2) (fun env os nx => exec (cx K) N nl fi14 (subC c14 [1, 0, 1, 0, 0]) env os (kLoop nx (kBlock 0 (kSeq (exec (cx K) N nl fi14 (subC c14 [1, 1])) (fi14.jn 6) (kEnd tab [] nl rs14))))) m2 [(0, x0), (3, x3)] os
noncomputable def LB14_2 (K : Nat → List SV → List SO → Out) (N nl : Nat) (m2 : Nat) (x0 x3 : SV) (os : List SO) : Out :=
 bd (lenO tab 29 os x0) fun v1 o1 =>
 bd (ret1 (binS tab .lss 3 x3 v1) o1) fun v2 o2 =>
 condS v2 (bd (ret1 (indexAddrS tab o2 29 x0 x3) o2) fun v3 o3 =>
 bd (ret1 (loadS tab o3 45 v3) o3) fun v4 o4 =>
 bd (callS ⟨tab, ownF, K⟩ o4 30 [v4]) fun v5 o5 =>
 bd (ret1 (unS .not v5) o5) fun v6 o6 =>
 bd (gd v6 false (some (x3, o6)) o6) fun v7 o7 =>
 bd (gd v6 false (ret1 (binS tab .gtr 3 v7 (SV.v (.int .i64 0))) o7) o7) fun v8 o8 =>
 bd (gd v6 false (some (v8, o8)) o8) fun v9 o9 =>
 bd (gd v9 true (some (x0, o9)) o9) fun v10 o10 =>
 bd (gd v9 true (some (x3, o10)) o10) fun v11 o11 =>
 bd (gd v9 true (ret1 (binS tab .sub 3 v11 (SV.v (.int .i64 1))) o11) o11) fun v12 o12 =>
 bd (gd v9 true (ret1 (indexAddrS tab o12 29 v10 v12) o12) o12) fun v13 o13 =>
 bd (gd v9 true (ret1 (fieldAddrS tab 45 v13 0) o13) o13) fun v14 o14 =>
 bd (gd v9 true (ret1 (loadS tab o14 3 v14) o14) o14) fun v15 o15 =>
 bd (gd v9 true (some (x0, o15)) o15) fun v16 o16 =>
 bd (gd v9 true (some (x3, o16)) o16) fun v17 o17 =>
 bd (gd v9 true (ret1 (binS tab .sub 3 v17 (SV.v (.int .i64 1))) o17) o17) fun v18 o18 =>
 bd (gd v9 true (ret1 (indexAddrS tab o18 29 v16 v18) o18) o18) fun v19 o19 =>
 bd (gd v9 true (ret1 (fieldAddrS tab 45 v19 1) o19) o19) fun v20 o20 =>
 bd (gd v9 true (ret1 (loadS tab o20 3 v20) o20) o20) fun v21 o21 =>
 bd (gd v9 true (some (x0, o21)) o21) fun v22 o22 =>
 bd (gd v9 true (some (x3, o22)) o22) fun v23 o23 =>
 bd (gd v9 true (ret1 (indexAddrS tab o23 29 v22 v23) o23) o23) fun v24 o24 =>
 bd (gd v9 true (ret1 (fieldAddrS tab 45 v24 0) o24) o24) fun v25 o25 =>
 bd (gd v9 true (ret1 (loadS tab o25 3 v25) o25) o25) fun v26 o26 =>
 bd (gd v9 true (some (x0, o26)) o26) fun v27 o27 =>
 bd (gd v9 true (some (x3, o27)) o27) fun v28 o28 =>
 bd (gd v9 true (ret1 (indexAddrS tab o28 29 v27 v28) o28) o28) fun v29 o29 =>
 bd (gd v9 true (ret1 (fieldAddrS tab 45 v29 1) o29) o29) fun v30 o30 =>
 bd (gd v9 true (ret1 (loadS tab o30 3 v30) o30) o30) fun v31 o31 =>
 bd (gd v9 true (callS ⟨tab, ownF, K⟩ o31 31 [v15, v21, v26, v31]) o31) fun v32 o32 =>
 bd (gd v9 true (ret1 (unS .not v32) o32) o32) fun v33 o33 =>
 bd (gd v6 false (ret1 (pickS v9 v33 (SV.v (.bool false))) o33) o33) fun v34 o34 =>
 bd (ret1 (pickS v6 (SV.v (.bool true)) v34) o34) fun v35 o35 =>
 condS v35 (retV tab nl o35 (resC1 (some (SV.v (.bool false))) (some [])))
 (bd (ret1 (binS tab .add 3 x3 (SV.v (.int .i64 1))) o35) fun v36 o36 =>
 L14_2 K N nl m2 x0 v36 o36))
 (retV tab nl o2 (resC1 (some (SV.v (.bool true))) (some [])))
noncomputable def X14 (K : Nat → List SV → List SO → Out) (N nl : Nat) (x0 : SV) (os : List SO) : Out := exec (cx K) N nl fi14 c14 [(0, x0)] os (kEnd tab [] nl rs14)
noncomputable def B14 (K : Nat → List SV → List SO → Out) (N nl : Nat) (x0 : SV) (os : List SO) : Out :=
 L14_2 K N nl N x0 (SV.v (.int .i64 0)) os
noncomputable def bk15_3 (K : Nat → List SV → List SO → Out) (N nl : Nat) (m3 : Nat) : Env → List SO → Out := fun env os => loopS nl (fi15.lp 3) (fun env os nx => exec (cx K) N nl fi15 (subC c15 [1, 1, 0, 1, 0, 0]) env os (kLoop nx (kBlock 0 (kSeq (exec (cx K) N nl fi15 (subC c15 [1, 1, 1])) (fi15.jn 6) (kEnd tab [] nl rs15))))) m3 (killS (fi15.lp 3).alive env) os
noncomputable def L15_3 (K : Nat → List SV → List SO → Out) (N nl : Nat) (m3 : Nat) (x0 x3 x4 : SV) (os : List SO) : Out := loopS nl (fi15.lp 3) (fun env os nx => exec (cx K) N nl fi15 (subC c15 [1, 1, 0, 1, 0, 0]) env os (kLoop nx (kBlock 0 (kSeq (exec (cx K) N nl fi15 (subC c15 [1, 1, 1])) (fi15.jn 6) (kEnd tab [] nl rs15))))) m3 [(0, x0), (3, x3), (4, x4)] os
noncomputable def LB15_3 (K : Nat → List SV → List SO → Out) (N nl : Nat) (m3 : Nat) (x0 x3 x4 : SV) (os : List SO) : Out :=
 bd (lenO tab 9 os x0) fun v1 o1 =>
 bd (ret1 (binS tab .lss 3 x4 v1) o1) fun v2 o2 =>
 condS v2 (bd (ret1 (binS tab .mul 3 (SV.v (.int .i64 31)) x3) o2) fun v3 o3 =>
 bd (ret1 (indexS tab 9 x0 x4) o3) fun v4 o4 =>
 bd (convS tab o4 5 3 v4) fun v5 o5 =>
 bd (ret1 (binS tab .add 3 v3 v5) o5) fun v6 o6 =>
 bd (ret1 (binS tab .add 3 v6 (SV.v (.int .i64 1))) o6) fun v7 o7 =>
 bd (ret1 (binS tab .rem 3 v7 (SV.v (.int .i64 9973))) o7) fun v8 o8 =>
 bd (ret1 (binS tab .add 3 x4 (SV.v (.int .i64 1))) o8) fun v9 o9 =>
 L15_3 K N nl m3 x0 v8 v9 o9)
 (retV tab nl o2 (resC1 (some x3) (some [])))
noncomputable def X15 (K : Nat → List SV → List SO → Out) (N nl : Nat) (x0 : SV) (os : List SO) : Out := exec (cx K) N nl fi15 c15 [(0, x0)] os (kEnd tab [] nl rs15)
noncomputable def B15 (K : Nat → List SV → List SO → Out) (N nl : Nat) (x0 : SV) (os : List SO) : Out :=
 L15_3 K N nl N x0 (SV.v (.int .i64 7)) (SV.v (.int .i64 0)) os
noncomputable def bk16_5 (K : Nat → List SV → List SO → Out) (N nl : Nat) (m5 : Nat) : Env → List SO → Out := fun env os => loopS nl (fi16.lp 5) (fun env os nx => exec (cx K) N nl fi16 (subC c16 [1, 1, 1, 0, 1, 0, 0]) env os (kLoop nx (kBlock 0 (kSeq (exec (cx K) N nl fi16 (subC c16 [1, 1, 1, 1])) (fi16.jn 8) (kEnd tab [] nl rs16))))) m5 (killS (fi16.lp 5).alive env) os
noncomputable def bk16_9 (K : Nat → List SV → List SO → Out) (N nl : Nat) (m9 : Nat) : Env → List SO → Out := fun env os => loopS nl (fi16.lp 9) (fun env os nx => exec (cx K) N nl fi16 (subC c16 [1, 1, 1, 1, 0, 1, 0, 0]) env os (kLoop nx (kBlock 2 (kSeq (exec (cx K) N nl fi16 (subC c16 [1, 1, 1, 1, 1])) (fi16.jn 12) (kEnd tab [] nl rs16))))) m9 (killS (fi16.lp 9).alive env) os
noncomputable def L16_5 (K : Nat → List SV → List SO → Out) (N nl : Nat) (m5 : Nat) (x1 x3 x4 : SV) (os : List SO) : Out := loopS nl (fi16.lp 5) (fun env os nx => exec (cx K) N nl fi16 (subC c16 [1, 1, 1, 0, 1, 0, 0]) env os (kLoop nx (kBlock 0 (kSeq (exec (cx K) N nl fi16 (subC c16 [1, 1, 1, 1])) (fi16.jn 8) (kEnd tab [] nl rs16))))) m5 [(1, x1), (3, x3), (4, x4)] os
noncomputable def J16_6 (K : Nat → List SV → List SO → Out) (N nl : Nat) (m5 : Nat) (x1 x3 x4 : SV) (os : List SO) : Out := exec (cx K) N nl fi16 (subC c16 [1, 1, 1, 0, 1, 0, 0, 1, 1]) [(1, x1), (3, x3), (4, x4)] os (kLoop (bk16_5 K N nl m5) (kBlock 0 (kSeq (exec (cx K) N nl fi16 (subC c16 [1, 1, 1, 1])) (fi16.jn 8) (kEnd tab [] nl rs16))))
noncomputable def L16_9 (K : Nat → List SV → List SO → Out) (N nl : Nat) (m9 : Nat) (x1 x3 x5 : SV) (os : List SO) : Out := loopS nl (fi16.lp 9) (fun env os nx => exec (cx K) N nl fi16 (subC c16 [1, 1, 1, 1, 0, 1, 0, 0]) env os (kLoop nx (kBlock 2 (kSeq (exec (cx K) N nl fi16 (subC c16 [1, 1, 1, 1, 1])) (fi16.jn 12) (kEnd tab [] nl rs16))))) m9 [(1, x1), (3, x3), (5, x5)] os
noncomputable def LB16_5 (K : Nat → List SV → List SO → Out) (N nl : Nat) (m5 : Nat) (x1 x3 x4 : SV) (os : List SO) : Out :=
 bd (ret1 (fieldAddrS tab 45 x1 2) os) fun v10 o10 =>
 bd (ret1 (loadS tab o10 42 v10) o10) fun v11 o11 =>
 bd (lenO tab 42 o11 v11) fun v12 o12 =>
 bd (ret1 (binS tab .lss 3 x4 v12) o12) fun v13 o13 =>
 condS v13 (both (bd (ret1 (binS tab .add 9 x3 (SV.v (.string ⟨#[32]⟩))) o13) fun v14 o14 =>
 bd (ret1 (fieldAddrS tab 45 x1 2) o14) fun v15 o15 =>
 bd (ret1 (loadS tab o15 42 v15) o15) fun v16 o16 =>
 bd (ret1 (indexAddrS tab o16 42 v16 x4) o16) fun v17 o17 =>
 bd (ret1 (fieldAddrS tab 65 v17 0) o17) fun v18 o18 =>
 bd (ret1 (loadS tab o18 3 v18) o18) fun v19 o19 =>
 dchk (keepOk ⟨tab, ownF, K⟩ o19 (SV.fn 33 []) [v19] [] true) <|
 bd (callS ⟨tab, ownF, K⟩ o19 33 [v19]) fun v20 o20 =>
 bd (ret1 (binS tab .add 9 v14 v20) o20) fun v21 o21 =>
 bd (ret1 (binS tab .add 9 v21 (SV.v (.string ⟨#[58]⟩))) o21) fun v22 o22 =>
 bd (ret1 (fieldAddrS tab 45 x1 2) o22) fun v23 o23 =>
 dchk (isBox v23) <|
 bd (ret1 (loadS tab o23 42 v23) o23) fun v24 o24 =>
 bd (ret1 (indexAddrS tab o24 42 v24 x4) o24) fun v25 o25 =>
 bd (ret1 (fieldAddrS tab 65 v25 1) o25) fun v26 o26 =>
 bd (ret1 (loadS tab o26 3 v26) o26) fun v27 o27 =>
 bd (callS ⟨tab, ownF, K⟩ o27 33 [v27]) fun v28 o28 =>
 bd (ret1 (binS tab .add 9 v22 v28) o28) fun v29 o29 =>
 J16_6 K N nl m5 x1 v29 x4 o29)
 (bd (ret1 (binS tab .add 9 x3 (SV.v (.string ⟨#[32]⟩))) o13) fun v30 o30 =>
 bd (ret1 (fieldAddrS tab 45 x1 2) o30) fun v31 o31 =>
 bd (ret1 (loadS tab o31 42 v31) o31) fun v32 o32 =>
 bd (ret1 (indexAddrS tab o32 42 v32 x4) o32) fun v33 o33 =>
 bd (ret1 (fieldAddrS tab 65 v33 0) o33) fun v34 o34 =>
 bd (ret1 (loadS tab o34 3 v34) o34) fun v35 o35 =>
 bd (ret1 (fieldAddrS tab 45 x1 2) o35) fun v36 o36 =>
 bd (ret1 (loadS tab o36 42 v36) o36) fun v37 o37 =>
 bd (ret1 (indexAddrS tab o37 42 v37 x4) o37) fun v38 o38 =>
 dchk (keepOk ⟨tab, ownF, K⟩ o38 (SV.fn 33 []) [v35] [] true) <|
 bd (callS ⟨tab, ownF, K⟩ o38 33 [v35]) fun v39 o39 =>
 bd (ret1 (binS tab .add 9 v30 v39) o39) fun v40 o40 =>
 bd (ret1 (binS tab .add 9 v40 (SV.v (.string ⟨#[58]⟩))) o40) fun v41 o41 =>
 bd (ret1 (fieldAddrS tab 65 v38 1) o41) fun v42 o42 =>
 dchk (isBox v42) <|
 bd (ret1 (loadS tab o42 3 v42) o42) fun v43 o43 =>
 bd (callS ⟨tab, ownF, K⟩ o43 33 [v43]) fun v44 o44 =>
 bd (ret1 (binS tab .add 9 v41 v44) o44) fun v45 o45 =>
 J16_6 K N nl m5 x1 v45 x4 o45))
 (L16_9 K N nl N x1 x3 (SV.v (.int .i64 0)) o13)
noncomputable def JB16_6 (K : Nat → List SV → List SO → Out) (N nl : Nat) (m5 : Nat) (x1 x3 x4 : SV) (os : List SO) : Out :=
 bd (ret1 (binS tab .add 3 x4 (SV.v (.int .i64 1))) os) fun v46 o46 =>
 L16_5 K N nl m5 x1 x3 v46 o46
noncomputable def LB16_9 (K : Nat → List SV → List SO → Out) (N nl : Nat) (m9 : Nat) (x1 x3 x5 : SV) (os : List SO) : Out :=
 bd (ret1 (fieldAddrS tab 45 x1 3) os) fun v47 o47 =>
 bd (ret1 (loadS tab o47 43 v47) o47) fun v48 o48 =>
 bd (lenO tab 43 o48 v48) fun v49 o49 =>
 bd (ret1 (binS tab .lss 3 x5 v49) o49) fun v50 o50 =>
 condS v50 (bd (ret1 (binS tab .add 9 x3 (SV.v (.string ⟨#[32]⟩))) o50) fun v51 o51 =>
 bd (ret1 (fieldAddrS tab 45 x1 3) o51) fun v52 o52 =>
 bd (ret1 (loadS tab o52 43 v52) o52) fun v53 o53 =>
 bd (ret1 (indexAddrS tab o53 43 v53 x5) o53) fun v54 o54 =>
 bd (ret1 (fieldAddrS tab 67 v54 0) o54) fun v55 o55 =>
 bd (ret1 (loadS tab o55 3 v55) o55) fun v56 o56 =>
 bd (ret1 (fieldAddrS tab 45 x1 3) o56) fun v57 o57 =>
 bd (ret1 (loadS tab o57 43 v57) o57) fun v58 o58 =>
 bd (ret1 (indexAddrS tab o58 43 v58 x5) o58) fun v59 o59 =>
 bd (ret1 (fieldAddrS tab 67 v59 1) o59) fun v60 o60 =>
 bd (ret1 (loadS tab o60 3 v60) o60) fun v61 o61 =>
 bd (callS ⟨tab, ownF, K⟩ o61 32 [v56, v61]) fun v62 o62 =>
 bd (ret1 (binS tab .add 9 v51 v62) o62) fun v63 o63 =>
 bd (ret1 (binS tab .add 3 x5 (SV.v (.int .i64 1))) o63) fun v64 o64 =>
 L16_9 K N nl m9 x1 v63 v64 o64)
 (retV tab nl o50 (resC1 (some x3) (some [])))
noncomputable def X16 (K : Nat → List SV → List SO → Out) (N nl : Nat) (x0 : SV) (os : List SO) : Out := exec (cx K) N nl fi16 c16 [(0, x0)] os (kEnd tab [] nl rs16)
noncomputable def B16 (K : Nat → List SV → List SO → Out) (N nl : Nat) (x0 : SV) (os : List SO) : Out :=
 bd (boxS tab os 45 (some x0)) fun v1 o1 =>
 bd (ret1 (loadS tab o1 45 v1) o1) fun v2 o2 =>
 bd (callS ⟨tab, ownF, K⟩ o2 30 [v2]) fun v3 o3 =>
 bd (ret1 (unS .not v3) o3) fun v4 o4 =>
 condS v4 (retV tab nl o4 (resC1 (some (SV.v (.string ⟨#[]⟩))) (some [])))
 (bd (ret1 (fieldAddrS tab 45 v1 0) o4) fun v5 o5 =>
 bd (ret1 (loadS tab o5 3 v5) o5) fun v6 o6 =>
 bd (ret1 (fieldAddrS tab 45 v1 1) o6) fun v7 o7 =>
 bd (ret1 (loadS tab o7 3 v7) o7) fun v8 o8 =>
 bd (callS ⟨tab, ownF, K⟩ o8 32 [v6, v8]) fun v9 o9 =>
 L16_5 K N nl N v1 v9 (SV.v (.int .i64 0)) o9)
noncomputable def bk17_4 (K : Nat → List SV → List SO → Out) (N nl : Nat) (m4 : Nat) : Env → List SO → Out := fun env os => loopS nl (fi17.lp 4) (fun env os nx => exec (cx K) N nl fi17 (subC c17 [1, 1, 0, 1, 0, 0]) env os (kLoop nx (kBlock 0 (kSeq (exec (cx K) N nl fi17 (subC c17 [1, 1, 1])) (fi17.jn 11) (kEnd tab [] nl rs17))))) m4 (killS (fi17.lp 4).alive env) os
noncomputable def L17_4 (K : Nat → List SV → List SO → Out) (N nl : Nat) (m4 : Nat) (x1 x3 : SV) (os : List SO) : Out := loopS nl (fi17.lp 4) (fun env os nx => exec (cx K) N nl fi17 (subC c17 [1, 1, 0, 1, 0, 0]) env os (kLoop nx (kBlock 0 (kSeq (exec (cx K) N nl fi17 (subC c17 [1, 1, 1])) (fi17.jn 11) (kEnd tab [] nl rs17))))) m4 [(1, x1), (3, x3)] os
noncomputable def G17_4 (K : Nat → List SV → List SO → Out) (N nl : Nat) (m4 : Nat) (xs : List SV) (os : List SO) : Out := (fun env os nx => exec (cx K) N nl fi17 (subC c17 [1, 1, 0, 1, 0, 0]) env os (kLoop nx (kBlock 0 (kSeq (exec (cx K) N nl fi17 (subC c17 [1, 1, 1])) (fi17.jn 11) (kEnd tab [] nl rs17))))) (zipE [1, 3] xs) os (bk17_4 K N nl m4)
noncomputable def GB17_4 (K : Nat → List SV → List SO → Out) (N nl : Nat) (m4 : Nat) (x1 x3 : SV) (os : List SO) : Out :=
 bd (ret1 (fieldAddrS tab 26 x1 2) os) fun v16 o16 =>
 bd (ret1 (loadS tab o16 24 v16) o16) fun v17 o17 =>
 bd (lenO tab 24 o17 v17) fun v18 o18 =>
 bd (ret1 (binS tab .lss 3 x3 v18) o18) fun v19 o19 =>
 condS v19 (bd (ret1 (fieldAddrS tab 26 x1 2) o19) fun v20 o20 =>
 bd (ret1 (loadS tab o20 24 v20) o20) fun v21 o21 =>
 bd (ret1 (indexAddrS tab o21 24 v21 x3) o21) fun v22 o22 =>
 bd (ret1 (loadS tab o22 49 v22) o22) fun v23 o23 =>
 bd (allocS tab o23 49) fun v24 o24 =>
 bd (storeO tab o24 49 v24 (some v23)) fun v25 o25 =>
 bd (ret1 (fieldAddrS tab 49 v24 0) o25) fun v26 o26 =>
 bd (ret1 (loadS tab o26 3 v26) o26) fun v27 o27 =>
 bd (callS ⟨tab, ownF, K⟩ o27 34 [v27, (SV.v (.int .i64 1)), (SV.v (.int .i64 4))]) fun v28 o28 =>
 bd (ret1 (unS .not v28) o28) fun v29 o29 =>
 bd (gd v29 false (ret1 (fieldAddrS tab 49 v24 1) o29) o29) fun v30 o30 =>
 bd (gd v29 false (ret1 (loadS tab o30 3 v30) o30) o30) fun v31 o31 =>
 bd (gd v29 false (callS ⟨tab, ownF, K⟩ o31 34 [v31, (SV.v (.int .i64 1)), (SV.v (.int .i64 5))]) o31) fun v32 o32 =>
 bd (gd v29 false (ret1 (unS .not v32) o32) o32) fun v33 o33 =>
 bd (ret1 (pickS v29 (SV.v (.bool true)) v33) o33) fun v34 o34 =>
 bd (gd v34 false (ret1 (fieldAddrS tab 49 v24 2) o34) o34) fun v35 o35 =>
 bd (gd v34 false (ret1 (loadS tab o35 3 v35) o35) o35) fun v36 o36 =>
 bd (gd v34 false (callS ⟨tab, ownF, K⟩ o36 34 [v36, (SV.v (.int .i64 0)), (SV.v (.int .i64 9972))]) o36) fun v37 o37 =>
 bd (gd v34 false (ret1 (unS .not v37) o37) o37) fun v38 o38 =>
 bd (ret1 (pickS v34 (SV.v (.bool true)) v38) o38) fun v39 o39 =>
 condS v39 (retV tab nl o39 (resC1 (some (SV.v (.bool false))) (some [])))
 (bd (ret1 (binS tab .gtr 3 x3 (SV.v (.int .i64 0))) o39) fun v40 o40 =>
 bd (gd v40 true (ret1 (fieldAddrS tab 26 x1 2) o40) o40) fun v41 o41 =>
 bd (gd v40 true (ret1 (loadS tab o41 24 v41) o41) o41) fun v42 o42 =>
 bd (gd v40 true (some (x3, o42)) o42) fun v43 o43 =>
 bd (gd v40 true (ret1 (binS tab .sub 3 v43 (SV.v (.int .i64 1))) o43) o43) fun v44 o44 =>
 bd (gd v40 true (ret1 (indexAddrS tab o44 24 v42 v44) o44) o44) fun v45 o45 =>
 bd (gd v40 true (ret1 (fieldAddrS tab 49 v45 0) o45) o45) fun v46 o46 =>
 bd (gd v40 true (ret1 (loadS tab o46 3 v46) o46) o46) fun v47 o47 =>
 bd (gd v40 true (ret1 (fieldAddrS tab 26 x1 2) o47) o47) fun v48 o48 =>
 bd (gd v40 true (ret1 (loadS tab o48 24 v48) o48) o48) fun v49 o49 =>
 bd (gd v40 true (some (x3, o49)) o49) fun v50 o50 =>
 bd (gd v40 true (ret1 (binS tab .sub 3 v50 (SV.v (.int .i64 1))) o50) o50) fun v51 o51 =>
 bd (gd v40 true (ret1 (indexAddrS tab o51 24 v49 v51) o51) o51) fun v52 o52 =>
 bd (gd v40 true (ret1 (fieldAddrS tab 49 v52 1) o52) o52) fun v53 o53 =>
 bd (gd v40 true (ret1 (loadS tab o53 3 v53) o53) o53) fun v54 o54 =>
 bd (gd v40 true (ret1 (fieldAddrS tab 49 v24 0) o54) o54) fun v55 o55 =>
 bd (gd v40 true (ret1 (loadS tab o55 3 v55) o55) o55) fun v56 o56 =>
 bd (gd v40 true (ret1 (fieldAddrS tab 49 v24 1) o56) o56) fun v57 o57 =>
 bd (gd v40 true (ret1 (loadS tab o57 3 v57) o57) o57) fun v58 o58 =>
 bd (gd v40 true (callS ⟨tab, ownF, K⟩ o58 31 [v47, v54, v56, v58]) o58) fun v59 o59 =>
 bd (gd v40 true (ret1 (unS .not v59) o59) o59) fun v60 o60 =>
 bd (ret1 (pickS v40 v60 (SV.v (.bool false))) o60) fun v61 o61 =>
 condS v61 (retV tab nl o61 (resC1 (some (SV.v (.bool false))) (some [])))
 (bd (ret1 (binS tab .add 3 x3 (SV.v (.int .i64 1))) o61) fun v62 o62 =>
 L17_4 K N nl m4 x1 v62 o62)))
 (retV tab nl o19 (resC1 (some (SV.v (.bool true))) (some [])))
noncomputable def X17 (K : Nat → List SV → List SO → Out) (N nl : Nat) (x0 : SV) (os : List SO) : Out := exec (cx K) N nl fi17 c17 [(0, x0)] os (kEnd tab [] nl rs17)
noncomputable def B17 (K : Nat → List SV → List SO → Out) (N nl : Nat) (x0 : SV) (os : List SO) : Out :=
 bd (boxS tab os 26 (some x0)) fun v1 o1 =>
 bd (ret1 (fieldAddrS tab 26 v1 0) o1) fun v2 o2 =>
 bd (ret1 (loadS tab o2 3 v2) o2) fun v3 o3 =>
 bd (callS ⟨tab, ownF, K⟩ o3 34 [v3, (SV.v (.int .i64 1)), (SV.v (.int .i64 30))]) fun v4 o4 =>
 bd (ret1 (unS .not v4) o4) fun v5 o5 =>
 bd (gd v5 false (ret1 (fieldAddrS tab 26 v1 1) o5) o5) fun v6 o6 =>
 bd (gd v5 false (ret1 (loadS tab o6 3 v6) o6) o6) fun v7 o7 =>
 bd (gd v5 false (callS ⟨tab, ownF, K⟩ o7 34 [v7, (SV.v (.int .i64 0)), (SV.v (.int .i64 60))]) o7) fun v8 o8 =>
 bd (gd v5 false (ret1 (unS .not v8) o8) o8) fun v9 o9 =>
 bd (ret1 (pickS v5 (SV.v (.bool true)) v9) o9) fun v10 o10 =>
 bd (gd v10 false (ret1 (fieldAddrS tab 26 v1 2) o10) o10) fun v11 o11 =>
 bd (gd v10 false (ret1 (loadS tab o11 24 v11) o11) o11) fun v12 o12 =>
 bd (gd v10 false (lenO tab 24 o12 v12) o12) fun v13 o13 =>
 bd (gd v10 false (ret1 (binS tab .gtr 3 v13 (SV.v (.int .i64 8))) o13) o13) fun v14 o14 =>
 bd (ret1 (pickS v10 (SV.v (.bool true)) v14) o14) fun v15 o15 =>
 condS v15 (retV tab nl o15 (resC1 (some (SV.v (.bool false))) (some [])))
 (L17_4 K N nl N v1 (SV.v (.int .i64 0)) o15)
noncomputable def X18 (K : Nat → List SV → List SO → Out) (N nl : Nat) (x0 : SV) (os : List SO) : Out := exec (cx K) N nl fi18 c18 [(0, x0)] os (kEnd tab [] nl rs18)
noncomputable def B18 (K : Nat → List SV → List SO → Out) (N nl : Nat) (x0 : SV) (os : List SO) : Out :=
 bd (boxS tab os 40 (some x0)) fun v1 o1 =>
 bd (allocS tab o1 45) fun v2 o2 =>
 bd (allocS tab o2 45) fun v3 o3 =>
 bd (ret1 (fieldAddrS tab 40 v1 0) o3) fun v4 o4 =>
 bd (ret1 (loadS tab o4 3 v4) o4) fun v5 o5 =>
 bd (ret1 (fieldAddrS tab 45 v3 0) o5) fun v6 o6 =>
 bd (storeO tab o6 3 v6 (some v5)) fun v7 o7 =>
 bd (ret1 (fieldAddrS tab 40 v1 1) o7) fun v8 o8 =>
 bd (ret1 (loadS tab o8 3 v8) o8) fun v9 o9 =>
 bd (ret1 (fieldAddrS tab 45 v3 1) o9) fun v10 o10 =>
 bd (storeO tab o10 3 v10 (some v9)) fun v11 o11 =>
 bd (ret1 (fieldAddrS tab 40 v1 2) o11) fun v12 o12 =>
 bd (ret1 (loadS tab o12 37 v12) o12) fun v13 o13 =>
 bd (callS ⟨tab, ownF, K⟩ o13 35 [v13]) fun v14 o14 =>
 bd (ret1 (fieldAddrS tab 45 v3 2) o14) fun v15 o15 =>
 bd (storeO tab o15 42 v15 (some v14)) fun v16 o16 =>
 bd (ret1 (fieldAddrS tab 40 v1 3) o16) fun v17 o17 =>
 bd (ret1 (loadS tab o17 38 v17) o17) fun v18 o18 =>
 bd (callS ⟨tab, ownF, K⟩ o18 36 [v18]) fun v19 o19 =>
 bd (ret1 (fieldAddrS tab 45 v3 3) o19) fun v20 o20 =>
 bd (storeO tab o20 43 v20 (some v19)) fun v21 o21 =>
 bd (ret1 (loadS tab o21 45 v3) o21) fun v22 o22 =>
 bd (storeO tab o22 45 v2 (some v22)) fun v23 o23 =>
 retV tab nl o23 (resC1 (loadS tab o23 45 v2) (some []))
noncomputable def bk19_2 (K : Nat → List SV → List SO → Out) (N nl : Nat) (m2 : Nat) : Env → List SO → Out := fun env os => loopS nl (fi19.lp 2) (fun env os nx => exec (cx K) N nl fi19 (subC c19 [1, 0, 1, 0, 0]) env os (kLoop nx (kBlock 0 (kSeq (exec (cx K) N nl fi19 (subC c19 [1, 1])) (fi19.jn 7) (kEnd tab [] nl rs19))))) m2 (killS (fi19.lp 2).alive env) os
noncomputable def L19_2 (K : Nat → List SV → List SO → Out) (N nl : Nat) (m2 : Nat) (x0 x5 x6 x7 : SV) (os : List SO) : Out := loopS nl (fi19.lp 2) (fun env os nx => exec (cx K) N nl fi19 (subC c19 [1, 0, 1, 0, 0]) env os (kLoop nx (kBlock 0 (kSeq (exec (cx K) N nl fi19 (subC c19 [1, 1])) (fi19.jn 7) (kEnd tab [] nl rs19))))) m2 [(0, x0), (5, x5), (6, x6), (7, x7)] os
noncomputable def G19_2 (K : Nat → List SV → List SO → Out) (N nl : Nat) (m2 : Nat) (xs : List SV) (os : List SO) : Out := (fun env os nx => exec (cx K) N nl fi19 (subC c19 [1, 0, 1, 0, 0]) env os (kLoop nx (kBlock 0 (kSeq (exec (cx K) N nl fi19 (subC c19 [1, 1])) (fi19.jn 7) (kEnd tab [] nl rs19))))) (zipE [0, 5, 6, 7] xs) os (bk19_2 K N nl m2)
noncomputable def GB19_2 (K : Nat → List SV → List SO → Out) (N nl : Nat) (m2 : Nat) (x0 x5 x6 x7 : SV) (os : List SO) : Out :=
 bd (ret1 (binS tab .lss 3 x7 x6) os) fun v2 o2 =>
 condS v2 (bd (ret1 (indexAddrS tab o2 29 x5 x7) o2) fun v3 o3 =>
 bd (ret1 (loadS tab o3 45 v3) o3) fun v4 o4 =>
 bd (allocS tab o4 45) fun v5 o5 =>
 bd (storeO tab o5 45 v5 (some v4)) fun v6 o6 =>
 bd (ret1 (loadS tab o6 45 v5) o6) fun v7 o7 =>
 bd (callS ⟨tab, ownF, K⟩ o7 37 [v7]) fun v8 o8 =>
 bd (ret1 (unS .not v8) o8) fun v9 o9 =>
 bd (gd v9 false (some (x7, o9)) o9) fun v10 o10 =>
 bd (gd v9 false (ret1 (binS tab .gtr 3 v10 (SV.v (.int .i64 0))) o10) o10) fun v11 o11 =>
 bd (gd v9 false (some (v11, o11)) o11) fun v12 o12 =>
 bd (gd v12 true (some (x0, o12)) o12) fun v13 o13 =>
 bd (gd v12 true (some (x7, o13)) o13) fun v14 o14 =>
 bd (gd v12 true (ret1 (binS tab .sub 3 v14 (SV.v (.int .i64 1))) o14) o14) fun v15 o15 =>
 bd (gd v12 true (ret1 (indexAddrS tab o15 29 v13 v15) o15) o15) fun v16 o16 =>
 bd (gd v12 true (ret1 (loadS tab o16 45 v16) o16) o16) fun v17 o17 =>
 bd (gd v12 true (ret1 (loadS tab o17 45 v5) o17) o17) fun v18 o18 =>
 bd (gd v12 true (callS ⟨tab, ownF, K⟩ o18 38 [v17, v18]) o18) fun v19 o19 =>
 bd (gd v12 true (ret1 (binS tab .geq 3 v19 (SV.v (.int .i64 0))) o19) o19) fun v20 o20 =>
 bd (gd v9 false (ret1 (pickS v12 v20 (SV.v (.bool false))) o20) o20) fun v21 o21 =>
 bd (ret1 (pickS v9 (SV.v (.bool true)) v21) o21) fun v22 o22 =>
 condS v22 (retV tab nl o22 (resC1 (some (SV.v (.bool false))) (some [])))
 (bd (ret1 (binS tab .add 3 x7 (SV.v (.int .i64 1))) o22) fun v23 o23 =>
 L19_2 K N nl m2 x0 x5 x6 v23 o23))
 (retV tab nl o2 (resC1 (some (SV.v (.bool true))) (some [])))
noncomputable def X19 (K : Nat → List SV → List SO → Out) (N nl : Nat) (x0 : SV) (os : List SO) : Out := exec (cx K) N nl fi19 c19 [(0, x0)] os (kEnd tab [] nl rs19)
noncomputable def B19 (K : Nat → List SV → List SO → Out) (N nl : Nat) (x0 : SV) (os : List SO) : Out :=
 bd (lenO tab 29 os x0) fun v1 o1 =>
 L19_2 K N nl N x0 x0 v1 (SV.v (.int .i64 0)) o1
noncomputable def X20 (K : Nat → List SV → List SO → Out) (N nl : Nat) (x0 : SV) (os : List SO) : Out := exec (cx K) N nl fi20 c20 [(0, x0)] os (kEnd tab [] nl rs20)
noncomputable def B20 (K : Nat → List SV → List SO → Out) (N nl : Nat) (x0 : SV) (os : List SO) : Out :=
 bd (boxS tab os 45 (some x0)) fun v1 o1 =>
 bd (allocS tab o1 49) fun v2 o2 =>
 bd (ret1 (fieldAddrS tab 45 v1 0) o2) fun v3 o3 =>
 dchk (isBox v3) <|
 bd (ret1 (loadS tab o3 3 v3) o3) fun v4 o4 =>
 bd (ret1 (fieldAddrS tab 45 v1 1) o4) fun v5 o5 =>
 dchk (isBox v5) <|
 bd (ret1 (loadS tab o5 3 v5) o5) fun v6 o6 =>
 bd (ret1 (loadS tab o6 45 v1) o6) fun v7 o7 =>
 dchk (keepOk ⟨tab, ownF, K⟩ o7 (SV.fn 40 []) [v7] [v3, v5] false) <|
 bd (callS ⟨tab, ownF, K⟩ o7 40 [v7]) fun v8 o8 =>
 dchk (keepOk ⟨tab, ownF, K⟩ o8 (SV.fn 39 []) [v8] [v3, v5] false) <|
 bd (callS ⟨tab, ownF, K⟩ o8 39 [v8]) fun v9 o9 =>
 bd (buildS tab o9 49 [(0, (some v4)), (1, (some v6)), (2, (some v9))]) fun v10 o10 =>
 bd (storeO tab o10 49 v2 (some v10)) fun v11 o11 =>
 retV tab nl o11 (resC1 (loadS tab o11 49 v2) (some []))
noncomputable def bk21_2 (K : Nat → List SV → List SO → Out) (N nl : Nat) (m2 : Nat) : Env → List SO → Out := fun env os => loopS nl (fi21.lp 2) (fun env os nx => exec (cx K) N nl fi21 (subC c21 [1, 0, 1, 0, 0]) env os (kLoop nx (kBlock 0 (kSeq (exec (cx K) N nl fi21 (subC c21 [1, 1])) (fi21.jn 9) (kEnd tab [] nl rs21))))) m2 (killS (fi21.lp 2).alive env) os
noncomputable def L21_2 (K : Nat → List SV → List SO → Out) (N nl : Nat) (m2 : Nat) (x1 x6 x7 x8 : SV) (os : List SO) : Out := loopS nl (fi21.lp 2) (fun env os nx => exec (cx K) N nl fi21 (subC c21 [1, 0, 1, 0, 0]) env os (kLoop nx (kBlock 0 (kSeq (exec (cx K) N nl fi21 (subC c21 [1, 1])) (fi21.jn 9) (kEnd tab [] nl rs21))))) m2 [(1, x1), (6, x6), (7, x7), (8, x8)] os
noncomputable def G21_2 (K : Nat → List SV → List SO → Out) (N nl : Nat) (m2 : Nat) (xs : List SV) (os : List SO) : Out := (fun env os nx => exec (cx K) N nl fi21 (subC c21 [1, 0, 1, 0, 0]) env os (kLoop nx (kBlock 0 (kSeq (exec (cx K) N nl fi21 (subC c21 [1, 1])) (fi21.jn 9) (kEnd tab [] nl rs21))))) (zipE [1, 6, 7, 8] xs) os (bk21_2 K N nl m2)
noncomputable def GB21_2 (K : Nat → List SV → List SO → Out) (N nl : Nat) (m2 : Nat) (x1 x6 x7 x8 : SV) (os : List SO) : Out :=
 bd (ret1 (binS tab .lss 3 x8 x7) os) fun v5 o5 =>
 condS v5 (bd (ret1 (indexAddrS tab o5 24 x6 x8) o5) fun v6 o6 =>
 bd (ret1 (loadS tab o6 49 v6) o6) fun v7 o7 =>
 bd (allocS tab o7 49) fun v8 o8 =>
 bd (storeO tab o8 49 v8 (some v7)) fun v9 o9 =>
 bd (ret1 (fieldAddrS tab 49 v8 0) o9) fun v10 o10 =>
 bd (ret1 (loadS tab o10 3 v10) o10) fun v11 o11 =>
 bd (callS ⟨tab, ownF, K⟩ o11 41 [v11]) fun v12 o12 =>
 bd (ret1 (unS .not v12) o12) fun v13 o13 =>
 bd (gd v13 false (ret1 (fieldAddrS tab 49 v8 1) o13) o13) fun v14 o14 =>
 bd (gd v13 false (ret1 (loadS tab o14 3 v14) o14) o14) fun v15 o15 =>
 bd (gd v13 false (callS ⟨tab, ownF, K⟩ o15 42 [v15]) o15) fun v16 o16 =>
 bd (gd v13 false (ret1 (unS .not v16) o16) o16) fun v17 o17 =>
 bd (ret1 (pickS v13 (SV.v (.bool true)) v17) o17) fun v18 o18 =>
 bd (gd v18 false (ret1 (fieldAddrS tab 49 v8 2) o18) o18) fun v19 o19 =>
 bd (gd v18 false (ret1 (loadS tab o19 3 v19) o19) o19) fun v20 o20 =>
 bd (gd v18 false (callS ⟨tab, ownF, K⟩ o20 43 [v20, (SV.v (.int .i64 0)), (SV.v (.int .i64 9972))]) o20) fun v21 o21 =>
 bd (gd v18 false (ret1 (unS .not v21) o21) o21) fun v22 o22 =>
 bd (ret1 (pickS v18 (SV.v (.bool true)) v22) o22) fun v23 o23 =>
 condS v23 (retV tab nl o23 (resC1 (some (SV.v (.bool false))) (some [])))
 (bd (ret1 (binS tab .gtr 3 x8 (SV.v (.int .i64 0))) o23) fun v24 o24 =>
 bd (gd v24 true (ret1 (fieldAddrS tab 49 v8 0) o24) o24) fun v25 o25 =>
 bd (gd v24 true (ret1 (loadS tab o25 3 v25) o25) o25) fun v26 o26 =>
 bd (gd v24 true (ret1 (fieldAddrS tab 26 x1 2) o26) o26) fun v27 o27 =>
 bd (gd v24 true (ret1 (loadS tab o27 24 v27) o27) o27) fun v28 o28 =>
 bd (gd v24 true (some (x8, o28)) o28) fun v29 o29 =>
 bd (gd v24 true (ret1 (binS tab .sub 3 v29 (SV.v (.int .i64 1))) o29) o29) fun v30 o30 =>
 bd (gd v24 true (ret1 (indexAddrS tab o30 24 v28 v30) o30) o30) fun v31 o31 =>
 bd (gd v24 true (ret1 (fieldAddrS tab 49 v31 0) o31) o31) fun v32 o32 =>
 bd (gd v24 true (ret1 (loadS tab o32 3 v32) o32) o32) fun v33 o33 =>
 bd (gd v24 true (ret1 (binS tab .lss 3 v26 v33) o33) o33) fun v34 o34 =>
 bd (gd v24 true (some (v34, o34)) o34) fun v35 o35 =>
 bd (gd v35 false (ret1 (fieldAddrS tab 49 v8 0) o35) o35) fun v36 o36 =>
 bd (gd v35 false (ret1 (loadS tab o36 3 v36) o36) o36) fun v37 o37 =>
 bd (gd v35 false (ret1 (fieldAddrS tab 26 x1 2) o37) o37) fun v38 o38 =>
 bd (gd v35 false (ret1 (loadS tab o38 24 v38) o38) o38) fun v39 o39 =>
 bd (gd v35 false (some (x8, o39)) o39) fun v40 o40 =>
 bd (gd v35 false (ret1 (binS tab .sub 3 v40 (SV.v (.int .i64 1))) o40) o40) fun v41 o41 =>
 bd (gd v35 false (ret1 (indexAddrS tab o41 24 v39 v41) o41) o41) fun v42 o42 =>
 bd (gd v35 false (ret1 (fieldAddrS tab 49 v42 0) o42) o42) fun v43 o43 =>
 bd (gd v35 false (ret1 (loadS tab o43 3 v43) o43) o43) fun v44 o44 =>
 bd (gd v35 false (ret1 (binS tab .eql 3 v37 v44) o44) o44) fun v45 o45 =>
 bd (gd v35 false (some (v45, o45)) o45) fun v46 o46 =>
 bd (gd v46 true (ret1 (fieldAddrS tab 49 v8 1) o46) o46) fun v47 o47 =>
 bd (gd v46 true (ret1 (loadS tab o47 3 v47) o47) o47) fun v48 o48 =>
 bd (gd v46 true (ret1 (fieldAddrS tab 26 x1 2) o48) o48) fun v49 o49 =>
 bd (gd v46 true (ret1 (loadS tab o49 24 v49) o49) o49) fun v50 o50 =>
 bd (gd v46 true (some (x8, o50)) o50) fun v51 o51 =>
 bd (gd v46 true (ret1 (binS tab .sub 3 v51 (SV.v (.int .i64 1))) o51) o51) fun v52 o52 =>
 bd (gd v46 true (ret1 (indexAddrS tab o52 24 v50 v52) o52) o52) fun v53 o53 =>
 bd (gd v46 true (ret1 (fieldAddrS tab 49 v53 1) o53) o53) fun v54 o54 =>
 bd (gd v46 true (ret1 (loadS tab o54 3 v54) o54) o54) fun v55 o55 =>
 bd (gd v46 true (ret1 (binS tab .leq 3 v48 v55) o55) o55) fun v56 o56 =>
 bd (gd v35 false (ret1 (pickS v46 v56 (SV.v (.bool false))) o56) o56) fun v57 o57 =>
 bd (gd v24 true (ret1 (pickS v35 (SV.v (.bool true)) v57) o57) o57) fun v58 o58 =>
 bd (ret1 (pickS v24 v58 (SV.v (.bool false))) o58) fun v59 o59 =>
 condS v59 (retV tab nl o59 (resC1 (some (SV.v (.bool false))) (some [])))
 (bd (ret1 (binS tab .add 3 x8 (SV.v (.int .i64 1))) o59) fun v60 o60 =>
 L21_2 K N nl m2 x1 x6 x7 v60 o60)))
 (bd (ret1 (fieldAddrS tab 26 x1 0) o5) fun v61 o61 =>
 bd (ret1 (loadS tab o61 3 v61) o61) fun v62 o62 =>
 bd (callS ⟨tab, ownF, K⟩ o62 43 [v62, (SV.v (.int .i64 1)), (SV.v (.int .i64 30))]) fun v63 o63 =>
 bd (gd v63 true (ret1 (fieldAddrS tab 26 x1 1) o63) o63) fun v64 o64 =>
 bd (gd v63 true (ret1 (loadS tab o64 3 v64) o64) o64) fun v65 o65 =>
 bd (gd v63 true (callS ⟨tab, ownF, K⟩ o65 43 [v65, (SV.v (.int .i64 0)), (SV.v (.int .i64 60))]) o65) fun v66 o66 =>
 bd (ret1 (pickS v63 v66 (SV.v (.bool false))) o66) fun v67 o67 =>
 bd (gd v67 true (ret1 (fieldAddrS tab 26 x1 2) o67) o67) fun v68 o68 =>
 bd (gd v67 true (ret1 (loadS tab o68 24 v68) o68) o68) fun v69 o69 =>
 bd (gd v67 true (lenO tab 24 o69 v69) o69) fun v70 o70 =>
 bd (gd v67 true (ret1 (binS tab .leq 3 v70 (SV.v (.int .i64 8))) o70) o70) fun v71 o71 =>
 bd (ret1 (pickS v67 v71 (SV.v (.bool false))) o71) fun v72 o72 =>
 retV tab nl o72 (resC1 (some v72) (some [])))
noncomputable def X21 (K : Nat → List SV → List SO → Out) (N nl : Nat) (x0 : SV) (os : List SO) : Out := exec (cx K) N nl fi21 c21 [(0, x0)] os (kEnd tab [] nl rs21)
noncomputable def B21 (K : Nat → List SV → List SO → Out) (N nl : Nat) (x0 : SV) (os : List SO) : Out :=
 bd (boxS tab os 26 (some x0)) fun v1 o1 =>
 bd (ret1 (fieldAddrS tab 26 v1 2) o1) fun v2 o2 =>
 bd (ret1 (loadS tab o2 24 v2) o2) fun v3 o3 =>
 bd (lenO tab 24 o3 v3) fun v4 o4 =>
 L21_2 K N nl N v1 v3 v4 (SV.v (.int .i64 0)) o4
noncomputable def bk22_4 (K : Nat → List SV → List SO → Out) (N nl : Nat) (m4 : Nat) : Env → List SO → Out := fun env os => loopS nl (fi22.lp 4) (fun env os nx => exec (cx K) N nl fi22 (subC c22 [1, 1, 0, 1, 0, 0]) env os (kLoop nx (kBlock 0 (kSeq (exec (cx K) N nl fi22 (subC c22 [1, 1, 1])) (fi22.jn 8) (kEnd tab [] nl rs22))))) m4 (killS (fi22.lp 4).alive env) os
noncomputable def L22_4 (K : Nat → List SV → List SO → Out) (N nl : Nat) (m4 : Nat) (x0 x1 x5 : SV) (os : List SO) : Out := loopS nl (fi22.lp 4) (fun env os nx => exec (cx K) N nl fi22 (subC c22 [1, 1, 0, 1, 0, 0]) env os (kLoop nx (kBlock 0 (kSeq (exec (cx K) N nl fi22 (subC c22 [1, 1, 1])) (fi22.jn 8) (kEnd tab [] nl rs22))))) m4 [(0, x0), (1, x1), (5, x5)] os
noncomputable def LB22_4 (K : Nat → List SV → List SO → Out) (N nl : Nat) (m4 : Nat) (x0 x1 x5 : SV) (os : List SO) : Out :=
 bd (lenO tab 24 os x0) fun v4 o4 =>
 bd (ret1 (binS tab .lss 3 x5 v4) o4) fun v5 o5 =>
 condS v5 (bd (ret1 (indexAddrS tab o5 24 x0 x5) o5) fun v6 o6 =>
 bd (ret1 (loadS tab o6 49 v6) o6) fun v7 o7 =>
 bd (ret1 (indexAddrS tab o7 24 x1 x5) o7) fun v8 o8 =>
 bd (ret1 (loadS tab o8 49 v8) o8) fun v9 o9 =>
 bd (callS ⟨tab, ownF, K⟩ o9 44 [v7, v9]) fun v10 o10 =>
 bd (ret1 (unS .not v10) o10) fun v11 o11 =>
 condS v11 (retV tab nl o11 (resC1 (some (SV.v (.bool false))) (some [])))
 (bd (ret1 (binS tab .add 3 x5 (SV.v (.int .i64 1))) o11) fun v12 o12 =>
 L22_4 K N nl m4 x0 x1 v12 o12))
 (retV tab nl o5 (resC1 (some (SV.v (.bool true))) (some [])))
noncomputable def X22 (K : Nat → List SV → List SO → Out) (N nl : Nat) (x0 x1 : SV) (os : List SO) : Out := exec (cx K) N nl fi22 c22 [(0, x0), (1, x1)] os (kEnd tab [] nl rs22)
noncomputable def B22 (K : Nat → List SV → List SO → Out) (N nl : Nat) (x0 x1 : SV) (os : List SO) : Out :=
 bd (lenO tab 24 os x0) fun v1 o1 =>
 bd (lenO tab 24 o1 x1) fun v2 o2 =>
 bd (ret1 (binS tab .neq 3 v1 v2) o2) fun v3 o3 =>
 condS v3 (retV tab nl o3 (resC1 (some (SV.v (.bool false))) (some [])))
 (L22_4 K N nl N x0 x1 (SV.v (.int .i64 0)) o3)
noncomputable def X23 (K : Nat → List SV → List SO → Out) (N nl : Nat) (x0 x1 : SV) (os : List SO) : Out := exec (cx K) N nl fi23 c23 [(0, x0), (1, x1)] os (kEnd tab [] nl rs23)
noncomputable def B23 (K : Nat → List SV → List SO → Out) (N nl : Nat) (x0 x1 : SV) (os : List SO) : Out :=
 bd (boxS tab os 45 (some x0)) fun v1 o1 =>
 bd (boxS tab o1 45 (some x1)) fun v2 o2 =>
 bd (ret1 (fieldAddrS tab 45 v1 0) o2) fun v3 o3 =>
 bd (ret1 (loadS tab o3 3 v3) o3) fun v4 o4 =>
 bd (ret1 (fieldAddrS tab 45 v2 0) o4) fun v5 o5 =>
 bd (ret1 (loadS tab o5 3 v5) o5) fun v6 o6 =>
 bd (ret1 (binS tab .neq 3 v4 v6) o6) fun v7 o7 =>
 condS v7 (retV tab nl o7 (resC1 (some (SV.v (.bool false))) (some [])))
 (bd (ret1 (fieldAddrS tab 45 v1 1) o7) fun v8 o8 =>
 bd (ret1 (loadS tab o8 3 v8) o8) fun v9 o9 =>
 bd (ret1 (fieldAddrS tab 45 v2 1) o9) fun v10 o10 =>
 bd (ret1 (loadS tab o10 3 v10) o10) fun v11 o11 =>
 bd (ret1 (binS tab .neq 3 v9 v11) o11) fun v12 o12 =>
 condS v12 (retV tab nl o12 (resC1 (some (SV.v (.bool false))) (some [])))
 (bd (ret1 (fieldAddrS tab 45 v1 2) o12) fun v13 o13 =>
 bd (ret1 (loadS tab o13 42 v13) o13) fun v14 o14 =>
 bd (ret1 (fieldAddrS tab 45 v2 2) o14) fun v15 o15 =>
 bd (ret1 (loadS tab o15 42 v15) o15) fun v16 o16 =>
 bd (callS ⟨tab, ownF, K⟩ o16 45 [v14, v16]) fun v17 o17 =>
 bd (ret1 (unS .not v17) o17) fun v18 o18 =>
 condS v18 (retV tab nl o18 (resC1 (some (SV.v (.bool false))) (some [])))
 (bd (ret1 (fieldAddrS tab 45 v1 3) o18) fun v19 o19 =>
 bd (ret1 (loadS tab o19 43 v19) o19) fun v20 o20 =>
 bd (ret1 (fieldAddrS tab 45 v2 3) o20) fun v21 o21 =>
 bd (ret1 (loadS tab o21 43 v21) o21) fun v22 o22 =>
 bd (callS ⟨tab, ownF, K⟩ o22 46 [v20, v22]) fun v23 o23 =>
 bd (ret1 (unS .not v23) o23) fun v24 o24 =>
 condS v24 (retV tab nl o24 (resC1 (some (SV.v (.bool false))) (some [])))
 (retV tab nl o24 (resC1 (some (SV.v (.bool true))) (some []))))))
noncomputable def bk24_2 (K : Nat → List SV → List SO → Out) (N nl : Nat) (m2 : Nat) : Env → List SO → Out := fun env os => loopS nl (fi24.lp 2) (fun env os nx => exec (cx K) N nl fi24 (subC c24 [1, 0, 1, 0, 0]) env os (kLoop nx (kBlock 0 (kSeq (exec (cx K) N nl fi24 (subC c24 [1, 1])) (fi24.jn 8) (kEnd tab [] nl rs24))))) m2 (killS (fi24.lp 2).alive env) os
noncomputable def L24_2 (K : Nat → List SV → List SO → Out) (N nl : Nat) (m2 : Nat) (x0 x1 x5 : SV) (os : List SO) : Out := loopS nl (fi24.lp 2) (fun env os nx => exec (cx K) N nl fi24 (subC c24 [1, 0, 1, 0, 0]) env os (kLoop nx (kBlock 0 (kSeq (exec (cx K) N nl fi24 (subC c24 [1, 1])) (fi24.jn 8) (kEnd tab [] nl rs24))))) m2 [(0, x0), (1, x1), (5, x5)] os
noncomputable def LB24_2 (K : Nat → List SV → List SO → Out) (N nl : Nat) (m2 : Nat) (x0 x1 x5 : SV) (os : List SO) : Out :=
 bd (lenO tab 42 os x0) fun v1 o1 =>
 bd (ret1 (binS tab .lss 3 x5 v1) o1) fun v2 o2 =>
 condS v2 (bd (ret1 (indexAddrS tab o2 42 x0 x5) o2) fun v3 o3 =>
 bd (ret1 (fieldAddrS tab 65 v3 0) o3) fun v4 o4 =>
 bd (storeO tab o4 3 v4 (some x1)) fun v5 o5 =>
 bd (ret1 (binS tab .add 3 x1 (SV.v (.int .i64 1))) o5) fun v6 o6 =>
 bd (ret1 (indexAddrS tab o6 42 x0 x5) o6) fun v7 o7 =>
 bd (ret1 (fieldAddrS tab 65 v7 1) o7) fun v8 o8 =>
 bd (storeO tab o8 3 v8 (some v6)) fun v9 o9 =>
 bd (ret1 (binS tab .add 3 v6 (SV.v (.int .i64 1))) o9) fun v10 o10 =>
 bd (ret1 (binS tab .add 3 x5 (SV.v (.int .i64 1))) o10) fun v11 o11 =>
 L24_2 K N nl m2 x0 v10 v11 o11)
 (retV tab nl o2 (resC1 (some x1) (some [])))
noncomputable def X24 (K : Nat → List SV → List SO → Out) (N nl : Nat) (x0 x1 : SV) (os : List SO) : Out := exec (cx K) N nl fi24 c24 [(0, x0), (1, x1)] os (kEnd tab [] nl rs24)
noncomputable def B24 (K : Nat → List SV → List SO → Out) (N nl : Nat) (x0 x1 : SV) (os : List SO) : Out :=
 L24_2 K N nl N x0 x1 (SV.v (.int .i64 0)) os
noncomputable def bk25_2 (K : Nat → List SV → List SO → Out) (N nl : Nat) (m2 : Nat) : Env → List SO → Out := fun env os => loopS nl (fi25.lp 2) (fun env os nx => exec (cx K) N nl fi25 (subC c25 [1, 0, 1, 0, 0]) env os (kLoop nx (kBlock 0 (kSeq (exec (cx K) N nl fi25 (subC c25 [1, 1])) (fi25.jn 8) (kEnd tab [] nl rs25))))) m2 (killS (fi25.lp 2).alive env) os
noncomputable def L25_2 (K : Nat → List SV → List SO → Out) (N nl : Nat) (m2 : Nat) (x0 x1 x5 : SV) (os : List SO) : Out := loopS nl (fi25.lp 2) (fun env os nx => exec (cx K) N nl fi25 (subC c25 [1, 0, 1, 0, 0]) env os (kLoop nx (kBlock 0 (kSeq (exec (cx K) N nl fi25 (subC c25 [1, 1])) (fi25.jn 8) (kEnd tab [] nl rs25))))) m2 [(0, x0), (1, x1), (5, x5)] os
noncomputable def LB25_2 (K : Nat → List SV → List SO → Out) (N nl : Nat) (m2 : Nat) (x0 x1 x5 : SV) (os : List SO) : Out :=
 bd (lenO tab 43 os x0) fun v1 o1 =>
 bd (ret1 (binS tab .lss 3 x5 v1) o1) fun v2 o2 =>
 condS v2 (bd (ret1 (indexAddrS tab o2 43 x0 x5) o2) fun v3 o3 =>
 bd (ret1 (fieldAddrS tab 67 v3 0) o3) fun v4 o4 =>
 bd (storeO tab o4 3 v4 (some x1)) fun v5 o5 =>
 bd (ret1 (binS tab .add 3 x1 (SV.v (.int .i64 1))) o5) fun v6 o6 =>
 bd (ret1 (indexAddrS tab o6 43 x0 x5) o6) fun v7 o7 =>
 bd (ret1 (fieldAddrS tab 67 v7 1) o7) fun v8 o8 =>
 bd (storeO tab o8 3 v8 (some v6)) fun v9 o9 =>
 bd (ret1 (binS tab .add 3 v6 (SV.v (.int .i64 1))) o9) fun v10 o10 =>
 bd (ret1 (binS tab .add 3 x5 (SV.v (.int .i64 1))) o10) fun v11 o11 =>
 L25_2 K N nl m2 x0 v10 v11 o11)
 (retV tab nl o2 (resC1 (some x1) (some [])))
noncomputable def X25 (K : Nat → List SV → List SO → Out) (N nl : Nat) (x0 x1 : SV) (os : List SO) : Out := exec (cx K) N nl fi25 c25 [(0, x0), (1, x1)] os (kEnd tab [] nl rs25)
noncomputable def B25 (K : Nat → List SV → List SO → Out) (N nl : Nat) (x0 x1 : SV) (os : List SO) : Out :=
 L25_2 K N nl N x0 x1 (SV.v (.int .i64 0)) os
noncomputable def bk26_2 (K : Nat → List SV → List SO → Out) (N nl : Nat) (m2 : Nat) : Env → List SO → Out := fun env os => loopS nl (fi26.lp 2) (fun env os nx => exec (cx K) N nl fi26 (subC c26 [1, 0, 1, 0, 0]) env os (kLoop nx (kBlock 0 (kSeq (exec (cx K) N nl fi26 (subC c26 [1, 1])) (fi26.jn 10) (kEnd tab [] nl rs26))))) m2 (killS (fi26.lp 2).alive env) os
noncomputable def L26_2 (K : Nat → List SV → List SO → Out) (N nl : Nat) (m2 : Nat) (x0 x1 x5 : SV) (os : List SO) : Out := loopS nl (fi26.lp 2) (fun env os nx => exec (cx K) N nl fi26 (subC c26 [1, 0, 1, 0, 0]) env os (kLoop nx (kBlock 0 (kSeq (exec (cx K) N nl fi26 (subC c26 [1, 1])) (fi26.jn 10) (kEnd tab [] nl rs26))))) m2 [(0, x0), (1, x1), (5, x5)] os
noncomputable def LB26_2 (K : Nat → List SV → List SO → Out) (N nl : Nat) (m2 : Nat) (x0 x1 x5 : SV) (os : List SO) : Out :=
 bd (lenO tab 24 os x0) fun v1 o1 =>
 bd (ret1 (binS tab .lss 3 x5 v1) o1) fun v2 o2 =>
 condS v2 (bd (ret1 (indexAddrS tab o2 24 x0 x5) o2) fun v3 o3 =>
 bd (ret1 (fieldAddrS tab 49 v3 0) o3) fun v4 o4 =>
 bd (storeO tab o4 3 v4 (some x1)) fun v5 o5 =>
 bd (ret1 (binS tab .add 3 x1 (SV.v (.int .i64 1))) o5) fun v6 o6 =>
 bd (ret1 (indexAddrS tab o6 24 x0 x5) o6) fun v7 o7 =>
 bd (ret1 (fieldAddrS tab 49 v7 1) o7) fun v8 o8 =>
 bd (storeO tab o8 3 v8 (some v6)) fun v9 o9 =>
 bd (ret1 (binS tab .add 3 v6 (SV.v (.int .i64 1))) o9) fun v10 o10 =>
 bd (ret1 (indexAddrS tab o10 24 x0 x5) o10) fun v11 o11 =>
 bd (ret1 (fieldAddrS tab 49 v11 2) o11) fun v12 o12 =>
 bd (storeO tab o12 3 v12 (some v10)) fun v13 o13 =>
 bd (ret1 (binS tab .add 3 v10 (SV.v (.int .i64 1))) o13) fun v14 o14 =>
 bd (ret1 (binS tab .add 3 x5 (SV.v (.int .i64 1))) o14) fun v15 o15 =>
 L26_2 K N nl m2 x0 v14 v15 o15)
 (retV tab nl o2 (resC1 (some x1) (some [])))
noncomputable def X26 (K : Nat → List SV → List SO → Out) (N nl : Nat) (x0 x1 : SV) (os : List SO) : Out := exec (cx K) N nl fi26 c26 [(0, x0), (1, x1)] os (kEnd tab [] nl rs26)
noncomputable def B26 (K : Nat → List SV → List SO → Out) (N nl : Nat) (x0 x1 : SV) (os : List SO) : Out :=
 L26_2 K N nl N x0 x1 (SV.v (.int .i64 0)) os
noncomputable def bk27_2 (K : Nat → List SV → List SO → Out) (N nl : Nat) (m2 : Nat) : Env → List SO → Out := fun env os => loopS nl (fi27.lp 2) (fun env os nx => exec (cx K) N nl fi27 (subC c27 [1, 0, 1, 0, 0]) env os (kLoop nx (kBlock 0 (kSeq (exec (cx K) N nl fi27 (subC c27 [1, 1])) (fi27.jn 13) (kEnd tab [] nl rs27))))) m2 (killS (fi27.lp 2).alive env) os
noncomputable def L27_2 (K : Nat → List SV → List SO → Out) (N nl : Nat) (m2 : Nat) (x0 x1 x5 : SV) (os : List SO) : Out := loopS nl (fi27.lp 2) (fun env os nx => exec (cx K) N nl fi27 (subC c27 [1, 0, 1, 0, 0]) env os (kLoop nx (kBlock 0 (kSeq (exec (cx K) N nl fi27 (subC c27 [1, 1])) (fi27.jn 13) (kEnd tab [] nl rs27))))) m2 [(0, x0), (1, x1), (5, x5)] os
noncomputable def LB27_2 (K : Nat → List SV → List SO → Out) (N nl : Nat) (m2 : Nat) (x0 x1 x5 : SV) (os : List SO) : Out :=
 bd (lenO tab 24 os x0) fun v1 o1 =>
 bd (ret1 (binS tab .lss 3 x5 v1) o1) fun v2 o2 =>
 condS v2 (bd (ret1 (indexAddrS tab o2 24 x0 x5) o2) fun v3 o3 =>
 bd (ret1 (fieldAddrS tab 49 v3 0) o3) fun v4 o4 =>
 bd (ret1 (loadS tab o4 3 v4) o4) fun v5 o5 =>
 bd (ret1 (binS tab .neq 3 v5 x1) o5) fun v6 o6 =>
 condS v6 (retV tab nl o6 (resC1 (some (SV.v (.int .i64 (-1)))) (some [])))
 (bd (ret1 (binS tab .add 3 x1 (SV.v (.int .i64 1))) o6) fun v7 o7 =>
 bd (ret1 (indexAddrS tab o7 24 x0 x5) o7) fun v8 o8 =>
 bd (ret1 (fieldAddrS tab 49 v8 1) o8) fun v9 o9 =>
 bd (ret1 (loadS tab o9 3 v9) o9) fun v10 o10 =>
 bd (ret1 (binS tab .neq 3 v10 v7) o10) fun v11 o11 =>
 condS v11 (retV tab nl o11 (resC1 (some (SV.v (.int .i64 (-1)))) (some [])))
 (bd (ret1 (binS tab .add 3 v7 (SV.v (.int .i64 1))) o11) fun v12 o12 =>
 bd (ret1 (indexAddrS tab o12 24 x0 x5) o12) fun v13 o13 =>
 bd (ret1 (fieldAddrS tab 49 v13 2) o13) fun v14 o14 =>
 bd (ret1 (loadS tab o14 3 v14) o14) fun v15 o15 =>
 bd (ret1 (binS tab .neq 3 v15 v12) o15) fun v16 o16 =>
 condS v16 (retV tab nl o16 (resC1 (some (SV.v (.int .i64 (-1)))) (some [])))
 (bd (ret1 (binS tab .add 3 v12 (SV.v (.int .i64 1))) o16) fun v17 o17 =>
 bd (ret1 (binS tab .add 3 x5 (SV.v (.int .i64 1))) o17) fun v18 o18 =>
 L27_2 K N nl m2 x0 v17 v18 o18))))
 (retV tab nl o2 (resC1 (some x1) (some [])))
noncomputable def X27 (K : Nat → List SV → List SO → Out) (N nl : Nat) (x0 x1 : SV) (os : List SO) : Out := exec (cx K) N nl fi27 c27 [(0, x0), (1, x1)] os (kEnd tab [] nl rs27)
noncomputable def B27 (K : Nat → List SV → List SO → Out) (N nl : Nat) (x0 x1 : SV) (os : List SO) : Out :=
 L27_2 K N nl N x0 x1 (SV.v (.int .i64 0)) os
noncomputable def X28 (K : Nat → List SV → List SO → Out) (N nl : Nat) (x0 x1 : SV) (os : List SO) : Out := exec (cx K) N nl fi28 c28 [(0, x0), (1, x1)] os (kEnd tab [] nl rs28)
noncomputable def B28 (K : Nat → List SV → List SO → Out) (N nl : Nat) (x0 x1 : SV) (os : List SO) : Out :=
 bd (lenO tab 37 os x0) fun v1 o1 =>
 bd (ret1 (binS tab .sub 3 x1 v1) o1) fun v2 o2 =>
 bd (ret1 (binS tab .lss 3 v2 (SV.v (.int .i64 0))) o2) fun v3 o3 =>
 condS v3 (retV tab nl o3 (resC1 (some (SV.v (.int .i64 (-1)))) (some [])))
 (retV tab nl o3 (resC1 (some v2) (some [])))
noncomputable def X29 (K : Nat → List SV → List SO → Out) (N nl : Nat) (x0 x1 : SV) (os : List SO) : Out := exec (cx K) N nl fi29 c29 [(0, x0), (1, x1)] os (kEnd tab [] nl rs29)
noncomputable def B29 (K : Nat → List SV → List SO → Out) (N nl : Nat) (x0 x1 : SV) (os : List SO) : Out :=
 bd (lenO tab 38 os x0) fun v1 o1 =>
 bd (ret1 (binS tab .sub 3 x1 v1) o1) fun v2 o2 =>
 bd (ret1 (binS tab .lss 3 v2 (SV.v (.int .i64 0))) o2) fun v3 o3 =>
 condS v3 (retV tab nl o3 (resC1 (some (SV.v (.int .i64 (-1)))) (some [])))
 (retV tab nl o3 (resC1 (some v2) (some [])))
noncomputable def X30 (K : Nat → List SV → List SO → Out) (N nl : Nat) (x0 : SV) (os : List SO) : Out := exec (cx K) N nl fi30 c30 [(0, x0)] os (kEnd tab [] nl rs30)
noncomputable def B30 (K : Nat → List SV → List SO → Out) (N nl : Nat) (x0 : SV) (os : List SO) : Out :=
 bd (boxS tab os 45 (some x0)) fun v1 o1 =>
 bd (ret1 (fieldAddrS tab 45 v1 0) o1) fun v2 o2 =>
 bd (ret1 (loadS tab o2 3 v2) o2) fun v3 o3 =>
 bd (callS ⟨tab, ownF, K⟩ o3 34 [v3, (SV.v (.int .i64 1)), (SV.v (.int .i64 4))]) fun v4 o4 =>
 bd (gd v4 true (ret1 (fieldAddrS tab 45 v1 1) o4) o4) fun v5 o5 =>
 bd (gd v4 true (ret1 (loadS tab o5 3 v5) o5) o5) fun v6 o6 =>
 bd (gd v4 true (callS ⟨tab, ownF, K⟩ o6 34 [v6, (SV.v (.int .i64 1)), (SV.v (.int .i64 5))]) o6) fun v7 o7 =>
 bd (ret1 (pickS v4 v7 (SV.v (.bool false))) o7) fun v8 o8 =>
 bd (gd v8 true (ret1 (fieldAddrS tab 45 v1 2) o8) o8) fun v9 o9 =>
 bd (gd v8 true (ret1 (loadS tab o9 42 v9) o9) o9) fun v10 o10 =>
 bd (gd v8 true (callS ⟨tab, ownF, K⟩ o10 47 [v10]) o10) fun v11 o11 =>
 bd (ret1 (pickS v8 v11 (SV.v (.bool false))) o11) fun v12 o12 =>
 bd (gd v12 true (ret1 (fieldAddrS tab 45 v1 0) o12) o12) fun v13 o13 =>
 bd (gd v12 true (ret1 (loadS tab o13 3 v13) o13) o13) fun v14 o14 =>
 bd (gd v12 true (ret1 (fieldAddrS tab 45 v1 3) o14) o14) fun v15 o15 =>
 bd (gd v12 true (ret1 (loadS tab o15 43 v15) o15) o15) fun v16 o16 =>
 bd (gd v12 true (callS ⟨tab, ownF, K⟩ o16 48 [v14, v16]) o16) fun v17 o17 =>
 bd (ret1 (pickS v12 v17 (SV.v (.bool false))) o17) fun v18 o18 =>
 retV tab nl o18 (resC1 (some v18) (some []))
noncomputable def X31 (K : Nat → List SV → List SO → Out) (N nl : Nat) (x0 x1 x2 x3 : SV) (os : List SO) : Out := exec (cx K) N nl fi31 c31 [(0, x0), (1, x1), (2, x2), (3, x3)] os (kEnd tab [] nl rs31)
noncomputable def B31 (K : Nat → List SV → List SO → Out) (N nl : Nat) (x0 x1 x2 x3 : SV) (os : List SO) : Out :=
 bd (ret1 (binS tab .lss 3 x0 x2) os) fun v1 o1 =>
 bd (gd v1 false (some (x0, o1)) o1) fun v2 o2 =>
 bd (gd v1 false (some (x2, o2)) o2) fun v3 o3 =>
 bd (gd v1 false (ret1 (binS tab .eql 3 v2 v3) o3) o3) fun v4 o4 =>
 bd (gd v1 false (some (v4, o4)) o4) fun v5 o5 =>
 bd (gd v5 true (some (x1, o5)) o5) fun v6 o6 =>
 bd (gd v5 true (some (x3, o6)) o6) fun v7 o7 =>
 bd (gd v5 true (ret1 (binS tab .lss 3 v6 v7) o7) o7) fun v8 o8 =>
 bd (gd v1 false (ret1 (pickS v5 v8 (SV.v (.bool false))) o8) o8) fun v9 o9 =>
 bd (ret1 (pickS v1 (SV.v (.bool true)) v9) o9) fun v10 o10 =>
 retV tab nl o10 (resC1 (some v10) (some []))
noncomputable def X32 (K : Nat → List SV → List SO → Out) (N nl : Nat) (x0 x1 : SV) (os : List SO) : Out := exec (cx K) N nl fi32 c32 [(0, x0), (1, x1)] os (kEnd tab [] nl rs32)
noncomputable def B32 (K : Nat → List SV → List SO → Out) (N nl : Nat) (x0 x1 : SV) (os : List SO) : Out :=
 both (both (bd (ret1 (binS tab .add 3 (SV.v (.int .i64 97)) x0) os) fun v1 o1 =>
 bd (ret1 (binS tab .sub 3 v1 (SV.v (.int .i64 1))) o1) fun v2 o2 =>
 bd (convS tab o2 3 5 v2) fun v3 o3 =>
 bd (buildSliceS tab o3 78 1 [(0, v3)]) fun v4 o4 =>
 bd (convS tab o4 78 9 v4) fun v5 o5 =>
 bd (callS ⟨tab, ownF, K⟩ o5 33 [x1]) fun v6 o6 =>
 bd (ret1 (binS tab .add 9 v5 v6) o6) fun v7 o7 =>
 retV tab nl o7 (resC1 (some v7) (some [])))
 (bd (ret1 (binS tab .add 3 (SV.v (.int .i64 97)) x0) os) fun v8 o8 =>
 bd (ret1 (binS tab .sub 3 v8 (SV.v (.int .i64 1))) o8) fun v9 o9 =>
 bd (convS tab o9 3 5 v9) fun v10 o10 =>
 bd (buildSliceS tab o10 78 1 [(0, v10)]) fun v11 o11 =>
 bd (callS ⟨tab, ownF, K⟩ o11 33 [x1]) fun v12 o12 =>
 bd (convS tab o12 78 9 v11) fun v13 o13 =>
 bd (ret1 (binS tab .add 9 v13 v12) o13) fun v14 o14 =>
 retV tab nl o14 (resC1 (some v14) (some []))))
 (bd (ret1 (binS tab .add 3 (SV.v (.int .i64 97)) x0) os) fun v15 o15 =>
 bd (ret1 (binS tab .sub 3 v15 (SV.v (.int .i64 1))) o15) fun v16 o16 =>
 bd (convS tab o16 3 5 v16) fun v17 o17 =>
 bd (callS ⟨tab, ownF, K⟩ o17 33 [x1]) fun v18 o18 =>
 bd (buildSliceS tab o18 78 1 [(0, v17)]) fun v19 o19 =>
 bd (convS tab o19 78 9 v19) fun v20 o20 =>
 bd (ret1 (binS tab .add 9 v20 v18) o20) fun v21 o21 =>
 retV tab nl o21 (resC1 (some v21) (some [])))
noncomputable def X33 (K : Nat → List SV → List SO → Out) (N nl : Nat) (x0 : SV) (os : List SO) : Out := exec (cx K) N nl fi33 c33 [(0, x0)] os (kEnd tab [] nl rs33)
noncomputable def B33 (K : Nat → List SV → List SO → Out) (N nl : Nat) (x0 : SV) (os : List SO) : Out :=
 bd (ret1 (binS tab .lss 3 x0 (SV.v (.int .i64 (-9223372036854775807)))) os) fun v1 o1 =>
 condS v1 (retV tab nl o1 (resC1 (some (SV.v (.string ⟨#[45, 57, 50, 50, 51, 51, 55, 50, 48, 51, 54, 56, 53, 52, 55, 55, 53, 56, 48, 56]⟩))) (some [])))
 (bd (ret1 (binS tab .lss 3 x0 (SV.v (.int .i64 0))) o1) fun v2 o2 =>
 condS v2 (bd (ret1 (unS .neg x0) o2) fun v3 o3 =>
 bd (callS ⟨tab, ownF, K⟩ o3 33 [v3]) fun v4 o4 =>
 bd (ret1 (binS tab .add 9 (SV.v (.string ⟨#[45]⟩)) v4) o4) fun v5 o5 =>
 retV tab nl o5 (resC1 (some v5) (some [])))
 (bd (ret1 (binS tab .lss 3 x0 (SV.v (.int .i64 10))) o2) fun v6 o6 =>
 condS v6 (bd (ret1 (binS tab .add 3 (SV.v (.int .i64 48)) x0) o6) fun v7 o7 =>
 bd (convS tab o7 3 5 v7) fun v8 o8 =>
 bd (buildSliceS tab o8 78 1 [(0, v8)]) fun v9 o9 =>
 bd (convS tab o9 78 9 v9) fun v10 o10 =>
 retV tab nl o10 (resC1 (some v10) (some [])))
 (both (bd (ret1 (binS tab .quo 3 x0 (SV.v (.int .i64 10))) o6) fun v11 o11 =>
 bd (callS ⟨tab, ownF, K⟩ o11 33 [v11]) fun v12 o12 =>
 bd (ret1 (binS tab .rem 3 x0 (SV.v (.int .i64 10))) o12) fun v13 o13 =>
 bd (ret1 (binS tab .add 3 (SV.v (.int .i64 48)) v13) o13) fun v14 o14 =>
 bd (convS tab o14 3 5 v14) fun v15 o15 =>
 bd (buildSliceS tab o15 78 1 [(0, v15)]) fun v16 o16 =>
 bd (convS tab o16 78 9 v16) fun v17 o17 =>
 bd (ret1 (binS tab .add 9 v12 v17) o17) fun v18 o18 =>
 retV tab nl o18 (resC1 (some v18) (some [])))
 (both (bd (ret1 (binS tab .quo 3 x0 (SV.v (.int .i64 10))) o6) fun v19 o19 =>
 bd (ret1 (binS tab .rem 3 x0 (SV.v (.int .i64 10))) o19) fun v20 o20 =>
 bd (ret1 (binS tab .add 3 (SV.v (.int .i64 48)) v20) o20) fun v21 o21 =>
 bd (convS tab o21 3 5 v21) fun v22 o22 =>
 bd (buildSliceS tab o22 78 1 [(0, v22)]) fun v23 o23 =>
 bd (callS ⟨tab, ownF, K⟩ o23 33 [v19]) fun v24 o24 =>
 bd (convS tab o24 78 9 v23) fun v25 o25 =>
 bd (ret1 (binS tab .add 9 v24 v25) o25) fun v26 o26 =>
 retV tab nl o26 (resC1 (some v26) (some [])))
 (bd (ret1 (binS tab .quo 3 x0 (SV.v (.int .i64 10))) o6) fun v27 o27 =>
 bd (ret1 (binS tab .rem 3 x0 (SV.v (.int .i64 10))) o27) fun v28 o28 =>
 bd (ret1 (binS tab .add 3 (SV.v (.int .i64 48)) v28) o28) fun v29 o29 =>
 bd (convS tab o29 3 5 v29) fun v30 o30 =>
 bd (buildSliceS tab o30 78 1 [(0, v30)]) fun v31 o31 =>
 bd (convS tab o31 78 9 v31) fun v32 o32 =>
 bd (callS ⟨tab, ownF, K⟩ o32 33 [v27]) fun v33 o33 =>
 bd (ret1 (binS tab .add 9 v33 v32) o33) fun v34 o34 =>
 retV tab nl o34 (resC1 (some v34) (some [])))))))
noncomputable def X34 (K : Nat → List SV → List SO → Out) (N nl : Nat) (x0 x1 x2 : SV) (os : List SO) : Out := exec (cx K) N nl fi34 c34 [(0, x0), (1, x1), (2, x2)] os (kEnd tab [] nl rs34)
noncomputable def B34 (K : Nat → List SV → List SO → Out) (N nl : Nat) (x0 x1 x2 : SV) (os : List SO) : Out :=
 bd (ret1 (binS tab .geq 3 x0 x1) os) fun v1 o1 =>
 bd (gd v1 true (some (x0, o1)) o1) fun v2 o2 =>
 bd (gd v1 true (some (x2, o2)) o2) fun v3 o3 =>
 bd (gd v1 true (ret1 (binS tab .leq 3 v2 v3) o3) o3) fun v4 o4 =>
 bd (ret1 (pickS v1 v4 (SV.v (.bool false))) o4) fun v5 o5 =>
 retV tab nl o5 (resC1 (some v5) (some []))
noncomputable def bk35_3 (K : Nat → List SV → List SO → Out) (N nl : Nat) (m3 : Nat) : Env → List SO → Out := fun env os => loopS nl (fi35.lp 3) (fun env os nx => exec (cx K) N nl fi35 (subC c35 [1, 1, 0, 1, 0, 0]) env os (kLoop nx (kBlock 0 (kSeq (exec (cx K) N nl fi35 (subC c35 [1, 1, 1])) (fi35.jn 6) (kEnd tab [] nl rs35))))) m3 (killS (fi35.lp 3).alive env) os
noncomputable def L35_3 (K : Nat → List SV → List SO → Out) (N nl : Nat) (m3 : Nat) (x0 x3 x4 : SV) (os : List SO) : Out := loopS nl (fi35.lp 3) (fun env os nx => exec (cx K) N nl fi35 (subC c35 [1, 1, 0, 1, 0, 0]) env os (kLoop nx (kBlock 0 (kSeq (exec (cx K) N nl fi35 (subC c35 [1, 1, 1])) (fi35.jn 6) (kEnd tab [] nl rs35))))) m3 [(0, x0), (3, x3), (4, x4)] os
noncomputable def LB35_3 (K : Nat → List SV → List SO → Out) (N nl : Nat) (m3 : Nat) (x0 x3 x4 : SV) (os : List SO) : Out :=
 bd (lenO tab 37 os x0) fun v4 o4 =>
 bd (ret1 (binS tab .lss 3 x4 v4) o4) fun v5 o5 =>
 condS v5 (bd (ret1 (indexAddrS tab o5 37 x0 x4) o5) fun v6 o6 =>
 bd (ret1 (loadS tab o6 80 v6) o6) fun v7 o7 =>
 bd (callS ⟨tab, ownF, K⟩ o7 49 [v7]) fun v8 o8 =>
 bd (ret1 (indexAddrS tab o8 42 x3 x4) o8) fun v9 o9 =>
 bd (storeO tab o9 65 v9 (some v8)) fun v10 o10 =>
 bd (ret1 (binS tab .add 3 x4 (SV.v (.int .i64 1))) o10) fun v11 o11 =>
 L35_3 K N nl m3 x0 x3 v11 o11)
 (retV tab nl o5 (resC1 (some x3) (some [])))
noncomputable def X35 (K : Nat → List SV → List SO → Out) (N nl : Nat) (x0 : SV) (os : List SO) : Out := exec (cx K) N nl fi35 c35 [(0, x0)] os (kEnd tab [] nl rs35)
noncomputable def B35 (K : Nat → List SV → List SO → Out) (N nl : Nat) (x0 : SV) (os : List SO) : Out :=
 bd (evN tab 42 os none) fun v1 o1 =>
 bd (lenO tab 37 o1 x0) fun v2 o2 =>
 bd (makeS tab o2 42 v2 v2) fun v3 o3 =>
 L35_3 K N nl N x0 v3 (SV.v (.int .i64 0)) o3
noncomputable def bk36_3 (K : Nat → List SV → List SO → Out) (N nl : Nat) (m3 : Nat) : Env → List SO → Out := fun env os => loopS nl (fi36.lp 3) (fun env os nx => exec (cx K) N nl fi36 (subC c36 [1, 1, 0, 1, 0, 0]) env os (kLoop nx (kBlock 0 (kSeq (exec (cx K) N nl fi36 (subC c36 [1, 1, 1])) (fi36.jn 6) (kEnd tab [] nl rs36))))) m3 (killS (fi36.lp 3).alive env) os
noncomputable def L36_3 (K : Nat → List SV → List SO → Out) (N nl : Nat) (m3 : Nat) (x0 x3 x4 : SV) (os : List SO) : Out := loopS nl (fi36.lp 3) (fun env os nx => exec (cx K) N nl fi36 (subC c36 [1, 1, 0, 1, 0, 0]) env os (kLoop nx (kBlock 0 (kSeq (exec (cx K) N nl fi36 (subC c36 [1, 1, 1])) (fi36.jn 6) (kEnd tab [] nl rs36))))) m3 [(0, x0), (3, x3), (4, x4)] os
noncomputable def LB36_3 (K : Nat → List SV → List SO → Out) (N nl : Nat) (m3 : Nat) (x0 x3 x4 : SV) (os : List SO) : Out :=
 bd (lenO tab 38 os x0) fun v4 o4 =>
 bd (ret1 (binS tab .lss 3 x4 v4) o4) fun v5 o5 =>
 condS v5 (bd (ret1 (indexAddrS tab o5 38 x0 x4) o5) fun v6 o6 =>
 bd (ret1 (loadS tab o6 82 v6) o6) fun v7 o7 =>
 bd (callS ⟨tab, ownF, K⟩ o7 50 [v7]) fun v8 o8 =>
 bd (ret1 (indexAddrS tab o8 43 x3 x4) o8) fun v9 o9 =>
 bd (storeO tab o9 67 v9 (some v8)) fun v10 o10 =>
 bd (ret1 (binS tab .add 3 x4 (SV.v (.int .i64 1))) o10) fun v11 o11 =>
 L36_3 K N nl m3 x0 x3 v11 o11)
 (retV tab nl o5 (resC1 (some x3) (some [])))
noncomputable def X36 (K : Nat → List SV → List SO → Out) (N nl : Nat) (x0 : SV) (os : List SO) : Out := exec (cx K) N nl fi36 c36 [(0, x0)] os (kEnd tab [] nl rs36)
noncomputable def B36 (K : Nat → List SV → List SO → Out) (N nl : Nat) (x0 : SV) (os : List SO) : Out :=
 bd (evN tab 43 os none) fun v1 o1 =>
 bd (lenO tab 38 o1 x0) fun v2 o2 =>
 bd (makeS tab o2 43 v2 v2) fun v3 o3 =>
 L36_3 K N nl N x0 v3 (SV.v (.int .i64 0)) o3
noncomputable def bk37_4 (K : Nat → List SV → List SO → Out) (N nl : Nat) (m4 : Nat) : Env → List SO → Out := fun env os => loopS nl (fi37.lp 4) (fun env os nx => exec (cx K) N nl fi37 (subC c37 [1, 1, 0, 1, 0, 0]) env os (kLoop nx (kBlock 0 (kSeq (exec (cx K) N nl fi37 (subC c37 [1, 1, 1])) (fi37.jn 9) (kEnd tab [] nl rs37))))) m4 (killS (fi37.lp 4).alive env) os
noncomputable def bk37_10 (K : Nat → List SV → List SO → Out) (N nl : Nat) (m10 : Nat) : Env → List SO → Out := fun env os => loopS nl (fi37.lp 10) (fun env os nx => exec (cx K) N nl fi37 (subC c37 [1, 1, 1, 0, 1, 0, 0]) env os (kLoop nx (kBlock 2 (kSeq (exec (cx K) N nl fi37 (subC c37 [1, 1, 1, 1])) (fi37.jn 15) (kEnd tab [] nl rs37))))) m10 (killS (fi37.lp 10).alive env) os
noncomputable def L37_4 (K : Nat → List SV → List SO → Out) (N nl : Nat) (m4 : Nat) (x1 x30 x31 x32 : SV) (os : List SO) : Out := loopS nl (fi37.lp 4) (fun env os nx => exec (cx K) N nl fi37 (subC c37 [1, 1, 0, 1, 0, 0]) env os (kLoop nx (kBlock 0 (kSeq (exec (cx K) N nl fi37 (subC c37 [1, 1, 1])) (fi37.jn 9) (kEnd tab [] nl rs37))))) m4 [(1, x1), (30, x30), (31, x31), (32, x32)] os
noncomputable def G37_4 (K : Nat → List SV → List SO → Out) (N nl : Nat) (m4 : Nat) (xs : List SV) (os : List SO) : Out := (fun env os nx => exec (cx K) N nl fi37 (subC c37 [1, 1, 0, 1, 0, 0]) env os (kLoop nx (kBlock 0 (kSeq (exec (cx K) N nl fi37 (subC c37 [1, 1, 1])) (fi37.jn 9) (kEnd tab [] nl rs37))))) (zipE [1, 30, 31, 32] xs) os (bk37_4 K N nl m4)
noncomputable def L37_10 (K : Nat → List SV → List SO → Out) (N nl : Nat) (m10 : Nat) (x1 x65 x66 x67 : SV) (os : List SO) : Out := loopS nl (fi37.lp 10) (fun env os nx => exec (cx K) N nl fi37 (subC c37 [1, 1, 1, 0, 1, 0, 0]) env os (kLoop nx (kBlock 2 (kSeq (exec (cx K) N nl fi37 (subC c37 [1, 1, 1, 1])) (fi37.jn 15) (kEnd tab [] nl rs37))))) m10 [(1, x1), (65, x65), (66, x66), (67, x67)] os
noncomputable def G37_10 (K : Nat → List SV → List SO → Out) (N nl : Nat) (m10 : Nat) (xs : List SV) (os : List SO) : Out := (fun env os nx => exec (cx K) N nl fi37 (subC c37 [1, 1, 1, 0, 1, 0, 0]) env os (kLoop nx (kBlock 2 (kSeq (exec (cx K) N nl fi37 (subC c37 [1, 1, 1, 1])) (fi37.jn 15) (kEnd tab [] nl rs37))))) (zipE [1, 65, 66, 67] xs) os (bk37_10 K N nl m10)
noncomputable def GB37_4 (K : Nat → List SV → List SO → Out) (N nl : Nat) (m4 : Nat) (x1 x30 x31 x32 : SV) (os : List SO) : Out :=
 bd (ret1 (binS tab .lss 3 x32 x31) os) fun v24 o24 =>
 condS v24 (bd (ret1 (indexAddrS tab o24 42 x30 x32) o24) fun v25 o25 =>
 bd (ret1 (loadS tab o25 65 v25) o25) fun v26 o26 =>
 bd (allocS tab o26 65) fun v27 o27 =>
 bd (storeO tab o27 65 v27 (some v26)) fun v28 o28 =>
 bd (ret1 (fieldAddrS tab 65 v27 0) o28) fun v29 o29 =>
 bd (ret1 (loadS tab o29 3 v29) o29) fun v30 o30 =>
 bd (callS ⟨tab, ownF, K⟩ o30 43 [v30, (SV.v (.int .i64 0)), (SV.v (.int .i64 5))]) fun v31 o31 =>
 bd (ret1 (unS .not v31) o31) fun v32 o32 =>
 bd (gd v32 false (ret1 (fieldAddrS tab 65 v27 1) o32) o32) fun v33 o33 =>
 bd (gd v32 false (ret1 (loadS tab o33 3 v33) o33) o33) fun v34 o34 =>
 bd (gd v32 false (callS ⟨tab, ownF, K⟩ o34 43 [v34, (SV.v (.int .i64 0)), (SV.v (.int .i64 9))]) o34) fun v35 o35 =>
 bd (gd v32 false (ret1 (unS .not v35) o35) o35) fun v36 o36 =>
 bd (ret1 (pickS v32 (SV.v (.bool true)) v36) o36) fun v37 o37 =>
 bd (gd v37 false (some (x32, o37)) o37) fun v38 o38 =>
 bd (gd v37 false (ret1 (binS tab .gtr 3 v38 (SV.v (.int .i64 0))) o38) o38) fun v39 o39 =>
 bd (gd v37 false (some (v39, o39)) o39) fun v40 o40 =>
 bd (gd v40 true (ret1 (fieldAddrS tab 65 v27 0) o40) o40) fun v41 o41 =>
 bd (gd v40 true (ret1 (loadS tab o41 3 v41) o41) o41) fun v42 o42 =>
 bd (gd v40 true (ret1 (fieldAddrS tab 45 x1 2) o42) o42) fun v43 o43 =>
 bd (gd v40 true (ret1 (loadS tab o43 42 v43) o43) o43) fun v44 o44 =>
 bd (gd v40 true (some (x32, o44)) o44) fun v45 o45 =>
 bd (gd v40 true (ret1 (binS tab .sub 3 v45 (SV.v (.int .i64 1))) o45) o45) fun v46 o46 =>
 bd (gd v40 true (ret1 (indexAddrS tab o46 42 v44 v46) o46) o46) fun v47 o47 =>
 bd (gd v40 true (ret1 (fieldAddrS tab 65 v47 0) o47) o47) fun v48 o48 =>
 bd (gd v40 true (ret1 (loadS tab o48 3 v48) o48) o48) fun v49 o49 =>
 bd (gd v40 true (ret1 (binS tab .leq 3 v42 v49) o49) o49) fun v50 o50 =>
 bd (gd v37 false (ret1 (pickS v40 v50 (SV.v (.bool false))) o50) o50) fun v51 o51 =>
 bd (ret1 (pickS v37 (SV.v (.bool true)) v51) o51) fun v52 o52 =>
 condS v52 (retV tab nl o52 (resC1 (some (SV.v (.bool false))) (some [])))
 (bd (ret1 (binS tab .add 3 x32 (SV.v (.int .i64 1))) o52) fun v53 o53 =>
 L37_4 K N nl m4 x1 x30 x31 v53 o53))
 (bd (ret1 (fieldAddrS tab 45 x1 3) o24) fun v54 o54 =>
 bd (ret1 (loadS tab o54 43 v54) o54) fun v55 o55 =>
 bd (lenO tab 43 o55 v55) fun v56 o56 =>
 L37_10 K N nl N x1 v55 v56 (SV.v (.int .i64 0)) o56)
noncomputable def GB37_10 (K : Nat → List SV → List SO → Out) (N nl : Nat) (m10 : Nat) (x1 x65 x66 x67 : SV) (os : List SO) : Out :=
 bd (ret1 (binS tab .lss 3 x67 x66) os) fun v57 o57 =>
 condS v57 (bd (ret1 (indexAddrS tab o57 43 x65 x67) o57) fun v58 o58 =>
 bd (ret1 (loadS tab o58 67 v58) o58) fun v59 o59 =>
 bd (allocS tab o59 67) fun v60 o60 =>
 bd (storeO tab o60 67 v60 (some v59)) fun v61 o61 =>
 bd (ret1 (fieldAddrS tab 67 v60 0) o61) fun v62 o62 =>
 bd (ret1 (loadS tab o62 3 v62) o62) fun v63 o63 =>
 bd (callS ⟨tab, ownF, K⟩ o63 41 [v63]) fun v64 o64 =>
 bd (ret1 (unS .not v64) o64) fun v65 o65 =>
 bd (gd v65 false (ret1 (fieldAddrS tab 67 v60 0) o65) o65) fun v66 o66 =>
 bd (gd v65 false (ret1 (loadS tab o66 3 v66) o66) o66) fun v67 o67 =>
 bd (gd v65 false (ret1 (fieldAddrS tab 45 x1 0) o67) o67) fun v68 o68 =>
 bd (gd v65 false (ret1 (loadS tab o68 3 v68) o68) o68) fun v69 o69 =>
 bd (gd v65 false (ret1 (binS tab .eql 3 v67 v69) o69) o69) fun v70 o70 =>
 bd (ret1 (pickS v65 (SV.v (.bool true)) v70) o70) fun v71 o71 =>
 bd (gd v71 false (ret1 (fieldAddrS tab 67 v60 1) o71) o71) fun v72 o72 =>
 bd (gd v71 false (ret1 (loadS tab o72 3 v72) o72) o72) fun v73 o73 =>
 bd (gd v71 false (callS ⟨tab, ownF, K⟩ o73 42 [v73]) o73) fun v74 o74 =>
 bd (gd v71 false (ret1 (unS .not v74) o74) o74) fun v75 o75 =>
 bd (ret1 (pickS v71 (SV.v (.bool true)) v75) o75) fun v76 o76 =>
 bd (gd v76 false (some (x67, o76)) o76) fun v77 o77 =>
 bd (gd v76 false (ret1 (binS tab .gtr 3 v77 (SV.v (.int .i64 0))) o77) o77) fun v78 o78 =>
 bd (gd v76 false (some (v78, o78)) o78) fun v79 o79 =>
 bd (gd v79 true (ret1 (fieldAddrS tab 67 v60 0) o79) o79) fun v80 o80 =>
 bd (gd v79 true (ret1 (loadS tab o80 3 v80) o80) o80) fun v81 o81 =>
 bd (gd v79 true (ret1 (fieldAddrS tab 45 x1 3) o81) o81) fun v82 o82 =>
 bd (gd v79 true (ret1 (loadS tab o82 43 v82) o82) o82) fun v83 o83 =>
 bd (gd v79 true (some (x67, o83)) o83) fun v84 o84 =>
 bd (gd v79 true (ret1 (binS tab .sub 3 v84 (SV.v (.int .i64 1))) o84) o84) fun v85 o85 =>
 bd (gd v79 true (ret1 (indexAddrS tab o85 43 v83 v85) o85) o85) fun v86 o86 =>
 bd (gd v79 true (ret1 (fieldAddrS tab 67 v86 0) o86) o86) fun v87 o87 =>
 bd (gd v79 true (ret1 (loadS tab o87 3 v87) o87) o87) fun v88 o88 =>
 bd (gd v79 true (ret1 (binS tab .leq 3 v81 v88) o88) o88) fun v89 o89 =>
 bd (gd v76 false (ret1 (pickS v79 v89 (SV.v (.bool false))) o89) o89) fun v90 o90 =>
 bd (ret1 (pickS v76 (SV.v (.bool true)) v90) o90) fun v91 o91 =>
 condS v91 (retV tab nl o91 (resC1 (some (SV.v (.bool false))) (some [])))
 (bd (ret1 (binS tab .add 3 x67 (SV.v (.int .i64 1))) o91) fun v92 o92 =>
 L37_10 K N nl m10 x1 x65 x66 v92 o92))
 (retV tab nl o57 (resC1 (some (SV.v (.bool true))) (some [])))
noncomputable def X37 (K : Nat → List SV → List SO → Out) (N nl : Nat) (x0 : SV) (os : List SO) : Out := exec (cx K) N nl fi37 c37 [(0, x0)] os (kEnd tab [] nl rs37)
noncomputable def B37 (K : Nat → List SV → List SO → Out) (N nl : Nat) (x0 : SV) (os : List SO) : Out :=
 bd (boxS tab os 45 (some x0)) fun v1 o1 =>
 bd (ret1 (fieldAddrS tab 45 v1 0) o1) fun v2 o2 =>
 bd (ret1 (loadS tab o2 3 v2) o2) fun v3 o3 =>
 bd (callS ⟨tab, ownF, K⟩ o3 41 [v3]) fun v4 o4 =>
 bd (ret1 (unS .not v4) o4) fun v5 o5 =>
 bd (gd v5 false (ret1 (fieldAddrS tab 45 v1 1) o5) o5) fun v6 o6 =>
 bd (gd v5 false (ret1 (loadS tab o6 3 v6) o6) o6) fun v7 o7 =>
 bd (gd v5 false (callS ⟨tab, ownF, K⟩ o7 42 [v7]) o7) fun v8 o8 =>
 bd (gd v5 false (ret1 (unS .not v8) o8) o8) fun v9 o9 =>
 bd (ret1 (pickS v5 (SV.v (.bool true)) v9) o9) fun v10 o10 =>
 bd (gd v10 false (ret1 (fieldAddrS tab 45 v1 2) o10) o10) fun v11 o11 =>
 bd (gd v10 false (ret1 (loadS tab o11 42 v11) o11) o11) fun v12 o12 =>
 bd (gd v10 false (lenO tab 42 o12 v12) o12) fun v13 o13 =>
 bd (gd v10 false (ret1 (binS tab .gtr 3 v13 (SV.v (.int .i64 2))) o13) o13) fun v14 o14 =>
 bd (ret1 (pickS v10 (SV.v (.bool true)) v14) o14) fun v15 o15 =>
 bd (gd v15 false (ret1 (fieldAddrS tab 45 v1 3) o15) o15) fun v16 o16 =>
 bd (gd v15 false (ret1 (loadS tab o16 43 v16) o16) o16) fun v17 o17 =>
 bd (gd v15 false (lenO tab 43 o17 v17) o17) fun v18 o18 =>
 bd (gd v15 false (ret1 (binS tab .gtr 3 v18 (SV.v (.int .i64 2))) o18) o18) fun v19 o19 =>
 bd (ret1 (pickS v15 (SV.v (.bool true)) v19) o19) fun v20 o20 =>
 condS v20 (retV tab nl o20 (resC1 (some (SV.v (.bool false))) (some [])))
 (bd (ret1 (fieldAddrS tab 45 v1 2) o20) fun v21 o21 =>
 bd (ret1 (loadS tab o21 42 v21) o21) fun v22 o22 =>
 bd (lenO tab 42 o22 v22) fun v23 o23 =>
 L37_4 K N nl N v1 v22 v23 (SV.v (.int .i64 0)) o23)
noncomputable def X38 (K : Nat → List SV → List SO → Out) (N nl : Nat) (x0 x1 : SV) (os : List SO) : Out := exec (cx K) N nl fi38 c38 [(0, x0), (1, x1)] os (kEnd tab [] nl rs38)
noncomputable def B38 (K : Nat → List SV → List SO → Out) (N nl : Nat) (x0 x1 : SV) (os : List SO) : Out :=
 bd (boxS tab os 45 (some x0)) fun v1 o1 =>
 bd (boxS tab o1 45 (some x1)) fun v2 o2 =>
 bd (ret1 (fieldAddrS tab 45 v1 0) o2) fun v3 o3 =>
 bd (ret1 (loadS tab o3 3 v3) o3) fun v4 o4 =>
 bd (ret1 (fieldAddrS tab 45 v2 0) o4) fun v5 o5 =>
 bd (ret1 (loadS tab o5 3 v5) o5) fun v6 o6 =>
 dchk (keepOk ⟨tab, ownF, K⟩ o6 (SV.fn 52 []) [v4, v6] [] true) <|
 bd (callS ⟨tab, ownF, K⟩ o6 52 [v4, v6]) fun v7 o7 =>
 bd (ret1 (fieldAddrS tab 45 v1 1) o7) fun v8 o8 =>
 dchk (isBox v8) <|
 bd (ret1 (loadS tab o8 3 v8) o8) fun v9 o9 =>
 bd (ret1 (fieldAddrS tab 45 v2 1) o9) fun v10 o10 =>
 dchk (isBox v10) <|
 bd (ret1 (loadS tab o10 3 v10) o10) fun v11 o11 =>
 bd (callS ⟨tab, ownF, K⟩ o11 52 [v9, v11]) fun v12 o12 =>
 bd (buildSliceS tab o12 95 2 [(0, v7), (1, v12)]) fun v13 o13 =>
 bd (callS ⟨tab, ownF, K⟩ o13 51 [v13]) fun v14 o14 =>
 retV tab nl o14 (resC1 (some v14) (some []))
noncomputable def bk39_3 (K : Nat → List SV → List SO → Out) (N nl : Nat) (m3 : Nat) : Env → List SO → Out := fun env os => loopS nl (fi39.lp 3) (fun env os nx => exec (cx K) N nl fi39 (subC c39 [1, 1, 0, 1, 0, 0]) env os (kLoop nx (kBlock 0 (kSeq (exec (cx K) N nl fi39 (subC c39 [1, 1, 1])) (fi39.jn 7) (kEnd tab [] nl rs39))))) m3 (killS (fi39.lp 3).alive env) os
noncomputable def L39_3 (K : Nat → List SV → List SO → Out) (N nl : Nat) (m3 : Nat) (x3 x7 x8 x9 : SV) (os : List SO) : Out := loopS nl (fi39.lp 3) (fun env os nx => exec (cx K) N nl fi39 (subC c39 [1, 1, 0, 1, 0, 0]) env os (kLoop nx (kBlock 0 (kSeq (exec (cx K) N nl fi39 (subC c39 [1, 1, 1])) (fi39.jn 7) (kEnd tab [] nl rs39))))) m3 [(3, x3), (7, x7), (8, x8), (9, x9)] os
noncomputable def LB39_3 (K : Nat → List SV → List SO → Out) (N nl : Nat) (m3 : Nat) (x3 x7 x8 x9 : SV) (os : List SO) : Out :=
 bd (ret1 (binS tab .lss 3 x9 x8) os) fun v3 o3 =>
 condS v3 (bd (ret1 (indexAddrS tab o3 78 x7 x9) o3) fun v4 o4 =>
 bd (ret1 (loadS tab o4 5 v4) o4) fun v5 o5 =>
 bd (ret1 (binS tab .mul 3 (SV.v (.int .i64 31)) x3) o5) fun v6 o6 =>
 bd (convS tab o6 5 3 v5) fun v7 o7 =>
 bd (ret1 (binS tab .add 3 v6 v7) o7) fun v8 o8 =>
 bd (ret1 (binS tab .add 3 v8 (SV.v (.int .i64 1))) o8) fun v9 o9 =>
 bd (ret1 (binS tab .rem 3 v9 (SV.v (.int .i64 9973))) o9) fun v10 o10 =>
 bd (ret1 (binS tab .add 3 x9 (SV.v (.int .i64 1))) o10) fun v11 o11 =>
 L39_3 K N nl m3 v10 x7 x8 v11 o11)
 (retV tab nl o3 (resC1 (some x3) (some [])))
noncomputable def X39 (K : Nat → List SV → List SO → Out) (N nl : Nat) (x0 : SV) (os : List SO) : Out := exec (cx K) N nl fi39 c39 [(0, x0)] os (kEnd tab [] nl rs39)
noncomputable def B39 (K : Nat → List SV → List SO → Out) (N nl : Nat) (x0 : SV) (os : List SO) : Out :=
 bd (convS tab os 9 78 x0) fun v1 o1 =>
 bd (lenO tab 78 o1 v1) fun v2 o2 =>
 L39_3 K N nl N (SV.v (.int .i64 7)) v1 v2 (SV.v (.int .i64 0)) o2
noncomputable def bk40_6 (K : Nat → List SV → List SO → Out) (N nl : Nat) (m6 : Nat) : Env → List SO → Out := fun env os => loopS nl (fi40.lp 6) (fun env os nx => exec (cx K) N nl fi40 (subC c40 [1, 1, 1, 1, 0, 1, 0, 0]) env os (kLoop nx (kBlock 0 (kSeq (exec (cx K) N nl fi40 (subC c40 [1, 1, 1, 1, 1])) (fi40.jn 10) (kEnd tab [] nl rs40))))) m6 (killS (fi40.lp 6).alive env) os
noncomputable def bk40_11 (K : Nat → List SV → List SO → Out) (N nl : Nat) (m11 : Nat) : Env → List SO → Out := fun env os => loopS nl (fi40.lp 11) (fun env os nx => exec (cx K) N nl fi40 (subC c40 [1, 1, 1, 1, 1, 0, 1, 0, 0]) env os (kLoop nx (kBlock 2 (kSeq (exec (cx K) N nl fi40 (subC c40 [1, 1, 1, 1, 1, 1])) (fi40.jn 15) (kEnd tab [] nl rs40))))) m11 (killS (fi40.lp 11).alive env) os
noncomputable def X41 (K : Nat → List SV → List SO → Out) (N nl : Nat) (x0 : SV) (os : List SO) : Out := exec (cx K) N nl fi41 c41 [(0, x0)] os (kEnd tab [] nl rs41)
noncomputable def B41 (K : Nat → List SV → List SO → Out) (N nl : Nat) (x0 : SV) (os : List SO) : Out :=
 bd (callS ⟨tab, ownF, K⟩ os 43 [x0, (SV.v (.int .i64 1)), (SV.v (.int .i64 4))]) fun v1 o1 =>
 retV tab nl o1 (resC1 (some v1) (some []))
noncomputable def X42 (K : Nat → List SV → List SO → Out) (N nl : Nat) (x0 : SV) (os : List SO) : Out := exec (cx K) N nl fi42 c42 [(0, x0)] os (kEnd tab [] nl rs42)
noncomputable def B42 (K : Nat → List SV → List SO → Out) (N nl : Nat) (x0 : SV) (os : List SO) : Out :=
 bd (callS ⟨tab, ownF, K⟩ os 43 [x0, (SV.v (.int .i64 1)), (SV.v (.int .i64 5))]) fun v1 o1 =>
 retV tab nl o1 (resC1 (some v1) (some []))
noncomputable def X43 (K : Nat → List SV → List SO → Out) (N nl : Nat) (x0 x1 x2 : SV) (os : List SO) : Out := exec (cx K) N nl fi43 c43 [(0, x0), (1, x1), (2, x2)] os (kEnd tab [] nl rs43)
noncomputable def B43 (K : Nat → List SV → List SO → Out) (N nl : Nat) (x0 x1 x2 : SV) (os : List SO) : Out :=
 bd (ret1 (binS tab .geq 3 x0 x1) os) fun v1 o1 =>
 bd (gd v1 true (some (x0, o1)) o1) fun v2 o2 =>
 bd (gd v1 true (some (x2, o2)) o2) fun v3 o3 =>
 bd (gd v1 true (ret1 (binS tab .leq 3 v2 v3) o3) o3) fun v4 o4 =>
 bd (ret1 (pickS v1 v4 (SV.v (.bool false))) o4) fun v5 o5 =>
 retV tab nl o5 (resC1 (some v5) (some []))
noncomputable def X44 (K : Nat → List SV → List SO → Out) (N nl : Nat) (x0 x1 : SV) (os : List SO) : Out := exec (cx K) N nl fi44 c44 [(0, x0), (1, x1)] os (kEnd tab [] nl rs44)
noncomputable def B44 (K : Nat → List SV → List SO → Out) (N nl : Nat) (x0 x1 : SV) (os : List SO) : Out :=
 bd (boxS tab os 49 (some x0)) fun v1 o1 =>
 bd (boxS tab o1 49 (some x1)) fun v2 o2 =>
 bd (ret1 (fieldAddrS tab 49 v1 0) o2) fun v3 o3 =>
 bd (ret1 (loadS tab o3 3 v3) o3) fun v4 o4 =>
 bd (ret1 (fieldAddrS tab 49 v2 0) o4) fun v5 o5 =>
 bd (ret1 (loadS tab o5 3 v5) o5) fun v6 o6 =>
 bd (ret1 (binS tab .neq 3 v4 v6) o6) fun v7 o7 =>
 condS v7 (retV tab nl o7 (resC1 (some (SV.v (.bool false))) (some [])))
 (bd (ret1 (fieldAddrS tab 49 v1 1) o7) fun v8 o8 =>
 bd (ret1 (loadS tab o8 3 v8) o8) fun v9 o9 =>
 bd (ret1 (fieldAddrS tab 49 v2 1) o9) fun v10 o10 =>
 bd (ret1 (loadS tab o10 3 v10) o10) fun v11 o11 =>
 bd (ret1 (binS tab .neq 3 v9 v11) o11) fun v12 o12 =>
 condS v12 (retV tab nl o12 (resC1 (some (SV.v (.bool false))) (some [])))
 (bd (ret1 (fieldAddrS tab 49 v1 2) o12) fun v13 o13 =>
 bd (ret1 (loadS tab o13 3 v13) o13) fun v14 o14 =>
 bd (ret1 (fieldAddrS tab 49 v2 2) o14) fun v15 o15 =>
 bd (ret1 (loadS tab o15 3 v15) o15) fun v16 o16 =>
 bd (ret1 (binS tab .neq 3 v14 v16) o16) fun v17 o17 =>
 condS v17 (retV tab nl o17 (resC1 (some (SV.v (.bool false))) (some [])))
 (retV tab nl o17 (resC1 (some (SV.v (.bool true))) (some [])))))
noncomputable def bk45_4 (K : Nat → List SV → List SO → Out) (N nl : Nat) (m4 : Nat) : Env → List SO → Out := fun env os => loopS nl (fi45.lp 4) (fun env os nx => exec (cx K) N nl fi45 (subC c45 [1, 1, 0, 1, 0, 0]) env os (kLoop nx (kBlock 0 (kSeq (exec (cx K) N nl fi45 (subC c45 [1, 1, 1])) (fi45.jn 8) (kEnd tab [] nl rs45))))) m4 (killS (fi45.lp 4).alive env) os
noncomputable def L45_4 (K : Nat → List SV → List SO → Out) (N nl : Nat) (m4 : Nat) (x0 x1 x5 : SV) (os : List SO) : Out := loopS nl (fi45.lp 4) (fun env os nx => exec (cx K) N nl fi45 (subC c45 [1, 1, 0, 1, 0, 0]) env os (kLoop nx (kBlock 0 (kSeq (exec (cx K) N nl fi45 (subC c45 [1, 1, 1])) (fi45.jn 8) (kEnd tab [] nl rs45))))) m4 [(0, x0), (1, x1), (5, x5)] os
noncomputable def LB45_4 (K : Nat → List SV → List SO → Out) (N nl : Nat) (m4 : Nat) (x0 x1 x5 : SV) (os : List SO) : Out :=
 bd (lenO tab 42 os x0) fun v4 o4 =>
 bd (ret1 (binS tab .lss 3 x5 v4) o4) fun v5 o5 =>
 condS v5 (bd (ret1 (indexAddrS tab o5 42 x0 x5) o5) fun v6 o6 =>
 bd (ret1 (loadS tab o6 65 v6) o6) fun v7 o7 =>
 bd (ret1 (indexAddrS tab o7 42 x1 x5) o7) fun v8 o8 =>
 bd (ret1 (loadS tab o8 65 v8) o8) fun v9 o9 =>
 bd (callS ⟨tab, ownF, K⟩ o9 57 [v7, v9]) fun v10 o10 =>
 bd (ret1 (unS .not v10) o10) fun v11 o11 =>
 condS v11 (retV tab nl o11 (resC1 (some (SV.v (.bool false))) (some [])))
 (bd (ret1 (binS tab .add 3 x5 (SV.v (.int .i64 1))) o11) fun v12 o12 =>
 L45_4 K N nl m4 x0 x1 v12 o12))
 (retV tab nl o5 (resC1 (some (SV.v (.bool true))) (some [])))
noncomputable def X45 (K : Nat → List SV → List SO → Out) (N nl : Nat) (x0 x1 : SV) (os : List SO) : Out := exec (cx K) N nl fi45 c45 [(0, x0), (1, x1)] os (kEnd tab [] nl rs45)
noncomputable def B45 (K : Nat → List SV → List SO → Out) (N nl : Nat) (x0 x1 : SV) (os : List SO) : Out :=
 bd (lenO tab 42 os x0) fun v1 o1 =>
 bd (lenO tab 42 o1 x1) fun v2 o2 =>
 bd (ret1 (binS tab .neq 3 v1 v2) o2) fun v3 o3 =>
 condS v3 (retV tab nl o3 (resC1 (some (SV.v (.bool false))) (some [])))
 (L45_4 K N nl N x0 x1 (SV.v (.int .i64 0)) o3)
noncomputable def bk46_4 (K : Nat → List SV → List SO → Out) (N nl : Nat) (m4 : Nat) : Env → List SO → Out := fun env os => loopS nl (fi46.lp 4) (fun env os nx => exec (cx K) N nl fi46 (subC c46 [1, 1, 0, 1, 0, 0]) env os (kLoop nx (kBlock 0 (kSeq (exec (cx K) N nl fi46 (subC c46 [1, 1, 1])) (fi46.jn 8) (kEnd tab [] nl rs46))))) m4 (killS (fi46.lp 4).alive env) os
noncomputable def L46_4 (K : Nat → List SV → List SO → Out) (N nl : Nat) (m4 : Nat) (x0 x1 x5 : SV) (os : List SO) : Out := loopS nl (fi46.lp 4) (fun env os nx => exec (cx K) N nl fi46 (subC c46 [1, 1, 0, 1, 0, 0]) env os (kLoop nx (kBlock 0 (kSeq (exec (cx K) N nl fi46 (subC c46 [1, 1, 1])) (fi46.jn 8) (kEnd tab [] nl rs46))))) m4 [(0, x0), (1, x1), (5, x5)] os
noncomputable def LB46_4 (K : Nat → List SV → List SO → Out) (N nl : Nat) (m4 : Nat) (x0 x1 x5 : SV) (os : List SO) : Out :=
 bd (lenO tab 43 os x0) fun v4 o4 =>
 bd (ret1 (binS tab .lss 3 x5 v4) o4) fun v5 o5 =>
 condS v5 (bd (ret1 (indexAddrS tab o5 43 x0 x5) o5) fun v6 o6 =>
 bd (ret1 (loadS tab o6 67 v6) o6) fun v7 o7 =>
 bd (ret1 (indexAddrS tab o7 43 x1 x5) o7) fun v8 o8 =>
 bd (ret1 (loadS tab o8 67 v8) o8) fun v9 o9 =>
 bd (callS ⟨tab, ownF, K⟩ o9 58 [v7, v9]) fun v10 o10 =>
 bd (ret1 (unS .not v10) o10) fun v11 o11 =>
 condS v11 (retV tab nl o11 (resC1 (some (SV.v (.bool false))) (some [])))
 (bd (ret1 (binS tab .add 3 x5 (SV.v (.int .i64 1))) o11) fun v12 o12 =>
 L46_4 K N nl m4 x0 x1 v12 o12))
 (retV tab nl o5 (resC1 (some (SV.v (.bool true))) (some [])))
noncomputable def X46 (K : Nat → List SV → List SO → Out) (N nl : Nat) (x0 x1 : SV) (os : List SO) : Out := exec (cx K) N nl fi46 c46 [(0, x0), (1, x1)] os (kEnd tab [] nl rs46)
noncomputable def B46 (K : Nat → List SV → List SO → Out) (N nl : Nat) (x0 x1 : SV) (os : List SO) : Out :=
 bd (lenO tab 43 os x0) fun v1 o1 =>
 bd (lenO tab 43 o1 x1) fun v2 o2 =>
 bd (ret1 (binS tab .neq 3 v1 v2) o2) fun v3 o3 =>
 condS v3 (retV tab nl o3 (resC1 (some (SV.v (.bool false))) (some [])))
 (L46_4 K N nl N x0 x1 (SV.v (.int .i64 0)) o3)
noncomputable def bk47_2 (K : Nat → List SV → List SO → Out) (N nl : Nat) (m2 : Nat) : Env → List SO → Out := fun env os => loopS nl (fi47.lp 2) (fun env os nx => exec (cx K) N nl fi47 (subC c47 [1, 0, 1, 0, 0]) env os (kLoop nx (kBlock 0 (kSeq (exec (cx K) N nl fi47 (subC c47 [1, 1])) (fi47.jn 6) (kEnd tab [] nl rs47))))) m2 (killS (fi47.lp 2).alive env) os
noncomputable def L47_2 (K : Nat → List SV → List SO → Out) (N nl : Nat) (m2 : Nat) (x0 x3 : SV) (os : List SO) : Out := loopS nl (fi47.lp 2) (fun env os nx => exec (cx K) N nl fi47 (subC c47 [1, 0, 1, 0, 0]) env os (kLoop nx (kBlock 0 (kSeq (exec (cx K) N nl fi47 (subC c47 [1, 1])) (fi47.jn 6) (kEnd tab [] nl rs47))))) m2 [(0, x0), (3, x3)] os
noncomputable def LB47_2 (K : Nat → List SV → List SO → Out) (N nl : Nat) (m2 : Nat) (x0 x3 : SV) (os : List SO) : Out :=
 bd (lenO tab 42 os x0) fun v1 o1 =>
 bd (ret1 (binS tab .lss 3 x3 v1) o1) fun v2 o2 =>
 condS v2 (bd (ret1 (indexAddrS tab o2 42 x0 x3) o2) fun v3 o3 =>
 bd (ret1 (fieldAddrS tab 65 v3 0) o3) fun v4 o4 =>
 bd (ret1 (loadS tab o4 3 v4) o4) fun v5 o5 =>
 bd (callS ⟨tab, ownF, K⟩ o5 34 [v5, (SV.v (.int .i64 0)), (SV.v (.int .i64 5))]) fun v6 o6 =>
 bd (ret1 (unS .not v6) o6) fun v7 o7 =>
 bd (gd v7 false (some (x0, o7)) o7) fun v8 o8 =>
 bd (gd v7 false (some (x3, o8)) o8) fun v9 o9 =>
 bd (gd v7 false (ret1 (indexAddrS tab o9 42 v8 v9) o9) o9) fun v10 o10 =>
 bd (gd v7 false (ret1 (fieldAddrS tab 65 v10 1) o10) o10) fun v11 o11 =>
 bd (gd v7 false (ret1 (loadS tab o11 3 v11) o11) o11) fun v12 o12 =>
 bd (gd v7 false (callS ⟨tab, ownF, K⟩ o12 34 [v12, (SV.v (.int .i64 0)), (SV.v (.int .i64 9))]) o12) fun v13 o13 =>
 bd (gd v7 false (ret1 (unS .not v13) o13) o13) fun v14 o14 =>
 bd (ret1 (pickS v7 (SV.v (.bool true)) v14) o14) fun v15 o15 =>
 bd (gd v15 false (some (x3, o15)) o15) fun v16 o16 =>
 bd (gd v15 false (ret1 (binS tab .gtr 3 v16 (SV.v (.int .i64 0))) o16) o16) fun v17 o17 =>
 bd (gd v15 false (some (v17, o17)) o17) fun v18 o18 =>
 bd (gd v18 true (some (x0, o18)) o18) fun v19 o19 =>
 bd (gd v18 true (some (x3, o19)) o19) fun v20 o20 =>
 bd (gd v18 true (ret1 (binS tab .sub 3 v20 (SV.v (.int .i64 1))) o20) o20) fun v21 o21 =>
 bd (gd v18 true (ret1 (indexAddrS tab o21 42 v19 v21) o21) o21) fun v22 o22 =>
 bd (gd v18 true (ret1 (fieldAddrS tab 65 v22 0) o22) o22) fun v23 o23 =>
 bd (gd v18 true (ret1 (loadS tab o23 3 v23) o23) o23) fun v24 o24 =>
 bd (gd v18 true (some (x0, o24)) o24) fun v25 o25 =>
 bd (gd v18 true (some (x3, o25)) o25) fun v26 o26 =>
 bd (gd v18 true (ret1 (indexAddrS tab o26 42 v25 v26) o26) o26) fun v27 o27 =>
 bd (gd v18 true (ret1 (fieldAddrS tab 65 v27 0) o27) o27) fun v28 o28 =>
 bd (gd v18 true (ret1 (loadS tab o28 3 v28) o28) o28) fun v29 o29 =>
 bd (gd v18 true (ret1 (binS tab .geq 3 v24 v29) o29) o29) fun v30 o30 =>
 bd (gd v15 false (ret1 (pickS v18 v30 (SV.v (.bool false))) o30) o30) fun v31 o31 =>
 bd (ret1 (pickS v15 (SV.v (.bool true)) v31) o31) fun v32 o32 =>
 condS v32 (retV tab nl o32 (resC1 (some (SV.v (.bool false))) (some [])))
 (bd (ret1 (binS tab .add 3 x3 (SV.v (.int .i64 1))) o32) fun v33 o33 =>
 L47_2 K N nl m2 x0 v33 o33))
 (bd (lenO tab 42 o2 x0) fun v34 o34 =>
 bd (ret1 (binS tab .leq 3 v34 (SV.v (.int .i64 2))) o34) fun v35 o35 =>
 retV tab nl o35 (resC1 (some v35) (some [])))
noncomputable def X47 (K : Nat → List SV → List SO → Out) (N nl : Nat) (x0 : SV) (os : List SO) : Out := exec (cx K) N nl fi47 c47 [(0, x0)] os (kEnd tab [] nl rs47)
noncomputable def B47 (K : Nat → List SV → List SO → Out) (N nl : Nat) (x0 : SV) (os : List SO) : Out :=
 L47_2 K N nl N x0 (SV.v (.int .i64 0)) os
noncomputable def bk48_2 (K : Nat → List SV → List SO → Out) (N nl : Nat) (m2 : Nat) : Env → List SO → Out := fun env os => loopS nl (fi48.lp 2) (fun env os nx => exec (cx K) N nl fi48 (subC c48 [1, 0, 1, 0, 0]) env os (kLoop nx (kBlock 0 (kSeq (exec (cx K) N nl fi48 (subC c48 [1, 1])) (fi48.jn 7) (kEnd tab [] nl rs48))))) m2 (killS (fi48.lp 2).alive env) os
noncomputable def L48_2 (K : Nat → List SV → List SO → Out) (N nl : Nat) (m2 : Nat) (x0 x1 x5 : SV) (os : List SO) : Out := loopS nl (fi48.lp 2) (fun env os nx => exec (cx K) N nl fi48 (subC c48 [1, 0, 1, 0, 0]) env os (kLoop nx (kBlock 0 (kSeq (exec (cx K) N nl fi48 (subC c48 [1, 1])) (fi48.jn 7) (kEnd tab [] nl rs48))))) m2 [(0, x0), (1, x1), (5, x5)] os
noncomputable def G48_2 (K : Nat → List SV → List SO → Out) (N nl : Nat) (m2 : Nat) (xs : List SV) (os : List SO) : Out := (fun env os nx => exec (cx K) N nl fi48 (subC c48 [1, 0, 1, 0, 0]) env os (kLoop nx (kBlock 0 (kSeq (exec (cx K) N nl fi48 (subC c48 [1, 1])) (fi48.jn 7) (kEnd tab [] nl rs48))))) (zipE [0, 1, 5] xs) os (bk48_2 K N nl m2)
noncomputable def GB48_2 (K : Nat → List SV → List SO → Out) (N nl : Nat) (m2 : Nat) (x0 x1 x5 : SV) (os : List SO) : Out :=
 bd (lenO tab 43 os x1) fun v1 o1 =>
 bd (ret1 (binS tab .lss 3 x5 v1) o1) fun v2 o2 =>
 condS v2 (bd (ret1 (indexAddrS tab o2 43 x1 x5) o2) fun v3 o3 =>
 bd (ret1 (loadS tab o3 67 v3) o3) fun v4 o4 =>
 bd (allocS tab o4 67) fun v5 o5 =>
 bd (storeO tab o5 67 v5 (some v4)) fun v6 o6 =>
 bd (ret1 (fieldAddrS tab 67 v5 0) o6) fun v7 o7 =>
 bd (ret1 (loadS tab o7 3 v7) o7) fun v8 o8 =>
 bd (callS ⟨tab, ownF, K⟩ o8 34 [v8, (SV.v (.int .i64 1)), (SV.v (.int .i64 4))]) fun v9 o9 =>
 bd (ret1 (unS .not v9) o9) fun v10 o10 =>
 bd (gd v10 false (ret1 (fieldAddrS tab 67 v5 0) o10) o10) fun v11 o11 =>
 bd (gd v10 false (ret1 (loadS tab o11 3 v11) o11) o11) fun v12 o12 =>
 bd (gd v10 false (some (x0, o12)) o12) fun v13 o13 =>
 bd (gd v10 false (ret1 (binS tab .eql 3 v12 v13) o13) o13) fun v14 o14 =>
 bd (ret1 (pickS v10 (SV.v (.bool true)) v14) o14) fun v15 o15 =>
 bd (gd v15 false (ret1 (fieldAddrS tab 67 v5 1) o15) o15) fun v16 o16 =>
 bd (gd v15 false (ret1 (loadS tab o16 3 v16) o16) o16) fun v17 o17 =>
 bd (gd v15 false (callS ⟨tab, ownF, K⟩ o17 34 [v17, (SV.v (.int .i64 1)), (SV.v (.int .i64 5))]) o17) fun v18 o18 =>
 bd (gd v15 false (ret1 (unS .not v18) o18) o18) fun v19 o19 =>
 bd (ret1 (pickS v15 (SV.v (.bool true)) v19) o19) fun v20 o20 =>
 bd (gd v20 false (some (x5, o20)) o20) fun v21 o21 =>
 bd (gd v20 false (ret1 (binS tab .gtr 3 v21 (SV.v (.int .i64 0))) o21) o21) fun v22 o22 =>
 bd (gd v20 false (some (v22, o22)) o22) fun v23 o23 =>
 bd (gd v23 true (some (x1, o23)) o23) fun v24 o24 =>
 bd (gd v23 true (some (x5, o24)) o24) fun v25 o25 =>
 bd (gd v23 true (ret1 (binS tab .sub 3 v25 (SV.v (.int .i64 1))) o25) o25) fun v26 o26 =>
 bd (gd v23 true (ret1 (indexAddrS tab o26 43 v24 v26) o26) o26) fun v27 o27 =>
 bd (gd v23 true (ret1 (fieldAddrS tab 67 v27 0) o27) o27) fun v28 o28 =>
 bd (gd v23 true (ret1 (loadS tab o28 3 v28) o28) o28) fun v29 o29 =>
 bd (gd v23 true (ret1 (fieldAddrS tab 67 v5 0) o29) o29) fun v30 o30 =>
 bd (gd v23 true (ret1 (loadS tab o30 3 v30) o30) o30) fun v31 o31 =>
 bd (gd v23 true (ret1 (binS tab .geq 3 v29 v31) o31) o31) fun v32 o32 =>
 bd (gd v20 false (ret1 (pickS v23 v32 (SV.v (.bool false))) o32) o32) fun v33 o33 =>
 bd (ret1 (pickS v20 (SV.v (.bool true)) v33) o33) fun v34 o34 =>
 condS v34 (retV tab nl o34 (resC1 (some (SV.v (.bool false))) (some [])))
 (bd (ret1 (binS tab .add 3 x5 (SV.v (.int .i64 1))) o34) fun v35 o35 =>
 L48_2 K N nl m2 x0 x1 v35 o35))
 (bd (lenO tab 43 o2 x1) fun v36 o36 =>
 bd (ret1 (binS tab .leq 3 v36 (SV.v (.int .i64 2))) o36) fun v37 o37 =>
 retV tab nl o37 (resC1 (some v37) (some [])))
noncomputable def X48 (K : Nat → List SV → List SO → Out) (N nl : Nat) (x0 x1 : SV) (os : List SO) : Out := exec (cx K) N nl fi48 c48 [(0, x0), (1, x1)] os (kEnd tab [] nl rs48)
noncomputable def B48 (K : Nat → List SV → List SO → Out) (N nl : Nat) (x0 x1 : SV) (os : List SO) : Out :=
 L48_2 K N nl N x0 x1 (SV.v (.int .i64 0)) os
noncomputable def X49 (K : Nat → List SV → List SO → Out) (N nl : Nat) (x0 : SV) (os : List SO) : Out := exec (cx K) N nl fi49 c49 [(0, x0)] os (kEnd tab [] nl rs49)
noncomputable def B49 (K : Nat → List SV → List SO → Out) (N nl : Nat) (x0 : SV) (os : List SO) : Out :=
 bd (boxS tab os 80 (some x0)) fun v1 o1 =>
 bd (allocS tab o1 65) fun v2 o2 =>
 bd (allocS tab o2 65) fun v3 o3 =>
 bd (ret1 (fieldAddrS tab 80 v1 0) o3) fun v4 o4 =>
 bd (ret1 (loadS tab o4 3 v4) o4) fun v5 o5 =>
 bd (ret1 (fieldAddrS tab 65 v3 0) o5) fun v6 o6 =>
 bd (storeO tab o6 3 v6 (some v5)) fun v7 o7 =>
 bd (ret1 (fieldAddrS tab 80 v1 1) o7) fun v8 o8 =>
 bd (ret1 (loadS tab o8 3 v8) o8) fun v9 o9 =>
 bd (ret1 (fieldAddrS tab 65 v3 1) o9) fun v10 o10 =>
 bd (storeO tab o10 3 v10 (some v9)) fun v11 o11 =>
 bd (ret1 (loadS tab o11 65 v3) o11) fun v12 o12 =>
 bd (storeO tab o12 65 v2 (some v12)) fun v13 o13 =>
 retV tab nl o13 (resC1 (loadS tab o13 65 v2) (some []))
noncomputable def X50 (K : Nat → List SV → List SO → Out) (N nl : Nat) (x0 : SV) (os : List SO) : Out := exec (cx K) N nl fi50 c50 [(0, x0)] os (kEnd tab [] nl rs50)
noncomputable def B50 (K : Nat → List SV → List SO → Out) (N nl : Nat) (x0 : SV) (os : List SO) : Out :=
 bd (boxS tab os 82 (some x0)) fun v1 o1 =>
 bd (allocS tab o1 67) fun v2 o2 =>
 bd (allocS tab o2 67) fun v3 o3 =>
 bd (ret1 (fieldAddrS tab 82 v1 0) o3) fun v4 o4 =>
 bd (ret1 (loadS tab o4 3 v4) o4) fun v5 o5 =>
 bd (ret1 (fieldAddrS tab 67 v3 0) o5) fun v6 o6 =>
 bd (storeO tab o6 3 v6 (some v5)) fun v7 o7 =>
 bd (ret1 (fieldAddrS tab 82 v1 1) o7) fun v8 o8 =>
 bd (ret1 (loadS tab o8 3 v8) o8) fun v9 o9 =>
 bd (ret1 (fieldAddrS tab 67 v3 1) o9) fun v10 o10 =>
 bd (storeO tab o10 3 v10 (some v9)) fun v11 o11 =>
 bd (ret1 (loadS tab o11 67 v3) o11) fun v12 o12 =>
 bd (storeO tab o12 67 v2 (some v12)) fun v13 o13 =>
 retV tab nl o13 (resC1 (loadS tab o13 67 v2) (some []))
noncomputable def bk51_3 (K : Nat → List SV → List SO → Out) (N nl : Nat) (m3 : Nat) : Env → List SO → Out := fun env os => loopS nl (fi51.lp 3) (fun env os nx => exec (cx K) N nl fi51 (subC c51 [1, 1, 0, 1, 0, 0]) env os (kLoop nx (kBlock 0 (kSeq (exec (cx K) N nl fi51 (subC c51 [1, 1, 1])) (fi51.jn 8) (kEnd tab [] nl rs51))))) m3 (killS (fi51.lp 3).alive env) os
noncomputable def L51_3 (K : Nat → List SV → List SO → Out) (N nl : Nat) (m3 : Nat) (x3 x6 x7 x8 : SV) (os : List SO) : Out := loopS nl (fi51.lp 3) (fun env os nx => exec (cx K) N nl fi51 (subC c51 [1, 1, 0, 1, 0, 0]) env os (kLoop nx (kBlock 0 (kSeq (exec (cx K) N nl fi51 (subC c51 [1, 1, 1])) (fi51.jn 8) (kEnd tab [] nl rs51))))) m3 [(3, x3), (6, x6), (7, x7), (8, x8)] os
noncomputable def LB51_3 (K : Nat → List SV → List SO → Out) (N nl : Nat) (m3 : Nat) (x3 x6 x7 x8 : SV) (os : List SO) : Out :=
 bd (ret1 (binS tab .lss 3 x8 x7) os) fun v2 o2 =>
 condS v2 (bd (ret1 (indexAddrS tab o2 95 x6 x8) o2) fun v3 o3 =>
 bd (ret1 (loadS tab o3 3 v3) o3) fun v4 o4 =>
 bd (ret1 (binS tab .neq 3 v4 x3) o4) fun v5 o5 =>
 condS v5 (retV tab nl o5 (resC1 (some v4) (some [])))
 (bd (ret1 (binS tab .add 3 x8 (SV.v (.int .i64 1))) o5) fun v6 o6 =>
 L51_3 K N nl m3 x3 x6 x7 v6 o6))
 (retV tab nl o2 (resC1 (some x3) (some [])))
noncomputable def X51 (K : Nat → List SV → List SO → Out) (N nl : Nat) (x0 : SV) (os : List SO) : Out := exec (cx K) N nl fi51 c51 [(0, x0)] os (kEnd tab [] nl rs51)
noncomputable def B51 (K : Nat → List SV → List SO → Out) (N nl : Nat) (x0 : SV) (os : List SO) : Out :=
 bd (lenO tab 95 os x0) fun v1 o1 =>
 L51_3 K N nl N (SV.v (.int .i64 0)) x0 v1 (SV.v (.int .i64 0)) o1
noncomputable def X52 (K : Nat → List SV → List SO → Out) (N nl : Nat) (x0 x1 : SV) (os : List SO) : Out := exec (cx K) N nl fi52 c52 [(0, x0), (1, x1)] os (kEnd tab [] nl rs52)
noncomputable def B52 (K : Nat → List SV → List SO → Out) (N nl : Nat) (x0 x1 : SV) (os : List SO) : Out :=
 bd (callS ⟨tab, ownF, K⟩ os 59 [x0]) fun v1 o1 =>
 bd (callS ⟨tab, ownF, K⟩ o1 59 [x1]) fun v2 o2 =>
 condS v1 (condS v2 (retV tab nl o2 (resC1 (some (SV.v (.int .i64 0))) (some [])))
 (retV tab nl o2 (resC1 (some (SV.v (.int .i64 (-1)))) (some []))))
 (condS v2 (retV tab nl o2 (resC1 (some (SV.v (.int .i64 1))) (some [])))
 (bd (ret1 (binS tab .lss 3 x0 x1) o2) fun v3 o3 =>
 condS v3 (retV tab nl o3 (resC1 (some (SV.v (.int .i64 (-1)))) (some [])))
 (bd (ret1 (binS tab .gtr 3 x0 x1) o3) fun v4 o4 =>
 condS v4 (retV tab nl o4 (resC1 (some (SV.v (.int .i64 1))) (some [])))
 (retV tab nl o4 (resC1 (some (SV.v (.int .i64 0))) (some []))))))
noncomputable def X57 (K : Nat → List SV → List SO → Out) (N nl : Nat) (x0 x1 : SV) (os : List SO) : Out := exec (cx K) N nl fi57 c57 [(0, x0), (1, x1)] os (kEnd tab [] nl rs57)
noncomputable def B57 (K : Nat → List SV → List SO → Out) (N nl : Nat) (x0 x1 : SV) (os : List SO) : Out :=
 bd (boxS tab os 65 (some x0)) fun v1 o1 =>
 bd (boxS tab o1 65 (some x1)) fun v2 o2 =>
 bd (ret1 (fieldAddrS tab 65 v1 0) o2) fun v3 o3 =>
 bd (ret1 (loadS tab o3 3 v3) o3) fun v4 o4 =>
 bd (ret1 (fieldAddrS tab 65 v2 0) o4) fun v5 o5 =>
 bd (ret1 (loadS tab o5 3 v5) o5) fun v6 o6 =>
 bd (ret1 (binS tab .neq 3 v4 v6) o6) fun v7 o7 =>
 condS v7 (retV tab nl o7 (resC1 (some (SV.v (.bool false))) (some [])))
 (bd (ret1 (fieldAddrS tab 65 v1 1) o7) fun v8 o8 =>
 bd (ret1 (loadS tab o8 3 v8) o8) fun v9 o9 =>
 bd (ret1 (fieldAddrS tab 65 v2 1) o9) fun v10 o10 =>
 bd (ret1 (loadS tab o10 3 v10) o10) fun v11 o11 =>
 bd (ret1 (binS tab .neq 3 v9 v11) o11) fun v12 o12 =>
 condS v12 (retV tab nl o12 (resC1 (some (SV.v (.bool false))) (some [])))
 (retV tab nl o12 (resC1 (some (SV.v (.bool true))) (some []))))
noncomputable def X58 (K : Nat → List SV → List SO → Out) (N nl : Nat) (x0 x1 : SV) (os : List SO) : Out := exec (cx K) N nl fi58 c58 [(0, x0), (1, x1)] os (kEnd tab [] nl rs58)
noncomputable def B58 (K : Nat → List SV → List SO → Out) (N nl : Nat) (x0 x1 : SV) (os : List SO) : Out :=
 bd (boxS tab os 67 (some x0)) fun v1 o1 =>
 bd (boxS tab o1 67 (some x1)) fun v2 o2 =>
 bd (ret1 (fieldAddrS tab 67 v1 0) o2) fun v3 o3 =>
 bd (ret1 (loadS tab o3 3 v3) o3) fun v4 o4 =>
 bd (ret1 (fieldAddrS tab 67 v2 0) o4) fun v5 o5 =>
 bd (ret1 (loadS tab o5 3 v5) o5) fun v6 o6 =>
 bd (ret1 (binS tab .neq 3 v4 v6) o6) fun v7 o7 =>
 condS v7 (retV tab nl o7 (resC1 (some (SV.v (.bool false))) (some [])))
 (bd (ret1 (fieldAddrS tab 67 v1 1) o7) fun v8 o8 =>
 bd (ret1 (loadS tab o8 3 v8) o8) fun v9 o9 =>
 bd (ret1 (fieldAddrS tab 67 v2 1) o9) fun v10 o10 =>
 bd (ret1 (loadS tab o10 3 v10) o10) fun v11 o11 =>
 bd (ret1 (binS tab .neq 3 v9 v11) o11) fun v12 o12 =>
 condS v12 (retV tab nl o12 (resC1 (some (SV.v (.bool false))) (some [])))
 (retV tab nl o12 (resC1 (some (SV.v (.bool true))) (some []))))
noncomputable def X59 (K : Nat → List SV → List SO → Out) (N nl : Nat) (x0 : SV) (os : List SO) : Out := exec (cx K) N nl fi59 c59 [(0, x0)] os (kEnd tab [] nl rs59)
noncomputable def B59 (K : Nat → List SV → List SO → Out) (N nl : Nat) (x0 : SV) (os : List SO) : Out :=
 bd (ret1 (binS tab .neq 3 x0 x0) os) fun v1 o1 =>
 retV tab nl o1 (resC1 (some v1) (some []))
noncomputable def bk66_1 (K : Nat → List SV → List SO → Out) (N nl : Nat) (m1 : Nat) : Env → List SO → Out := fun env os => loopS nl (fi66.lp 1) (fun env os nx => exec (cx K) N nl fi66 (subC c66 [1, 0, 0, 0]) env os (kLoop nx (kBlock 0 (kSeq (exec (cx K) N nl fi66 (subC c66 [1, 1])) (fi66.jn 12) (kEnd tab [] nl rs66))))) m1 (killS (fi66.lp 1).alive env) os
noncomputable def bk67_11 (K : Nat → List SV → List SO → Out) (N nl : Nat) (m11 : Nat) : Env → List SO → Out := fun env os => loopS nl (fi67.lp 11) (fun env os nx => exec (cx K) N nl fi67 (subC c67 [1, 1, 1, 1, 1, 0, 1, 0, 1, 1, 1, 0, 0, 0]) env os (kLoop nx (kBlock 0 (kSeq (exec (cx K) N nl fi67 (subC c67 [1, 1, 1, 1, 1, 0, 1, 0, 1, 1, 1, 1])) (fi67.jn 15) (kSeq (exec (cx K) N nl fi67 (subC c67 [1, 1, 1, 1, 1, 1])) (fi67.jn 25) (kEnd tab [] nl rs67)))))) m11 (killS (fi67.lp 11).alive env) os
noncomputable def bk67_18 (K : Nat → List SV → List SO → Out) (N nl : Nat) (m18 : Nat) : Env → List SO → Out := fun env os => loopS nl (fi67.lp 18) (fun env os nx => exec (cx K) N nl fi67 (subC c67 [1, 1, 1, 1, 1, 0, 1, 1, 1, 0, 0, 0]) env os (kLoop nx (kBlock 2 (kSeq (exec (cx K) N nl fi67 (subC c67 [1, 1, 1, 1, 1, 0, 1, 1, 1, 1])) (fi67.jn 23) (kSeq (exec (cx K) N nl fi67 (subC c67 [1, 1, 1, 1, 1, 1])) (fi67.jn 25) (kEnd tab [] nl rs67)))))) m18 (killS (fi67.lp 18).alive env) os
theorem X3_s (K : Nat → List SV → List SO → Out) (N nl : Nat) (x0 x1 x2 : SV) (os : List SO) : X3 K N nl x0 x1 x2 os = B3 K N nl x0 x1 x2 os := by kernel_rfl
theorem E3 (n : Nat) (x0 x1 x2 : SV) (os : List SO) : callF prg (n + 1) 3 [x0, x1, x2] os = X3 (callF prg n) (n + 1) os.length x0 x1 x2 os := by kernel_rfl
theorem U3 {Q : SV → List SO → Prop} {x0 x1 x2 : SV} {os : List SO} {nl : Nat} (hnl : os.length = nl) (h : Ev (fun n => B3 (callF prg n) (n + 1) nl x0 x1 x2 os) Q) : Ev (fun n => callF prg n 3 [x0, x1, x2] os) Q := by subst hnl; exact ev_fun (fun n => (E3 n _ _ _ _).trans (X3_s _ _ _ _ _ _ _)) h
theorem L4_5_s (K : Nat → List SV → List SO → Out) (N nl : Nat) (m5 : Nat) (x0 x1 x5 : SV) (os : List SO) : L4_5 K N nl (m5 + 1) x0 x1 x5 os = LB4_5 K N nl m5 x0 x1 x5 os := by kernel_rfl
theorem UL4_5 {nl c : Nat} {Q : SV → List SO → Prop} {x0 x1 x5 : SV} {os : List SO} (h : Ev (fun n => LB4_5 (callF prg n) (n + 1) nl (n + 1 - (c + 1)) x0 x1 x5 os) Q) : Ev (fun n => L4_5 (callF prg n) (n + 1) nl (n + 1 - c) x0 x1 x5 os) Q := ev_loop (L := fun n m => L4_5 (callF prg n) (n + 1) nl m x0 x1 x5 os) (fun n m => L4_5_s _ _ _ _ _ _ _ _) h
theorem X4_s (K : Nat → List SV → List SO → Out) (N nl : Nat) (x0 x1 : SV) (os : List SO) : X4 K N nl x0 x1 os = B4 K N nl x0 x1 os := by kernel_rfl
theorem E4 (n : Nat) (x0 x1 : SV) (os : List SO) : callF prg (n + 1) 4 [x0, x1] os = X4 (callF prg n) (n + 1) os.length x0 x1 os := by kernel_rfl
theorem U4 {Q : SV → List SO → Prop} {x0 x1 : SV} {os : List SO} {nl : Nat} (hnl : os.length = nl) (h : Ev (fun n => B4 (callF prg n) (n + 1) nl x0 x1 os) Q) : Ev (fun n => callF prg n 4 [x0, x1] os) Q := by subst hnl; exact ev_fun (fun n => (E4 n _ _ _).trans (X4_s _ _ _ _ _ _)) h
theorem L5_5_s (K : Nat → List SV → List SO → Out) (N nl : Nat) (m5 : Nat) (x2 x6 x8 x9 : SV) (os : List SO) : L5_5 K N nl (m5 + 1) x2 x6 x8 x9 os = gcB nl [x2, x6, x8, x9] os fun xs os => G5_5 K N nl m5 xs os := by kernel_rfl
theorem UL5_5 {nl c : Nat} {Q : SV → List SO → Prop} {x2 x6 x8 x9 : SV} {os : List SO} (h : Ev (fun n => gcB nl [x2, x6, x8, x9] os fun xs os => G5_5 (callF prg n) (n + 1) nl (n + 1 - (c + 1)) xs os) Q) : Ev (fun n => L5_5 (callF prg n) (n + 1) nl (n + 1 - c) x2 x6 x8 x9 os) Q := ev_loop (L := fun n m => L5_5 (callF prg n) (n + 1) nl m x2 x6 x8 x9 os) (fun n m => L5_5_s _ _ _ _ _ _ _ _ _) h
theorem VL5_5 {nl : Nat} {Q : SV → List SO → Prop} {x2 x6 x8 x9 : SV} {os : List SO} (h : Ev (fun n => gcB nl [x2, x6, x8, x9] os fun xs os => G5_5 (callF prg n) (n + 1) nl (n + 1 - 1) xs os) Q) : Ev (fun n => L5_5 (callF prg n) (n + 1) nl (n + 1) x2 x6 x8 x9 os) Q := UL5_5 (c := 0) h
theorem G5_5_s (K : Nat → List SV → List SO → Out) (N nl : Nat) (m5 : Nat) (x2 x6 x8 x9 : SV) (os : List SO) : G5_5 K N nl m5 [x2, x6, x8, x9] os = GB5_5 K N nl m5 x2 x6 x8 x9 os := by kernel_rfl
theorem UG5_5 {nl : Nat} {Q : SV → List SO → Prop} (m5 : Nat → Nat) {x2 x6 x8 x9 : SV} {os : List SO} (h : Ev (fun n => GB5_5 (callF prg n) (n + 1) nl (m5 n) x2 x6 x8 x9 os) Q) : Ev (fun n => G5_5 (callF prg n) (n + 1) nl (m5 n) [x2, x6, x8, x9] os) Q := ev_eq (fun n => G5_5_s _ _ _ _ _ _ _ _ _) h
theorem J5_6_s (K : Nat → List SV → List SO → Out) (N nl : Nat) (m5 : Nat) (x2 x6 x8 x9 : SV) (os : List SO) : J5_6 K N nl m5 x2 x6 x8 x9 os = JB5_6 K N nl m5 x2 x6 x8 x9 os := by kernel_rfl
theorem UJ5_6 {nl : Nat} {Q : SV → List SO → Prop} {m5 : Nat → Nat} {x2 x6 x8 x9 : SV} {os : List SO} (h : Ev (fun n => JB5_6 (callF prg n) (n + 1) nl (m5 n) x2 x6 x8 x9 os) Q) : Ev (fun n => J5_6 (callF prg n) (n + 1) nl (m5 n) x2 x6 x8 x9 os) Q := ev_eq (fun n => J5_6_s _ _ _ _ _ _ _ _ _) h
theorem X5_s (K : Nat → List SV → List SO → Out) (N nl : Nat) (x0 x1 x2 : SV) (os : List SO) : X5 K N nl x0 x1 x2 os = B5 K N nl x0 x1 x2 os := by kernel_rfl
theorem E5 (n : Nat) (x0 x1 x2 : SV) (os : List SO) : callF prg (n + 1) 5 [x0, x1, x2] os = X5 (callF prg n) (n + 1) os.length x0 x1 x2 os := by kernel_rfl
theorem U5 {Q : SV → List SO → Prop} {x0 x1 x2 : SV} {os : List SO} {nl : Nat} (hnl : os.length = nl) (h : Ev (fun n => B5 (callF prg n) (n + 1) nl x0 x1 x2 os) Q) : Ev (fun n => callF prg n 5 [x0, x1, x2] os) Q := by subst hnl; exact ev_fun (fun n => (E5 n _ _ _ _).trans (X5_s _ _ _ _ _ _ _)) h
theorem L6_3_s (K : Nat → List SV → List SO → Out) (N nl : Nat) (m3 : Nat) (x0 x3 x4 : SV) (os : List SO) : L6_3 K N nl (m3 + 1) x0 x3 x4 os = gcB nl [x0, x3, x4] os fun xs os => G6_3 K N nl m3 xs os := by kernel_rfl
theorem UL6_3 {nl c : Nat} {Q : SV → List SO → Prop} {x0 x3 x4 : SV} {os : List SO} (h : Ev (fun n => gcB nl [x0, x3, x4] os fun xs os => G6_3 (callF prg n) (n + 1) nl (n + 1 - (c + 1)) xs os) Q) : Ev (fun n => L6_3 (callF prg n) (n + 1) nl (n + 1 - c) x0 x3 x4 os) Q := ev_loop (L := fun n m => L6_3 (callF prg n) (n + 1) nl m x0 x3 x4 os) (fun n m => L6_3_s _ _ _ _ _ _ _ _) h
theorem VL6_3 {nl : Nat} {Q : SV → List SO → Prop} {x0 x3 x4 : SV} {os : List SO} (h : Ev (fun n => gcB nl [x0, x3, x4] os fun xs os => G6_3 (callF prg n) (n + 1) nl (n + 1 - 1) xs os) Q) : Ev (fun n => L6_3 (callF prg n) (n + 1) nl (n + 1) x0 x3 x4 os) Q := UL6_3 (c := 0) h
theorem G6_3_s (K : Nat → List SV → List SO → Out) (N nl : Nat) (m3 : Nat) (x0 x3 x4 : SV) (os : List SO) : G6_3 K N nl m3 [x0, x3, x4] os = GB6_3 K N nl m3 x0 x3 x4 os := by kernel_rfl
theorem UG6_3 {nl : Nat} {Q : SV → List SO → Prop} (m3 : Nat → Nat) {x0 x3 x4 : SV} {os : List SO} (h : Ev (fun n => GB6_3 (callF prg n) (n + 1) nl (m3 n) x0 x3 x4 os) Q) : Ev (fun n => G6_3 (callF prg n) (n + 1) nl (m3 n) [x0, x3, x4] os) Q := ev_eq (fun n => G6_3_s _ _ _ _ _ _ _ _) h
theorem X6_s (K : Nat → List SV → List SO → Out) (N nl : Nat) (x0 : SV) (os : List SO) : X6 K N nl x0 os = B6 K N nl x0 os := by kernel_rfl
theorem E6 (n : Nat) (x0 : SV) (os : List SO) : callF prg (n + 1) 6 [x0] os = X6 (callF prg n) (n + 1) os.length x0 os := by kernel_rfl
theorem U6 {Q : SV → List SO → Prop} {x0 : SV} {os : List SO} {nl : Nat} (hnl : os.length = nl) (h : Ev (fun n => B6 (callF prg n) (n + 1) nl x0 os) Q) : Ev (fun n => callF prg n 6 [x0] os) Q := by subst hnl; exact ev_fun (fun n => (E6 n _ _).trans (X6_s _ _ _ _ _)) h
theorem L7_5_s (K : Nat → List SV → List SO → Out) (N nl : Nat) (m5 : Nat) (x6 x8 x18 x19 x20 : SV) (os : List SO) : L7_5 K N nl (m5 + 1) x6 x8 x18 x19 x20 os = gcB nl [x6, x8, x18, x19, x20] os fun xs os => G7_5 K N nl m5 xs os := by kernel_rfl
theorem G7_5_s (K : Nat → List SV → List SO → Out) (N nl : Nat) (m5 : Nat) (x6 x8 x18 x19 x20 : SV) (os : List SO) : G7_5 K N nl m5 [x6, x8, x18, x19, x20] os = GB7_5 K N nl m5 x6 x8 x18 x19 x20 os := by kernel_rfl
theorem X7_s (K : Nat → List SV → List SO → Out) (N nl : Nat) (x0 x1 x2 : SV) (os : List SO) : X7 K N nl x0 x1 x2 os = B7 K N nl x0 x1 x2 os := by kernel_rfl
theorem X8_s (K : Nat → List SV → List SO → Out) (N nl : Nat) (x0 x1 : SV) (os : List SO) : X8 K N nl x0 x1 os = B8 K N nl x0 x1 os := by kernel_rfl
theorem E8 (n : Nat) (x0 x1 : SV) (os : List SO) : callF prg (n + 1) 8 [x0, x1] os = X8 (callF prg n) (n + 1) os.length x0 x1 os := by kernel_rfl
theorem U8 {Q : SV → List SO → Prop} {x0 x1 : SV} {os : List SO} {nl : Nat} (hnl : os.length = nl) (h : Ev (fun n => B8 (callF prg n) (n + 1) nl x0 x1 os) Q) : Ev (fun n => callF prg n 8 [x0, x1] os) Q := by subst hnl; exact ev_fun (fun n => (E8 n _ _ _).trans (X8_s _ _ _ _ _ _)) h
theorem L9_4_s (K : Nat → List SV → List SO → Out) (N nl : Nat) (m4 : Nat) (x0 x1 x5 : SV) (os : List SO) : L9_4 K N nl (m4 + 1) x0 x1 x5 os = LB9_4 K N nl m4 x0 x1 x5 os := by kernel_rfl
theorem UL9_4 {nl c : Nat} {Q : SV → List SO → Prop} {x0 x1 x5 : SV} {os : List SO} (h : Ev (fun n => LB9_4 (callF prg n) (n + 1) nl (n + 1 - (c + 1)) x0 x1 x5 os) Q) : Ev (fun n => L9_4 (callF prg n) (n + 1) nl (n + 1 - c) x0 x1 x5 os) Q := ev_loop (L := fun n m => L9_4 (callF prg n) (n + 1) nl m x0 x1 x5 os) (fun n m => L9_4_s _ _ _ _ _ _ _ _) h
theorem X9_s (K : Nat → List SV → List SO → Out) (N nl : Nat) (x0 x1 : SV) (os : List SO) : X9 K N nl x0 x1 os = B9 K N nl x0 x1 os := by kernel_rfl
theorem E9 (n : Nat) (x0 x1 : SV) (os : List SO) : callF prg (n + 1) 9 [x0, x1] os = X9 (callF prg n) (n + 1) os.length x0 x1 os := by kernel_rfl
theorem U9 {Q : SV → List SO → Prop} {x0 x1 : SV} {os : List SO} {nl : Nat} (hnl : os.length = nl) (h : Ev (fun n => B9 (callF prg n) (n + 1) nl x0 x1 os) Q) : Ev (fun n => callF prg n 9 [x0, x1] os) Q := by subst hnl; exact ev_fun (fun n => (E9 n _ _ _).trans (X9_s _ _ _ _ _ _)) h
theorem L10_2_s (K : Nat → List SV → List SO → Out) (N nl : Nat) (m2 : Nat) (x0 x1 x5 : SV) (os : List SO) : L10_2 K N nl (m2 + 1) x0 x1 x5 os = LB10_2 K N nl m2 x0 x1 x5 os := by kernel_rfl
theorem UL10_2 {nl c : Nat} {Q : SV → List SO → Prop} {x0 x1 x5 : SV} {os : List SO} (h : Ev (fun n => LB10_2 (callF prg n) (n + 1) nl (n + 1 - (c + 1)) x0 x1 x5 os) Q) : Ev (fun n => L10_2 (callF prg n) (n + 1) nl (n + 1 - c) x0 x1 x5 os) Q := ev_loop (L := fun n m => L10_2 (callF prg n) (n + 1) nl m x0 x1 x5 os) (fun n m => L10_2_s _ _ _ _ _ _ _ _) h
theorem VL10_2 {nl : Nat} {Q : SV → List SO → Prop} {x0 x1 x5 : SV} {os : List SO} (h : Ev (fun n => LB10_2 (callF prg n) (n + 1) nl (n + 1 - 1) x0 x1 x5 os) Q) : Ev (fun n => L10_2 (callF prg n) (n + 1) nl (n + 1) x0 x1 x5 os) Q := UL10_2 (c := 0) h
theorem X10_s (K : Nat → List SV → List SO → Out) (N nl : Nat) (x0 x1 : SV) (os : List SO) : X10 K N nl x0 x1 os = B10 K N nl x0 x1 os := by kernel_rfl
theorem E10 (n : Nat) (x0 x1 : SV) (os : List SO) : callF prg (n + 1) 10 [x0, x1] os = X10 (callF prg n) (n + 1) os.length x0 x1 os := by kernel_rfl
theorem U10 {Q : SV → List SO → Prop} {x0 x1 : SV} {os : List SO} {nl : Nat} (hnl : os.length = nl) (h : Ev (fun n => B10 (callF prg n) (n + 1) nl x0 x1 os) Q) : Ev (fun n => callF prg n 10 [x0, x1] os) Q := by subst hnl; exact ev_fun (fun n => (E10 n _ _ _).trans (X10_s _ _ _ _ _ _)) h
theorem X11_s (K : Nat → List SV → List SO → Out) (N nl : Nat) (x0 x1 : SV) (os : List SO) : X11 K N nl x0 x1 os = B11 K N nl x0 x1 os := by kernel_rfl
theorem E11 (n : Nat) (x0 x1 : SV) (os : List SO) : callF prg (n + 1) 11 [x0, x1] os = X11 (callF prg n) (n + 1) os.length x0 x1 os := by kernel_rfl
theorem U11 {Q : SV → List SO → Prop} {x0 x1 : SV} {os : List SO} {nl : Nat} (hnl : os.length = nl) (h : Ev (fun n => B11 (callF prg n) (n + 1) nl x0 x1 os) Q) : Ev (fun n => callF prg n 11 [x0, x1] os) Q := by subst hnl; exact ev_fun (fun n => (E11 n _ _ _).trans (X11_s _ _ _ _ _ _)) h
theorem X12_s (K : Nat → List SV → List SO → Out) (N nl : Nat) (x0 x1 : SV) (os : List SO) : X12 K N nl x0 x1 os = B12 K N nl x0 x1 os := by kernel_rfl
theorem E12 (n : Nat) (x0 x1 : SV) (os : List SO) : callF prg (n + 1) 12 [x0, x1] os = X12 (callF prg n) (n + 1) os.length x0 x1 os := by kernel_rfl
theorem U12 {Q : SV → List SO → Prop} {x0 x1 : SV} {os : List SO} {nl : Nat} (hnl : os.length = nl) (h : Ev (fun n => B12 (callF prg n) (n + 1) nl x0 x1 os) Q) : Ev (fun n => callF prg n 12 [x0, x1] os) Q := by subst hnl; exact ev_fun (fun n => (E12 n _ _ _).trans (X12_s _ _ _ _ _ _)) h
theorem X13_s (K : Nat → List SV → List SO → Out) (N nl : Nat) (x0 x1 : SV) (os : List SO) : X13 K N nl x0 x1 os = B13 K N nl x0 x1 os := by kernel_rfl
theorem E13 (n : Nat) (x0 x1 : SV) (os : List SO) : callF prg (n + 1) 13 [x0, x1] os = X13 (callF prg n) (n + 1) os.length x0 x1 os := by kernel_rfl
theorem U13 {Q : SV → List SO → Prop} {x0 x1 : SV} {os : List SO} {nl : Nat} (hnl : os.length = nl) (h : Ev (fun n => B13 (callF prg n) (n + 1) nl x0 x1 os) Q) : Ev (fun n => callF prg n 13 [x0, x1] os) Q := by subst hnl; exact ev_fun (fun n => (E13 n _ _ _).trans (X13_s _ _ _ _ _ _)) h
theorem L14_2_s (K : Nat → List SV → List SO → Out) (N nl : Nat) (m2 : Nat) (x0 x3 : SV) (os : List SO) : L14_2 K N nl (m2 + 1) x0 x3 os = LB14_2 K N nl m2 x0 x3 os := by kernel_rfl
theorem UL14_2 {nl c : Nat} {Q : SV → List SO → Prop} {x0 x3 : SV} {os : List SO} (h : Ev (fun n => LB14_2 (callF prg n) (n + 1) nl (n + 1 - (c + 1)) x0 x3 os) Q) : Ev (fun n => L14_2 (callF prg n) (n + 1) nl (n + 1 - c) x0 x3 os) Q := ev_loop (L := fun n m => L14_2 (callF prg n) (n + 1) nl m x0 x3 os) (fun n m => L14_2_s _ _ _ _ _ _ _) h
theorem X14_s (K : Nat → List SV → List SO → Out) (N nl : Nat) (x0 : SV) (os : List SO) : X14 K N nl x0 os = B14 K N nl x0 os := by kernel_rfl
theorem E14 (n : Nat) (x0 : SV) (os : List SO) : callF prg (n + 1) 14 [x0] os = X14 (callF prg n) (n + 1) os.length x0 os := by kernel_rfl
theorem U14 {Q : SV → List SO → Prop} {x0 : SV} {os : List SO} {nl : Nat} (hnl : os.length = nl) (h : Ev (fun n => B14 (callF prg n) (n + 1) nl x0 os) Q) : Ev (fun n => callF prg n 14 [x0] os) Q := by subst hnl; exact ev_fun (fun n => (E14 n _ _).trans (X14_s _ _ _ _ _)) h
theorem L15_3_s (K : Nat → List SV → List SO → Out) (N nl : Nat) (m3 : Nat) (x0 x3 x4 : SV) (os : List SO) : L15_3 K N nl (m3 + 1) x0 x3 x4 os = LB15_3 K N nl m3 x0 x3 x4 os := by kernel_rfl
theorem UL15_3 {nl c : Nat} {Q : SV → List SO → Prop} {x0 x3 x4 : SV} {os : List SO} (h : Ev (fun n => LB15_3 (callF prg n) (n + 1) nl (n + 1 - (c + 1)) x0 x3 x4 os) Q) : Ev (fun n => L15_3 (callF prg n) (n + 1) nl (n + 1 - c) x0 x3 x4 os) Q := ev_loop (L := fun n m => L15_3 (callF prg n) (n + 1) nl m x0 x3 x4 os) (fun n m => L15_3_s _ _ _ _ _ _ _ _) h
theorem X15_s (K : Nat → List SV → List SO → Out) (N nl : Nat) (x0 : SV) (os : List SO) : X15 K N nl x0 os = B15 K N nl x0 os := by kernel_rfl
theorem E15 (n : Nat) (x0 : SV) (os : List SO) : callF prg (n + 1) 15 [x0] os = X15 (callF prg n) (n + 1) os.length x0 os := by kernel_rfl
theorem U15 {Q : SV → List SO → Prop} {x0 : SV} {os : List SO} {nl : Nat} (hnl : os.length = nl) (h : Ev (fun n => B15 (callF prg n) (n + 1) nl x0 os) Q) : Ev (fun n => callF prg n 15 [x0] os) Q := by subst hnl; exact ev_fun (fun n => (E15 n _ _).trans (X15_s _ _ _ _ _)) h
theorem L16_5_s (K : Nat → List SV → List SO → Out) (N nl : Nat) (m5 : Nat) (x1 x3 x4 : SV) (os : List SO) : L16_5 K N nl (m5 + 1) x1 x3 x4 os = LB16_5 K N nl m5 x1 x3 x4 os := by kernel_rfl
theorem UL16_5 {nl c : Nat} {Q : SV → List SO → Prop} {x1 x3 x4 : SV} {os : List SO} (h : Ev (fun n => LB16_5 (callF prg n) (n + 1) nl (n + 1 - (c + 1)) x1 x3 x4 os) Q) : Ev (fun n => L16_5 (callF prg n) (n + 1) nl (n + 1 - c) x1 x3 x4 os) Q := ev_loop (L := fun n m => L16_5 (callF prg n) (n + 1) nl m x1 x3 x4 os) (fun n m => L16_5_s _ _ _ _ _ _ _ _) h
theorem J16_6_s (K : Nat → List SV → List SO → Out) (N nl : Nat) (m5 : Nat) (x1 x3 x4 : SV) (os : List SO) : J16_6 K N nl m5 x1 x3 x4 os = JB16_6 K N nl m5 x1 x3 x4 os := by kernel_rfl
theorem UJ16_6 {nl : Nat} {Q : SV → List SO → Prop} {m5 : Nat → Nat} {x1 x3 x4 : SV} {os : List SO} (h : Ev (fun n => JB16_6 (callF prg n) (n + 1) nl (m5 n) x1 x3 x4 os) Q) : Ev (fun n => J16_6 (callF prg n) (n + 1) nl (m5 n) x1 x3 x4 os) Q := ev_eq (fun n => J16_6_s _ _ _ _ _ _ _ _) h
theorem L16_9_s (K : Nat → List SV → List SO → Out) (N nl : Nat) (m9 : Nat) (x1 x3 x5 : SV) (os : List SO) : L16_9 K N nl (m9 + 1) x1 x3 x5 os = LB16_9 K N nl m9 x1 x3 x5 os := by kernel_rfl
theorem UL16_9 {nl c : Nat} {Q : SV → List SO → Prop} {x1 x3 x5 : SV} {os : List SO} (h : Ev (fun n => LB16_9 (callF prg n) (n + 1) nl (n + 1 - (c + 1)) x1 x3 x5 os) Q) : Ev (fun n => L16_9 (callF prg n) (n + 1) nl (n + 1 - c) x1 x3 x5 os) Q := ev_loop (L := fun n m => L16_9 (callF prg n) (n + 1) nl m x1 x3 x5 os) (fun n m => L16_9_s _ _ _ _ _ _ _ _) h
theorem X16_s (K : Nat → List SV → List SO → Out) (N nl : Nat) (x0 : SV) (os : List SO) : X16 K N nl x0 os = B16 K N nl x0 os := by kernel_rfl
theorem E16 (n : Nat) (x0 : SV) (os : List SO) : callF prg (n + 1) 16 [x0] os = X16 (callF prg n) (n + 1) os.length x0 os := by kernel_rfl
theorem U16 {Q : SV → List SO → Prop} {x0 : SV} {os : List SO} {nl : Nat} (hnl : os.length = nl) (h : Ev (fun n => B16 (callF prg n) (n + 1) nl x0 os) Q) : Ev (fun n => callF prg n 16 [x0] os) Q := by subst hnl; exact ev_fun (fun n => (E16 n _ _).trans (X16_s _ _ _ _ _)) h
theorem L17_4_s (K : Nat → List SV → List SO → Out) (N nl : Nat) (m4 : Nat) (x1 x3 : SV) (os : List SO) : L17_4 K N nl (m4 + 1) x1 x3 os = gcB nl [x1, x3] os fun xs os => G17_4 K N nl m4 xs os := by kernel_rfl
theorem UL17_4 {nl c : Nat} {Q : SV → List SO → Prop} {x1 x3 : SV} {os : List SO} (h : Ev (fun n => gcB nl [x1, x3] os fun xs os => G17_4 (callF prg n) (n + 1) nl (n + 1 - (c + 1)) xs os) Q) : Ev (fun n => L17_4 (callF prg n) (n + 1) nl (n + 1 - c) x1 x3 os) Q := ev_loop (L := fun n m => L17_4 (callF prg n) (n + 1) nl m x1 x3 os) (fun n m => L17_4_s _ _ _ _ _ _ _) h
theorem VL17_4 {nl : Nat} {Q : SV → List SO → Prop} {x1 x3 : SV} {os : List SO} (h : Ev (fun n => gcB nl [x1, x3] os fun xs os => G17_4 (callF prg n) (n + 1) nl (n + 1 - 1) xs os) Q) : Ev (fun n => L17_4 (callF prg n) (n + 1) nl (n + 1) x1 x3 os) Q := UL17_4 (c := 0) h
theorem G17_4_s (K : Nat → List SV → List SO → Out) (N nl : Nat) (m4 : Nat) (x1 x3 : SV) (os : List SO) : G17_4 K N nl m4 [x1, x3] os = GB17_4 K N nl m4 x1 x3 os := by kernel_rfl
theorem UG17_4 {nl : Nat} {Q : SV → List SO → Prop} (m4 : Nat → Nat) {x1 x3 : SV} {os : List SO} (h : Ev (fun n => GB17_4 (callF prg n) (n + 1) nl (m4 n) x1 x3 os) Q) : Ev (fun n => G17_4 (callF prg n) (n + 1) nl (m4 n) [x1, x3] os) Q := ev_eq (fun n => G17_4_s _ _ _ _ _ _ _) h
theorem X17_s (K : Nat → List SV → List SO → Out) (N nl : Nat) (x0 : SV) (os : List SO) : X17 K N nl x0 os = B17 K N nl x0 os := by kernel_rfl
theorem E17 (n : Nat) (x0 : SV) (os : List SO) : callF prg (n + 1) 17 [x0] os = X17 (callF prg n) (n + 1) os.length x0 os := by kernel_rfl
theorem U17 {Q : SV → List SO → Prop} {x0 : SV} {os : List SO} {nl : Nat} (hnl : os.length = nl) (h : Ev (fun n => B17 (callF prg n) (n + 1) nl x0 os) Q) : Ev (fun n => callF prg n 17 [x0] os) Q := by subst hnl; exact ev_fun (fun n => (E17 n _ _).trans (X17_s _ _ _ _ _)) h
theorem X18_s (K : Nat → List SV → List SO → Out) (N nl : Nat) (x0 : SV) (os : List SO) : X18 K N nl x0 os = B18 K N nl x0 os := by kernel_rfl
theorem E18 (n : Nat) (x0 : SV) (os : List SO) : callF prg (n + 1) 18 [x0] os = X18 (callF prg n) (n + 1) os.length x0 os := by kernel_rfl
theorem U18 {Q : SV → List SO → Prop} {x0 : SV} {os : List SO} {nl : Nat} (hnl : os.length = nl) (h : Ev (fun n => B18 (callF prg n) (n + 1) nl x0 os) Q) : Ev (fun n => callF prg n 18 [x0] os) Q := by subst hnl; exact ev_fun (fun n => (E18 n _ _).trans (X18_s _ _ _ _ _)) h
theorem L19_2_s (K : Nat → List SV → List SO → Out) (N nl : Nat) (m2 : Nat) (x0 x5 x6 x7 : SV) (os : List SO) : L19_2 K N nl (m2 + 1) x0 x5 x6 x7 os = gcB nl [x0, x5, x6, x7] os fun xs os => G19_2 K N nl m2 xs os := by kernel_rfl
theorem UL19_2 {nl c : Nat} {Q : SV → List SO → Prop} {x0 x5 x6 x7 : SV} {os : List SO} (h : Ev (fun n => gcB nl [x0, x5, x6, x7] os fun xs os => G19_2 (callF prg n) (n + 1) nl (n + 1 - (c + 1)) xs os) Q) : Ev (fun n => L19_2 (callF prg n) (n + 1) nl (n + 1 - c) x0 x5 x6 x7 os) Q := ev_loop (L := fun n m => L19_2 (callF prg n) (n + 1) nl m x0 x5 x6 x7 os) (fun n m => L19_2_s _ _ _ _ _ _ _ _ _) h
theorem VL19_2 {nl : Nat} {Q : SV → List SO → Prop} {x0 x5 x6 x7 : SV} {os : List SO} (h : Ev (fun n => gcB nl [x0, x5, x6, x7] os fun xs os => G19_2 (callF prg n) (n + 1) nl (n + 1 - 1) xs os) Q) : Ev (fun n => L19_2 (callF prg n) (n + 1) nl (n + 1) x0 x5 x6 x7 os) Q := UL19_2 (c := 0) h
theorem G19_2_s (K : Nat → List SV → List SO → Out) (N nl : Nat) (m2 : Nat) (x0 x5 x6 x7 : SV) (os : List SO) : G19_2 K N nl m2 [x0, x5, x6, x7] os = GB19_2 K N nl m2 x0 x5 x6 x7 os := by kernel_rfl
theorem UG19_2 {nl : Nat} {Q : SV → List SO → Prop} (m2 : Nat → Nat) {x0 x5 x6 x7 : SV} {os : List SO} (h : Ev (fun n => GB19_2 (callF prg n) (n + 1) nl (m2 n) x0 x5 x6 x7 os) Q) : Ev (fun n => G19_2 (callF prg n) (n + 1) nl (m2 n) [x0, x5, x6, x7] os) Q := ev_eq (fun n => G19_2_s _ _ _ _ _ _ _ _ _) h
theorem X19_s (K : Nat → List SV → List SO → Out) (N nl : Nat) (x0 : SV) (os : List SO) : X19 K N nl x0 os = B19 K N nl x0 os := by kernel_rfl
theorem E19 (n : Nat) (x0 : SV) (os : List SO) : callF prg (n + 1) 19 [x0] os = X19 (callF prg n) (n + 1) os.length x0 os := by kernel_rfl
theorem U19 {Q : SV → List SO → Prop} {x0 : SV} {os : List SO} {nl : Nat} (hnl : os.length = nl) (h : Ev (fun n => B19 (callF prg n) (n + 1) nl x0 os) Q) : Ev (fun n => callF prg n 19 [x0] os) Q := by subst hnl; exact ev_fun (fun n => (E19 n _ _).trans (X19_s _ _ _ _ _)) h
theorem X20_s (K : Nat → List SV → List SO → Out) (N nl : Nat) (x0 : SV) (os : List SO) : X20 K N nl x0 os = B20 K N nl x0 os := by kernel_rfl
theorem L21_2_s (K : Nat → List SV → List SO → Out) (N nl : Nat) (m2 : Nat) (x1 x6 x7 x8 : SV) (os : List SO) : L21_2 K N nl (m2 + 1) x1 x6 x7 x8 os = gcB nl [x1, x6, x7, x8] os fun xs os => G21_2 K N nl m2 xs os := by kernel_rfl
theorem UL21_2 {nl c : Nat} {Q : SV → List SO → Prop} {x1 x6 x7 x8 : SV} {os : List SO} (h : Ev (fun n => gcB nl [x1, x6, x7, x8] os fun xs os => G21_2 (callF prg n) (n + 1) nl (n + 1 - (c + 1)) xs os) Q) : Ev (fun n => L21_2 (callF prg n) (n + 1) nl (n + 1 - c) x1 x6 x7 x8 os) Q := ev_loop (L := fun n m => L21_2 (callF prg n) (n + 1) nl m x1 x6 x7 x8 os) (fun n m => L21_2_s _ _ _ _ _ _ _ _ _) h
theorem VL21_2 {nl : Nat} {Q : SV → List SO → Prop} {x1 x6 x7 x8 : SV} {os : List SO} (h : Ev (fun n => gcB nl [x1, x6, x7, x8] os fun xs os => G21_2 (callF prg n) (n + 1) nl (n + 1 - 1) xs os) Q) : Ev (fun n => L21_2 (callF prg n) (n + 1) nl (n + 1) x1 x6 x7 x8 os) Q := UL21_2 (c := 0) h
theorem G21_2_s (K : Nat → List SV → List SO → Out) (N nl : Nat) (m2 : Nat) (x1 x6 x7 x8 : SV) (os : List SO) : G21_2 K N nl m2 [x1, x6, x7, x8] os = GB21_2 K N nl m2 x1 x6 x7 x8 os := by kernel_rfl
theorem UG21_2 {nl : Nat} {Q : SV → List SO → Prop} (m2 : Nat → Nat) {x1 x6 x7 x8 : SV} {os : List SO} (h : Ev (fun n => GB21_2 (callF prg n) (n + 1) nl (m2 n) x1 x6 x7 x8 os) Q) : Ev (fun n => G21_2 (callF prg n) (n + 1) nl (m2 n) [x1, x6, x7, x8] os) Q := ev_eq (fun n => G21_2_s _ _ _ _ _ _ _ _ _) h
theorem X21_s (K : Nat → List SV → List SO → Out) (N nl : Nat) (x0 : SV) (os : List SO) : X21 K N nl x0 os = B21 K N nl x0 os := by kernel_rfl
theorem E21 (n : Nat) (x0 : SV) (os : List SO) : callF prg (n + 1) 21 [x0] os = X21 (callF prg n) (n + 1) os.length x0 os := by kernel_rfl
theorem U21 {Q : SV → List SO → Prop} {x0 : SV} {os : List SO} {nl : Nat} (hnl : os.length = nl) (h : Ev (fun n => B21 (callF prg n) (n + 1) nl x0 os) Q) : Ev (fun n => callF prg n 21 [x0] os) Q := by subst hnl; exact ev_fun (fun n => (E21 n _ _).trans (X21_s _ _ _ _ _)) h
theorem L22_4_s (K : Nat → List SV → List SO → Out) (N nl : Nat) (m4 : Nat) (x0 x1 x5 : SV) (os : List SO) : L22_4 K N nl (m4 + 1) x0 x1 x5 os = LB22_4 K N nl m4 x0 x1 x5 os := by kernel_rfl
theorem UL22_4 {nl c : Nat} {Q : SV → List SO → Prop} {x0 x1 x5 : SV} {os : List SO} (h : Ev (fun n => LB22_4 (callF prg n) (n + 1) nl (n + 1 - (c + 1)) x0 x1 x5 os) Q) : Ev (fun n => L22_4 (callF prg n) (n + 1) nl (n + 1 - c) x0 x1 x5 os) Q := ev_loop (L := fun n m => L22_4 (callF prg n) (n + 1) nl m x0 x1 x5 os) (fun n m => L22_4_s _ _ _ _ _ _ _ _) h
theorem X22_s (K : Nat → List SV → List SO → Out) (N nl : Nat) (x0 x1 : SV) (os : List SO) : X22 K N nl x0 x1 os = B22 K N nl x0 x1 os := by kernel_rfl
theorem E22 (n : Nat) (x0 x1 : SV) (os : List SO) : callF prg (n + 1) 22 [x0, x1] os = X22 (callF prg n) (n + 1) os.length x0 x1 os := by kernel_rfl
theorem U22 {Q : SV → List SO → Prop} {x0 x1 : SV} {os : List SO} {nl : Nat} (hnl : os.length = nl) (h : Ev (fun n => B22 (callF prg n) (n + 1) nl x0 x1 os) Q) : Ev (fun n => callF prg n 22 [x0, x1] os) Q := by subst hnl; exact ev_fun (fun n => (E22 n _ _ _).trans (X22_s _ _ _ _ _ _)) h
theorem X23_s (K : Nat → List SV → List SO → Out) (N nl : Nat) (x0 x1 : SV) (os : List SO) : X23 K N nl x0 x1 os = B23 K N nl x0 x1 os := by kernel_rfl
theorem E23 (n : Nat) (x0 x1 : SV) (os : List SO) : callF prg (n + 1) 23 [x0, x1] os = X23 (callF prg n) (n + 1) os.length x0 x1 os := by kernel_rfl
theorem U23 {Q : SV → List SO → Prop} {x0 x1 : SV} {os : List SO} {nl : Nat} (hnl : os.length = nl) (h : Ev (fun n => B23 (callF prg n) (n + 1) nl x0 x1 os) Q) : Ev (fun n => callF prg n 23 [x0, x1] os) Q := by subst hnl; exact ev_fun (fun n => (E23 n _ _ _).trans (X23_s _ _ _ _ _ _)) h
theorem L24_2_s (K : Nat → List SV → List SO → Out) (N nl : Nat) (m2 : Nat) (x0 x1 x5 : SV) (os : List SO) : L24_2 K N nl (m2 + 1) x0 x1 x5 os = LB24_2 K N nl m2 x0 x1 x5 os := by kernel_rfl
theorem UL24_2 {nl c : Nat} {Q : SV → List SO → Prop} {x0 x1 x5 : SV} {os : List SO} (h : Ev (fun n => LB24_2 (callF prg n) (n + 1) nl (n + 1 - (c + 1)) x0 x1 x5 os) Q) : Ev (fun n => L24_2 (callF prg n) (n + 1) nl (n + 1 - c) x0 x1 x5 os) Q := ev_loop (L := fun n m => L24_2 (callF prg n) (n + 1) nl m x0 x1 x5 os) (fun n m => L24_2_s _ _ _ _ _ _ _ _) h
theorem VL24_2 {nl : Nat} {Q : SV → List SO → Prop} {x0 x1 x5 : SV} {os : List SO} (h : Ev (fun n => LB24_2 (callF prg n) (n + 1) nl (n + 1 - 1) x0 x1 x5 os) Q) : Ev (fun n => L24_2 (callF prg n) (n + 1) nl (n + 1) x0 x1 x5 os) Q := UL24_2 (c := 0) h
theorem X24_s (K : Nat → List SV → List SO → Out) (N nl : Nat) (x0 x1 : SV) (os : List SO) : X24 K N nl x0 x1 os = B24 K N nl x0 x1 os := by kernel_rfl
theorem E24 (n : Nat) (x0 x1 : SV) (os : List SO) : callF prg (n + 1) 24 [x0, x1] os = X24 (callF prg n) (n + 1) os.length x0 x1 os := by kernel_rfl
theorem U24 {Q : SV → List SO → Prop} {x0 x1 : SV} {os : List SO} {nl : Nat} (hnl : os.length = nl) (h : Ev (fun n => B24 (callF prg n) (n + 1) nl x0 x1 os) Q) : Ev (fun n => callF prg n 24 [x0, x1] os) Q := by subst hnl; exact ev_fun (fun n => (E24 n _ _ _).trans (X24_s _ _ _ _ _ _)) h
theorem L25_2_s (K : Nat → List SV → List SO → Out) (N nl : Nat) (m2 : Nat) (x0 x1 x5 : SV) (os : List SO) : L25_2 K N nl (m2 + 1) x0 x1 x5 os = LB25_2 K N nl m2 x0 x1 x5 os := by kernel_rfl
theorem UL25_2 {nl c : Nat} {Q : SV → List SO → Prop} {x0 x1 x5 : SV} {os : List SO} (h : Ev (fun n => LB25_2 (callF prg n) (n + 1) nl (n + 1 - (c + 1)) x0 x1 x5 os) Q) : Ev (fun n => L25_2 (callF prg n) (n + 1) nl (n + 1 - c) x0 x1 x5 os) Q := ev_loop (L := fun n m => L25_2 (callF prg n) (n + 1) nl m x0 x1 x5 os) (fun n m => L25_2_s _ _ _ _ _ _ _ _) h
theorem VL25_2 {nl : Nat} {Q : SV → List SO → Prop} {x0 x1 x5 : SV} {os : List SO} (h : Ev (fun n => LB25_2 (callF prg n) (n + 1) nl (n + 1 - 1) x0 x1 x5 os) Q) : Ev (fun n => L25_2 (callF prg n) (n + 1) nl (n + 1) x0 x1 x5 os) Q := UL25_2 (c := 0) h
theorem X25_s (K : Nat → List SV → List SO → Out) (N nl : Nat) (x0 x1 : SV) (os : List SO) : X25 K N nl x0 x1 os = B25 K N nl x0 x1 os := by kernel_rfl
theorem E25 (n : Nat) (x0 x1 : SV) (os : List SO) : callF prg (n + 1) 25 [x0, x1] os = X25 (callF prg n) (n + 1) os.length x0 x1 os := by kernel_rfl
theorem U25 {Q : SV → List SO → Prop} {x0 x1 : SV} {os : List SO} {nl : Nat} (hnl : os.length = nl) (h : Ev (fun n => B25 (callF prg n) (n + 1) nl x0 x1 os) Q) : Ev (fun n => callF prg n 25 [x0, x1] os) Q := by subst hnl; exact ev_fun (fun n => (E25 n _ _ _).trans (X25_s _ _ _ _ _ _)) h
theorem L26_2_s (K : Nat → List SV → List SO → Out) (N nl : Nat) (m2 : Nat) (x0 x1 x5 : SV) (os : List SO) : L26_2 K N nl (m2 + 1) x0 x1 x5 os = LB26_2 K N nl m2 x0 x1 x5 os := by kernel_rfl
theorem UL26_2 {nl c : Nat} {Q : SV → List SO → Prop} {x0 x1 x5 : SV} {os : List SO} (h : Ev (fun n => LB26_2 (callF prg n) (n + 1) nl (n + 1 - (c + 1)) x0 x1 x5 os) Q) : Ev (fun n => L26_2 (callF prg n) (n + 1) nl (n + 1 - c) x0 x1 x5 os) Q := ev_loop (L := fun n m => L26_2 (callF prg n) (n + 1) nl m x0 x1 x5 os) (fun n m => L26_2_s _ _ _ _ _ _ _ _) h
theorem X26_s (K : Nat → List SV → List SO → Out) (N nl : Nat) (x0 x1 : SV) (os : List SO) : X26 K N nl x0 x1 os = B26 K N nl x0 x1 os := by kernel_rfl
theorem E26 (n : Nat) (x0 x1 : SV) (os : List SO) : callF prg (n + 1) 26 [x0, x1] os = X26 (callF prg n) (n + 1) os.length x0 x1 os := by kernel_rfl
theorem U26 {Q : SV → List SO → Prop} {x0 x1 : SV} {os : List SO} {nl : Nat} (hnl : os.length = nl) (h : Ev (fun n => B26 (callF prg n) (n + 1) nl x0 x1 os) Q) : Ev (fun n => callF prg n 26 [x0, x1] os) Q := by subst hnl; exact ev_fun (fun n => (E26 n _ _ _).trans (X26_s _ _ _ _ _ _)) h
theorem L27_2_s (K : Nat → List SV → List SO → Out) (N nl : Nat) (m2 : Nat) (x0 x1 x5 : SV) (os : List SO) : L27_2 K N nl (m2 + 1) x0 x1 x5 os = LB27_2 K N nl m2 x0 x1 x5 os := by kernel_rfl
theorem UL27_2 {nl c : Nat} {Q : SV → List SO → Prop} {x0 x1 x5 : SV} {os : List SO} (h : Ev (fun n => LB27_2 (callF prg n) (n + 1) nl (n + 1 - (c + 1)) x0 x1 x5 os) Q) : Ev (fun n => L27_2 (callF prg n) (n + 1) nl (n + 1 - c) x0 x1 x5 os) Q := ev_loop (L := fun n m => L27_2 (callF prg n) (n + 1) nl m x0 x1 x5 os) (fun n m => L27_2_s _ _ _ _ _ _ _ _) h
theorem X27_s (K : Nat → List SV → List SO → Out) (N nl : Nat) (x0 x1 : SV) (os : List SO) : X27 K N nl x0 x1 os = B27 K N nl x0 x1 os := by kernel_rfl
theorem E27 (n : Nat) (x0 x1 : SV) (os : List SO) : callF prg (n + 1) 27 [x0, x1] os = X27 (callF prg n) (n + 1) os.length x0 x1 os := by kernel_rfl
theorem U27 {Q : SV → List SO → Prop} {x0 x1 : SV} {os : List SO} {nl : Nat} (hnl : os.length = nl) (h : Ev (fun n => B27 (callF prg n) (n + 1) nl x0 x1 os) Q) : Ev (fun n => callF prg n 27 [x0, x1] os) Q := by subst hnl; exact ev_fun (fun n => (E27 n _ _ _).trans (X27_s _ _ _ _ _ _)) h
theorem X28_s (K : Nat → List SV → List SO → Out) (N nl : Nat) (x0 x1 : SV) (os : List SO) : X28 K N nl x0 x1 os = B28 K N nl x0 x1 os := by kernel_rfl
theorem E28 (n : Nat) (x0 x1 : SV) (os : List SO) : callF prg (n + 1) 28 [x0, x1] os = X28 (callF prg n) (n + 1) os.length x0 x1 os := by kernel_rfl
theorem U28 {Q : SV → List SO → Prop} {x0 x1 : SV} {os : List SO} {nl : Nat} (hnl : os.length = nl) (h : Ev (fun n => B28 (callF prg n) (n + 1) nl x0 x1 os) Q) : Ev (fun n => callF prg n 28 [x0, x1] os) Q := by subst hnl; exact ev_fun (fun n => (E28 n _ _ _).trans (X28_s _ _ _ _ _ _)) h
theorem X29_s (K : Nat → List SV → List SO → Out) (N nl : Nat) (x0 x1 : SV) (os : List SO) : X29 K N nl x0 x1 os = B29 K N nl x0 x1 os := by kernel_rfl
theorem E29 (n : Nat) (x0 x1 : SV) (os : List SO) : callF prg (n + 1) 29 [x0, x1] os = X29 (callF prg n) (n + 1) os.length x0 x1 os := by kernel_rfl
theorem U29 {Q : SV → List SO → Prop} {x0 x1 : SV} {os : List SO} {nl : Nat} (hnl : os.length = nl) (h : Ev (fun n => B29 (callF prg n) (n + 1) nl x0 x1 os) Q) : Ev (fun n => callF prg n 29 [x0, x1] os) Q := by subst hnl; exact ev_fun (fun n => (E29 n _ _ _).trans (X29_s _ _ _ _ _ _)) h
theorem X30_s (K : Nat → List SV → List SO → Out) (N nl : Nat) (x0 : SV) (os : List SO) : X30 K N nl x0 os = B30 K N nl x0 os := by kernel_rfl
theorem E30 (n : Nat) (x0 : SV) (os : List SO) : callF prg (n + 1) 30 [x0] os = X30 (callF prg n) (n + 1) os.length x0 os := by kernel_rfl
theorem U30 {Q : SV → List SO → Prop} {x0 : SV} {os : List SO} {nl : Nat} (hnl : os.length = nl) (h : Ev (fun n => B30 (callF prg n) (n + 1) nl x0 os) Q) : Ev (fun n => callF prg n 30 [x0] os) Q := by subst hnl; exact ev_fun (fun n => (E30 n _ _).trans (X30_s _ _ _ _ _)) h
theorem X31_s (K : Nat → List SV → List SO → Out) (N nl : Nat) (x0 x1 x2 x3 : SV) (os : List SO) : X31 K N nl x0 x1 x2 x3 os = B31 K N nl x0 x1 x2 x3 os := by kernel_rfl
theorem E31 (n : Nat) (x0 x1 x2 x3 : SV) (os : List SO) : callF prg (n + 1) 31 [x0, x1, x2, x3] os = X31 (callF prg n) (n + 1) os.length x0 x1 x2 x3 os := by kernel_rfl
theorem U31 {Q : SV → List SO → Prop} {x0 x1 x2 x3 : SV} {os : List SO} {nl : Nat} (hnl : os.length = nl) (h : Ev (fun n => B31 (callF prg n) (n + 1) nl x0 x1 x2 x3 os) Q) : Ev (fun n => callF prg n 31 [x0, x1, x2, x3] os) Q := by subst hnl; exact ev_fun (fun n => (E31 n _ _ _ _ _).trans (X31_s _ _ _ _ _ _ _ _)) h
theorem X32_s (K : Nat → List SV → List SO → Out) (N nl : Nat) (x0 x1 : SV) (os : List SO) : X32 K N nl x0 x1 os = B32 K N nl x0 x1 os := by kernel_rfl
theorem E32 (n : Nat) (x0 x1 : SV) (os : List SO) : callF prg (n + 1) 32 [x0, x1] os = X32 (callF prg n) (n + 1) os.length x0 x1 os := by kernel_rfl
theorem U32 {Q : SV → List SO → Prop} {x0 x1 : SV} {os : List SO} {nl : Nat} (hnl : os.length = nl) (h : Ev (fun n => B32 (callF prg n) (n + 1) nl x0 x1 os) Q) : Ev (fun n => callF prg n 32 [x0, x1] os) Q := by subst hnl; exact ev_fun (fun n => (E32 n _ _ _).trans (X32_s _ _ _ _ _ _)) h
theorem X33_s (K : Nat → List SV → List SO → Out) (N nl : Nat) (x0 : SV) (os : List SO) : X33 K N nl x0 os = B33 K N nl x0 os := by kernel_rfl
theorem E33 (n : Nat) (x0 : SV) (os : List SO) : callF prg (n + 1) 33 [x0] os = X33 (callF prg n) (n + 1) os.length x0 os := by kernel_rfl
theorem U33 {Q : SV → List SO → Prop} {x0 : SV} {os : List SO} {nl : Nat} (hnl : os.length = nl) (h : Ev (fun n => B33 (callF prg n) (n + 1) nl x0 os) Q) : Ev (fun n => callF prg n 33 [x0] os) Q := by subst hnl; exact ev_fun (fun n => (E33 n _ _).trans (X33_s _ _ _ _ _)) h
theorem X34_s (K : Nat → List SV → List SO → Out) (N nl : Nat) (x0 x1 x2 : SV) (os : List SO) : X34 K N nl x0 x1 x2 os = B34 K N nl x0 x1 x2 os := by kernel_rfl
theorem E34 (n : Nat) (x0 x1 x2 : SV) (os : List SO) : callF prg (n + 1) 34 [x0, x1, x2] os = X34 (callF prg n) (n + 1) os.length x0 x1 x2 os := by kernel_rfl
theorem U34 {Q : SV → List SO → Prop} {x0 x1 x2 : SV} {os : List SO} {nl : Nat} (hnl : os.length = nl) (h : Ev (fun n => B34 (callF prg n) (n + 1) nl x0 x1 x2 os) Q) : Ev (fun n => callF prg n 34 [x0, x1, x2] os) Q := by subst hnl; exact ev_fun (fun n => (E34 n _ _ _ _).trans (X34_s _ _ _ _ _ _ _)) h
theorem L35_3_s (K : Nat → List SV → List SO → Out) (N nl : Nat) (m3 : Nat) (x0 x3 x4 : SV) (os : List SO) : L35_3 K N nl (m3 + 1) x0 x3 x4 os = LB35_3 K N nl m3 x0 x3 x4 os := by kernel_rfl
theorem UL35_3 {nl c : Nat} {Q : SV → List SO → Prop} {x0 x3 x4 : SV} {os : List SO} (h : Ev (fun n => LB35_3 (callF prg n) (n + 1) nl (n + 1 - (c + 1)) x0 x3 x4 os) Q) : Ev (fun n => L35_3 (callF prg n) (n + 1) nl (n + 1 - c) x0 x3 x4 os) Q := ev_loop (L := fun n m => L35_3 (callF prg n) (n + 1) nl m x0 x3 x4 os) (fun n m => L35_3_s _ _ _ _ _ _ _ _) h
theorem X35_s (K : Nat → List SV → List SO → Out) (N nl : Nat) (x0 : SV) (os : List SO) : X35 K N nl x0 os = B35 K N nl x0 os := by kernel_rfl
theorem E35 (n : Nat) (x0 : SV) (os : List SO) : callF prg (n + 1) 35 [x0] os = X35 (callF prg n) (n + 1) os.length x0 os := by kernel_rfl
theorem U35 {Q : SV → List SO → Prop} {x0 : SV} {os : List SO} {nl : Nat} (hnl : os.length = nl) (h : Ev (fun n => B35 (callF prg n) (n + 1) nl x0 os) Q) : Ev (fun n => callF prg n 35 [x0] os) Q := by subst hnl; exact ev_fun (fun n => (E35 n _ _).trans (X35_s _ _ _ _ _)) h
theorem L36_3_s (K : Nat → List SV → List SO → Out) (N nl : Nat) (m3 : Nat) (x0 x3 x4 : SV) (os : List SO) : L36_3 K N nl (m3 + 1) x0 x3 x4 os = LB36_3 K N nl m3 x0 x3 x4 os := by kernel_rfl
theorem UL36_3 {nl c : Nat} {Q : SV → List SO → Prop} {x0 x3 x4 : SV} {os : List SO} (h : Ev (fun n => LB36_3 (callF prg n) (n + 1) nl (n + 1 - (c + 1)) x0 x3 x4 os) Q) : Ev (fun n => L36_3 (callF prg n) (n + 1) nl (n + 1 - c) x0 x3 x4 os) Q := ev_loop (L := fun n m => L36_3 (callF prg n) (n + 1) nl m x0 x3 x4 os) (fun n m => L36_3_s _ _ _ _ _ _ _ _) h
theorem X36_s (K : Nat → List SV → List SO → Out) (N nl : Nat) (x0 : SV) (os : List SO) : X36 K N nl x0 os = B36 K N nl x0 os := by kernel_rfl
theorem E36 (n : Nat) (x0 : SV) (os : List SO) : callF prg (n + 1) 36 [x0] os = X36 (callF prg n) (n + 1) os.length x0 os := by kernel_rfl
theorem U36 {Q : SV → List SO → Prop} {x0 : SV} {os : List SO} {nl : Nat} (hnl : os.length = nl) (h : Ev (fun n => B36 (callF prg n) (n + 1) nl x0 os) Q) : Ev (fun n => callF prg n 36 [x0] os) Q := by subst hnl; exact ev_fun (fun n => (E36 n _ _).trans (X36_s _ _ _ _ _)) h
theorem L37_4_s (K : Nat → List SV → List SO → Out) (N nl : Nat) (m4 : Nat) (x1 x30 x31 x32 : SV) (os : List SO) : L37_4 K N nl (m4 + 1) x1 x30 x31 x32 os = gcB nl [x1, x30, x31, x32] os fun xs os => G37_4 K N nl m4 xs os := by kernel_rfl
theorem UL37_4 {nl c : Nat} {Q : SV → List SO → Prop} {x1 x30 x31 x32 : SV} {os : List SO} (h : Ev (fun n => gcB nl [x1, x30, x31, x32] os fun xs os => G37_4 (callF prg n) (n + 1) nl (n + 1 - (c + 1)) xs os) Q) : Ev (fun n => L37_4 (callF prg n) (n + 1) nl (n + 1 - c) x1 x30 x31 x32 os) Q := ev_loop (L := fun n m => L37_4 (callF prg n) (n + 1) nl m x1 x30 x31 x32 os) (fun n m => L37_4_s _ _ _ _ _ _ _ _ _) h
theorem VL37_4 {nl : Nat} {Q : SV → List SO → Prop} {x1 x30 x31 x32 : SV} {os : List SO} (h : Ev (fun n => gcB nl [x1, x30, x31, x32] os fun xs os => G37_4 (callF prg n) (n + 1) nl (n + 1 - 1) xs os) Q) : Ev (fun n => L37_4 (callF prg n) (n + 1) nl (n + 1) x1 x30 x31 x32 os) Q := UL37_4 (c := 0) h
theorem G37_4_s (K : Nat → List SV → List SO → Out) (N nl : Nat) (m4 : Nat) (x1 x30 x31 x32 : SV) (os : List SO) : G37_4 K N nl m4 [x1, x30, x31, x32] os = GB37_4 K N nl m4 x1 x30 x31 x32 os := by kernel_rfl
theorem UG37_4 {nl : Nat} {Q : SV → List SO → Prop} (m4 : Nat → Nat) {x1 x30 x31 x32 : SV} {os : List SO} (h : Ev (fun n => GB37_4 (callF prg n) (n + 1) nl (m4 n) x1 x30 x31 x32 os) Q) : Ev (fun n => G37_4 (callF prg n) (n + 1) nl (m4 n) [x1, x30, x31, x32] os) Q := ev_eq (fun n => G37_4_s _ _ _ _ _ _ _ _ _) h
theorem L37_10_s (K : Nat → List SV → List SO → Out) (N nl : Nat) (m10 : Nat) (x1 x65 x66 x67 : SV) (os : List SO) : L37_10 K N nl (m10 + 1) x1 x65 x66 x67 os = gcB nl [x1, x65, x66, x67] os fun xs os => G37_10 K N nl m10 xs os := by kernel_rfl
theorem UL37_10 {nl c : Nat} {Q : SV → List SO → Prop} {x1 x65 x66 x67 : SV} {os : List SO} (h : Ev (fun n => gcB nl [x1, x65, x66, x67] os fun xs os => G37_10 (callF prg n) (n + 1) nl (n + 1 - (c + 1)) xs os) Q) : Ev (fun n => L37_10 (callF prg n) (n + 1) nl (n + 1 - c) x1 x65 x66 x67 os) Q := ev_loop (L := fun n m => L37_10 (callF prg n) (n + 1) nl m x1 x65 x66 x67 os) (fun n m => L37_10_s _ _ _ _ _ _ _ _ _) h
theorem VL37_10 {nl : Nat} {Q : SV → List SO → Prop} {x1 x65 x66 x67 : SV} {os : List SO} (h : Ev (fun n => gcB nl [x1, x65, x66, x67] os fun xs os => G37_10 (callF prg n) (n + 1) nl (n + 1 - 1) xs os) Q) : Ev (fun n => L37_10 (callF prg n) (n + 1) nl (n + 1) x1 x65 x66 x67 os) Q := UL37_10 (c := 0) h
theorem G37_10_s (K : Nat → List SV → List SO → Out) (N nl : Nat) (m10 : Nat) (x1 x65 x66 x67 : SV) (os : List SO) : G37_10 K N nl m10 [x1, x65, x66, x67] os = GB37_10 K N nl m10 x1 x65 x66 x67 os := by kernel_rfl
theorem UG37_10 {nl : Nat} {Q : SV → List SO → Prop} (m10 : Nat → Nat) {x1 x65 x66 x67 : SV} {os : List SO} (h : Ev (fun n => GB37_10 (callF prg n) (n + 1) nl (m10 n) x1 x65 x66 x67 os) Q) : Ev (fun n => G37_10 (callF prg n) (n + 1) nl (m10 n) [x1, x65, x66, x67] os) Q := ev_eq (fun n => G37_10_s _ _ _ _ _ _ _ _ _) h
theorem X37_s (K : Nat → List SV → List SO → Out) (N nl : Nat) (x0 : SV) (os : List SO) : X37 K N nl x0 os = B37 K N nl x0 os := by kernel_rfl
theorem E37 (n : Nat) (x0 : SV) (os : List SO) : callF prg (n + 1) 37 [x0] os = X37 (callF prg n) (n + 1) os.length x0 os := by kernel_rfl
theorem U37 {Q : SV → List SO → Prop} {x0 : SV} {os : List SO} {nl : Nat} (hnl : os.length = nl) (h : Ev (fun n => B37 (callF prg n) (n + 1) nl x0 os) Q) : Ev (fun n => callF prg n 37 [x0] os) Q := by subst hnl; exact ev_fun (fun n => (E37 n _ _).trans (X37_s _ _ _ _ _)) h
theorem X38_s (K : Nat → List SV → List SO → Out) (N nl : Nat) (x0 x1 : SV) (os : List SO) : X38 K N nl x0 x1 os = B38 K N nl x0 x1 os := by kernel_rfl
theorem E38 (n : Nat) (x0 x1 : SV) (os : List SO) : callF prg (n + 1) 38 [x0, x1] os = X38 (callF prg n) (n + 1) os.length x0 x1 os := by kernel_rfl
theorem U38 {Q : SV → List SO → Prop} {x0 x1 : SV} {os : List SO} {nl : Nat} (hnl : os.length = nl) (h : Ev (fun n => B38 (callF prg n) (n + 1) nl x0 x1 os) Q) : Ev (fun n => callF prg n 38 [x0, x1] os) Q := by subst hnl; exact ev_fun (fun n => (E38 n _ _ _).trans (X38_s _ _ _ _ _ _)) h
theorem L39_3_s (K : Nat → List SV → List SO → Out) (N nl : Nat) (m3 : Nat) (x3 x7 x8 x9 : SV) (os : List SO) : L39_3 K N nl (m3 + 1) x3 x7 x8 x9 os = LB39_3 K N nl m3 x3 x7 x8 x9 os := by kernel_rfl
theorem UL39_3 {nl c : Nat} {Q : SV → List SO → Prop} {x3 x7 x8 x9 : SV} {os : List SO} (h : Ev (fun n => LB39_3 (callF prg n) (n + 1) nl (n + 1 - (c + 1)) x3 x7 x8 x9 os) Q) : Ev (fun n => L39_3 (callF prg n) (n + 1) nl (n + 1 - c) x3 x7 x8 x9 os) Q := ev_loop (L := fun n m => L39_3 (callF prg n) (n + 1) nl m x3 x7 x8 x9 os) (fun n m => L39_3_s _ _ _ _ _ _ _ _ _) h
theorem X39_s (K : Nat → List SV → List SO → Out) (N nl : Nat) (x0 : SV) (os : List SO) : X39 K N nl x0 os = B39 K N nl x0 os := by kernel_rfl
theorem E39 (n : Nat) (x0 : SV) (os : List SO) : callF prg (n + 1) 39 [x0] os = X39 (callF prg n) (n + 1) os.length x0 os := by kernel_rfl
theorem U39 {Q : SV → List SO → Prop} {x0 : SV} {os : List SO} {nl : Nat} (hnl : os.length = nl) (h : Ev (fun n => B39 (callF prg n) (n + 1) nl x0 os) Q) : Ev (fun n => callF prg n 39 [x0] os) Q := by subst hnl; exact ev_fun (fun n => (E39 n _ _).trans (X39_s _ _ _ _ _)) h
theorem X41_s (K : Nat → List SV → List SO → Out) (N nl : Nat) (x0 : SV) (os : List SO) : X41 K N nl x0 os = B41 K N nl x0 os := by kernel_rfl
theorem E41 (n : Nat) (x0 : SV) (os : List SO) : callF prg (n + 1) 41 [x0] os = X41 (callF prg n) (n + 1) os.length x0 os := by kernel_rfl
theorem U41 {Q : SV → List SO → Prop} {x0 : SV} {os : List SO} {nl : Nat} (hnl : os.length = nl) (h : Ev (fun n => B41 (callF prg n) (n + 1) nl x0 os) Q) : Ev (fun n => callF prg n 41 [x0] os) Q := by subst hnl; exact ev_fun (fun n => (E41 n _ _).trans (X41_s _ _ _ _ _)) h
theorem X42_s (K : Nat → List SV → List SO → Out) (N nl : Nat) (x0 : SV) (os : List SO) : X42 K N nl x0 os = B42 K N nl x0 os := by kernel_rfl
theorem E42 (n : Nat) (x0 : SV) (os : List SO) : callF prg (n + 1) 42 [x0] os = X42 (callF prg n) (n + 1) os.length x0 os := by kernel_rfl
theorem U42 {Q : SV → List SO → Prop} {x0 : SV} {os : List SO} {nl : Nat} (hnl : os.length = nl) (h : Ev (fun n => B42 (callF prg n) (n + 1) nl x0 os) Q) : Ev (fun n => callF prg n 42 [x0] os) Q := by subst hnl; exact ev_fun (fun n => (E42 n _ _).trans (X42_s _ _ _ _ _)) h
theorem X43_s (K : Nat → List SV → List SO → Out) (N nl : Nat) (x0 x1 x2 : SV) (os : List SO) : X43 K N nl x0 x1 x2 os = B43 K N nl x0 x1 x2 os := by kernel_rfl
theorem E43 (n : Nat) (x0 x1 x2 : SV) (os : List SO) : callF prg (n + 1) 43 [x0, x1, x2] os = X43 (callF prg n) (n + 1) os.length x0 x1 x2 os := by kernel_rfl
theorem U43 {Q : SV → List SO → Prop} {x0 x1 x2 : SV} {os : List SO} {nl : Nat} (hnl : os.length = nl) (h : Ev (fun n => B43 (callF prg n) (n + 1) nl x0 x1 x2 os) Q) : Ev (fun n => callF prg n 43 [x0, x1, x2] os) Q := by subst hnl; exact ev_fun (fun n => (E43 n _ _ _ _).trans (X43_s _ _ _ _ _ _ _)) h
theorem X44_s (K : Nat → List SV → List SO → Out) (N nl : Nat) (x0 x1 : SV) (os : List SO) : X44 K N nl x0 x1 os = B44 K N nl x0 x1 os := by kernel_rfl
theorem E44 (n : Nat) (x0 x1 : SV) (os : List SO) : callF prg (n + 1) 44 [x0, x1] os = X44 (callF prg n) (n + 1) os.length x0 x1 os := by kernel_rfl
theorem U44 {Q : SV → List SO → Prop} {x0 x1 : SV} {os : List SO} {nl : Nat} (hnl : os.length = nl) (h : Ev (fun n => B44 (callF prg n) (n + 1) nl x0 x1 os) Q) : Ev (fun n => callF prg n 44 [x0, x1] os) Q := by subst hnl; exact ev_fun (fun n => (E44 n _ _ _).trans (X44_s _ _ _ _ _ _)) h
theorem L45_4_s (K : Nat → List SV → List SO → Out) (N nl : Nat) (m4 : Nat) (x0 x1 x5 : SV) (os : List SO) : L45_4 K N nl (m4 + 1) x0 x1 x5 os = LB45_4 K N nl m4 x0 x1 x5 os := by kernel_rfl
theorem UL45_4 {nl c : Nat} {Q : SV → List SO → Prop} {x0 x1 x5 : SV} {os : List SO} (h : Ev (fun n => LB45_4 (callF prg n) (n + 1) nl (n + 1 - (c + 1)) x0 x1 x5 os) Q) : Ev (fun n => L45_4 (callF prg n) (n + 1) nl (n + 1 - c) x0 x1 x5 os) Q := ev_loop (L := fun n m => L45_4 (callF prg n) (n + 1) nl m x0 x1 x5 os) (fun n m => L45_4_s _ _ _ _ _ _ _ _) h
theorem X45_s (K : Nat → List SV → List SO → Out) (N nl : Nat) (x0 x1 : SV) (os : List SO) : X45 K N nl x0 x1 os = B45 K N nl x0 x1 os := by kernel_rfl
theorem E45 (n : Nat) (x0 x1 : SV) (os : List SO) : callF prg (n + 1) 45 [x0, x1] os = X45 (callF prg n) (n + 1) os.length x0 x1 os := by kernel_rfl
theorem U45 {Q : SV → List SO → Prop} {x0 x1 : SV} {os : List SO} {nl : Nat} (hnl : os.length = nl) (h : Ev (fun n => B45 (callF prg n) (n + 1) nl x0 x1 os) Q) : Ev (fun n => callF prg n 45 [x0, x1] os) Q := by subst hnl; exact ev_fun (fun n => (E45 n _ _ _).trans (X45_s _ _ _ _ _ _)) h
theorem L46_4_s (K : Nat → List SV → List SO → Out) (N nl : Nat) (m4 : Nat) (x0 x1 x5 : SV) (os : List SO) : L46_4 K N nl (m4 + 1) x0 x1 x5 os = LB46_4 K N nl m4 x0 x1 x5 os := by kernel_rfl
theorem UL46_4 {nl c : Nat} {Q : SV → List SO → Prop} {x0 x1 x5 : SV} {os : List SO} (h : Ev (fun n => LB46_4 (callF prg n) (n + 1) nl (n + 1 - (c + 1)) x0 x1 x5 os) Q) : Ev (fun n => L46_4 (callF prg n) (n + 1) nl (n + 1 - c) x0 x1 x5 os) Q := ev_loop (L := fun n m => L46_4 (callF prg n) (n + 1) nl m x0 x1 x5 os) (fun n m => L46_4_s _ _ _ _ _ _ _ _) h
theorem X46_s (K : Nat → List SV → List SO → Out) (N nl : Nat) (x0 x1 : SV) (os : List SO) : X46 K N nl x0 x1 os = B46 K N nl x0 x1 os := by kernel_rfl
theorem E46 (n : Nat) (x0 x1 : SV) (os : List SO) : callF prg (n + 1) 46 [x0, x1] os = X46 (callF prg n) (n + 1) os.length x0 x1 os := by kernel_rfl
theorem U46 {Q : SV → List SO → Prop} {x0 x1 : SV} {os : List SO} {nl : Nat} (hnl : os.length = nl) (h : Ev (fun n => B46 (callF prg n) (n + 1) nl x0 x1 os) Q) : Ev (fun n => callF prg n 46 [x0, x1] os) Q := by subst hnl; exact ev_fun (fun n => (E46 n _ _ _).trans (X46_s _ _ _ _ _ _)) h
theorem L47_2_s (K : Nat → List SV → List SO → Out) (N nl : Nat) (m2 : Nat) (x0 x3 : SV) (os : List SO) : L47_2 K N nl (m2 + 1) x0 x3 os = LB47_2 K N nl m2 x0 x3 os := by kernel_rfl
theorem UL47_2 {nl c : Nat} {Q : SV → List SO → Prop} {x0 x3 : SV} {os : List SO} (h : Ev (fun n => LB47_2 (callF prg n) (n + 1) nl (n + 1 - (c + 1)) x0 x3 os) Q) : Ev (fun n => L47_2 (callF prg n) (n + 1) nl (n + 1 - c) x0 x3 os) Q := ev_loop (L := fun n m => L47_2 (callF prg n) (n + 1) nl m x0 x3 os) (fun n m => L47_2_s _ _ _ _ _ _ _) h
theorem X47_s (K : Nat → List SV → List SO → Out) (N nl : Nat) (x0 : SV) (os : List SO) : X47 K N nl x0 os = B47 K N nl x0 os := by kernel_rfl
theorem E47 (n : Nat) (x0 : SV) (os : List SO) : callF prg (n + 1) 47 [x0] os = X47 (callF prg n) (n + 1) os.length x0 os := by kernel_rfl
theorem U47 {Q : SV → List SO → Prop} {x0 : SV} {os : List SO} {nl : Nat} (hnl : os.length = nl) (h : Ev (fun n => B47 (callF prg n) (n + 1) nl x0 os) Q) : Ev (fun n => callF prg n 47 [x0] os) Q := by subst hnl; exact ev_fun (fun n => (E47 n _ _).trans (X47_s _ _ _ _ _)) h
theorem L48_2_s (K : Nat → List SV → List SO → Out) (N nl : Nat) (m2 : Nat) (x0 x1 x5 : SV) (os : List SO) : L48_2 K N nl (m2 + 1) x0 x1 x5 os = gcB nl [x0, x1, x5] os fun xs os => G48_2 K N nl m2 xs os := by kernel_rfl
theorem UL48_2 {nl c : Nat} {Q : SV → List SO → Prop} {x0 x1 x5 : SV} {os : List SO} (h : Ev (fun n => gcB nl [x0, x1, x5] os fun xs os => G48_2 (callF prg n) (n + 1) nl (n + 1 - (c + 1)) xs os) Q) : Ev (fun n => L48_2 (callF prg n) (n + 1) nl (n + 1 - c) x0 x1 x5 os) Q := ev_loop (L := fun n m => L48_2 (callF prg n) (n + 1) nl m x0 x1 x5 os) (fun n m => L48_2_s _ _ _ _ _ _ _ _) h
theorem VL48_2 {nl : Nat} {Q : SV → List SO → Prop} {x0 x1 x5 : SV} {os : List SO} (h : Ev (fun n => gcB nl [x0, x1, x5] os fun xs os => G48_2 (callF prg n) (n + 1) nl (n + 1 - 1) xs os) Q) : Ev (fun n => L48_2 (callF prg n) (n + 1) nl (n + 1) x0 x1 x5 os) Q := UL48_2 (c := 0) h
theorem G48_2_s (K : Nat → List SV → List SO → Out) (N nl : Nat) (m2 : Nat) (x0 x1 x5 : SV) (os : List SO) : G48_2 K N nl m2 [x0, x1, x5] os = GB48_2 K N nl m2 x0 x1 x5 os := by kernel_rfl
theorem UG48_2 {nl : Nat} {Q : SV → List SO → Prop} (m2 : Nat → Nat) {x0 x1 x5 : SV} {os : List SO} (h : Ev (fun n => GB48_2 (callF prg n) (n + 1) nl (m2 n) x0 x1 x5 os) Q) : Ev (fun n => G48_2 (callF prg n) (n + 1) nl (m2 n) [x0, x1, x5] os) Q := ev_eq (fun n => G48_2_s _ _ _ _ _ _ _ _) h
theorem X48_s (K : Nat → List SV → List SO → Out) (N nl : Nat) (x0 x1 : SV) (os : List SO) : X48 K N nl x0 x1 os = B48 K N nl x0 x1 os := by kernel_rfl
theorem E48 (n : Nat) (x0 x1 : SV) (os : List SO) : callF prg (n + 1) 48 [x0, x1] os = X48 (callF prg n) (n + 1) os.length x0 x1 os := by kernel_rfl
theorem U48 {Q : SV → List SO → Prop} {x0 x1 : SV} {os : List SO} {nl : Nat} (hnl : os.length = nl) (h : Ev (fun n => B48 (callF prg n) (n + 1) nl x0 x1 os) Q) : Ev (fun n => callF prg n 48 [x0, x1] os) Q := by subst hnl; exact ev_fun (fun n => (E48 n _ _ _).trans (X48_s _ _ _ _ _ _)) h
theorem X49_s (K : Nat → List SV → List SO → Out) (N nl : Nat) (x0 : SV) (os : List SO) : X49 K N nl x0 os = B49 K N nl x0 os := by kernel_rfl
theorem E49 (n : Nat) (x0 : SV) (os : List SO) : callF prg (n + 1) 49 [x0] os = X49 (callF prg n) (n + 1) os.length x0 os := by kernel_rfl
theorem U49 {Q : SV → List SO → Prop} {x0 : SV} {os : List SO} {nl : Nat} (hnl : os.length = nl) (h : Ev (fun n => B49 (callF prg n) (n + 1) nl x0 os) Q) : Ev (fun n => callF prg n 49 [x0] os) Q := by subst hnl; exact ev_fun (fun n => (E49 n _ _).trans (X49_s _ _ _ _ _)) h
theorem X50_s (K : Nat → List SV → List SO → Out) (N nl : Nat) (x0 : SV) (os : List SO) : X50 K N nl x0 os = B50 K N nl x0 os := by kernel_rfl
theorem E50 (n : Nat) (x0 : SV) (os : List SO) : callF prg (n + 1) 50 [x0] os = X50 (callF prg n) (n + 1) os.length x0 os := by kernel_rfl
theorem U50 {Q : SV → List SO → Prop} {x0 : SV} {os : List SO} {nl : Nat} (hnl : os.length = nl) (h : Ev (fun n => B50 (callF prg n) (n + 1) nl x0 os) Q) : Ev (fun n => callF prg n 50 [x0] os) Q := by subst hnl; exact ev_fun (fun n => (E50 n _ _).trans (X50_s _ _ _ _ _)) h
theorem L51_3_s (K : Nat → List SV → List SO → Out) (N nl : Nat) (m3 : Nat) (x3 x6 x7 x8 : SV) (os : List SO) : L51_3 K N nl (m3 + 1) x3 x6 x7 x8 os = LB51_3 K N nl m3 x3 x6 x7 x8 os := by kernel_rfl
theorem UL51_3 {nl c : Nat} {Q : SV → List SO → Prop} {x3 x6 x7 x8 : SV} {os : List SO} (h : Ev (fun n => LB51_3 (callF prg n) (n + 1) nl (n + 1 - (c + 1)) x3 x6 x7 x8 os) Q) : Ev (fun n => L51_3 (callF prg n) (n + 1) nl (n + 1 - c) x3 x6 x7 x8 os) Q := ev_loop (L := fun n m => L51_3 (callF prg n) (n + 1) nl m x3 x6 x7 x8 os) (fun n m => L51_3_s _ _ _ _ _ _ _ _ _) h
theorem VL51_3 {nl : Nat} {Q : SV → List SO → Prop} {x3 x6 x7 x8 : SV} {os : List SO} (h : Ev (fun n => LB51_3 (callF prg n) (n + 1) nl (n + 1 - 1) x3 x6 x7 x8 os) Q) : Ev (fun n => L51_3 (callF prg n) (n + 1) nl (n + 1) x3 x6 x7 x8 os) Q := UL51_3 (c := 0) h
theorem X51_s (K : Nat → List SV → List SO → Out) (N nl : Nat) (x0 : SV) (os : List SO) : X51 K N nl x0 os = B51 K N nl x0 os := by kernel_rfl
theorem E51 (n : Nat) (x0 : SV) (os : List SO) : callF prg (n + 1) 51 [x0] os = X51 (callF prg n) (n + 1) os.length x0 os := by kernel_rfl
theorem U51 {Q : SV → List SO → Prop} {x0 : SV} {os : List SO} {nl : Nat} (hnl : os.length = nl) (h : Ev (fun n => B51 (callF prg n) (n + 1) nl x0 os) Q) : Ev (fun n => callF prg n 51 [x0] os) Q := by subst hnl; exact ev_fun (fun n => (E51 n _ _).trans (X51_s _ _ _ _ _)) h
theorem X52_s (K : Nat → List SV → List SO → Out) (N nl : Nat) (x0 x1 : SV) (os : List SO) : X52 K N nl x0 x1 os = B52 K N nl x0 x1 os := by kernel_rfl
theorem E52 (n : Nat) (x0 x1 : SV) (os : List SO) : callF prg (n + 1) 52 [x0, x1] os = X52 (callF prg n) (n + 1) os.length x0 x1 os := by kernel_rfl
theorem U52 {Q : SV → List SO → Prop} {x0 x1 : SV} {os : List SO} {nl : Nat} (hnl : os.length = nl) (h : Ev (fun n => B52 (callF prg n) (n + 1) nl x0 x1 os) Q) : Ev (fun n => callF prg n 52 [x0, x1] os) Q := by subst hnl; exact ev_fun (fun n => (E52 n _ _ _).trans (X52_s _ _ _ _ _ _)) h
theorem X57_s (K : Nat → List SV → List SO → Out) (N nl : Nat) (x0 x1 : SV) (os : List SO) : X57 K N nl x0 x1 os = B57 K N nl x0 x1 os := by kernel_rfl
theorem E57 (n : Nat) (x0 x1 : SV) (os : List SO) : callF prg (n + 1) 57 [x0, x1] os = X57 (callF prg n) (n + 1) os.length x0 x1 os := by kernel_rfl
theorem U57 {Q : SV → List SO → Prop} {x0 x1 : SV} {os : List SO} {nl : Nat} (hnl : os.length = nl) (h : Ev (fun n => B57 (callF prg n) (n + 1) nl x0 x1 os) Q) : Ev (fun n => callF prg n 57 [x0, x1] os) Q := by subst hnl; exact ev_fun (fun n => (E57 n _ _ _).trans (X57_s _ _ _ _ _ _)) h
theorem X58_s (K : Nat → List SV → List SO → Out) (N nl : Nat) (x0 x1 : SV) (os : List SO) : X58 K N nl x0 x1 os = B58 K N nl x0 x1 os := by kernel_rfl
theorem E58 (n : Nat) (x0 x1 : SV) (os : List SO) : callF prg (n + 1) 58 [x0, x1] os = X58 (callF prg n) (n + 1) os.length x0 x1 os := by kernel_rfl
theorem U58 {Q : SV → List SO → Prop} {x0 x1 : SV} {os : List SO} {nl : Nat} (hnl : os.length = nl) (h : Ev (fun n => B58 (callF prg n) (n + 1) nl x0 x1 os) Q) : Ev (fun n => callF prg n 58 [x0, x1] os) Q := by subst hnl; exact ev_fun (fun n => (E58 n _ _ _).trans (X58_s _ _ _ _ _ _)) h
theorem X59_s (K : Nat → List SV → List SO → Out) (N nl : Nat) (x0 : SV) (os : List SO) : X59 K N nl x0 os = B59 K N nl x0 os := by kernel_rfl
theorem E59 (n : Nat) (x0 : SV) (os : List SO) : callF prg (n + 1) 59 [x0] os = X59 (callF prg n) (n + 1) os.length x0 os := by kernel_rfl
theorem U59 {Q : SV → List SO → Prop} {x0 : SV} {os : List SO} {nl : Nat} (hnl : os.length = nl) (h : Ev (fun n => B59 (callF prg n) (n + 1) nl x0 os) Q) : Ev (fun n => callF prg n 59 [x0] os) Q := by subst hnl; exact ev_fun (fun n => (E59 n _ _).trans (X59_s _ _ _ _ _)) h
end Go.Proofs.YtebaiioejagfoaaDoor
