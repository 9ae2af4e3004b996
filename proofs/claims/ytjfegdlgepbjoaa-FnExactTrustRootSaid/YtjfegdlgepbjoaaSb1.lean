/- The evaluator S: the functions of this seat, read chunk by chunk (1). -/
import Derived.Test.YtjfegdlgepbjoaaTe
import Derived.Test.YtjfegdlgepbjoaaProg
import Derived.KernelRfl
namespace Go.Proofs.Ytjfegdlgepbjoaa
open Go
set_option linter.unusedVariables false
set_option maxRecDepth 100000
def tiL : List (Option TI) :=
 [none,
  some ⟨1, 8, false, [.fn]⟩,
  some ⟨1, 8, false, [.int .i64]⟩,
  some ⟨1, 8, false, [.int .i64]⟩,
  some ⟨1, 1, false, [.bool]⟩,
  some ⟨1, 1, false, [.int .u8]⟩,
  some ⟨1, 1, false, [.int .u8]⟩,
  some ⟨4, 24, true, [.int .i64, .int .i64, .bool, .int .u8]⟩,
  some ⟨4, 24, true, [.int .i64, .int .i64, .bool, .int .u8]⟩,
  some ⟨1, 16, false, [.str]⟩,
  some ⟨1, 16, false, [.str]⟩,
  some ⟨1, 16, false, [.str]⟩,
  some ⟨1, 8, false, [.int .u64]⟩,
  some ⟨2, 24, true, [.str, .int .u64]⟩,
  some ⟨2, 24, true, [.str, .int .u64]⟩,
  some ⟨1, 8, false, [.ptr]⟩,
  some ⟨1, 8, false, [.ptr]⟩,
  some ⟨1, 8, false, [.ptr]⟩,
  some ⟨1, 8, true, [.ptr]⟩,
  some ⟨1, 8, true, [.ptr]⟩,
  none,
  some ⟨1, 4, false, [.int .i32]⟩,
  some ⟨1, 24, false, [.sl 1]⟩,
  some ⟨1, 24, false, [.sl 1]⟩,
  some ⟨3, 40, true, [.int .i64, .sl 1, .int .i64]⟩,
  some ⟨3, 40, true, [.int .i64, .sl 1, .int .i64]⟩,
  some ⟨1, 8, false, [.fn]⟩,
  some ⟨1, 24, false, [.sl 3]⟩,
  some ⟨3, 40, true, [.int .i64, .int .i64, .sl 3]⟩,
  some ⟨3, 40, true, [.int .i64, .int .i64, .sl 3]⟩,
  some ⟨7, 88, true, [.int .i64, .sl 1, .int .i64, .bool, .int .i64, .int .i64, .sl 3]⟩,
  some ⟨7, 88, true, [.int .i64, .sl 1, .int .i64, .bool, .int .i64, .int .i64, .sl 3]⟩,
  none,
  some ⟨1, 8, false, [.fn]⟩,
  some ⟨1, 8, false, [.fn]⟩,
  some ⟨1, 8, false, [.fn]⟩,
  some ⟨1, 8, false, [.fn]⟩,
  some ⟨1, 8, false, [.fn]⟩,
  some ⟨1, 8, false, [.fn]⟩,
  some ⟨3, 40, true, [.int .i64, .sl 1, .int .i64]⟩,
  some ⟨1, 8, false, [.fn]⟩,
  some ⟨1, 8, false, [.fn]⟩,
  some ⟨1, 8, false, [.fn]⟩,
  some ⟨1, 8, false, [.fn]⟩,
  some ⟨1, 8, false, [.fn]⟩,
  some ⟨4, 64, true, [.int .i64, .int .i64, .sl 3, .sl 1]⟩,
  some ⟨4, 64, true, [.int .i64, .int .i64, .sl 3, .sl 1]⟩,
  none,
  some ⟨1, 8, false, [.fn]⟩,
  some ⟨1, 8, false, [.fn]⟩,
  some ⟨1, 8, false, [.fn]⟩,
  some ⟨1, 8, false, [.fn]⟩,
  some ⟨4, 64, true, [.int .i64, .sl 1, .int .i64, .sl 1]⟩,
  some ⟨4, 64, true, [.int .i64, .sl 1, .int .i64, .sl 1]⟩,
  some ⟨1, 8, false, [.fn]⟩,
  some ⟨1, 8, false, [.fn]⟩,
  none,
  some ⟨1, 8, false, [.fn]⟩,
  some ⟨1, 8, false, [.fn]⟩,
  some ⟨1, 8, false, [.fn]⟩,
  some ⟨1, 24, false, [.sl 3]⟩,
  some ⟨3, 40, true, [.int .i64, .int .i64, .sl 3]⟩,
  some ⟨3, 40, true, [.int .i64, .int .i64, .sl 3]⟩,
  some ⟨7, 88, true, [.int .i64, .sl 1, .int .i64, .bool, .int .i64, .int .i64, .sl 3]⟩,
  some ⟨7, 88, true, [.int .i64, .sl 1, .int .i64, .bool, .int .i64, .int .i64, .sl 3]⟩,
  some ⟨4, 64, true, [.int .i64, .int .i64, .sl 3, .sl 1]⟩,
  some ⟨4, 64, true, [.int .i64, .int .i64, .sl 3, .sl 1]⟩,
  some ⟨1, 8, false, [.fn]⟩,
  some ⟨1, 8, false, [.fn]⟩,
  some ⟨1, 8, false, [.fn]⟩,
  some ⟨1, 8, false, [.fn]⟩,
  some ⟨1, 8, false, [.fn]⟩,
  some ⟨1, 8, false, [.fn]⟩,
  some ⟨1, 8, false, [.fn]⟩,
  some ⟨4, 64, true, [.int .i64, .sl 1, .int .i64, .sl 1]⟩,
  some ⟨4, 64, true, [.int .i64, .sl 1, .int .i64, .sl 1]⟩,
  some ⟨1, 8, false, [.fn]⟩,
  some ⟨1, 8, false, [.fn]⟩,
  some ⟨1, 8, false, [.fn]⟩,
  some ⟨1, 8, false, [.fn]⟩,
  some ⟨1, 8, false, [.fn]⟩,
  some ⟨1, 8, false, [.fn]⟩,
  some ⟨1, 8, false, [.ptr]⟩,
  some ⟨1, 8, false, [.fn]⟩,
  some ⟨1, 8, false, [.fn]⟩,
  some ⟨1, 8, false, [.fn]⟩,
  some ⟨1, 8, false, [.fn]⟩,
  some ⟨1, 8, false, [.fn]⟩,
  some ⟨1, 8, false, [.fn]⟩,
  some ⟨1, 8, false, [.fn]⟩,
  some ⟨1, 8, false, [.fn]⟩,
  some ⟨1, 8, false, [.fn]⟩,
  some ⟨1, 24, false, [.sl 4]⟩,
  none,
  some ⟨1, 8, false, [.fn]⟩,
  none,
  some ⟨1, 8, false, [.fn]⟩,
  some ⟨1, 8, false, [.fn]⟩,
  some ⟨1, 8, false, [.fn]⟩,
  some ⟨1, 8, false, [.fn]⟩,
  some ⟨1, 8, false, [.fn]⟩,
  some ⟨1, 8, false, [.fn]⟩,
  some ⟨1, 8, false, [.fn]⟩,
  some ⟨1, 8, false, [.fn]⟩,
  some ⟨1, 8, false, [.fn]⟩,
  some ⟨1, 8, false, [.fn]⟩,
  some ⟨1, 8, false, [.fn]⟩,
  some ⟨1, 8, false, [.fn]⟩,
  some ⟨1, 8, false, [.fn]⟩,
  some ⟨2, 32, true, [.sl 1, .int .i64]⟩,
  some ⟨2, 32, true, [.sl 1, .int .i64]⟩,
  some ⟨3, 24, true, [.int .i64, .int .i64, .int .i64]⟩,
  some ⟨3, 24, true, [.int .i64, .int .i64, .int .i64]⟩,
  some ⟨1, 8, false, [.fn]⟩,
  some ⟨1, 8, false, [.fn]⟩,
  some ⟨1, 8, false, [.fn]⟩,
  some ⟨1, 8, false, [.fn]⟩,
  some ⟨1, 24, false, [.sl 2]⟩,
  some ⟨1, 24, false, [.sl 2]⟩,
  some ⟨4, 64, true, [.int .i64, .int .i64, .sl 2, .sl 2]⟩,
  some ⟨4, 64, true, [.int .i64, .int .i64, .sl 2, .sl 2]⟩,
  some ⟨1, 8, false, [.fn]⟩,
  some ⟨1, 8, false, [.fn]⟩,
  some ⟨1, 8, false, [.fn]⟩,
  some ⟨1, 8, false, [.fn]⟩,
  some ⟨1, 8, false, [.fn]⟩,
  some ⟨1, 8, false, [.fn]⟩,
  some ⟨1, 8, false, [.fn]⟩,
  some ⟨1, 8, false, [.fn]⟩,
  some ⟨1, 8, false, [.fn]⟩,
  some ⟨1, 8, false, [.fn]⟩,
  some ⟨1, 8, false, [.fn]⟩,
  some ⟨1, 8, false, [.fn]⟩,
  some ⟨1, 8, false, [.fn]⟩,
  some ⟨1, 8, false, [.fn]⟩,
  some ⟨1, 8, false, [.fn]⟩,
  some ⟨2, 16, true, [.int .i64, .int .i64]⟩,
  some ⟨2, 16, true, [.int .i64, .int .i64]⟩,
  some ⟨2, 16, true, [.int .i64, .int .i64]⟩,
  some ⟨2, 16, true, [.int .i64, .int .i64]⟩,
  some ⟨1, 8, false, [.fn]⟩,
  some ⟨3, 24, true, [.int .i64, .int .i64, .int .i64]⟩,
  some ⟨1, 8, false, [.fn]⟩,
  some ⟨1, 8, false, [.fn]⟩,
  some ⟨1, 8, false, [.fn]⟩,
  some ⟨4, 40, true, [.ptr, .ptr, .ptr, .str]⟩,
  some ⟨4, 40, true, [.ptr, .ptr, .ptr, .str]⟩,
  some ⟨0, 0, true, []⟩,
  some ⟨0, 0, true, []⟩,
  some ⟨0, 0, true, []⟩,
  some ⟨1, 8, false, [.fn]⟩,
  some ⟨1, 4, false, [.int .u32]⟩,
  some ⟨1, 1, false, [.int .u8]⟩,
  some ⟨1, 1, false, [.int .u8]⟩,
  some ⟨1, 8, false, [.fn]⟩,
  some ⟨1, 8, false, [.ptr]⟩,
  some ⟨1, 4, false, [.int .i32]⟩,
  some ⟨1, 4, false, [.int .i32]⟩,
  some ⟨11, 48, true, [.int .u64, .int .u64, .int .u32, .int .u8, .int .u8, .int .u8, .int .u8, .fn, .ptr, .int .i32, .int .i32]⟩,
  some ⟨11, 48, true, [.int .u64, .int .u64, .int .u32, .int .u8, .int .u8, .int .u8, .int .u8, .fn, .ptr, .int .i32, .int .i32]⟩,
  some ⟨1, 8, false, [.fn]⟩,
  some ⟨1, 8, false, [.fn]⟩,
  some ⟨1, 8, false, [.fn]⟩,
  none]
def ukL : List (Option UK) :=
 [none,
  none,
  some (.int .i64),
  some (.int .i64),
  some (.bool),
  some (.int .u8),
  some (.int .u8),
  some (.struct [(0, 2), (1, 3), (2, 4), (3, 6)]),
  some (.struct [(0, 2), (1, 3), (2, 4), (3, 6)]),
  some (.str),
  some (.str),
  some (.str),
  some (.int .u64),
  some (.struct [(0, 9), (1, 12)]),
  some (.struct [(0, 9), (1, 12)]),
  none,
  none,
  none,
  some (.struct [(0, 17)]),
  some (.struct [(0, 17)]),
  none,
  some (.int .i32),
  some (.slice 5),
  some (.slice 3),
  some (.struct [(0, 3), (1, 23), (2, 3)]),
  some (.struct [(0, 3), (1, 23), (2, 3)]),
  none,
  some (.slice 112),
  some (.struct [(0, 3), (1, 3), (2, 27)]),
  some (.struct [(0, 3), (1, 3), (2, 27)]),
  some (.struct [(0, 25), (3, 4), (4, 29)]),
  some (.struct [(0, 25), (3, 4), (4, 29)]),
  none,
  none,
  none,
  none,
  none,
  none,
  none,
  some (.struct [(0, 3), (1, 23), (2, 3)]),
  none,
  none,
  none,
  none,
  none,
  some (.struct [(0, 29), (3, 23)]),
  some (.struct [(0, 29), (3, 23)]),
  none,
  none,
  none,
  none,
  none,
  some (.struct [(0, 25), (3, 23)]),
  some (.struct [(0, 25), (3, 23)]),
  none,
  none,
  none,
  none,
  none,
  none,
  some (.slice 141),
  some (.struct [(0, 3), (1, 3), (2, 60)]),
  some (.struct [(0, 3), (1, 3), (2, 60)]),
  some (.struct [(0, 39), (3, 4), (4, 62)]),
  some (.struct [(0, 39), (3, 4), (4, 62)]),
  some (.struct [(0, 62), (3, 23)]),
  some (.struct [(0, 62), (3, 23)]),
  none,
  none,
  none,
  none,
  none,
  none,
  none,
  some (.struct [(0, 39), (3, 23)]),
  some (.struct [(0, 39), (3, 23)]),
  none,
  none,
  none,
  none,
  none,
  none,
  none,
  none,
  none,
  none,
  none,
  none,
  none,
  none,
  none,
  none,
  some (.slice 120),
  none,
  none,
  none,
  none,
  none,
  none,
  none,
  none,
  none,
  none,
  none,
  none,
  none,
  none,
  none,
  none,
  some (.struct [(0, 22), (1, 3)]),
  some (.struct [(0, 22), (1, 3)]),
  some (.eqs [(0, 3), (1, 3), (2, 3)]),
  some (.eqs [(0, 3), (1, 3), (2, 3)]),
  none,
  none,
  none,
  none,
  some (.slice 137),
  some (.slice 139),
  some (.struct [(0, 3), (1, 3), (2, 117), (3, 118)]),
  some (.struct [(0, 3), (1, 3), (2, 117), (3, 118)]),
  none,
  none,
  none,
  none,
  none,
  none,
  none,
  none,
  none,
  none,
  none,
  none,
  none,
  none,
  none,
  some (.eqs [(0, 3), (1, 3)]),
  some (.eqs [(0, 3), (1, 3)]),
  some (.eqs [(0, 3), (1, 3)]),
  some (.eqs [(0, 3), (1, 3)]),
  none,
  some (.eqs [(0, 3), (1, 3), (2, 3)]),
  none,
  none,
  none,
  some (.struct [(0, 17), (1, 17), (2, 17), (3, 9)]),
  some (.struct [(0, 17), (1, 17), (2, 17), (3, 9)]),
  some (.array 0 16),
  some (.struct [(0, 147)]),
  some (.struct [(0, 147)]),
  none,
  some (.int .u32),
  some (.int .u8),
  some (.int .u8),
  none,
  none,
  some (.int .i32),
  some (.int .i32),
  some (.struct [(0, 12), (1, 12), (2, 151), (3, 152), (4, 5), (5, 5), (6, 153), (7, 154), (8, 155), (9, 156), (10, 157)]),
  some (.struct [(0, 12), (1, 12), (2, 151), (3, 152), (4, 5), (5, 5), (6, 153), (7, 154), (8, 155), (9, 156), (10, 157)]),
  none,
  none,
  none,
  none]
def tab : Tab := { ti := fun t => (tiL[t]?).getD none, und := fun t => (ukL[t]?).getD none }
def ownF : Nat → Bool := fun f => match f with | 24 => true | 25 => true | 43 => true | 47 => true | 61 => true | 62 => true | 89 => true | 1000065 => true | 1000068 => true | 1000098 => true  | _ => false
abbrev cx (K : Nat → List SV → List SO → Out) : Cx := ⟨tab, ownF, K⟩
/-! ### loop.example/purser/laws.FnTrustNew: function 3 -/
noncomputable def c3 : Code := Try.f3.body.getD .skip
def rs3 : List ResultVar := [.tmp 2]
def fi3 : FnI := { nt := 62, lp := fun i => ⟨false, []⟩, jn := fun i => none, dt := fun i => none }
/-! ### loop.example/purser/laws.FnExactTrustNew: function 4 -/
noncomputable def c4 : Code := Try.f4.body.getD .skip
def rs4 : List ResultVar := [.tmp 2]
def fi4 : FnI := { nt := 96, lp := fun i => ⟨false, []⟩, jn := fun i => none, dt := fun i => none }
/-! ### loop.example/purser/laws.FnTrustLate: function 5 -/
noncomputable def c5 : Code := Try.f5.body.getD .skip
def rs5 : List ResultVar := [.tmp 2]
def fi5 : FnI := { nt := 107, lp := fun i => ⟨false, []⟩, jn := fun i => none, dt := fun i => none }
/-! ### loop.example/purser/laws.FnTrustIndex: function 6 -/
noncomputable def c6 : Code := Try.f6.body.getD .skip
def rs6 : List ResultVar := [.tmp 2]
def fi6 : FnI := { nt := 146, lp := fun i => ⟨false, []⟩, jn := fun i => none, dt := fun i => none }
/-! ### loop.example/purser/laws.FnTrustApart: function 7 -/
noncomputable def c7 : Code := Try.f7.body.getD .skip
def rs7 : List ResultVar := [.tmp 4]
def fi7 : FnI := { nt := 136, lp := fun i => ⟨false, []⟩, jn := fun i => none, dt := fun i => none }
/-! ### loop.example/purser/laws.FnTrustBad: function 8 -/
noncomputable def c8 : Code := Try.f8.body.getD .skip
def rs8 : List ResultVar := [.tmp 4]
def fi8 : FnI := { nt := 130, lp := fun i => ⟨false, []⟩, jn := fun i => none, dt := fun i => none }
/-! ### loop.example/purser/laws.FnTrustRoot: function 9 -/
noncomputable def c9 : Code := Try.f9.body.getD .skip
def rs9 : List ResultVar := [.tmp 2]
def fi9 : FnI := { nt := 104, lp := fun i => ⟨false, []⟩, jn := fun i => none, dt := fun i => none }
/-! ### loop.example/purser/laws.FnTrustChain: function 10 -/
noncomputable def c10 : Code := Try.f10.body.getD .skip
def rs10 : List ResultVar := [.tmp 4]
def fi10 : FnI := { nt := 120, lp := fun i => if i = 12 then ⟨true, [5, 9, 11, 12, 13]⟩ else ⟨false, []⟩, jn := fun i => none, dt := fun i => none }
/-! ### loop.example/purser/laws.FnExactTrustIndex: function 11 -/
noncomputable def c11 : Code := Try.f11.body.getD .skip
def rs11 : List ResultVar := [.tmp 6]
def fi11 : FnI := { nt := 124, lp := fun i => ⟨false, []⟩, jn := fun i => if i = 9 then some [2, 3, 4, 8, 9] else if i = 32 then some [8, 9, 12, 15, 17, 18] else none, dt := fun i => if i = 8 then some (.split 1 9 (.split 3 9 (.split 5 9 (.leaf [0, 1, 2, 3, 4, 5, 6, 7, 8, 9, 10, 11]) (.leaf [0, 1, 2, 3, 4, 9, 5, 6, 7, 8, 10, 11])) (.leaf [0, 1, 2, 4, 9, 3, 5, 6, 7, 8, 10, 11])) (.leaf [0, 2, 4, 9, 1, 3, 5, 6, 7, 8, 10, 11])) else if i = 31 then some (.split 1 9 (.split 3 9 (.split 5 9 (.leaf [0, 1, 2, 3, 4, 5, 6, 7, 8, 9, 10, 11]) (.leaf [0, 1, 2, 3, 4, 9, 5, 6, 7, 8, 10, 11])) (.leaf [0, 1, 2, 4, 9, 3, 5, 6, 7, 8, 10, 11])) (.leaf [0, 2, 4, 9, 1, 3, 5, 6, 7, 8, 10, 11])) else none }
/-! ### loop.example/purser/laws.FnExactTrustRoot: function 12 -/
noncomputable def c12 : Code := Try.f12.body.getD .skip
def rs12 : List ResultVar := [.tmp 4]
def fi12 : FnI := { nt := 119, lp := fun i => ⟨false, []⟩, jn := fun i => if i = 9 then some [2, 3, 6, 7] else if i = 32 then some [6, 7, 10, 13, 15, 16] else none, dt := fun i => if i = 8 then some (.split 1 8 (.split 3 8 (.split 4 8 (.leaf [0, 1, 2, 3, 4, 5, 6, 7, 8, 9, 10]) (.leaf [0, 1, 2, 3, 8, 4, 5, 6, 7, 9, 10])) (.leaf [0, 1, 2, 8, 3, 4, 5, 6, 7, 9, 10])) (.leaf [0, 2, 8, 1, 3, 4, 5, 6, 7, 9, 10])) else if i = 31 then some (.split 1 8 (.split 3 8 (.split 4 8 (.leaf [0, 1, 2, 3, 4, 5, 6, 7, 8, 9, 10]) (.leaf [0, 1, 2, 3, 8, 4, 5, 6, 7, 9, 10])) (.leaf [0, 1, 2, 8, 3, 4, 5, 6, 7, 9, 10])) (.leaf [0, 2, 8, 1, 3, 4, 5, 6, 7, 9, 10])) else none }
/-! ### loop.example/purser/spec.DrawTrustNew: function 13 -/
noncomputable def c13 : Code := Try.f13.body.getD .skip
def rs13 : List ResultVar := [.cell 2 25]
def fi13 : FnI := { nt := 6, lp := fun i => ⟨false, []⟩, jn := fun i => none, dt := fun i => none }
/-! ### loop.example/purser/spec.TrustNew: function 14 -/
noncomputable def c14 : Code := Try.f14.body.getD .skip
def rs14 : List ResultVar := [.cell 2 31, .tmp 3]
def fi14 : FnI := { nt := 11, lp := fun i => ⟨false, []⟩, jn := fun i => none, dt := fun i => none }
/-! ### loop.example/purser/impl.TrustNew: function 15 -/
noncomputable def c15 : Code := Try.f15.body.getD .skip
def rs15 : List ResultVar := [.cell 2 31, .tmp 3]
def fi15 : FnI := { nt := 11, lp := fun i => ⟨false, []⟩, jn := fun i => none, dt := fun i => none }
/-! ### loop.example/purser/laws.luTrust: function 16 -/
noncomputable def c16 : Code := Try.f16.body.getD .skip
def rs16 : List ResultVar := [.tmp 4]
def fi16 : FnI := { nt := 24, lp := fun i => ⟨false, []⟩, jn := fun i => none, dt := fun i => none }
/-! ### loop.example/purser/impl.TrustOk: function 17 -/
noncomputable def c17 : Code := Try.f17.body.getD .skip
def rs17 : List ResultVar := [.tmp 2]
def fi17 : FnI := { nt := 16, lp := fun i => ⟨false, []⟩, jn := fun i => none, dt := fun i => none }
/-! ### loop.example/purser/laws.luRoot: function 18 -/
noncomputable def c18 : Code := Try.f18.body.getD .skip
def rs18 : List ResultVar := [.tmp 4]
def fi18 : FnI := { nt := 24, lp := fun i => ⟨false, []⟩, jn := fun i => none, dt := fun i => none }
/-! ### loop.example/purser/impl.TrustFresh: function 19 -/
noncomputable def c19 : Code := Try.f19.body.getD .skip
def rs19 : List ResultVar := [.tmp 4]
def fi19 : FnI := { nt := 18, lp := fun i => ⟨false, []⟩, jn := fun i => none, dt := fun i => none }
/-! ### loop.example/purser/laws.szRoot: function 20 -/
noncomputable def c20 : Code := Try.f20.body.getD .skip
def rs20 : List ResultVar := [.tmp 4]
def fi20 : FnI := { nt := 12, lp := fun i => ⟨false, []⟩, jn := fun i => none, dt := fun i => none }
/-! ### loop.example/purser/laws.toRoot: function 21 -/
noncomputable def c21 : Code := Try.f21.body.getD .skip
def rs21 : List ResultVar := [.cell 2 25]
def fi21 : FnI := { nt := 15, lp := fun i => ⟨false, []⟩, jn := fun i => none, dt := fun i => none }
/-! ### loop.example/purser/laws.eqTrust: function 22 -/
noncomputable def c22 : Code := Try.f22.body.getD .skip
def rs22 : List ResultVar := [.tmp 4]
def fi22 : FnI := { nt := 22, lp := fun i => ⟨false, []⟩, jn := fun i => none, dt := fun i => none }
/-! ### loop.example/purser/laws.eqRoot: function 23 -/
noncomputable def c23 : Code := Try.f23.body.getD .skip
def rs23 : List ResultVar := [.tmp 4]
def fi23 : FnI := { nt := 21, lp := fun i => ⟨false, []⟩, jn := fun i => none, dt := fun i => none }
/-! ### loop.example/purser/laws.markRoot: function 24 -/
noncomputable def c24 : Code := Try.f24.body.getD .skip
def rs24 : List ResultVar := [.tmp 4]
def fi24 : FnI := { nt := 10, lp := fun i => ⟨false, []⟩, jn := fun i => none, dt := fun i => none }
/-! ### loop.example/purser/laws.markTrust: function 25 -/
noncomputable def c25 : Code := Try.f25.body.getD .skip
def rs25 : List ResultVar := [.tmp 4]
def fi25 : FnI := { nt := 14, lp := fun i => ⟨false, []⟩, jn := fun i => none, dt := fun i => none }
/-! ### loop.example/purser/laws.heldTrust: function 26 -/
noncomputable def c26 : Code := Try.f26.body.getD .skip
def rs26 : List ResultVar := [.tmp 4]
def fi26 : FnI := { nt := 18, lp := fun i => ⟨false, []⟩, jn := fun i => none, dt := fun i => none }
/-! ### loop.example/purser/spec.DrawTrustIndex: function 27 -/
noncomputable def c27 : Code := Try.f27.body.getD .skip
def rs27 : List ResultVar := [.cell 2 31, .cell 3 46, .tmp 4]
def fi27 : FnI := { nt := 60, lp := fun i => ⟨false, []⟩, jn := fun i => if i = 4 then some [2, 3, 5, 6, 8] else if i = 7 then some [2, 3, 5, 6, 8, 10] else none, dt := fun i => if i = 3 then some (.split 5 21 (.split 8 21 (.split 13 21 (.split 16 21 (.split 17 21 (.leaf [0, 1, 2, 3, 4, 5, 6, 7, 8, 9, 10, 11, 12, 13, 14, 15, 16, 17, 18, 19, 20, 21, 22, 23]) (.leaf [0, 1, 2, 3, 4, 5, 6, 7, 8, 9, 10, 11, 12, 13, 14, 15, 16, 21, 17, 18, 19, 20, 22, 23])) (.leaf [0, 1, 2, 3, 4, 5, 6, 7, 8, 9, 10, 11, 12, 13, 14, 15, 21, 16, 17, 18, 19, 20, 22, 23])) (.leaf [0, 1, 2, 3, 4, 5, 6, 7, 8, 9, 10, 11, 12, 15, 21, 13, 14, 16, 17, 18, 19, 20, 22, 23])) (.leaf [0, 1, 2, 3, 4, 5, 6, 7, 12, 15, 21, 8, 9, 10, 11, 13, 14, 16, 17, 18, 19, 20, 22, 23])) (.leaf [0, 1, 2, 3, 4, 7, 12, 15, 21, 5, 6, 8, 9, 10, 11, 13, 14, 16, 17, 18, 19, 20, 22, 23])) else if i = 7 then some (.split 3 5 (.leaf [0, 1, 2, 3, 4, 5, 6, 7, 8, 9, 10, 11, 12, 13]) (.split 3 7 (.leaf [0, 1, 2, 4, 5, 3, 6, 7, 8, 9, 10, 11, 12, 13]) (.split 1 11 (.split 3 11 (.leaf [0, 1, 2, 4, 5, 6, 7, 3, 8, 9, 10, 11, 12, 13]) (.leaf [0, 1, 2, 4, 5, 6, 7, 8, 9, 10, 11, 3, 12, 13])) (.leaf [0, 2, 4, 5, 6, 7, 8, 9, 10, 11, 1, 3, 12, 13])))) else none }
/-! ### loop.example/purser/spec.TrustIndex: function 28 -/
noncomputable def c28 : Code := Try.f28.body.getD .skip
def rs28 : List ResultVar := [.cell 6 31, .tmp 7]
def fi28 : FnI := { nt := 24, lp := fun i => ⟨false, []⟩, jn := fun i => none, dt := fun i => none }
/-! ### loop.example/purser/impl.TrustIndex: function 29 -/
noncomputable def c29 : Code := Try.f29.body.getD .skip
def rs29 : List ResultVar := [.cell 6 31, .tmp 7]
def fi29 : FnI := { nt := 58, lp := fun i => ⟨false, []⟩, jn := fun i => none, dt := fun i => none }
/-! ### loop.example/purser/spec.TrustOk: function 30 -/
noncomputable def c30 : Code := Try.f30.body.getD .skip
def rs30 : List ResultVar := [.tmp 2]
def fi30 : FnI := { nt := 29, lp := fun i => ⟨false, []⟩, jn := fun i => none, dt := fun i => none }
/-! ### loop.example/purser/impl.RootSigned: function 31 -/
noncomputable def c31 : Code := Try.f31.body.getD .skip
def rs31 : List ResultVar := [.tmp 4]
def fi31 : FnI := { nt := 20, lp := fun i => ⟨false, []⟩, jn := fun i => none, dt := fun i => none }
/-! ### loop.example/purser/laws.luIndex: function 32 -/
noncomputable def c32 : Code := Try.f32.body.getD .skip
def rs32 : List ResultVar := [.tmp 4]
def fi32 : FnI := { nt := 24, lp := fun i => ⟨false, []⟩, jn := fun i => none, dt := fun i => none }
/-! ### loop.example/purser/impl.TrustRoot: function 33 -/
noncomputable def c33 : Code := Try.f33.body.getD .skip
def rs33 : List ResultVar := [.cell 4 31, .tmp 5]
def fi33 : FnI := { nt := 24, lp := fun i => ⟨false, []⟩, jn := fun i => none, dt := fun i => none }
/-! ### loop.example/purser/spec.DrawTrustRoot: function 34 -/
noncomputable def c34 : Code := Try.f34.body.getD .skip
def rs34 : List ResultVar := [.cell 2 31, .cell 3 53]
def fi34 : FnI := { nt := 46, lp := fun i => ⟨false, []⟩, jn := fun i => if i = 8 then some [2, 3, 5, 7, 8] else none, dt := fun i => if i = 8 then some (.split 1 4 (.split 3 4 (.leaf [0, 1, 2, 3, 4, 5]) (.leaf [0, 1, 2, 4, 3, 5])) (.leaf [0, 2, 4, 1, 3, 5])) else none }
/-! ### loop.example/purser/spec.TrustRoot: function 35 -/
noncomputable def c35 : Code := Try.f35.body.getD .skip
def rs35 : List ResultVar := [.cell 4 31, .tmp 5]
def fi35 : FnI := { nt := 16, lp := fun i => ⟨false, []⟩, jn := fun i => none, dt := fun i => none }
/-! ### loop.example/purser/impl.RootNext: function 36 -/
noncomputable def c36 : Code := Try.f36.body.getD .skip
def rs36 : List ResultVar := [.tmp 4]
def fi36 : FnI := { nt := 25, lp := fun i => ⟨false, []⟩, jn := fun i => none, dt := fun i => none }
/-! ### loop.example/purser/impl.RootOk: function 37 -/
noncomputable def c37 : Code := Try.f37.body.getD .skip
def rs37 : List ResultVar := [.tmp 2]
def fi37 : FnI := { nt := 19, lp := fun i => ⟨false, []⟩, jn := fun i => none, dt := fun i => none }
/-! ### loop.example/purser/laws.szTrust: function 38 -/
noncomputable def c38 : Code := Try.f38.body.getD .skip
def rs38 : List ResultVar := [.tmp 4]
def fi38 : FnI := { nt := 18, lp := fun i => ⟨false, []⟩, jn := fun i => none, dt := fun i => none }
/-! ### loop.example/purser/laws.szSigIndex: function 39 -/
noncomputable def c39 : Code := Try.f39.body.getD .skip
def rs39 : List ResultVar := [.tmp 4]
def fi39 : FnI := { nt := 18, lp := fun i => ⟨false, []⟩, jn := fun i => none, dt := fun i => none }
/-! ### loop.example/purser/laws.toTrust: function 40 -/
noncomputable def c40 : Code := Try.f40.body.getD .skip
def rs40 : List ResultVar := [.cell 2 31]
def fi40 : FnI := { nt := 16, lp := fun i => ⟨false, []⟩, jn := fun i => none, dt := fun i => none }
/-! ### loop.example/purser/laws.toSigIndex: function 41 -/
noncomputable def c41 : Code := Try.f41.body.getD .skip
def rs41 : List ResultVar := [.cell 2 46]
def fi41 : FnI := { nt := 13, lp := fun i => ⟨false, []⟩, jn := fun i => none, dt := fun i => none }
/-! ### loop.example/purser/laws.eqSigIndex: function 42 -/
noncomputable def c42 : Code := Try.f42.body.getD .skip
def rs42 : List ResultVar := [.tmp 4]
def fi42 : FnI := { nt := 17, lp := fun i => ⟨false, []⟩, jn := fun i => none, dt := fun i => none }
/-! ### loop.example/purser/laws.markSigIndex: function 43 -/
noncomputable def c43 : Code := Try.f43.body.getD .skip
def rs43 : List ResultVar := [.tmp 4]
def fi43 : FnI := { nt := 14, lp := fun i => ⟨false, []⟩, jn := fun i => none, dt := fun i => none }
/-! ### loop.example/purser/laws.szSigRoot: function 44 -/
noncomputable def c44 : Code := Try.f44.body.getD .skip
def rs44 : List ResultVar := [.tmp 4]
def fi44 : FnI := { nt := 18, lp := fun i => ⟨false, []⟩, jn := fun i => none, dt := fun i => none }
/-! ### loop.example/purser/laws.toSigRoot: function 45 -/
noncomputable def c45 : Code := Try.f45.body.getD .skip
def rs45 : List ResultVar := [.cell 2 53]
def fi45 : FnI := { nt := 13, lp := fun i => ⟨false, []⟩, jn := fun i => none, dt := fun i => none }
/-! ### loop.example/purser/laws.eqSigRoot: function 46 -/
noncomputable def c46 : Code := Try.f46.body.getD .skip
def rs46 : List ResultVar := [.tmp 4]
def fi46 : FnI := { nt := 17, lp := fun i => ⟨false, []⟩, jn := fun i => none, dt := fun i => none }
/-! ### loop.example/purser/laws.markSigRoot: function 47 -/
noncomputable def c47 : Code := Try.f47.body.getD .skip
def rs47 : List ResultVar := [.tmp 4]
def fi47 : FnI := { nt := 14, lp := fun i => ⟨false, []⟩, jn := fun i => none, dt := fun i => none }
/-! ### loop.example/purser/spec.l71Root: function 48 -/
noncomputable def c48 : Code := Try.f48.body.getD .skip
def rs48 : List ResultVar := [.cell 2 25]
def fi48 : FnI := { nt := 46, lp := fun i => ⟨false, []⟩, jn := fun i => if i = 4 then some [0, 2, 3] else if i = 10 then some [2, 4] else none, dt := fun i => none }
/-! ### loop.example/purser/spec.l6Open: function 49 -/
noncomputable def c49 : Code := Try.f49.body.getD .skip
def rs49 : List ResultVar := [.tmp 2]
def fi49 : FnI := { nt := 11, lp := fun i => ⟨false, []⟩, jn := fun i => if i = 3 then some [0] else none, dt := fun i => none }
/-! ### loop.example/purser/spec.RootOk: function 50 -/
noncomputable def c50 : Code := Try.f50.body.getD .skip
def rs50 : List ResultVar := [.tmp 2]
def fi50 : FnI := { nt := 19, lp := fun i => ⟨false, []⟩, jn := fun i => none, dt := fun i => none }
/-! ### loop.example/purser/spec.l11RootCopy: function 51 -/
noncomputable def c51 : Code := Try.f51.body.getD .skip
def rs51 : List ResultVar := [.cell 2 25]
def fi51 : FnI := { nt := 9, lp := fun i => ⟨false, []⟩, jn := fun i => none, dt := fun i => none }
/-! ### (loop.example/purser/impl.Root).copied: function 52 -/
noncomputable def c52 : Code := Try.f52.body.getD .skip
def rs52 : List ResultVar := [.cell 2 25]
def fi52 : FnI := { nt := 11, lp := fun i => ⟨false, []⟩, jn := fun i => none, dt := fun i => none }
/-! ### loop.example/purser/impl.IndexOk: function 53 -/
noncomputable def c53 : Code := Try.f53.body.getD .skip
def rs53 : List ResultVar := [.tmp 2]
def fi53 : FnI := { nt := 82, lp := fun i => if i = 2 then ⟨true, [1, 6, 7, 8]⟩ else ⟨false, []⟩, jn := fun i => none, dt := fun i => none }
/-! ### (loop.example/purser/impl.Index).same: function 54 -/
noncomputable def c54 : Code := Try.f54.body.getD .skip
def rs54 : List ResultVar := [.tmp 4]
def fi54 : FnI := { nt := 24, lp := fun i => ⟨false, []⟩, jn := fun i => none, dt := fun i => none }
/-! ### loop.example/purser/laws.luInts: function 55 -/
noncomputable def c55 : Code := Try.f55.body.getD .skip
def rs55 : List ResultVar := [.tmp 4]
def fi55 : FnI := { nt := 26, lp := fun i => if i = 4 then ⟨false, [0, 1, 5]⟩ else ⟨false, []⟩, jn := fun i => none, dt := fun i => none }
/-! ### loop.example/purser/impl.in: function 56 -/
noncomputable def c56 : Code := Try.f56.body.getD .skip
def rs56 : List ResultVar := [.tmp 6]
def fi56 : FnI := { nt := 15, lp := fun i => ⟨false, []⟩, jn := fun i => none, dt := fun i => none }
/-! ### loop.example/purser/laws.szIntS: function 57 -/
noncomputable def c57 : Code := Try.f57.body.getD .skip
def rs57 : List ResultVar := [.tmp 4]
def fi57 : FnI := { nt := 12, lp := fun i => ⟨false, []⟩, jn := fun i => none, dt := fun i => none }
/-! ### loop.example/purser/laws.toIntS: function 58 -/
noncomputable def c58 : Code := Try.f58.body.getD .skip
def rs58 : List ResultVar := [.tmp 2]
def fi58 : FnI := { nt := 22, lp := fun i => if i = 3 then ⟨false, [0, 3, 4]⟩ else ⟨false, []⟩, jn := fun i => none, dt := fun i => none }
/-! ### loop.example/purser/laws.eqIndex: function 59 -/
noncomputable def c59 : Code := Try.f59.body.getD .skip
def rs59 : List ResultVar := [.tmp 4]
def fi59 : FnI := { nt := 21, lp := fun i => ⟨false, []⟩, jn := fun i => none, dt := fun i => none }
/-! ### loop.example/purser/laws.eqIntS: function 60 -/
noncomputable def c60 : Code := Try.f60.body.getD .skip
def rs60 : List ResultVar := [.tmp 4]
def fi60 : FnI := { nt := 26, lp := fun i => if i = 4 then ⟨false, [0, 1, 5]⟩ else ⟨false, []⟩, jn := fun i => none, dt := fun i => none }
/-! ### loop.example/purser/laws.markIntS: function 61 -/
noncomputable def c61 : Code := Try.f61.body.getD .skip
def rs61 : List ResultVar := [.tmp 4]
def fi61 : FnI := { nt := 19, lp := fun i => if i = 2 then ⟨false, [0, 1, 5]⟩ else ⟨false, []⟩, jn := fun i => none, dt := fun i => none }
/-! ### loop.example/purser/laws.markIndex: function 62 -/
noncomputable def c62 : Code := Try.f62.body.getD .skip
def rs62 : List ResultVar := [.tmp 4]
def fi62 : FnI := { nt := 10, lp := fun i => ⟨false, []⟩, jn := fun i => none, dt := fun i => none }
/-! ### loop.example/purser/laws.heldRoot: function 63 -/
noncomputable def c63 : Code := Try.f63.body.getD .skip
def rs63 : List ResultVar := [.tmp 4]
def fi63 : FnI := { nt := 12, lp := fun i => ⟨false, []⟩, jn := fun i => none, dt := fun i => none }
/-! ### loop.example/purser/laws.heldIndex: function 64 -/
noncomputable def c64 : Code := Try.f64.body.getD .skip
def rs64 : List ResultVar := [.tmp 4]
def fi64 : FnI := { nt := 12, lp := fun i => ⟨false, []⟩, jn := fun i => none, dt := fun i => none }
/-! ### loop.example/purser/spec.l71Trust: function 65 -/
noncomputable def c65 : Code := Try.f65.body.getD .skip
def rs65 : List ResultVar := [.cell 2 31, .tmp 3]
def fi65 : FnI := { nt := 41, lp := fun i => ⟨false, []⟩, jn := fun i => if i = 6 then some [0, 2, 4, 5] else if i = 11 then some [2, 4, 5] else none, dt := fun i => none }
/-! ### loop.example/purser/spec.IndexOf: function 66 -/
noncomputable def c66 : Code := Try.f66.body.getD .skip
def rs66 : List ResultVar := [.cell 6 29, .tmp 7]
def fi66 : FnI := { nt := 51, lp := fun i => if i = 5 then ⟨true, [2, 6, 8, 9]⟩ else ⟨false, []⟩, jn := fun i => if i = 6 then some [2, 6, 8, 9] else none, dt := fun i => if i = 7 then some (.split 4 16 (.split 9 16 (.leaf [0, 1, 2, 3, 4, 5, 6, 7, 8, 9, 10, 11, 12, 13, 14, 15, 16, 17, 18, 19, 20, 21, 22]) (.split 9 17 (.leaf [0, 1, 2, 3, 4, 5, 6, 7, 8, 12, 13, 14, 15, 16, 9, 10, 11, 17, 18, 19, 20, 21, 22]) (.leaf [0, 1, 2, 3, 4, 5, 6, 7, 8, 12, 13, 14, 15, 16, 17, 9, 10, 11, 18, 19, 20, 21, 22]))) (.split 9 16 (.split 4 17 (.leaf [0, 1, 2, 3, 7, 8, 9, 10, 11, 12, 13, 14, 15, 16, 4, 5, 6, 17, 18, 19, 20, 21, 22]) (.leaf [0, 1, 2, 3, 7, 8, 9, 10, 11, 12, 13, 14, 15, 16, 17, 4, 5, 6, 18, 19, 20, 21, 22])) (.split 4 17 (.split 9 17 (.leaf [0, 1, 2, 3, 7, 8, 12, 13, 14, 15, 16, 4, 5, 6, 9, 10, 11, 17, 18, 19, 20, 21, 22]) (.leaf [0, 1, 2, 3, 7, 8, 12, 13, 14, 15, 16, 4, 5, 6, 17, 9, 10, 11, 18, 19, 20, 21, 22])) (.split 9 17 (.leaf [0, 1, 2, 3, 7, 8, 12, 13, 14, 15, 16, 9, 10, 11, 17, 4, 5, 6, 18, 19, 20, 21, 22]) (.leaf [0, 1, 2, 3, 7, 8, 12, 13, 14, 15, 16, 17, 4, 5, 6, 9, 10, 11, 18, 19, 20, 21, 22]))))) else none }
/-! ### (*loop.example/purser/spec.l6Rd).pick: function 67 -/
noncomputable def c67 : Code := Try.f67.body.getD .skip
def rs67 : List ResultVar := [.tmp 4]
def fi67 : FnI := { nt := 99, lp := fun i => ⟨false, []⟩, jn := fun i => none, dt := fun i => none }
/-! ### loop.example/purser/spec.l71Pkgs: function 68 -/
noncomputable def c68 : Code := Try.f68.body.getD .skip
def rs68 : List ResultVar := [.tmp 2]
def fi68 : FnI := { nt := 32, lp := fun i => if i = 3 then ⟨true, [0, 3, 4]⟩ else ⟨false, []⟩, jn := fun i => if i = 4 then some [0, 3, 4] else none, dt := fun i => none }
/-! ### loop.example/purser/spec.l71Keys: function 69 -/
noncomputable def c69 : Code := Try.f69.body.getD .skip
def rs69 : List ResultVar := [.tmp 2]
def fi69 : FnI := { nt := 29, lp := fun i => if i = 3 then ⟨true, [0, 3, 4]⟩ else ⟨false, []⟩, jn := fun i => if i = 4 then some [0, 3, 4] else if i = 9 then some [3] else none, dt := fun i => none }
/-! ### loop.example/purser/spec.l6In: function 70 -/
noncomputable def c70 : Code := Try.f70.body.getD .skip
def rs70 : List ResultVar := [.tmp 6]
def fi70 : FnI := { nt := 15, lp := fun i => ⟨false, []⟩, jn := fun i => none, dt := fun i => none }
/-! ### loop.example/purser/spec.l11Index: function 71 -/
noncomputable def c71 : Code := Try.f71.body.getD .skip
def rs71 : List ResultVar := [.cell 6 31, .tmp 7]
def fi71 : FnI := { nt := 47, lp := fun i => ⟨false, []⟩, jn := fun i => none, dt := fun i => none }
/-! ### loop.example/purser/spec.l11Copy: function 72 -/
noncomputable def c72 : Code := Try.f72.body.getD .skip
def rs72 : List ResultVar := [.cell 2 31]
def fi72 : FnI := { nt := 12, lp := fun i => ⟨false, []⟩, jn := fun i => none, dt := fun i => none }
/-! ### (loop.example/purser/impl.Trust).copied: function 73 -/
noncomputable def c73 : Code := Try.f73.body.getD .skip
def rs73 : List ResultVar := [.cell 2 31]
def fi73 : FnI := { nt := 12, lp := fun i => ⟨false, []⟩, jn := fun i => none, dt := fun i => none }
/-! ### (loop.example/purser/impl.Index).copied: function 74 -/
noncomputable def c74 : Code := Try.f74.body.getD .skip
def rs74 : List ResultVar := [.cell 2 29]
def fi74 : FnI := { nt := 11, lp := fun i => ⟨false, []⟩, jn := fun i => none, dt := fun i => none }
/-! ### loop.example/purser/spec.IndexOk: function 75 -/
noncomputable def c75 : Code := Try.f75.body.getD .skip
def rs75 : List ResultVar := [.tmp 2]
def fi75 : FnI := { nt := 73, lp := fun i => if i = 4 then ⟨true, [1, 3]⟩ else ⟨false, []⟩, jn := fun i => none, dt := fun i => none }
/-! ### loop.example/purser/impl.KeysOk: function 76 -/
noncomputable def c76 : Code := Try.f76.body.getD .skip
def rs76 : List ResultVar := [.tmp 2]
def fi76 : FnI := { nt := 29, lp := fun i => if i = 2 then ⟨false, [0, 5, 6, 7]⟩ else ⟨false, []⟩, jn := fun i => none, dt := fun i => none }
/-! ### loop.example/purser/impl.KeysBoth: function 77 -/
noncomputable def c77 : Code := Try.f77.body.getD .skip
def rs77 : List ResultVar := [.tmp 4]
def fi77 : FnI := { nt := 29, lp := fun i => if i = 5 then ⟨false, [1, 5, 16, 17, 18]⟩ else ⟨false, []⟩, jn := fun i => if i = 9 then some [1, 5, 16, 17, 18] else none, dt := fun i => none }
/-! ### loop.example/purser/laws.luMetas: function 78 -/
noncomputable def c78 : Code := Try.f78.body.getD .skip
def rs78 : List ResultVar := [.tmp 4]
def fi78 : FnI := { nt := 26, lp := fun i => if i = 4 then ⟨false, [0, 1, 5]⟩ else ⟨false, []⟩, jn := fun i => none, dt := fun i => none }
/-! ### loop.example/purser/spec.l31Union: function 79 -/
noncomputable def c79 : Code := Try.f79.body.getD .skip
def rs79 : List ResultVar := [.tmp 4]
def fi79 : FnI := { nt := 27, lp := fun i => if i = 3 then ⟨true, [0, 1, 5, 6]⟩ else ⟨false, []⟩, jn := fun i => if i = 4 then some [0, 1, 5, 6] else none, dt := fun i => none }
/-! ### loop.example/purser/spec.l11Root: function 80 -/
noncomputable def c80 : Code := Try.f80.body.getD .skip
def rs80 : List ResultVar := [.cell 4 31, .tmp 5]
def fi80 : FnI := { nt := 17, lp := fun i => ⟨false, []⟩, jn := fun i => none, dt := fun i => none }
/-! ### loop.example/purser/laws.szIndex: function 81 -/
noncomputable def c81 : Code := Try.f81.body.getD .skip
def rs81 : List ResultVar := [.tmp 4]
def fi81 : FnI := { nt := 12, lp := fun i => ⟨false, []⟩, jn := fun i => none, dt := fun i => none }
/-! ### loop.example/purser/laws.toIndex: function 82 -/
noncomputable def c82 : Code := Try.f82.body.getD .skip
def rs82 : List ResultVar := [.cell 2 29]
def fi82 : FnI := { nt := 15, lp := fun i => ⟨false, []⟩, jn := fun i => none, dt := fun i => none }
/-! ### loop.example/purser/spec.KeysOk: function 83 -/
noncomputable def c83 : Code := Try.f83.body.getD .skip
def rs83 : List ResultVar := [.tmp 2]
def fi83 : FnI := { nt := 32, lp := fun i => if i = 2 then ⟨false, [0, 3]⟩ else ⟨false, []⟩, jn := fun i => none, dt := fun i => none }
/-! ### slices.Clone[[]int,int]: function 84 -/
noncomputable def c84 : Code := Try.f84.body.getD .skip
def rs84 : List ResultVar := [.tmp 2]
def fi84 : FnI := { nt := 8, lp := fun i => ⟨false, []⟩, jn := fun i => none, dt := fun i => none }
/-! ### loop.example/purser/impl.isName: function 85 -/
noncomputable def c85 : Code := Try.f85.body.getD .skip
def rs85 : List ResultVar := [.tmp 2]
def fi85 : FnI := { nt := 5, lp := fun i => ⟨false, []⟩, jn := fun i => none, dt := fun i => none }
/-! ### loop.example/purser/impl.isVer: function 86 -/
noncomputable def c86 : Code := Try.f86.body.getD .skip
def rs86 : List ResultVar := [.tmp 2]
def fi86 : FnI := { nt := 5, lp := fun i => ⟨false, []⟩, jn := fun i => none, dt := fun i => none }
/-! ### slices.Equal[[]loop.example/purser/impl.Meta,loop.example/purser/impl.Meta]: function 87 -/
noncomputable def c87 : Code := Try.f87.body.getD .skip
def rs87 : List ResultVar := [.tmp 4]
def fi87 : FnI := { nt := 26, lp := fun i => if i = 4 then ⟨false, [0, 1, 12, 13]⟩ else ⟨false, []⟩, jn := fun i => none, dt := fun i => none }
/-! ### loop.example/purser/laws.eqMetaS: function 88 -/
noncomputable def c88 : Code := Try.f88.body.getD .skip
def rs88 : List ResultVar := [.tmp 4]
def fi88 : FnI := { nt := 27, lp := fun i => if i = 4 then ⟨false, [0, 1, 5]⟩ else ⟨false, []⟩, jn := fun i => none, dt := fun i => none }
/-! ### loop.example/purser/laws.markMetaS: function 89 -/
noncomputable def c89 : Code := Try.f89.body.getD .skip
def rs89 : List ResultVar := [.tmp 4]
def fi89 : FnI := { nt := 34, lp := fun i => if i = 2 then ⟨false, [0, 1, 5]⟩ else ⟨false, []⟩, jn := fun i => none, dt := fun i => none }
/-! ### loop.example/purser/laws.heldIntS: function 90 -/
noncomputable def c90 : Code := Try.f90.body.getD .skip
def rs90 : List ResultVar := [.tmp 4]
def fi90 : FnI := { nt := 21, lp := fun i => if i = 2 then ⟨false, [0, 1, 5]⟩ else ⟨false, []⟩, jn := fun i => none, dt := fun i => none }
/-! ### loop.example/purser/laws.heldMetaS: function 91 -/
noncomputable def c91 : Code := Try.f91.body.getD .skip
def rs91 : List ResultVar := [.tmp 4]
def fi91 : FnI := { nt := 40, lp := fun i => if i = 2 then ⟨false, [0, 1, 5]⟩ else ⟨false, []⟩, jn := fun i => none, dt := fun i => none }
/-! ### loop.example/purser/spec.l71Index: function 92 -/
noncomputable def c92 : Code := Try.f92.body.getD .skip
def rs92 : List ResultVar := [.cell 2 29]
def fi92 : FnI := { nt := 51, lp := fun i => ⟨false, []⟩, jn := fun i => if i = 9 then some [2, 3] else none, dt := fun i => none }
/-! ### loop.example/purser/spec.l3Pkgs: function 93 -/
noncomputable def c93 : Code := Try.f93.body.getD .skip
def rs93 : List ResultVar := [.tmp 2]
def fi93 : FnI := { nt := 46, lp := fun i => if i = 2 then ⟨false, [0, 3]⟩ else ⟨false, []⟩, jn := fun i => none, dt := fun i => none }
/-! ### loop.example/purser/spec.SumOf: function 94 -/
noncomputable def c94 : Code := Try.f94.body.getD .skip
def rs94 : List ResultVar := [.tmp 2]
def fi94 : FnI := { nt := 21, lp := fun i => if i = 3 then ⟨false, [0, 3, 4]⟩ else ⟨false, []⟩, jn := fun i => none, dt := fun i => none }
/-! ### loop.example/purser/spec.PkgText: function 95 -/
noncomputable def c95 : Code := Try.f95.body.getD .skip
def rs95 : List ResultVar := [.tmp 2]
def fi95 : FnI := { nt := 64, lp := fun i => if i = 5 then ⟨false, [1, 3, 4]⟩ else if i = 9 then ⟨false, [1, 3, 5]⟩ else ⟨false, []⟩, jn := fun i => if i = 6 then some [1, 3, 4] else none, dt := fun i => if i = 7 then some (.split 8 14 (.leaf [0, 1, 2, 3, 4, 5, 6, 7, 8, 9, 10, 11, 12, 13, 14, 15, 16, 17, 18, 19]) (.leaf [0, 1, 2, 3, 4, 5, 6, 7, 11, 12, 13, 14, 8, 9, 10, 15, 16, 17, 18, 19])) else none }
/-! ### loop.example/purser/spec.l71Pkg: function 96 -/
noncomputable def c96 : Code := Try.f96.body.getD .skip
def rs96 : List ResultVar := [.cell 6 120]
def fi96 : FnI := { nt := 71, lp := fun i => if i = 4 then ⟨true, [0, 1, 6, 7, 8, 9]⟩ else if i = 9 then ⟨true, [0, 1, 6, 7, 10]⟩ else ⟨false, []⟩, jn := fun i => if i = 10 then some [0, 1, 6, 7, 10] else none, dt := fun i => none }
/-! ### loop.example/purser/spec.l12Find: function 97 -/
noncomputable def c97 : Code := Try.f97.body.getD .skip
def rs97 : List ResultVar := [.tmp 6]
def fi97 : FnI := { nt := 31, lp := fun i => if i = 2 then ⟨false, [0, 1, 2, 7]⟩ else ⟨false, []⟩, jn := fun i => none, dt := fun i => none }
/-! ### loop.example/purser/spec.l12With: function 98 -/
noncomputable def c98 : Code := Try.f98.body.getD .skip
def rs98 : List ResultVar := [.tmp 4]
def fi98 : FnI := { nt := 70, lp := fun i => if i = 3 then ⟨true, [0, 3, 5, 6]⟩ else if i = 9 then ⟨true, [0, 3, 5, 7]⟩ else ⟨false, []⟩, jn := fun i => if i = 4 then some [0, 3, 5, 6] else if i = 10 then some [0, 3, 5, 7] else none, dt := fun i => none }
/-! ### loop.example/purser/spec.RootSigned: function 99 -/
noncomputable def c99 : Code := Try.f99.body.getD .skip
def rs99 : List ResultVar := [.tmp 4]
def fi99 : FnI := { nt := 20, lp := fun i => ⟨false, []⟩, jn := fun i => none, dt := fun i => none }
/-! ### loop.example/purser/spec.l11IndexCopy: function 100 -/
noncomputable def c100 : Code := Try.f100.body.getD .skip
def rs100 : List ResultVar := [.cell 2 29]
def fi100 : FnI := { nt := 9, lp := fun i => ⟨false, []⟩, jn := fun i => none, dt := fun i => none }
/-! ### slices.Clone[[]loop.example/purser/impl.Meta,loop.example/purser/impl.Meta]: function 101 -/
noncomputable def c101 : Code := Try.f101.body.getD .skip
def rs101 : List ResultVar := [.tmp 2]
def fi101 : FnI := { nt := 8, lp := fun i => ⟨false, []⟩, jn := fun i => none, dt := fun i => none }
/-! ### loop.example/purser/spec.l3Less: function 102 -/
noncomputable def c102 : Code := Try.f102.body.getD .skip
def rs102 : List ResultVar := [.tmp 8]
def fi102 : FnI := { nt := 22, lp := fun i => ⟨false, []⟩, jn := fun i => none, dt := fun i => none }
/-! ### slices.Contains[[]int,int]: function 103 -/
noncomputable def c103 : Code := Try.f103.body.getD .skip
def rs103 : List ResultVar := [.tmp 4]
def fi103 : FnI := { nt := 9, lp := fun i => ⟨false, []⟩, jn := fun i => none, dt := fun i => none }
/-! ### loop.example/purser/spec.l2Both: function 104 -/
noncomputable def c104 : Code := Try.f104.body.getD .skip
def rs104 : List ResultVar := [.tmp 4]
def fi104 : FnI := { nt := 32, lp := fun i => if i = 3 then ⟨false, [0, 1, 5, 6]⟩ else if i = 6 then ⟨false, [0, 1, 5, 6, 7]⟩ else ⟨false, []⟩, jn := fun i => if i = 7 then some [0, 1, 5, 6, 7] else none, dt := fun i => none }
/-! ### loop.example/purser/spec.RootNext: function 105 -/
noncomputable def c105 : Code := Try.f105.body.getD .skip
def rs105 : List ResultVar := [.tmp 4]
def fi105 : FnI := { nt := 25, lp := fun i => ⟨false, []⟩, jn := fun i => none, dt := fun i => none }
/-! ### loop.example/purser/laws.szMetaS: function 106 -/
noncomputable def c106 : Code := Try.f106.body.getD .skip
def rs106 : List ResultVar := [.tmp 4]
def fi106 : FnI := { nt := 12, lp := fun i => ⟨false, []⟩, jn := fun i => none, dt := fun i => none }
/-! ### loop.example/purser/laws.toMetaS: function 107 -/
noncomputable def c107 : Code := Try.f107.body.getD .skip
def rs107 : List ResultVar := [.tmp 2]
def fi107 : FnI := { nt := 23, lp := fun i => if i = 3 then ⟨false, [0, 3, 4]⟩ else ⟨false, []⟩, jn := fun i => none, dt := fun i => none }
/-! ### loop.example/purser/laws.eqMeta: function 108 -/
noncomputable def c108 : Code := Try.f108.body.getD .skip
def rs108 : List ResultVar := [.tmp 4]
def fi108 : FnI := { nt := 20, lp := fun i => ⟨false, []⟩, jn := fun i => none, dt := fun i => none }
/-! ### loop.example/purser/spec.PkgOk: function 109 -/
noncomputable def c109 : Code := Try.f109.body.getD .skip
def rs109 : List ResultVar := [.tmp 2]
def fi109 : FnI := { nt := 23, lp := fun i => ⟨false, []⟩, jn := fun i => none, dt := fun i => none }
/-! ### loop.example/purser/spec.l1Name: function 110 -/
noncomputable def c110 : Code := Try.f110.body.getD .skip
def rs110 : List ResultVar := [.tmp 4]
def fi110 : FnI := { nt := 14, lp := fun i => ⟨false, []⟩, jn := fun i => none, dt := fun i => if i = 1 then some (.split 4 7 (.split 5 7 (.leaf [0, 1, 2, 3, 4, 5, 6, 7, 8, 9]) (.leaf [0, 1, 2, 3, 4, 6, 7, 5, 8, 9])) (.leaf [0, 1, 2, 3, 6, 7, 4, 5, 8, 9])) else none }
/-! ### loop.example/purser/spec.l6Dec: function 111 -/
noncomputable def c111 : Code := Try.f111.body.getD .skip
def rs111 : List ResultVar := [.tmp 2]
def fi111 : FnI := { nt := 28, lp := fun i => ⟨false, []⟩, jn := fun i => none, dt := fun i => if i = 7 then some (.split 2 7 (.leaf [0, 1, 2, 3, 4, 5, 6, 7, 8, 9, 10]) (.split 2 8 (.leaf [0, 1, 3, 4, 5, 6, 7, 2, 8, 9, 10]) (.leaf [0, 1, 3, 4, 5, 6, 7, 8, 2, 9, 10]))) else none }
/-! ### slices.Index[[]int,int]: function 112 -/
noncomputable def c112 : Code := Try.f112.body.getD .skip
def rs112 : List ResultVar := [.tmp 4]
def fi112 : FnI := { nt := 19, lp := fun i => if i = 2 then ⟨false, [0, 1, 7, 8]⟩ else ⟨false, []⟩, jn := fun i => none, dt := fun i => none }
/-! ### loop.example/purser/laws.toMeta: function 113 -/
noncomputable def c113 : Code := Try.f113.body.getD .skip
def rs113 : List ResultVar := [.cell 2 112]
def fi113 : FnI := { nt := 14, lp := fun i => ⟨false, []⟩, jn := fun i => none, dt := fun i => none }
/-! ### loop.example/purser/spec.l1Files: function 114 -/
noncomputable def c114 : Code := Try.f114.body.getD .skip
def rs114 : List ResultVar := [.tmp 2]
def fi114 : FnI := { nt := 47, lp := fun i => if i = 2 then ⟨false, [0, 3]⟩ else ⟨false, []⟩, jn := fun i => none, dt := fun i => none }
/-! ### loop.example/purser/spec.l1Deps: function 115 -/
noncomputable def c115 : Code := Try.f115.body.getD .skip
def rs115 : List ResultVar := [.tmp 4]
def fi115 : FnI := { nt := 51, lp := fun i => if i = 2 then ⟨true, [0, 1, 5]⟩ else ⟨false, []⟩, jn := fun i => none, dt := fun i => none }
noncomputable def codeL : List (Option Func) := [none, none, none, some Try.f3, some Try.f4, some Try.f5, some Try.f6, some Try.f7, some Try.f8, some Try.f9, some Try.f10, some Try.f11, some Try.f12, some Try.f13, some Try.f14, some Try.f15, some Try.f16, some Try.f17, some Try.f18, some Try.f19, some Try.f20, some Try.f21, some Try.f22, some Try.f23, some Try.f24, some Try.f25, some Try.f26, some Try.f27, some Try.f28, some Try.f29, some Try.f30, some Try.f31, some Try.f32, some Try.f33, some Try.f34, some Try.f35, some Try.f36, some Try.f37, some Try.f38, some Try.f39, some Try.f40, some Try.f41, some Try.f42, some Try.f43, some Try.f44, some Try.f45, some Try.f46, some Try.f47, some Try.f48, some Try.f49, some Try.f50, some Try.f51, some Try.f52, some Try.f53, some Try.f54, some Try.f55, some Try.f56, some Try.f57, some Try.f58, some Try.f59, some Try.f60, some Try.f61, some Try.f62, some Try.f63, some Try.f64, some Try.f65, some Try.f66, some Try.f67, some Try.f68, some Try.f69, some Try.f70, some Try.f71, some Try.f72, some Try.f73, some Try.f74, some Try.f75, some Try.f76, some Try.f77, some Try.f78, some Try.f79, some Try.f80, some Try.f81, some Try.f82, some Try.f83, some Try.f84, some Try.f85, some Try.f86, some Try.f87, some Try.f88, some Try.f89, some Try.f90, some Try.f91, some Try.f92, some Try.f93, some Try.f94, some Try.f95, some Try.f96, some Try.f97, some Try.f98, some Try.f99, some Try.f100, some Try.f101, some Try.f102, some Try.f103, some Try.f104, some Try.f105, some Try.f106, some Try.f107, some Try.f108, some Try.f109, some Try.f110, some Try.f111, some Try.f112, some Try.f113, some Try.f114, some Try.f115]
def fiL : List FnI := [⟨0, fun _ => ⟨false, []⟩, fun _ => none, fun _ => none⟩, ⟨0, fun _ => ⟨false, []⟩, fun _ => none, fun _ => none⟩, ⟨0, fun _ => ⟨false, []⟩, fun _ => none, fun _ => none⟩, fi3, fi4, fi5, fi6, fi7, fi8, fi9, fi10, fi11, fi12, fi13, fi14, fi15, fi16, fi17, fi18, fi19, fi20, fi21, fi22, fi23, fi24, fi25, fi26, fi27, fi28, fi29, fi30, fi31, fi32, fi33, fi34, fi35, fi36, fi37, fi38, fi39, fi40, fi41, fi42, fi43, fi44, fi45, fi46, fi47, fi48, fi49, fi50, fi51, fi52, fi53, fi54, fi55, fi56, fi57, fi58, fi59, fi60, fi61, fi62, fi63, fi64, fi65, fi66, fi67, fi68, fi69, fi70, fi71, fi72, fi73, fi74, fi75, fi76, fi77, fi78, fi79, fi80, fi81, fi82, fi83, fi84, fi85, fi86, fi87, fi88, fi89, fi90, fi91, fi92, fi93, fi94, fi95, fi96, fi97, fi98, fi99, fi100, fi101, fi102, fi103, fi104, fi105, fi106, fi107, fi108, fi109, fi110, fi111, fi112, fi113, fi114, fi115]
def primF (f : Nat) : Option (List SV → List SO → Out) := if f = 84 then some (cloneS 1 8) else if f = 101 then some (cloneS 3 24) else none
noncomputable def prg : Prg := { T := tab, own := ownF, code := fun f => (codeL[f]?).getD none, fi := fun f => (fiL[f]?).getD ⟨0, fun _ => ⟨false, []⟩, fun _ => none, fun _ => none⟩, prim := primF }
noncomputable def X3 (K : Nat → List SV → List SO → Out) (N nl : Nat) (x0 : SV) (os : List SO) : Out := exec (cx K) N nl fi3 c3 [(0, x0)] os (kEnd tab nl rs3)
noncomputable def B3 (K : Nat → List SV → List SO → Out) (N nl : Nat) (x0 : SV) (os : List SO) : Out :=
 bd (lenO tab 22 os x0) fun v1 o1 =>
 bd (ret1 (binS tab .gtr 3 v1 (SV.v (.int .i64 1048576))) o1) fun v2 o2 =>
 condS v2 (retV tab nl o2 (resC1 (some (SV.v (.bool true))) (some [])))
 (bd (callS ⟨tab, ownF, K⟩ o2 13 [x0]) fun v3 o3 =>
 bd (allocS tab o3 25) fun v4 o4 =>
 bd (storeO tab o4 25 v4 (some v3)) fun v5 o5 =>
 bd (ret1 (loadS tab o5 25 v4) o5) fun v6 o6 =>
 bd (callS ⟨tab, ownF, K⟩ o6 14 [v6]) fun v7 o7 =>
 bd (ret1 (extractS v7 0) o7) fun v8 o8 =>
 bd (ret1 (extractS v7 1) o8) fun v9 o9 =>
 bd (allocS tab o9 31) fun v10 o10 =>
 bd (storeO tab o10 31 v10 (some v8)) fun v11 o11 =>
 bd (ret1 (loadS tab o11 25 v4) o11) fun v12 o12 =>
 bd (callS ⟨tab, ownF, K⟩ o12 15 [v12]) fun v13 o13 =>
 bd (ret1 (extractS v13 0) o13) fun v14 o14 =>
 bd (ret1 (extractS v13 1) o14) fun v15 o15 =>
 bd (allocS tab o15 31) fun v16 o16 =>
 bd (storeO tab o16 31 v16 (some v14)) fun v17 o17 =>
 bd (ret1 (binS tab .neq 4 v15 v9) o17) fun v18 o18 =>
 bd (gd v18 false (ret1 (loadS tab o18 31 v16) o18) o18) fun v19 o19 =>
 bd (gd v18 false (ret1 (loadS tab o19 31 v10) o19) o19) fun v20 o20 =>
 bd (gd v18 false (callS ⟨tab, ownF, K⟩ o20 16 [v19, v20]) o20) fun v21 o21 =>
 bd (gd v18 false (ret1 (unS .not v21) o21) o21) fun v22 o22 =>
 bd (ret1 (pickS v18 (SV.v (.bool true)) v22) o22) fun v23 o23 =>
 bd (gd v23 false (some (v15, o23)) o23) fun v24 o24 =>
 bd (gd v23 false (ret1 (unS .not v24) o24) o24) fun v25 o25 =>
 bd (ret1 (pickS v23 (SV.v (.bool true)) v25) o25) fun v26 o26 =>
 condS v26 (bd (ret1 (binS tab .eql 4 v15 v9) o26) fun v27 o27 =>
 bd (gd v27 true (ret1 (loadS tab o27 31 v16) o27) o27) fun v28 o28 =>
 bd (gd v27 true (ret1 (loadS tab o28 31 v10) o28) o28) fun v29 o29 =>
 bd (gd v27 true (callS ⟨tab, ownF, K⟩ o29 16 [v28, v29]) o29) fun v30 o30 =>
 bd (ret1 (pickS v27 v30 (SV.v (.bool false))) o30) fun v31 o31 =>
 retV tab nl o31 (resC1 (some v31) (some [])))
 (bd (ret1 (loadS tab o26 31 v16) o26) fun v32 o32 =>
 bd (callS ⟨tab, ownF, K⟩ o32 17 [v32]) fun v33 o33 =>
 bd (gd v33 true (ret1 (fieldAddrS tab 31 v16 0) o33) o33) fun v34 o34 =>
 bd (gd v33 true (ret1 (loadS tab o34 25 v34) o34) o34) fun v35 o35 =>
 bd (gd v33 true (ret1 (loadS tab o35 25 v4) o35) o35) fun v36 o36 =>
 bd (gd v33 true (callS ⟨tab, ownF, K⟩ o36 18 [v35, v36]) o36) fun v37 o37 =>
 bd (ret1 (pickS v33 v37 (SV.v (.bool false))) o37) fun v38 o38 =>
 bd (gd v38 true (ret1 (fieldAddrS tab 31 v16 1) o38) o38) fun v39 o39 =>
 bd (gd v38 true (ret1 (loadS tab o39 4 v39) o39) o39) fun v40 o40 =>
 bd (gd v38 true (ret1 (unS .not v40) o40) o40) fun v41 o41 =>
 bd (ret1 (pickS v38 v41 (SV.v (.bool false))) o41) fun v42 o42 =>
 bd (gd v42 true (ret1 (loadS tab o42 31 v16) o42) o42) fun v43 o43 =>
 bd (gd v42 true (callS ⟨tab, ownF, K⟩ o43 19 [v43, (SV.v (.int .i64 0))]) o43) fun v44 o44 =>
 bd (gd v42 true (ret1 (unS .not v44) o44) o44) fun v45 o45 =>
 bd (ret1 (pickS v42 v45 (SV.v (.bool false))) o45) fun v46 o46 =>
 retV tab nl o46 (resC1 (some v46) (some []))))
noncomputable def X4 (K : Nat → List SV → List SO → Out) (N nl : Nat) (x0 : SV) (os : List SO) : Out := exec (cx K) N nl fi4 c4 [(0, x0)] os (kEnd tab nl rs4)
noncomputable def B4 (K : Nat → List SV → List SO → Out) (N nl : Nat) (x0 : SV) (os : List SO) : Out :=
 bd (boxS tab os 39 (some x0)) fun v1 o1 =>
 bd (ret1 (loadS tab o1 39 v1) o1) fun v2 o2 =>
 bd (callS ⟨tab, ownF, K⟩ o2 20 [v2, (SV.v (.int .i64 1048576))]) fun v3 o3 =>
 bd (ret1 (binS tab .lss 3 v3 (SV.v (.int .i64 0))) o3) fun v4 o4 =>
 condS v4 (retV tab nl o4 (resC1 (some (SV.v (.bool true))) (some [])))
 (bd (ret1 (loadS tab o4 39 v1) o4) fun v5 o5 =>
 bd (callS ⟨tab, ownF, K⟩ o5 21 [v5]) fun v6 o6 =>
 bd (callS ⟨tab, ownF, K⟩ o6 14 [v6]) fun v7 o7 =>
 bd (ret1 (extractS v7 0) o7) fun v8 o8 =>
 bd (ret1 (extractS v7 1) o8) fun v9 o9 =>
 bd (allocS tab o9 31) fun v10 o10 =>
 bd (storeO tab o10 31 v10 (some v8)) fun v11 o11 =>
 bd (ret1 (loadS tab o11 39 v1) o11) fun v12 o12 =>
 bd (callS ⟨tab, ownF, K⟩ o12 21 [v12]) fun v13 o13 =>
 bd (allocS tab o13 25) fun v14 o14 =>
 bd (storeO tab o14 25 v14 (some v13)) fun v15 o15 =>
 bd (ret1 (loadS tab o15 25 v14) o15) fun v16 o16 =>
 bd (callS ⟨tab, ownF, K⟩ o16 15 [v16]) fun v17 o17 =>
 bd (ret1 (extractS v17 0) o17) fun v18 o18 =>
 bd (ret1 (extractS v17 1) o18) fun v19 o19 =>
 bd (allocS tab o19 31) fun v20 o20 =>
 bd (storeO tab o20 31 v20 (some v18)) fun v21 o21 =>
 bd (ret1 (loadS tab o21 31 v20) o21) fun v22 o22 =>
 bd (ret1 (loadS tab o22 31 v10) o22) fun v23 o23 =>
 bd (callS ⟨tab, ownF, K⟩ o23 22 [v22, v23]) fun v24 o24 =>
 bd (ret1 (unS .not v24) o24) fun v25 o25 =>
 bd (gd v25 false (some (v19, o25)) o25) fun v26 o26 =>
 bd (gd v25 false (some (v9, o26)) o26) fun v27 o27 =>
 bd (gd v25 false (ret1 (binS tab .neq 4 v26 v27) o27) o27) fun v28 o28 =>
 bd (ret1 (pickS v25 (SV.v (.bool true)) v28) o28) fun v29 o29 =>
 condS v29 (retV tab nl o29 (resC1 (some (SV.v (.bool false))) (some [])))
 (dchk (isBox v14) <|
 bd (ret1 (loadS tab o29 25 v14) o29) fun v30 o30 =>
 bd (ret1 (loadS tab o30 39 v1) o30) fun v31 o31 =>
 dchk (keepOk ⟨tab, ownF, K⟩ o31 (SV.fn 21 []) [v31] [v14] false) <|
 bd (callS ⟨tab, ownF, K⟩ o31 21 [v31]) fun v32 o32 =>
 bd (callS ⟨tab, ownF, K⟩ o32 23 [v30, v32]) fun v33 o33 =>
 bd (ret1 (unS .not v33) o33) fun v34 o34 =>
 condS v34 (retV tab nl o34 (resC1 (some (SV.v (.bool false))) (some [])))
 (bd (ret1 (loadS tab o34 25 v14) o34) fun v35 o35 =>
 bd (callS ⟨tab, ownF, K⟩ o35 24 [v35, (SV.v (.int .i64 1))]) fun v36 o36 =>
 bd (ret1 (binS tab .lss 3 v36 (SV.v (.int .i64 0))) o36) fun v37 o37 =>
 bd (gd v37 false (ret1 (loadS tab o37 31 v20) o37) o37) fun v38 o38 =>
 bd (gd v37 false (ret1 (loadS tab o38 31 v10) o38) o38) fun v39 o39 =>
 bd (gd v37 false (callS ⟨tab, ownF, K⟩ o39 22 [v38, v39]) o39) fun v40 o40 =>
 bd (gd v37 false (ret1 (unS .not v40) o40) o40) fun v41 o41 =>
 bd (ret1 (pickS v37 (SV.v (.bool true)) v41) o41) fun v42 o42 =>
 bd (gd v42 false (some (v19, o42)) o42) fun v43 o43 =>
 bd (gd v42 false (some (v9, o43)) o43) fun v44 o44 =>
 bd (gd v42 false (ret1 (binS tab .neq 4 v43 v44) o44) o44) fun v45 o45 =>
 bd (ret1 (pickS v42 (SV.v (.bool true)) v45) o45) fun v46 o46 =>
 condS v46 (retV tab nl o46 (resC1 (some (SV.v (.bool false))) (some [])))
 (bd (ret1 (loadS tab o46 31 v20) o46) fun v47 o47 =>
 bd (callS ⟨tab, ownF, K⟩ o47 25 [v47, (SV.v (.int .i64 1))]) fun v48 o48 =>
 bd (ret1 (loadS tab o48 31 v20) o48) fun v49 o49 =>
 bd (callS ⟨tab, ownF, K⟩ o49 26 [v49, (SV.v (.int .i64 1))]) fun v50 o50 =>
 bd (ret1 (binS tab .lss 3 v50 (SV.v (.int .i64 0))) o50) fun v51 o51 =>
 condS v51 (retV tab nl o51 (resC1 (some (SV.v (.bool false))) (some [])))
 (bd (ret1 (binS tab .neq 3 v50 v48) o51) fun v52 o52 =>
 condS v52 (retV tab nl o52 (resC1 (some (SV.v (.bool false))) (some [])))
 (bd (ret1 (loadS tab o52 39 v1) o52) fun v53 o53 =>
 bd (callS ⟨tab, ownF, K⟩ o53 21 [v53]) fun v54 o54 =>
 bd (callS ⟨tab, ownF, K⟩ o54 15 [v54]) fun v55 o55 =>
 bd (ret1 (extractS v55 0) o55) fun v56 o56 =>
 bd (ret1 (extractS v55 1) o56) fun v57 o57 =>
 bd (allocS tab o57 31) fun v58 o58 =>
 bd (storeO tab o58 31 v58 (some v56)) fun v59 o59 =>
 bd (ret1 (loadS tab o59 31 v58) o59) fun v60 o60 =>
 bd (ret1 (loadS tab o60 31 v10) o60) fun v61 o61 =>
 bd (callS ⟨tab, ownF, K⟩ o61 22 [v60, v61]) fun v62 o62 =>
 bd (ret1 (unS .not v62) o62) fun v63 o63 =>
 bd (gd v63 false (some (v57, o63)) o63) fun v64 o64 =>
 bd (gd v63 false (some (v9, o64)) o64) fun v65 o65 =>
 bd (gd v63 false (ret1 (binS tab .neq 4 v64 v65) o65) o65) fun v66 o66 =>
 bd (ret1 (pickS v63 (SV.v (.bool true)) v66) o66) fun v67 o67 =>
 condS v67 (retV tab nl o67 (resC1 (some (SV.v (.bool false))) (some [])))
 (bd (ret1 (loadS tab o67 31 v20) o67) fun v68 o68 =>
 bd (callS ⟨tab, ownF, K⟩ o68 26 [v68, (SV.v (.int .i64 1))]) fun v69 o69 =>
 bd (ret1 (binS tab .lss 3 v69 (SV.v (.int .i64 0))) o69) fun v70 o70 =>
 condS v70 (retV tab nl o70 (resC1 (some (SV.v (.bool false))) (some [])))
 (bd (ret1 (binS tab .neq 3 v69 v48) o70) fun v71 o71 =>
 condS v71 (retV tab nl o71 (resC1 (some (SV.v (.bool false))) (some [])))
 (retV tab nl o71 (resC1 (some (SV.v (.bool true))) (some [])))))))))))
noncomputable def X5 (K : Nat → List SV → List SO → Out) (N nl : Nat) (x0 : SV) (os : List SO) : Out := exec (cx K) N nl fi5 c5 [(0, x0)] os (kEnd tab nl rs5)
noncomputable def B5 (K : Nat → List SV → List SO → Out) (N nl : Nat) (x0 : SV) (os : List SO) : Out :=
 bd (lenO tab 22 os x0) fun v1 o1 =>
 bd (ret1 (binS tab .gtr 3 v1 (SV.v (.int .i64 1048576))) o1) fun v2 o2 =>
 condS v2 (retV tab nl o2 (resC1 (some (SV.v (.bool true))) (some [])))
 (bd (callS ⟨tab, ownF, K⟩ o2 27 [x0]) fun v3 o3 =>
 bd (ret1 (extractS v3 0) o3) fun v4 o4 =>
 bd (ret1 (extractS v3 1) o4) fun v5 o5 =>
 bd (ret1 (extractS v3 2) o5) fun v6 o6 =>
 bd (allocS tab o6 31) fun v7 o7 =>
 bd (allocS tab o7 46) fun v8 o8 =>
 bd (storeO tab o8 31 v7 (some v4)) fun v9 o9 =>
 bd (storeO tab o9 46 v8 (some v5)) fun v10 o10 =>
 bd (ret1 (loadS tab o10 31 v7) o10) fun v11 o11 =>
 bd (ret1 (loadS tab o11 46 v8) o11) fun v12 o12 =>
 bd (callS ⟨tab, ownF, K⟩ o12 28 [v11, v12, v6]) fun v13 o13 =>
 bd (ret1 (extractS v13 0) o13) fun v14 o14 =>
 bd (ret1 (extractS v13 1) o14) fun v15 o15 =>
 bd (allocS tab o15 31) fun v16 o16 =>
 bd (storeO tab o16 31 v16 (some v14)) fun v17 o17 =>
 bd (ret1 (loadS tab o17 31 v7) o17) fun v18 o18 =>
 bd (ret1 (loadS tab o18 46 v8) o18) fun v19 o19 =>
 bd (callS ⟨tab, ownF, K⟩ o19 29 [v18, v19, v6]) fun v20 o20 =>
 bd (ret1 (extractS v20 0) o20) fun v21 o21 =>
 bd (ret1 (extractS v20 1) o21) fun v22 o22 =>
 bd (allocS tab o22 31) fun v23 o23 =>
 bd (storeO tab o23 31 v23 (some v21)) fun v24 o24 =>
 bd (ret1 (binS tab .neq 4 v22 v15) o24) fun v25 o25 =>
 bd (gd v25 false (ret1 (loadS tab o25 31 v23) o25) o25) fun v26 o26 =>
 bd (gd v25 false (ret1 (loadS tab o26 31 v16) o26) o26) fun v27 o27 =>
 bd (gd v25 false (callS ⟨tab, ownF, K⟩ o27 16 [v26, v27]) o27) fun v28 o28 =>
 bd (gd v25 false (ret1 (unS .not v28) o28) o28) fun v29 o29 =>
 bd (ret1 (pickS v25 (SV.v (.bool true)) v29) o29) fun v30 o30 =>
 bd (gd v30 false (some (v22, o30)) o30) fun v31 o31 =>
 bd (gd v30 false (ret1 (unS .not v31) o31) o31) fun v32 o32 =>
 bd (ret1 (pickS v30 (SV.v (.bool true)) v32) o32) fun v33 o33 =>
 condS v33 (bd (ret1 (binS tab .eql 4 v22 v15) o33) fun v34 o34 =>
 bd (gd v34 true (ret1 (loadS tab o34 31 v23) o34) o34) fun v35 o35 =>
 bd (gd v34 true (ret1 (loadS tab o35 31 v16) o35) o35) fun v36 o36 =>
 bd (gd v34 true (callS ⟨tab, ownF, K⟩ o36 16 [v35, v36]) o36) fun v37 o37 =>
 bd (ret1 (pickS v34 v37 (SV.v (.bool false))) o37) fun v38 o38 =>
 retV tab nl o38 (resC1 (some v38) (some [])))
 (bd (ret1 (loadS tab o33 31 v7) o33) fun v39 o39 =>
 bd (ret1 (loadS tab o39 46 v8) o39) fun v40 o40 =>
 bd (ret1 (fieldAddrS tab 46 v8 0) o40) fun v41 o41 =>
 bd (ret1 (fieldAddrS tab 29 v41 1) o41) fun v42 o42 =>
 bd (ret1 (loadS tab o42 3 v42) o42) fun v43 o43 =>
 bd (ret1 (binS tab .add 3 v43 (SV.v (.int .i64 1))) o43) fun v44 o44 =>
 bd (callS ⟨tab, ownF, K⟩ o44 29 [v39, v40, v44]) fun v45 o45 =>
 bd (ret1 (extractS v45 0) o45) fun v46 o46 =>
 bd (ret1 (extractS v45 1) o46) fun v47 o47 =>
 bd (allocS tab o47 31) fun v48 o48 =>
 bd (storeO tab o48 31 v48 (some v46)) fun v49 o49 =>
 bd (ret1 (loadS tab o49 31 v7) o49) fun v50 o50 =>
 bd (ret1 (loadS tab o50 46 v8) o50) fun v51 o51 =>
 bd (ret1 (fieldAddrS tab 46 v8 0) o51) fun v52 o52 =>
 bd (ret1 (fieldAddrS tab 29 v52 1) o52) fun v53 o53 =>
 bd (ret1 (loadS tab o53 3 v53) o53) fun v54 o54 =>
 bd (callS ⟨tab, ownF, K⟩ o54 29 [v50, v51, v54]) fun v55 o55 =>
 bd (ret1 (extractS v55 0) o55) fun v56 o56 =>
 bd (ret1 (extractS v55 1) o56) fun v57 o57 =>
 bd (allocS tab o57 31) fun v58 o58 =>
 bd (storeO tab o58 31 v58 (some v56)) fun v59 o59 =>
 bd (ret1 (loadS tab o59 46 v8) o59) fun v60 o60 =>
 bd (allocS tab o60 46) fun v61 o61 =>
 bd (storeO tab o61 46 v61 (some v60)) fun v62 o62 =>
 bd (ret1 (fieldAddrS tab 31 v7 2) o62) fun v63 o63 =>
 bd (ret1 (fieldAddrS tab 29 v63 0) o63) fun v64 o64 =>
 bd (ret1 (loadS tab o64 3 v64) o64) fun v65 o65 =>
 bd (ret1 (fieldAddrS tab 46 v61 0) o65) fun v66 o66 =>
 bd (ret1 (fieldAddrS tab 29 v66 0) o66) fun v67 o67 =>
 bd (storeO tab o67 3 v67 (some v65)) fun v68 o68 =>
 bd (ret1 (loadS tab o68 31 v7) o68) fun v69 o69 =>
 bd (ret1 (loadS tab o69 46 v61) o69) fun v70 o70 =>
 bd (callS ⟨tab, ownF, K⟩ o70 29 [v69, v70, v6]) fun v71 o71 =>
 bd (ret1 (extractS v71 0) o71) fun v72 o72 =>
 bd (ret1 (extractS v71 1) o72) fun v73 o73 =>
 bd (allocS tab o73 31) fun v74 o74 =>
 bd (storeO tab o74 31 v74 (some v72)) fun v75 o75 =>
 bd (ret1 (unS .not v47) o75) fun v76 o76 =>
 bd (gd v76 true (some (v57, o76)) o76) fun v77 o77 =>
 bd (ret1 (pickS v76 v77 (SV.v (.bool false))) o77) fun v78 o78 =>
 bd (gd v78 true (ret1 (fieldAddrS tab 31 v7 1) o78) o78) fun v79 o79 =>
 bd (gd v78 true (ret1 (loadS tab o79 4 v79) o79) o79) fun v80 o80 =>
 bd (gd v78 true (ret1 (unS .not v80) o80) o80) fun v81 o81 =>
 bd (gd v78 true (some (v81, o81)) o81) fun v82 o82 =>
 bd (gd v82 false (some (v73, o82)) o82) fun v83 o83 =>
 bd (gd v82 false (ret1 (unS .not v83) o83) o83) fun v84 o84 =>
 bd (gd v78 true (ret1 (pickS v82 (SV.v (.bool true)) v84) o84) o84) fun v85 o85 =>
 bd (ret1 (pickS v78 v85 (SV.v (.bool false))) o85) fun v86 o86 =>
 retV tab nl o86 (resC1 (some v86) (some []))))
noncomputable def X6 (K : Nat → List SV → List SO → Out) (N nl : Nat) (x0 : SV) (os : List SO) : Out := exec (cx K) N nl fi6 c6 [(0, x0)] os (kEnd tab nl rs6)
noncomputable def B6 (K : Nat → List SV → List SO → Out) (N nl : Nat) (x0 : SV) (os : List SO) : Out :=
 bd (lenO tab 22 os x0) fun v1 o1 =>
 bd (ret1 (binS tab .gtr 3 v1 (SV.v (.int .i64 1048576))) o1) fun v2 o2 =>
 condS v2 (retV tab nl o2 (resC1 (some (SV.v (.bool true))) (some [])))
 (bd (callS ⟨tab, ownF, K⟩ o2 27 [x0]) fun v3 o3 =>
 bd (ret1 (extractS v3 0) o3) fun v4 o4 =>
 bd (ret1 (extractS v3 1) o4) fun v5 o5 =>
 bd (ret1 (extractS v3 2) o5) fun v6 o6 =>
 bd (allocS tab o6 31) fun v7 o7 =>
 bd (allocS tab o7 46) fun v8 o8 =>
 bd (storeO tab o8 31 v7 (some v4)) fun v9 o9 =>
 bd (storeO tab o9 46 v8 (some v5)) fun v10 o10 =>
 bd (ret1 (loadS tab o10 31 v7) o10) fun v11 o11 =>
 bd (ret1 (loadS tab o11 46 v8) o11) fun v12 o12 =>
 bd (callS ⟨tab, ownF, K⟩ o12 28 [v11, v12, v6]) fun v13 o13 =>
 bd (ret1 (extractS v13 0) o13) fun v14 o14 =>
 bd (ret1 (extractS v13 1) o14) fun v15 o15 =>
 bd (allocS tab o15 31) fun v16 o16 =>
 bd (storeO tab o16 31 v16 (some v14)) fun v17 o17 =>
 bd (ret1 (loadS tab o17 31 v7) o17) fun v18 o18 =>
 bd (ret1 (loadS tab o18 46 v8) o18) fun v19 o19 =>
 bd (callS ⟨tab, ownF, K⟩ o19 29 [v18, v19, v6]) fun v20 o20 =>
 bd (ret1 (extractS v20 0) o20) fun v21 o21 =>
 bd (ret1 (extractS v20 1) o21) fun v22 o22 =>
 bd (allocS tab o22 31) fun v23 o23 =>
 bd (storeO tab o23 31 v23 (some v21)) fun v24 o24 =>
 bd (ret1 (binS tab .neq 4 v22 v15) o24) fun v25 o25 =>
 bd (gd v25 false (ret1 (loadS tab o25 31 v23) o25) o25) fun v26 o26 =>
 bd (gd v25 false (ret1 (loadS tab o26 31 v16) o26) o26) fun v27 o27 =>
 bd (gd v25 false (callS ⟨tab, ownF, K⟩ o27 16 [v26, v27]) o27) fun v28 o28 =>
 bd (gd v25 false (ret1 (unS .not v28) o28) o28) fun v29 o29 =>
 bd (ret1 (pickS v25 (SV.v (.bool true)) v29) o29) fun v30 o30 =>
 bd (gd v30 false (ret1 (loadS tab o30 31 v7) o30) o30) fun v31 o31 =>
 bd (gd v30 false (callS ⟨tab, ownF, K⟩ o31 30 [v31]) o31) fun v32 o32 =>
 bd (gd v30 false (ret1 (unS .not v32) o32) o32) fun v33 o33 =>
 bd (ret1 (pickS v30 (SV.v (.bool true)) v33) o33) fun v34 o34 =>
 bd (gd v34 false (some (v6, o34)) o34) fun v35 o35 =>
 bd (gd v34 false (ret1 (binS tab .lss 3 v35 (SV.v (.int .i64 0))) o35) o35) fun v36 o36 =>
 bd (ret1 (pickS v34 (SV.v (.bool true)) v36) o36) fun v37 o37 =>
 bd (gd v37 false (some (v6, o37)) o37) fun v38 o38 =>
 bd (gd v37 false (ret1 (binS tab .gtr 3 v38 (SV.v (.int .i64 60))) o38) o38) fun v39 o39 =>
 bd (ret1 (pickS v37 (SV.v (.bool true)) v39) o39) fun v40 o40 =>
 condS v40 (bd (ret1 (binS tab .eql 4 v22 v15) o40) fun v41 o41 =>
 bd (gd v41 true (ret1 (loadS tab o41 31 v23) o41) o41) fun v42 o42 =>
 bd (gd v41 true (ret1 (loadS tab o42 31 v16) o42) o42) fun v43 o43 =>
 bd (gd v41 true (callS ⟨tab, ownF, K⟩ o43 16 [v42, v43]) o43) fun v44 o44 =>
 bd (ret1 (pickS v41 v44 (SV.v (.bool false))) o44) fun v45 o45 =>
 retV tab nl o45 (resC1 (some v45) (some [])))
 (bd (ret1 (unS .not v22) o40) fun v46 o46 =>
 condS v46 (bd (ret1 (loadS tab o46 31 v23) o46) fun v47 o47 =>
 bd (ret1 (loadS tab o47 31 v7) o47) fun v48 o48 =>
 bd (callS ⟨tab, ownF, K⟩ o48 16 [v47, v48]) fun v49 o49 =>
 retV tab nl o49 (resC1 (some v49) (some [])))
 (bd (ret1 (loadS tab o46 31 v23) o46) fun v50 o50 =>
 bd (ret1 (loadS tab o50 46 v8) o50) fun v51 o51 =>
 bd (callS ⟨tab, ownF, K⟩ o51 29 [v50, v51, v6]) fun v52 o52 =>
 bd (ret1 (extractS v52 0) o52) fun v53 o53 =>
 bd (ret1 (extractS v52 1) o53) fun v54 o54 =>
 bd (allocS tab o54 31) fun v55 o55 =>
 bd (storeO tab o55 31 v55 (some v53)) fun v56 o56 =>
 bd (ret1 (loadS tab o56 31 v23) o56) fun v57 o57 =>
 bd (ret1 (fieldAddrS tab 31 v7 2) o57) fun v58 o58 =>
 bd (ret1 (loadS tab o58 29 v58) o58) fun v59 o59 =>
 bd (ret1 (fieldAddrS tab 46 v8 1) o59) fun v60 o60 =>
 bd (ret1 (loadS tab o60 23 v60) o60) fun v61 o61 =>
 bd (buildS tab o61 46 [(0, (some v59)), (1, (some v61))]) fun v62 o62 =>
 bd (callS ⟨tab, ownF, K⟩ o62 29 [v57, v62, (SV.v (.int .i64 0))]) fun v63 o63 =>
 bd (ret1 (extractS v63 0) o63) fun v64 o64 =>
 bd (ret1 (extractS v63 1) o64) fun v65 o65 =>
 bd (allocS tab o65 31) fun v66 o66 =>
 bd (storeO tab o66 31 v66 (some v64)) fun v67 o67 =>
 bd (gd v54 false (ret1 (fieldAddrS tab 31 v7 1) o67) o67) fun v68 o68 =>
 bd (gd v54 false (ret1 (loadS tab o68 4 v68) o68) o68) fun v69 o69 =>
 bd (gd v54 false (some (v69, o69)) o69) fun v70 o70 =>
 bd (gd v70 true (some (v65, o70)) o70) fun v71 o71 =>
 bd (gd v54 false (ret1 (pickS v70 v71 (SV.v (.bool false))) o71) o71) fun v72 o72 =>
 bd (ret1 (pickS v54 (SV.v (.bool true)) v72) o72) fun v73 o73 =>
 condS v73 (retV tab nl o73 (resC1 (some (SV.v (.bool false))) (some [])))
 (bd (ret1 (fieldAddrS tab 31 v7 0) o73) fun v74 o74 =>
 bd (ret1 (loadS tab o74 25 v74) o74) fun v75 o75 =>
 bd (ret1 (fieldAddrS tab 46 v8 1) o75) fun v76 o76 =>
 bd (ret1 (loadS tab o76 23 v76) o76) fun v77 o77 =>
 bd (callS ⟨tab, ownF, K⟩ o77 31 [v75, v77]) fun v78 o78 =>
 bd (gd v78 true (ret1 (fieldAddrS tab 31 v7 1) o78) o78) fun v79 o79 =>
 bd (gd v78 true (ret1 (loadS tab o79 4 v79) o79) o79) fun v80 o80 =>
 bd (gd v78 true (ret1 (unS .not v80) o80) o80) fun v81 o81 =>
 bd (gd v78 true (some (v81, o81)) o81) fun v82 o82 =>
 bd (gd v82 false (ret1 (fieldAddrS tab 46 v8 0) o82) o82) fun v83 o83 =>
 bd (gd v82 false (ret1 (fieldAddrS tab 29 v83 0) o83) o83) fun v84 o84 =>
 bd (gd v82 false (ret1 (loadS tab o84 3 v84) o84) o84) fun v85 o85 =>
 bd (gd v82 false (ret1 (fieldAddrS tab 31 v7 2) o85) o85) fun v86 o86 =>
 bd (gd v82 false (ret1 (fieldAddrS tab 29 v86 0) o86) o86) fun v87 o87 =>
 bd (gd v82 false (ret1 (loadS tab o87 3 v87) o87) o87) fun v88 o88 =>
 bd (gd v82 false (ret1 (binS tab .gtr 3 v85 v88) o88) o88) fun v89 o89 =>
 bd (gd v78 true (ret1 (pickS v82 (SV.v (.bool true)) v89) o89) o89) fun v90 o90 =>
 bd (ret1 (pickS v78 v90 (SV.v (.bool false))) o90) fun v91 o91 =>
 bd (gd v91 true (ret1 (fieldAddrS tab 46 v8 0) o91) o91) fun v92 o92 =>
 bd (gd v91 true (ret1 (fieldAddrS tab 29 v92 1) o92) o92) fun v93 o93 =>
 bd (gd v91 true (ret1 (loadS tab o93 3 v93) o93) o93) fun v94 o94 =>
 bd (gd v91 true (some (v6, o94)) o94) fun v95 o95 =>
 bd (gd v91 true (ret1 (binS tab .geq 3 v94 v95) o95) o95) fun v96 o96 =>
 bd (ret1 (pickS v91 v96 (SV.v (.bool false))) o96) fun v97 o97 =>
 bd (gd v97 true (ret1 (fieldAddrS tab 31 v23 2) o97) o97) fun v98 o98 =>
 bd (gd v97 true (ret1 (loadS tab o98 29 v98) o98) o98) fun v99 o99 =>
 bd (gd v97 true (ret1 (fieldAddrS tab 46 v8 0) o99) o99) fun v100 o100 =>
 bd (gd v97 true (ret1 (loadS tab o100 29 v100) o100) o100) fun v101 o101 =>
 bd (gd v97 true (callS ⟨tab, ownF, K⟩ o101 32 [v99, v101]) o101) fun v102 o102 =>
 bd (ret1 (pickS v97 v102 (SV.v (.bool false))) o102) fun v103 o103 =>
 bd (gd v103 true (ret1 (fieldAddrS tab 31 v23 0) o103) o103) fun v104 o104 =>
 bd (gd v103 true (ret1 (loadS tab o104 25 v104) o104) o104) fun v105 o105 =>
 bd (gd v103 true (ret1 (fieldAddrS tab 31 v7 0) o105) o105) fun v106 o106 =>
 bd (gd v103 true (ret1 (loadS tab o106 25 v106) o106) o106) fun v107 o107 =>
 bd (gd v103 true (callS ⟨tab, ownF, K⟩ o107 18 [v105, v107]) o107) fun v108 o108 =>
 bd (ret1 (pickS v103 v108 (SV.v (.bool false))) o108) fun v109 o109 =>
 bd (gd v109 true (ret1 (fieldAddrS tab 31 v23 1) o109) o109) fun v110 o110 =>
 bd (gd v109 true (ret1 (loadS tab o110 4 v110) o110) o110) fun v111 o111 =>
 bd (ret1 (pickS v109 v111 (SV.v (.bool false))) o111) fun v112 o112 =>
 bd (gd v112 true (ret1 (loadS tab o112 31 v23) o112) o112) fun v113 o113 =>
 bd (gd v112 true (some (v6, o113)) o113) fun v114 o114 =>
 bd (gd v112 true (callS ⟨tab, ownF, K⟩ o114 19 [v113, v114]) o114) fun v115 o115 =>
 bd (ret1 (pickS v112 v115 (SV.v (.bool false))) o115) fun v116 o116 =>
 retV tab nl o116 (resC1 (some v116) (some []))))))
noncomputable def X7 (K : Nat → List SV → List SO → Out) (N nl : Nat) (x0 x1 : SV) (os : List SO) : Out := exec (cx K) N nl fi7 c7 [(0, x0), (1, x1)] os (kEnd tab nl rs7)
noncomputable def B7 (K : Nat → List SV → List SO → Out) (N nl : Nat) (x0 x1 : SV) (os : List SO) : Out :=
 bd (lenO tab 22 os x0) fun v1 o1 =>
 bd (ret1 (binS tab .gtr 3 v1 (SV.v (.int .i64 1048576))) o1) fun v2 o2 =>
 bd (gd v2 false (some (x1, o2)) o2) fun v3 o3 =>
 bd (gd v2 false (lenO tab 22 o3 v3) o3) fun v4 o4 =>
 bd (gd v2 false (ret1 (binS tab .gtr 3 v4 (SV.v (.int .i64 1048576))) o4) o4) fun v5 o5 =>
 bd (ret1 (pickS v2 (SV.v (.bool true)) v5) o5) fun v6 o6 =>
 condS v6 (retV tab nl o6 (resC1 (some (SV.v (.bool true))) (some [])))
 (bd (callS ⟨tab, ownF, K⟩ o6 27 [x0]) fun v7 o7 =>
 bd (ret1 (extractS v7 0) o7) fun v8 o8 =>
 bd (ret1 (extractS v7 1) o8) fun v9 o9 =>
 bd (ret1 (extractS v7 2) o9) fun v10 o10 =>
 bd (allocS tab o10 31) fun v11 o11 =>
 bd (allocS tab o11 46) fun v12 o12 =>
 bd (storeO tab o12 31 v11 (some v8)) fun v13 o13 =>
 bd (storeO tab o13 46 v12 (some v9)) fun v14 o14 =>
 bd (ret1 (loadS tab o14 31 v11) o14) fun v15 o15 =>
 bd (ret1 (loadS tab o15 46 v12) o15) fun v16 o16 =>
 bd (callS ⟨tab, ownF, K⟩ o16 28 [v15, v16, v10]) fun v17 o17 =>
 bd (ret1 (extractS v17 0) o17) fun v18 o18 =>
 bd (ret1 (extractS v17 1) o18) fun v19 o19 =>
 bd (allocS tab o19 31) fun v20 o20 =>
 bd (storeO tab o20 31 v20 (some v18)) fun v21 o21 =>
 bd (ret1 (loadS tab o21 31 v11) o21) fun v22 o22 =>
 bd (ret1 (loadS tab o22 46 v12) o22) fun v23 o23 =>
 bd (callS ⟨tab, ownF, K⟩ o23 29 [v22, v23, v10]) fun v24 o24 =>
 bd (ret1 (extractS v24 0) o24) fun v25 o25 =>
 bd (ret1 (extractS v24 1) o25) fun v26 o26 =>
 bd (allocS tab o26 31) fun v27 o27 =>
 bd (storeO tab o27 31 v27 (some v25)) fun v28 o28 =>
 bd (ret1 (binS tab .neq 4 v26 v19) o28) fun v29 o29 =>
 bd (gd v29 false (ret1 (loadS tab o29 31 v27) o29) o29) fun v30 o30 =>
 bd (gd v29 false (ret1 (loadS tab o30 31 v20) o30) o30) fun v31 o31 =>
 bd (gd v29 false (callS ⟨tab, ownF, K⟩ o31 16 [v30, v31]) o31) fun v32 o32 =>
 bd (gd v29 false (ret1 (unS .not v32) o32) o32) fun v33 o33 =>
 bd (ret1 (pickS v29 (SV.v (.bool true)) v33) o33) fun v34 o34 =>
 bd (gd v34 false (some (v26, o34)) o34) fun v35 o35 =>
 bd (gd v34 false (ret1 (unS .not v35) o35) o35) fun v36 o36 =>
 bd (ret1 (pickS v34 (SV.v (.bool true)) v36) o36) fun v37 o37 =>
 bd (gd v37 false (ret1 (fieldAddrS tab 31 v11 0) o37) o37) fun v38 o38 =>
 bd (gd v37 false (ret1 (fieldAddrS tab 25 v38 0) o38) o38) fun v39 o39 =>
 bd (gd v37 false (ret1 (loadS tab o39 3 v39) o39) o39) fun v40 o40 =>
 bd (gd v37 false (ret1 (binS tab .eql 3 v40 (SV.v (.int .i64 9))) o40) o40) fun v41 o41 =>
 bd (ret1 (pickS v37 (SV.v (.bool true)) v41) o41) fun v42 o42 =>
 condS v42 (bd (ret1 (binS tab .eql 4 v26 v19) o42) fun v43 o43 =>
 bd (gd v43 true (ret1 (loadS tab o43 31 v27) o43) o43) fun v44 o44 =>
 bd (gd v43 true (ret1 (loadS tab o44 31 v20) o44) o44) fun v45 o45 =>
 bd (gd v43 true (callS ⟨tab, ownF, K⟩ o45 16 [v44, v45]) o45) fun v46 o46 =>
 bd (ret1 (pickS v43 v46 (SV.v (.bool false))) o46) fun v47 o47 =>
 retV tab nl o47 (resC1 (some v47) (some [])))
 (bd (ret1 (fieldAddrS tab 31 v11 0) o42) fun v48 o48 =>
 bd (ret1 (loadS tab o48 25 v48) o48) fun v49 o49 =>
 bd (allocS tab o49 25) fun v50 o50 =>
 bd (storeO tab o50 25 v50 (some v49)) fun v51 o51 =>
 bd (ret1 (fieldAddrS tab 31 v11 0) o51) fun v52 o52 =>
 bd (ret1 (fieldAddrS tab 25 v52 0) o52) fun v53 o53 =>
 bd (ret1 (loadS tab o53 3 v53) o53) fun v54 o54 =>
 bd (ret1 (binS tab .add 3 v54 (SV.v (.int .i64 1))) o54) fun v55 o55 =>
 bd (ret1 (fieldAddrS tab 25 v50 0) o55) fun v56 o56 =>
 bd (storeO tab o56 3 v56 (some v55)) fun v57 o57 =>
 bd (lenO tab 22 o57 x1) fun v58 o58 =>
 bd (ret1 (fieldAddrS tab 31 v11 0) o58) fun v59 o59 =>
 bd (ret1 (fieldAddrS tab 25 v59 1) o59) fun v60 o60 =>
 bd (ret1 (loadS tab o60 23 v60) o60) fun v61 o61 =>
 bd (lenO tab 23 o61 v61) fun v62 o62 =>
 bd (ret1 (binS tab .rem 3 v58 v62) o62) fun v63 o63 =>
 bd (ret1 (binS tab .add 3 (SV.v (.int .i64 1)) v63) o63) fun v64 o64 =>
 bd (ret1 (fieldAddrS tab 25 v50 2) o64) fun v65 o65 =>
 bd (storeO tab o65 3 v65 (some v64)) fun v66 o66 =>
 bd (ret1 (loadS tab o66 25 v50) o66) fun v67 o67 =>
 bd (ret1 (fieldAddrS tab 31 v11 0) o67) fun v68 o68 =>
 bd (ret1 (fieldAddrS tab 25 v68 1) o68) fun v69 o69 =>
 bd (ret1 (loadS tab o69 23 v69) o69) fun v70 o70 =>
 bd (buildS tab o70 53 [(0, (some v67)), (1, (some v70))]) fun v71 o71 =>
 bd (allocS tab o71 53) fun v72 o72 =>
 bd (storeO tab o72 53 v72 (some v71)) fun v73 o73 =>
 bd (ret1 (loadS tab o73 31 v11) o73) fun v74 o74 =>
 bd (ret1 (loadS tab o74 53 v72) o74) fun v75 o75 =>
 bd (callS ⟨tab, ownF, K⟩ o75 33 [v74, v75]) fun v76 o76 =>
 bd (ret1 (extractS v76 0) o76) fun v77 o77 =>
 bd (ret1 (extractS v76 1) o77) fun v78 o78 =>
 bd (allocS tab o78 31) fun v79 o79 =>
 bd (storeO tab o79 31 v79 (some v77)) fun v80 o80 =>
 bd (ret1 (loadS tab o80 31 v27) o80) fun v81 o81 =>
 bd (ret1 (loadS tab o81 53 v72) o81) fun v82 o82 =>
 bd (callS ⟨tab, ownF, K⟩ o82 33 [v81, v82]) fun v83 o83 =>
 bd (ret1 (extractS v83 0) o83) fun v84 o84 =>
 bd (ret1 (extractS v83 1) o84) fun v85 o85 =>
 bd (allocS tab o85 31) fun v86 o86 =>
 bd (storeO tab o86 31 v86 (some v84)) fun v87 o87 =>
 bd (ret1 (loadS tab o87 31 v79) o87) fun v88 o88 =>
 bd (ret1 (loadS tab o88 46 v12) o88) fun v89 o89 =>
 bd (callS ⟨tab, ownF, K⟩ o89 29 [v88, v89, v10]) fun v90 o90 =>
 bd (ret1 (extractS v90 0) o90) fun v91 o91 =>
 bd (ret1 (extractS v90 1) o91) fun v92 o92 =>
 bd (allocS tab o92 31) fun v93 o93 =>
 bd (storeO tab o93 31 v93 (some v91)) fun v94 o94 =>
 bd (gd v78 true (some (v85, o94)) o94) fun v95 o95 =>
 bd (ret1 (pickS v78 v95 (SV.v (.bool false))) o95) fun v96 o96 =>
 bd (gd v96 true (some (v92, o96)) o96) fun v97 o97 =>
 bd (gd v96 true (ret1 (loadS tab o97 25 v50) o97) o97) fun v98 o98 =>
 bd (gd v96 true (ret1 (fieldAddrS tab 46 v12 1) o98) o98) fun v99 o99 =>
 bd (gd v96 true (ret1 (loadS tab o99 23 v99) o99) o99) fun v100 o100 =>
 bd (gd v96 true (callS ⟨tab, ownF, K⟩ o100 31 [v98, v100]) o100) fun v101 o101 =>
 bd (gd v96 true (ret1 (binS tab .eql 4 v97 v101) o101) o101) fun v102 o102 =>
 bd (ret1 (pickS v96 v102 (SV.v (.bool false))) o102) fun v103 o103 =>
 bd (gd v103 true (some (v92, o103)) o103) fun v104 o104 =>
 bd (gd v103 true (ret1 (unS .not v104) o104) o104) fun v105 o105 =>
 bd (gd v103 true (some (v105, o105)) o105) fun v106 o106 =>
 bd (gd v106 false (ret1 (loadS tab o106 31 v86) o106) o106) fun v107 o107 =>
 bd (gd v106 false (ret1 (loadS tab o107 31 v93) o107) o107) fun v108 o108 =>
 bd (gd v106 false (callS ⟨tab, ownF, K⟩ o108 16 [v107, v108]) o108) fun v109 o109 =>
 bd (gd v103 true (ret1 (pickS v106 (SV.v (.bool true)) v109) o109) o109) fun v110 o110 =>
 bd (ret1 (pickS v103 v110 (SV.v (.bool false))) o110) fun v111 o111 =>
 retV tab nl o111 (resC1 (some v111) (some []))))
noncomputable def X8 (K : Nat → List SV → List SO → Out) (N nl : Nat) (x0 x1 : SV) (os : List SO) : Out := exec (cx K) N nl fi8 c8 [(0, x0), (1, x1)] os (kEnd tab nl rs8)
noncomputable def B8 (K : Nat → List SV → List SO → Out) (N nl : Nat) (x0 x1 : SV) (os : List SO) : Out :=
 bd (lenO tab 22 os x0) fun v1 o1 =>
 bd (ret1 (binS tab .gtr 3 v1 (SV.v (.int .i64 1048576))) o1) fun v2 o2 =>
 bd (gd v2 false (some (x1, o2)) o2) fun v3 o3 =>
 bd (gd v2 false (lenO tab 22 o3 v3) o3) fun v4 o4 =>
 bd (gd v2 false (ret1 (binS tab .gtr 3 v4 (SV.v (.int .i64 1048576))) o4) o4) fun v5 o5 =>
 bd (ret1 (pickS v2 (SV.v (.bool true)) v5) o5) fun v6 o6 =>
 condS v6 (retV tab nl o6 (resC1 (some (SV.v (.bool true))) (some [])))
 (bd (callS ⟨tab, ownF, K⟩ o6 27 [x0]) fun v7 o7 =>
 bd (ret1 (extractS v7 0) o7) fun v8 o8 =>
 bd (ret1 (extractS v7 1) o8) fun v9 o9 =>
 bd (ret1 (extractS v7 2) o9) fun v10 o10 =>
 bd (allocS tab o10 31) fun v11 o11 =>
 bd (allocS tab o11 46) fun v12 o12 =>
 bd (storeO tab o12 31 v11 (some v8)) fun v13 o13 =>
 bd (storeO tab o13 46 v12 (some v9)) fun v14 o14 =>
 bd (ret1 (loadS tab o14 31 v11) o14) fun v15 o15 =>
 bd (ret1 (loadS tab o15 46 v12) o15) fun v16 o16 =>
 bd (callS ⟨tab, ownF, K⟩ o16 28 [v15, v16, v10]) fun v17 o17 =>
 bd (ret1 (extractS v17 0) o17) fun v18 o18 =>
 bd (ret1 (extractS v17 1) o18) fun v19 o19 =>
 bd (allocS tab o19 31) fun v20 o20 =>
 bd (storeO tab o20 31 v20 (some v18)) fun v21 o21 =>
 bd (ret1 (loadS tab o21 31 v11) o21) fun v22 o22 =>
 bd (ret1 (loadS tab o22 46 v12) o22) fun v23 o23 =>
 bd (callS ⟨tab, ownF, K⟩ o23 29 [v22, v23, v10]) fun v24 o24 =>
 bd (ret1 (extractS v24 0) o24) fun v25 o25 =>
 bd (ret1 (extractS v24 1) o25) fun v26 o26 =>
 bd (allocS tab o26 31) fun v27 o27 =>
 bd (storeO tab o27 31 v27 (some v25)) fun v28 o28 =>
 bd (ret1 (binS tab .neq 4 v26 v19) o28) fun v29 o29 =>
 bd (gd v29 false (ret1 (loadS tab o29 31 v27) o29) o29) fun v30 o30 =>
 bd (gd v29 false (ret1 (loadS tab o30 31 v20) o30) o30) fun v31 o31 =>
 bd (gd v29 false (callS ⟨tab, ownF, K⟩ o31 16 [v30, v31]) o31) fun v32 o32 =>
 bd (gd v29 false (ret1 (unS .not v32) o32) o32) fun v33 o33 =>
 bd (ret1 (pickS v29 (SV.v (.bool true)) v33) o33) fun v34 o34 =>
 bd (gd v34 false (ret1 (loadS tab o34 31 v11) o34) o34) fun v35 o35 =>
 bd (gd v34 false (callS ⟨tab, ownF, K⟩ o35 30 [v35]) o35) fun v36 o36 =>
 bd (gd v34 false (ret1 (unS .not v36) o36) o36) fun v37 o37 =>
 bd (ret1 (pickS v34 (SV.v (.bool true)) v37) o37) fun v38 o38 =>
 bd (gd v38 false (some (v10, o38)) o38) fun v39 o39 =>
 bd (gd v38 false (ret1 (binS tab .lss 3 v39 (SV.v (.int .i64 0))) o39) o39) fun v40 o40 =>
 bd (ret1 (pickS v38 (SV.v (.bool true)) v40) o40) fun v41 o41 =>
 bd (gd v41 false (some (v10, o41)) o41) fun v42 o42 =>
 bd (gd v41 false (ret1 (binS tab .gtr 3 v42 (SV.v (.int .i64 60))) o42) o42) fun v43 o43 =>
 bd (ret1 (pickS v41 (SV.v (.bool true)) v43) o43) fun v44 o44 =>
 condS v44 (bd (ret1 (binS tab .eql 4 v26 v19) o44) fun v45 o45 =>
 bd (gd v45 true (ret1 (loadS tab o45 31 v27) o45) o45) fun v46 o46 =>
 bd (gd v45 true (ret1 (loadS tab o46 31 v20) o46) o46) fun v47 o47 =>
 bd (gd v45 true (callS ⟨tab, ownF, K⟩ o47 16 [v46, v47]) o47) fun v48 o48 =>
 bd (ret1 (pickS v45 v48 (SV.v (.bool false))) o48) fun v49 o49 =>
 retV tab nl o49 (resC1 (some v49) (some [])))
 (bd (buildSliceS tab o44 23 0 []) fun v50 o50 =>
 bd (ret1 (fieldAddrS tab 31 v11 0) o50) fun v51 o51 =>
 bd (ret1 (fieldAddrS tab 25 v51 1) o51) fun v52 o52 =>
 bd (ret1 (loadS tab o52 23 v52) o52) fun v53 o53 =>
 bd (ret1 (fieldAddrS tab 31 v11 0) o53) fun v54 o54 =>
 bd (ret1 (fieldAddrS tab 25 v54 2) o54) fun v55 o55 =>
 bd (ret1 (loadS tab o55 3 v55) o55) fun v56 o56 =>
 bd (ret1 (binS tab .sub 3 v56 (SV.v (.int .i64 1))) o56) fun v57 o57 =>
 bd (ret1 (sliceS tab o57 23 v53 none (some v57)) o57) fun v58 o58 =>
 bd (appendS tab o58 23 23 v50 v58) fun v59 o59 =>
 bd (ret1 (loadS tab o59 31 v11) o59) fun v60 o60 =>
 bd (ret1 (fieldAddrS tab 46 v12 0) o60) fun v61 o61 =>
 bd (ret1 (loadS tab o61 29 v61) o61) fun v62 o62 =>
 bd (buildS tab o62 46 [(0, (some v62)), (1, (some v59))]) fun v63 o63 =>
 bd (callS ⟨tab, ownF, K⟩ o63 29 [v60, v63, v10]) fun v64 o64 =>
 bd (ret1 (extractS v64 0) o64) fun v65 o65 =>
 bd (ret1 (extractS v64 1) o65) fun v66 o66 =>
 bd (allocS tab o66 31) fun v67 o67 =>
 bd (storeO tab o67 31 v67 (some v65)) fun v68 o68 =>
 bd (ret1 (fieldAddrS tab 31 v11 0) o68) fun v69 o69 =>
 bd (ret1 (fieldAddrS tab 25 v69 0) o69) fun v70 o70 =>
 bd (ret1 (loadS tab o70 3 v70) o70) fun v71 o71 =>
 bd (ret1 (binS tab .add 3 v71 (SV.v (.int .i64 1))) o71) fun v72 o72 =>
 bd (lenO tab 22 o72 x1) fun v73 o73 =>
 bd (ret1 (binS tab .rem 3 v73 (SV.v (.int .i64 6))) o73) fun v74 o74 =>
 bd (ret1 (binS tab .add 3 (SV.v (.int .i64 1)) v74) o74) fun v75 o75 =>
 bd (buildSliceS tab o75 23 1 [(0, v75)]) fun v76 o76 =>
 bd (buildS tab o76 25 [(0, (some v72)), (1, (some v76)), (2, (some (SV.v (.int .i64 1))))]) fun v77 o77 =>
 bd (allocS tab o77 25) fun v78 o78 =>
 bd (storeO tab o78 25 v78 (some v77)) fun v79 o79 =>
 bd (ret1 (loadS tab o79 31 v11) o79) fun v80 o80 =>
 bd (ret1 (loadS tab o80 25 v78) o80) fun v81 o81 =>
 bd (buildS tab o81 53 [(0, (some v81)), (1, (some v59))]) fun v82 o82 =>
 bd (callS ⟨tab, ownF, K⟩ o82 33 [v80, v82]) fun v83 o83 =>
 bd (ret1 (extractS v83 0) o83) fun v84 o84 =>
 bd (ret1 (extractS v83 1) o84) fun v85 o85 =>
 bd (allocS tab o85 31) fun v86 o86 =>
 bd (storeO tab o86 31 v86 (some v84)) fun v87 o87 =>
 bd (ret1 (unS .not v66) o87) fun v88 o88 =>
 bd (gd v88 true (some (v85, o88)) o88) fun v89 o89 =>
 bd (gd v88 true (ret1 (unS .not v89) o89) o89) fun v90 o90 =>
 bd (ret1 (pickS v88 v90 (SV.v (.bool false))) o90) fun v91 o91 =>
 bd (gd v91 true (ret1 (loadS tab o91 31 v67) o91) o91) fun v92 o92 =>
 bd (gd v91 true (ret1 (loadS tab o92 31 v11) o92) o92) fun v93 o93 =>
 bd (gd v91 true (callS ⟨tab, ownF, K⟩ o93 16 [v92, v93]) o93) fun v94 o94 =>
 bd (ret1 (pickS v91 v94 (SV.v (.bool false))) o94) fun v95 o95 =>
 bd (gd v95 true (ret1 (loadS tab o95 31 v86) o95) o95) fun v96 o96 =>
 bd (gd v95 true (ret1 (loadS tab o96 31 v11) o96) o96) fun v97 o97 =>
 bd (gd v95 true (callS ⟨tab, ownF, K⟩ o97 16 [v96, v97]) o97) fun v98 o98 =>
 bd (ret1 (pickS v95 v98 (SV.v (.bool false))) o98) fun v99 o99 =>
 retV tab nl o99 (resC1 (some v99) (some []))))
noncomputable def X9 (K : Nat → List SV → List SO → Out) (N nl : Nat) (x0 : SV) (os : List SO) : Out := exec (cx K) N nl fi9 c9 [(0, x0)] os (kEnd tab nl rs9)
noncomputable def B9 (K : Nat → List SV → List SO → Out) (N nl : Nat) (x0 : SV) (os : List SO) : Out :=
 bd (lenO tab 22 os x0) fun v1 o1 =>
 bd (ret1 (binS tab .gtr 3 v1 (SV.v (.int .i64 1048576))) o1) fun v2 o2 =>
 condS v2 (retV tab nl o2 (resC1 (some (SV.v (.bool true))) (some [])))
 (bd (callS ⟨tab, ownF, K⟩ o2 34 [x0]) fun v3 o3 =>
 bd (ret1 (extractS v3 0) o3) fun v4 o4 =>
 bd (ret1 (extractS v3 1) o4) fun v5 o5 =>
 bd (allocS tab o5 31) fun v6 o6 =>
 bd (allocS tab o6 53) fun v7 o7 =>
 bd (storeO tab o7 31 v6 (some v4)) fun v8 o8 =>
 bd (storeO tab o8 53 v7 (some v5)) fun v9 o9 =>
 bd (ret1 (loadS tab o9 31 v6) o9) fun v10 o10 =>
 bd (ret1 (loadS tab o10 53 v7) o10) fun v11 o11 =>
 bd (callS ⟨tab, ownF, K⟩ o11 35 [v10, v11]) fun v12 o12 =>
 bd (ret1 (extractS v12 0) o12) fun v13 o13 =>
 bd (ret1 (extractS v12 1) o13) fun v14 o14 =>
 bd (allocS tab o14 31) fun v15 o15 =>
 bd (storeO tab o15 31 v15 (some v13)) fun v16 o16 =>
 bd (ret1 (loadS tab o16 31 v6) o16) fun v17 o17 =>
 bd (ret1 (loadS tab o17 53 v7) o17) fun v18 o18 =>
 bd (callS ⟨tab, ownF, K⟩ o18 33 [v17, v18]) fun v19 o19 =>
 bd (ret1 (extractS v19 0) o19) fun v20 o20 =>
 bd (ret1 (extractS v19 1) o20) fun v21 o21 =>
 bd (allocS tab o21 31) fun v22 o22 =>
 bd (storeO tab o22 31 v22 (some v20)) fun v23 o23 =>
 bd (ret1 (binS tab .neq 4 v21 v14) o23) fun v24 o24 =>
 bd (gd v24 false (ret1 (loadS tab o24 31 v22) o24) o24) fun v25 o25 =>
 bd (gd v24 false (ret1 (loadS tab o25 31 v15) o25) o25) fun v26 o26 =>
 bd (gd v24 false (callS ⟨tab, ownF, K⟩ o26 16 [v25, v26]) o26) fun v27 o27 =>
 bd (gd v24 false (ret1 (unS .not v27) o27) o27) fun v28 o28 =>
 bd (ret1 (pickS v24 (SV.v (.bool true)) v28) o28) fun v29 o29 =>
 bd (gd v29 false (ret1 (loadS tab o29 31 v6) o29) o29) fun v30 o30 =>
 bd (gd v29 false (callS ⟨tab, ownF, K⟩ o30 30 [v30]) o30) fun v31 o31 =>
 bd (gd v29 false (ret1 (unS .not v31) o31) o31) fun v32 o32 =>
 bd (ret1 (pickS v29 (SV.v (.bool true)) v32) o32) fun v33 o33 =>
 condS v33 (bd (ret1 (binS tab .eql 4 v21 v14) o33) fun v34 o34 =>
 bd (gd v34 true (ret1 (loadS tab o34 31 v22) o34) o34) fun v35 o35 =>
 bd (gd v34 true (ret1 (loadS tab o35 31 v15) o35) o35) fun v36 o36 =>
 bd (gd v34 true (callS ⟨tab, ownF, K⟩ o36 16 [v35, v36]) o36) fun v37 o37 =>
 bd (ret1 (pickS v34 v37 (SV.v (.bool false))) o37) fun v38 o38 =>
 retV tab nl o38 (resC1 (some v38) (some [])))
 (bd (ret1 (unS .not v21) o33) fun v39 o39 =>
 condS v39 (bd (ret1 (fieldAddrS tab 31 v6 0) o39) fun v40 o40 =>
 bd (ret1 (loadS tab o40 25 v40) o40) fun v41 o41 =>
 bd (ret1 (loadS tab o41 53 v7) o41) fun v42 o42 =>
 bd (callS ⟨tab, ownF, K⟩ o42 36 [v41, v42]) fun v43 o43 =>
 bd (ret1 (unS .not v43) o43) fun v44 o44 =>
 bd (gd v44 true (ret1 (loadS tab o44 31 v22) o44) o44) fun v45 o45 =>
 bd (gd v44 true (ret1 (loadS tab o45 31 v6) o45) o45) fun v46 o46 =>
 bd (gd v44 true (callS ⟨tab, ownF, K⟩ o46 16 [v45, v46]) o46) fun v47 o47 =>
 bd (ret1 (pickS v44 v47 (SV.v (.bool false))) o47) fun v48 o48 =>
 retV tab nl o48 (resC1 (some v48) (some [])))
 (bd (ret1 (loadS tab o39 31 v22) o39) fun v49 o49 =>
 bd (ret1 (loadS tab o49 53 v7) o49) fun v50 o50 =>
 bd (callS ⟨tab, ownF, K⟩ o50 33 [v49, v50]) fun v51 o51 =>
 bd (ret1 (extractS v51 0) o51) fun v52 o52 =>
 bd (ret1 (extractS v51 1) o52) fun v53 o53 =>
 bd (allocS tab o53 31) fun v54 o54 =>
 bd (storeO tab o54 31 v54 (some v52)) fun v55 o55 =>
 bd (ret1 (fieldAddrS tab 31 v6 0) o55) fun v56 o56 =>
 bd (ret1 (loadS tab o56 25 v56) o56) fun v57 o57 =>
 bd (ret1 (loadS tab o57 53 v7) o57) fun v58 o58 =>
 bd (callS ⟨tab, ownF, K⟩ o58 36 [v57, v58]) fun v59 o59 =>
 bd (gd v59 true (ret1 (fieldAddrS tab 31 v22 0) o59) o59) fun v60 o60 =>
 bd (gd v59 true (ret1 (loadS tab o60 25 v60) o60) o60) fun v61 o61 =>
 bd (gd v59 true (ret1 (fieldAddrS tab 53 v7 0) o61) o61) fun v62 o62 =>
 bd (gd v59 true (ret1 (loadS tab o62 25 v62) o62) o62) fun v63 o63 =>
 bd (gd v59 true (callS ⟨tab, ownF, K⟩ o63 18 [v61, v63]) o63) fun v64 o64 =>
 bd (ret1 (pickS v59 v64 (SV.v (.bool false))) o64) fun v65 o65 =>
 bd (gd v65 true (ret1 (fieldAddrS tab 31 v22 1) o65) o65) fun v66 o66 =>
 bd (gd v65 true (ret1 (loadS tab o66 4 v66) o66) o66) fun v67 o67 =>
 bd (gd v65 true (ret1 (fieldAddrS tab 31 v6 1) o67) o67) fun v68 o68 =>
 bd (gd v65 true (ret1 (loadS tab o68 4 v68) o68) o68) fun v69 o69 =>
 bd (gd v65 true (ret1 (binS tab .eql 4 v67 v69) o69) o69) fun v70 o70 =>
 bd (ret1 (pickS v65 v70 (SV.v (.bool false))) o70) fun v71 o71 =>
 bd (gd v71 true (ret1 (fieldAddrS tab 31 v22 2) o71) o71) fun v72 o72 =>
 bd (gd v71 true (ret1 (loadS tab o72 29 v72) o72) o72) fun v73 o73 =>
 bd (gd v71 true (ret1 (fieldAddrS tab 31 v6 2) o73) o73) fun v74 o74 =>
 bd (gd v71 true (ret1 (loadS tab o74 29 v74) o74) o74) fun v75 o75 =>
 bd (gd v71 true (callS ⟨tab, ownF, K⟩ o75 32 [v73, v75]) o75) fun v76 o76 =>
 bd (ret1 (pickS v71 v76 (SV.v (.bool false))) o76) fun v77 o77 =>
 bd (gd v77 true (some (v53, o77)) o77) fun v78 o78 =>
 bd (gd v77 true (ret1 (unS .not v78) o78) o78) fun v79 o79 =>
 bd (ret1 (pickS v77 v79 (SV.v (.bool false))) o79) fun v80 o80 =>
 bd (gd v80 true (ret1 (loadS tab o80 31 v22) o80) o80) fun v81 o81 =>
 bd (gd v80 true (callS ⟨tab, ownF, K⟩ o81 17 [v81]) o81) fun v82 o82 =>
 bd (ret1 (pickS v80 v82 (SV.v (.bool false))) o82) fun v83 o83 =>
 retV tab nl o83 (resC1 (some v83) (some [])))))
noncomputable def bk10_12 (K : Nat → List SV → List SO → Out) (N nl : Nat) (m12 : Nat) : Env → List SO → Out := fun env os => loopS nl (fi10.lp 12) (fun env os nx => exec (cx K) N nl fi10 (subC c10 [1, 1, 1, 1, 1, 1, 1, 1, 1, 0, 1, 0, 0]) env os (kLoop nx (kBlock 0 (kSeq (exec (cx K) N nl fi10 (subC c10 [1, 1, 1, 1, 1, 1, 1, 1, 1, 1])) (fi10.jn 15) (kEnd tab nl rs10))))) m12 (killS (fi10.lp 12).alive env) os
noncomputable def L10_12 (K : Nat → List SV → List SO → Out) (N nl : Nat) (m12 : Nat) (x5 x9 x11 x12 x13 : SV) (os : List SO) : Out := loopS nl (fi10.lp 12) (fun env os nx => exec (cx K) N nl fi10 (subC c10 [1, 1, 1, 1, 1, 1, 1, 1, 1, 0, 1, 0, 0]) env os (kLoop nx (kBlock 0 (kSeq (exec (cx K) N nl fi10 (subC c10 [1, 1, 1, 1, 1, 1, 1, 1, 1, 1])) (fi10.jn 15) (kEnd tab nl rs10))))) m12 [(5, x5), (9, x9), (11, x11), (12, x12), (13, x13)] os
noncomputable def G10_12 (K : Nat → List SV → List SO → Out) (N nl : Nat) (m12 : Nat) (xs : List SV) (os : List SO) : Out := (fun env os nx => exec (cx K) N nl fi10 (subC c10 [1, 1, 1, 1, 1, 1, 1, 1, 1, 0, 1, 0, 0]) env os (kLoop nx (kBlock 0 (kSeq (exec (cx K) N nl fi10 (subC c10 [1, 1, 1, 1, 1, 1, 1, 1, 1, 1])) (fi10.jn 15) (kEnd tab nl rs10))))) (zipE [5, 9, 11, 12, 13] xs) os (bk10_12 K N nl m12)
noncomputable def GB10_12 (K : Nat → List SV → List SO → Out) (N nl : Nat) (m12 : Nat) (x5 x9 x11 x12 x13 : SV) (os : List SO) : Out :=
 bd (ret1 (binS tab .leq 3 x13 (SV.v (.int .i64 6))) os) fun v57 o57 =>
 condS v57 (bd (buildSliceS tab o57 23 1 [(0, x13)]) fun v58 o58 =>
 bd (appendS tab o58 23 23 x12 v58) fun v59 o59 =>
 bd (ret1 (binS tab .add 3 x13 (SV.v (.int .i64 1))) o59) fun v60 o60 =>
 L10_12 K N nl m12 x5 x9 x11 v59 v60 o60)
 (bd (ret1 (loadS tab o57 25 x11) o57) fun v61 o61 =>
 bd (buildS tab o61 53 [(0, (some v61)), (1, (some x12))]) fun v62 o62 =>
 bd (allocS tab o62 53) fun v63 o63 =>
 bd (storeO tab o63 53 v63 (some v62)) fun v64 o64 =>
 bd (ret1 (loadS tab o64 31 x5) o64) fun v65 o65 =>
 bd (ret1 (loadS tab o65 53 v63) o65) fun v66 o66 =>
 bd (callS ⟨tab, ownF, K⟩ o66 33 [v65, v66]) fun v67 o67 =>
 bd (ret1 (extractS v67 0) o67) fun v68 o68 =>
 bd (ret1 (extractS v67 1) o68) fun v69 o69 =>
 bd (allocS tab o69 31) fun v70 o70 =>
 bd (storeO tab o70 31 v70 (some v68)) fun v71 o71 =>
 bd (ret1 (loadS tab o71 31 x9) o71) fun v72 o72 =>
 bd (ret1 (loadS tab o72 53 v63) o72) fun v73 o73 =>
 bd (callS ⟨tab, ownF, K⟩ o73 33 [v72, v73]) fun v74 o74 =>
 bd (ret1 (extractS v74 0) o74) fun v75 o75 =>
 bd (ret1 (extractS v74 1) o75) fun v76 o76 =>
 bd (allocS tab o76 31) fun v77 o77 =>
 bd (storeO tab o77 31 v77 (some v75)) fun v78 o78 =>
 bd (ret1 (unS .not v69) o78) fun v79 o79 =>
 bd (gd v79 true (some (v76, o79)) o79) fun v80 o80 =>
 bd (gd v79 true (ret1 (loadS tab o80 25 x11) o80) o80) fun v81 o81 =>
 bd (gd v79 true (callS ⟨tab, ownF, K⟩ o81 37 [v81]) o81) fun v82 o82 =>
 bd (gd v79 true (ret1 (binS tab .eql 4 v80 v82) o82) o82) fun v83 o83 =>
 bd (ret1 (pickS v79 v83 (SV.v (.bool false))) o83) fun v84 o84 =>
 bd (gd v84 true (some (v76, o84)) o84) fun v85 o85 =>
 bd (gd v84 true (ret1 (unS .not v85) o85) o85) fun v86 o86 =>
 bd (gd v84 true (some (v86, o86)) o86) fun v87 o87 =>
 bd (gd v87 false (ret1 (fieldAddrS tab 31 v77 0) o87) o87) fun v88 o88 =>
 bd (gd v87 false (ret1 (loadS tab o88 25 v88) o88) o88) fun v89 o89 =>
 bd (gd v87 false (ret1 (loadS tab o89 25 x11) o89) o89) fun v90 o90 =>
 bd (gd v87 false (callS ⟨tab, ownF, K⟩ o90 18 [v89, v90]) o90) fun v91 o91 =>
 bd (gd v84 true (ret1 (pickS v87 (SV.v (.bool true)) v91) o91) o91) fun v92 o92 =>
 bd (ret1 (pickS v84 v92 (SV.v (.bool false))) o92) fun v93 o93 =>
 retV tab nl o93 (resC1 (some v93) (some [])))
noncomputable def X10 (K : Nat → List SV → List SO → Out) (N nl : Nat) (x0 x1 : SV) (os : List SO) : Out := exec (cx K) N nl fi10 c10 [(0, x0), (1, x1)] os (kEnd tab nl rs10)
noncomputable def B10 (K : Nat → List SV → List SO → Out) (N nl : Nat) (x0 x1 : SV) (os : List SO) : Out :=
 bd (lenO tab 22 os x0) fun v1 o1 =>
 bd (ret1 (binS tab .gtr 3 v1 (SV.v (.int .i64 1048576))) o1) fun v2 o2 =>
 bd (gd v2 false (some (x1, o2)) o2) fun v3 o3 =>
 bd (gd v2 false (lenO tab 22 o3 v3) o3) fun v4 o4 =>
 bd (gd v2 false (ret1 (binS tab .gtr 3 v4 (SV.v (.int .i64 1048576))) o4) o4) fun v5 o5 =>
 bd (ret1 (pickS v2 (SV.v (.bool true)) v5) o5) fun v6 o6 =>
 condS v6 (retV tab nl o6 (resC1 (some (SV.v (.bool true))) (some [])))
 (bd (callS ⟨tab, ownF, K⟩ o6 34 [x0]) fun v7 o7 =>
 bd (ret1 (extractS v7 0) o7) fun v8 o8 =>
 bd (ret1 (extractS v7 1) o8) fun v9 o9 =>
 bd (allocS tab o9 31) fun v10 o10 =>
 bd (allocS tab o10 53) fun v11 o11 =>
 bd (storeO tab o11 31 v10 (some v8)) fun v12 o12 =>
 bd (storeO tab o12 53 v11 (some v9)) fun v13 o13 =>
 bd (ret1 (loadS tab o13 31 v10) o13) fun v14 o14 =>
 bd (ret1 (loadS tab o14 53 v11) o14) fun v15 o15 =>
 bd (callS ⟨tab, ownF, K⟩ o15 35 [v14, v15]) fun v16 o16 =>
 bd (ret1 (extractS v16 0) o16) fun v17 o17 =>
 bd (ret1 (extractS v16 1) o17) fun v18 o18 =>
 bd (allocS tab o18 31) fun v19 o19 =>
 bd (storeO tab o19 31 v19 (some v17)) fun v20 o20 =>
 bd (ret1 (loadS tab o20 31 v10) o20) fun v21 o21 =>
 bd (ret1 (loadS tab o21 53 v11) o21) fun v22 o22 =>
 bd (callS ⟨tab, ownF, K⟩ o22 33 [v21, v22]) fun v23 o23 =>
 bd (ret1 (extractS v23 0) o23) fun v24 o24 =>
 bd (ret1 (extractS v23 1) o24) fun v25 o25 =>
 bd (allocS tab o25 31) fun v26 o26 =>
 bd (storeO tab o26 31 v26 (some v24)) fun v27 o27 =>
 bd (ret1 (binS tab .neq 4 v25 v18) o27) fun v28 o28 =>
 bd (gd v28 false (ret1 (loadS tab o28 31 v26) o28) o28) fun v29 o29 =>
 bd (gd v28 false (ret1 (loadS tab o29 31 v19) o29) o29) fun v30 o30 =>
 bd (gd v28 false (callS ⟨tab, ownF, K⟩ o30 16 [v29, v30]) o30) fun v31 o31 =>
 bd (gd v28 false (ret1 (unS .not v31) o31) o31) fun v32 o32 =>
 bd (ret1 (pickS v28 (SV.v (.bool true)) v32) o32) fun v33 o33 =>
 bd (gd v33 false (some (v25, o33)) o33) fun v34 o34 =>
 bd (gd v33 false (ret1 (unS .not v34) o34) o34) fun v35 o35 =>
 bd (ret1 (pickS v33 (SV.v (.bool true)) v35) o35) fun v36 o36 =>
 bd (gd v36 false (ret1 (fieldAddrS tab 53 v11 0) o36) o36) fun v37 o37 =>
 bd (gd v36 false (ret1 (fieldAddrS tab 25 v37 0) o37) o37) fun v38 o38 =>
 bd (gd v36 false (ret1 (loadS tab o38 3 v38) o38) o38) fun v39 o39 =>
 bd (gd v36 false (ret1 (binS tab .eql 3 v39 (SV.v (.int .i64 9))) o39) o39) fun v40 o40 =>
 bd (ret1 (pickS v36 (SV.v (.bool true)) v40) o40) fun v41 o41 =>
 condS v41 (bd (ret1 (binS tab .eql 4 v25 v18) o41) fun v42 o42 =>
 bd (gd v42 true (ret1 (loadS tab o42 31 v26) o42) o42) fun v43 o43 =>
 bd (gd v42 true (ret1 (loadS tab o43 31 v19) o43) o43) fun v44 o44 =>
 bd (gd v42 true (callS ⟨tab, ownF, K⟩ o44 16 [v43, v44]) o44) fun v45 o45 =>
 bd (ret1 (pickS v42 v45 (SV.v (.bool false))) o45) fun v46 o46 =>
 retV tab nl o46 (resC1 (some v46) (some [])))
 (bd (callS ⟨tab, ownF, K⟩ o41 13 [x1]) fun v47 o47 =>
 bd (allocS tab o47 25) fun v48 o48 =>
 bd (storeO tab o48 25 v48 (some v47)) fun v49 o49 =>
 bd (ret1 (fieldAddrS tab 53 v11 0) o49) fun v50 o50 =>
 bd (ret1 (fieldAddrS tab 25 v50 0) o50) fun v51 o51 =>
 bd (ret1 (loadS tab o51 3 v51) o51) fun v52 o52 =>
 bd (ret1 (binS tab .add 3 v52 (SV.v (.int .i64 1))) o52) fun v53 o53 =>
 bd (ret1 (fieldAddrS tab 25 v48 0) o53) fun v54 o54 =>
 bd (storeO tab o54 3 v54 (some v53)) fun v55 o55 =>
 bd (buildSliceS tab o55 23 0 []) fun v56 o56 =>
 L10_12 K N nl N v10 v26 v48 v56 (SV.v (.int .i64 1)) o56))
noncomputable def J11_9 (K : Nat → List SV → List SO → Out) (N nl : Nat) (x2 x3 x4 x8 x9 : SV) (os : List SO) : Out := exec (cx K) N nl fi11 (subC c11 [1, 1, 1, 1, 1, 1, 1]) [(2, x2), (3, x3), (4, x4), (8, x8), (9, x9)] os (kEnd tab nl rs11)
noncomputable def J11_32 (K : Nat → List SV → List SO → Out) (N nl : Nat) (x8 x9 x12 x15 x17 x18 : SV) (os : List SO) : Out := exec (cx K) N nl fi11 (subC c11 [1, 1, 1, 1, 1, 1, 1, 1, 1, 1, 1, 1, 1, 1, 1, 1, 1, 1, 1, 1, 1, 1, 1, 1]) [(8, x8), (9, x9), (12, x12), (15, x15), (17, x17), (18, x18)] os (kEnd tab nl rs11)
noncomputable def JB11_9 (K : Nat → List SV → List SO → Out) (N nl : Nat) (x2 x3 x4 x8 x9 : SV) (os : List SO) : Out :=
 bd (ret1 (loadS tab os 64 x3) os) fun v45 o45 =>
 bd (callS ⟨tab, ownF, K⟩ o45 40 [v45]) fun v46 o46 =>
 bd (allocS tab o46 31) fun v47 o47 =>
 bd (storeO tab o47 31 v47 (some v46)) fun v48 o48 =>
 bd (ret1 (loadS tab o48 66 x4) o48) fun v49 o49 =>
 bd (callS ⟨tab, ownF, K⟩ o49 41 [v49]) fun v50 o50 =>
 bd (allocS tab o50 46) fun v51 o51 =>
 bd (storeO tab o51 46 v51 (some v50)) fun v52 o52 =>
 bd (ret1 (loadS tab o52 31 v47) o52) fun v53 o53 =>
 bd (ret1 (loadS tab o53 46 v51) o53) fun v54 o54 =>
 bd (callS ⟨tab, ownF, K⟩ o54 29 [v53, v54, x2]) fun v55 o55 =>
 bd (ret1 (extractS v55 0) o55) fun v56 o56 =>
 bd (ret1 (extractS v55 1) o56) fun v57 o57 =>
 bd (allocS tab o57 31) fun v58 o58 =>
 bd (storeO tab o58 31 v58 (some v56)) fun v59 o59 =>
 bd (ret1 (loadS tab o59 31 v58) o59) fun v60 o60 =>
 bd (ret1 (loadS tab o60 31 x8) o60) fun v61 o61 =>
 bd (callS ⟨tab, ownF, K⟩ o61 22 [v60, v61]) fun v62 o62 =>
 bd (ret1 (unS .not v62) o62) fun v63 o63 =>
 bd (gd v63 false (some (v57, o63)) o63) fun v64 o64 =>
 bd (gd v63 false (some (x9, o64)) o64) fun v65 o65 =>
 bd (gd v63 false (ret1 (binS tab .neq 4 v64 v65) o65) o65) fun v66 o66 =>
 bd (ret1 (pickS v63 (SV.v (.bool true)) v66) o66) fun v67 o67 =>
 condS v67 (retV tab nl o67 (resC1 (some (SV.v (.bool false))) (some [])))
 (dchk (isBox v47) <|
 bd (ret1 (loadS tab o67 31 v47) o67) fun v68 o68 =>
 bd (ret1 (loadS tab o68 64 x3) o68) fun v69 o69 =>
 dchk (keepOk ⟨tab, ownF, K⟩ o69 (SV.fn 40 []) [v69] [v47] false) <|
 bd (callS ⟨tab, ownF, K⟩ o69 40 [v69]) fun v70 o70 =>
 bd (callS ⟨tab, ownF, K⟩ o70 22 [v68, v70]) fun v71 o71 =>
 bd (ret1 (unS .not v71) o71) fun v72 o72 =>
 condS v72 (retV tab nl o72 (resC1 (some (SV.v (.bool false))) (some [])))
 (dchk (isBox v51) <|
 bd (ret1 (loadS tab o72 46 v51) o72) fun v73 o73 =>
 bd (ret1 (loadS tab o73 66 x4) o73) fun v74 o74 =>
 dchk (keepOk ⟨tab, ownF, K⟩ o74 (SV.fn 41 []) [v74] [v51] false) <|
 bd (callS ⟨tab, ownF, K⟩ o74 41 [v74]) fun v75 o75 =>
 bd (callS ⟨tab, ownF, K⟩ o75 42 [v73, v75]) fun v76 o76 =>
 bd (ret1 (unS .not v76) o76) fun v77 o77 =>
 condS v77 (retV tab nl o77 (resC1 (some (SV.v (.bool false))) (some [])))
 (bd (ret1 (loadS tab o77 31 v47) o77) fun v78 o78 =>
 bd (callS ⟨tab, ownF, K⟩ o78 25 [v78, (SV.v (.int .i64 1))]) fun v79 o79 =>
 bd (ret1 (loadS tab o79 46 v51) o79) fun v80 o80 =>
 bd (callS ⟨tab, ownF, K⟩ o80 43 [v80, v79]) fun v81 o81 =>
 bd (ret1 (binS tab .lss 3 v81 (SV.v (.int .i64 0))) o81) fun v82 o82 =>
 bd (gd v82 false (ret1 (loadS tab o82 31 v58) o82) o82) fun v83 o83 =>
 bd (gd v82 false (ret1 (loadS tab o83 31 x8) o83) o83) fun v84 o84 =>
 bd (gd v82 false (callS ⟨tab, ownF, K⟩ o84 22 [v83, v84]) o84) fun v85 o85 =>
 bd (gd v82 false (ret1 (unS .not v85) o85) o85) fun v86 o86 =>
 bd (ret1 (pickS v82 (SV.v (.bool true)) v86) o86) fun v87 o87 =>
 bd (gd v87 false (some (v57, o87)) o87) fun v88 o88 =>
 bd (gd v87 false (some (x9, o88)) o88) fun v89 o89 =>
 bd (gd v87 false (ret1 (binS tab .neq 4 v88 v89) o89) o89) fun v90 o90 =>
 bd (ret1 (pickS v87 (SV.v (.bool true)) v90) o90) fun v91 o91 =>
 condS v91 (retV tab nl o91 (resC1 (some (SV.v (.bool false))) (some [])))
 (bd (ret1 (loadS tab o91 31 v58) o91) fun v92 o92 =>
 bd (callS ⟨tab, ownF, K⟩ o92 25 [v92, (SV.v (.int .i64 1))]) fun v93 o93 =>
 bd (ret1 (loadS tab o93 31 v58) o93) fun v94 o94 =>
 bd (callS ⟨tab, ownF, K⟩ o94 26 [v94, (SV.v (.int .i64 1))]) fun v95 o95 =>
 bd (ret1 (binS tab .lss 3 v95 (SV.v (.int .i64 0))) o95) fun v96 o96 =>
 condS v96 (retV tab nl o96 (resC1 (some (SV.v (.bool false))) (some [])))
 (bd (ret1 (binS tab .neq 3 v95 v93) o96) fun v97 o97 =>
 condS v97 (retV tab nl o97 (resC1 (some (SV.v (.bool false))) (some [])))
 (both (both (both (bd (ret1 (loadS tab o97 64 x3) o97) fun v98 o98 =>
 dchk (keepOk ⟨tab, ownF, K⟩ o98 (SV.fn 40 []) [v98] [] true) <|
 bd (callS ⟨tab, ownF, K⟩ o98 40 [v98]) fun v99 o99 =>
 dchk (isBox x4) <|
 bd (ret1 (loadS tab o99 66 x4) o99) fun v100 o100 =>
 bd (callS ⟨tab, ownF, K⟩ o100 41 [v100]) fun v101 o101 =>
 bd (callS ⟨tab, ownF, K⟩ o101 29 [v99, v101, x2]) fun v102 o102 =>
 bd (ret1 (extractS v102 0) o102) fun v103 o103 =>
 bd (ret1 (extractS v102 1) o103) fun v104 o104 =>
 bd (allocS tab o104 31) fun v105 o105 =>
 bd (storeO tab o105 31 v105 (some v103)) fun v106 o106 =>
 J11_32 K N nl x8 x9 v58 v93 v105 v104 o106)
 (bd (ret1 (loadS tab o97 64 x3) o97) fun v107 o107 =>
 dchk (keepOk ⟨tab, ownF, K⟩ o107 (SV.fn 40 []) [v107] [] true) <|
 bd (callS ⟨tab, ownF, K⟩ o107 40 [v107]) fun v108 o108 =>
 dchk (isBox x4) <|
 bd (ret1 (loadS tab o108 66 x4) o108) fun v109 o109 =>
 bd (callS ⟨tab, ownF, K⟩ o109 41 [v109]) fun v110 o110 =>
 bd (allocS tab o110 31) fun v111 o111 =>
 bd (callS ⟨tab, ownF, K⟩ o111 29 [v108, v110, x2]) fun v112 o112 =>
 bd (ret1 (extractS v112 0) o112) fun v113 o113 =>
 bd (ret1 (extractS v112 1) o113) fun v114 o114 =>
 bd (storeO tab o114 31 v111 (some v113)) fun v115 o115 =>
 J11_32 K N nl x8 x9 v58 v93 v111 v114 o115))
 (bd (ret1 (loadS tab o97 64 x3) o97) fun v116 o116 =>
 dchk (keepOk ⟨tab, ownF, K⟩ o116 (SV.fn 40 []) [v116] [] true) <|
 bd (callS ⟨tab, ownF, K⟩ o116 40 [v116]) fun v117 o117 =>
 dchk (isBox x4) <|
 bd (ret1 (loadS tab o117 66 x4) o117) fun v118 o118 =>
 bd (allocS tab o118 31) fun v119 o119 =>
 bd (callS ⟨tab, ownF, K⟩ o119 41 [v118]) fun v120 o120 =>
 bd (callS ⟨tab, ownF, K⟩ o120 29 [v117, v120, x2]) fun v121 o121 =>
 bd (ret1 (extractS v121 0) o121) fun v122 o122 =>
 bd (ret1 (extractS v121 1) o122) fun v123 o123 =>
 bd (storeO tab o123 31 v119 (some v122)) fun v124 o124 =>
 J11_32 K N nl x8 x9 v58 v93 v119 v123 o124))
 (dchk (isBox x3) <|
 bd (ret1 (loadS tab o97 64 x3) o97) fun v125 o125 =>
 dchk (isBox x4) <|
 bd (ret1 (loadS tab o125 66 x4) o125) fun v126 o126 =>
 bd (allocS tab o126 31) fun v127 o127 =>
 dchk (keepOk ⟨tab, ownF, K⟩ o127 (SV.fn 40 []) [v125] [x4] false) <|
 bd (callS ⟨tab, ownF, K⟩ o127 40 [v125]) fun v128 o128 =>
 bd (callS ⟨tab, ownF, K⟩ o128 41 [v126]) fun v129 o129 =>
 bd (callS ⟨tab, ownF, K⟩ o129 29 [v128, v129, x2]) fun v130 o130 =>
 bd (ret1 (extractS v130 0) o130) fun v131 o131 =>
 bd (ret1 (extractS v130 1) o131) fun v132 o132 =>
 bd (storeO tab o132 31 v127 (some v131)) fun v133 o133 =>
 J11_32 K N nl x8 x9 v58 v93 v127 v132 o133)))))))
noncomputable def JB11_32 (K : Nat → List SV → List SO → Out) (N nl : Nat) (x8 x9 x12 x15 x17 x18 : SV) (os : List SO) : Out :=
 bd (ret1 (loadS tab os 31 x17) os) fun v134 o134 =>
 bd (ret1 (loadS tab o134 31 x8) o134) fun v135 o135 =>
 bd (callS ⟨tab, ownF, K⟩ o135 22 [v134, v135]) fun v136 o136 =>
 bd (ret1 (unS .not v136) o136) fun v137 o137 =>
 bd (gd v137 false (some (x18, o137)) o137) fun v138 o138 =>
 bd (gd v137 false (some (x9, o138)) o138) fun v139 o139 =>
 bd (gd v137 false (ret1 (binS tab .neq 4 v138 v139) o139) o139) fun v140 o140 =>
 bd (ret1 (pickS v137 (SV.v (.bool true)) v140) o140) fun v141 o141 =>
 condS v141 (retV tab nl o141 (resC1 (some (SV.v (.bool false))) (some [])))
 (bd (ret1 (loadS tab o141 31 x12) o141) fun v142 o142 =>
 bd (callS ⟨tab, ownF, K⟩ o142 26 [v142, (SV.v (.int .i64 1))]) fun v143 o143 =>
 bd (ret1 (binS tab .lss 3 v143 (SV.v (.int .i64 0))) o143) fun v144 o144 =>
 condS v144 (retV tab nl o144 (resC1 (some (SV.v (.bool false))) (some [])))
 (bd (ret1 (binS tab .neq 3 v143 x15) o144) fun v145 o145 =>
 condS v145 (retV tab nl o145 (resC1 (some (SV.v (.bool false))) (some [])))
 (retV tab nl o145 (resC1 (some (SV.v (.bool true))) (some [])))))
noncomputable def X11 (K : Nat → List SV → List SO → Out) (N nl : Nat) (x0 x1 x2 : SV) (os : List SO) : Out := exec (cx K) N nl fi11 c11 [(0, x0), (1, x1), (2, x2)] os (kEnd tab nl rs11)
noncomputable def B11 (K : Nat → List SV → List SO → Out) (N nl : Nat) (x0 x1 x2 : SV) (os : List SO) : Out :=
 bd (boxS tab os 64 (some x0)) fun v1 o1 =>
 bd (boxS tab o1 66 (some x1)) fun v2 o2 =>
 bd (ret1 (loadS tab o2 64 v1) o2) fun v3 o3 =>
 bd (callS ⟨tab, ownF, K⟩ o3 38 [v3, (SV.v (.int .i64 1048576))]) fun v4 o4 =>
 bd (ret1 (binS tab .lss 3 v4 (SV.v (.int .i64 0))) o4) fun v5 o5 =>
 condS v5 (retV tab nl o5 (resC1 (some (SV.v (.bool true))) (some [])))
 (bd (ret1 (loadS tab o5 66 v2) o5) fun v6 o6 =>
 bd (callS ⟨tab, ownF, K⟩ o6 39 [v6, v4]) fun v7 o7 =>
 bd (ret1 (binS tab .lss 3 v7 (SV.v (.int .i64 0))) o7) fun v8 o8 =>
 condS v8 (retV tab nl o8 (resC1 (some (SV.v (.bool true))) (some [])))
 (both (both (both (bd (ret1 (loadS tab o8 64 v1) o8) fun v9 o9 =>
 dchk (keepOk ⟨tab, ownF, K⟩ o9 (SV.fn 40 []) [v9] [] true) <|
 bd (callS ⟨tab, ownF, K⟩ o9 40 [v9]) fun v10 o10 =>
 dchk (isBox v2) <|
 bd (ret1 (loadS tab o10 66 v2) o10) fun v11 o11 =>
 bd (callS ⟨tab, ownF, K⟩ o11 41 [v11]) fun v12 o12 =>
 bd (callS ⟨tab, ownF, K⟩ o12 28 [v10, v12, x2]) fun v13 o13 =>
 bd (ret1 (extractS v13 0) o13) fun v14 o14 =>
 bd (ret1 (extractS v13 1) o14) fun v15 o15 =>
 bd (allocS tab o15 31) fun v16 o16 =>
 bd (storeO tab o16 31 v16 (some v14)) fun v17 o17 =>
 J11_9 K N nl x2 v1 v2 v16 v15 o17)
 (bd (ret1 (loadS tab o8 64 v1) o8) fun v18 o18 =>
 dchk (keepOk ⟨tab, ownF, K⟩ o18 (SV.fn 40 []) [v18] [] true) <|
 bd (callS ⟨tab, ownF, K⟩ o18 40 [v18]) fun v19 o19 =>
 dchk (isBox v2) <|
 bd (ret1 (loadS tab o19 66 v2) o19) fun v20 o20 =>
 bd (callS ⟨tab, ownF, K⟩ o20 41 [v20]) fun v21 o21 =>
 bd (allocS tab o21 31) fun v22 o22 =>
 bd (callS ⟨tab, ownF, K⟩ o22 28 [v19, v21, x2]) fun v23 o23 =>
 bd (ret1 (extractS v23 0) o23) fun v24 o24 =>
 bd (ret1 (extractS v23 1) o24) fun v25 o25 =>
 bd (storeO tab o25 31 v22 (some v24)) fun v26 o26 =>
 J11_9 K N nl x2 v1 v2 v22 v25 o26))
 (bd (ret1 (loadS tab o8 64 v1) o8) fun v27 o27 =>
 dchk (keepOk ⟨tab, ownF, K⟩ o27 (SV.fn 40 []) [v27] [] true) <|
 bd (callS ⟨tab, ownF, K⟩ o27 40 [v27]) fun v28 o28 =>
 dchk (isBox v2) <|
 bd (ret1 (loadS tab o28 66 v2) o28) fun v29 o29 =>
 bd (allocS tab o29 31) fun v30 o30 =>
 bd (callS ⟨tab, ownF, K⟩ o30 41 [v29]) fun v31 o31 =>
 bd (callS ⟨tab, ownF, K⟩ o31 28 [v28, v31, x2]) fun v32 o32 =>
 bd (ret1 (extractS v32 0) o32) fun v33 o33 =>
 bd (ret1 (extractS v32 1) o33) fun v34 o34 =>
 bd (storeO tab o34 31 v30 (some v33)) fun v35 o35 =>
 J11_9 K N nl x2 v1 v2 v30 v34 o35))
 (dchk (isBox v1) <|
 bd (ret1 (loadS tab o8 64 v1) o8) fun v36 o36 =>
 dchk (isBox v2) <|
 bd (ret1 (loadS tab o36 66 v2) o36) fun v37 o37 =>
 bd (allocS tab o37 31) fun v38 o38 =>
 dchk (keepOk ⟨tab, ownF, K⟩ o38 (SV.fn 40 []) [v36] [v2] false) <|
 bd (callS ⟨tab, ownF, K⟩ o38 40 [v36]) fun v39 o39 =>
 bd (callS ⟨tab, ownF, K⟩ o39 41 [v37]) fun v40 o40 =>
 bd (callS ⟨tab, ownF, K⟩ o40 28 [v39, v40, x2]) fun v41 o41 =>
 bd (ret1 (extractS v41 0) o41) fun v42 o42 =>
 bd (ret1 (extractS v41 1) o42) fun v43 o43 =>
 bd (storeO tab o43 31 v38 (some v42)) fun v44 o44 =>
 J11_9 K N nl x2 v1 v2 v38 v43 o44)))
noncomputable def J12_9 (K : Nat → List SV → List SO → Out) (N nl : Nat) (x2 x3 x6 x7 : SV) (os : List SO) : Out := exec (cx K) N nl fi12 (subC c12 [1, 1, 1, 1, 1, 1, 1]) [(2, x2), (3, x3), (6, x6), (7, x7)] os (kEnd tab nl rs12)
noncomputable def J12_32 (K : Nat → List SV → List SO → Out) (N nl : Nat) (x6 x7 x10 x13 x15 x16 : SV) (os : List SO) : Out := exec (cx K) N nl fi12 (subC c12 [1, 1, 1, 1, 1, 1, 1, 1, 1, 1, 1, 1, 1, 1, 1, 1, 1, 1, 1, 1, 1, 1, 1, 1]) [(6, x6), (7, x7), (10, x10), (13, x13), (15, x15), (16, x16)] os (kEnd tab nl rs12)
noncomputable def JB12_9 (K : Nat → List SV → List SO → Out) (N nl : Nat) (x2 x3 x6 x7 : SV) (os : List SO) : Out :=
 bd (ret1 (loadS tab os 64 x2) os) fun v45 o45 =>
 bd (callS ⟨tab, ownF, K⟩ o45 40 [v45]) fun v46 o46 =>
 bd (allocS tab o46 31) fun v47 o47 =>
 bd (storeO tab o47 31 v47 (some v46)) fun v48 o48 =>
 bd (ret1 (loadS tab o48 75 x3) o48) fun v49 o49 =>
 bd (callS ⟨tab, ownF, K⟩ o49 45 [v49]) fun v50 o50 =>
 bd (allocS tab o50 53) fun v51 o51 =>
 bd (storeO tab o51 53 v51 (some v50)) fun v52 o52 =>
 bd (ret1 (loadS tab o52 31 v47) o52) fun v53 o53 =>
 bd (ret1 (loadS tab o53 53 v51) o53) fun v54 o54 =>
 bd (callS ⟨tab, ownF, K⟩ o54 33 [v53, v54]) fun v55 o55 =>
 bd (ret1 (extractS v55 0) o55) fun v56 o56 =>
 bd (ret1 (extractS v55 1) o56) fun v57 o57 =>
 bd (allocS tab o57 31) fun v58 o58 =>
 bd (storeO tab o58 31 v58 (some v56)) fun v59 o59 =>
 bd (ret1 (loadS tab o59 31 v58) o59) fun v60 o60 =>
 bd (ret1 (loadS tab o60 31 x6) o60) fun v61 o61 =>
 bd (callS ⟨tab, ownF, K⟩ o61 22 [v60, v61]) fun v62 o62 =>
 bd (ret1 (unS .not v62) o62) fun v63 o63 =>
 bd (gd v63 false (some (v57, o63)) o63) fun v64 o64 =>
 bd (gd v63 false (some (x7, o64)) o64) fun v65 o65 =>
 bd (gd v63 false (ret1 (binS tab .neq 4 v64 v65) o65) o65) fun v66 o66 =>
 bd (ret1 (pickS v63 (SV.v (.bool true)) v66) o66) fun v67 o67 =>
 condS v67 (retV tab nl o67 (resC1 (some (SV.v (.bool false))) (some [])))
 (dchk (isBox v47) <|
 bd (ret1 (loadS tab o67 31 v47) o67) fun v68 o68 =>
 bd (ret1 (loadS tab o68 64 x2) o68) fun v69 o69 =>
 dchk (keepOk ⟨tab, ownF, K⟩ o69 (SV.fn 40 []) [v69] [v47] false) <|
 bd (callS ⟨tab, ownF, K⟩ o69 40 [v69]) fun v70 o70 =>
 bd (callS ⟨tab, ownF, K⟩ o70 22 [v68, v70]) fun v71 o71 =>
 bd (ret1 (unS .not v71) o71) fun v72 o72 =>
 condS v72 (retV tab nl o72 (resC1 (some (SV.v (.bool false))) (some [])))
 (dchk (isBox v51) <|
 bd (ret1 (loadS tab o72 53 v51) o72) fun v73 o73 =>
 bd (ret1 (loadS tab o73 75 x3) o73) fun v74 o74 =>
 dchk (keepOk ⟨tab, ownF, K⟩ o74 (SV.fn 45 []) [v74] [v51] false) <|
 bd (callS ⟨tab, ownF, K⟩ o74 45 [v74]) fun v75 o75 =>
 bd (callS ⟨tab, ownF, K⟩ o75 46 [v73, v75]) fun v76 o76 =>
 bd (ret1 (unS .not v76) o76) fun v77 o77 =>
 condS v77 (retV tab nl o77 (resC1 (some (SV.v (.bool false))) (some [])))
 (bd (ret1 (loadS tab o77 31 v47) o77) fun v78 o78 =>
 bd (callS ⟨tab, ownF, K⟩ o78 25 [v78, (SV.v (.int .i64 1))]) fun v79 o79 =>
 bd (ret1 (loadS tab o79 53 v51) o79) fun v80 o80 =>
 bd (callS ⟨tab, ownF, K⟩ o80 47 [v80, v79]) fun v81 o81 =>
 bd (ret1 (binS tab .lss 3 v81 (SV.v (.int .i64 0))) o81) fun v82 o82 =>
 bd (gd v82 false (ret1 (loadS tab o82 31 v58) o82) o82) fun v83 o83 =>
 bd (gd v82 false (ret1 (loadS tab o83 31 x6) o83) o83) fun v84 o84 =>
 bd (gd v82 false (callS ⟨tab, ownF, K⟩ o84 22 [v83, v84]) o84) fun v85 o85 =>
 bd (gd v82 false (ret1 (unS .not v85) o85) o85) fun v86 o86 =>
 bd (ret1 (pickS v82 (SV.v (.bool true)) v86) o86) fun v87 o87 =>
 bd (gd v87 false (some (v57, o87)) o87) fun v88 o88 =>
 bd (gd v87 false (some (x7, o88)) o88) fun v89 o89 =>
 bd (gd v87 false (ret1 (binS tab .neq 4 v88 v89) o89) o89) fun v90 o90 =>
 bd (ret1 (pickS v87 (SV.v (.bool true)) v90) o90) fun v91 o91 =>
 condS v91 (retV tab nl o91 (resC1 (some (SV.v (.bool false))) (some [])))
 (bd (ret1 (loadS tab o91 31 v58) o91) fun v92 o92 =>
 bd (callS ⟨tab, ownF, K⟩ o92 25 [v92, (SV.v (.int .i64 1))]) fun v93 o93 =>
 bd (ret1 (loadS tab o93 31 v58) o93) fun v94 o94 =>
 bd (callS ⟨tab, ownF, K⟩ o94 26 [v94, (SV.v (.int .i64 1))]) fun v95 o95 =>
 bd (ret1 (binS tab .lss 3 v95 (SV.v (.int .i64 0))) o95) fun v96 o96 =>
 condS v96 (retV tab nl o96 (resC1 (some (SV.v (.bool false))) (some [])))
 (bd (ret1 (binS tab .neq 3 v95 v93) o96) fun v97 o97 =>
 condS v97 (retV tab nl o97 (resC1 (some (SV.v (.bool false))) (some [])))
 (both (both (both (bd (ret1 (loadS tab o97 64 x2) o97) fun v98 o98 =>
 dchk (keepOk ⟨tab, ownF, K⟩ o98 (SV.fn 40 []) [v98] [] true) <|
 bd (callS ⟨tab, ownF, K⟩ o98 40 [v98]) fun v99 o99 =>
 dchk (isBox x3) <|
 bd (ret1 (loadS tab o99 75 x3) o99) fun v100 o100 =>
 bd (callS ⟨tab, ownF, K⟩ o100 45 [v100]) fun v101 o101 =>
 bd (callS ⟨tab, ownF, K⟩ o101 33 [v99, v101]) fun v102 o102 =>
 bd (ret1 (extractS v102 0) o102) fun v103 o103 =>
 bd (ret1 (extractS v102 1) o103) fun v104 o104 =>
 bd (allocS tab o104 31) fun v105 o105 =>
 bd (storeO tab o105 31 v105 (some v103)) fun v106 o106 =>
 J12_32 K N nl x6 x7 v58 v93 v105 v104 o106)
 (bd (ret1 (loadS tab o97 64 x2) o97) fun v107 o107 =>
 dchk (keepOk ⟨tab, ownF, K⟩ o107 (SV.fn 40 []) [v107] [] true) <|
 bd (callS ⟨tab, ownF, K⟩ o107 40 [v107]) fun v108 o108 =>
 dchk (isBox x3) <|
 bd (ret1 (loadS tab o108 75 x3) o108) fun v109 o109 =>
 bd (callS ⟨tab, ownF, K⟩ o109 45 [v109]) fun v110 o110 =>
 bd (allocS tab o110 31) fun v111 o111 =>
 bd (callS ⟨tab, ownF, K⟩ o111 33 [v108, v110]) fun v112 o112 =>
 bd (ret1 (extractS v112 0) o112) fun v113 o113 =>
 bd (ret1 (extractS v112 1) o113) fun v114 o114 =>
 bd (storeO tab o114 31 v111 (some v113)) fun v115 o115 =>
 J12_32 K N nl x6 x7 v58 v93 v111 v114 o115))
 (bd (ret1 (loadS tab o97 64 x2) o97) fun v116 o116 =>
 dchk (keepOk ⟨tab, ownF, K⟩ o116 (SV.fn 40 []) [v116] [] true) <|
 bd (callS ⟨tab, ownF, K⟩ o116 40 [v116]) fun v117 o117 =>
 dchk (isBox x3) <|
 bd (ret1 (loadS tab o117 75 x3) o117) fun v118 o118 =>
 bd (allocS tab o118 31) fun v119 o119 =>
 bd (callS ⟨tab, ownF, K⟩ o119 45 [v118]) fun v120 o120 =>
 bd (callS ⟨tab, ownF, K⟩ o120 33 [v117, v120]) fun v121 o121 =>
 bd (ret1 (extractS v121 0) o121) fun v122 o122 =>
 bd (ret1 (extractS v121 1) o122) fun v123 o123 =>
 bd (storeO tab o123 31 v119 (some v122)) fun v124 o124 =>
 J12_32 K N nl x6 x7 v58 v93 v119 v123 o124))
 (dchk (isBox x2) <|
 bd (ret1 (loadS tab o97 64 x2) o97) fun v125 o125 =>
 dchk (isBox x3) <|
 bd (ret1 (loadS tab o125 75 x3) o125) fun v126 o126 =>
 bd (allocS tab o126 31) fun v127 o127 =>
 dchk (keepOk ⟨tab, ownF, K⟩ o127 (SV.fn 40 []) [v125] [x3] false) <|
 bd (callS ⟨tab, ownF, K⟩ o127 40 [v125]) fun v128 o128 =>
 bd (callS ⟨tab, ownF, K⟩ o128 45 [v126]) fun v129 o129 =>
 bd (callS ⟨tab, ownF, K⟩ o129 33 [v128, v129]) fun v130 o130 =>
 bd (ret1 (extractS v130 0) o130) fun v131 o131 =>
 bd (ret1 (extractS v130 1) o131) fun v132 o132 =>
 bd (storeO tab o132 31 v127 (some v131)) fun v133 o133 =>
 J12_32 K N nl x6 x7 v58 v93 v127 v132 o133)))))))
noncomputable def JB12_32 (K : Nat → List SV → List SO → Out) (N nl : Nat) (x6 x7 x10 x13 x15 x16 : SV) (os : List SO) : Out :=
 bd (ret1 (loadS tab os 31 x15) os) fun v134 o134 =>
 bd (ret1 (loadS tab o134 31 x6) o134) fun v135 o135 =>
 bd (callS ⟨tab, ownF, K⟩ o135 22 [v134, v135]) fun v136 o136 =>
 bd (ret1 (unS .not v136) o136) fun v137 o137 =>
 bd (gd v137 false (some (x16, o137)) o137) fun v138 o138 =>
 bd (gd v137 false (some (x7, o138)) o138) fun v139 o139 =>
 bd (gd v137 false (ret1 (binS tab .neq 4 v138 v139) o139) o139) fun v140 o140 =>
 bd (ret1 (pickS v137 (SV.v (.bool true)) v140) o140) fun v141 o141 =>
 condS v141 (retV tab nl o141 (resC1 (some (SV.v (.bool false))) (some [])))
 (bd (ret1 (loadS tab o141 31 x10) o141) fun v142 o142 =>
 bd (callS ⟨tab, ownF, K⟩ o142 26 [v142, (SV.v (.int .i64 1))]) fun v143 o143 =>
 bd (ret1 (binS tab .lss 3 v143 (SV.v (.int .i64 0))) o143) fun v144 o144 =>
 condS v144 (retV tab nl o144 (resC1 (some (SV.v (.bool false))) (some [])))
 (bd (ret1 (binS tab .neq 3 v143 x13) o144) fun v145 o145 =>
 condS v145 (retV tab nl o145 (resC1 (some (SV.v (.bool false))) (some [])))
 (retV tab nl o145 (resC1 (some (SV.v (.bool true))) (some [])))))
noncomputable def X12 (K : Nat → List SV → List SO → Out) (N nl : Nat) (x0 x1 : SV) (os : List SO) : Out := exec (cx K) N nl fi12 c12 [(0, x0), (1, x1)] os (kEnd tab nl rs12)
noncomputable def B12 (K : Nat → List SV → List SO → Out) (N nl : Nat) (x0 x1 : SV) (os : List SO) : Out :=
 bd (boxS tab os 64 (some x0)) fun v1 o1 =>
 bd (boxS tab o1 75 (some x1)) fun v2 o2 =>
 bd (ret1 (loadS tab o2 64 v1) o2) fun v3 o3 =>
 bd (callS ⟨tab, ownF, K⟩ o3 38 [v3, (SV.v (.int .i64 1048576))]) fun v4 o4 =>
 bd (ret1 (binS tab .lss 3 v4 (SV.v (.int .i64 0))) o4) fun v5 o5 =>
 condS v5 (retV tab nl o5 (resC1 (some (SV.v (.bool true))) (some [])))
 (bd (ret1 (loadS tab o5 75 v2) o5) fun v6 o6 =>
 bd (callS ⟨tab, ownF, K⟩ o6 44 [v6, v4]) fun v7 o7 =>
 bd (ret1 (binS tab .lss 3 v7 (SV.v (.int .i64 0))) o7) fun v8 o8 =>
 condS v8 (retV tab nl o8 (resC1 (some (SV.v (.bool true))) (some [])))
 (both (both (both (bd (ret1 (loadS tab o8 64 v1) o8) fun v9 o9 =>
 dchk (keepOk ⟨tab, ownF, K⟩ o9 (SV.fn 40 []) [v9] [] true) <|
 bd (callS ⟨tab, ownF, K⟩ o9 40 [v9]) fun v10 o10 =>
 dchk (isBox v2) <|
 bd (ret1 (loadS tab o10 75 v2) o10) fun v11 o11 =>
 bd (callS ⟨tab, ownF, K⟩ o11 45 [v11]) fun v12 o12 =>
 bd (callS ⟨tab, ownF, K⟩ o12 35 [v10, v12]) fun v13 o13 =>
 bd (ret1 (extractS v13 0) o13) fun v14 o14 =>
 bd (ret1 (extractS v13 1) o14) fun v15 o15 =>
 bd (allocS tab o15 31) fun v16 o16 =>
 bd (storeO tab o16 31 v16 (some v14)) fun v17 o17 =>
 J12_9 K N nl v1 v2 v16 v15 o17)
 (bd (ret1 (loadS tab o8 64 v1) o8) fun v18 o18 =>
 dchk (keepOk ⟨tab, ownF, K⟩ o18 (SV.fn 40 []) [v18] [] true) <|
 bd (callS ⟨tab, ownF, K⟩ o18 40 [v18]) fun v19 o19 =>
 dchk (isBox v2) <|
 bd (ret1 (loadS tab o19 75 v2) o19) fun v20 o20 =>
 bd (callS ⟨tab, ownF, K⟩ o20 45 [v20]) fun v21 o21 =>
 bd (allocS tab o21 31) fun v22 o22 =>
 bd (callS ⟨tab, ownF, K⟩ o22 35 [v19, v21]) fun v23 o23 =>
 bd (ret1 (extractS v23 0) o23) fun v24 o24 =>
 bd (ret1 (extractS v23 1) o24) fun v25 o25 =>
 bd (storeO tab o25 31 v22 (some v24)) fun v26 o26 =>
 J12_9 K N nl v1 v2 v22 v25 o26))
 (bd (ret1 (loadS tab o8 64 v1) o8) fun v27 o27 =>
 dchk (keepOk ⟨tab, ownF, K⟩ o27 (SV.fn 40 []) [v27] [] true) <|
 bd (callS ⟨tab, ownF, K⟩ o27 40 [v27]) fun v28 o28 =>
 dchk (isBox v2) <|
 bd (ret1 (loadS tab o28 75 v2) o28) fun v29 o29 =>
 bd (allocS tab o29 31) fun v30 o30 =>
 bd (callS ⟨tab, ownF, K⟩ o30 45 [v29]) fun v31 o31 =>
 bd (callS ⟨tab, ownF, K⟩ o31 35 [v28, v31]) fun v32 o32 =>
 bd (ret1 (extractS v32 0) o32) fun v33 o33 =>
 bd (ret1 (extractS v32 1) o33) fun v34 o34 =>
 bd (storeO tab o34 31 v30 (some v33)) fun v35 o35 =>
 J12_9 K N nl v1 v2 v30 v34 o35))
 (dchk (isBox v1) <|
 bd (ret1 (loadS tab o8 64 v1) o8) fun v36 o36 =>
 dchk (isBox v2) <|
 bd (ret1 (loadS tab o36 75 v2) o36) fun v37 o37 =>
 bd (allocS tab o37 31) fun v38 o38 =>
 dchk (keepOk ⟨tab, ownF, K⟩ o38 (SV.fn 40 []) [v36] [v2] false) <|
 bd (callS ⟨tab, ownF, K⟩ o38 40 [v36]) fun v39 o39 =>
 bd (callS ⟨tab, ownF, K⟩ o39 45 [v37]) fun v40 o40 =>
 bd (callS ⟨tab, ownF, K⟩ o40 35 [v39, v40]) fun v41 o41 =>
 bd (ret1 (extractS v41 0) o41) fun v42 o42 =>
 bd (ret1 (extractS v41 1) o42) fun v43 o43 =>
 bd (storeO tab o43 31 v38 (some v42)) fun v44 o44 =>
 J12_9 K N nl v1 v2 v38 v43 o44)))
noncomputable def X13 (K : Nat → List SV → List SO → Out) (N nl : Nat) (x0 : SV) (os : List SO) : Out := exec (cx K) N nl fi13 c13 [(0, x0)] os (kEnd tab nl rs13)
noncomputable def B13 (K : Nat → List SV → List SO → Out) (N nl : Nat) (x0 : SV) (os : List SO) : Out :=
 bd (allocS tab os 25) fun v1 o1 =>
 bd (callS ⟨tab, ownF, K⟩ o1 49 [x0]) fun v2 o2 =>
 bd (callS ⟨tab, ownF, K⟩ o2 48 [v2]) fun v3 o3 =>
 bd (storeO tab o3 25 v1 (some v3)) fun v4 o4 =>
 retV tab nl o4 (resC1 (loadS tab o4 25 v1) (some []))
noncomputable def X14 (K : Nat → List SV → List SO → Out) (N nl : Nat) (x0 : SV) (os : List SO) : Out := exec (cx K) N nl fi14 c14 [(0, x0)] os (kEnd tab nl rs14)
noncomputable def B14 (K : Nat → List SV → List SO → Out) (N nl : Nat) (x0 : SV) (os : List SO) : Out :=
 bd (boxS tab os 25 (some x0)) fun v1 o1 =>
 bd (allocS tab o1 31) fun v2 o2 =>
 bd (ret1 (loadS tab o2 25 v1) o2) fun v3 o3 =>
 bd (callS ⟨tab, ownF, K⟩ o3 50 [v3]) fun v4 o4 =>
 bd (ret1 (unS .not v4) o4) fun v5 o5 =>
 condS v5 (bd (buildS tab o5 31 []) fun v6 o6 =>
 bd (storeO tab o6 31 v2 (some v6)) fun v7 o7 =>
 retV tab nl o7 (resC1 (loadS tab o7 31 v2) (resC1 (some (SV.v (.bool false))) (some []))))
 (bd (ret1 (loadS tab o5 25 v1) o5) fun v8 o8 =>
 bd (callS ⟨tab, ownF, K⟩ o8 51 [v8]) fun v9 o9 =>
 bd (buildS tab o9 31 [(0, (some v9))]) fun v10 o10 =>
 bd (storeO tab o10 31 v2 (some v10)) fun v11 o11 =>
 retV tab nl o11 (resC1 (loadS tab o11 31 v2) (resC1 (some (SV.v (.bool true))) (some []))))
noncomputable def X15 (K : Nat → List SV → List SO → Out) (N nl : Nat) (x0 : SV) (os : List SO) : Out := exec (cx K) N nl fi15 c15 [(0, x0)] os (kEnd tab nl rs15)
noncomputable def B15 (K : Nat → List SV → List SO → Out) (N nl : Nat) (x0 : SV) (os : List SO) : Out :=
 bd (boxS tab os 25 (some x0)) fun v1 o1 =>
 bd (allocS tab o1 31) fun v2 o2 =>
 bd (ret1 (loadS tab o2 25 v1) o2) fun v3 o3 =>
 bd (callS ⟨tab, ownF, K⟩ o3 37 [v3]) fun v4 o4 =>
 bd (ret1 (unS .not v4) o4) fun v5 o5 =>
 condS v5 (bd (buildS tab o5 31 []) fun v6 o6 =>
 bd (storeO tab o6 31 v2 (some v6)) fun v7 o7 =>
 retV tab nl o7 (resC1 (loadS tab o7 31 v2) (resC1 (some (SV.v (.bool false))) (some []))))
 (bd (ret1 (loadS tab o5 25 v1) o5) fun v8 o8 =>
 bd (callS ⟨tab, ownF, K⟩ o8 52 [v8]) fun v9 o9 =>
 bd (buildS tab o9 31 [(0, (some v9))]) fun v10 o10 =>
 bd (storeO tab o10 31 v2 (some v10)) fun v11 o11 =>
 retV tab nl o11 (resC1 (loadS tab o11 31 v2) (resC1 (some (SV.v (.bool true))) (some []))))
noncomputable def X16 (K : Nat → List SV → List SO → Out) (N nl : Nat) (x0 x1 : SV) (os : List SO) : Out := exec (cx K) N nl fi16 c16 [(0, x0), (1, x1)] os (kEnd tab nl rs16)
noncomputable def B16 (K : Nat → List SV → List SO → Out) (N nl : Nat) (x0 x1 : SV) (os : List SO) : Out :=
 bd (boxS tab os 31 (some x0)) fun v1 o1 =>
 bd (boxS tab o1 31 (some x1)) fun v2 o2 =>
 bd (ret1 (fieldAddrS tab 31 v1 0) o2) fun v3 o3 =>
 bd (ret1 (loadS tab o3 25 v3) o3) fun v4 o4 =>
 bd (ret1 (fieldAddrS tab 31 v2 0) o4) fun v5 o5 =>
 bd (ret1 (loadS tab o5 25 v5) o5) fun v6 o6 =>
 bd (callS ⟨tab, ownF, K⟩ o6 18 [v4, v6]) fun v7 o7 =>
 bd (gd v7 true (ret1 (fieldAddrS tab 31 v1 1) o7) o7) fun v8 o8 =>
 bd (gd v7 true (ret1 (loadS tab o8 4 v8) o8) o8) fun v9 o9 =>
 bd (gd v7 true (ret1 (fieldAddrS tab 31 v2 1) o9) o9) fun v10 o10 =>
 bd (gd v7 true (ret1 (loadS tab o10 4 v10) o10) o10) fun v11 o11 =>
 bd (gd v7 true (ret1 (binS tab .eql 4 v9 v11) o11) o11) fun v12 o12 =>
 bd (ret1 (pickS v7 v12 (SV.v (.bool false))) o12) fun v13 o13 =>
 bd (gd v13 true (ret1 (fieldAddrS tab 31 v1 2) o13) o13) fun v14 o14 =>
 bd (gd v13 true (ret1 (loadS tab o14 29 v14) o14) o14) fun v15 o15 =>
 bd (gd v13 true (ret1 (fieldAddrS tab 31 v2 2) o15) o15) fun v16 o16 =>
 bd (gd v13 true (ret1 (loadS tab o16 29 v16) o16) o16) fun v17 o17 =>
 bd (gd v13 true (callS ⟨tab, ownF, K⟩ o17 32 [v15, v17]) o17) fun v18 o18 =>
 bd (ret1 (pickS v13 v18 (SV.v (.bool false))) o18) fun v19 o19 =>
 retV tab nl o19 (resC1 (some v19) (some []))
noncomputable def X17 (K : Nat → List SV → List SO → Out) (N nl : Nat) (x0 : SV) (os : List SO) : Out := exec (cx K) N nl fi17 c17 [(0, x0)] os (kEnd tab nl rs17)
noncomputable def B17 (K : Nat → List SV → List SO → Out) (N nl : Nat) (x0 : SV) (os : List SO) : Out :=
 bd (boxS tab os 31 (some x0)) fun v1 o1 =>
 bd (ret1 (fieldAddrS tab 31 v1 0) o1) fun v2 o2 =>
 bd (ret1 (loadS tab o2 25 v2) o2) fun v3 o3 =>
 bd (callS ⟨tab, ownF, K⟩ o3 37 [v3]) fun v4 o4 =>
 bd (ret1 (unS .not v4) o4) fun v5 o5 =>
 condS v5 (retV tab nl o5 (resC1 (some (SV.v (.bool false))) (some [])))
 (bd (ret1 (fieldAddrS tab 31 v1 1) o5) fun v6 o6 =>
 bd (ret1 (loadS tab o6 4 v6) o6) fun v7 o7 =>
 condS v7 (bd (ret1 (fieldAddrS tab 31 v1 2) o7) fun v8 o8 =>
 bd (ret1 (loadS tab o8 29 v8) o8) fun v9 o9 =>
 bd (callS ⟨tab, ownF, K⟩ o9 53 [v9]) fun v10 o10 =>
 retV tab nl o10 (resC1 (some v10) (some [])))
 (bd (ret1 (fieldAddrS tab 31 v1 2) o7) fun v11 o11 =>
 bd (ret1 (loadS tab o11 29 v11) o11) fun v12 o12 =>
 bd (buildS tab o12 29 []) fun v13 o13 =>
 bd (callS ⟨tab, ownF, K⟩ o13 54 [v12, v13]) fun v14 o14 =>
 retV tab nl o14 (resC1 (some v14) (some []))))
noncomputable def X18 (K : Nat → List SV → List SO → Out) (N nl : Nat) (x0 x1 : SV) (os : List SO) : Out := exec (cx K) N nl fi18 c18 [(0, x0), (1, x1)] os (kEnd tab nl rs18)
noncomputable def B18 (K : Nat → List SV → List SO → Out) (N nl : Nat) (x0 x1 : SV) (os : List SO) : Out :=
 bd (boxS tab os 25 (some x0)) fun v1 o1 =>
 bd (boxS tab o1 25 (some x1)) fun v2 o2 =>
 bd (ret1 (fieldAddrS tab 25 v1 0) o2) fun v3 o3 =>
 bd (ret1 (loadS tab o3 3 v3) o3) fun v4 o4 =>
 bd (ret1 (fieldAddrS tab 25 v2 0) o4) fun v5 o5 =>
 bd (ret1 (loadS tab o5 3 v5) o5) fun v6 o6 =>
 bd (ret1 (binS tab .eql 3 v4 v6) o6) fun v7 o7 =>
 bd (gd v7 true (ret1 (fieldAddrS tab 25 v1 2) o7) o7) fun v8 o8 =>
 bd (gd v7 true (ret1 (loadS tab o8 3 v8) o8) o8) fun v9 o9 =>
 bd (gd v7 true (ret1 (fieldAddrS tab 25 v2 2) o9) o9) fun v10 o10 =>
 bd (gd v7 true (ret1 (loadS tab o10 3 v10) o10) o10) fun v11 o11 =>
 bd (gd v7 true (ret1 (binS tab .eql 3 v9 v11) o11) o11) fun v12 o12 =>
 bd (ret1 (pickS v7 v12 (SV.v (.bool false))) o12) fun v13 o13 =>
 bd (gd v13 true (ret1 (fieldAddrS tab 25 v1 1) o13) o13) fun v14 o14 =>
 bd (gd v13 true (ret1 (loadS tab o14 23 v14) o14) o14) fun v15 o15 =>
 bd (gd v13 true (ret1 (fieldAddrS tab 25 v2 1) o15) o15) fun v16 o16 =>
 bd (gd v13 true (ret1 (loadS tab o16 23 v16) o16) o16) fun v17 o17 =>
 bd (gd v13 true (callS ⟨tab, ownF, K⟩ o17 55 [v15, v17]) o17) fun v18 o18 =>
 bd (ret1 (pickS v13 v18 (SV.v (.bool false))) o18) fun v19 o19 =>
 retV tab nl o19 (resC1 (some v19) (some []))
noncomputable def X19 (K : Nat → List SV → List SO → Out) (N nl : Nat) (x0 x1 : SV) (os : List SO) : Out := exec (cx K) N nl fi19 c19 [(0, x0), (1, x1)] os (kEnd tab nl rs19)
noncomputable def B19 (K : Nat → List SV → List SO → Out) (N nl : Nat) (x0 x1 : SV) (os : List SO) : Out :=
 bd (boxS tab os 31 (some x0)) fun v1 o1 =>
 bd (ret1 (loadS tab o1 31 v1) o1) fun v2 o2 =>
 bd (callS ⟨tab, ownF, K⟩ o2 17 [v2]) fun v3 o3 =>
 bd (gd v3 true (ret1 (fieldAddrS tab 31 v1 1) o3) o3) fun v4 o4 =>
 bd (gd v3 true (ret1 (loadS tab o4 4 v4) o4) o4) fun v5 o5 =>
 bd (ret1 (pickS v3 v5 (SV.v (.bool false))) o5) fun v6 o6 =>
 bd (gd v6 true (some (x1, o6)) o6) fun v7 o7 =>
 bd (gd v6 true (ret1 (fieldAddrS tab 31 v1 2) o7) o7) fun v8 o8 =>
 bd (gd v6 true (ret1 (fieldAddrS tab 29 v8 1) o8) o8) fun v9 o9 =>
 bd (gd v6 true (ret1 (loadS tab o9 3 v9) o9) o9) fun v10 o10 =>
 bd (gd v6 true (callS ⟨tab, ownF, K⟩ o10 56 [v7, (SV.v (.int .i64 0)), v10]) o10) fun v11 o11 =>
 bd (ret1 (pickS v6 v11 (SV.v (.bool false))) o11) fun v12 o12 =>
 retV tab nl o12 (resC1 (some v12) (some []))
noncomputable def X20 (K : Nat → List SV → List SO → Out) (N nl : Nat) (x0 x1 : SV) (os : List SO) : Out := exec (cx K) N nl fi20 c20 [(0, x0), (1, x1)] os (kEnd tab nl rs20)
noncomputable def B20 (K : Nat → List SV → List SO → Out) (N nl : Nat) (x0 x1 : SV) (os : List SO) : Out :=
 bd (boxS tab os 39 (some x0)) fun v1 o1 =>
 bd (ret1 (fieldAddrS tab 39 v1 1) o1) fun v2 o2 =>
 bd (ret1 (loadS tab o2 23 v2) o2) fun v3 o3 =>
 bd (callS ⟨tab, ownF, K⟩ o3 57 [v3, x1]) fun v4 o4 =>
 bd (ret1 (binS tab .lss 3 v4 (SV.v (.int .i64 0))) o4) fun v5 o5 =>
 condS v5 (retV tab nl o5 (resC1 (some (SV.v (.int .i64 (-1)))) (some [])))
 (retV tab nl o5 (resC1 (some v4) (some [])))
noncomputable def X21 (K : Nat → List SV → List SO → Out) (N nl : Nat) (x0 : SV) (os : List SO) : Out := exec (cx K) N nl fi21 c21 [(0, x0)] os (kEnd tab nl rs21)
noncomputable def B21 (K : Nat → List SV → List SO → Out) (N nl : Nat) (x0 : SV) (os : List SO) : Out :=
 bd (boxS tab os 39 (some x0)) fun v1 o1 =>
 bd (allocS tab o1 25) fun v2 o2 =>
 bd (allocS tab o2 25) fun v3 o3 =>
 bd (ret1 (fieldAddrS tab 39 v1 0) o3) fun v4 o4 =>
 bd (ret1 (loadS tab o4 3 v4) o4) fun v5 o5 =>
 bd (ret1 (fieldAddrS tab 25 v3 0) o5) fun v6 o6 =>
 bd (storeO tab o6 3 v6 (some v5)) fun v7 o7 =>
 bd (ret1 (fieldAddrS tab 39 v1 1) o7) fun v8 o8 =>
 bd (ret1 (loadS tab o8 23 v8) o8) fun v9 o9 =>
 bd (callS ⟨tab, ownF, K⟩ o9 58 [v9]) fun v10 o10 =>
 bd (ret1 (fieldAddrS tab 25 v3 1) o10) fun v11 o11 =>
 bd (storeO tab o11 23 v11 (some v10)) fun v12 o12 =>
 bd (ret1 (fieldAddrS tab 39 v1 2) o12) fun v13 o13 =>
 bd (ret1 (loadS tab o13 3 v13) o13) fun v14 o14 =>
 bd (ret1 (fieldAddrS tab 25 v3 2) o14) fun v15 o15 =>
 bd (storeO tab o15 3 v15 (some v14)) fun v16 o16 =>
 bd (ret1 (loadS tab o16 25 v3) o16) fun v17 o17 =>
 bd (storeO tab o17 25 v2 (some v17)) fun v18 o18 =>
 retV tab nl o18 (resC1 (loadS tab o18 25 v2) (some []))
noncomputable def X22 (K : Nat → List SV → List SO → Out) (N nl : Nat) (x0 x1 : SV) (os : List SO) : Out := exec (cx K) N nl fi22 c22 [(0, x0), (1, x1)] os (kEnd tab nl rs22)
noncomputable def B22 (K : Nat → List SV → List SO → Out) (N nl : Nat) (x0 x1 : SV) (os : List SO) : Out :=
 bd (boxS tab os 31 (some x0)) fun v1 o1 =>
 bd (boxS tab o1 31 (some x1)) fun v2 o2 =>
 bd (ret1 (fieldAddrS tab 31 v1 0) o2) fun v3 o3 =>
 bd (ret1 (loadS tab o3 25 v3) o3) fun v4 o4 =>
 bd (ret1 (fieldAddrS tab 31 v2 0) o4) fun v5 o5 =>
 bd (ret1 (loadS tab o5 25 v5) o5) fun v6 o6 =>
 bd (callS ⟨tab, ownF, K⟩ o6 23 [v4, v6]) fun v7 o7 =>
 bd (ret1 (unS .not v7) o7) fun v8 o8 =>
 condS v8 (retV tab nl o8 (resC1 (some (SV.v (.bool false))) (some [])))
 (bd (ret1 (fieldAddrS tab 31 v1 1) o8) fun v9 o9 =>
 bd (ret1 (loadS tab o9 4 v9) o9) fun v10 o10 =>
 bd (ret1 (fieldAddrS tab 31 v2 1) o10) fun v11 o11 =>
 bd (ret1 (loadS tab o11 4 v11) o11) fun v12 o12 =>
 bd (ret1 (binS tab .neq 4 v10 v12) o12) fun v13 o13 =>
 condS v13 (retV tab nl o13 (resC1 (some (SV.v (.bool false))) (some [])))
 (bd (ret1 (fieldAddrS tab 31 v1 2) o13) fun v14 o14 =>
 bd (ret1 (loadS tab o14 29 v14) o14) fun v15 o15 =>
 bd (ret1 (fieldAddrS tab 31 v2 2) o15) fun v16 o16 =>
 bd (ret1 (loadS tab o16 29 v16) o16) fun v17 o17 =>
 bd (callS ⟨tab, ownF, K⟩ o17 59 [v15, v17]) fun v18 o18 =>
 bd (ret1 (unS .not v18) o18) fun v19 o19 =>
 condS v19 (retV tab nl o19 (resC1 (some (SV.v (.bool false))) (some [])))
 (retV tab nl o19 (resC1 (some (SV.v (.bool true))) (some [])))))
noncomputable def X23 (K : Nat → List SV → List SO → Out) (N nl : Nat) (x0 x1 : SV) (os : List SO) : Out := exec (cx K) N nl fi23 c23 [(0, x0), (1, x1)] os (kEnd tab nl rs23)
noncomputable def B23 (K : Nat → List SV → List SO → Out) (N nl : Nat) (x0 x1 : SV) (os : List SO) : Out :=
 bd (boxS tab os 25 (some x0)) fun v1 o1 =>
 bd (boxS tab o1 25 (some x1)) fun v2 o2 =>
 bd (ret1 (fieldAddrS tab 25 v1 0) o2) fun v3 o3 =>
 bd (ret1 (loadS tab o3 3 v3) o3) fun v4 o4 =>
 bd (ret1 (fieldAddrS tab 25 v2 0) o4) fun v5 o5 =>
 bd (ret1 (loadS tab o5 3 v5) o5) fun v6 o6 =>
 bd (ret1 (binS tab .neq 3 v4 v6) o6) fun v7 o7 =>
 condS v7 (retV tab nl o7 (resC1 (some (SV.v (.bool false))) (some [])))
 (bd (ret1 (fieldAddrS tab 25 v1 1) o7) fun v8 o8 =>
 bd (ret1 (loadS tab o8 23 v8) o8) fun v9 o9 =>
 bd (ret1 (fieldAddrS tab 25 v2 1) o9) fun v10 o10 =>
 bd (ret1 (loadS tab o10 23 v10) o10) fun v11 o11 =>
 bd (callS ⟨tab, ownF, K⟩ o11 60 [v9, v11]) fun v12 o12 =>
 bd (ret1 (unS .not v12) o12) fun v13 o13 =>
 condS v13 (retV tab nl o13 (resC1 (some (SV.v (.bool false))) (some [])))
 (bd (ret1 (fieldAddrS tab 25 v1 2) o13) fun v14 o14 =>
 bd (ret1 (loadS tab o14 3 v14) o14) fun v15 o15 =>
 bd (ret1 (fieldAddrS tab 25 v2 2) o15) fun v16 o16 =>
 bd (ret1 (loadS tab o16 3 v16) o16) fun v17 o17 =>
 bd (ret1 (binS tab .neq 3 v15 v17) o17) fun v18 o18 =>
 condS v18 (retV tab nl o18 (resC1 (some (SV.v (.bool false))) (some [])))
 (retV tab nl o18 (resC1 (some (SV.v (.bool true))) (some [])))))
noncomputable def X24 (K : Nat → List SV → List SO → Out) (N nl : Nat) (x0 x1 : SV) (os : List SO) : Out := exec (cx K) N nl fi24 c24 [(0, x0), (1, x1)] os (kEnd tab nl rs24)
noncomputable def B24 (K : Nat → List SV → List SO → Out) (N nl : Nat) (x0 x1 : SV) (os : List SO) : Out :=
 bd (boxS tab os 25 (some x0)) fun v1 o1 =>
 bd (ret1 (fieldAddrS tab 25 v1 1) o1) fun v2 o2 =>
 bd (ret1 (loadS tab o2 23 v2) o2) fun v3 o3 =>
 bd (callS ⟨tab, ownF, K⟩ o3 61 [v3, x1]) fun v4 o4 =>
 retV tab nl o4 (resC1 (some v4) (some []))
noncomputable def X25 (K : Nat → List SV → List SO → Out) (N nl : Nat) (x0 x1 : SV) (os : List SO) : Out := exec (cx K) N nl fi25 c25 [(0, x0), (1, x1)] os (kEnd tab nl rs25)
noncomputable def B25 (K : Nat → List SV → List SO → Out) (N nl : Nat) (x0 x1 : SV) (os : List SO) : Out :=
 bd (boxS tab os 31 (some x0)) fun v1 o1 =>
 bd (ret1 (fieldAddrS tab 31 v1 0) o1) fun v2 o2 =>
 bd (ret1 (loadS tab o2 25 v2) o2) fun v3 o3 =>
 bd (callS ⟨tab, ownF, K⟩ o3 24 [v3, x1]) fun v4 o4 =>
 bd (ret1 (fieldAddrS tab 31 v1 2) o4) fun v5 o5 =>
 bd (ret1 (loadS tab o5 29 v5) o5) fun v6 o6 =>
 bd (callS ⟨tab, ownF, K⟩ o6 62 [v6, v4]) fun v7 o7 =>
 retV tab nl o7 (resC1 (some v7) (some []))
noncomputable def X26 (K : Nat → List SV → List SO → Out) (N nl : Nat) (x0 x1 : SV) (os : List SO) : Out := exec (cx K) N nl fi26 c26 [(0, x0), (1, x1)] os (kEnd tab nl rs26)
noncomputable def B26 (K : Nat → List SV → List SO → Out) (N nl : Nat) (x0 x1 : SV) (os : List SO) : Out :=
 bd (boxS tab os 31 (some x0)) fun v1 o1 =>
 bd (ret1 (fieldAddrS tab 31 v1 0) o1) fun v2 o2 =>
 bd (ret1 (loadS tab o2 25 v2) o2) fun v3 o3 =>
 bd (callS ⟨tab, ownF, K⟩ o3 63 [v3, x1]) fun v4 o4 =>
 bd (ret1 (binS tab .lss 3 v4 (SV.v (.int .i64 0))) o4) fun v5 o5 =>
 condS v5 (retV tab nl o5 (resC1 (some (SV.v (.int .i64 (-1)))) (some [])))
 (bd (ret1 (fieldAddrS tab 31 v1 2) o5) fun v6 o6 =>
 bd (ret1 (loadS tab o6 29 v6) o6) fun v7 o7 =>
 bd (callS ⟨tab, ownF, K⟩ o7 64 [v7, v4]) fun v8 o8 =>
 bd (ret1 (binS tab .lss 3 v8 (SV.v (.int .i64 0))) o8) fun v9 o9 =>
 condS v9 (retV tab nl o9 (resC1 (some (SV.v (.int .i64 (-1)))) (some [])))
 (retV tab nl o9 (resC1 (some v8) (some []))))
noncomputable def J27_4 (K : Nat → List SV → List SO → Out) (N nl : Nat) (x2 x3 x5 x6 x8 : SV) (os : List SO) : Out := exec (cx K) N nl fi27 (subC c27 [1, 1, 1, 1]) [(2, x2), (3, x3), (5, x5), (6, x6), (8, x8)] os (kEnd tab nl rs27)
noncomputable def J27_7 (K : Nat → List SV → List SO → Out) (N nl : Nat) (x2 x3 x5 x6 x8 x10 : SV) (os : List SO) : Out := exec (cx K) N nl fi27 (subC c27 [1, 1, 1, 1, 1, 1]) [(2, x2), (3, x3), (5, x5), (6, x6), (8, x8), (10, x10)] os (kEnd tab nl rs27)
noncomputable def JB27_4 (K : Nat → List SV → List SO → Out) (N nl : Nat) (x2 x3 x5 x6 x8 : SV) (os : List SO) : Out :=
 bd (buildSliceS tab os 23 0 []) fun v117 o117 =>
 bd (ret1 (fieldAddrS tab 31 x6 0) o117) fun v118 o118 =>
 bd (ret1 (fieldAddrS tab 25 v118 1) o118) fun v119 o119 =>
 bd (ret1 (loadS tab o119 23 v119) o119) fun v120 o120 =>
 bd (appendS tab o120 23 23 v117 v120) fun v121 o121 =>
 bd (callS ⟨tab, ownF, K⟩ o121 67 [x5, (SV.v (.int .i64 4))]) fun v122 o122 =>
 bd (ret1 (binS tab .eql 3 v122 (SV.v (.int .i64 0))) o122) fun v123 o123 =>
 condS v123 (bd (callS ⟨tab, ownF, K⟩ o123 69 [x5]) fun v124 o124 =>
 J27_7 K N nl x2 x3 x5 x6 x8 v124 o124)
 (J27_7 K N nl x2 x3 x5 x6 x8 v121 o123)
noncomputable def JB27_7 (K : Nat → List SV → List SO → Out) (N nl : Nat) (x2 x3 x5 x6 x8 x10 : SV) (os : List SO) : Out :=
 both (dchk (isBox x6) <|
 bd (ret1 (loadS tab os 31 x6) os) fun v125 o125 =>
 bd (ret1 (loadS tab o125 29 x8) o125) fun v126 o126 =>
 bd (buildS tab o126 46 [(0, (some v126)), (1, (some x10))]) fun v127 o127 =>
 dchk (keepOk ⟨tab, ownF, K⟩ o127 (SV.fn 67 []) [x5, (SV.v (.int .i64 8))] [x6] false) <|
 bd (callS ⟨tab, ownF, K⟩ o127 67 [x5, (SV.v (.int .i64 8))]) fun v128 o128 =>
 dchk (keepOk ⟨tab, ownF, K⟩ o128 (SV.fn 67 []) [x5, (SV.v (.int .i64 30))] [x6] false) <|
 bd (callS ⟨tab, ownF, K⟩ o128 67 [x5, (SV.v (.int .i64 30))]) fun v129 o129 =>
 bd (ret1 (binS tab .quo 3 v129 (SV.v (.int .i64 29))) o129) fun v130 o130 =>
 bd (ret1 (binS tab .mul 3 v130 (SV.v (.int .i64 60))) o130) fun v131 o131 =>
 bd (ret1 (binS tab .add 3 v128 v131) o131) fun v132 o132 =>
 bd (storeO tab o132 31 x2 (some v125)) fun v133 o133 =>
 bd (storeO tab o133 46 x3 (some v127)) fun v134 o134 =>
 retV tab nl o134 (resC1 (loadS tab o134 31 x2) (resC1 (loadS tab o134 46 x3) (resC1 (some v132) (some [])))))
 (both (dchk (isBox x6) <|
 bd (ret1 (loadS tab os 31 x6) os) fun v135 o135 =>
 dchk (isBox x8) <|
 bd (ret1 (loadS tab o135 29 x8) o135) fun v136 o136 =>
 dchk (keepOk ⟨tab, ownF, K⟩ o136 (SV.fn 67 []) [x5, (SV.v (.int .i64 8))] [x6, x8] false) <|
 bd (callS ⟨tab, ownF, K⟩ o136 67 [x5, (SV.v (.int .i64 8))]) fun v137 o137 =>
 bd (buildS tab o137 46 [(0, (some v136)), (1, (some x10))]) fun v138 o138 =>
 dchk (keepOk ⟨tab, ownF, K⟩ o138 (SV.fn 67 []) [x5, (SV.v (.int .i64 30))] [x6] false) <|
 bd (callS ⟨tab, ownF, K⟩ o138 67 [x5, (SV.v (.int .i64 30))]) fun v139 o139 =>
 bd (ret1 (binS tab .quo 3 v139 (SV.v (.int .i64 29))) o139) fun v140 o140 =>
 bd (ret1 (binS tab .mul 3 v140 (SV.v (.int .i64 60))) o140) fun v141 o141 =>
 bd (ret1 (binS tab .add 3 v137 v141) o141) fun v142 o142 =>
 bd (storeO tab o142 31 x2 (some v135)) fun v143 o143 =>
 bd (storeO tab o143 46 x3 (some v138)) fun v144 o144 =>
 retV tab nl o144 (resC1 (loadS tab o144 31 x2) (resC1 (loadS tab o144 46 x3) (resC1 (some v142) (some [])))))
 (both (both (dchk (isBox x6) <|
 bd (ret1 (loadS tab os 31 x6) os) fun v145 o145 =>
 dchk (isBox x8) <|
 bd (ret1 (loadS tab o145 29 x8) o145) fun v146 o146 =>
 dchk (keepOk ⟨tab, ownF, K⟩ o146 (SV.fn 67 []) [x5, (SV.v (.int .i64 8))] [x6, x8] false) <|
 bd (callS ⟨tab, ownF, K⟩ o146 67 [x5, (SV.v (.int .i64 8))]) fun v147 o147 =>
 dchk (keepOk ⟨tab, ownF, K⟩ o147 (SV.fn 67 []) [x5, (SV.v (.int .i64 30))] [x6, x8] false) <|
 bd (callS ⟨tab, ownF, K⟩ o147 67 [x5, (SV.v (.int .i64 30))]) fun v148 o148 =>
 bd (buildS tab o148 46 [(0, (some v146)), (1, (some x10))]) fun v149 o149 =>
 bd (ret1 (binS tab .quo 3 v148 (SV.v (.int .i64 29))) o149) fun v150 o150 =>
 bd (ret1 (binS tab .mul 3 v150 (SV.v (.int .i64 60))) o150) fun v151 o151 =>
 bd (ret1 (binS tab .add 3 v147 v151) o151) fun v152 o152 =>
 bd (storeO tab o152 31 x2 (some v145)) fun v153 o153 =>
 bd (storeO tab o153 46 x3 (some v149)) fun v154 o154 =>
 retV tab nl o154 (resC1 (loadS tab o154 31 x2) (resC1 (loadS tab o154 46 x3) (resC1 (some v152) (some [])))))
 (dchk (isBox x6) <|
 bd (ret1 (loadS tab os 31 x6) os) fun v155 o155 =>
 dchk (isBox x8) <|
 bd (ret1 (loadS tab o155 29 x8) o155) fun v156 o156 =>
 dchk (keepOk ⟨tab, ownF, K⟩ o156 (SV.fn 67 []) [x5, (SV.v (.int .i64 8))] [x6, x8] false) <|
 bd (callS ⟨tab, ownF, K⟩ o156 67 [x5, (SV.v (.int .i64 8))]) fun v157 o157 =>
 dchk (keepOk ⟨tab, ownF, K⟩ o157 (SV.fn 67 []) [x5, (SV.v (.int .i64 30))] [x6, x8] false) <|
 bd (callS ⟨tab, ownF, K⟩ o157 67 [x5, (SV.v (.int .i64 30))]) fun v158 o158 =>
 bd (ret1 (binS tab .quo 3 v158 (SV.v (.int .i64 29))) o158) fun v159 o159 =>
 bd (ret1 (binS tab .mul 3 v159 (SV.v (.int .i64 60))) o159) fun v160 o160 =>
 bd (ret1 (binS tab .add 3 v157 v160) o160) fun v161 o161 =>
 bd (storeO tab o161 31 x2 (some v155)) fun v162 o162 =>
 bd (buildS tab o162 46 [(0, (some v156)), (1, (some x10))]) fun v163 o163 =>
 bd (storeO tab o163 46 x3 (some v163)) fun v164 o164 =>
 retV tab nl o164 (resC1 (loadS tab o164 31 x2) (resC1 (loadS tab o164 46 x3) (resC1 (some v161) (some []))))))
 (dchk (isBox x6) <|
 bd (ret1 (loadS tab os 31 x6) os) fun v165 o165 =>
 dchk (keepOk ⟨tab, ownF, K⟩ o165 (SV.fn 67 []) [x5, (SV.v (.int .i64 8))] [x6] false) <|
 bd (callS ⟨tab, ownF, K⟩ o165 67 [x5, (SV.v (.int .i64 8))]) fun v166 o166 =>
 dchk (keepOk ⟨tab, ownF, K⟩ o166 (SV.fn 67 []) [x5, (SV.v (.int .i64 30))] [x6] false) <|
 bd (callS ⟨tab, ownF, K⟩ o166 67 [x5, (SV.v (.int .i64 30))]) fun v167 o167 =>
 bd (ret1 (binS tab .quo 3 v167 (SV.v (.int .i64 29))) o167) fun v168 o168 =>
 bd (ret1 (binS tab .mul 3 v168 (SV.v (.int .i64 60))) o168) fun v169 o169 =>
 bd (ret1 (binS tab .add 3 v166 v169) o169) fun v170 o170 =>
 bd (storeO tab o170 31 x2 (some v165)) fun v171 o171 =>
 bd (ret1 (loadS tab o171 29 x8) o171) fun v172 o172 =>
 bd (buildS tab o172 46 [(0, (some v172)), (1, (some x10))]) fun v173 o173 =>
 bd (storeO tab o173 46 x3 (some v173)) fun v174 o174 =>
 retV tab nl o174 (resC1 (loadS tab o174 31 x2) (resC1 (loadS tab o174 46 x3) (resC1 (some v170) (some [])))))))
noncomputable def X27 (K : Nat → List SV → List SO → Out) (N nl : Nat) (x0 : SV) (os : List SO) : Out := exec (cx K) N nl fi27 c27 [(0, x0)] os (kEnd tab nl rs27)
noncomputable def B27 (K : Nat → List SV → List SO → Out) (N nl : Nat) (x0 : SV) (os : List SO) : Out :=
 bd (allocS tab os 31) fun v1 o1 =>
 bd (allocS tab o1 46) fun v2 o2 =>
 bd (callS ⟨tab, ownF, K⟩ o2 49 [x0]) fun v3 o3 =>
 bd (callS ⟨tab, ownF, K⟩ o3 65 [v3]) fun v4 o4 =>
 bd (ret1 (extractS v4 0) o4) fun v5 o5 =>
 bd (ret1 (extractS v4 1) o5) fun v6 o6 =>
 bd (allocS tab o6 31) fun v7 o7 =>
 bd (storeO tab o7 31 v7 (some v5)) fun v8 o8 =>
 both (both (both (both (both (bd (ret1 (fieldAddrS tab 31 v7 2) o8) fun v9 o9 =>
 bd (ret1 (fieldAddrS tab 29 v9 0) o9) fun v10 o10 =>
 dchk (isBox v10) <|
 bd (ret1 (loadS tab o10 3 v10) o10) fun v11 o11 =>
 bd (ret1 (binS tab .add 3 v11 (SV.v (.int .i64 1))) o11) fun v12 o12 =>
 dchk (keepOk ⟨tab, ownF, K⟩ o12 (SV.fn 67 []) [v3, (SV.v (.int .i64 3))] [v10] false) <|
 bd (callS ⟨tab, ownF, K⟩ o12 67 [v3, (SV.v (.int .i64 3))]) fun v13 o13 =>
 bd (ret1 (binS tab .add 3 v12 v13) o13) fun v14 o14 =>
 dchk (keepOk ⟨tab, ownF, K⟩ o14 (SV.fn 67 []) [v3, (SV.v (.int .i64 5))] [v10] false) <|
 bd (callS ⟨tab, ownF, K⟩ o14 67 [v3, (SV.v (.int .i64 5))]) fun v15 o15 =>
 bd (ret1 (binS tab .quo 3 v15 (SV.v (.int .i64 4))) o15) fun v16 o16 =>
 bd (ret1 (binS tab .mul 3 v16 (SV.v (.int .i64 2))) o16) fun v17 o17 =>
 bd (ret1 (binS tab .sub 3 v14 v17) o17) fun v18 o18 =>
 dchk (keepOk ⟨tab, ownF, K⟩ o18 (SV.fn 67 []) [v3, (SV.v (.int .i64 9))] [v10] false) <|
 bd (callS ⟨tab, ownF, K⟩ o18 67 [v3, (SV.v (.int .i64 9))]) fun v19 o19 =>
 bd (ret1 (binS tab .add 3 (SV.v (.int .i64 4)) v19) o19) fun v20 o20 =>
 dchk (keepOk ⟨tab, ownF, K⟩ o20 (SV.fn 68 []) [v3] [v10] false) <|
 bd (callS ⟨tab, ownF, K⟩ o20 68 [v3]) fun v21 o21 =>
 bd (callS ⟨tab, ownF, K⟩ o21 66 [v18, v20, v21]) fun v22 o22 =>
 bd (ret1 (extractS v22 0) o22) fun v23 o23 =>
 bd (ret1 (extractS v22 1) o23) fun v24 o24 =>
 bd (allocS tab o24 29) fun v25 o25 =>
 bd (storeO tab o25 29 v25 (some v23)) fun v26 o26 =>
 J27_4 K N nl v1 v2 v3 v7 v25 o26)
 (bd (ret1 (fieldAddrS tab 31 v7 2) o8) fun v27 o27 =>
 bd (ret1 (fieldAddrS tab 29 v27 0) o27) fun v28 o28 =>
 dchk (isBox v28) <|
 bd (ret1 (loadS tab o28 3 v28) o28) fun v29 o29 =>
 bd (ret1 (binS tab .add 3 v29 (SV.v (.int .i64 1))) o29) fun v30 o30 =>
 dchk (keepOk ⟨tab, ownF, K⟩ o30 (SV.fn 67 []) [v3, (SV.v (.int .i64 3))] [v28] false) <|
 bd (callS ⟨tab, ownF, K⟩ o30 67 [v3, (SV.v (.int .i64 3))]) fun v31 o31 =>
 bd (ret1 (binS tab .add 3 v30 v31) o31) fun v32 o32 =>
 dchk (keepOk ⟨tab, ownF, K⟩ o32 (SV.fn 67 []) [v3, (SV.v (.int .i64 5))] [v28] false) <|
 bd (callS ⟨tab, ownF, K⟩ o32 67 [v3, (SV.v (.int .i64 5))]) fun v33 o33 =>
 bd (ret1 (binS tab .quo 3 v33 (SV.v (.int .i64 4))) o33) fun v34 o34 =>
 bd (ret1 (binS tab .mul 3 v34 (SV.v (.int .i64 2))) o34) fun v35 o35 =>
 bd (ret1 (binS tab .sub 3 v32 v35) o35) fun v36 o36 =>
 dchk (keepOk ⟨tab, ownF, K⟩ o36 (SV.fn 67 []) [v3, (SV.v (.int .i64 9))] [v28] false) <|
 bd (callS ⟨tab, ownF, K⟩ o36 67 [v3, (SV.v (.int .i64 9))]) fun v37 o37 =>
 bd (ret1 (binS tab .add 3 (SV.v (.int .i64 4)) v37) o37) fun v38 o38 =>
 dchk (keepOk ⟨tab, ownF, K⟩ o38 (SV.fn 68 []) [v3] [v28] false) <|
 bd (callS ⟨tab, ownF, K⟩ o38 68 [v3]) fun v39 o39 =>
 bd (allocS tab o39 29) fun v40 o40 =>
 bd (callS ⟨tab, ownF, K⟩ o40 66 [v36, v38, v39]) fun v41 o41 =>
 bd (ret1 (extractS v41 0) o41) fun v42 o42 =>
 bd (ret1 (extractS v41 1) o42) fun v43 o43 =>
 bd (storeO tab o43 29 v40 (some v42)) fun v44 o44 =>
 J27_4 K N nl v1 v2 v3 v7 v40 o44))
 (bd (ret1 (fieldAddrS tab 31 v7 2) o8) fun v45 o45 =>
 bd (ret1 (fieldAddrS tab 29 v45 0) o45) fun v46 o46 =>
 dchk (isBox v46) <|
 bd (ret1 (loadS tab o46 3 v46) o46) fun v47 o47 =>
 bd (ret1 (binS tab .add 3 v47 (SV.v (.int .i64 1))) o47) fun v48 o48 =>
 dchk (keepOk ⟨tab, ownF, K⟩ o48 (SV.fn 67 []) [v3, (SV.v (.int .i64 3))] [v46] false) <|
 bd (callS ⟨tab, ownF, K⟩ o48 67 [v3, (SV.v (.int .i64 3))]) fun v49 o49 =>
 bd (ret1 (binS tab .add 3 v48 v49) o49) fun v50 o50 =>
 dchk (keepOk ⟨tab, ownF, K⟩ o50 (SV.fn 67 []) [v3, (SV.v (.int .i64 5))] [v46] false) <|
 bd (callS ⟨tab, ownF, K⟩ o50 67 [v3, (SV.v (.int .i64 5))]) fun v51 o51 =>
 bd (ret1 (binS tab .quo 3 v51 (SV.v (.int .i64 4))) o51) fun v52 o52 =>
 bd (ret1 (binS tab .mul 3 v52 (SV.v (.int .i64 2))) o52) fun v53 o53 =>
 bd (ret1 (binS tab .sub 3 v50 v53) o53) fun v54 o54 =>
 dchk (keepOk ⟨tab, ownF, K⟩ o54 (SV.fn 67 []) [v3, (SV.v (.int .i64 9))] [v46] false) <|
 bd (callS ⟨tab, ownF, K⟩ o54 67 [v3, (SV.v (.int .i64 9))]) fun v55 o55 =>
 bd (ret1 (binS tab .add 3 (SV.v (.int .i64 4)) v55) o55) fun v56 o56 =>
 bd (allocS tab o56 29) fun v57 o57 =>
 dchk (keepOk ⟨tab, ownF, K⟩ o57 (SV.fn 68 []) [v3] [v46] false) <|
 bd (callS ⟨tab, ownF, K⟩ o57 68 [v3]) fun v58 o58 =>
 bd (callS ⟨tab, ownF, K⟩ o58 66 [v54, v56, v58]) fun v59 o59 =>
 bd (ret1 (extractS v59 0) o59) fun v60 o60 =>
 bd (ret1 (extractS v59 1) o60) fun v61 o61 =>
 bd (storeO tab o61 29 v57 (some v60)) fun v62 o62 =>
 J27_4 K N nl v1 v2 v3 v7 v57 o62))
 (bd (ret1 (fieldAddrS tab 31 v7 2) o8) fun v63 o63 =>
 bd (ret1 (fieldAddrS tab 29 v63 0) o63) fun v64 o64 =>
 dchk (isBox v64) <|
 bd (ret1 (loadS tab o64 3 v64) o64) fun v65 o65 =>
 bd (ret1 (binS tab .add 3 v65 (SV.v (.int .i64 1))) o65) fun v66 o66 =>
 dchk (keepOk ⟨tab, ownF, K⟩ o66 (SV.fn 67 []) [v3, (SV.v (.int .i64 3))] [v64] false) <|
 bd (callS ⟨tab, ownF, K⟩ o66 67 [v3, (SV.v (.int .i64 3))]) fun v67 o67 =>
 bd (ret1 (binS tab .add 3 v66 v67) o67) fun v68 o68 =>
 dchk (keepOk ⟨tab, ownF, K⟩ o68 (SV.fn 67 []) [v3, (SV.v (.int .i64 5))] [v64] false) <|
 bd (callS ⟨tab, ownF, K⟩ o68 67 [v3, (SV.v (.int .i64 5))]) fun v69 o69 =>
 bd (ret1 (binS tab .quo 3 v69 (SV.v (.int .i64 4))) o69) fun v70 o70 =>
 bd (ret1 (binS tab .mul 3 v70 (SV.v (.int .i64 2))) o70) fun v71 o71 =>
 bd (ret1 (binS tab .sub 3 v68 v71) o71) fun v72 o72 =>
 bd (allocS tab o72 29) fun v73 o73 =>
 dchk (keepOk ⟨tab, ownF, K⟩ o73 (SV.fn 67 []) [v3, (SV.v (.int .i64 9))] [v64] false) <|
 bd (callS ⟨tab, ownF, K⟩ o73 67 [v3, (SV.v (.int .i64 9))]) fun v74 o74 =>
 bd (ret1 (binS tab .add 3 (SV.v (.int .i64 4)) v74) o74) fun v75 o75 =>
 dchk (keepOk ⟨tab, ownF, K⟩ o75 (SV.fn 68 []) [v3] [v64] false) <|
 bd (callS ⟨tab, ownF, K⟩ o75 68 [v3]) fun v76 o76 =>
 bd (callS ⟨tab, ownF, K⟩ o76 66 [v72, v75, v76]) fun v77 o77 =>
 bd (ret1 (extractS v77 0) o77) fun v78 o78 =>
 bd (ret1 (extractS v77 1) o78) fun v79 o79 =>
 bd (storeO tab o79 29 v73 (some v78)) fun v80 o80 =>
 J27_4 K N nl v1 v2 v3 v7 v73 o80))
 (bd (ret1 (fieldAddrS tab 31 v7 2) o8) fun v81 o81 =>
 bd (ret1 (fieldAddrS tab 29 v81 0) o81) fun v82 o82 =>
 dchk (isBox v82) <|
 bd (ret1 (loadS tab o82 3 v82) o82) fun v83 o83 =>
 bd (ret1 (binS tab .add 3 v83 (SV.v (.int .i64 1))) o83) fun v84 o84 =>
 dchk (keepOk ⟨tab, ownF, K⟩ o84 (SV.fn 67 []) [v3, (SV.v (.int .i64 3))] [v82] false) <|
 bd (callS ⟨tab, ownF, K⟩ o84 67 [v3, (SV.v (.int .i64 3))]) fun v85 o85 =>
 bd (ret1 (binS tab .add 3 v84 v85) o85) fun v86 o86 =>
 bd (allocS tab o86 29) fun v87 o87 =>
 dchk (keepOk ⟨tab, ownF, K⟩ o87 (SV.fn 67 []) [v3, (SV.v (.int .i64 5))] [v82] false) <|
 bd (callS ⟨tab, ownF, K⟩ o87 67 [v3, (SV.v (.int .i64 5))]) fun v88 o88 =>
 bd (ret1 (binS tab .quo 3 v88 (SV.v (.int .i64 4))) o88) fun v89 o89 =>
 bd (ret1 (binS tab .mul 3 v89 (SV.v (.int .i64 2))) o89) fun v90 o90 =>
 bd (ret1 (binS tab .sub 3 v86 v90) o90) fun v91 o91 =>
 dchk (keepOk ⟨tab, ownF, K⟩ o91 (SV.fn 67 []) [v3, (SV.v (.int .i64 9))] [v82] false) <|
 bd (callS ⟨tab, ownF, K⟩ o91 67 [v3, (SV.v (.int .i64 9))]) fun v92 o92 =>
 bd (ret1 (binS tab .add 3 (SV.v (.int .i64 4)) v92) o92) fun v93 o93 =>
 dchk (keepOk ⟨tab, ownF, K⟩ o93 (SV.fn 68 []) [v3] [v82] false) <|
 bd (callS ⟨tab, ownF, K⟩ o93 68 [v3]) fun v94 o94 =>
 bd (callS ⟨tab, ownF, K⟩ o94 66 [v91, v93, v94]) fun v95 o95 =>
 bd (ret1 (extractS v95 0) o95) fun v96 o96 =>
 bd (ret1 (extractS v95 1) o96) fun v97 o97 =>
 bd (storeO tab o97 29 v87 (some v96)) fun v98 o98 =>
 J27_4 K N nl v1 v2 v3 v7 v87 o98))
 (bd (ret1 (fieldAddrS tab 31 v7 2) o8) fun v99 o99 =>
 bd (ret1 (fieldAddrS tab 29 v99 0) o99) fun v100 o100 =>
 dchk (isBox v100) <|
 bd (ret1 (loadS tab o100 3 v100) o100) fun v101 o101 =>
 bd (ret1 (binS tab .add 3 v101 (SV.v (.int .i64 1))) o101) fun v102 o102 =>
 bd (allocS tab o102 29) fun v103 o103 =>
 dchk (keepOk ⟨tab, ownF, K⟩ o103 (SV.fn 67 []) [v3, (SV.v (.int .i64 3))] [v100] false) <|
 bd (callS ⟨tab, ownF, K⟩ o103 67 [v3, (SV.v (.int .i64 3))]) fun v104 o104 =>
 bd (ret1 (binS tab .add 3 v102 v104) o104) fun v105 o105 =>
 dchk (keepOk ⟨tab, ownF, K⟩ o105 (SV.fn 67 []) [v3, (SV.v (.int .i64 5))] [v100] false) <|
 bd (callS ⟨tab, ownF, K⟩ o105 67 [v3, (SV.v (.int .i64 5))]) fun v106 o106 =>
 bd (ret1 (binS tab .quo 3 v106 (SV.v (.int .i64 4))) o106) fun v107 o107 =>
 bd (ret1 (binS tab .mul 3 v107 (SV.v (.int .i64 2))) o107) fun v108 o108 =>
 bd (ret1 (binS tab .sub 3 v105 v108) o108) fun v109 o109 =>
 dchk (keepOk ⟨tab, ownF, K⟩ o109 (SV.fn 67 []) [v3, (SV.v (.int .i64 9))] [v100] false) <|
 bd (callS ⟨tab, ownF, K⟩ o109 67 [v3, (SV.v (.int .i64 9))]) fun v110 o110 =>
 bd (ret1 (binS tab .add 3 (SV.v (.int .i64 4)) v110) o110) fun v111 o111 =>
 dchk (keepOk ⟨tab, ownF, K⟩ o111 (SV.fn 68 []) [v3] [v100] false) <|
 bd (callS ⟨tab, ownF, K⟩ o111 68 [v3]) fun v112 o112 =>
 bd (callS ⟨tab, ownF, K⟩ o112 66 [v109, v111, v112]) fun v113 o113 =>
 bd (ret1 (extractS v113 0) o113) fun v114 o114 =>
 bd (ret1 (extractS v113 1) o114) fun v115 o115 =>
 bd (storeO tab o115 29 v103 (some v114)) fun v116 o116 =>
 J27_4 K N nl v1 v2 v3 v7 v103 o116)
noncomputable def X28 (K : Nat → List SV → List SO → Out) (N nl : Nat) (x0 x1 x2 : SV) (os : List SO) : Out := exec (cx K) N nl fi28 c28 [(0, x0), (1, x1), (2, x2)] os (kEnd tab nl rs28)
noncomputable def B28 (K : Nat → List SV → List SO → Out) (N nl : Nat) (x0 x1 x2 : SV) (os : List SO) : Out :=
 bd (boxS tab os 31 (some x0)) fun v1 o1 =>
 bd (boxS tab o1 46 (some x1)) fun v2 o2 =>
 bd (allocS tab o2 31) fun v3 o3 =>
 bd (ret1 (loadS tab o3 31 v1) o3) fun v4 o4 =>
 bd (callS ⟨tab, ownF, K⟩ o4 30 [v4]) fun v5 o5 =>
 bd (ret1 (unS .not v5) o5) fun v6 o6 =>
 bd (gd v6 false (some (x2, o6)) o6) fun v7 o7 =>
 bd (gd v6 false (callS ⟨tab, ownF, K⟩ o7 70 [v7, (SV.v (.int .i64 0)), (SV.v (.int .i64 60))]) o7) fun v8 o8 =>
 bd (gd v6 false (ret1 (unS .not v8) o8) o8) fun v9 o9 =>
 bd (ret1 (pickS v6 (SV.v (.bool true)) v9) o9) fun v10 o10 =>
 condS v10 (bd (buildS tab o10 31 []) fun v11 o11 =>
 bd (storeO tab o11 31 v3 (some v11)) fun v12 o12 =>
 retV tab nl o12 (resC1 (loadS tab o12 31 v3) (resC1 (some (SV.v (.bool false))) (some []))))
 (bd (ret1 (loadS tab o10 31 v1) o10) fun v13 o13 =>
 dchk (keepOk ⟨tab, ownF, K⟩ o13 (SV.fn 72 []) [v13] [] true) <|
 bd (callS ⟨tab, ownF, K⟩ o13 72 [v13]) fun v14 o14 =>
 dchk (isBox v2) <|
 bd (ret1 (loadS tab o14 46 v2) o14) fun v15 o15 =>
 bd (callS ⟨tab, ownF, K⟩ o15 71 [v14, v15, x2]) fun v16 o16 =>
 bd (ret1 (extractS v16 0) o16) fun v17 o17 =>
 bd (ret1 (extractS v16 1) o17) fun v18 o18 =>
 bd (storeO tab o18 31 v3 (some v17)) fun v19 o19 =>
 retV tab nl o19 (resC1 (loadS tab o19 31 v3) (resC1 (some v18) (some []))))
noncomputable def X29 (K : Nat → List SV → List SO → Out) (N nl : Nat) (x0 x1 x2 : SV) (os : List SO) : Out := exec (cx K) N nl fi29 c29 [(0, x0), (1, x1), (2, x2)] os (kEnd tab nl rs29)
noncomputable def B29 (K : Nat → List SV → List SO → Out) (N nl : Nat) (x0 x1 x2 : SV) (os : List SO) : Out :=
 bd (boxS tab os 31 (some x0)) fun v1 o1 =>
 bd (boxS tab o1 46 (some x1)) fun v2 o2 =>
 bd (allocS tab o2 31) fun v3 o3 =>
 bd (ret1 (loadS tab o3 31 v1) o3) fun v4 o4 =>
 bd (callS ⟨tab, ownF, K⟩ o4 17 [v4]) fun v5 o5 =>
 bd (ret1 (unS .not v5) o5) fun v6 o6 =>
 bd (gd v6 false (some (x2, o6)) o6) fun v7 o7 =>
 bd (gd v6 false (callS ⟨tab, ownF, K⟩ o7 56 [v7, (SV.v (.int .i64 0)), (SV.v (.int .i64 60))]) o7) fun v8 o8 =>
 bd (gd v6 false (ret1 (unS .not v8) o8) o8) fun v9 o9 =>
 bd (ret1 (pickS v6 (SV.v (.bool true)) v9) o9) fun v10 o10 =>
 condS v10 (bd (buildS tab o10 31 []) fun v11 o11 =>
 bd (storeO tab o11 31 v3 (some v11)) fun v12 o12 =>
 retV tab nl o12 (resC1 (loadS tab o12 31 v3) (resC1 (some (SV.v (.bool false))) (some []))))
 (bd (ret1 (loadS tab o10 31 v1) o10) fun v13 o13 =>
 bd (callS ⟨tab, ownF, K⟩ o13 73 [v13]) fun v14 o14 =>
 bd (allocS tab o14 31) fun v15 o15 =>
 bd (storeO tab o15 31 v15 (some v14)) fun v16 o16 =>
 bd (ret1 (fieldAddrS tab 46 v2 0) o16) fun v17 o17 =>
 bd (ret1 (loadS tab o17 29 v17) o17) fun v18 o18 =>
 bd (allocS tab o18 29) fun v19 o19 =>
 bd (storeO tab o19 29 v19 (some v18)) fun v20 o20 =>
 bd (ret1 (loadS tab o20 29 v19) o20) fun v21 o21 =>
 bd (callS ⟨tab, ownF, K⟩ o21 53 [v21]) fun v22 o22 =>
 bd (ret1 (unS .not v22) o22) fun v23 o23 =>
 bd (gd v23 false (ret1 (fieldAddrS tab 31 v1 0) o23) o23) fun v24 o24 =>
 bd (gd v23 false (ret1 (loadS tab o24 25 v24) o24) o24) fun v25 o25 =>
 bd (gd v23 false (ret1 (fieldAddrS tab 46 v2 1) o25) o25) fun v26 o26 =>
 bd (gd v23 false (ret1 (loadS tab o26 23 v26) o26) o26) fun v27 o27 =>
 bd (gd v23 false (callS ⟨tab, ownF, K⟩ o27 31 [v25, v27]) o27) fun v28 o28 =>
 bd (gd v23 false (ret1 (unS .not v28) o28) o28) fun v29 o29 =>
 bd (ret1 (pickS v23 (SV.v (.bool true)) v29) o29) fun v30 o30 =>
 bd (gd v30 false (ret1 (fieldAddrS tab 29 v19 1) o30) o30) fun v31 o31 =>
 bd (gd v30 false (ret1 (loadS tab o31 3 v31) o31) o31) fun v32 o32 =>
 bd (gd v30 false (some (x2, o32)) o32) fun v33 o33 =>
 bd (gd v30 false (ret1 (binS tab .lss 3 v32 v33) o33) o33) fun v34 o34 =>
 bd (ret1 (pickS v30 (SV.v (.bool true)) v34) o34) fun v35 o35 =>
 bd (gd v35 false (ret1 (fieldAddrS tab 31 v1 1) o35) o35) fun v36 o36 =>
 bd (gd v35 false (ret1 (loadS tab o36 4 v36) o36) o36) fun v37 o37 =>
 bd (gd v35 false (some (v37, o37)) o37) fun v38 o38 =>
 bd (gd v38 true (ret1 (fieldAddrS tab 29 v19 0) o38) o38) fun v39 o39 =>
 bd (gd v38 true (ret1 (loadS tab o39 3 v39) o39) o39) fun v40 o40 =>
 bd (gd v38 true (ret1 (fieldAddrS tab 31 v1 2) o40) o40) fun v41 o41 =>
 bd (gd v38 true (ret1 (fieldAddrS tab 29 v41 0) o41) o41) fun v42 o42 =>
 bd (gd v38 true (ret1 (loadS tab o42 3 v42) o42) o42) fun v43 o43 =>
 bd (gd v38 true (ret1 (binS tab .leq 3 v40 v43) o43) o43) fun v44 o44 =>
 bd (gd v35 false (ret1 (pickS v38 v44 (SV.v (.bool false))) o44) o44) fun v45 o45 =>
 bd (ret1 (pickS v35 (SV.v (.bool true)) v45) o45) fun v46 o46 =>
 condS v46 (bd (ret1 (loadS tab o46 31 v15) o46) fun v47 o47 =>
 bd (storeO tab o47 31 v3 (some v47)) fun v48 o48 =>
 retV tab nl o48 (resC1 (loadS tab o48 31 v3) (resC1 (some (SV.v (.bool false))) (some []))))
 (bd (ret1 (loadS tab o46 29 v19) o46) fun v49 o49 =>
 bd (callS ⟨tab, ownF, K⟩ o49 74 [v49]) fun v50 o50 =>
 bd (ret1 (fieldAddrS tab 31 v15 1) o50) fun v51 o51 =>
 bd (storeO tab o51 4 v51 (some (SV.v (.bool true)))) fun v52 o52 =>
 bd (ret1 (fieldAddrS tab 31 v15 2) o52) fun v53 o53 =>
 bd (storeO tab o53 29 v53 (some v50)) fun v54 o54 =>
 bd (ret1 (loadS tab o54 31 v15) o54) fun v55 o55 =>
 bd (storeO tab o55 31 v3 (some v55)) fun v56 o56 =>
 retV tab nl o56 (resC1 (loadS tab o56 31 v3) (resC1 (some (SV.v (.bool true))) (some [])))))
noncomputable def X30 (K : Nat → List SV → List SO → Out) (N nl : Nat) (x0 : SV) (os : List SO) : Out := exec (cx K) N nl fi30 c30 [(0, x0)] os (kEnd tab nl rs30)
noncomputable def B30 (K : Nat → List SV → List SO → Out) (N nl : Nat) (x0 : SV) (os : List SO) : Out :=
 bd (boxS tab os 31 (some x0)) fun v1 o1 =>
 bd (ret1 (fieldAddrS tab 31 v1 0) o1) fun v2 o2 =>
 bd (ret1 (loadS tab o2 25 v2) o2) fun v3 o3 =>
 bd (callS ⟨tab, ownF, K⟩ o3 50 [v3]) fun v4 o4 =>
 bd (ret1 (unS .not v4) o4) fun v5 o5 =>
 condS v5 (retV tab nl o5 (resC1 (some (SV.v (.bool false))) (some [])))
 (bd (ret1 (fieldAddrS tab 31 v1 1) o5) fun v6 o6 =>
 bd (ret1 (loadS tab o6 4 v6) o6) fun v7 o7 =>
 condS v7 (bd (ret1 (fieldAddrS tab 31 v1 2) o7) fun v8 o8 =>
 bd (ret1 (loadS tab o8 29 v8) o8) fun v9 o9 =>
 bd (callS ⟨tab, ownF, K⟩ o9 75 [v9]) fun v10 o10 =>
 retV tab nl o10 (resC1 (some v10) (some [])))
 (bd (ret1 (fieldAddrS tab 31 v1 2) o7) fun v11 o11 =>
 bd (ret1 (fieldAddrS tab 29 v11 0) o11) fun v12 o12 =>
 bd (ret1 (loadS tab o12 3 v12) o12) fun v13 o13 =>
 bd (ret1 (binS tab .eql 3 v13 (SV.v (.int .i64 0))) o13) fun v14 o14 =>
 bd (gd v14 true (ret1 (fieldAddrS tab 31 v1 2) o14) o14) fun v15 o15 =>
 bd (gd v14 true (ret1 (fieldAddrS tab 29 v15 1) o15) o15) fun v16 o16 =>
 bd (gd v14 true (ret1 (loadS tab o16 3 v16) o16) o16) fun v17 o17 =>
 bd (gd v14 true (ret1 (binS tab .eql 3 v17 (SV.v (.int .i64 0))) o17) o17) fun v18 o18 =>
 bd (ret1 (pickS v14 v18 (SV.v (.bool false))) o18) fun v19 o19 =>
 bd (gd v19 true (ret1 (fieldAddrS tab 31 v1 2) o19) o19) fun v20 o20 =>
 bd (gd v19 true (ret1 (fieldAddrS tab 29 v20 2) o20) o20) fun v21 o21 =>
 bd (gd v19 true (ret1 (loadS tab o21 27 v21) o21) o21) fun v22 o22 =>
 bd (gd v19 true (lenO tab 27 o22 v22) o22) fun v23 o23 =>
 bd (gd v19 true (ret1 (binS tab .eql 3 v23 (SV.v (.int .i64 0))) o23) o23) fun v24 o24 =>
 bd (ret1 (pickS v19 v24 (SV.v (.bool false))) o24) fun v25 o25 =>
 retV tab nl o25 (resC1 (some v25) (some []))))
noncomputable def X31 (K : Nat → List SV → List SO → Out) (N nl : Nat) (x0 x1 : SV) (os : List SO) : Out := exec (cx K) N nl fi31 c31 [(0, x0), (1, x1)] os (kEnd tab nl rs31)
noncomputable def B31 (K : Nat → List SV → List SO → Out) (N nl : Nat) (x0 x1 : SV) (os : List SO) : Out :=
 bd (boxS tab os 25 (some x0)) fun v1 o1 =>
 bd (ret1 (loadS tab o1 25 v1) o1) fun v2 o2 =>
 bd (callS ⟨tab, ownF, K⟩ o2 37 [v2]) fun v3 o3 =>
 bd (gd v3 true (some (x1, o3)) o3) fun v4 o4 =>
 bd (gd v3 true (callS ⟨tab, ownF, K⟩ o4 76 [v4]) o4) fun v5 o5 =>
 bd (ret1 (pickS v3 v5 (SV.v (.bool false))) o5) fun v6 o6 =>
 bd (gd v6 true (ret1 (fieldAddrS tab 25 v1 1) o6) o6) fun v7 o7 =>
 bd (gd v6 true (ret1 (loadS tab o7 23 v7) o7) o7) fun v8 o8 =>
 bd (gd v6 true (some (x1, o8)) o8) fun v9 o9 =>
 dchk (keepOk ⟨tab, ownF, K⟩ o9 (SV.fn 77 []) [v8, v9] [] true) <|
 bd (gd v6 true (callS ⟨tab, ownF, K⟩ o9 77 [v8, v9]) o9) fun v10 o10 =>
 bd (gd v6 true (ret1 (fieldAddrS tab 25 v1 2) o10) o10) fun v11 o11 =>
 dchk (isBox v11) <|
 bd (gd v6 true (ret1 (loadS tab o11 3 v11) o11) o11) fun v12 o12 =>
 bd (gd v6 true (ret1 (binS tab .geq 3 v10 v12) o12) o12) fun v13 o13 =>
 bd (ret1 (pickS v6 v13 (SV.v (.bool false))) o13) fun v14 o14 =>
 retV tab nl o14 (resC1 (some v14) (some []))
noncomputable def X32 (K : Nat → List SV → List SO → Out) (N nl : Nat) (x0 x1 : SV) (os : List SO) : Out := exec (cx K) N nl fi32 c32 [(0, x0), (1, x1)] os (kEnd tab nl rs32)
noncomputable def B32 (K : Nat → List SV → List SO → Out) (N nl : Nat) (x0 x1 : SV) (os : List SO) : Out :=
 bd (boxS tab os 29 (some x0)) fun v1 o1 =>
 bd (boxS tab o1 29 (some x1)) fun v2 o2 =>
 bd (ret1 (fieldAddrS tab 29 v1 0) o2) fun v3 o3 =>
 bd (ret1 (loadS tab o3 3 v3) o3) fun v4 o4 =>
 bd (ret1 (fieldAddrS tab 29 v2 0) o4) fun v5 o5 =>
 bd (ret1 (loadS tab o5 3 v5) o5) fun v6 o6 =>
 bd (ret1 (binS tab .eql 3 v4 v6) o6) fun v7 o7 =>
 bd (gd v7 true (ret1 (fieldAddrS tab 29 v1 1) o7) o7) fun v8 o8 =>
 bd (gd v7 true (ret1 (loadS tab o8 3 v8) o8) o8) fun v9 o9 =>
 bd (gd v7 true (ret1 (fieldAddrS tab 29 v2 1) o9) o9) fun v10 o10 =>
 bd (gd v7 true (ret1 (loadS tab o10 3 v10) o10) o10) fun v11 o11 =>
 bd (gd v7 true (ret1 (binS tab .eql 3 v9 v11) o11) o11) fun v12 o12 =>
 bd (ret1 (pickS v7 v12 (SV.v (.bool false))) o12) fun v13 o13 =>
 bd (gd v13 true (ret1 (fieldAddrS tab 29 v1 2) o13) o13) fun v14 o14 =>
 bd (gd v13 true (ret1 (loadS tab o14 27 v14) o14) o14) fun v15 o15 =>
 bd (gd v13 true (ret1 (fieldAddrS tab 29 v2 2) o15) o15) fun v16 o16 =>
 bd (gd v13 true (ret1 (loadS tab o16 27 v16) o16) o16) fun v17 o17 =>
 bd (gd v13 true (callS ⟨tab, ownF, K⟩ o17 78 [v15, v17]) o17) fun v18 o18 =>
 bd (ret1 (pickS v13 v18 (SV.v (.bool false))) o18) fun v19 o19 =>
 retV tab nl o19 (resC1 (some v19) (some []))
noncomputable def X33 (K : Nat → List SV → List SO → Out) (N nl : Nat) (x0 x1 : SV) (os : List SO) : Out := exec (cx K) N nl fi33 c33 [(0, x0), (1, x1)] os (kEnd tab nl rs33)
noncomputable def B33 (K : Nat → List SV → List SO → Out) (N nl : Nat) (x0 x1 : SV) (os : List SO) : Out :=
 bd (boxS tab os 31 (some x0)) fun v1 o1 =>
 bd (boxS tab o1 53 (some x1)) fun v2 o2 =>
 bd (allocS tab o2 31) fun v3 o3 =>
 bd (ret1 (loadS tab o3 31 v1) o3) fun v4 o4 =>
 bd (callS ⟨tab, ownF, K⟩ o4 17 [v4]) fun v5 o5 =>
 bd (ret1 (unS .not v5) o5) fun v6 o6 =>
 condS v6 (bd (buildS tab o6 31 []) fun v7 o7 =>
 bd (storeO tab o7 31 v3 (some v7)) fun v8 o8 =>
 retV tab nl o8 (resC1 (loadS tab o8 31 v3) (resC1 (some (SV.v (.bool false))) (some []))))
 (bd (ret1 (loadS tab o6 31 v1) o6) fun v9 o9 =>
 bd (callS ⟨tab, ownF, K⟩ o9 73 [v9]) fun v10 o10 =>
 bd (allocS tab o10 31) fun v11 o11 =>
 bd (storeO tab o11 31 v11 (some v10)) fun v12 o12 =>
 bd (ret1 (fieldAddrS tab 31 v1 0) o12) fun v13 o13 =>
 bd (ret1 (loadS tab o13 25 v13) o13) fun v14 o14 =>
 bd (ret1 (loadS tab o14 53 v2) o14) fun v15 o15 =>
 bd (callS ⟨tab, ownF, K⟩ o15 36 [v14, v15]) fun v16 o16 =>
 bd (ret1 (unS .not v16) o16) fun v17 o17 =>
 condS v17 (bd (ret1 (loadS tab o17 31 v11) o17) fun v18 o18 =>
 bd (storeO tab o18 31 v3 (some v18)) fun v19 o19 =>
 retV tab nl o19 (resC1 (loadS tab o19 31 v3) (resC1 (some (SV.v (.bool false))) (some []))))
 (bd (ret1 (fieldAddrS tab 53 v2 0) o17) fun v20 o20 =>
 bd (ret1 (loadS tab o20 25 v20) o20) fun v21 o21 =>
 bd (callS ⟨tab, ownF, K⟩ o21 52 [v21]) fun v22 o22 =>
 bd (ret1 (fieldAddrS tab 31 v11 0) o22) fun v23 o23 =>
 bd (storeO tab o23 25 v23 (some v22)) fun v24 o24 =>
 bd (ret1 (loadS tab o24 31 v11) o24) fun v25 o25 =>
 bd (storeO tab o25 31 v3 (some v25)) fun v26 o26 =>
 retV tab nl o26 (resC1 (loadS tab o26 31 v3) (resC1 (some (SV.v (.bool true))) (some [])))))
noncomputable def J34_8 (K : Nat → List SV → List SO → Out) (N nl : Nat) (x2 x3 x5 x7 x8 : SV) (os : List SO) : Out := exec (cx K) N nl fi34 (subC c34 [1, 1, 1, 1, 1, 1, 1]) [(2, x2), (3, x3), (5, x5), (7, x7), (8, x8)] os (kEnd tab nl rs34)
noncomputable def JB34_8 (K : Nat → List SV → List SO → Out) (N nl : Nat) (x2 x3 x5 x7 x8 : SV) (os : List SO) : Out :=
 both (both (dchk (isBox x5) <|
 bd (ret1 (loadS tab os 31 x5) os) fun v33 o33 =>
 bd (ret1 (loadS tab o33 25 x7) o33) fun v34 o34 =>
 bd (buildS tab o34 53 [(0, (some v34)), (1, (some x8))]) fun v35 o35 =>
 bd (storeO tab o35 31 x2 (some v33)) fun v36 o36 =>
 bd (storeO tab o36 53 x3 (some v35)) fun v37 o37 =>
 retV tab nl o37 (resC1 (loadS tab o37 31 x2) (resC1 (loadS tab o37 53 x3) (some []))))
 (bd (ret1 (loadS tab os 31 x5) os) fun v38 o38 =>
 bd (ret1 (loadS tab o38 25 x7) o38) fun v39 o39 =>
 bd (storeO tab o39 31 x2 (some v38)) fun v40 o40 =>
 bd (buildS tab o40 53 [(0, (some v39)), (1, (some x8))]) fun v41 o41 =>
 bd (storeO tab o41 53 x3 (some v41)) fun v42 o42 =>
 retV tab nl o42 (resC1 (loadS tab o42 31 x2) (resC1 (loadS tab o42 53 x3) (some [])))))
 (bd (ret1 (loadS tab os 31 x5) os) fun v43 o43 =>
 bd (storeO tab o43 31 x2 (some v43)) fun v44 o44 =>
 bd (ret1 (loadS tab o44 25 x7) o44) fun v45 o45 =>
 bd (buildS tab o45 53 [(0, (some v45)), (1, (some x8))]) fun v46 o46 =>
 bd (storeO tab o46 53 x3 (some v46)) fun v47 o47 =>
 retV tab nl o47 (resC1 (loadS tab o47 31 x2) (resC1 (loadS tab o47 53 x3) (some []))))
noncomputable def X34 (K : Nat → List SV → List SO → Out) (N nl : Nat) (x0 : SV) (os : List SO) : Out := exec (cx K) N nl fi34 c34 [(0, x0)] os (kEnd tab nl rs34)
noncomputable def B34 (K : Nat → List SV → List SO → Out) (N nl : Nat) (x0 : SV) (os : List SO) : Out :=
 bd (allocS tab os 31) fun v1 o1 =>
 bd (allocS tab o1 53) fun v2 o2 =>
 bd (callS ⟨tab, ownF, K⟩ o2 49 [x0]) fun v3 o3 =>
 bd (callS ⟨tab, ownF, K⟩ o3 65 [v3]) fun v4 o4 =>
 bd (ret1 (extractS v4 0) o4) fun v5 o5 =>
 bd (ret1 (extractS v4 1) o5) fun v6 o6 =>
 bd (allocS tab o6 31) fun v7 o7 =>
 bd (storeO tab o7 31 v7 (some v5)) fun v8 o8 =>
 bd (callS ⟨tab, ownF, K⟩ o8 48 [v3]) fun v9 o9 =>
 bd (allocS tab o9 25) fun v10 o10 =>
 bd (storeO tab o10 25 v10 (some v9)) fun v11 o11 =>
 bd (ret1 (fieldAddrS tab 31 v7 0) o11) fun v12 o12 =>
 bd (ret1 (fieldAddrS tab 25 v12 0) o12) fun v13 o13 =>
 dchk (isBox v13) <|
 bd (ret1 (loadS tab o13 3 v13) o13) fun v14 o14 =>
 bd (ret1 (binS tab .add 3 v14 (SV.v (.int .i64 1))) o14) fun v15 o15 =>
 dchk (keepOk ⟨tab, ownF, K⟩ o15 (SV.fn 67 []) [v3, (SV.v (.int .i64 12))] [v13] false) <|
 bd (callS ⟨tab, ownF, K⟩ o15 67 [v3, (SV.v (.int .i64 12))]) fun v16 o16 =>
 bd (ret1 (binS tab .quo 3 v16 (SV.v (.int .i64 11))) o16) fun v17 o17 =>
 bd (ret1 (binS tab .add 3 v15 v17) o17) fun v18 o18 =>
 dchk (keepOk ⟨tab, ownF, K⟩ o18 (SV.fn 67 []) [v3, (SV.v (.int .i64 12))] [v13] false) <|
 bd (callS ⟨tab, ownF, K⟩ o18 67 [v3, (SV.v (.int .i64 12))]) fun v19 o19 =>
 bd (ret1 (binS tab .quo 3 v19 (SV.v (.int .i64 11))) o19) fun v20 o20 =>
 bd (ret1 (binS tab .sub 3 v18 v20) o20) fun v21 o21 =>
 bd (ret1 (fieldAddrS tab 25 v10 0) o21) fun v22 o22 =>
 bd (storeO tab o22 3 v22 (some v21)) fun v23 o23 =>
 bd (ret1 (fieldAddrS tab 31 v7 0) o23) fun v24 o24 =>
 bd (ret1 (fieldAddrS tab 25 v24 1) o24) fun v25 o25 =>
 bd (ret1 (loadS tab o25 23 v25) o25) fun v26 o26 =>
 bd (ret1 (fieldAddrS tab 25 v10 1) o26) fun v27 o27 =>
 bd (ret1 (loadS tab o27 23 v27) o27) fun v28 o28 =>
 bd (callS ⟨tab, ownF, K⟩ o28 79 [v26, v28]) fun v29 o29 =>
 bd (callS ⟨tab, ownF, K⟩ o29 67 [v3, (SV.v (.int .i64 4))]) fun v30 o30 =>
 bd (ret1 (binS tab .eql 3 v30 (SV.v (.int .i64 0))) o30) fun v31 o31 =>
 condS v31 (bd (callS ⟨tab, ownF, K⟩ o31 69 [v3]) fun v32 o32 =>
 J34_8 K N nl v1 v2 v7 v10 v32 o32)
 (J34_8 K N nl v1 v2 v7 v10 v29 o31)
noncomputable def X35 (K : Nat → List SV → List SO → Out) (N nl : Nat) (x0 x1 : SV) (os : List SO) : Out := exec (cx K) N nl fi35 c35 [(0, x0), (1, x1)] os (kEnd tab nl rs35)
noncomputable def B35 (K : Nat → List SV → List SO → Out) (N nl : Nat) (x0 x1 : SV) (os : List SO) : Out :=
 bd (boxS tab os 31 (some x0)) fun v1 o1 =>
 bd (boxS tab o1 53 (some x1)) fun v2 o2 =>
 bd (allocS tab o2 31) fun v3 o3 =>
 bd (ret1 (loadS tab o3 31 v1) o3) fun v4 o4 =>
 bd (callS ⟨tab, ownF, K⟩ o4 30 [v4]) fun v5 o5 =>
 bd (ret1 (unS .not v5) o5) fun v6 o6 =>
 condS v6 (bd (buildS tab o6 31 []) fun v7 o7 =>
 bd (storeO tab o7 31 v3 (some v7)) fun v8 o8 =>
 retV tab nl o8 (resC1 (loadS tab o8 31 v3) (resC1 (some (SV.v (.bool false))) (some []))))
 (bd (ret1 (loadS tab o6 31 v1) o6) fun v9 o9 =>
 dchk (keepOk ⟨tab, ownF, K⟩ o9 (SV.fn 72 []) [v9] [] true) <|
 bd (callS ⟨tab, ownF, K⟩ o9 72 [v9]) fun v10 o10 =>
 dchk (isBox v2) <|
 bd (ret1 (loadS tab o10 53 v2) o10) fun v11 o11 =>
 bd (callS ⟨tab, ownF, K⟩ o11 80 [v10, v11]) fun v12 o12 =>
 bd (ret1 (extractS v12 0) o12) fun v13 o13 =>
 bd (ret1 (extractS v12 1) o13) fun v14 o14 =>
 bd (storeO tab o14 31 v3 (some v13)) fun v15 o15 =>
 retV tab nl o15 (resC1 (loadS tab o15 31 v3) (resC1 (some v14) (some []))))
noncomputable def X36 (K : Nat → List SV → List SO → Out) (N nl : Nat) (x0 x1 : SV) (os : List SO) : Out := exec (cx K) N nl fi36 c36 [(0, x0), (1, x1)] os (kEnd tab nl rs36)
noncomputable def B36 (K : Nat → List SV → List SO → Out) (N nl : Nat) (x0 x1 : SV) (os : List SO) : Out :=
 bd (boxS tab os 25 (some x0)) fun v1 o1 =>
 bd (boxS tab o1 53 (some x1)) fun v2 o2 =>
 bd (ret1 (loadS tab o2 25 v1) o2) fun v3 o3 =>
 bd (ret1 (fieldAddrS tab 53 v2 1) o3) fun v4 o4 =>
 bd (ret1 (loadS tab o4 23 v4) o4) fun v5 o5 =>
 bd (callS ⟨tab, ownF, K⟩ o5 31 [v3, v5]) fun v6 o6 =>
 bd (gd v6 true (ret1 (fieldAddrS tab 53 v2 0) o6) o6) fun v7 o7 =>
 bd (gd v6 true (ret1 (loadS tab o7 25 v7) o7) o7) fun v8 o8 =>
 bd (gd v6 true (ret1 (fieldAddrS tab 53 v2 1) o8) o8) fun v9 o9 =>
 bd (gd v6 true (ret1 (loadS tab o9 23 v9) o9) o9) fun v10 o10 =>
 bd (gd v6 true (callS ⟨tab, ownF, K⟩ o10 31 [v8, v10]) o10) fun v11 o11 =>
 bd (ret1 (pickS v6 v11 (SV.v (.bool false))) o11) fun v12 o12 =>
 bd (gd v12 true (ret1 (fieldAddrS tab 53 v2 0) o12) o12) fun v13 o13 =>
 bd (gd v12 true (ret1 (fieldAddrS tab 25 v13 0) o13) o13) fun v14 o14 =>
 bd (gd v12 true (ret1 (loadS tab o14 3 v14) o14) o14) fun v15 o15 =>
 bd (gd v12 true (ret1 (fieldAddrS tab 25 v1 0) o15) o15) fun v16 o16 =>
 bd (gd v12 true (ret1 (loadS tab o16 3 v16) o16) o16) fun v17 o17 =>
 bd (gd v12 true (ret1 (binS tab .add 3 v17 (SV.v (.int .i64 1))) o17) o17) fun v18 o18 =>
 bd (gd v12 true (ret1 (binS tab .eql 3 v15 v18) o18) o18) fun v19 o19 =>
 bd (ret1 (pickS v12 v19 (SV.v (.bool false))) o19) fun v20 o20 =>
 retV tab nl o20 (resC1 (some v20) (some []))
noncomputable def X37 (K : Nat → List SV → List SO → Out) (N nl : Nat) (x0 : SV) (os : List SO) : Out := exec (cx K) N nl fi37 c37 [(0, x0)] os (kEnd tab nl rs37)
noncomputable def B37 (K : Nat → List SV → List SO → Out) (N nl : Nat) (x0 : SV) (os : List SO) : Out :=
 bd (boxS tab os 25 (some x0)) fun v1 o1 =>
 bd (ret1 (fieldAddrS tab 25 v1 0) o1) fun v2 o2 =>
 bd (ret1 (loadS tab o2 3 v2) o2) fun v3 o3 =>
 bd (callS ⟨tab, ownF, K⟩ o3 56 [v3, (SV.v (.int .i64 1)), (SV.v (.int .i64 9))]) fun v4 o4 =>
 bd (gd v4 true (ret1 (fieldAddrS tab 25 v1 1) o4) o4) fun v5 o5 =>
 bd (gd v4 true (ret1 (loadS tab o5 23 v5) o5) o5) fun v6 o6 =>
 bd (gd v4 true (callS ⟨tab, ownF, K⟩ o6 76 [v6]) o6) fun v7 o7 =>
 bd (ret1 (pickS v4 v7 (SV.v (.bool false))) o7) fun v8 o8 =>
 bd (gd v8 true (ret1 (fieldAddrS tab 25 v1 2) o8) o8) fun v9 o9 =>
 bd (gd v8 true (ret1 (loadS tab o9 3 v9) o9) o9) fun v10 o10 =>
 bd (gd v8 true (ret1 (fieldAddrS tab 25 v1 1) o10) o10) fun v11 o11 =>
 bd (gd v8 true (ret1 (loadS tab o11 23 v11) o11) o11) fun v12 o12 =>
 bd (gd v8 true (lenO tab 23 o12 v12) o12) fun v13 o13 =>
 bd (gd v8 true (callS ⟨tab, ownF, K⟩ o13 56 [v10, (SV.v (.int .i64 1)), v13]) o13) fun v14 o14 =>
 bd (ret1 (pickS v8 v14 (SV.v (.bool false))) o14) fun v15 o15 =>
 retV tab nl o15 (resC1 (some v15) (some []))
noncomputable def X38 (K : Nat → List SV → List SO → Out) (N nl : Nat) (x0 x1 : SV) (os : List SO) : Out := exec (cx K) N nl fi38 c38 [(0, x0), (1, x1)] os (kEnd tab nl rs38)
noncomputable def B38 (K : Nat → List SV → List SO → Out) (N nl : Nat) (x0 x1 : SV) (os : List SO) : Out :=
 bd (boxS tab os 64 (some x0)) fun v1 o1 =>
 bd (ret1 (fieldAddrS tab 64 v1 0) o1) fun v2 o2 =>
 bd (ret1 (loadS tab o2 39 v2) o2) fun v3 o3 =>
 bd (callS ⟨tab, ownF, K⟩ o3 20 [v3, x1]) fun v4 o4 =>
 bd (ret1 (binS tab .lss 3 v4 (SV.v (.int .i64 0))) o4) fun v5 o5 =>
 condS v5 (retV tab nl o5 (resC1 (some (SV.v (.int .i64 (-1)))) (some [])))
 (bd (ret1 (fieldAddrS tab 64 v1 2) o5) fun v6 o6 =>
 bd (ret1 (loadS tab o6 62 v6) o6) fun v7 o7 =>
 bd (callS ⟨tab, ownF, K⟩ o7 81 [v7, v4]) fun v8 o8 =>
 bd (ret1 (binS tab .lss 3 v8 (SV.v (.int .i64 0))) o8) fun v9 o9 =>
 condS v9 (retV tab nl o9 (resC1 (some (SV.v (.int .i64 (-1)))) (some [])))
 (retV tab nl o9 (resC1 (some v8) (some []))))
noncomputable def X39 (K : Nat → List SV → List SO → Out) (N nl : Nat) (x0 x1 : SV) (os : List SO) : Out := exec (cx K) N nl fi39 c39 [(0, x0), (1, x1)] os (kEnd tab nl rs39)
noncomputable def B39 (K : Nat → List SV → List SO → Out) (N nl : Nat) (x0 x1 : SV) (os : List SO) : Out :=
 bd (boxS tab os 66 (some x0)) fun v1 o1 =>
 bd (ret1 (fieldAddrS tab 66 v1 0) o1) fun v2 o2 =>
 bd (ret1 (loadS tab o2 62 v2) o2) fun v3 o3 =>
 bd (callS ⟨tab, ownF, K⟩ o3 81 [v3, x1]) fun v4 o4 =>
 bd (ret1 (binS tab .lss 3 v4 (SV.v (.int .i64 0))) o4) fun v5 o5 =>
 condS v5 (retV tab nl o5 (resC1 (some (SV.v (.int .i64 (-1)))) (some [])))
 (bd (ret1 (fieldAddrS tab 66 v1 1) o5) fun v6 o6 =>
 bd (ret1 (loadS tab o6 23 v6) o6) fun v7 o7 =>
 bd (callS ⟨tab, ownF, K⟩ o7 57 [v7, v4]) fun v8 o8 =>
 bd (ret1 (binS tab .lss 3 v8 (SV.v (.int .i64 0))) o8) fun v9 o9 =>
 condS v9 (retV tab nl o9 (resC1 (some (SV.v (.int .i64 (-1)))) (some [])))
 (retV tab nl o9 (resC1 (some v8) (some []))))
noncomputable def X40 (K : Nat → List SV → List SO → Out) (N nl : Nat) (x0 : SV) (os : List SO) : Out := exec (cx K) N nl fi40 c40 [(0, x0)] os (kEnd tab nl rs40)
noncomputable def B40 (K : Nat → List SV → List SO → Out) (N nl : Nat) (x0 : SV) (os : List SO) : Out :=
 bd (boxS tab os 64 (some x0)) fun v1 o1 =>
 bd (allocS tab o1 31) fun v2 o2 =>
 bd (allocS tab o2 31) fun v3 o3 =>
 bd (ret1 (fieldAddrS tab 64 v1 0) o3) fun v4 o4 =>
 bd (ret1 (loadS tab o4 39 v4) o4) fun v5 o5 =>
 bd (callS ⟨tab, ownF, K⟩ o5 21 [v5]) fun v6 o6 =>
 bd (ret1 (fieldAddrS tab 31 v3 0) o6) fun v7 o7 =>
 bd (storeO tab o7 25 v7 (some v6)) fun v8 o8 =>
 bd (ret1 (fieldAddrS tab 64 v1 1) o8) fun v9 o9 =>
 bd (ret1 (loadS tab o9 4 v9) o9) fun v10 o10 =>
 bd (ret1 (fieldAddrS tab 31 v3 1) o10) fun v11 o11 =>
 bd (storeO tab o11 4 v11 (some v10)) fun v12 o12 =>
 bd (ret1 (fieldAddrS tab 64 v1 2) o12) fun v13 o13 =>
 bd (ret1 (loadS tab o13 62 v13) o13) fun v14 o14 =>
 bd (callS ⟨tab, ownF, K⟩ o14 82 [v14]) fun v15 o15 =>
 bd (ret1 (fieldAddrS tab 31 v3 2) o15) fun v16 o16 =>
 bd (storeO tab o16 29 v16 (some v15)) fun v17 o17 =>
 bd (ret1 (loadS tab o17 31 v3) o17) fun v18 o18 =>
 bd (storeO tab o18 31 v2 (some v18)) fun v19 o19 =>
 retV tab nl o19 (resC1 (loadS tab o19 31 v2) (some []))
noncomputable def X41 (K : Nat → List SV → List SO → Out) (N nl : Nat) (x0 : SV) (os : List SO) : Out := exec (cx K) N nl fi41 c41 [(0, x0)] os (kEnd tab nl rs41)
noncomputable def B41 (K : Nat → List SV → List SO → Out) (N nl : Nat) (x0 : SV) (os : List SO) : Out :=
 bd (boxS tab os 66 (some x0)) fun v1 o1 =>
 bd (allocS tab o1 46) fun v2 o2 =>
 bd (allocS tab o2 46) fun v3 o3 =>
 bd (ret1 (fieldAddrS tab 66 v1 0) o3) fun v4 o4 =>
 bd (ret1 (loadS tab o4 62 v4) o4) fun v5 o5 =>
 bd (callS ⟨tab, ownF, K⟩ o5 82 [v5]) fun v6 o6 =>
 bd (ret1 (fieldAddrS tab 46 v3 0) o6) fun v7 o7 =>
 bd (storeO tab o7 29 v7 (some v6)) fun v8 o8 =>
 bd (ret1 (fieldAddrS tab 66 v1 1) o8) fun v9 o9 =>
 bd (ret1 (loadS tab o9 23 v9) o9) fun v10 o10 =>
 bd (callS ⟨tab, ownF, K⟩ o10 58 [v10]) fun v11 o11 =>
 bd (ret1 (fieldAddrS tab 46 v3 1) o11) fun v12 o12 =>
 bd (storeO tab o12 23 v12 (some v11)) fun v13 o13 =>
 bd (ret1 (loadS tab o13 46 v3) o13) fun v14 o14 =>
 bd (storeO tab o14 46 v2 (some v14)) fun v15 o15 =>
 retV tab nl o15 (resC1 (loadS tab o15 46 v2) (some []))
noncomputable def X42 (K : Nat → List SV → List SO → Out) (N nl : Nat) (x0 x1 : SV) (os : List SO) : Out := exec (cx K) N nl fi42 c42 [(0, x0), (1, x1)] os (kEnd tab nl rs42)
noncomputable def B42 (K : Nat → List SV → List SO → Out) (N nl : Nat) (x0 x1 : SV) (os : List SO) : Out :=
 bd (boxS tab os 46 (some x0)) fun v1 o1 =>
 bd (boxS tab o1 46 (some x1)) fun v2 o2 =>
 bd (ret1 (fieldAddrS tab 46 v1 0) o2) fun v3 o3 =>
 bd (ret1 (loadS tab o3 29 v3) o3) fun v4 o4 =>
 bd (ret1 (fieldAddrS tab 46 v2 0) o4) fun v5 o5 =>
 bd (ret1 (loadS tab o5 29 v5) o5) fun v6 o6 =>
 bd (callS ⟨tab, ownF, K⟩ o6 59 [v4, v6]) fun v7 o7 =>
 bd (ret1 (unS .not v7) o7) fun v8 o8 =>
 condS v8 (retV tab nl o8 (resC1 (some (SV.v (.bool false))) (some [])))
 (bd (ret1 (fieldAddrS tab 46 v1 1) o8) fun v9 o9 =>
 bd (ret1 (loadS tab o9 23 v9) o9) fun v10 o10 =>
 bd (ret1 (fieldAddrS tab 46 v2 1) o10) fun v11 o11 =>
 bd (ret1 (loadS tab o11 23 v11) o11) fun v12 o12 =>
 bd (callS ⟨tab, ownF, K⟩ o12 60 [v10, v12]) fun v13 o13 =>
 bd (ret1 (unS .not v13) o13) fun v14 o14 =>
 condS v14 (retV tab nl o14 (resC1 (some (SV.v (.bool false))) (some [])))
 (retV tab nl o14 (resC1 (some (SV.v (.bool true))) (some []))))
noncomputable def X43 (K : Nat → List SV → List SO → Out) (N nl : Nat) (x0 x1 : SV) (os : List SO) : Out := exec (cx K) N nl fi43 c43 [(0, x0), (1, x1)] os (kEnd tab nl rs43)
noncomputable def B43 (K : Nat → List SV → List SO → Out) (N nl : Nat) (x0 x1 : SV) (os : List SO) : Out :=
 bd (boxS tab os 46 (some x0)) fun v1 o1 =>
 bd (ret1 (fieldAddrS tab 46 v1 0) o1) fun v2 o2 =>
 bd (ret1 (loadS tab o2 29 v2) o2) fun v3 o3 =>
 bd (callS ⟨tab, ownF, K⟩ o3 62 [v3, x1]) fun v4 o4 =>
 bd (ret1 (fieldAddrS tab 46 v1 1) o4) fun v5 o5 =>
 bd (ret1 (loadS tab o5 23 v5) o5) fun v6 o6 =>
 bd (callS ⟨tab, ownF, K⟩ o6 61 [v6, v4]) fun v7 o7 =>
 retV tab nl o7 (resC1 (some v7) (some []))
noncomputable def X44 (K : Nat → List SV → List SO → Out) (N nl : Nat) (x0 x1 : SV) (os : List SO) : Out := exec (cx K) N nl fi44 c44 [(0, x0), (1, x1)] os (kEnd tab nl rs44)
noncomputable def B44 (K : Nat → List SV → List SO → Out) (N nl : Nat) (x0 x1 : SV) (os : List SO) : Out :=
 bd (boxS tab os 75 (some x0)) fun v1 o1 =>
 bd (ret1 (fieldAddrS tab 75 v1 0) o1) fun v2 o2 =>
 bd (ret1 (loadS tab o2 39 v2) o2) fun v3 o3 =>
 bd (callS ⟨tab, ownF, K⟩ o3 20 [v3, x1]) fun v4 o4 =>
 bd (ret1 (binS tab .lss 3 v4 (SV.v (.int .i64 0))) o4) fun v5 o5 =>
 condS v5 (retV tab nl o5 (resC1 (some (SV.v (.int .i64 (-1)))) (some [])))
 (bd (ret1 (fieldAddrS tab 75 v1 1) o5) fun v6 o6 =>
 bd (ret1 (loadS tab o6 23 v6) o6) fun v7 o7 =>
 bd (callS ⟨tab, ownF, K⟩ o7 57 [v7, v4]) fun v8 o8 =>
 bd (ret1 (binS tab .lss 3 v8 (SV.v (.int .i64 0))) o8) fun v9 o9 =>
 condS v9 (retV tab nl o9 (resC1 (some (SV.v (.int .i64 (-1)))) (some [])))
 (retV tab nl o9 (resC1 (some v8) (some []))))
noncomputable def X45 (K : Nat → List SV → List SO → Out) (N nl : Nat) (x0 : SV) (os : List SO) : Out := exec (cx K) N nl fi45 c45 [(0, x0)] os (kEnd tab nl rs45)
noncomputable def B45 (K : Nat → List SV → List SO → Out) (N nl : Nat) (x0 : SV) (os : List SO) : Out :=
 bd (boxS tab os 75 (some x0)) fun v1 o1 =>
 bd (allocS tab o1 53) fun v2 o2 =>
 bd (allocS tab o2 53) fun v3 o3 =>
 bd (ret1 (fieldAddrS tab 75 v1 0) o3) fun v4 o4 =>
 bd (ret1 (loadS tab o4 39 v4) o4) fun v5 o5 =>
 bd (callS ⟨tab, ownF, K⟩ o5 21 [v5]) fun v6 o6 =>
 bd (ret1 (fieldAddrS tab 53 v3 0) o6) fun v7 o7 =>
 bd (storeO tab o7 25 v7 (some v6)) fun v8 o8 =>
 bd (ret1 (fieldAddrS tab 75 v1 1) o8) fun v9 o9 =>
 bd (ret1 (loadS tab o9 23 v9) o9) fun v10 o10 =>
 bd (callS ⟨tab, ownF, K⟩ o10 58 [v10]) fun v11 o11 =>
 bd (ret1 (fieldAddrS tab 53 v3 1) o11) fun v12 o12 =>
 bd (storeO tab o12 23 v12 (some v11)) fun v13 o13 =>
 bd (ret1 (loadS tab o13 53 v3) o13) fun v14 o14 =>
 bd (storeO tab o14 53 v2 (some v14)) fun v15 o15 =>
 retV tab nl o15 (resC1 (loadS tab o15 53 v2) (some []))
noncomputable def X46 (K : Nat → List SV → List SO → Out) (N nl : Nat) (x0 x1 : SV) (os : List SO) : Out := exec (cx K) N nl fi46 c46 [(0, x0), (1, x1)] os (kEnd tab nl rs46)
noncomputable def B46 (K : Nat → List SV → List SO → Out) (N nl : Nat) (x0 x1 : SV) (os : List SO) : Out :=
 bd (boxS tab os 53 (some x0)) fun v1 o1 =>
 bd (boxS tab o1 53 (some x1)) fun v2 o2 =>
 bd (ret1 (fieldAddrS tab 53 v1 0) o2) fun v3 o3 =>
 bd (ret1 (loadS tab o3 25 v3) o3) fun v4 o4 =>
 bd (ret1 (fieldAddrS tab 53 v2 0) o4) fun v5 o5 =>
 bd (ret1 (loadS tab o5 25 v5) o5) fun v6 o6 =>
 bd (callS ⟨tab, ownF, K⟩ o6 23 [v4, v6]) fun v7 o7 =>
 bd (ret1 (unS .not v7) o7) fun v8 o8 =>
 condS v8 (retV tab nl o8 (resC1 (some (SV.v (.bool false))) (some [])))
 (bd (ret1 (fieldAddrS tab 53 v1 1) o8) fun v9 o9 =>
 bd (ret1 (loadS tab o9 23 v9) o9) fun v10 o10 =>
 bd (ret1 (fieldAddrS tab 53 v2 1) o10) fun v11 o11 =>
 bd (ret1 (loadS tab o11 23 v11) o11) fun v12 o12 =>
 bd (callS ⟨tab, ownF, K⟩ o12 60 [v10, v12]) fun v13 o13 =>
 bd (ret1 (unS .not v13) o13) fun v14 o14 =>
 condS v14 (retV tab nl o14 (resC1 (some (SV.v (.bool false))) (some [])))
 (retV tab nl o14 (resC1 (some (SV.v (.bool true))) (some []))))
noncomputable def X47 (K : Nat → List SV → List SO → Out) (N nl : Nat) (x0 x1 : SV) (os : List SO) : Out := exec (cx K) N nl fi47 c47 [(0, x0), (1, x1)] os (kEnd tab nl rs47)
noncomputable def B47 (K : Nat → List SV → List SO → Out) (N nl : Nat) (x0 x1 : SV) (os : List SO) : Out :=
 bd (boxS tab os 53 (some x0)) fun v1 o1 =>
 bd (ret1 (fieldAddrS tab 53 v1 0) o1) fun v2 o2 =>
 bd (ret1 (loadS tab o2 25 v2) o2) fun v3 o3 =>
 bd (callS ⟨tab, ownF, K⟩ o3 24 [v3, x1]) fun v4 o4 =>
 bd (ret1 (fieldAddrS tab 53 v1 1) o4) fun v5 o5 =>
 bd (ret1 (loadS tab o5 23 v5) o5) fun v6 o6 =>
 bd (callS ⟨tab, ownF, K⟩ o6 61 [v6, v4]) fun v7 o7 =>
 retV tab nl o7 (resC1 (some v7) (some []))
noncomputable def J48_4 (K : Nat → List SV → List SO → Out) (N nl : Nat) (x0 x2 x3 : SV) (os : List SO) : Out := exec (cx K) N nl fi48 (subC c48 [1, 1, 1]) [(0, x0), (2, x2), (3, x3)] os (kEnd tab nl rs48)
noncomputable def J48_10 (K : Nat → List SV → List SO → Out) (N nl : Nat) (x2 x4 : SV) (os : List SO) : Out := exec (cx K) N nl fi48 (subC c48 [1, 1, 1, 1, 1]) [(2, x2), (4, x4)] os (kEnd tab nl rs48)
noncomputable def JB48_4 (K : Nat → List SV → List SO → Out) (N nl : Nat) (x0 x2 x3 : SV) (os : List SO) : Out :=
 bd (callS ⟨tab, ownF, K⟩ os 67 [x0, (SV.v (.int .i64 3))]) fun v8 o8 =>
 bd (ret1 (binS tab .add 3 (SV.v (.int .i64 1)) v8) o8) fun v9 o9 =>
 bd (lenO tab 23 o9 x3) fun v10 o10 =>
 bd (callS ⟨tab, ownF, K⟩ o10 67 [x0, v10]) fun v11 o11 =>
 bd (ret1 (binS tab .add 3 (SV.v (.int .i64 1)) v11) o11) fun v12 o12 =>
 bd (buildS tab o12 25 [(0, (some v9)), (1, (some x3)), (2, (some v12))]) fun v13 o13 =>
 bd (allocS tab o13 25) fun v14 o14 =>
 bd (storeO tab o14 25 v14 (some v13)) fun v15 o15 =>
 bd (callS ⟨tab, ownF, K⟩ o15 67 [x0, (SV.v (.int .i64 20))]) fun v16 o16 =>
 bd (ret1 (binS tab .eql 3 v16 (SV.v (.int .i64 0))) o16) fun v17 o17 =>
 condS v17 (bd (buildSliceS tab o17 23 3 [(0, (SV.v (.int .i64 0))), (1, (SV.v (.int .i64 9))), (2, (SV.v (.int .i64 10)))]) fun v18 o18 =>
 bd (callS ⟨tab, ownF, K⟩ o18 67 [x0, (SV.v (.int .i64 3))]) fun v19 o19 =>
 bd (ret1 (indexAddrS tab o19 23 v18 v19) o19) fun v20 o20 =>
 bd (ret1 (loadS tab o20 3 v20) o20) fun v21 o21 =>
 bd (ret1 (fieldAddrS tab 25 v14 0) o21) fun v22 o22 =>
 bd (storeO tab o22 3 v22 (some v21)) fun v23 o23 =>
 J48_10 K N nl x2 v14 o23)
 (bd (ret1 (binS tab .eql 3 v16 (SV.v (.int .i64 1))) o17) fun v24 o24 =>
 condS v24 (bd (lenO tab 23 o24 x3) fun v25 o25 =>
 bd (ret1 (binS tab .add 3 v25 (SV.v (.int .i64 1))) o25) fun v26 o26 =>
 bd (buildSliceS tab o26 23 2 [(0, (SV.v (.int .i64 0))), (1, v26)]) fun v27 o27 =>
 bd (callS ⟨tab, ownF, K⟩ o27 67 [x0, (SV.v (.int .i64 2))]) fun v28 o28 =>
 bd (ret1 (indexAddrS tab o28 23 v27 v28) o28) fun v29 o29 =>
 bd (ret1 (loadS tab o29 3 v29) o29) fun v30 o30 =>
 bd (ret1 (fieldAddrS tab 25 v14 2) o30) fun v31 o31 =>
 bd (storeO tab o31 3 v31 (some v30)) fun v32 o32 =>
 J48_10 K N nl x2 v14 o32)
 (J48_10 K N nl x2 v14 o24))
noncomputable def JB48_10 (K : Nat → List SV → List SO → Out) (N nl : Nat) (x2 x4 : SV) (os : List SO) : Out :=
 bd (ret1 (loadS tab os 25 x4) os) fun v33 o33 =>
 bd (storeO tab o33 25 x2 (some v33)) fun v34 o34 =>
 retV tab nl o34 (resC1 (loadS tab o34 25 x2) (some []))
noncomputable def X48 (K : Nat → List SV → List SO → Out) (N nl : Nat) (x0 : SV) (os : List SO) : Out := exec (cx K) N nl fi48 c48 [(0, x0)] os (kEnd tab nl rs48)
noncomputable def B48 (K : Nat → List SV → List SO → Out) (N nl : Nat) (x0 : SV) (os : List SO) : Out :=
 bd (allocS tab os 25) fun v1 o1 =>
 bd (callS ⟨tab, ownF, K⟩ o1 69 [x0]) fun v2 o2 =>
 bd (lenO tab 23 o2 v2) fun v3 o3 =>
 bd (ret1 (binS tab .eql 3 v3 (SV.v (.int .i64 0))) o3) fun v4 o4 =>
 condS v4 (bd (callS ⟨tab, ownF, K⟩ o4 67 [x0, (SV.v (.int .i64 6))]) fun v5 o5 =>
 bd (ret1 (binS tab .add 3 (SV.v (.int .i64 1)) v5) o5) fun v6 o6 =>
 bd (buildSliceS tab o6 23 1 [(0, v6)]) fun v7 o7 =>
 J48_4 K N nl x0 v1 v7 o7)
 (J48_4 K N nl x0 v1 v2 o4)
noncomputable def J49_3 (K : Nat → List SV → List SO → Out) (N nl : Nat) (x0 : SV) (os : List SO) : Out := exec (cx K) N nl fi49 (subC c49 [1, 1]) [(0, x0)] os (kEnd tab nl rs49)
noncomputable def JB49_3 (K : Nat → List SV → List SO → Out) (N nl : Nat) (x0 : SV) (os : List SO) : Out :=
 bd (buildS tab os 110 [(0, (some x0))]) fun v4 o4 =>
 bd (boxS tab o4 110 (some v4)) fun v5 o5 =>
 retV tab nl o5 (resC1 (some v5) (some []))
noncomputable def X49 (K : Nat → List SV → List SO → Out) (N nl : Nat) (x0 : SV) (os : List SO) : Out := exec (cx K) N nl fi49 c49 [(0, x0)] os (kEnd tab nl rs49)
noncomputable def B49 (K : Nat → List SV → List SO → Out) (N nl : Nat) (x0 : SV) (os : List SO) : Out :=
 bd (lenO tab 22 os x0) fun v1 o1 =>
 bd (ret1 (binS tab .gtr 3 v1 (SV.v (.int .i64 2000))) o1) fun v2 o2 =>
 condS v2 (bd (ret1 (sliceS tab o2 22 x0 none (some (SV.v (.int .i64 2000)))) o2) fun v3 o3 =>
 J49_3 K N nl v3 o3)
 (J49_3 K N nl x0 o2)
noncomputable def X50 (K : Nat → List SV → List SO → Out) (N nl : Nat) (x0 : SV) (os : List SO) : Out := exec (cx K) N nl fi50 c50 [(0, x0)] os (kEnd tab nl rs50)
noncomputable def B50 (K : Nat → List SV → List SO → Out) (N nl : Nat) (x0 : SV) (os : List SO) : Out :=
 bd (boxS tab os 25 (some x0)) fun v1 o1 =>
 bd (ret1 (fieldAddrS tab 25 v1 0) o1) fun v2 o2 =>
 bd (ret1 (loadS tab o2 3 v2) o2) fun v3 o3 =>
 bd (callS ⟨tab, ownF, K⟩ o3 70 [v3, (SV.v (.int .i64 1)), (SV.v (.int .i64 9))]) fun v4 o4 =>
 bd (gd v4 true (ret1 (fieldAddrS tab 25 v1 1) o4) o4) fun v5 o5 =>
 bd (gd v4 true (ret1 (loadS tab o5 23 v5) o5) o5) fun v6 o6 =>
 bd (gd v4 true (callS ⟨tab, ownF, K⟩ o6 83 [v6]) o6) fun v7 o7 =>
 bd (ret1 (pickS v4 v7 (SV.v (.bool false))) o7) fun v8 o8 =>
 bd (gd v8 true (ret1 (fieldAddrS tab 25 v1 2) o8) o8) fun v9 o9 =>
 bd (gd v8 true (ret1 (loadS tab o9 3 v9) o9) o9) fun v10 o10 =>
 bd (gd v8 true (ret1 (fieldAddrS tab 25 v1 1) o10) o10) fun v11 o11 =>
 bd (gd v8 true (ret1 (loadS tab o11 23 v11) o11) o11) fun v12 o12 =>
 bd (gd v8 true (lenO tab 23 o12 v12) o12) fun v13 o13 =>
 bd (gd v8 true (callS ⟨tab, ownF, K⟩ o13 70 [v10, (SV.v (.int .i64 1)), v13]) o13) fun v14 o14 =>
 bd (ret1 (pickS v8 v14 (SV.v (.bool false))) o14) fun v15 o15 =>
 retV tab nl o15 (resC1 (some v15) (some []))
noncomputable def X51 (K : Nat → List SV → List SO → Out) (N nl : Nat) (x0 : SV) (os : List SO) : Out := exec (cx K) N nl fi51 c51 [(0, x0)] os (kEnd tab nl rs51)
noncomputable def B51 (K : Nat → List SV → List SO → Out) (N nl : Nat) (x0 : SV) (os : List SO) : Out :=
 bd (boxS tab os 25 (some x0)) fun v1 o1 =>
 bd (allocS tab o1 25) fun v2 o2 =>
 bd (buildSliceS tab o2 23 0 []) fun v3 o3 =>
 bd (ret1 (fieldAddrS tab 25 v1 1) o3) fun v4 o4 =>
 bd (ret1 (loadS tab o4 23 v4) o4) fun v5 o5 =>
 bd (appendS tab o5 23 23 v3 v5) fun v6 o6 =>
 bd (ret1 (fieldAddrS tab 25 v1 1) o6) fun v7 o7 =>
 bd (storeO tab o7 23 v7 (some v6)) fun v8 o8 =>
 bd (ret1 (loadS tab o8 25 v1) o8) fun v9 o9 =>
 bd (storeO tab o9 25 v2 (some v9)) fun v10 o10 =>
 retV tab nl o10 (resC1 (loadS tab o10 25 v2) (some []))
noncomputable def X52 (K : Nat → List SV → List SO → Out) (N nl : Nat) (x0 : SV) (os : List SO) : Out := exec (cx K) N nl fi52 c52 [(0, x0)] os (kEnd tab nl rs52)
noncomputable def B52 (K : Nat → List SV → List SO → Out) (N nl : Nat) (x0 : SV) (os : List SO) : Out :=
 bd (boxS tab os 25 (some x0)) fun v1 o1 =>
 bd (allocS tab o1 25) fun v2 o2 =>
 bd (ret1 (fieldAddrS tab 25 v1 0) o2) fun v3 o3 =>
 dchk (isBox v3) <|
 bd (ret1 (loadS tab o3 3 v3) o3) fun v4 o4 =>
 bd (ret1 (fieldAddrS tab 25 v1 1) o4) fun v5 o5 =>
 bd (ret1 (loadS tab o5 23 v5) o5) fun v6 o6 =>
 dchk (keepOk ⟨tab, ownF, K⟩ o6 (SV.fn 84 []) [v6] [v3] true) <|
 bd (callS ⟨tab, ownF, K⟩ o6 84 [v6]) fun v7 o7 =>
 bd (ret1 (fieldAddrS tab 25 v1 2) o7) fun v8 o8 =>
 dchk (isBox v8) <|
 bd (ret1 (loadS tab o8 3 v8) o8) fun v9 o9 =>
 bd (buildS tab o9 25 [(0, (some v4)), (1, (some v7)), (2, (some v9))]) fun v10 o10 =>
 bd (storeO tab o10 25 v2 (some v10)) fun v11 o11 =>
 retV tab nl o11 (resC1 (loadS tab o11 25 v2) (some []))
noncomputable def bk53_2 (K : Nat → List SV → List SO → Out) (N nl : Nat) (m2 : Nat) : Env → List SO → Out := fun env os => loopS nl (fi53.lp 2) (fun env os nx => exec (cx K) N nl fi53 (subC c53 [1, 0, 1, 0, 0]) env os (kLoop nx (kBlock 0 (kSeq (exec (cx K) N nl fi53 (subC c53 [1, 1])) (fi53.jn 9) (kEnd tab nl rs53))))) m2 (killS (fi53.lp 2).alive env) os
noncomputable def L53_2 (K : Nat → List SV → List SO → Out) (N nl : Nat) (m2 : Nat) (x1 x6 x7 x8 : SV) (os : List SO) : Out := loopS nl (fi53.lp 2) (fun env os nx => exec (cx K) N nl fi53 (subC c53 [1, 0, 1, 0, 0]) env os (kLoop nx (kBlock 0 (kSeq (exec (cx K) N nl fi53 (subC c53 [1, 1])) (fi53.jn 9) (kEnd tab nl rs53))))) m2 [(1, x1), (6, x6), (7, x7), (8, x8)] os
noncomputable def G53_2 (K : Nat → List SV → List SO → Out) (N nl : Nat) (m2 : Nat) (xs : List SV) (os : List SO) : Out := (fun env os nx => exec (cx K) N nl fi53 (subC c53 [1, 0, 1, 0, 0]) env os (kLoop nx (kBlock 0 (kSeq (exec (cx K) N nl fi53 (subC c53 [1, 1])) (fi53.jn 9) (kEnd tab nl rs53))))) (zipE [1, 6, 7, 8] xs) os (bk53_2 K N nl m2)
noncomputable def GB53_2 (K : Nat → List SV → List SO → Out) (N nl : Nat) (m2 : Nat) (x1 x6 x7 x8 : SV) (os : List SO) : Out :=
 bd (ret1 (binS tab .lss 3 x8 x7) os) fun v5 o5 =>
 condS v5 (bd (ret1 (indexAddrS tab o5 27 x6 x8) o5) fun v6 o6 =>
 bd (ret1 (loadS tab o6 112 v6) o6) fun v7 o7 =>
 bd (allocS tab o7 112) fun v8 o8 =>
 bd (storeO tab o8 112 v8 (some v7)) fun v9 o9 =>
 bd (ret1 (fieldAddrS tab 112 v8 0) o9) fun v10 o10 =>
 bd (ret1 (loadS tab o10 3 v10) o10) fun v11 o11 =>
 bd (callS ⟨tab, ownF, K⟩ o11 85 [v11]) fun v12 o12 =>
 bd (ret1 (unS .not v12) o12) fun v13 o13 =>
 bd (gd v13 false (ret1 (fieldAddrS tab 112 v8 1) o13) o13) fun v14 o14 =>
 bd (gd v13 false (ret1 (loadS tab o14 3 v14) o14) o14) fun v15 o15 =>
 bd (gd v13 false (callS ⟨tab, ownF, K⟩ o15 86 [v15]) o15) fun v16 o16 =>
 bd (gd v13 false (ret1 (unS .not v16) o16) o16) fun v17 o17 =>
 bd (ret1 (pickS v13 (SV.v (.bool true)) v17) o17) fun v18 o18 =>
 bd (gd v18 false (ret1 (fieldAddrS tab 112 v8 2) o18) o18) fun v19 o19 =>
 bd (gd v18 false (ret1 (loadS tab o19 3 v19) o19) o19) fun v20 o20 =>
 bd (gd v18 false (callS ⟨tab, ownF, K⟩ o20 56 [v20, (SV.v (.int .i64 0)), (SV.v (.int .i64 9972))]) o20) fun v21 o21 =>
 bd (gd v18 false (ret1 (unS .not v21) o21) o21) fun v22 o22 =>
 bd (ret1 (pickS v18 (SV.v (.bool true)) v22) o22) fun v23 o23 =>
 condS v23 (retV tab nl o23 (resC1 (some (SV.v (.bool false))) (some [])))
 (bd (ret1 (binS tab .gtr 3 x8 (SV.v (.int .i64 0))) o23) fun v24 o24 =>
 bd (gd v24 true (ret1 (fieldAddrS tab 112 v8 0) o24) o24) fun v25 o25 =>
 bd (gd v24 true (ret1 (loadS tab o25 3 v25) o25) o25) fun v26 o26 =>
 bd (gd v24 true (ret1 (fieldAddrS tab 29 x1 2) o26) o26) fun v27 o27 =>
 bd (gd v24 true (ret1 (loadS tab o27 27 v27) o27) o27) fun v28 o28 =>
 bd (gd v24 true (some (x8, o28)) o28) fun v29 o29 =>
 bd (gd v24 true (ret1 (binS tab .sub 3 v29 (SV.v (.int .i64 1))) o29) o29) fun v30 o30 =>
 bd (gd v24 true (ret1 (indexAddrS tab o30 27 v28 v30) o30) o30) fun v31 o31 =>
 bd (gd v24 true (ret1 (fieldAddrS tab 112 v31 0) o31) o31) fun v32 o32 =>
 bd (gd v24 true (ret1 (loadS tab o32 3 v32) o32) o32) fun v33 o33 =>
 bd (gd v24 true (ret1 (binS tab .lss 3 v26 v33) o33) o33) fun v34 o34 =>
 bd (gd v24 true (some (v34, o34)) o34) fun v35 o35 =>
 bd (gd v35 false (ret1 (fieldAddrS tab 112 v8 0) o35) o35) fun v36 o36 =>
 bd (gd v35 false (ret1 (loadS tab o36 3 v36) o36) o36) fun v37 o37 =>
 bd (gd v35 false (ret1 (fieldAddrS tab 29 x1 2) o37) o37) fun v38 o38 =>
 bd (gd v35 false (ret1 (loadS tab o38 27 v38) o38) o38) fun v39 o39 =>
 bd (gd v35 false (some (x8, o39)) o39) fun v40 o40 =>
 bd (gd v35 false (ret1 (binS tab .sub 3 v40 (SV.v (.int .i64 1))) o40) o40) fun v41 o41 =>
 bd (gd v35 false (ret1 (indexAddrS tab o41 27 v39 v41) o41) o41) fun v42 o42 =>
 bd (gd v35 false (ret1 (fieldAddrS tab 112 v42 0) o42) o42) fun v43 o43 =>
 bd (gd v35 false (ret1 (loadS tab o43 3 v43) o43) o43) fun v44 o44 =>
 bd (gd v35 false (ret1 (binS tab .eql 3 v37 v44) o44) o44) fun v45 o45 =>
 bd (gd v35 false (some (v45, o45)) o45) fun v46 o46 =>
 bd (gd v46 true (ret1 (fieldAddrS tab 112 v8 1) o46) o46) fun v47 o47 =>
 bd (gd v46 true (ret1 (loadS tab o47 3 v47) o47) o47) fun v48 o48 =>
 bd (gd v46 true (ret1 (fieldAddrS tab 29 x1 2) o48) o48) fun v49 o49 =>
 bd (gd v46 true (ret1 (loadS tab o49 27 v49) o49) o49) fun v50 o50 =>
 bd (gd v46 true (some (x8, o50)) o50) fun v51 o51 =>
 bd (gd v46 true (ret1 (binS tab .sub 3 v51 (SV.v (.int .i64 1))) o51) o51) fun v52 o52 =>
 bd (gd v46 true (ret1 (indexAddrS tab o52 27 v50 v52) o52) o52) fun v53 o53 =>
 bd (gd v46 true (ret1 (fieldAddrS tab 112 v53 1) o53) o53) fun v54 o54 =>
 bd (gd v46 true (ret1 (loadS tab o54 3 v54) o54) o54) fun v55 o55 =>
 bd (gd v46 true (ret1 (binS tab .leq 3 v48 v55) o55) o55) fun v56 o56 =>
 bd (gd v35 false (ret1 (pickS v46 v56 (SV.v (.bool false))) o56) o56) fun v57 o57 =>
 bd (gd v24 true (ret1 (pickS v35 (SV.v (.bool true)) v57) o57) o57) fun v58 o58 =>
 bd (ret1 (pickS v24 v58 (SV.v (.bool false))) o58) fun v59 o59 =>
 condS v59 (retV tab nl o59 (resC1 (some (SV.v (.bool false))) (some [])))
 (bd (ret1 (binS tab .add 3 x8 (SV.v (.int .i64 1))) o59) fun v60 o60 =>
 L53_2 K N nl m2 x1 x6 x7 v60 o60)))
 (bd (ret1 (fieldAddrS tab 29 x1 0) o5) fun v61 o61 =>
 bd (ret1 (loadS tab o61 3 v61) o61) fun v62 o62 =>
 bd (callS ⟨tab, ownF, K⟩ o62 56 [v62, (SV.v (.int .i64 1)), (SV.v (.int .i64 30))]) fun v63 o63 =>
 bd (gd v63 true (ret1 (fieldAddrS tab 29 x1 1) o63) o63) fun v64 o64 =>
 bd (gd v63 true (ret1 (loadS tab o64 3 v64) o64) o64) fun v65 o65 =>
 bd (gd v63 true (callS ⟨tab, ownF, K⟩ o65 56 [v65, (SV.v (.int .i64 0)), (SV.v (.int .i64 60))]) o65) fun v66 o66 =>
 bd (ret1 (pickS v63 v66 (SV.v (.bool false))) o66) fun v67 o67 =>
 bd (gd v67 true (ret1 (fieldAddrS tab 29 x1 2) o67) o67) fun v68 o68 =>
 bd (gd v67 true (ret1 (loadS tab o68 27 v68) o68) o68) fun v69 o69 =>
 bd (gd v67 true (lenO tab 27 o69 v69) o69) fun v70 o70 =>
 bd (gd v67 true (ret1 (binS tab .leq 3 v70 (SV.v (.int .i64 8))) o70) o70) fun v71 o71 =>
 bd (ret1 (pickS v67 v71 (SV.v (.bool false))) o71) fun v72 o72 =>
 retV tab nl o72 (resC1 (some v72) (some [])))
noncomputable def X53 (K : Nat → List SV → List SO → Out) (N nl : Nat) (x0 : SV) (os : List SO) : Out := exec (cx K) N nl fi53 c53 [(0, x0)] os (kEnd tab nl rs53)
noncomputable def B53 (K : Nat → List SV → List SO → Out) (N nl : Nat) (x0 : SV) (os : List SO) : Out :=
 bd (boxS tab os 29 (some x0)) fun v1 o1 =>
 bd (ret1 (fieldAddrS tab 29 v1 2) o1) fun v2 o2 =>
 bd (ret1 (loadS tab o2 27 v2) o2) fun v3 o3 =>
 bd (lenO tab 27 o3 v3) fun v4 o4 =>
 L53_2 K N nl N v1 v3 v4 (SV.v (.int .i64 0)) o4
noncomputable def X54 (K : Nat → List SV → List SO → Out) (N nl : Nat) (x0 x1 : SV) (os : List SO) : Out := exec (cx K) N nl fi54 c54 [(0, x0), (1, x1)] os (kEnd tab nl rs54)
noncomputable def B54 (K : Nat → List SV → List SO → Out) (N nl : Nat) (x0 x1 : SV) (os : List SO) : Out :=
 bd (boxS tab os 29 (some x0)) fun v1 o1 =>
 bd (boxS tab o1 29 (some x1)) fun v2 o2 =>
 bd (ret1 (fieldAddrS tab 29 v1 0) o2) fun v3 o3 =>
 bd (ret1 (loadS tab o3 3 v3) o3) fun v4 o4 =>
 bd (ret1 (fieldAddrS tab 29 v2 0) o4) fun v5 o5 =>
 bd (ret1 (loadS tab o5 3 v5) o5) fun v6 o6 =>
 bd (ret1 (binS tab .eql 3 v4 v6) o6) fun v7 o7 =>
 bd (gd v7 true (ret1 (fieldAddrS tab 29 v1 1) o7) o7) fun v8 o8 =>
 bd (gd v7 true (ret1 (loadS tab o8 3 v8) o8) o8) fun v9 o9 =>
 bd (gd v7 true (ret1 (fieldAddrS tab 29 v2 1) o9) o9) fun v10 o10 =>
 bd (gd v7 true (ret1 (loadS tab o10 3 v10) o10) o10) fun v11 o11 =>
 bd (gd v7 true (ret1 (binS tab .eql 3 v9 v11) o11) o11) fun v12 o12 =>
 bd (ret1 (pickS v7 v12 (SV.v (.bool false))) o12) fun v13 o13 =>
 bd (gd v13 true (ret1 (fieldAddrS tab 29 v1 2) o13) o13) fun v14 o14 =>
 bd (gd v13 true (ret1 (loadS tab o14 27 v14) o14) o14) fun v15 o15 =>
 bd (gd v13 true (ret1 (fieldAddrS tab 29 v2 2) o15) o15) fun v16 o16 =>
 bd (gd v13 true (ret1 (loadS tab o16 27 v16) o16) o16) fun v17 o17 =>
 bd (gd v13 true (callS ⟨tab, ownF, K⟩ o17 87 [v15, v17]) o17) fun v18 o18 =>
 bd (ret1 (pickS v13 v18 (SV.v (.bool false))) o18) fun v19 o19 =>
 retV tab nl o19 (resC1 (some v19) (some []))
noncomputable def bk55_4 (K : Nat → List SV → List SO → Out) (N nl : Nat) (m4 : Nat) : Env → List SO → Out := fun env os => loopS nl (fi55.lp 4) (fun env os nx => exec (cx K) N nl fi55 (subC c55 [1, 1, 0, 1, 0, 0]) env os (kLoop nx (kBlock 0 (kSeq (exec (cx K) N nl fi55 (subC c55 [1, 1, 1])) (fi55.jn 8) (kEnd tab nl rs55))))) m4 (killS (fi55.lp 4).alive env) os
noncomputable def L55_4 (K : Nat → List SV → List SO → Out) (N nl : Nat) (m4 : Nat) (x0 x1 x5 : SV) (os : List SO) : Out := loopS nl (fi55.lp 4) (fun env os nx => exec (cx K) N nl fi55 (subC c55 [1, 1, 0, 1, 0, 0]) env os (kLoop nx (kBlock 0 (kSeq (exec (cx K) N nl fi55 (subC c55 [1, 1, 1])) (fi55.jn 8) (kEnd tab nl rs55))))) m4 [(0, x0), (1, x1), (5, x5)] os
noncomputable def LB55_4 (K : Nat → List SV → List SO → Out) (N nl : Nat) (m4 : Nat) (x0 x1 x5 : SV) (os : List SO) : Out :=
 bd (lenO tab 23 os x0) fun v4 o4 =>
 bd (ret1 (binS tab .lss 3 x5 v4) o4) fun v5 o5 =>
 condS v5 (bd (ret1 (indexAddrS tab o5 23 x0 x5) o5) fun v6 o6 =>
 bd (ret1 (loadS tab o6 3 v6) o6) fun v7 o7 =>
 bd (ret1 (indexAddrS tab o7 23 x1 x5) o7) fun v8 o8 =>
 bd (ret1 (loadS tab o8 3 v8) o8) fun v9 o9 =>
 bd (ret1 (binS tab .neq 3 v7 v9) o9) fun v10 o10 =>
 condS v10 (retV tab nl o10 (resC1 (some (SV.v (.bool false))) (some [])))
 (bd (ret1 (binS tab .add 3 x5 (SV.v (.int .i64 1))) o10) fun v11 o11 =>
 L55_4 K N nl m4 x0 x1 v11 o11))
 (retV tab nl o5 (resC1 (some (SV.v (.bool true))) (some [])))
noncomputable def X55 (K : Nat → List SV → List SO → Out) (N nl : Nat) (x0 x1 : SV) (os : List SO) : Out := exec (cx K) N nl fi55 c55 [(0, x0), (1, x1)] os (kEnd tab nl rs55)
noncomputable def B55 (K : Nat → List SV → List SO → Out) (N nl : Nat) (x0 x1 : SV) (os : List SO) : Out :=
 bd (lenO tab 23 os x0) fun v1 o1 =>
 bd (lenO tab 23 o1 x1) fun v2 o2 =>
 bd (ret1 (binS tab .neq 3 v1 v2) o2) fun v3 o3 =>
 condS v3 (retV tab nl o3 (resC1 (some (SV.v (.bool false))) (some [])))
 (L55_4 K N nl N x0 x1 (SV.v (.int .i64 0)) o3)
noncomputable def X56 (K : Nat → List SV → List SO → Out) (N nl : Nat) (x0 x1 x2 : SV) (os : List SO) : Out := exec (cx K) N nl fi56 c56 [(0, x0), (1, x1), (2, x2)] os (kEnd tab nl rs56)
noncomputable def B56 (K : Nat → List SV → List SO → Out) (N nl : Nat) (x0 x1 x2 : SV) (os : List SO) : Out :=
 bd (ret1 (binS tab .geq 3 x0 x1) os) fun v1 o1 =>
 bd (gd v1 true (some (x0, o1)) o1) fun v2 o2 =>
 bd (gd v1 true (some (x2, o2)) o2) fun v3 o3 =>
 bd (gd v1 true (ret1 (binS tab .leq 3 v2 v3) o3) o3) fun v4 o4 =>
 bd (ret1 (pickS v1 v4 (SV.v (.bool false))) o4) fun v5 o5 =>
 retV tab nl o5 (resC1 (some v5) (some []))
noncomputable def X57 (K : Nat → List SV → List SO → Out) (N nl : Nat) (x0 x1 : SV) (os : List SO) : Out := exec (cx K) N nl fi57 c57 [(0, x0), (1, x1)] os (kEnd tab nl rs57)
noncomputable def B57 (K : Nat → List SV → List SO → Out) (N nl : Nat) (x0 x1 : SV) (os : List SO) : Out :=
 bd (lenO tab 23 os x0) fun v1 o1 =>
 bd (ret1 (binS tab .sub 3 x1 v1) o1) fun v2 o2 =>
 bd (ret1 (binS tab .lss 3 v2 (SV.v (.int .i64 0))) o2) fun v3 o3 =>
 condS v3 (retV tab nl o3 (resC1 (some (SV.v (.int .i64 (-1)))) (some [])))
 (retV tab nl o3 (resC1 (some v2) (some [])))
noncomputable def bk58_3 (K : Nat → List SV → List SO → Out) (N nl : Nat) (m3 : Nat) : Env → List SO → Out := fun env os => loopS nl (fi58.lp 3) (fun env os nx => exec (cx K) N nl fi58 (subC c58 [1, 1, 0, 1, 0, 0]) env os (kLoop nx (kBlock 0 (kSeq (exec (cx K) N nl fi58 (subC c58 [1, 1, 1])) (fi58.jn 6) (kEnd tab nl rs58))))) m3 (killS (fi58.lp 3).alive env) os
noncomputable def L58_3 (K : Nat → List SV → List SO → Out) (N nl : Nat) (m3 : Nat) (x0 x3 x4 : SV) (os : List SO) : Out := loopS nl (fi58.lp 3) (fun env os nx => exec (cx K) N nl fi58 (subC c58 [1, 1, 0, 1, 0, 0]) env os (kLoop nx (kBlock 0 (kSeq (exec (cx K) N nl fi58 (subC c58 [1, 1, 1])) (fi58.jn 6) (kEnd tab nl rs58))))) m3 [(0, x0), (3, x3), (4, x4)] os
noncomputable def LB58_3 (K : Nat → List SV → List SO → Out) (N nl : Nat) (m3 : Nat) (x0 x3 x4 : SV) (os : List SO) : Out :=
 bd (lenO tab 23 os x0) fun v4 o4 =>
 bd (ret1 (binS tab .lss 3 x4 v4) o4) fun v5 o5 =>
 condS v5 (bd (ret1 (indexAddrS tab o5 23 x0 x4) o5) fun v6 o6 =>
 bd (ret1 (loadS tab o6 3 v6) o6) fun v7 o7 =>
 bd (ret1 (indexAddrS tab o7 23 x3 x4) o7) fun v8 o8 =>
 bd (storeO tab o8 3 v8 (some v7)) fun v9 o9 =>
 bd (ret1 (binS tab .add 3 x4 (SV.v (.int .i64 1))) o9) fun v10 o10 =>
 L58_3 K N nl m3 x0 x3 v10 o10)
 (retV tab nl o5 (resC1 (some x3) (some [])))
noncomputable def X58 (K : Nat → List SV → List SO → Out) (N nl : Nat) (x0 : SV) (os : List SO) : Out := exec (cx K) N nl fi58 c58 [(0, x0)] os (kEnd tab nl rs58)
noncomputable def B58 (K : Nat → List SV → List SO → Out) (N nl : Nat) (x0 : SV) (os : List SO) : Out :=
 bd (evN tab 23 os none) fun v1 o1 =>
 bd (lenO tab 23 o1 x0) fun v2 o2 =>
 bd (makeS tab o2 23 v2 v2) fun v3 o3 =>
 L58_3 K N nl N x0 v3 (SV.v (.int .i64 0)) o3
noncomputable def X59 (K : Nat → List SV → List SO → Out) (N nl : Nat) (x0 x1 : SV) (os : List SO) : Out := exec (cx K) N nl fi59 c59 [(0, x0), (1, x1)] os (kEnd tab nl rs59)
noncomputable def B59 (K : Nat → List SV → List SO → Out) (N nl : Nat) (x0 x1 : SV) (os : List SO) : Out :=
 bd (boxS tab os 29 (some x0)) fun v1 o1 =>
 bd (boxS tab o1 29 (some x1)) fun v2 o2 =>
 bd (ret1 (fieldAddrS tab 29 v1 0) o2) fun v3 o3 =>
 bd (ret1 (loadS tab o3 3 v3) o3) fun v4 o4 =>
 bd (ret1 (fieldAddrS tab 29 v2 0) o4) fun v5 o5 =>
 bd (ret1 (loadS tab o5 3 v5) o5) fun v6 o6 =>
 bd (ret1 (binS tab .neq 3 v4 v6) o6) fun v7 o7 =>
 condS v7 (retV tab nl o7 (resC1 (some (SV.v (.bool false))) (some [])))
 (bd (ret1 (fieldAddrS tab 29 v1 1) o7) fun v8 o8 =>
 bd (ret1 (loadS tab o8 3 v8) o8) fun v9 o9 =>
 bd (ret1 (fieldAddrS tab 29 v2 1) o9) fun v10 o10 =>
 bd (ret1 (loadS tab o10 3 v10) o10) fun v11 o11 =>
 bd (ret1 (binS tab .neq 3 v9 v11) o11) fun v12 o12 =>
 condS v12 (retV tab nl o12 (resC1 (some (SV.v (.bool false))) (some [])))
 (bd (ret1 (fieldAddrS tab 29 v1 2) o12) fun v13 o13 =>
 bd (ret1 (loadS tab o13 27 v13) o13) fun v14 o14 =>
 bd (ret1 (fieldAddrS tab 29 v2 2) o14) fun v15 o15 =>
 bd (ret1 (loadS tab o15 27 v15) o15) fun v16 o16 =>
 bd (callS ⟨tab, ownF, K⟩ o16 88 [v14, v16]) fun v17 o17 =>
 bd (ret1 (unS .not v17) o17) fun v18 o18 =>
 condS v18 (retV tab nl o18 (resC1 (some (SV.v (.bool false))) (some [])))
 (retV tab nl o18 (resC1 (some (SV.v (.bool true))) (some [])))))
noncomputable def bk60_4 (K : Nat → List SV → List SO → Out) (N nl : Nat) (m4 : Nat) : Env → List SO → Out := fun env os => loopS nl (fi60.lp 4) (fun env os nx => exec (cx K) N nl fi60 (subC c60 [1, 1, 0, 1, 0, 0]) env os (kLoop nx (kBlock 0 (kSeq (exec (cx K) N nl fi60 (subC c60 [1, 1, 1])) (fi60.jn 8) (kEnd tab nl rs60))))) m4 (killS (fi60.lp 4).alive env) os
noncomputable def L60_4 (K : Nat → List SV → List SO → Out) (N nl : Nat) (m4 : Nat) (x0 x1 x5 : SV) (os : List SO) : Out := loopS nl (fi60.lp 4) (fun env os nx => exec (cx K) N nl fi60 (subC c60 [1, 1, 0, 1, 0, 0]) env os (kLoop nx (kBlock 0 (kSeq (exec (cx K) N nl fi60 (subC c60 [1, 1, 1])) (fi60.jn 8) (kEnd tab nl rs60))))) m4 [(0, x0), (1, x1), (5, x5)] os
noncomputable def LB60_4 (K : Nat → List SV → List SO → Out) (N nl : Nat) (m4 : Nat) (x0 x1 x5 : SV) (os : List SO) : Out :=
 bd (lenO tab 23 os x0) fun v4 o4 =>
 bd (ret1 (binS tab .lss 3 x5 v4) o4) fun v5 o5 =>
 condS v5 (bd (ret1 (indexAddrS tab o5 23 x0 x5) o5) fun v6 o6 =>
 bd (ret1 (loadS tab o6 3 v6) o6) fun v7 o7 =>
 bd (ret1 (indexAddrS tab o7 23 x1 x5) o7) fun v8 o8 =>
 bd (ret1 (loadS tab o8 3 v8) o8) fun v9 o9 =>
 bd (ret1 (binS tab .neq 3 v7 v9) o9) fun v10 o10 =>
 condS v10 (retV tab nl o10 (resC1 (some (SV.v (.bool false))) (some [])))
 (bd (ret1 (binS tab .add 3 x5 (SV.v (.int .i64 1))) o10) fun v11 o11 =>
 L60_4 K N nl m4 x0 x1 v11 o11))
 (retV tab nl o5 (resC1 (some (SV.v (.bool true))) (some [])))
noncomputable def X60 (K : Nat → List SV → List SO → Out) (N nl : Nat) (x0 x1 : SV) (os : List SO) : Out := exec (cx K) N nl fi60 c60 [(0, x0), (1, x1)] os (kEnd tab nl rs60)
noncomputable def B60 (K : Nat → List SV → List SO → Out) (N nl : Nat) (x0 x1 : SV) (os : List SO) : Out :=
 bd (lenO tab 23 os x0) fun v1 o1 =>
 bd (lenO tab 23 o1 x1) fun v2 o2 =>
 bd (ret1 (binS tab .neq 3 v1 v2) o2) fun v3 o3 =>
 condS v3 (retV tab nl o3 (resC1 (some (SV.v (.bool false))) (some [])))
 (L60_4 K N nl N x0 x1 (SV.v (.int .i64 0)) o3)
noncomputable def bk61_2 (K : Nat → List SV → List SO → Out) (N nl : Nat) (m2 : Nat) : Env → List SO → Out := fun env os => loopS nl (fi61.lp 2) (fun env os nx => exec (cx K) N nl fi61 (subC c61 [1, 0, 1, 0, 0]) env os (kLoop nx (kBlock 0 (kSeq (exec (cx K) N nl fi61 (subC c61 [1, 1])) (fi61.jn 6) (kEnd tab nl rs61))))) m2 (killS (fi61.lp 2).alive env) os
noncomputable def L61_2 (K : Nat → List SV → List SO → Out) (N nl : Nat) (m2 : Nat) (x0 x1 x5 : SV) (os : List SO) : Out := loopS nl (fi61.lp 2) (fun env os nx => exec (cx K) N nl fi61 (subC c61 [1, 0, 1, 0, 0]) env os (kLoop nx (kBlock 0 (kSeq (exec (cx K) N nl fi61 (subC c61 [1, 1])) (fi61.jn 6) (kEnd tab nl rs61))))) m2 [(0, x0), (1, x1), (5, x5)] os
noncomputable def LB61_2 (K : Nat → List SV → List SO → Out) (N nl : Nat) (m2 : Nat) (x0 x1 x5 : SV) (os : List SO) : Out :=
 bd (lenO tab 23 os x0) fun v1 o1 =>
 bd (ret1 (binS tab .lss 3 x5 v1) o1) fun v2 o2 =>
 condS v2 (bd (ret1 (indexAddrS tab o2 23 x0 x5) o2) fun v3 o3 =>
 bd (storeO tab o3 3 v3 (some x1)) fun v4 o4 =>
 bd (ret1 (binS tab .add 3 x1 (SV.v (.int .i64 1))) o4) fun v5 o5 =>
 bd (ret1 (binS tab .add 3 x5 (SV.v (.int .i64 1))) o5) fun v6 o6 =>
 L61_2 K N nl m2 x0 v5 v6 o6)
 (retV tab nl o2 (resC1 (some x1) (some [])))
noncomputable def X61 (K : Nat → List SV → List SO → Out) (N nl : Nat) (x0 x1 : SV) (os : List SO) : Out := exec (cx K) N nl fi61 c61 [(0, x0), (1, x1)] os (kEnd tab nl rs61)
noncomputable def B61 (K : Nat → List SV → List SO → Out) (N nl : Nat) (x0 x1 : SV) (os : List SO) : Out :=
 L61_2 K N nl N x0 x1 (SV.v (.int .i64 0)) os
noncomputable def X62 (K : Nat → List SV → List SO → Out) (N nl : Nat) (x0 x1 : SV) (os : List SO) : Out := exec (cx K) N nl fi62 c62 [(0, x0), (1, x1)] os (kEnd tab nl rs62)
noncomputable def B62 (K : Nat → List SV → List SO → Out) (N nl : Nat) (x0 x1 : SV) (os : List SO) : Out :=
 bd (boxS tab os 29 (some x0)) fun v1 o1 =>
 bd (ret1 (fieldAddrS tab 29 v1 2) o1) fun v2 o2 =>
 bd (ret1 (loadS tab o2 27 v2) o2) fun v3 o3 =>
 bd (callS ⟨tab, ownF, K⟩ o3 89 [v3, x1]) fun v4 o4 =>
 retV tab nl o4 (resC1 (some v4) (some []))
noncomputable def X63 (K : Nat → List SV → List SO → Out) (N nl : Nat) (x0 x1 : SV) (os : List SO) : Out := exec (cx K) N nl fi63 c63 [(0, x0), (1, x1)] os (kEnd tab nl rs63)
noncomputable def B63 (K : Nat → List SV → List SO → Out) (N nl : Nat) (x0 x1 : SV) (os : List SO) : Out :=
 bd (boxS tab os 25 (some x0)) fun v1 o1 =>
 bd (ret1 (fieldAddrS tab 25 v1 1) o1) fun v2 o2 =>
 bd (ret1 (loadS tab o2 23 v2) o2) fun v3 o3 =>
 bd (callS ⟨tab, ownF, K⟩ o3 90 [v3, x1]) fun v4 o4 =>
 bd (ret1 (binS tab .lss 3 v4 (SV.v (.int .i64 0))) o4) fun v5 o5 =>
 condS v5 (retV tab nl o5 (resC1 (some (SV.v (.int .i64 (-1)))) (some [])))
 (retV tab nl o5 (resC1 (some v4) (some [])))
noncomputable def X64 (K : Nat → List SV → List SO → Out) (N nl : Nat) (x0 x1 : SV) (os : List SO) : Out := exec (cx K) N nl fi64 c64 [(0, x0), (1, x1)] os (kEnd tab nl rs64)
noncomputable def B64 (K : Nat → List SV → List SO → Out) (N nl : Nat) (x0 x1 : SV) (os : List SO) : Out :=
 bd (boxS tab os 29 (some x0)) fun v1 o1 =>
 bd (ret1 (fieldAddrS tab 29 v1 2) o1) fun v2 o2 =>
 bd (ret1 (loadS tab o2 27 v2) o2) fun v3 o3 =>
 bd (callS ⟨tab, ownF, K⟩ o3 91 [v3, x1]) fun v4 o4 =>
 bd (ret1 (binS tab .lss 3 v4 (SV.v (.int .i64 0))) o4) fun v5 o5 =>
 condS v5 (retV tab nl o5 (resC1 (some (SV.v (.int .i64 (-1)))) (some [])))
 (retV tab nl o5 (resC1 (some v4) (some [])))
noncomputable def J65_6 (K : Nat → List SV → List SO → Out) (N nl : Nat) (x0 x2 x4 x5 : SV) (os : List SO) : Out := exec (cx K) N nl fi65 (subC c65 [1, 1, 1, 1]) [(0, x0), (2, x2), (4, x4), (5, x5)] os (kEnd tab nl rs65)
noncomputable def J65_11 (K : Nat → List SV → List SO → Out) (N nl : Nat) (x2 x4 x5 : SV) (os : List SO) : Out := exec (cx K) N nl fi65 (subC c65 [1, 1, 1, 1, 1]) [(2, x2), (4, x4), (5, x5)] os (kEnd tab nl rs65)
noncomputable def JB65_6 (K : Nat → List SV → List SO → Out) (N nl : Nat) (x0 x2 x4 x5 : SV) (os : List SO) : Out :=
 bd (callS ⟨tab, ownF, K⟩ os 67 [x0, (SV.v (.int .i64 24))]) fun v20 o20 =>
 bd (ret1 (binS tab .eql 3 v20 (SV.v (.int .i64 0))) o20) fun v21 o21 =>
 condS v21 (bd (ret1 (fieldAddrS tab 31 x4 1) o21) fun v22 o22 =>
 bd (ret1 (loadS tab o22 4 v22) o22) fun v23 o23 =>
 bd (ret1 (unS .not v23) o23) fun v24 o24 =>
 bd (ret1 (fieldAddrS tab 31 x4 1) o24) fun v25 o25 =>
 bd (storeO tab o25 4 v25 (some v24)) fun v26 o26 =>
 J65_11 K N nl x2 x4 x5 o26)
 (bd (ret1 (binS tab .eql 3 v20 (SV.v (.int .i64 1))) o21) fun v27 o27 =>
 condS v27 (bd (callS ⟨tab, ownF, K⟩ o27 92 [x0]) fun v28 o28 =>
 bd (ret1 (fieldAddrS tab 31 x4 2) o28) fun v29 o29 =>
 bd (storeO tab o29 29 v29 (some v28)) fun v30 o30 =>
 J65_11 K N nl x2 x4 x5 o30)
 (J65_11 K N nl x2 x4 x5 o27))
noncomputable def JB65_11 (K : Nat → List SV → List SO → Out) (N nl : Nat) (x2 x4 x5 : SV) (os : List SO) : Out :=
 bd (ret1 (loadS tab os 31 x4) os) fun v31 o31 =>
 bd (storeO tab o31 31 x2 (some v31)) fun v32 o32 =>
 retV tab nl o32 (resC1 (loadS tab o32 31 x2) (resC1 (some x5) (some [])))
noncomputable def X65 (K : Nat → List SV → List SO → Out) (N nl : Nat) (x0 : SV) (os : List SO) : Out := exec (cx K) N nl fi65 c65 [(0, x0)] os (kEnd tab nl rs65)
noncomputable def B65 (K : Nat → List SV → List SO → Out) (N nl : Nat) (x0 : SV) (os : List SO) : Out :=
 bd (allocS tab os 31) fun v1 o1 =>
 bd (evN tab 92 o1 none) fun v2 o2 =>
 bd (callS ⟨tab, ownF, K⟩ o2 48 [x0]) fun v3 o3 =>
 bd (buildS tab o3 31 [(0, (some v3))]) fun v4 o4 =>
 bd (allocS tab o4 31) fun v5 o5 =>
 bd (storeO tab o5 31 v5 (some v4)) fun v6 o6 =>
 bd (callS ⟨tab, ownF, K⟩ o6 68 [x0]) fun v7 o7 =>
 bd (callS ⟨tab, ownF, K⟩ o7 67 [x0, (SV.v (.int .i64 5))]) fun v8 o8 =>
 bd (ret1 (binS tab .gtr 3 v8 (SV.v (.int .i64 0))) o8) fun v9 o9 =>
 condS v9 (bd (ret1 (fieldAddrS tab 31 v5 1) o9) fun v10 o10 =>
 bd (storeO tab o10 4 v10 (some (SV.v (.bool true)))) fun v11 o11 =>
 bd (callS ⟨tab, ownF, K⟩ o11 67 [x0, (SV.v (.int .i64 4))]) fun v12 o12 =>
 bd (ret1 (binS tab .add 3 (SV.v (.int .i64 1)) v12) o12) fun v13 o13 =>
 bd (callS ⟨tab, ownF, K⟩ o13 67 [x0, (SV.v (.int .i64 12))]) fun v14 o14 =>
 bd (callS ⟨tab, ownF, K⟩ o14 66 [v13, v14, v7]) fun v15 o15 =>
 bd (ret1 (extractS v15 0) o15) fun v16 o16 =>
 bd (ret1 (extractS v15 1) o16) fun v17 o17 =>
 bd (ret1 (fieldAddrS tab 31 v5 2) o17) fun v18 o18 =>
 bd (storeO tab o18 29 v18 (some v16)) fun v19 o19 =>
 J65_6 K N nl x0 v1 v5 v7 o19)
 (J65_6 K N nl x0 v1 v5 v7 o9)
noncomputable def bk66_5 (K : Nat → List SV → List SO → Out) (N nl : Nat) (m5 : Nat) : Env → List SO → Out := fun env os => loopS nl (fi66.lp 5) (fun env os nx => exec (cx K) N nl fi66 (subC c66 [1, 1, 1, 0, 1, 0, 0]) env os (kLoop nx (kBlock 0 (kSeq (exec (cx K) N nl fi66 (subC c66 [1, 1, 1, 1])) (fi66.jn 8) (kEnd tab nl rs66))))) m5 (killS (fi66.lp 5).alive env) os
noncomputable def L66_5 (K : Nat → List SV → List SO → Out) (N nl : Nat) (m5 : Nat) (x2 x6 x8 x9 : SV) (os : List SO) : Out := loopS nl (fi66.lp 5) (fun env os nx => exec (cx K) N nl fi66 (subC c66 [1, 1, 1, 0, 1, 0, 0]) env os (kLoop nx (kBlock 0 (kSeq (exec (cx K) N nl fi66 (subC c66 [1, 1, 1, 1])) (fi66.jn 8) (kEnd tab nl rs66))))) m5 [(2, x2), (6, x6), (8, x8), (9, x9)] os
noncomputable def G66_5 (K : Nat → List SV → List SO → Out) (N nl : Nat) (m5 : Nat) (xs : List SV) (os : List SO) : Out := (fun env os nx => exec (cx K) N nl fi66 (subC c66 [1, 1, 1, 0, 1, 0, 0]) env os (kLoop nx (kBlock 0 (kSeq (exec (cx K) N nl fi66 (subC c66 [1, 1, 1, 1])) (fi66.jn 8) (kEnd tab nl rs66))))) (zipE [2, 6, 8, 9] xs) os (bk66_5 K N nl m5)
noncomputable def J66_6 (K : Nat → List SV → List SO → Out) (N nl : Nat) (m5 : Nat) (x2 x6 x8 x9 : SV) (os : List SO) : Out := exec (cx K) N nl fi66 (subC c66 [1, 1, 1, 0, 1, 0, 0, 1, 1]) [(2, x2), (6, x6), (8, x8), (9, x9)] os (kLoop (bk66_5 K N nl m5) (kBlock 0 (kSeq (exec (cx K) N nl fi66 (subC c66 [1, 1, 1, 1])) (fi66.jn 8) (kEnd tab nl rs66))))
noncomputable def GB66_5 (K : Nat → List SV → List SO → Out) (N nl : Nat) (m5 : Nat) (x2 x6 x8 x9 : SV) (os : List SO) : Out :=
 bd (lenO tab 92 os x2) fun v10 o10 =>
 bd (ret1 (binS tab .lss 3 x9 v10) o10) fun v11 o11 =>
 condS v11 (both (both (bd (ret1 (fieldAddrS tab 29 x8 2) o11) fun v12 o12 =>
 dchk (isBox v12) <|
 bd (ret1 (loadS tab o12 27 v12) o12) fun v13 o13 =>
 bd (ret1 (indexAddrS tab o13 92 x2 x9) o13) fun v14 o14 =>
 bd (ret1 (fieldAddrS tab 120 v14 0) o14) fun v15 o15 =>
 dchk (isBox v15) <|
 bd (ret1 (loadS tab o15 3 v15) o15) fun v16 o16 =>
 bd (ret1 (indexAddrS tab o16 92 x2 x9) o16) fun v17 o17 =>
 bd (ret1 (fieldAddrS tab 120 v17 1) o17) fun v18 o18 =>
 dchk (isBox v18) <|
 bd (ret1 (loadS tab o18 3 v18) o18) fun v19 o19 =>
 bd (ret1 (indexAddrS tab o19 92 x2 x9) o19) fun v20 o20 =>
 bd (ret1 (loadS tab o20 120 v20) o20) fun v21 o21 =>
 dchk (keepOk ⟨tab, ownF, K⟩ o21 (SV.fn 95 []) [v21] [v12, v15, v18] false) <|
 bd (callS ⟨tab, ownF, K⟩ o21 95 [v21]) fun v22 o22 =>
 dchk (keepOk ⟨tab, ownF, K⟩ o22 (SV.fn 94 []) [v22] [v12, v15, v18] false) <|
 bd (callS ⟨tab, ownF, K⟩ o22 94 [v22]) fun v23 o23 =>
 bd (buildS tab o23 112 [(0, (some v16)), (1, (some v19)), (2, (some v23))]) fun v24 o24 =>
 bd (buildSliceS tab o24 27 1 [(0, v24)]) fun v25 o25 =>
 bd (appendS tab o25 27 27 v13 v25) fun v26 o26 =>
 bd (ret1 (fieldAddrS tab 29 x8 2) o26) fun v27 o27 =>
 bd (storeO tab o27 27 v27 (some v26)) fun v28 o28 =>
 J66_6 K N nl m5 x2 x6 x8 x9 o28)
 (both (bd (ret1 (fieldAddrS tab 29 x8 2) o11) fun v29 o29 =>
 dchk (isBox v29) <|
 bd (ret1 (loadS tab o29 27 v29) o29) fun v30 o30 =>
 bd (ret1 (indexAddrS tab o30 92 x2 x9) o30) fun v31 o31 =>
 bd (ret1 (fieldAddrS tab 120 v31 0) o31) fun v32 o32 =>
 dchk (isBox v32) <|
 bd (ret1 (loadS tab o32 3 v32) o32) fun v33 o33 =>
 bd (ret1 (indexAddrS tab o33 92 x2 x9) o33) fun v34 o34 =>
 bd (ret1 (loadS tab o34 120 v34) o34) fun v35 o35 =>
 dchk (keepOk ⟨tab, ownF, K⟩ o35 (SV.fn 95 []) [v35] [v29, v32] false) <|
 bd (callS ⟨tab, ownF, K⟩ o35 95 [v35]) fun v36 o36 =>
 bd (ret1 (indexAddrS tab o36 92 x2 x9) o36) fun v37 o37 =>
 bd (ret1 (fieldAddrS tab 120 v37 1) o37) fun v38 o38 =>
 dchk (isBox v38) <|
 bd (ret1 (loadS tab o38 3 v38) o38) fun v39 o39 =>
 dchk (keepOk ⟨tab, ownF, K⟩ o39 (SV.fn 94 []) [v36] [v29, v32, v38] false) <|
 bd (callS ⟨tab, ownF, K⟩ o39 94 [v36]) fun v40 o40 =>
 bd (buildS tab o40 112 [(0, (some v33)), (1, (some v39)), (2, (some v40))]) fun v41 o41 =>
 bd (buildSliceS tab o41 27 1 [(0, v41)]) fun v42 o42 =>
 bd (appendS tab o42 27 27 v30 v42) fun v43 o43 =>
 bd (ret1 (fieldAddrS tab 29 x8 2) o43) fun v44 o44 =>
 bd (storeO tab o44 27 v44 (some v43)) fun v45 o45 =>
 J66_6 K N nl m5 x2 x6 x8 x9 o45)
 (bd (ret1 (fieldAddrS tab 29 x8 2) o11) fun v46 o46 =>
 dchk (isBox v46) <|
 bd (ret1 (loadS tab o46 27 v46) o46) fun v47 o47 =>
 bd (ret1 (indexAddrS tab o47 92 x2 x9) o47) fun v48 o48 =>
 bd (ret1 (fieldAddrS tab 120 v48 0) o48) fun v49 o49 =>
 dchk (isBox v49) <|
 bd (ret1 (loadS tab o49 3 v49) o49) fun v50 o50 =>
 bd (ret1 (indexAddrS tab o50 92 x2 x9) o50) fun v51 o51 =>
 bd (ret1 (loadS tab o51 120 v51) o51) fun v52 o52 =>
 dchk (keepOk ⟨tab, ownF, K⟩ o52 (SV.fn 95 []) [v52] [v46, v49] false) <|
 bd (callS ⟨tab, ownF, K⟩ o52 95 [v52]) fun v53 o53 =>
 dchk (keepOk ⟨tab, ownF, K⟩ o53 (SV.fn 94 []) [v53] [v46, v49] false) <|
 bd (callS ⟨tab, ownF, K⟩ o53 94 [v53]) fun v54 o54 =>
 bd (ret1 (indexAddrS tab o54 92 x2 x9) o54) fun v55 o55 =>
 bd (ret1 (fieldAddrS tab 120 v55 1) o55) fun v56 o56 =>
 bd (ret1 (loadS tab o56 3 v56) o56) fun v57 o57 =>
 bd (buildS tab o57 112 [(0, (some v50)), (1, (some v57)), (2, (some v54))]) fun v58 o58 =>
 bd (buildSliceS tab o58 27 1 [(0, v58)]) fun v59 o59 =>
 bd (appendS tab o59 27 27 v47 v59) fun v60 o60 =>
 bd (ret1 (fieldAddrS tab 29 x8 2) o60) fun v61 o61 =>
 bd (storeO tab o61 27 v61 (some v60)) fun v62 o62 =>
 J66_6 K N nl m5 x2 x6 x8 x9 o62)))
 (both (both (bd (ret1 (fieldAddrS tab 29 x8 2) o11) fun v63 o63 =>
 dchk (isBox v63) <|
 bd (ret1 (loadS tab o63 27 v63) o63) fun v64 o64 =>
 bd (ret1 (indexAddrS tab o64 92 x2 x9) o64) fun v65 o65 =>
 bd (ret1 (fieldAddrS tab 120 v65 1) o65) fun v66 o66 =>
 dchk (isBox v66) <|
 bd (ret1 (loadS tab o66 3 v66) o66) fun v67 o67 =>
 bd (ret1 (indexAddrS tab o67 92 x2 x9) o67) fun v68 o68 =>
 bd (ret1 (loadS tab o68 120 v68) o68) fun v69 o69 =>
 dchk (keepOk ⟨tab, ownF, K⟩ o69 (SV.fn 95 []) [v69] [v63, v66] false) <|
 bd (callS ⟨tab, ownF, K⟩ o69 95 [v69]) fun v70 o70 =>
 bd (ret1 (indexAddrS tab o70 92 x2 x9) o70) fun v71 o71 =>
 bd (ret1 (fieldAddrS tab 120 v71 0) o71) fun v72 o72 =>
 dchk (isBox v72) <|
 bd (ret1 (loadS tab o72 3 v72) o72) fun v73 o73 =>
 dchk (keepOk ⟨tab, ownF, K⟩ o73 (SV.fn 94 []) [v70] [v63, v66, v72] false) <|
 bd (callS ⟨tab, ownF, K⟩ o73 94 [v70]) fun v74 o74 =>
 bd (buildS tab o74 112 [(0, (some v73)), (1, (some v67)), (2, (some v74))]) fun v75 o75 =>
 bd (buildSliceS tab o75 27 1 [(0, v75)]) fun v76 o76 =>
 bd (appendS tab o76 27 27 v64 v76) fun v77 o77 =>
 bd (ret1 (fieldAddrS tab 29 x8 2) o77) fun v78 o78 =>
 bd (storeO tab o78 27 v78 (some v77)) fun v79 o79 =>
 J66_6 K N nl m5 x2 x6 x8 x9 o79)
 (bd (ret1 (fieldAddrS tab 29 x8 2) o11) fun v80 o80 =>
 dchk (isBox v80) <|
 bd (ret1 (loadS tab o80 27 v80) o80) fun v81 o81 =>
 bd (ret1 (indexAddrS tab o81 92 x2 x9) o81) fun v82 o82 =>
 bd (ret1 (fieldAddrS tab 120 v82 1) o82) fun v83 o83 =>
 dchk (isBox v83) <|
 bd (ret1 (loadS tab o83 3 v83) o83) fun v84 o84 =>
 bd (ret1 (indexAddrS tab o84 92 x2 x9) o84) fun v85 o85 =>
 bd (ret1 (loadS tab o85 120 v85) o85) fun v86 o86 =>
 dchk (keepOk ⟨tab, ownF, K⟩ o86 (SV.fn 95 []) [v86] [v80, v83] false) <|
 bd (callS ⟨tab, ownF, K⟩ o86 95 [v86]) fun v87 o87 =>
 dchk (keepOk ⟨tab, ownF, K⟩ o87 (SV.fn 94 []) [v87] [v80, v83] false) <|
 bd (callS ⟨tab, ownF, K⟩ o87 94 [v87]) fun v88 o88 =>
 bd (ret1 (indexAddrS tab o88 92 x2 x9) o88) fun v89 o89 =>
 bd (ret1 (fieldAddrS tab 120 v89 0) o89) fun v90 o90 =>
 bd (ret1 (loadS tab o90 3 v90) o90) fun v91 o91 =>
 bd (buildS tab o91 112 [(0, (some v91)), (1, (some v84)), (2, (some v88))]) fun v92 o92 =>
 bd (buildSliceS tab o92 27 1 [(0, v92)]) fun v93 o93 =>
 bd (appendS tab o93 27 27 v81 v93) fun v94 o94 =>
 bd (ret1 (fieldAddrS tab 29 x8 2) o94) fun v95 o95 =>
 bd (storeO tab o95 27 v95 (some v94)) fun v96 o96 =>
 J66_6 K N nl m5 x2 x6 x8 x9 o96))
 (both (both (bd (ret1 (fieldAddrS tab 29 x8 2) o11) fun v97 o97 =>
 dchk (isBox v97) <|
 bd (ret1 (loadS tab o97 27 v97) o97) fun v98 o98 =>
 bd (ret1 (indexAddrS tab o98 92 x2 x9) o98) fun v99 o99 =>
 bd (ret1 (loadS tab o99 120 v99) o99) fun v100 o100 =>
 dchk (keepOk ⟨tab, ownF, K⟩ o100 (SV.fn 95 []) [v100] [v97] false) <|
 bd (callS ⟨tab, ownF, K⟩ o100 95 [v100]) fun v101 o101 =>
 bd (ret1 (indexAddrS tab o101 92 x2 x9) o101) fun v102 o102 =>
 bd (ret1 (fieldAddrS tab 120 v102 0) o102) fun v103 o103 =>
 dchk (isBox v103) <|
 bd (ret1 (loadS tab o103 3 v103) o103) fun v104 o104 =>
 bd (ret1 (indexAddrS tab o104 92 x2 x9) o104) fun v105 o105 =>
 bd (ret1 (fieldAddrS tab 120 v105 1) o105) fun v106 o106 =>
 dchk (isBox v106) <|
 bd (ret1 (loadS tab o106 3 v106) o106) fun v107 o107 =>
 dchk (keepOk ⟨tab, ownF, K⟩ o107 (SV.fn 94 []) [v101] [v97, v103, v106] false) <|
 bd (callS ⟨tab, ownF, K⟩ o107 94 [v101]) fun v108 o108 =>
 bd (buildS tab o108 112 [(0, (some v104)), (1, (some v107)), (2, (some v108))]) fun v109 o109 =>
 bd (buildSliceS tab o109 27 1 [(0, v109)]) fun v110 o110 =>
 bd (appendS tab o110 27 27 v98 v110) fun v111 o111 =>
 bd (ret1 (fieldAddrS tab 29 x8 2) o111) fun v112 o112 =>
 bd (storeO tab o112 27 v112 (some v111)) fun v113 o113 =>
 J66_6 K N nl m5 x2 x6 x8 x9 o113)
 (bd (ret1 (fieldAddrS tab 29 x8 2) o11) fun v114 o114 =>
 dchk (isBox v114) <|
 bd (ret1 (loadS tab o114 27 v114) o114) fun v115 o115 =>
 bd (ret1 (indexAddrS tab o115 92 x2 x9) o115) fun v116 o116 =>
 bd (ret1 (loadS tab o116 120 v116) o116) fun v117 o117 =>
 dchk (keepOk ⟨tab, ownF, K⟩ o117 (SV.fn 95 []) [v117] [v114] false) <|
 bd (callS ⟨tab, ownF, K⟩ o117 95 [v117]) fun v118 o118 =>
 bd (ret1 (indexAddrS tab o118 92 x2 x9) o118) fun v119 o119 =>
 bd (ret1 (fieldAddrS tab 120 v119 0) o119) fun v120 o120 =>
 dchk (isBox v120) <|
 bd (ret1 (loadS tab o120 3 v120) o120) fun v121 o121 =>
 dchk (keepOk ⟨tab, ownF, K⟩ o121 (SV.fn 94 []) [v118] [v114, v120] false) <|
 bd (callS ⟨tab, ownF, K⟩ o121 94 [v118]) fun v122 o122 =>
 bd (ret1 (indexAddrS tab o122 92 x2 x9) o122) fun v123 o123 =>
 bd (ret1 (fieldAddrS tab 120 v123 1) o123) fun v124 o124 =>
 bd (ret1 (loadS tab o124 3 v124) o124) fun v125 o125 =>
 bd (buildS tab o125 112 [(0, (some v121)), (1, (some v125)), (2, (some v122))]) fun v126 o126 =>
 bd (buildSliceS tab o126 27 1 [(0, v126)]) fun v127 o127 =>
 bd (appendS tab o127 27 27 v115 v127) fun v128 o128 =>
 bd (ret1 (fieldAddrS tab 29 x8 2) o128) fun v129 o129 =>
 bd (storeO tab o129 27 v129 (some v128)) fun v130 o130 =>
 J66_6 K N nl m5 x2 x6 x8 x9 o130))
 (both (bd (ret1 (fieldAddrS tab 29 x8 2) o11) fun v131 o131 =>
 dchk (isBox v131) <|
 bd (ret1 (loadS tab o131 27 v131) o131) fun v132 o132 =>
 bd (ret1 (indexAddrS tab o132 92 x2 x9) o132) fun v133 o133 =>
 bd (ret1 (loadS tab o133 120 v133) o133) fun v134 o134 =>
 dchk (keepOk ⟨tab, ownF, K⟩ o134 (SV.fn 95 []) [v134] [v131] false) <|
 bd (callS ⟨tab, ownF, K⟩ o134 95 [v134]) fun v135 o135 =>
 bd (ret1 (indexAddrS tab o135 92 x2 x9) o135) fun v136 o136 =>
 bd (ret1 (fieldAddrS tab 120 v136 1) o136) fun v137 o137 =>
 dchk (isBox v137) <|
 bd (ret1 (loadS tab o137 3 v137) o137) fun v138 o138 =>
 dchk (keepOk ⟨tab, ownF, K⟩ o138 (SV.fn 94 []) [v135] [v131, v137] false) <|
 bd (callS ⟨tab, ownF, K⟩ o138 94 [v135]) fun v139 o139 =>
 bd (ret1 (indexAddrS tab o139 92 x2 x9) o139) fun v140 o140 =>
 bd (ret1 (fieldAddrS tab 120 v140 0) o140) fun v141 o141 =>
 bd (ret1 (loadS tab o141 3 v141) o141) fun v142 o142 =>
 bd (buildS tab o142 112 [(0, (some v142)), (1, (some v138)), (2, (some v139))]) fun v143 o143 =>
 bd (buildSliceS tab o143 27 1 [(0, v143)]) fun v144 o144 =>
 bd (appendS tab o144 27 27 v132 v144) fun v145 o145 =>
 bd (ret1 (fieldAddrS tab 29 x8 2) o145) fun v146 o146 =>
 bd (storeO tab o146 27 v146 (some v145)) fun v147 o147 =>
 J66_6 K N nl m5 x2 x6 x8 x9 o147)
 (bd (ret1 (fieldAddrS tab 29 x8 2) o11) fun v148 o148 =>
 dchk (isBox v148) <|
 bd (ret1 (loadS tab o148 27 v148) o148) fun v149 o149 =>
 bd (ret1 (indexAddrS tab o149 92 x2 x9) o149) fun v150 o150 =>
 bd (ret1 (loadS tab o150 120 v150) o150) fun v151 o151 =>
 dchk (keepOk ⟨tab, ownF, K⟩ o151 (SV.fn 95 []) [v151] [v148] false) <|
 bd (callS ⟨tab, ownF, K⟩ o151 95 [v151]) fun v152 o152 =>
 dchk (keepOk ⟨tab, ownF, K⟩ o152 (SV.fn 94 []) [v152] [v148] false) <|
 bd (callS ⟨tab, ownF, K⟩ o152 94 [v152]) fun v153 o153 =>
 bd (ret1 (indexAddrS tab o153 92 x2 x9) o153) fun v154 o154 =>
 bd (ret1 (fieldAddrS tab 120 v154 0) o154) fun v155 o155 =>
 bd (ret1 (loadS tab o155 3 v155) o155) fun v156 o156 =>
 bd (ret1 (indexAddrS tab o156 92 x2 x9) o156) fun v157 o157 =>
 bd (ret1 (fieldAddrS tab 120 v157 1) o157) fun v158 o158 =>
 bd (ret1 (loadS tab o158 3 v158) o158) fun v159 o159 =>
 bd (buildS tab o159 112 [(0, (some v156)), (1, (some v159)), (2, (some v153))]) fun v160 o160 =>
 bd (buildSliceS tab o160 27 1 [(0, v160)]) fun v161 o161 =>
 bd (appendS tab o161 27 27 v149 v161) fun v162 o162 =>
 bd (ret1 (fieldAddrS tab 29 x8 2) o162) fun v163 o163 =>
 bd (storeO tab o163 27 v163 (some v162)) fun v164 o164 =>
 J66_6 K N nl m5 x2 x6 x8 x9 o164)))))
 (bd (ret1 (loadS tab o11 29 x8) o11) fun v165 o165 =>
 bd (callS ⟨tab, ownF, K⟩ o165 75 [v165]) fun v166 o166 =>
 bd (ret1 (unS .not v166) o166) fun v167 o167 =>
 condS v167 (bd (buildS tab o167 29 []) fun v168 o168 =>
 bd (storeO tab o168 29 x6 (some v168)) fun v169 o169 =>
 retV tab nl o169 (resC1 (loadS tab o169 29 x6) (resC1 (some (SV.v (.bool false))) (some []))))
 (bd (ret1 (loadS tab o167 29 x8) o167) fun v170 o170 =>
 bd (storeO tab o170 29 x6 (some v170)) fun v171 o171 =>
 retV tab nl o171 (resC1 (loadS tab o171 29 x6) (resC1 (some (SV.v (.bool true))) (some [])))))
noncomputable def JB66_6 (K : Nat → List SV → List SO → Out) (N nl : Nat) (m5 : Nat) (x2 x6 x8 x9 : SV) (os : List SO) : Out :=
 bd (ret1 (binS tab .add 3 x9 (SV.v (.int .i64 1))) os) fun v172 o172 =>
 L66_5 K N nl m5 x2 x6 x8 v172 o172
noncomputable def X66 (K : Nat → List SV → List SO → Out) (N nl : Nat) (x0 x1 x2 : SV) (os : List SO) : Out := exec (cx K) N nl fi66 c66 [(0, x0), (1, x1), (2, x2)] os (kEnd tab nl rs66)
noncomputable def B66 (K : Nat → List SV → List SO → Out) (N nl : Nat) (x0 x1 x2 : SV) (os : List SO) : Out :=
 bd (allocS tab os 29) fun v1 o1 =>
 bd (buildSliceS tab o1 27 0 []) fun v2 o2 =>
 bd (buildS tab o2 29 [(0, (some x0)), (1, (some x1)), (2, (some v2))]) fun v3 o3 =>
 bd (allocS tab o3 29) fun v4 o4 =>
 bd (storeO tab o4 29 v4 (some v3)) fun v5 o5 =>
 bd (callS ⟨tab, ownF, K⟩ o5 93 [x2]) fun v6 o6 =>
 bd (ret1 (unS .not v6) o6) fun v7 o7 =>
 condS v7 (bd (buildS tab o7 29 []) fun v8 o8 =>
 bd (storeO tab o8 29 v1 (some v8)) fun v9 o9 =>
 retV tab nl o9 (resC1 (loadS tab o9 29 v1) (resC1 (some (SV.v (.bool false))) (some []))))
 (L66_5 K N nl N x2 v1 v4 (SV.v (.int .i64 0)) o7)
noncomputable def X67 (K : Nat → List SV → List SO → Out) (N nl : Nat) (x0 x1 : SV) (os : List SO) : Out := exec (cx K) N nl fi67 c67 [(0, x0), (1, x1)] os (kEnd tab nl rs67)
noncomputable def B67 (K : Nat → List SV → List SO → Out) (N nl : Nat) (x0 x1 : SV) (os : List SO) : Out :=
 bd (ret1 (nilS x0) os) fun v1 o1 =>
 bd (ret1 (fieldAddrS tab 110 v1 1) o1) fun v2 o2 =>
 bd (ret1 (loadS tab o2 3 v2) o2) fun v3 o3 =>
 bd (ret1 (binS tab .add 3 v3 (SV.v (.int .i64 1))) o3) fun v4 o4 =>
 bd (ret1 (nilS x0) o4) fun v5 o5 =>
 bd (ret1 (fieldAddrS tab 110 v5 1) o5) fun v6 o6 =>
 bd (storeO tab o6 3 v6 (some v4)) fun v7 o7 =>
 bd (ret1 (binS tab .lss 3 x1 (SV.v (.int .i64 1))) o7) fun v8 o8 =>
 bd (gd v8 false (some (x0, o8)) o8) fun v9 o9 =>
 bd (gd v8 false (ret1 (nilS v9) o9) o9) fun v10 o10 =>
 bd (gd v8 false (ret1 (fieldAddrS tab 110 v10 0) o10) o10) fun v11 o11 =>
 bd (gd v8 false (ret1 (loadS tab o11 22 v11) o11) o11) fun v12 o12 =>
 bd (gd v8 false (lenO tab 22 o12 v12) o12) fun v13 o13 =>
 bd (gd v8 false (ret1 (binS tab .eql 3 v13 (SV.v (.int .i64 0))) o13) o13) fun v14 o14 =>
 bd (ret1 (pickS v8 (SV.v (.bool true)) v14) o14) fun v15 o15 =>
 condS v15 (retV tab nl o15 (resC1 (some (SV.v (.int .i64 0))) (some [])))
 (bd (ret1 (nilS x0) o15) fun v16 o16 =>
 bd (ret1 (fieldAddrS tab 110 v16 1) o16) fun v17 o17 =>
 bd (ret1 (loadS tab o17 3 v17) o17) fun v18 o18 =>
 bd (ret1 (binS tab .sub 3 v18 (SV.v (.int .i64 1))) o18) fun v19 o19 =>
 bd (ret1 (nilS x0) o19) fun v20 o20 =>
 bd (ret1 (fieldAddrS tab 110 v20 0) o20) fun v21 o21 =>
 bd (ret1 (loadS tab o21 22 v21) o21) fun v22 o22 =>
 bd (lenO tab 22 o22 v22) fun v23 o23 =>
 bd (ret1 (binS tab .lss 3 v19 v23) o23) fun v24 o24 =>
 condS v24 (bd (ret1 (nilS x0) o24) fun v25 o25 =>
 bd (ret1 (fieldAddrS tab 110 v25 0) o25) fun v26 o26 =>
 bd (ret1 (loadS tab o26 22 v26) o26) fun v27 o27 =>
 bd (ret1 (indexAddrS tab o27 22 v27 v19) o27) fun v28 o28 =>
 bd (ret1 (loadS tab o28 5 v28) o28) fun v29 o29 =>
 bd (convS tab o29 5 3 v29) fun v30 o30 =>
 bd (ret1 (binS tab .rem 3 v30 x1) o30) fun v31 o31 =>
 retV tab nl o31 (resC1 (some v31) (some [])))
 (bd (ret1 (nilS x0) o24) fun v32 o32 =>
 bd (ret1 (fieldAddrS tab 110 v32 0) o32) fun v33 o33 =>
 bd (ret1 (loadS tab o33 22 v33) o33) fun v34 o34 =>
 bd (ret1 (nilS x0) o34) fun v35 o35 =>
 bd (ret1 (fieldAddrS tab 110 v35 0) o35) fun v36 o36 =>
 bd (ret1 (loadS tab o36 22 v36) o36) fun v37 o37 =>
 bd (lenO tab 22 o37 v37) fun v38 o38 =>
 bd (ret1 (binS tab .rem 3 v19 v38) o38) fun v39 o39 =>
 bd (ret1 (indexAddrS tab o39 22 v34 v39) o39) fun v40 o40 =>
 bd (ret1 (loadS tab o40 5 v40) o40) fun v41 o41 =>
 bd (convS tab o41 5 3 v41) fun v42 o42 =>
 bd (ret1 (binS tab .mul 3 v42 (SV.v (.int .i64 131))) o42) fun v43 o43 =>
 bd (ret1 (nilS x0) o43) fun v44 o44 =>
 bd (ret1 (fieldAddrS tab 110 v44 0) o44) fun v45 o45 =>
 bd (ret1 (loadS tab o45 22 v45) o45) fun v46 o46 =>
 bd (ret1 (binS tab .mul 3 v19 (SV.v (.int .i64 7))) o46) fun v47 o47 =>
 bd (ret1 (binS tab .add 3 v47 (SV.v (.int .i64 3))) o47) fun v48 o48 =>
 bd (ret1 (nilS x0) o48) fun v49 o49 =>
 bd (ret1 (fieldAddrS tab 110 v49 0) o49) fun v50 o50 =>
 bd (ret1 (loadS tab o50 22 v50) o50) fun v51 o51 =>
 bd (lenO tab 22 o51 v51) fun v52 o52 =>
 bd (ret1 (binS tab .rem 3 v48 v52) o52) fun v53 o53 =>
 bd (ret1 (indexAddrS tab o53 22 v46 v53) o53) fun v54 o54 =>
 bd (ret1 (loadS tab o54 5 v54) o54) fun v55 o55 =>
 bd (convS tab o55 5 3 v55) fun v56 o56 =>
 bd (ret1 (binS tab .mul 3 v56 (SV.v (.int .i64 1117))) o56) fun v57 o57 =>
 bd (ret1 (binS tab .add 3 v43 v57) o57) fun v58 o58 =>
 bd (ret1 (binS tab .mul 3 v19 (SV.v (.int .i64 29))) o58) fun v59 o59 =>
 bd (ret1 (binS tab .add 3 v58 v59) o59) fun v60 o60 =>
 bd (ret1 (nilS x0) o60) fun v61 o61 =>
 bd (ret1 (fieldAddrS tab 110 v61 0) o61) fun v62 o62 =>
 bd (ret1 (loadS tab o62 22 v62) o62) fun v63 o63 =>
 bd (lenO tab 22 o63 v63) fun v64 o64 =>
 bd (ret1 (binS tab .quo 3 v19 v64) o64) fun v65 o65 =>
 bd (ret1 (binS tab .mul 3 v65 (SV.v (.int .i64 53))) o65) fun v66 o66 =>
 bd (ret1 (binS tab .add 3 v60 v66) o66) fun v67 o67 =>
 bd (ret1 (binS tab .quo 3 v67 (SV.v (.int .i64 64))) o67) fun v68 o68 =>
 bd (ret1 (binS tab .xor 3 v67 v68) o68) fun v69 o69 =>
 bd (ret1 (binS tab .rem 3 v69 x1) o69) fun v70 o70 =>
 retV tab nl o70 (resC1 (some v70) (some []))))
noncomputable def bk68_3 (K : Nat → List SV → List SO → Out) (N nl : Nat) (m3 : Nat) : Env → List SO → Out := fun env os => loopS nl (fi68.lp 3) (fun env os nx => exec (cx K) N nl fi68 (subC c68 [1, 1, 0, 1, 0, 0]) env os (kLoop nx (kBlock 0 (kSeq (exec (cx K) N nl fi68 (subC c68 [1, 1, 1])) (fi68.jn 8) (kEnd tab nl rs68))))) m3 (killS (fi68.lp 3).alive env) os
noncomputable def L68_3 (K : Nat → List SV → List SO → Out) (N nl : Nat) (m3 : Nat) (x0 x3 x4 : SV) (os : List SO) : Out := loopS nl (fi68.lp 3) (fun env os nx => exec (cx K) N nl fi68 (subC c68 [1, 1, 0, 1, 0, 0]) env os (kLoop nx (kBlock 0 (kSeq (exec (cx K) N nl fi68 (subC c68 [1, 1, 1])) (fi68.jn 8) (kEnd tab nl rs68))))) m3 [(0, x0), (3, x3), (4, x4)] os
noncomputable def G68_3 (K : Nat → List SV → List SO → Out) (N nl : Nat) (m3 : Nat) (xs : List SV) (os : List SO) : Out := (fun env os nx => exec (cx K) N nl fi68 (subC c68 [1, 1, 0, 1, 0, 0]) env os (kLoop nx (kBlock 0 (kSeq (exec (cx K) N nl fi68 (subC c68 [1, 1, 1])) (fi68.jn 8) (kEnd tab nl rs68))))) (zipE [0, 3, 4] xs) os (bk68_3 K N nl m3)
noncomputable def J68_4 (K : Nat → List SV → List SO → Out) (N nl : Nat) (m3 : Nat) (x0 x3 x4 : SV) (os : List SO) : Out := exec (cx K) N nl fi68 (subC c68 [1, 1, 0, 1, 0, 0, 1, 1]) [(0, x0), (3, x3), (4, x4)] os (kLoop (bk68_3 K N nl m3) (kBlock 0 (kSeq (exec (cx K) N nl fi68 (subC c68 [1, 1, 1])) (fi68.jn 8) (kEnd tab nl rs68))))
noncomputable def GB68_3 (K : Nat → List SV → List SO → Out) (N nl : Nat) (m3 : Nat) (x0 x3 x4 : SV) (os : List SO) : Out :=
 bd (ret1 (binS tab .gtr 3 x4 (SV.v (.int .i64 0))) os) fun v4 o4 =>
 condS v4 (bd (callS ⟨tab, ownF, K⟩ o4 67 [x0, (SV.v (.int .i64 4))]) fun v5 o5 =>
 bd (ret1 (binS tab .add 3 (SV.v (.int .i64 1)) v5) o5) fun v6 o6 =>
 bd (callS ⟨tab, ownF, K⟩ o6 67 [x0, (SV.v (.int .i64 3))]) fun v7 o7 =>
 bd (ret1 (binS tab .add 3 (SV.v (.int .i64 1)) v7) o7) fun v8 o8 =>
 bd (callS ⟨tab, ownF, K⟩ o8 96 [x0, v6, v8]) fun v9 o9 =>
 bd (allocS tab o9 120) fun v10 o10 =>
 bd (storeO tab o10 120 v10 (some v9)) fun v11 o11 =>
 bd (ret1 (fieldAddrS tab 120 v10 0) o11) fun v12 o12 =>
 bd (ret1 (loadS tab o12 3 v12) o12) fun v13 o13 =>
 bd (ret1 (fieldAddrS tab 120 v10 1) o13) fun v14 o14 =>
 bd (ret1 (loadS tab o14 3 v14) o14) fun v15 o15 =>
 bd (callS ⟨tab, ownF, K⟩ o15 97 [x3, v13, v15]) fun v16 o16 =>
 bd (ret1 (binS tab .lss 3 v16 (SV.v (.int .i64 0))) o16) fun v17 o17 =>
 condS v17 (bd (ret1 (loadS tab o17 120 v10) o17) fun v18 o18 =>
 bd (callS ⟨tab, ownF, K⟩ o18 98 [x3, v18]) fun v19 o19 =>
 J68_4 K N nl m3 x0 v19 x4 o19)
 (J68_4 K N nl m3 x0 x3 x4 o17))
 (retV tab nl o4 (resC1 (some x3) (some [])))
noncomputable def JB68_4 (K : Nat → List SV → List SO → Out) (N nl : Nat) (m3 : Nat) (x0 x3 x4 : SV) (os : List SO) : Out :=
 bd (ret1 (binS tab .sub 3 x4 (SV.v (.int .i64 1))) os) fun v20 o20 =>
 L68_3 K N nl m3 x0 x3 v20 o20
noncomputable def X68 (K : Nat → List SV → List SO → Out) (N nl : Nat) (x0 : SV) (os : List SO) : Out := exec (cx K) N nl fi68 c68 [(0, x0)] os (kEnd tab nl rs68)
noncomputable def B68 (K : Nat → List SV → List SO → Out) (N nl : Nat) (x0 : SV) (os : List SO) : Out :=
 bd (evN tab 92 os none) fun v1 o1 =>
 bd (buildSliceS tab o1 92 0 []) fun v2 o2 =>
 bd (callS ⟨tab, ownF, K⟩ o2 67 [x0, (SV.v (.int .i64 8))]) fun v3 o3 =>
 L68_3 K N nl N x0 v2 v3 o3
noncomputable def bk69_3 (K : Nat → List SV → List SO → Out) (N nl : Nat) (m3 : Nat) : Env → List SO → Out := fun env os => loopS nl (fi69.lp 3) (fun env os nx => exec (cx K) N nl fi69 (subC c69 [1, 1, 0, 1, 0, 0]) env os (kLoop nx (kBlock 0 (kSeq (exec (cx K) N nl fi69 (subC c69 [1, 1, 1])) (fi69.jn 7) (kEnd tab nl rs69))))) m3 (killS (fi69.lp 3).alive env) os
noncomputable def L69_3 (K : Nat → List SV → List SO → Out) (N nl : Nat) (m3 : Nat) (x0 x3 x4 : SV) (os : List SO) : Out := loopS nl (fi69.lp 3) (fun env os nx => exec (cx K) N nl fi69 (subC c69 [1, 1, 0, 1, 0, 0]) env os (kLoop nx (kBlock 0 (kSeq (exec (cx K) N nl fi69 (subC c69 [1, 1, 1])) (fi69.jn 7) (kEnd tab nl rs69))))) m3 [(0, x0), (3, x3), (4, x4)] os
noncomputable def G69_3 (K : Nat → List SV → List SO → Out) (N nl : Nat) (m3 : Nat) (xs : List SV) (os : List SO) : Out := (fun env os nx => exec (cx K) N nl fi69 (subC c69 [1, 1, 0, 1, 0, 0]) env os (kLoop nx (kBlock 0 (kSeq (exec (cx K) N nl fi69 (subC c69 [1, 1, 1])) (fi69.jn 7) (kEnd tab nl rs69))))) (zipE [0, 3, 4] xs) os (bk69_3 K N nl m3)
noncomputable def J69_4 (K : Nat → List SV → List SO → Out) (N nl : Nat) (m3 : Nat) (x0 x3 x4 : SV) (os : List SO) : Out := exec (cx K) N nl fi69 (subC c69 [1, 1, 0, 1, 0, 0, 1, 1]) [(0, x0), (3, x3), (4, x4)] os (kLoop (bk69_3 K N nl m3) (kBlock 0 (kSeq (exec (cx K) N nl fi69 (subC c69 [1, 1, 1])) (fi69.jn 7) (kEnd tab nl rs69))))
noncomputable def J69_9 (K : Nat → List SV → List SO → Out) (N nl : Nat) (x3 : SV) (os : List SO) : Out := exec (cx K) N nl fi69 (subC c69 [1, 1, 1, 1]) [(3, x3)] os (kEnd tab nl rs69)
noncomputable def GB69_3 (K : Nat → List SV → List SO → Out) (N nl : Nat) (m3 : Nat) (x0 x3 x4 : SV) (os : List SO) : Out :=
 bd (ret1 (binS tab .leq 3 x4 (SV.v (.int .i64 6))) os) fun v3 o3 =>
 condS v3 (bd (callS ⟨tab, ownF, K⟩ o3 67 [x0, (SV.v (.int .i64 2))]) fun v4 o4 =>
 bd (ret1 (binS tab .eql 3 v4 (SV.v (.int .i64 0))) o4) fun v5 o5 =>
 condS v5 (bd (buildSliceS tab o5 23 1 [(0, x4)]) fun v6 o6 =>
 bd (appendS tab o6 23 23 x3 v6) fun v7 o7 =>
 J69_4 K N nl m3 x0 v7 x4 o7)
 (J69_4 K N nl m3 x0 x3 x4 o5))
 (bd (callS ⟨tab, ownF, K⟩ o3 67 [x0, (SV.v (.int .i64 16))]) fun v8 o8 =>
 bd (ret1 (binS tab .eql 3 v8 (SV.v (.int .i64 0))) o8) fun v9 o9 =>
 condS v9 (bd (buildSliceS tab o9 23 3 [(0, (SV.v (.int .i64 0))), (1, (SV.v (.int .i64 7))), (2, (SV.v (.int .i64 1)))]) fun v10 o10 =>
 bd (callS ⟨tab, ownF, K⟩ o10 67 [x0, (SV.v (.int .i64 3))]) fun v11 o11 =>
 bd (ret1 (indexAddrS tab o11 23 v10 v11) o11) fun v12 o12 =>
 bd (ret1 (loadS tab o12 3 v12) o12) fun v13 o13 =>
 bd (buildSliceS tab o13 23 1 [(0, v13)]) fun v14 o14 =>
 bd (appendS tab o14 23 23 x3 v14) fun v15 o15 =>
 J69_9 K N nl v15 o15)
 (J69_9 K N nl x3 o9))
noncomputable def JB69_4 (K : Nat → List SV → List SO → Out) (N nl : Nat) (m3 : Nat) (x0 x3 x4 : SV) (os : List SO) : Out :=
 bd (ret1 (binS tab .add 3 x4 (SV.v (.int .i64 1))) os) fun v16 o16 =>
 L69_3 K N nl m3 x0 x3 v16 o16
noncomputable def JB69_9 (K : Nat → List SV → List SO → Out) (N nl : Nat) (x3 : SV) (os : List SO) : Out :=
 retV tab nl os (resC1 (some x3) (some []))
noncomputable def X69 (K : Nat → List SV → List SO → Out) (N nl : Nat) (x0 : SV) (os : List SO) : Out := exec (cx K) N nl fi69 c69 [(0, x0)] os (kEnd tab nl rs69)
noncomputable def B69 (K : Nat → List SV → List SO → Out) (N nl : Nat) (x0 : SV) (os : List SO) : Out :=
 bd (evN tab 23 os none) fun v1 o1 =>
 bd (buildSliceS tab o1 23 0 []) fun v2 o2 =>
 L69_3 K N nl N x0 v2 (SV.v (.int .i64 1)) o2
noncomputable def X70 (K : Nat → List SV → List SO → Out) (N nl : Nat) (x0 x1 x2 : SV) (os : List SO) : Out := exec (cx K) N nl fi70 c70 [(0, x0), (1, x1), (2, x2)] os (kEnd tab nl rs70)
noncomputable def B70 (K : Nat → List SV → List SO → Out) (N nl : Nat) (x0 x1 x2 : SV) (os : List SO) : Out :=
 bd (ret1 (binS tab .geq 3 x0 x1) os) fun v1 o1 =>
 bd (gd v1 true (some (x0, o1)) o1) fun v2 o2 =>
 bd (gd v1 true (some (x2, o2)) o2) fun v3 o3 =>
 bd (gd v1 true (ret1 (binS tab .leq 3 v2 v3) o3) o3) fun v4 o4 =>
 bd (ret1 (pickS v1 v4 (SV.v (.bool false))) o4) fun v5 o5 =>
 retV tab nl o5 (resC1 (some v5) (some []))
noncomputable def X71 (K : Nat → List SV → List SO → Out) (N nl : Nat) (x0 x1 x2 : SV) (os : List SO) : Out := exec (cx K) N nl fi71 c71 [(0, x0), (1, x1), (2, x2)] os (kEnd tab nl rs71)
noncomputable def B71 (K : Nat → List SV → List SO → Out) (N nl : Nat) (x0 x1 x2 : SV) (os : List SO) : Out :=
 bd (boxS tab os 31 (some x0)) fun v1 o1 =>
 bd (boxS tab o1 46 (some x1)) fun v2 o2 =>
 bd (allocS tab o2 31) fun v3 o3 =>
 bd (ret1 (fieldAddrS tab 46 v2 0) o3) fun v4 o4 =>
 bd (ret1 (loadS tab o4 29 v4) o4) fun v5 o5 =>
 bd (callS ⟨tab, ownF, K⟩ o5 75 [v5]) fun v6 o6 =>
 bd (ret1 (unS .not v6) o6) fun v7 o7 =>
 bd (gd v7 false (ret1 (fieldAddrS tab 31 v1 0) o7) o7) fun v8 o8 =>
 bd (gd v7 false (ret1 (loadS tab o8 25 v8) o8) o8) fun v9 o9 =>
 bd (gd v7 false (ret1 (fieldAddrS tab 46 v2 1) o9) o9) fun v10 o10 =>
 bd (gd v7 false (ret1 (loadS tab o10 23 v10) o10) o10) fun v11 o11 =>
 bd (gd v7 false (callS ⟨tab, ownF, K⟩ o11 99 [v9, v11]) o11) fun v12 o12 =>
 bd (gd v7 false (ret1 (unS .not v12) o12) o12) fun v13 o13 =>
 bd (ret1 (pickS v7 (SV.v (.bool true)) v13) o13) fun v14 o14 =>
 bd (gd v14 false (ret1 (fieldAddrS tab 46 v2 0) o14) o14) fun v15 o15 =>
 bd (gd v14 false (ret1 (fieldAddrS tab 29 v15 1) o15) o15) fun v16 o16 =>
 bd (gd v14 false (ret1 (loadS tab o16 3 v16) o16) o16) fun v17 o17 =>
 bd (gd v14 false (some (x2, o17)) o17) fun v18 o18 =>
 bd (gd v14 false (ret1 (binS tab .lss 3 v17 v18) o18) o18) fun v19 o19 =>
 bd (ret1 (pickS v14 (SV.v (.bool true)) v19) o19) fun v20 o20 =>
 bd (gd v20 false (ret1 (fieldAddrS tab 31 v1 1) o20) o20) fun v21 o21 =>
 bd (gd v20 false (ret1 (loadS tab o21 4 v21) o21) o21) fun v22 o22 =>
 bd (gd v20 false (some (v22, o22)) o22) fun v23 o23 =>
 bd (gd v23 true (ret1 (fieldAddrS tab 46 v2 0) o23) o23) fun v24 o24 =>
 bd (gd v23 true (ret1 (fieldAddrS tab 29 v24 0) o24) o24) fun v25 o25 =>
 bd (gd v23 true (ret1 (loadS tab o25 3 v25) o25) o25) fun v26 o26 =>
 bd (gd v23 true (ret1 (fieldAddrS tab 31 v1 2) o26) o26) fun v27 o27 =>
 bd (gd v23 true (ret1 (fieldAddrS tab 29 v27 0) o27) o27) fun v28 o28 =>
 bd (gd v23 true (ret1 (loadS tab o28 3 v28) o28) o28) fun v29 o29 =>
 bd (gd v23 true (ret1 (binS tab .leq 3 v26 v29) o29) o29) fun v30 o30 =>
 bd (gd v20 false (ret1 (pickS v23 v30 (SV.v (.bool false))) o30) o30) fun v31 o31 =>
 bd (ret1 (pickS v20 (SV.v (.bool true)) v31) o31) fun v32 o32 =>
 condS v32 (bd (ret1 (loadS tab o32 31 v1) o32) fun v33 o33 =>
 bd (storeO tab o33 31 v3 (some v33)) fun v34 o34 =>
 retV tab nl o34 (resC1 (loadS tab o34 31 v3) (resC1 (some (SV.v (.bool false))) (some []))))
 (bd (ret1 (fieldAddrS tab 31 v1 1) o32) fun v35 o35 =>
 bd (storeO tab o35 4 v35 (some (SV.v (.bool true)))) fun v36 o36 =>
 bd (ret1 (fieldAddrS tab 46 v2 0) o36) fun v37 o37 =>
 bd (ret1 (loadS tab o37 29 v37) o37) fun v38 o38 =>
 bd (callS ⟨tab, ownF, K⟩ o38 100 [v38]) fun v39 o39 =>
 bd (ret1 (fieldAddrS tab 31 v1 2) o39) fun v40 o40 =>
 bd (storeO tab o40 29 v40 (some v39)) fun v41 o41 =>
 bd (ret1 (loadS tab o41 31 v1) o41) fun v42 o42 =>
 bd (storeO tab o42 31 v3 (some v42)) fun v43 o43 =>
 retV tab nl o43 (resC1 (loadS tab o43 31 v3) (resC1 (some (SV.v (.bool true))) (some []))))
noncomputable def X72 (K : Nat → List SV → List SO → Out) (N nl : Nat) (x0 : SV) (os : List SO) : Out := exec (cx K) N nl fi72 c72 [(0, x0)] os (kEnd tab nl rs72)
noncomputable def B72 (K : Nat → List SV → List SO → Out) (N nl : Nat) (x0 : SV) (os : List SO) : Out :=
 bd (boxS tab os 31 (some x0)) fun v1 o1 =>
 bd (allocS tab o1 31) fun v2 o2 =>
 bd (ret1 (fieldAddrS tab 31 v1 0) o2) fun v3 o3 =>
 bd (ret1 (loadS tab o3 25 v3) o3) fun v4 o4 =>
 dchk (keepOk ⟨tab, ownF, K⟩ o4 (SV.fn 51 []) [v4] [] true) <|
 bd (callS ⟨tab, ownF, K⟩ o4 51 [v4]) fun v5 o5 =>
 bd (ret1 (fieldAddrS tab 31 v1 1) o5) fun v6 o6 =>
 dchk (isBox v6) <|
 bd (ret1 (loadS tab o6 4 v6) o6) fun v7 o7 =>
 bd (ret1 (fieldAddrS tab 31 v1 2) o7) fun v8 o8 =>
 dchk (isBox v8) <|
 bd (ret1 (loadS tab o8 29 v8) o8) fun v9 o9 =>
 dchk (keepOk ⟨tab, ownF, K⟩ o9 (SV.fn 100 []) [v9] [v6] false) <|
 bd (callS ⟨tab, ownF, K⟩ o9 100 [v9]) fun v10 o10 =>
 bd (buildS tab o10 31 [(0, (some v5)), (1, (some v7)), (2, (some v10))]) fun v11 o11 =>
 bd (storeO tab o11 31 v2 (some v11)) fun v12 o12 =>
 retV tab nl o12 (resC1 (loadS tab o12 31 v2) (some []))
noncomputable def X73 (K : Nat → List SV → List SO → Out) (N nl : Nat) (x0 : SV) (os : List SO) : Out := exec (cx K) N nl fi73 c73 [(0, x0)] os (kEnd tab nl rs73)
noncomputable def B73 (K : Nat → List SV → List SO → Out) (N nl : Nat) (x0 : SV) (os : List SO) : Out :=
 bd (boxS tab os 31 (some x0)) fun v1 o1 =>
 bd (allocS tab o1 31) fun v2 o2 =>
 bd (ret1 (fieldAddrS tab 31 v1 0) o2) fun v3 o3 =>
 bd (ret1 (loadS tab o3 25 v3) o3) fun v4 o4 =>
 dchk (keepOk ⟨tab, ownF, K⟩ o4 (SV.fn 52 []) [v4] [] true) <|
 bd (callS ⟨tab, ownF, K⟩ o4 52 [v4]) fun v5 o5 =>
 bd (ret1 (fieldAddrS tab 31 v1 1) o5) fun v6 o6 =>
 dchk (isBox v6) <|
 bd (ret1 (loadS tab o6 4 v6) o6) fun v7 o7 =>
 bd (ret1 (fieldAddrS tab 31 v1 2) o7) fun v8 o8 =>
 dchk (isBox v8) <|
 bd (ret1 (loadS tab o8 29 v8) o8) fun v9 o9 =>
 dchk (keepOk ⟨tab, ownF, K⟩ o9 (SV.fn 74 []) [v9] [v6] false) <|
 bd (callS ⟨tab, ownF, K⟩ o9 74 [v9]) fun v10 o10 =>
 bd (buildS tab o10 31 [(0, (some v5)), (1, (some v7)), (2, (some v10))]) fun v11 o11 =>
 bd (storeO tab o11 31 v2 (some v11)) fun v12 o12 =>
 retV tab nl o12 (resC1 (loadS tab o12 31 v2) (some []))
noncomputable def X74 (K : Nat → List SV → List SO → Out) (N nl : Nat) (x0 : SV) (os : List SO) : Out := exec (cx K) N nl fi74 c74 [(0, x0)] os (kEnd tab nl rs74)
noncomputable def B74 (K : Nat → List SV → List SO → Out) (N nl : Nat) (x0 : SV) (os : List SO) : Out :=
 bd (boxS tab os 29 (some x0)) fun v1 o1 =>
 bd (allocS tab o1 29) fun v2 o2 =>
 bd (ret1 (fieldAddrS tab 29 v1 0) o2) fun v3 o3 =>
 dchk (isBox v3) <|
 bd (ret1 (loadS tab o3 3 v3) o3) fun v4 o4 =>
 bd (ret1 (fieldAddrS tab 29 v1 1) o4) fun v5 o5 =>
 dchk (isBox v5) <|
 bd (ret1 (loadS tab o5 3 v5) o5) fun v6 o6 =>
 bd (ret1 (fieldAddrS tab 29 v1 2) o6) fun v7 o7 =>
 bd (ret1 (loadS tab o7 27 v7) o7) fun v8 o8 =>
 dchk (keepOk ⟨tab, ownF, K⟩ o8 (SV.fn 101 []) [v8] [v3, v5] false) <|
 bd (callS ⟨tab, ownF, K⟩ o8 101 [v8]) fun v9 o9 =>
 bd (buildS tab o9 29 [(0, (some v4)), (1, (some v6)), (2, (some v9))]) fun v10 o10 =>
 bd (storeO tab o10 29 v2 (some v10)) fun v11 o11 =>
 retV tab nl o11 (resC1 (loadS tab o11 29 v2) (some []))
noncomputable def bk75_4 (K : Nat → List SV → List SO → Out) (N nl : Nat) (m4 : Nat) : Env → List SO → Out := fun env os => loopS nl (fi75.lp 4) (fun env os nx => exec (cx K) N nl fi75 (subC c75 [1, 1, 0, 1, 0, 0]) env os (kLoop nx (kBlock 0 (kSeq (exec (cx K) N nl fi75 (subC c75 [1, 1, 1])) (fi75.jn 11) (kEnd tab nl rs75))))) m4 (killS (fi75.lp 4).alive env) os
noncomputable def L75_4 (K : Nat → List SV → List SO → Out) (N nl : Nat) (m4 : Nat) (x1 x3 : SV) (os : List SO) : Out := loopS nl (fi75.lp 4) (fun env os nx => exec (cx K) N nl fi75 (subC c75 [1, 1, 0, 1, 0, 0]) env os (kLoop nx (kBlock 0 (kSeq (exec (cx K) N nl fi75 (subC c75 [1, 1, 1])) (fi75.jn 11) (kEnd tab nl rs75))))) m4 [(1, x1), (3, x3)] os
noncomputable def G75_4 (K : Nat → List SV → List SO → Out) (N nl : Nat) (m4 : Nat) (xs : List SV) (os : List SO) : Out := (fun env os nx => exec (cx K) N nl fi75 (subC c75 [1, 1, 0, 1, 0, 0]) env os (kLoop nx (kBlock 0 (kSeq (exec (cx K) N nl fi75 (subC c75 [1, 1, 1])) (fi75.jn 11) (kEnd tab nl rs75))))) (zipE [1, 3] xs) os (bk75_4 K N nl m4)
noncomputable def GB75_4 (K : Nat → List SV → List SO → Out) (N nl : Nat) (m4 : Nat) (x1 x3 : SV) (os : List SO) : Out :=
 bd (ret1 (fieldAddrS tab 29 x1 2) os) fun v16 o16 =>
 bd (ret1 (loadS tab o16 27 v16) o16) fun v17 o17 =>
 bd (lenO tab 27 o17 v17) fun v18 o18 =>
 bd (ret1 (binS tab .lss 3 x3 v18) o18) fun v19 o19 =>
 condS v19 (bd (ret1 (fieldAddrS tab 29 x1 2) o19) fun v20 o20 =>
 bd (ret1 (loadS tab o20 27 v20) o20) fun v21 o21 =>
 bd (ret1 (indexAddrS tab o21 27 v21 x3) o21) fun v22 o22 =>
 bd (ret1 (loadS tab o22 112 v22) o22) fun v23 o23 =>
 bd (allocS tab o23 112) fun v24 o24 =>
 bd (storeO tab o24 112 v24 (some v23)) fun v25 o25 =>
 bd (ret1 (fieldAddrS tab 112 v24 0) o25) fun v26 o26 =>
 bd (ret1 (loadS tab o26 3 v26) o26) fun v27 o27 =>
 bd (callS ⟨tab, ownF, K⟩ o27 70 [v27, (SV.v (.int .i64 1)), (SV.v (.int .i64 4))]) fun v28 o28 =>
 bd (ret1 (unS .not v28) o28) fun v29 o29 =>
 bd (gd v29 false (ret1 (fieldAddrS tab 112 v24 1) o29) o29) fun v30 o30 =>
 bd (gd v29 false (ret1 (loadS tab o30 3 v30) o30) o30) fun v31 o31 =>
 bd (gd v29 false (callS ⟨tab, ownF, K⟩ o31 70 [v31, (SV.v (.int .i64 1)), (SV.v (.int .i64 5))]) o31) fun v32 o32 =>
 bd (gd v29 false (ret1 (unS .not v32) o32) o32) fun v33 o33 =>
 bd (ret1 (pickS v29 (SV.v (.bool true)) v33) o33) fun v34 o34 =>
 bd (gd v34 false (ret1 (fieldAddrS tab 112 v24 2) o34) o34) fun v35 o35 =>
 bd (gd v34 false (ret1 (loadS tab o35 3 v35) o35) o35) fun v36 o36 =>
 bd (gd v34 false (callS ⟨tab, ownF, K⟩ o36 70 [v36, (SV.v (.int .i64 0)), (SV.v (.int .i64 9972))]) o36) fun v37 o37 =>
 bd (gd v34 false (ret1 (unS .not v37) o37) o37) fun v38 o38 =>
 bd (ret1 (pickS v34 (SV.v (.bool true)) v38) o38) fun v39 o39 =>
 condS v39 (retV tab nl o39 (resC1 (some (SV.v (.bool false))) (some [])))
 (bd (ret1 (binS tab .gtr 3 x3 (SV.v (.int .i64 0))) o39) fun v40 o40 =>
 bd (gd v40 true (ret1 (fieldAddrS tab 29 x1 2) o40) o40) fun v41 o41 =>
 bd (gd v40 true (ret1 (loadS tab o41 27 v41) o41) o41) fun v42 o42 =>
 bd (gd v40 true (some (x3, o42)) o42) fun v43 o43 =>
 bd (gd v40 true (ret1 (binS tab .sub 3 v43 (SV.v (.int .i64 1))) o43) o43) fun v44 o44 =>
 bd (gd v40 true (ret1 (indexAddrS tab o44 27 v42 v44) o44) o44) fun v45 o45 =>
 bd (gd v40 true (ret1 (fieldAddrS tab 112 v45 0) o45) o45) fun v46 o46 =>
 bd (gd v40 true (ret1 (loadS tab o46 3 v46) o46) o46) fun v47 o47 =>
 bd (gd v40 true (ret1 (fieldAddrS tab 29 x1 2) o47) o47) fun v48 o48 =>
 bd (gd v40 true (ret1 (loadS tab o48 27 v48) o48) o48) fun v49 o49 =>
 bd (gd v40 true (some (x3, o49)) o49) fun v50 o50 =>
 bd (gd v40 true (ret1 (binS tab .sub 3 v50 (SV.v (.int .i64 1))) o50) o50) fun v51 o51 =>
 bd (gd v40 true (ret1 (indexAddrS tab o51 27 v49 v51) o51) o51) fun v52 o52 =>
 bd (gd v40 true (ret1 (fieldAddrS tab 112 v52 1) o52) o52) fun v53 o53 =>
 bd (gd v40 true (ret1 (loadS tab o53 3 v53) o53) o53) fun v54 o54 =>
 bd (gd v40 true (ret1 (fieldAddrS tab 112 v24 0) o54) o54) fun v55 o55 =>
 bd (gd v40 true (ret1 (loadS tab o55 3 v55) o55) o55) fun v56 o56 =>
 bd (gd v40 true (ret1 (fieldAddrS tab 112 v24 1) o56) o56) fun v57 o57 =>
 bd (gd v40 true (ret1 (loadS tab o57 3 v57) o57) o57) fun v58 o58 =>
 bd (gd v40 true (callS ⟨tab, ownF, K⟩ o58 102 [v47, v54, v56, v58]) o58) fun v59 o59 =>
 bd (gd v40 true (ret1 (unS .not v59) o59) o59) fun v60 o60 =>
 bd (ret1 (pickS v40 v60 (SV.v (.bool false))) o60) fun v61 o61 =>
 condS v61 (retV tab nl o61 (resC1 (some (SV.v (.bool false))) (some [])))
 (bd (ret1 (binS tab .add 3 x3 (SV.v (.int .i64 1))) o61) fun v62 o62 =>
 L75_4 K N nl m4 x1 v62 o62)))
 (retV tab nl o19 (resC1 (some (SV.v (.bool true))) (some [])))
noncomputable def X75 (K : Nat → List SV → List SO → Out) (N nl : Nat) (x0 : SV) (os : List SO) : Out := exec (cx K) N nl fi75 c75 [(0, x0)] os (kEnd tab nl rs75)
noncomputable def B75 (K : Nat → List SV → List SO → Out) (N nl : Nat) (x0 : SV) (os : List SO) : Out :=
 bd (boxS tab os 29 (some x0)) fun v1 o1 =>
 bd (ret1 (fieldAddrS tab 29 v1 0) o1) fun v2 o2 =>
 bd (ret1 (loadS tab o2 3 v2) o2) fun v3 o3 =>
 bd (callS ⟨tab, ownF, K⟩ o3 70 [v3, (SV.v (.int .i64 1)), (SV.v (.int .i64 30))]) fun v4 o4 =>
 bd (ret1 (unS .not v4) o4) fun v5 o5 =>
 bd (gd v5 false (ret1 (fieldAddrS tab 29 v1 1) o5) o5) fun v6 o6 =>
 bd (gd v5 false (ret1 (loadS tab o6 3 v6) o6) o6) fun v7 o7 =>
 bd (gd v5 false (callS ⟨tab, ownF, K⟩ o7 70 [v7, (SV.v (.int .i64 0)), (SV.v (.int .i64 60))]) o7) fun v8 o8 =>
 bd (gd v5 false (ret1 (unS .not v8) o8) o8) fun v9 o9 =>
 bd (ret1 (pickS v5 (SV.v (.bool true)) v9) o9) fun v10 o10 =>
 bd (gd v10 false (ret1 (fieldAddrS tab 29 v1 2) o10) o10) fun v11 o11 =>
 bd (gd v10 false (ret1 (loadS tab o11 27 v11) o11) o11) fun v12 o12 =>
 bd (gd v10 false (lenO tab 27 o12 v12) o12) fun v13 o13 =>
 bd (gd v10 false (ret1 (binS tab .gtr 3 v13 (SV.v (.int .i64 8))) o13) o13) fun v14 o14 =>
 bd (ret1 (pickS v10 (SV.v (.bool true)) v14) o14) fun v15 o15 =>
 condS v15 (retV tab nl o15 (resC1 (some (SV.v (.bool false))) (some [])))
 (L75_4 K N nl N v1 (SV.v (.int .i64 0)) o15)
noncomputable def bk76_2 (K : Nat → List SV → List SO → Out) (N nl : Nat) (m2 : Nat) : Env → List SO → Out := fun env os => loopS nl (fi76.lp 2) (fun env os nx => exec (cx K) N nl fi76 (subC c76 [1, 0, 1, 0, 0]) env os (kLoop nx (kBlock 0 (kSeq (exec (cx K) N nl fi76 (subC c76 [1, 1])) (fi76.jn 7) (kEnd tab nl rs76))))) m2 (killS (fi76.lp 2).alive env) os
noncomputable def L76_2 (K : Nat → List SV → List SO → Out) (N nl : Nat) (m2 : Nat) (x0 x5 x6 x7 : SV) (os : List SO) : Out := loopS nl (fi76.lp 2) (fun env os nx => exec (cx K) N nl fi76 (subC c76 [1, 0, 1, 0, 0]) env os (kLoop nx (kBlock 0 (kSeq (exec (cx K) N nl fi76 (subC c76 [1, 1])) (fi76.jn 7) (kEnd tab nl rs76))))) m2 [(0, x0), (5, x5), (6, x6), (7, x7)] os
noncomputable def LB76_2 (K : Nat → List SV → List SO → Out) (N nl : Nat) (m2 : Nat) (x0 x5 x6 x7 : SV) (os : List SO) : Out :=
 bd (ret1 (binS tab .lss 3 x7 x6) os) fun v2 o2 =>
 condS v2 (bd (ret1 (indexAddrS tab o2 23 x5 x7) o2) fun v3 o3 =>
 bd (ret1 (loadS tab o3 3 v3) o3) fun v4 o4 =>
 bd (callS ⟨tab, ownF, K⟩ o4 56 [v4, (SV.v (.int .i64 1)), (SV.v (.int .i64 6))]) fun v5 o5 =>
 bd (ret1 (unS .not v5) o5) fun v6 o6 =>
 bd (gd v6 false (some (x7, o6)) o6) fun v7 o7 =>
 bd (gd v6 false (ret1 (binS tab .gtr 3 v7 (SV.v (.int .i64 0))) o7) o7) fun v8 o8 =>
 bd (gd v6 false (some (v8, o8)) o8) fun v9 o9 =>
 bd (gd v9 true (some (v4, o9)) o9) fun v10 o10 =>
 bd (gd v9 true (some (x0, o10)) o10) fun v11 o11 =>
 bd (gd v9 true (some (x7, o11)) o11) fun v12 o12 =>
 bd (gd v9 true (ret1 (binS tab .sub 3 v12 (SV.v (.int .i64 1))) o12) o12) fun v13 o13 =>
 bd (gd v9 true (ret1 (indexAddrS tab o13 23 v11 v13) o13) o13) fun v14 o14 =>
 bd (gd v9 true (ret1 (loadS tab o14 3 v14) o14) o14) fun v15 o15 =>
 bd (gd v9 true (ret1 (binS tab .leq 3 v10 v15) o15) o15) fun v16 o16 =>
 bd (gd v6 false (ret1 (pickS v9 v16 (SV.v (.bool false))) o16) o16) fun v17 o17 =>
 bd (ret1 (pickS v6 (SV.v (.bool true)) v17) o17) fun v18 o18 =>
 condS v18 (retV tab nl o18 (resC1 (some (SV.v (.bool false))) (some [])))
 (bd (ret1 (binS tab .add 3 x7 (SV.v (.int .i64 1))) o18) fun v19 o19 =>
 L76_2 K N nl m2 x0 x5 x6 v19 o19))
 (retV tab nl o2 (resC1 (some (SV.v (.bool true))) (some [])))
noncomputable def X76 (K : Nat → List SV → List SO → Out) (N nl : Nat) (x0 : SV) (os : List SO) : Out := exec (cx K) N nl fi76 c76 [(0, x0)] os (kEnd tab nl rs76)
noncomputable def B76 (K : Nat → List SV → List SO → Out) (N nl : Nat) (x0 : SV) (os : List SO) : Out :=
 bd (lenO tab 23 os x0) fun v1 o1 =>
 L76_2 K N nl N x0 x0 v1 (SV.v (.int .i64 0)) o1
noncomputable def bk77_5 (K : Nat → List SV → List SO → Out) (N nl : Nat) (m5 : Nat) : Env → List SO → Out := fun env os => loopS nl (fi77.lp 5) (fun env os nx => exec (cx K) N nl fi77 (subC c77 [1, 1, 1, 0, 1, 0, 0]) env os (kLoop nx (kBlock 0 (kSeq (exec (cx K) N nl fi77 (subC c77 [1, 1, 1, 1])) (fi77.jn 10) (kEnd tab nl rs77))))) m5 (killS (fi77.lp 5).alive env) os
noncomputable def L77_5 (K : Nat → List SV → List SO → Out) (N nl : Nat) (m5 : Nat) (x1 x5 x16 x17 x18 : SV) (os : List SO) : Out := loopS nl (fi77.lp 5) (fun env os nx => exec (cx K) N nl fi77 (subC c77 [1, 1, 1, 0, 1, 0, 0]) env os (kLoop nx (kBlock 0 (kSeq (exec (cx K) N nl fi77 (subC c77 [1, 1, 1, 1])) (fi77.jn 10) (kEnd tab nl rs77))))) m5 [(1, x1), (5, x5), (16, x16), (17, x17), (18, x18)] os
noncomputable def J77_9 (K : Nat → List SV → List SO → Out) (N nl : Nat) (m5 : Nat) (x1 x5 x16 x17 x18 : SV) (os : List SO) : Out := exec (cx K) N nl fi77 (subC c77 [1, 1, 1, 0, 1, 0, 0, 1, 1, 1]) [(1, x1), (5, x5), (16, x16), (17, x17), (18, x18)] os (kLoop (bk77_5 K N nl m5) (kBlock 0 (kSeq (exec (cx K) N nl fi77 (subC c77 [1, 1, 1, 1])) (fi77.jn 10) (kEnd tab nl rs77))))
noncomputable def LB77_5 (K : Nat → List SV → List SO → Out) (N nl : Nat) (m5 : Nat) (x1 x5 x16 x17 x18 : SV) (os : List SO) : Out :=
 bd (ret1 (binS tab .lss 3 x18 x17) os) fun v8 o8 =>
 condS v8 (bd (ret1 (indexAddrS tab o8 23 x16 x18) o8) fun v9 o9 =>
 bd (ret1 (loadS tab o9 3 v9) o9) fun v10 o10 =>
 bd (callS ⟨tab, ownF, K⟩ o10 103 [x1, v10]) fun v11 o11 =>
 condS v11 (bd (ret1 (binS tab .add 3 x5 (SV.v (.int .i64 1))) o11) fun v12 o12 =>
 J77_9 K N nl m5 x1 v12 x16 x17 x18 o12)
 (J77_9 K N nl m5 x1 x5 x16 x17 x18 o11))
 (retV tab nl o8 (resC1 (some x5) (some [])))
noncomputable def JB77_9 (K : Nat → List SV → List SO → Out) (N nl : Nat) (m5 : Nat) (x1 x5 x16 x17 x18 : SV) (os : List SO) : Out :=
 bd (ret1 (binS tab .add 3 x18 (SV.v (.int .i64 1))) os) fun v13 o13 =>
 L77_5 K N nl m5 x1 x5 x16 x17 v13 o13
noncomputable def X77 (K : Nat → List SV → List SO → Out) (N nl : Nat) (x0 x1 : SV) (os : List SO) : Out := exec (cx K) N nl fi77 c77 [(0, x0), (1, x1)] os (kEnd tab nl rs77)
noncomputable def B77 (K : Nat → List SV → List SO → Out) (N nl : Nat) (x0 x1 : SV) (os : List SO) : Out :=
 bd (callS ⟨tab, ownF, K⟩ os 76 [x0]) fun v1 o1 =>
 bd (ret1 (unS .not v1) o1) fun v2 o2 =>
 bd (gd v2 false (some (x1, o2)) o2) fun v3 o3 =>
 bd (gd v2 false (callS ⟨tab, ownF, K⟩ o3 76 [v3]) o3) fun v4 o4 =>
 bd (gd v2 false (ret1 (unS .not v4) o4) o4) fun v5 o5 =>
 bd (ret1 (pickS v2 (SV.v (.bool true)) v5) o5) fun v6 o6 =>
 condS v6 (retV tab nl o6 (resC1 (some (SV.v (.int .i64 (-1)))) (some [])))
 (bd (lenO tab 23 o6 x0) fun v7 o7 =>
 L77_5 K N nl N x1 (SV.v (.int .i64 0)) x0 v7 (SV.v (.int .i64 0)) o7)
noncomputable def bk78_4 (K : Nat → List SV → List SO → Out) (N nl : Nat) (m4 : Nat) : Env → List SO → Out := fun env os => loopS nl (fi78.lp 4) (fun env os nx => exec (cx K) N nl fi78 (subC c78 [1, 1, 0, 1, 0, 0]) env os (kLoop nx (kBlock 0 (kSeq (exec (cx K) N nl fi78 (subC c78 [1, 1, 1])) (fi78.jn 8) (kEnd tab nl rs78))))) m4 (killS (fi78.lp 4).alive env) os
noncomputable def L78_4 (K : Nat → List SV → List SO → Out) (N nl : Nat) (m4 : Nat) (x0 x1 x5 : SV) (os : List SO) : Out := loopS nl (fi78.lp 4) (fun env os nx => exec (cx K) N nl fi78 (subC c78 [1, 1, 0, 1, 0, 0]) env os (kLoop nx (kBlock 0 (kSeq (exec (cx K) N nl fi78 (subC c78 [1, 1, 1])) (fi78.jn 8) (kEnd tab nl rs78))))) m4 [(0, x0), (1, x1), (5, x5)] os
noncomputable def LB78_4 (K : Nat → List SV → List SO → Out) (N nl : Nat) (m4 : Nat) (x0 x1 x5 : SV) (os : List SO) : Out :=
 bd (lenO tab 27 os x0) fun v4 o4 =>
 bd (ret1 (binS tab .lss 3 x5 v4) o4) fun v5 o5 =>
 condS v5 (bd (ret1 (indexAddrS tab o5 27 x0 x5) o5) fun v6 o6 =>
 bd (ret1 (loadS tab o6 112 v6) o6) fun v7 o7 =>
 bd (ret1 (indexAddrS tab o7 27 x1 x5) o7) fun v8 o8 =>
 bd (ret1 (loadS tab o8 112 v8) o8) fun v9 o9 =>
 bd (ret1 (binS tab .neq 112 v7 v9) o9) fun v10 o10 =>
 condS v10 (retV tab nl o10 (resC1 (some (SV.v (.bool false))) (some [])))
 (bd (ret1 (binS tab .add 3 x5 (SV.v (.int .i64 1))) o10) fun v11 o11 =>
 L78_4 K N nl m4 x0 x1 v11 o11))
 (retV tab nl o5 (resC1 (some (SV.v (.bool true))) (some [])))
noncomputable def X78 (K : Nat → List SV → List SO → Out) (N nl : Nat) (x0 x1 : SV) (os : List SO) : Out := exec (cx K) N nl fi78 c78 [(0, x0), (1, x1)] os (kEnd tab nl rs78)
noncomputable def B78 (K : Nat → List SV → List SO → Out) (N nl : Nat) (x0 x1 : SV) (os : List SO) : Out :=
 bd (lenO tab 27 os x0) fun v1 o1 =>
 bd (lenO tab 27 o1 x1) fun v2 o2 =>
 bd (ret1 (binS tab .neq 3 v1 v2) o2) fun v3 o3 =>
 condS v3 (retV tab nl o3 (resC1 (some (SV.v (.bool false))) (some [])))
 (L78_4 K N nl N x0 x1 (SV.v (.int .i64 0)) o3)
noncomputable def bk79_3 (K : Nat → List SV → List SO → Out) (N nl : Nat) (m3 : Nat) : Env → List SO → Out := fun env os => loopS nl (fi79.lp 3) (fun env os nx => exec (cx K) N nl fi79 (subC c79 [1, 1, 0, 1, 0, 0]) env os (kLoop nx (kBlock 0 (kSeq (exec (cx K) N nl fi79 (subC c79 [1, 1, 1])) (fi79.jn 7) (kEnd tab nl rs79))))) m3 (killS (fi79.lp 3).alive env) os
noncomputable def L79_3 (K : Nat → List SV → List SO → Out) (N nl : Nat) (m3 : Nat) (x0 x1 x5 x6 : SV) (os : List SO) : Out := loopS nl (fi79.lp 3) (fun env os nx => exec (cx K) N nl fi79 (subC c79 [1, 1, 0, 1, 0, 0]) env os (kLoop nx (kBlock 0 (kSeq (exec (cx K) N nl fi79 (subC c79 [1, 1, 1])) (fi79.jn 7) (kEnd tab nl rs79))))) m3 [(0, x0), (1, x1), (5, x5), (6, x6)] os
noncomputable def G79_3 (K : Nat → List SV → List SO → Out) (N nl : Nat) (m3 : Nat) (xs : List SV) (os : List SO) : Out := (fun env os nx => exec (cx K) N nl fi79 (subC c79 [1, 1, 0, 1, 0, 0]) env os (kLoop nx (kBlock 0 (kSeq (exec (cx K) N nl fi79 (subC c79 [1, 1, 1])) (fi79.jn 7) (kEnd tab nl rs79))))) (zipE [0, 1, 5, 6] xs) os (bk79_3 K N nl m3)
noncomputable def J79_4 (K : Nat → List SV → List SO → Out) (N nl : Nat) (m3 : Nat) (x0 x1 x5 x6 : SV) (os : List SO) : Out := exec (cx K) N nl fi79 (subC c79 [1, 1, 0, 1, 0, 0, 1, 1]) [(0, x0), (1, x1), (5, x5), (6, x6)] os (kLoop (bk79_3 K N nl m3) (kBlock 0 (kSeq (exec (cx K) N nl fi79 (subC c79 [1, 1, 1])) (fi79.jn 7) (kEnd tab nl rs79))))
noncomputable def GB79_3 (K : Nat → List SV → List SO → Out) (N nl : Nat) (m3 : Nat) (x0 x1 x5 x6 : SV) (os : List SO) : Out :=
 bd (ret1 (binS tab .leq 3 x6 (SV.v (.int .i64 6))) os) fun v3 o3 =>
 condS v3 (bd (buildSliceS tab o3 23 1 [(0, x6)]) fun v4 o4 =>
 bd (callS ⟨tab, ownF, K⟩ o4 104 [x0, v4]) fun v5 o5 =>
 bd (buildSliceS tab o5 23 1 [(0, x6)]) fun v6 o6 =>
 bd (callS ⟨tab, ownF, K⟩ o6 104 [x1, v6]) fun v7 o7 =>
 bd (ret1 (binS tab .add 3 v5 v7) o7) fun v8 o8 =>
 bd (ret1 (binS tab .gtr 3 v8 (SV.v (.int .i64 0))) o8) fun v9 o9 =>
 condS v9 (bd (buildSliceS tab o9 23 1 [(0, x6)]) fun v10 o10 =>
 bd (appendS tab o10 23 23 x5 v10) fun v11 o11 =>
 J79_4 K N nl m3 x0 x1 v11 x6 o11)
 (J79_4 K N nl m3 x0 x1 x5 x6 o9))
 (retV tab nl o3 (resC1 (some x5) (some [])))
noncomputable def JB79_4 (K : Nat → List SV → List SO → Out) (N nl : Nat) (m3 : Nat) (x0 x1 x5 x6 : SV) (os : List SO) : Out :=
 bd (ret1 (binS tab .add 3 x6 (SV.v (.int .i64 1))) os) fun v12 o12 =>
 L79_3 K N nl m3 x0 x1 x5 v12 o12
noncomputable def X79 (K : Nat → List SV → List SO → Out) (N nl : Nat) (x0 x1 : SV) (os : List SO) : Out := exec (cx K) N nl fi79 c79 [(0, x0), (1, x1)] os (kEnd tab nl rs79)
noncomputable def B79 (K : Nat → List SV → List SO → Out) (N nl : Nat) (x0 x1 : SV) (os : List SO) : Out :=
 bd (evN tab 23 os none) fun v1 o1 =>
 bd (buildSliceS tab o1 23 0 []) fun v2 o2 =>
 L79_3 K N nl N x0 x1 v2 (SV.v (.int .i64 1)) o2
noncomputable def X80 (K : Nat → List SV → List SO → Out) (N nl : Nat) (x0 x1 : SV) (os : List SO) : Out := exec (cx K) N nl fi80 c80 [(0, x0), (1, x1)] os (kEnd tab nl rs80)
noncomputable def B80 (K : Nat → List SV → List SO → Out) (N nl : Nat) (x0 x1 : SV) (os : List SO) : Out :=
 bd (boxS tab os 31 (some x0)) fun v1 o1 =>
 bd (boxS tab o1 53 (some x1)) fun v2 o2 =>
 bd (allocS tab o2 31) fun v3 o3 =>
 bd (ret1 (fieldAddrS tab 31 v1 0) o3) fun v4 o4 =>
 bd (ret1 (loadS tab o4 25 v4) o4) fun v5 o5 =>
 bd (ret1 (loadS tab o5 53 v2) o5) fun v6 o6 =>
 bd (callS ⟨tab, ownF, K⟩ o6 105 [v5, v6]) fun v7 o7 =>
 bd (ret1 (unS .not v7) o7) fun v8 o8 =>
 condS v8 (bd (ret1 (loadS tab o8 31 v1) o8) fun v9 o9 =>
 bd (storeO tab o9 31 v3 (some v9)) fun v10 o10 =>
 retV tab nl o10 (resC1 (loadS tab o10 31 v3) (resC1 (some (SV.v (.bool false))) (some []))))
 (bd (ret1 (fieldAddrS tab 53 v2 0) o8) fun v11 o11 =>
 bd (ret1 (loadS tab o11 25 v11) o11) fun v12 o12 =>
 bd (callS ⟨tab, ownF, K⟩ o12 51 [v12]) fun v13 o13 =>
 bd (ret1 (fieldAddrS tab 31 v1 0) o13) fun v14 o14 =>
 bd (storeO tab o14 25 v14 (some v13)) fun v15 o15 =>
 bd (ret1 (loadS tab o15 31 v1) o15) fun v16 o16 =>
 bd (storeO tab o16 31 v3 (some v16)) fun v17 o17 =>
 retV tab nl o17 (resC1 (loadS tab o17 31 v3) (resC1 (some (SV.v (.bool true))) (some []))))
noncomputable def X81 (K : Nat → List SV → List SO → Out) (N nl : Nat) (x0 x1 : SV) (os : List SO) : Out := exec (cx K) N nl fi81 c81 [(0, x0), (1, x1)] os (kEnd tab nl rs81)
noncomputable def B81 (K : Nat → List SV → List SO → Out) (N nl : Nat) (x0 x1 : SV) (os : List SO) : Out :=
 bd (boxS tab os 62 (some x0)) fun v1 o1 =>
 bd (ret1 (fieldAddrS tab 62 v1 2) o1) fun v2 o2 =>
 bd (ret1 (loadS tab o2 60 v2) o2) fun v3 o3 =>
 bd (callS ⟨tab, ownF, K⟩ o3 106 [v3, x1]) fun v4 o4 =>
 bd (ret1 (binS tab .lss 3 v4 (SV.v (.int .i64 0))) o4) fun v5 o5 =>
 condS v5 (retV tab nl o5 (resC1 (some (SV.v (.int .i64 (-1)))) (some [])))
 (retV tab nl o5 (resC1 (some v4) (some [])))
noncomputable def X82 (K : Nat → List SV → List SO → Out) (N nl : Nat) (x0 : SV) (os : List SO) : Out := exec (cx K) N nl fi82 c82 [(0, x0)] os (kEnd tab nl rs82)
noncomputable def B82 (K : Nat → List SV → List SO → Out) (N nl : Nat) (x0 : SV) (os : List SO) : Out :=
 bd (boxS tab os 62 (some x0)) fun v1 o1 =>
 bd (allocS tab o1 29) fun v2 o2 =>
 bd (allocS tab o2 29) fun v3 o3 =>
 bd (ret1 (fieldAddrS tab 62 v1 0) o3) fun v4 o4 =>
 bd (ret1 (loadS tab o4 3 v4) o4) fun v5 o5 =>
 bd (ret1 (fieldAddrS tab 29 v3 0) o5) fun v6 o6 =>
 bd (storeO tab o6 3 v6 (some v5)) fun v7 o7 =>
 bd (ret1 (fieldAddrS tab 62 v1 1) o7) fun v8 o8 =>
 bd (ret1 (loadS tab o8 3 v8) o8) fun v9 o9 =>
 bd (ret1 (fieldAddrS tab 29 v3 1) o9) fun v10 o10 =>
 bd (storeO tab o10 3 v10 (some v9)) fun v11 o11 =>
 bd (ret1 (fieldAddrS tab 62 v1 2) o11) fun v12 o12 =>
 bd (ret1 (loadS tab o12 60 v12) o12) fun v13 o13 =>
 bd (callS ⟨tab, ownF, K⟩ o13 107 [v13]) fun v14 o14 =>
 bd (ret1 (fieldAddrS tab 29 v3 2) o14) fun v15 o15 =>
 bd (storeO tab o15 27 v15 (some v14)) fun v16 o16 =>
 bd (ret1 (loadS tab o16 29 v3) o16) fun v17 o17 =>
 bd (storeO tab o17 29 v2 (some v17)) fun v18 o18 =>
 retV tab nl o18 (resC1 (loadS tab o18 29 v2) (some []))
noncomputable def bk83_2 (K : Nat → List SV → List SO → Out) (N nl : Nat) (m2 : Nat) : Env → List SO → Out := fun env os => loopS nl (fi83.lp 2) (fun env os nx => exec (cx K) N nl fi83 (subC c83 [1, 0, 1, 0, 0]) env os (kLoop nx (kBlock 0 (kSeq (exec (cx K) N nl fi83 (subC c83 [1, 1])) (fi83.jn 6) (kEnd tab nl rs83))))) m2 (killS (fi83.lp 2).alive env) os
noncomputable def L83_2 (K : Nat → List SV → List SO → Out) (N nl : Nat) (m2 : Nat) (x0 x3 : SV) (os : List SO) : Out := loopS nl (fi83.lp 2) (fun env os nx => exec (cx K) N nl fi83 (subC c83 [1, 0, 1, 0, 0]) env os (kLoop nx (kBlock 0 (kSeq (exec (cx K) N nl fi83 (subC c83 [1, 1])) (fi83.jn 6) (kEnd tab nl rs83))))) m2 [(0, x0), (3, x3)] os
noncomputable def LB83_2 (K : Nat → List SV → List SO → Out) (N nl : Nat) (m2 : Nat) (x0 x3 : SV) (os : List SO) : Out :=
 bd (lenO tab 23 os x0) fun v1 o1 =>
 bd (ret1 (binS tab .lss 3 x3 v1) o1) fun v2 o2 =>
 condS v2 (bd (ret1 (indexAddrS tab o2 23 x0 x3) o2) fun v3 o3 =>
 bd (ret1 (loadS tab o3 3 v3) o3) fun v4 o4 =>
 bd (callS ⟨tab, ownF, K⟩ o4 70 [v4, (SV.v (.int .i64 1)), (SV.v (.int .i64 6))]) fun v5 o5 =>
 bd (ret1 (unS .not v5) o5) fun v6 o6 =>
 bd (gd v6 false (some (x3, o6)) o6) fun v7 o7 =>
 bd (gd v6 false (ret1 (binS tab .gtr 3 v7 (SV.v (.int .i64 0))) o7) o7) fun v8 o8 =>
 bd (gd v6 false (some (v8, o8)) o8) fun v9 o9 =>
 bd (gd v9 true (some (x0, o9)) o9) fun v10 o10 =>
 bd (gd v9 true (some (x3, o10)) o10) fun v11 o11 =>
 bd (gd v9 true (ret1 (binS tab .sub 3 v11 (SV.v (.int .i64 1))) o11) o11) fun v12 o12 =>
 bd (gd v9 true (ret1 (indexAddrS tab o12 23 v10 v12) o12) o12) fun v13 o13 =>
 bd (gd v9 true (ret1 (loadS tab o13 3 v13) o13) o13) fun v14 o14 =>
 bd (gd v9 true (some (x0, o14)) o14) fun v15 o15 =>
 bd (gd v9 true (some (x3, o15)) o15) fun v16 o16 =>
 bd (gd v9 true (ret1 (indexAddrS tab o16 23 v15 v16) o16) o16) fun v17 o17 =>
 bd (gd v9 true (ret1 (loadS tab o17 3 v17) o17) o17) fun v18 o18 =>
 bd (gd v9 true (ret1 (binS tab .geq 3 v14 v18) o18) o18) fun v19 o19 =>
 bd (gd v6 false (ret1 (pickS v9 v19 (SV.v (.bool false))) o19) o19) fun v20 o20 =>
 bd (ret1 (pickS v6 (SV.v (.bool true)) v20) o20) fun v21 o21 =>
 condS v21 (retV tab nl o21 (resC1 (some (SV.v (.bool false))) (some [])))
 (bd (ret1 (binS tab .add 3 x3 (SV.v (.int .i64 1))) o21) fun v22 o22 =>
 L83_2 K N nl m2 x0 v22 o22))
 (retV tab nl o2 (resC1 (some (SV.v (.bool true))) (some [])))
noncomputable def X83 (K : Nat → List SV → List SO → Out) (N nl : Nat) (x0 : SV) (os : List SO) : Out := exec (cx K) N nl fi83 c83 [(0, x0)] os (kEnd tab nl rs83)
noncomputable def B83 (K : Nat → List SV → List SO → Out) (N nl : Nat) (x0 : SV) (os : List SO) : Out :=
 L83_2 K N nl N x0 (SV.v (.int .i64 0)) os
noncomputable def X85 (K : Nat → List SV → List SO → Out) (N nl : Nat) (x0 : SV) (os : List SO) : Out := exec (cx K) N nl fi85 c85 [(0, x0)] os (kEnd tab nl rs85)
noncomputable def B85 (K : Nat → List SV → List SO → Out) (N nl : Nat) (x0 : SV) (os : List SO) : Out :=
 bd (callS ⟨tab, ownF, K⟩ os 56 [x0, (SV.v (.int .i64 1)), (SV.v (.int .i64 4))]) fun v1 o1 =>
 retV tab nl o1 (resC1 (some v1) (some []))
noncomputable def X86 (K : Nat → List SV → List SO → Out) (N nl : Nat) (x0 : SV) (os : List SO) : Out := exec (cx K) N nl fi86 c86 [(0, x0)] os (kEnd tab nl rs86)
noncomputable def B86 (K : Nat → List SV → List SO → Out) (N nl : Nat) (x0 : SV) (os : List SO) : Out :=
 bd (callS ⟨tab, ownF, K⟩ os 56 [x0, (SV.v (.int .i64 1)), (SV.v (.int .i64 5))]) fun v1 o1 =>
 retV tab nl o1 (resC1 (some v1) (some []))
noncomputable def bk87_4 (K : Nat → List SV → List SO → Out) (N nl : Nat) (m4 : Nat) : Env → List SO → Out := fun env os => loopS nl (fi87.lp 4) (fun env os nx => exec (cx K) N nl fi87 (subC c87 [1, 1, 0, 1, 0, 0]) env os (kLoop nx (kBlock 0 (kSeq (exec (cx K) N nl fi87 (subC c87 [1, 1, 1])) (fi87.jn 9) (kEnd tab nl rs87))))) m4 (killS (fi87.lp 4).alive env) os
noncomputable def L87_4 (K : Nat → List SV → List SO → Out) (N nl : Nat) (m4 : Nat) (x0 x1 x12 x13 : SV) (os : List SO) : Out := loopS nl (fi87.lp 4) (fun env os nx => exec (cx K) N nl fi87 (subC c87 [1, 1, 0, 1, 0, 0]) env os (kLoop nx (kBlock 0 (kSeq (exec (cx K) N nl fi87 (subC c87 [1, 1, 1])) (fi87.jn 9) (kEnd tab nl rs87))))) m4 [(0, x0), (1, x1), (12, x12), (13, x13)] os
noncomputable def LB87_4 (K : Nat → List SV → List SO → Out) (N nl : Nat) (m4 : Nat) (x0 x1 x12 x13 : SV) (os : List SO) : Out :=
 bd (ret1 (binS tab .lss 3 x13 x12) os) fun v5 o5 =>
 condS v5 (bd (ret1 (indexAddrS tab o5 27 x0 x13) o5) fun v6 o6 =>
 bd (ret1 (loadS tab o6 112 v6) o6) fun v7 o7 =>
 bd (ret1 (indexAddrS tab o7 27 x1 x13) o7) fun v8 o8 =>
 bd (ret1 (loadS tab o8 112 v8) o8) fun v9 o9 =>
 bd (ret1 (binS tab .neq 112 v7 v9) o9) fun v10 o10 =>
 condS v10 (retV tab nl o10 (resC1 (some (SV.v (.bool false))) (some [])))
 (bd (ret1 (binS tab .add 3 x13 (SV.v (.int .i64 1))) o10) fun v11 o11 =>
 L87_4 K N nl m4 x0 x1 x12 v11 o11))
 (retV tab nl o5 (resC1 (some (SV.v (.bool true))) (some [])))
noncomputable def X87 (K : Nat → List SV → List SO → Out) (N nl : Nat) (x0 x1 : SV) (os : List SO) : Out := exec (cx K) N nl fi87 c87 [(0, x0), (1, x1)] os (kEnd tab nl rs87)
noncomputable def B87 (K : Nat → List SV → List SO → Out) (N nl : Nat) (x0 x1 : SV) (os : List SO) : Out :=
 bd (lenO tab 27 os x0) fun v1 o1 =>
 bd (lenO tab 27 o1 x1) fun v2 o2 =>
 bd (ret1 (binS tab .neq 3 v1 v2) o2) fun v3 o3 =>
 condS v3 (retV tab nl o3 (resC1 (some (SV.v (.bool false))) (some [])))
 (bd (lenO tab 27 o3 x0) fun v4 o4 =>
 L87_4 K N nl N x0 x1 v4 (SV.v (.int .i64 0)) o4)
noncomputable def bk88_4 (K : Nat → List SV → List SO → Out) (N nl : Nat) (m4 : Nat) : Env → List SO → Out := fun env os => loopS nl (fi88.lp 4) (fun env os nx => exec (cx K) N nl fi88 (subC c88 [1, 1, 0, 1, 0, 0]) env os (kLoop nx (kBlock 0 (kSeq (exec (cx K) N nl fi88 (subC c88 [1, 1, 1])) (fi88.jn 8) (kEnd tab nl rs88))))) m4 (killS (fi88.lp 4).alive env) os
noncomputable def L88_4 (K : Nat → List SV → List SO → Out) (N nl : Nat) (m4 : Nat) (x0 x1 x5 : SV) (os : List SO) : Out := loopS nl (fi88.lp 4) (fun env os nx => exec (cx K) N nl fi88 (subC c88 [1, 1, 0, 1, 0, 0]) env os (kLoop nx (kBlock 0 (kSeq (exec (cx K) N nl fi88 (subC c88 [1, 1, 1])) (fi88.jn 8) (kEnd tab nl rs88))))) m4 [(0, x0), (1, x1), (5, x5)] os
noncomputable def LB88_4 (K : Nat → List SV → List SO → Out) (N nl : Nat) (m4 : Nat) (x0 x1 x5 : SV) (os : List SO) : Out :=
 bd (lenO tab 27 os x0) fun v4 o4 =>
 bd (ret1 (binS tab .lss 3 x5 v4) o4) fun v5 o5 =>
 condS v5 (bd (ret1 (indexAddrS tab o5 27 x0 x5) o5) fun v6 o6 =>
 bd (ret1 (loadS tab o6 112 v6) o6) fun v7 o7 =>
 bd (ret1 (indexAddrS tab o7 27 x1 x5) o7) fun v8 o8 =>
 bd (ret1 (loadS tab o8 112 v8) o8) fun v9 o9 =>
 bd (callS ⟨tab, ownF, K⟩ o9 108 [v7, v9]) fun v10 o10 =>
 bd (ret1 (unS .not v10) o10) fun v11 o11 =>
 condS v11 (retV tab nl o11 (resC1 (some (SV.v (.bool false))) (some [])))
 (bd (ret1 (binS tab .add 3 x5 (SV.v (.int .i64 1))) o11) fun v12 o12 =>
 L88_4 K N nl m4 x0 x1 v12 o12))
 (retV tab nl o5 (resC1 (some (SV.v (.bool true))) (some [])))
noncomputable def X88 (K : Nat → List SV → List SO → Out) (N nl : Nat) (x0 x1 : SV) (os : List SO) : Out := exec (cx K) N nl fi88 c88 [(0, x0), (1, x1)] os (kEnd tab nl rs88)
noncomputable def B88 (K : Nat → List SV → List SO → Out) (N nl : Nat) (x0 x1 : SV) (os : List SO) : Out :=
 bd (lenO tab 27 os x0) fun v1 o1 =>
 bd (lenO tab 27 o1 x1) fun v2 o2 =>
 bd (ret1 (binS tab .neq 3 v1 v2) o2) fun v3 o3 =>
 condS v3 (retV tab nl o3 (resC1 (some (SV.v (.bool false))) (some [])))
 (L88_4 K N nl N x0 x1 (SV.v (.int .i64 0)) o3)
noncomputable def bk89_2 (K : Nat → List SV → List SO → Out) (N nl : Nat) (m2 : Nat) : Env → List SO → Out := fun env os => loopS nl (fi89.lp 2) (fun env os nx => exec (cx K) N nl fi89 (subC c89 [1, 0, 1, 0, 0]) env os (kLoop nx (kBlock 0 (kSeq (exec (cx K) N nl fi89 (subC c89 [1, 1])) (fi89.jn 10) (kEnd tab nl rs89))))) m2 (killS (fi89.lp 2).alive env) os
noncomputable def L89_2 (K : Nat → List SV → List SO → Out) (N nl : Nat) (m2 : Nat) (x0 x1 x5 : SV) (os : List SO) : Out := loopS nl (fi89.lp 2) (fun env os nx => exec (cx K) N nl fi89 (subC c89 [1, 0, 1, 0, 0]) env os (kLoop nx (kBlock 0 (kSeq (exec (cx K) N nl fi89 (subC c89 [1, 1])) (fi89.jn 10) (kEnd tab nl rs89))))) m2 [(0, x0), (1, x1), (5, x5)] os
noncomputable def LB89_2 (K : Nat → List SV → List SO → Out) (N nl : Nat) (m2 : Nat) (x0 x1 x5 : SV) (os : List SO) : Out :=
 bd (lenO tab 27 os x0) fun v1 o1 =>
 bd (ret1 (binS tab .lss 3 x5 v1) o1) fun v2 o2 =>
 condS v2 (bd (ret1 (indexAddrS tab o2 27 x0 x5) o2) fun v3 o3 =>
 bd (ret1 (fieldAddrS tab 112 v3 0) o3) fun v4 o4 =>
 bd (storeO tab o4 3 v4 (some x1)) fun v5 o5 =>
 bd (ret1 (binS tab .add 3 x1 (SV.v (.int .i64 1))) o5) fun v6 o6 =>
 bd (ret1 (indexAddrS tab o6 27 x0 x5) o6) fun v7 o7 =>
 bd (ret1 (fieldAddrS tab 112 v7 1) o7) fun v8 o8 =>
 bd (storeO tab o8 3 v8 (some v6)) fun v9 o9 =>
 bd (ret1 (binS tab .add 3 v6 (SV.v (.int .i64 1))) o9) fun v10 o10 =>
 bd (ret1 (indexAddrS tab o10 27 x0 x5) o10) fun v11 o11 =>
 bd (ret1 (fieldAddrS tab 112 v11 2) o11) fun v12 o12 =>
 bd (storeO tab o12 3 v12 (some v10)) fun v13 o13 =>
 bd (ret1 (binS tab .add 3 v10 (SV.v (.int .i64 1))) o13) fun v14 o14 =>
 bd (ret1 (binS tab .add 3 x5 (SV.v (.int .i64 1))) o14) fun v15 o15 =>
 L89_2 K N nl m2 x0 v14 v15 o15)
 (retV tab nl o2 (resC1 (some x1) (some [])))
noncomputable def X89 (K : Nat → List SV → List SO → Out) (N nl : Nat) (x0 x1 : SV) (os : List SO) : Out := exec (cx K) N nl fi89 c89 [(0, x0), (1, x1)] os (kEnd tab nl rs89)
noncomputable def B89 (K : Nat → List SV → List SO → Out) (N nl : Nat) (x0 x1 : SV) (os : List SO) : Out :=
 L89_2 K N nl N x0 x1 (SV.v (.int .i64 0)) os
noncomputable def bk90_2 (K : Nat → List SV → List SO → Out) (N nl : Nat) (m2 : Nat) : Env → List SO → Out := fun env os => loopS nl (fi90.lp 2) (fun env os nx => exec (cx K) N nl fi90 (subC c90 [1, 0, 1, 0, 0]) env os (kLoop nx (kBlock 0 (kSeq (exec (cx K) N nl fi90 (subC c90 [1, 1])) (fi90.jn 7) (kEnd tab nl rs90))))) m2 (killS (fi90.lp 2).alive env) os
noncomputable def L90_2 (K : Nat → List SV → List SO → Out) (N nl : Nat) (m2 : Nat) (x0 x1 x5 : SV) (os : List SO) : Out := loopS nl (fi90.lp 2) (fun env os nx => exec (cx K) N nl fi90 (subC c90 [1, 0, 1, 0, 0]) env os (kLoop nx (kBlock 0 (kSeq (exec (cx K) N nl fi90 (subC c90 [1, 1])) (fi90.jn 7) (kEnd tab nl rs90))))) m2 [(0, x0), (1, x1), (5, x5)] os
noncomputable def LB90_2 (K : Nat → List SV → List SO → Out) (N nl : Nat) (m2 : Nat) (x0 x1 x5 : SV) (os : List SO) : Out :=
 bd (lenO tab 23 os x0) fun v1 o1 =>
 bd (ret1 (binS tab .lss 3 x5 v1) o1) fun v2 o2 =>
 condS v2 (bd (ret1 (indexAddrS tab o2 23 x0 x5) o2) fun v3 o3 =>
 bd (ret1 (loadS tab o3 3 v3) o3) fun v4 o4 =>
 bd (ret1 (binS tab .neq 3 v4 x1) o4) fun v5 o5 =>
 condS v5 (retV tab nl o5 (resC1 (some (SV.v (.int .i64 (-1)))) (some [])))
 (bd (ret1 (binS tab .add 3 x1 (SV.v (.int .i64 1))) o5) fun v6 o6 =>
 bd (ret1 (binS tab .add 3 x5 (SV.v (.int .i64 1))) o6) fun v7 o7 =>
 L90_2 K N nl m2 x0 v6 v7 o7))
 (retV tab nl o2 (resC1 (some x1) (some [])))
noncomputable def X90 (K : Nat → List SV → List SO → Out) (N nl : Nat) (x0 x1 : SV) (os : List SO) : Out := exec (cx K) N nl fi90 c90 [(0, x0), (1, x1)] os (kEnd tab nl rs90)
noncomputable def B90 (K : Nat → List SV → List SO → Out) (N nl : Nat) (x0 x1 : SV) (os : List SO) : Out :=
 L90_2 K N nl N x0 x1 (SV.v (.int .i64 0)) os
noncomputable def bk91_2 (K : Nat → List SV → List SO → Out) (N nl : Nat) (m2 : Nat) : Env → List SO → Out := fun env os => loopS nl (fi91.lp 2) (fun env os nx => exec (cx K) N nl fi91 (subC c91 [1, 0, 1, 0, 0]) env os (kLoop nx (kBlock 0 (kSeq (exec (cx K) N nl fi91 (subC c91 [1, 1])) (fi91.jn 13) (kEnd tab nl rs91))))) m2 (killS (fi91.lp 2).alive env) os
noncomputable def L91_2 (K : Nat → List SV → List SO → Out) (N nl : Nat) (m2 : Nat) (x0 x1 x5 : SV) (os : List SO) : Out := loopS nl (fi91.lp 2) (fun env os nx => exec (cx K) N nl fi91 (subC c91 [1, 0, 1, 0, 0]) env os (kLoop nx (kBlock 0 (kSeq (exec (cx K) N nl fi91 (subC c91 [1, 1])) (fi91.jn 13) (kEnd tab nl rs91))))) m2 [(0, x0), (1, x1), (5, x5)] os
noncomputable def LB91_2 (K : Nat → List SV → List SO → Out) (N nl : Nat) (m2 : Nat) (x0 x1 x5 : SV) (os : List SO) : Out :=
 bd (lenO tab 27 os x0) fun v1 o1 =>
 bd (ret1 (binS tab .lss 3 x5 v1) o1) fun v2 o2 =>
 condS v2 (bd (ret1 (indexAddrS tab o2 27 x0 x5) o2) fun v3 o3 =>
 bd (ret1 (fieldAddrS tab 112 v3 0) o3) fun v4 o4 =>
 bd (ret1 (loadS tab o4 3 v4) o4) fun v5 o5 =>
 bd (ret1 (binS tab .neq 3 v5 x1) o5) fun v6 o6 =>
 condS v6 (retV tab nl o6 (resC1 (some (SV.v (.int .i64 (-1)))) (some [])))
 (bd (ret1 (binS tab .add 3 x1 (SV.v (.int .i64 1))) o6) fun v7 o7 =>
 bd (ret1 (indexAddrS tab o7 27 x0 x5) o7) fun v8 o8 =>
 bd (ret1 (fieldAddrS tab 112 v8 1) o8) fun v9 o9 =>
 bd (ret1 (loadS tab o9 3 v9) o9) fun v10 o10 =>
 bd (ret1 (binS tab .neq 3 v10 v7) o10) fun v11 o11 =>
 condS v11 (retV tab nl o11 (resC1 (some (SV.v (.int .i64 (-1)))) (some [])))
 (bd (ret1 (binS tab .add 3 v7 (SV.v (.int .i64 1))) o11) fun v12 o12 =>
 bd (ret1 (indexAddrS tab o12 27 x0 x5) o12) fun v13 o13 =>
 bd (ret1 (fieldAddrS tab 112 v13 2) o13) fun v14 o14 =>
 bd (ret1 (loadS tab o14 3 v14) o14) fun v15 o15 =>
 bd (ret1 (binS tab .neq 3 v15 v12) o15) fun v16 o16 =>
 condS v16 (retV tab nl o16 (resC1 (some (SV.v (.int .i64 (-1)))) (some [])))
 (bd (ret1 (binS tab .add 3 v12 (SV.v (.int .i64 1))) o16) fun v17 o17 =>
 bd (ret1 (binS tab .add 3 x5 (SV.v (.int .i64 1))) o17) fun v18 o18 =>
 L91_2 K N nl m2 x0 v17 v18 o18))))
 (retV tab nl o2 (resC1 (some x1) (some [])))
end Go.Proofs.Ytjfegdlgepbjoaa
