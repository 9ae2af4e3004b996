/- The evaluator S and what it says of functions: Sb1. -/
import Derived.Test.YtebaiioejagfoaaGreatDoorTe
import Derived.Test.YtebaiioejagfoaaGreatDoorProg
import Derived.KernelRfl
/- The evaluator S: the functions of this seat, read chunk by chunk (1). -/
namespace Go.Proofs.YtebaiioejagfoaaGreatDoor
open Go
set_option linter.unusedVariables false
set_option maxRecDepth 100000
def tiL : List (Option TI) :=
 [none,
  some ⟨1, 8, false, [.fn]⟩,
  some ⟨1, 8, false, [.int .i64]⟩,
  some ⟨1, 8, false, [.int .i64]⟩,
  some ⟨1, 1, false, [.bool]⟩,
  some ⟨1, 1, false, [.int .u8]⟩,
  some ⟨1, 1, false, [.int .u8]⟩,
  some ⟨4, 24, true, [.int .i64, .int .i64, .bool, .int .u8]⟩,
  some ⟨4, 24, true, [.int .i64, .int .i64, .bool, .int .u8]⟩,
  some ⟨1, 16, false, [.str]⟩,
  some ⟨1, 16, false, [.str]⟩,
  some ⟨1, 16, false, [.str]⟩,
  some ⟨1, 8, false, [.int .u64]⟩,
  some ⟨2, 24, true, [.str, .int .u64]⟩,
  some ⟨2, 24, true, [.str, .int .u64]⟩,
  some ⟨1, 8, false, [.ptr]⟩,
  some ⟨1, 8, false, [.ptr]⟩,
  some ⟨1, 8, false, [.ptr]⟩,
  some ⟨1, 8, true, [.ptr]⟩,
  some ⟨1, 8, true, [.ptr]⟩,
  none,
  some ⟨1, 4, false, [.int .i32]⟩,
  some ⟨1, 24, false, [.sl 1]⟩,
  some ⟨1, 24, false, [.sl 4]⟩,
  none,
  some ⟨1, 8, false, [.fn]⟩,
  some ⟨1, 24, false, [.sl 3]⟩,
  some ⟨3, 40, true, [.int .i64, .int .i64, .sl 3]⟩,
  some ⟨3, 40, true, [.int .i64, .int .i64, .sl 3]⟩,
  none,
  some ⟨1, 8, false, [.fn]⟩,
  some ⟨1, 8, false, [.fn]⟩,
  some ⟨1, 24, false, [.sl 2]⟩,
  some ⟨1, 24, false, [.sl 2]⟩,
  some ⟨4, 64, true, [.int .i64, .int .i64, .sl 2, .sl 2]⟩,
  some ⟨4, 64, true, [.int .i64, .int .i64, .sl 2, .sl 2]⟩,
  none,
  some ⟨1, 8, false, [.fn]⟩,
  some ⟨1, 8, false, [.fn]⟩,
  some ⟨1, 8, false, [.fn]⟩,
  some ⟨1, 8, false, [.fn]⟩,
  some ⟨1, 8, false, [.fn]⟩,
  some ⟨1, 8, false, [.fn]⟩,
  some ⟨1, 24, false, [.sl 1]⟩,
  some ⟨3, 40, true, [.int .i64, .sl 1, .int .i64]⟩,
  some ⟨3, 40, true, [.int .i64, .sl 1, .int .i64]⟩,
  some ⟨1, 24, false, [.sl 3]⟩,
  some ⟨3, 40, true, [.int .i64, .int .i64, .sl 3]⟩,
  some ⟨3, 40, true, [.int .i64, .int .i64, .sl 3]⟩,
  some ⟨7, 88, true, [.int .i64, .sl 1, .int .i64, .bool, .int .i64, .int .i64, .sl 3]⟩,
  some ⟨7, 88, true, [.int .i64, .sl 1, .int .i64, .bool, .int .i64, .int .i64, .sl 3]⟩,
  some ⟨1, 24, false, [.sl 4]⟩,
  some ⟨1, 8, false, [.fn]⟩,
  some ⟨1, 8, false, [.fn]⟩,
  some ⟨1, 8, false, [.fn]⟩,
  some ⟨3, 40, true, [.int .i64, .sl 1, .int .i64]⟩,
  some ⟨7, 88, true, [.int .i64, .sl 1, .int .i64, .bool, .int .i64, .int .i64, .sl 3]⟩,
  some ⟨7, 88, true, [.int .i64, .sl 1, .int .i64, .bool, .int .i64, .int .i64, .sl 3]⟩,
  some ⟨1, 8, false, [.fn]⟩,
  some ⟨1, 8, false, [.fn]⟩,
  some ⟨1, 8, false, [.fn]⟩,
  some ⟨1, 8, false, [.fn]⟩,
  some ⟨1, 8, false, [.fn]⟩,
  some ⟨1, 8, false, [.fn]⟩,
  some ⟨1, 8, false, [.fn]⟩,
  some ⟨1, 8, false, [.fn]⟩,
  some ⟨1, 8, false, [.fn]⟩,
  some ⟨1, 8, false, [.ptr]⟩,
  some ⟨1, 8, false, [.fn]⟩,
  some ⟨1, 8, false, [.fn]⟩,
  some ⟨1, 8, false, [.fn]⟩,
  some ⟨1, 8, false, [.fn]⟩,
  some ⟨1, 8, false, [.fn]⟩,
  some ⟨3, 24, true, [.int .i64, .int .i64, .int .i64]⟩,
  some ⟨3, 24, true, [.int .i64, .int .i64, .int .i64]⟩,
  some ⟨1, 8, false, [.fn]⟩,
  some ⟨1, 8, false, [.fn]⟩,
  some ⟨1, 8, false, [.fn]⟩,
  some ⟨1, 8, false, [.fn]⟩,
  some ⟨1, 8, false, [.ptr]⟩,
  some ⟨2, 32, true, [.ptr, .sl 1]⟩,
  some ⟨2, 32, true, [.ptr, .sl 1]⟩,
  none,
  none,
  none,
  some ⟨1, 8, false, [.fn]⟩,
  some ⟨1, 8, false, [.fn]⟩,
  some ⟨2, 16, true, [.int .i64, .int .i64]⟩,
  some ⟨2, 16, true, [.int .i64, .int .i64]⟩,
  some ⟨1, 8, false, [.fn]⟩,
  some ⟨2, 16, true, [.int .i64, .int .i64]⟩,
  some ⟨2, 16, true, [.int .i64, .int .i64]⟩,
  some ⟨1, 8, false, [.fn]⟩,
  some ⟨1, 8, false, [.fn]⟩,
  some ⟨1, 8, false, [.fn]⟩,
  some ⟨1, 8, false, [.fn]⟩,
  some ⟨1, 8, false, [.fn]⟩,
  some ⟨1, 8, false, [.fn]⟩,
  some ⟨1, 24, false, [.sl 2]⟩,
  some ⟨1, 24, false, [.sl 2]⟩,
  some ⟨4, 64, true, [.int .i64, .int .i64, .sl 2, .sl 2]⟩,
  some ⟨4, 64, true, [.int .i64, .int .i64, .sl 2, .sl 2]⟩,
  some ⟨1, 8, false, [.fn]⟩,
  some ⟨1, 8, false, [.fn]⟩,
  some ⟨1, 8, false, [.fn]⟩,
  some ⟨1, 8, false, [.fn]⟩,
  some ⟨1, 8, false, [.fn]⟩,
  some ⟨1, 8, false, [.fn]⟩,
  some ⟨1, 8, false, [.fn]⟩,
  some ⟨1, 8, false, [.fn]⟩,
  some ⟨1, 8, false, [.fn]⟩,
  some ⟨1, 8, false, [.fn]⟩,
  some ⟨1, 8, false, [.fn]⟩,
  some ⟨1, 8, false, [.fn]⟩,
  some ⟨2, 32, true, [.sl 1, .int .i64]⟩,
  some ⟨2, 32, true, [.sl 1, .int .i64]⟩,
  some ⟨1, 8, false, [.fn]⟩,
  some ⟨1, 8, false, [.fn]⟩,
  some ⟨1, 8, false, [.fn]⟩,
  some ⟨1, 24, false, [.sl 1]⟩,
  some ⟨1, 8, false, [.fn]⟩,
  none,
  some ⟨1, 8, false, [.fn]⟩,
  none,
  some ⟨1, 8, false, [.fn]⟩,
  some ⟨1, 8, false, [.fn]⟩,
  some ⟨1, 8, false, [.ptr]⟩,
  some ⟨1, 8, false, [.fn]⟩,
  some ⟨1, 8, false, [.fn]⟩,
  some ⟨1, 8, false, [.fn]⟩,
  some ⟨1, 8, false, [.fn]⟩,
  some ⟨1, 8, false, [.fn]⟩,
  some ⟨1, 8, false, [.fn]⟩,
  some ⟨1, 8, false, [.fn]⟩,
  some ⟨1, 8, false, [.fn]⟩,
  some ⟨1, 8, false, [.fn]⟩,
  some ⟨1, 8, false, [.fn]⟩,
  some ⟨1, 8, false, [.fn]⟩,
  some ⟨1, 8, false, [.fn]⟩,
  some ⟨1, 8, false, [.fn]⟩,
  some ⟨1, 8, false, [.fn]⟩,
  some ⟨1, 8, false, [.fn]⟩,
  some ⟨1, 8, false, [.fn]⟩,
  some ⟨1, 8, false, [.fn]⟩,
  some ⟨1, 8, false, [.fn]⟩,
  some ⟨1, 8, false, [.fn]⟩,
  some ⟨1, 8, false, [.fn]⟩,
  some ⟨1, 8, false, [.fn]⟩,
  none,
  some ⟨1, 8, false, [.fn]⟩,
  some ⟨1, 8, false, [.fn]⟩,
  some ⟨1, 8, false, [.fn]⟩,
  some ⟨1, 8, false, [.fn]⟩,
  some ⟨3, 24, true, [.int .i64, .int .i64, .int .i64]⟩,
  some ⟨1, 8, false, [.fn]⟩,
  some ⟨2, 16, true, [.int .i64, .int .i64]⟩,
  some ⟨1, 8, false, [.fn]⟩,
  some ⟨2, 16, true, [.int .i64, .int .i64]⟩,
  some ⟨1, 8, false, [.fn]⟩,
  some ⟨1, 8, false, [.fn]⟩,
  some ⟨1, 8, false, [.fn]⟩,
  some ⟨1, 8, false, [.fn]⟩,
  some ⟨1, 8, false, [.int .i64]⟩,
  none,
  some ⟨1, 8, false, [.fn]⟩,
  some ⟨1, 8, false, [.ptr]⟩,
  some ⟨1, 8, false, [.fn]⟩,
  some ⟨1, 8, false, [.fn]⟩,
  some ⟨24, 24, true, [.int .u8, .int .u8, .int .u8, .int .u8, .int .u8, .int .u8, .int .u8, .int .u8, .int .u8, .int .u8, .int .u8, .int .u8, .int .u8, .int .u8, .int .u8, .int .u8, .int .u8, .int .u8, .int .u8, .int .u8, .int .u8, .int .u8, .int .u8, .int .u8]⟩,
  some ⟨1, 8, false, [.int .u64]⟩,
  some ⟨1, 8, false, [.fn]⟩,
  some ⟨1, 8, false, [.fn]⟩,
  none,
  some ⟨1, 8, false, [.fn]⟩,
  none,
  some ⟨1, 8, false, [.fn]⟩,
  some ⟨1, 8, false, [.fn]⟩,
  some ⟨1, 8, false, [.int .u64]⟩,
  none,
  some ⟨1, 8, false, [.fn]⟩,
  some ⟨1, 8, false, [.fn]⟩,
  none,
  none,
  some ⟨1, 8, false, [.fn]⟩,
  some ⟨1, 8, false, [.fn]⟩,
  some ⟨20, 160, true, [.int .u64, .int .u64, .int .u64, .int .u64, .int .u64, .int .u64, .int .u64, .int .u64, .int .u64, .int .u64, .int .u64, .int .u64, .int .u64, .int .u64, .int .u64, .int .u64, .int .u64, .int .u64, .int .u64, .int .u64]⟩,
  some ⟨1, 4, false, [.int .u32]⟩,
  some ⟨65, 65, true, [.int .u8, .int .u8, .int .u8, .int .u8, .int .u8, .int .u8, .int .u8, .int .u8, .int .u8, .int .u8, .int .u8, .int .u8, .int .u8, .int .u8, .int .u8, .int .u8, .int .u8, .int .u8, .int .u8, .int .u8, .int .u8, .int .u8, .int .u8, .int .u8, .int .u8, .int .u8, .int .u8, .int .u8, .int .u8, .int .u8, .int .u8, .int .u8, .int .u8, .int .u8, .int .u8, .int .u8, .int .u8, .int .u8, .int .u8, .int .u8, .int .u8, .int .u8, .int .u8, .int .u8, .int .u8, .int .u8, .int .u8, .int .u8, .int .u8, .int .u8, .int .u8, .int .u8, .int .u8, .int .u8, .int .u8, .int .u8, .int .u8, .int .u8, .int .u8, .int .u8, .int .u8, .int .u8, .int .u8, .int .u8, .int .u8]⟩,
  some ⟨1, 8, false, [.fn]⟩,
  none,
  some ⟨1, 8, false, [.fn]⟩,
  some ⟨1, 8, false, [.fn]⟩,
  some ⟨1, 8, false, [.fn]⟩,
  some ⟨1, 8, false, [.ptr]⟩,
  some ⟨1, 16, true, [.str]⟩,
  some ⟨1, 16, true, [.str]⟩,
  some ⟨1, 8, false, [.fn]⟩,
  some ⟨256, 256, true, [.int .u8, .int .u8, .int .u8, .int .u8, .int .u8, .int .u8, .int .u8, .int .u8, .int .u8, .int .u8, .int .u8, .int .u8, .int .u8, .int .u8, .int .u8, .int .u8, .int .u8, .int .u8, .int .u8, .int .u8, .int .u8, .int .u8, .int .u8, .int .u8, .int .u8, .int .u8, .int .u8, .int .u8, .int .u8, .int .u8, .int .u8, .int .u8, .int .u8, .int .u8, .int .u8, .int .u8, .int .u8, .int .u8, .int .u8, .int .u8, .int .u8, .int .u8, .int .u8, .int .u8, .int .u8, .int .u8, .int .u8, .int .u8, .int .u8, .int .u8, .int .u8, .int .u8, .int .u8, .int .u8, .int .u8, .int .u8, .int .u8, .int .u8, .int .u8, .int .u8, .int .u8, .int .u8, .int .u8, .int .u8, .int .u8, .int .u8, .int .u8, .int .u8, .int .u8, .int .u8, .int .u8, .int .u8, .int .u8, .int .u8, .int .u8, .int .u8, .int .u8, .int .u8, .int .u8, .int .u8, .int .u8, .int .u8, .int .u8, .int .u8, .int .u8, .int .u8, .int .u8, .int .u8, .int .u8, .int .u8, .int .u8, .int .u8, .int .u8, .int .u8, .int .u8, .int .u8, .int .u8, .int .u8, .int .u8, .int .u8, .int .u8, .int .u8, .int .u8, .int .u8, .int .u8, .int .u8, .int .u8, .int .u8, .int .u8, .int .u8, .int .u8, .int .u8, .int .u8, .int .u8, .int .u8, .int .u8, .int .u8, .int .u8, .int .u8, .int .u8, .int .u8, .int .u8, .int .u8, .int .u8, .int .u8, .int .u8, .int .u8, .int .u8, .int .u8, .int .u8, .int .u8, .int .u8, .int .u8, .int .u8, .int .u8, .int .u8, .int .u8, .int .u8, .int .u8, .int .u8, .int .u8, .int .u8, .int .u8, .int .u8, .int .u8, .int .u8, .int .u8, .int .u8, .int .u8, .int .u8, .int .u8, .int .u8, .int .u8, .int .u8, .int .u8, .int .u8, .int .u8, .int .u8, .int .u8, .int .u8, .int .u8, .int .u8, .int .u8, .int .u8, .int .u8, .int .u8, .int .u8, .int .u8, .int .u8, .int .u8, .int .u8, .int .u8, .int .u8, .int .u8, .int .u8, .int .u8, .int .u8, .int .u8, .int .u8, .int .u8, .int .u8, .int .u8, .int .u8, .int .u8, .int .u8, .int .u8, .int .u8, .int .u8, .int .u8, .int .u8, .int .u8, .int .u8, .int .u8, .int .u8, .int .u8, .int .u8, .int .u8, .int .u8, .int .u8, .int .u8, .int .u8, .int .u8, .int .u8, .int .u8, .int .u8, .int .u8, .int .u8, .int .u8, .int .u8, .int .u8, .int .u8, .int .u8, .int .u8, .int .u8, .int .u8, .int .u8, .int .u8, .int .u8, .int .u8, .int .u8, .int .u8, .int .u8, .int .u8, .int .u8, .int .u8, .int .u8, .int .u8, .int .u8, .int .u8, .int .u8, .int .u8, .int .u8, .int .u8, .int .u8, .int .u8, .int .u8, .int .u8, .int .u8, .int .u8, .int .u8, .int .u8, .int .u8, .int .u8, .int .u8, .int .u8, .int .u8, .int .u8, .int .u8, .int .u8, .int .u8, .int .u8, .int .u8, .int .u8, .int .u8, .int .u8, .int .u8]⟩,
  some ⟨2, 2, true, [.int .u8, .int .u8]⟩,
  some ⟨2, 2, true, [.int .u8, .int .u8]⟩,
  some ⟨32, 32, true, [.int .u8, .int .u8, .int .u8, .int .u8, .int .u8, .int .u8, .int .u8, .int .u8, .int .u8, .int .u8, .int .u8, .int .u8, .int .u8, .int .u8, .int .u8, .int .u8, .int .u8, .int .u8, .int .u8, .int .u8, .int .u8, .int .u8, .int .u8, .int .u8, .int .u8, .int .u8, .int .u8, .int .u8, .int .u8, .int .u8, .int .u8, .int .u8]⟩,
  some ⟨32, 32, true, [.int .u8, .int .u8, .int .u8, .int .u8, .int .u8, .int .u8, .int .u8, .int .u8, .int .u8, .int .u8, .int .u8, .int .u8, .int .u8, .int .u8, .int .u8, .int .u8, .int .u8, .int .u8, .int .u8, .int .u8, .int .u8, .int .u8, .int .u8, .int .u8, .int .u8, .int .u8, .int .u8, .int .u8, .int .u8, .int .u8, .int .u8, .int .u8]⟩,
  some ⟨64, 64, true, [.int .u8, .int .u8, .int .u8, .int .u8, .int .u8, .int .u8, .int .u8, .int .u8, .int .u8, .int .u8, .int .u8, .int .u8, .int .u8, .int .u8, .int .u8, .int .u8, .int .u8, .int .u8, .int .u8, .int .u8, .int .u8, .int .u8, .int .u8, .int .u8, .int .u8, .int .u8, .int .u8, .int .u8, .int .u8, .int .u8, .int .u8, .int .u8, .int .u8, .int .u8, .int .u8, .int .u8, .int .u8, .int .u8, .int .u8, .int .u8, .int .u8, .int .u8, .int .u8, .int .u8, .int .u8, .int .u8, .int .u8, .int .u8, .int .u8, .int .u8, .int .u8, .int .u8, .int .u8, .int .u8, .int .u8, .int .u8, .int .u8, .int .u8, .int .u8, .int .u8, .int .u8, .int .u8, .int .u8, .int .u8]⟩,
  some ⟨1, 8, false, [.ptr]⟩,
  some ⟨1, 8, false, [.ptr]⟩,
  some ⟨4, 40, true, [.ptr, .ptr, .ptr, .str]⟩,
  some ⟨4, 40, true, [.ptr, .ptr, .ptr, .str]⟩,
  some ⟨0, 0, true, []⟩,
  some ⟨0, 0, true, []⟩,
  some ⟨0, 0, true, []⟩,
  some ⟨1, 8, false, [.fn]⟩,
  some ⟨1, 1, false, [.int .u8]⟩,
  some ⟨1, 1, false, [.int .u8]⟩,
  some ⟨1, 8, false, [.fn]⟩,
  some ⟨1, 4, false, [.int .i32]⟩,
  some ⟨1, 4, false, [.int .i32]⟩,
  some ⟨11, 48, true, [.int .u64, .int .u64, .int .u32, .int .u8, .int .u8, .int .u8, .int .u8, .fn, .ptr, .int .i32, .int .i32]⟩,
  some ⟨11, 48, true, [.int .u64, .int .u64, .int .u32, .int .u8, .int .u8, .int .u8, .int .u8, .fn, .ptr, .int .i32, .int .i32]⟩,
  some ⟨1, 8, false, [.fn]⟩,
  some ⟨1, 8, false, [.fn]⟩,
  some ⟨1, 8, false, [.fn]⟩,
  some ⟨1, 8, false, [.fn]⟩,
  none,
  none,
  none,
  none,
  none]
def ukL : List (Option UK) :=
 [none,
  none,
  some (.int .i64),
  some (.int .i64),
  some (.bool),
  some (.int .u8),
  some (.int .u8),
  some (.struct [(0, 2), (1, 3), (2, 4), (3, 6)]),
  some (.struct [(0, 2), (1, 3), (2, 4), (3, 6)]),
  some (.str),
  some (.str),
  some (.str),
  some (.int .u64),
  some (.struct [(0, 9), (1, 12)]),
  some (.struct [(0, 9), (1, 12)]),
  none,
  none,
  none,
  some (.struct [(0, 17)]),
  some (.struct [(0, 17)]),
  none,
  some (.int .i32),
  some (.slice 5),
  some (.slice 35),
  none,
  none,
  some (.slice 74),
  some (.struct [(0, 3), (1, 3), (2, 26)]),
  some (.struct [(0, 3), (1, 3), (2, 26)]),
  none,
  none,
  none,
  some (.slice 88),
  some (.slice 91),
  some (.struct [(0, 3), (1, 3), (2, 32), (3, 33)]),
  some (.struct [(0, 3), (1, 3), (2, 32), (3, 33)]),
  none,
  none,
  none,
  none,
  none,
  none,
  none,
  some (.slice 3),
  some (.struct [(0, 3), (1, 43), (2, 3)]),
  some (.struct [(0, 3), (1, 43), (2, 3)]),
  some (.slice 153),
  some (.struct [(0, 3), (1, 3), (2, 46)]),
  some (.struct [(0, 3), (1, 3), (2, 46)]),
  some (.struct [(0, 45), (3, 4), (4, 48)]),
  some (.struct [(0, 45), (3, 4), (4, 48)]),
  some (.slice 101),
  none,
  none,
  none,
  some (.struct [(0, 3), (1, 43), (2, 3)]),
  some (.struct [(0, 55), (3, 4), (4, 28)]),
  some (.struct [(0, 55), (3, 4), (4, 28)]),
  none,
  none,
  none,
  none,
  none,
  none,
  none,
  none,
  none,
  none,
  none,
  none,
  none,
  none,
  none,
  some (.eqs [(0, 3), (1, 3), (2, 3)]),
  some (.eqs [(0, 3), (1, 3), (2, 3)]),
  none,
  none,
  none,
  none,
  none,
  some (.struct [(0, 79), (1, 22)]),
  some (.struct [(0, 79), (1, 22)]),
  none,
  none,
  none,
  none,
  none,
  some (.eqs [(0, 3), (1, 3)]),
  some (.eqs [(0, 3), (1, 3)]),
  none,
  some (.eqs [(0, 3), (1, 3)]),
  some (.eqs [(0, 3), (1, 3)]),
  none,
  none,
  none,
  none,
  none,
  none,
  some (.slice 155),
  some (.slice 157),
  some (.struct [(0, 3), (1, 3), (2, 98), (3, 99)]),
  some (.struct [(0, 3), (1, 3), (2, 98), (3, 99)]),
  none,
  none,
  none,
  none,
  none,
  none,
  none,
  none,
  none,
  none,
  none,
  none,
  some (.struct [(0, 22), (1, 3)]),
  some (.struct [(0, 22), (1, 3)]),
  none,
  none,
  none,
  some (.slice 9),
  none,
  none,
  none,
  none,
  none,
  none,
  none,
  none,
  none,
  none,
  none,
  none,
  none,
  none,
  none,
  none,
  none,
  none,
  none,
  none,
  none,
  none,
  none,
  none,
  none,
  none,
  none,
  none,
  none,
  none,
  none,
  none,
  none,
  some (.eqs [(0, 3), (1, 3), (2, 3)]),
  none,
  some (.eqs [(0, 3), (1, 3)]),
  none,
  some (.eqs [(0, 3), (1, 3)]),
  none,
  none,
  none,
  none,
  some (.int .i64),
  none,
  none,
  none,
  none,
  none,
  some (.array 24 5),
  some (.int .u64),
  none,
  none,
  none,
  none,
  none,
  none,
  none,
  some (.int .u64),
  none,
  none,
  none,
  none,
  none,
  none,
  none,
  some (.array 20 169),
  some (.int .u32),
  some (.array 65 5),
  none,
  none,
  none,
  none,
  none,
  none,
  some (.struct [(0, 9)]),
  some (.struct [(0, 9)]),
  none,
  some (.array 256 5),
  some (.eqs [(0, 5), (1, 5)]),
  some (.eqs [(0, 5), (1, 5)]),
  some (.array 16 199),
  some (.array 32 5),
  some (.array 64 5),
  none,
  none,
  some (.struct [(0, 17), (1, 17), (2, 17), (3, 9)]),
  some (.struct [(0, 17), (1, 17), (2, 17), (3, 9)]),
  some (.array 0 16),
  some (.struct [(0, 207)]),
  some (.struct [(0, 207)]),
  none,
  some (.int .u8),
  some (.int .u8),
  none,
  some (.int .i32),
  some (.int .i32),
  some (.struct [(0, 12), (1, 12), (2, 186), (3, 211), (4, 5), (5, 5), (6, 212), (7, 213), (8, 126), (9, 214), (10, 215)]),
  some (.struct [(0, 12), (1, 12), (2, 186), (3, 211), (4, 5), (5, 5), (6, 212), (7, 213), (8, 126), (9, 214), (10, 215)]),
  none,
  none,
  none,
  none,
  none,
  none,
  some (.slice 83),
  none,
  none]
def tab : Tab := { ti := fun t => (tiL[t]?).getD none, und := fun t => (ukL[t]?).getD none }
def ownF : Nat → Bool := fun f => match f with | 23 => true | 24 => true | 25 => true | 63 => true | 64 => true | 65 => true | 66 => true | 98 => true | 1000006 => true | 1000018 => true | 1000029 => true | 1000067 => true | 1000100 => true  | _ => false
abbrev cx (K : Nat → List SV → List SO → Out) : Cx := ⟨tab, ownF, K⟩
noncomputable def c3 : Code := Tryz.f3.body.getD .skip
def rs3 : List ResultVar := [.tmp 4]
def fi3 : FnI := { nt := 111, lp := fun i => if i = 12 then ⟨true, [7, 12, 13, 14]⟩ else ⟨false, []⟩, jn := fun i => if i = 11 then some [7, 12, 13] else if i = 15 then some [7, 12, 13, 14, 16] else none, dt := fun i => if i = 10 then some (.split 0 4 (.split 5 7 (.leaf [0, 1, 2, 3, 4, 5, 6, 7, 8, 9, 10, 11, 12, 13]) (.split 0 10 (.split 5 10 (.leaf [0, 1, 2, 3, 4, 6, 7, 5, 8, 9, 10, 11, 12, 13]) (.leaf [0, 1, 2, 3, 4, 6, 7, 8, 9, 10, 5, 11, 12, 13])) (.leaf [1, 2, 3, 6, 7, 8, 9, 10, 0, 4, 5, 11, 12, 13]))) (.split 5 7 (.leaf [1, 2, 3, 4, 0, 5, 6, 7, 8, 9, 10, 11, 12, 13]) (.split 0 10 (.split 5 10 (.leaf [1, 2, 3, 4, 0, 6, 7, 5, 8, 9, 10, 11, 12, 13]) (.leaf [1, 2, 3, 4, 0, 6, 7, 8, 9, 10, 5, 11, 12, 13])) (.leaf [1, 2, 3, 4, 6, 7, 8, 9, 10, 0, 5, 11, 12, 13])))) else if i = 14 then some (.split 3 10 (.split 5 10 (.split 6 10 (.leaf [0, 1, 2, 3, 4, 5, 6, 7, 8, 9, 10, 11, 12]) (.leaf [0, 1, 2, 3, 4, 5, 10, 6, 7, 8, 9, 11, 12])) (.leaf [0, 1, 2, 3, 4, 10, 5, 6, 7, 8, 9, 11, 12])) (.leaf [0, 1, 2, 10, 3, 4, 5, 6, 7, 8, 9, 11, 12])) else none }
noncomputable def c4 : Code := Tryz.f4.body.getD .skip
def rs4 : List ResultVar := [.tmp 2]
def fi4 : FnI := { nt := 106, lp := fun i => if i = 9 then ⟨true, [3, 4, 5, 8, 10]⟩ else ⟨false, []⟩, jn := fun i => if i = 12 then some [3, 4, 5, 8, 10, 11, 12] else none, dt := fun i => if i = 11 then some (.split 3 10 (.split 5 10 (.split 6 10 (.leaf [0, 1, 2, 3, 4, 5, 6, 7, 8, 9, 10, 11, 12]) (.leaf [0, 1, 2, 3, 4, 5, 10, 6, 7, 8, 9, 11, 12])) (.leaf [0, 1, 2, 3, 4, 10, 5, 6, 7, 8, 9, 11, 12])) (.leaf [0, 1, 2, 10, 3, 4, 5, 6, 7, 8, 9, 11, 12])) else none }
noncomputable def c5 : Code := Tryz.f5.body.getD .skip
def rs5 : List ResultVar := [.tmp 4]
def fi5 : FnI := { nt := 92, lp := fun i => ⟨false, []⟩, jn := fun i => none, dt := fun i => none }
noncomputable def c6 : Code := Tryz.f6.body.getD .skip
def rs6 : List ResultVar := [.tmp 2, .tmp 3, .tmp 4]
def fi6 : FnI := { nt := 24, lp := fun i => ⟨false, []⟩, jn := fun i => none, dt := fun i => none }
noncomputable def c7 : Code := Tryz.f7.body.getD .skip
def rs7 : List ResultVar := [.cell 6 28, .tmp 7]
def fi7 : FnI := { nt := 51, lp := fun i => if i = 5 then ⟨true, [2, 6, 8, 9]⟩ else ⟨false, []⟩, jn := fun i => if i = 6 then some [2, 6, 8, 9] else none, dt := fun i => if i = 7 then some (.split 4 16 (.split 9 16 (.leaf [0, 1, 2, 3, 4, 5, 6, 7, 8, 9, 10, 11, 12, 13, 14, 15, 16, 17, 18, 19, 20, 21, 22]) (.split 9 17 (.leaf [0, 1, 2, 3, 4, 5, 6, 7, 8, 12, 13, 14, 15, 16, 9, 10, 11, 17, 18, 19, 20, 21, 22]) (.leaf [0, 1, 2, 3, 4, 5, 6, 7, 8, 12, 13, 14, 15, 16, 17, 9, 10, 11, 18, 19, 20, 21, 22]))) (.split 9 16 (.split 4 17 (.leaf [0, 1, 2, 3, 7, 8, 9, 10, 11, 12, 13, 14, 15, 16, 4, 5, 6, 17, 18, 19, 20, 21, 22]) (.leaf [0, 1, 2, 3, 7, 8, 9, 10, 11, 12, 13, 14, 15, 16, 17, 4, 5, 6, 18, 19, 20, 21, 22])) (.split 4 17 (.split 9 17 (.leaf [0, 1, 2, 3, 7, 8, 12, 13, 14, 15, 16, 4, 5, 6, 9, 10, 11, 17, 18, 19, 20, 21, 22]) (.leaf [0, 1, 2, 3, 7, 8, 12, 13, 14, 15, 16, 4, 5, 6, 17, 9, 10, 11, 18, 19, 20, 21, 22])) (.split 9 17 (.leaf [0, 1, 2, 3, 7, 8, 12, 13, 14, 15, 16, 9, 10, 11, 17, 4, 5, 6, 18, 19, 20, 21, 22]) (.leaf [0, 1, 2, 3, 7, 8, 12, 13, 14, 15, 16, 17, 4, 5, 6, 9, 10, 11, 18, 19, 20, 21, 22]))))) else none }
noncomputable def c8 : Code := Tryz.f8.body.getD .skip
def rs8 : List ResultVar := [.cell 6 28, .tmp 7]
def fi8 : FnI := { nt := 37, lp := fun i => if i = 5 then ⟨true, [6, 8, 18, 19, 20]⟩ else ⟨false, []⟩, jn := fun i => none, dt := fun i => none }
noncomputable def c9 : Code := Tryz.f9.body.getD .skip
def rs9 : List ResultVar := [.tmp 4]
def fi9 : FnI := { nt := 24, lp := fun i => ⟨false, []⟩, jn := fun i => none, dt := fun i => none }
noncomputable def c10 : Code := Tryz.f10.body.getD .skip
def rs10 : List ResultVar := [.cell 4 35, .tmp 5]
def fi10 : FnI := { nt := 30, lp := fun i => ⟨false, []⟩, jn := fun i => none, dt := fun i => none }
noncomputable def c11 : Code := Tryz.f11.body.getD .skip
def rs11 : List ResultVar := [.tmp 2]
def fi11 : FnI := { nt := 51, lp := fun i => if i = 6 then ⟨true, [1, 3, 18, 19, 20]⟩ else if i = 11 then ⟨true, [3, 36, 37, 38]⟩ else ⟨false, []⟩, jn := fun i => none, dt := fun i => none }
noncomputable def c12 : Code := Tryz.f12.body.getD .skip
def rs12 : List ResultVar := [.tmp 4]
def fi12 : FnI := { nt := 73, lp := fun i => if i = 4 then ⟨false, [2, 3, 5]⟩ else if i = 9 then ⟨false, [2, 3, 6]⟩ else ⟨false, []⟩, jn := fun i => none, dt := fun i => none }
noncomputable def c13 : Code := Tryz.f13.body.getD .skip
def rs13 : List ResultVar := [.tmp 2]
def fi13 : FnI := { nt := 82, lp := fun i => if i = 2 then ⟨true, [1, 6, 7, 8]⟩ else ⟨false, []⟩, jn := fun i => none, dt := fun i => none }
noncomputable def c14 : Code := Tryz.f14.body.getD .skip
def rs14 : List ResultVar := [.tmp 4]
def fi14 : FnI := { nt := 18, lp := fun i => ⟨false, []⟩, jn := fun i => none, dt := fun i => none }
noncomputable def c15 : Code := Tryz.f15.body.getD .skip
def rs15 : List ResultVar := [.tmp 4]
def fi15 : FnI := { nt := 27, lp := fun i => if i = 5 then ⟨false, [0, 1, 5]⟩ else ⟨false, []⟩, jn := fun i => none, dt := fun i => none }
noncomputable def c16 : Code := Tryz.f16.body.getD .skip
def rs16 : List ResultVar := [.tmp 4]
def fi16 : FnI := { nt := 57, lp := fun i => if i = 5 then ⟨true, [1, 2, 5, 6]⟩ else ⟨false, []⟩, jn := fun i => if i = 6 then some [1, 2, 5, 6] else none, dt := fun i => none }
noncomputable def c17 : Code := Tryz.f17.body.getD .skip
def rs17 : List ResultVar := [.cell 2 57]
def fi17 : FnI := { nt := 16, lp := fun i => ⟨false, []⟩, jn := fun i => none, dt := fun i => none }
noncomputable def c18 : Code := Tryz.f18.body.getD .skip
def rs18 : List ResultVar := [.tmp 2]
def fi18 : FnI := { nt := 23, lp := fun i => if i = 3 then ⟨true, [0, 3, 4]⟩ else ⟨false, []⟩, jn := fun i => none, dt := fun i => none }
noncomputable def c19 : Code := Tryz.f19.body.getD .skip
def rs19 : List ResultVar := [.tmp 4]
def fi19 : FnI := { nt := 34, lp := fun i => if i = 5 then ⟨true, [1, 5, 18, 19, 20]⟩ else ⟨false, []⟩, jn := fun i => if i = 9 then some [1, 5, 18, 19, 20] else none, dt := fun i => none }
noncomputable def c20 : Code := Tryz.f20.body.getD .skip
def rs20 : List ResultVar := [.tmp 4]
def fi20 : FnI := { nt := 27, lp := fun i => if i = 4 then ⟨false, [0, 1, 5]⟩ else ⟨false, []⟩, jn := fun i => none, dt := fun i => none }
noncomputable def c21 : Code := Tryz.f21.body.getD .skip
def rs21 : List ResultVar := [.tmp 4]
def fi21 : FnI := { nt := 22, lp := fun i => ⟨false, []⟩, jn := fun i => none, dt := fun i => none }
noncomputable def c22 : Code := Tryz.f22.body.getD .skip
def rs22 : List ResultVar := [.tmp 4]
def fi22 : FnI := { nt := 27, lp := fun i => if i = 4 then ⟨false, [0, 1, 5]⟩ else ⟨false, []⟩, jn := fun i => none, dt := fun i => none }
noncomputable def c23 : Code := Tryz.f23.body.getD .skip
def rs23 : List ResultVar := [.tmp 4]
def fi23 : FnI := { nt := 14, lp := fun i => ⟨false, []⟩, jn := fun i => none, dt := fun i => none }
noncomputable def c24 : Code := Tryz.f24.body.getD .skip
def rs24 : List ResultVar := [.tmp 4]
def fi24 : FnI := { nt := 41, lp := fun i => if i = 2 then ⟨false, [0, 1, 5]⟩ else ⟨false, []⟩, jn := fun i => none, dt := fun i => none }
noncomputable def c25 : Code := Tryz.f25.body.getD .skip
def rs25 : List ResultVar := [.tmp 4]
def fi25 : FnI := { nt := 34, lp := fun i => if i = 2 then ⟨false, [0, 1, 5]⟩ else ⟨false, []⟩, jn := fun i => none, dt := fun i => none }
noncomputable def c26 : Code := Tryz.f26.body.getD .skip
def rs26 : List ResultVar := [.tmp 4]
def fi26 : FnI := { nt := 40, lp := fun i => if i = 2 then ⟨false, [0, 1, 5]⟩ else ⟨false, []⟩, jn := fun i => none, dt := fun i => none }
noncomputable def c27 : Code := Tryz.f27.body.getD .skip
def rs27 : List ResultVar := [.tmp 2]
def fi27 : FnI := { nt := 11, lp := fun i => ⟨false, []⟩, jn := fun i => if i = 3 then some [0] else none, dt := fun i => none }
noncomputable def c28 : Code := Tryz.f28.body.getD .skip
def rs28 : List ResultVar := [.tmp 4]
def fi28 : FnI := { nt := 99, lp := fun i => ⟨false, []⟩, jn := fun i => none, dt := fun i => none }
noncomputable def c29 : Code := Tryz.f29.body.getD .skip
def rs29 : List ResultVar := [.tmp 2]
def fi29 : FnI := { nt := 29, lp := fun i => ⟨false, []⟩, jn := fun i => if i = 8 then some [3] else none, dt := fun i => none }
noncomputable def c30 : Code := Tryz.f30.body.getD .skip
def rs30 : List ResultVar := [.tmp 2]
def fi30 : FnI := { nt := 46, lp := fun i => if i = 2 then ⟨false, [0, 3]⟩ else ⟨false, []⟩, jn := fun i => none, dt := fun i => none }
noncomputable def c31 : Code := Tryz.f31.body.getD .skip
def rs31 : List ResultVar := [.tmp 2]
def fi31 : FnI := { nt := 21, lp := fun i => if i = 3 then ⟨false, [0, 3, 4]⟩ else ⟨false, []⟩, jn := fun i => none, dt := fun i => none }
noncomputable def c32 : Code := Tryz.f32.body.getD .skip
def rs32 : List ResultVar := [.tmp 2]
def fi32 : FnI := { nt := 64, lp := fun i => if i = 5 then ⟨false, [1, 3, 4]⟩ else if i = 9 then ⟨false, [1, 3, 5]⟩ else ⟨false, []⟩, jn := fun i => if i = 6 then some [1, 3, 4] else none, dt := fun i => if i = 7 then some (.split 8 14 (.leaf [0, 1, 2, 3, 4, 5, 6, 7, 8, 9, 10, 11, 12, 13, 14, 15, 16, 17, 18, 19]) (.leaf [0, 1, 2, 3, 4, 5, 6, 7, 11, 12, 13, 14, 8, 9, 10, 15, 16, 17, 18, 19])) else none }
noncomputable def c33 : Code := Tryz.f33.body.getD .skip
def rs33 : List ResultVar := [.tmp 2]
def fi33 : FnI := { nt := 73, lp := fun i => if i = 4 then ⟨true, [1, 3]⟩ else ⟨false, []⟩, jn := fun i => none, dt := fun i => none }
noncomputable def c34 : Code := Tryz.f34.body.getD .skip
def rs34 : List ResultVar := [.tmp 2]
def fi34 : FnI := { nt := 30, lp := fun i => if i = 2 then ⟨true, [0, 5, 6, 7]⟩ else ⟨false, []⟩, jn := fun i => none, dt := fun i => none }
noncomputable def c35 : Code := Tryz.f35.body.getD .skip
def rs35 : List ResultVar := [.cell 2 74]
def fi35 : FnI := { nt := 11, lp := fun i => ⟨false, []⟩, jn := fun i => none, dt := fun i => none }
noncomputable def c36 : Code := Tryz.f36.body.getD .skip
def rs36 : List ResultVar := [.tmp 4]
def fi36 : FnI := { nt := 26, lp := fun i => if i = 4 then ⟨false, [0, 1, 5]⟩ else ⟨false, []⟩, jn := fun i => none, dt := fun i => none }
noncomputable def c37 : Code := Tryz.f37.body.getD .skip
def rs37 : List ResultVar := [.cell 2 35, .tmp 3]
def fi37 : FnI := { nt := 89, lp := fun i => if i = 7 then ⟨true, [0, 2, 5, 33, 34, 35]⟩ else ⟨false, []⟩, jn := fun i => if i = 16 then some [0, 2, 5, 33, 34, 35] else none, dt := fun i => none }
noncomputable def c38 : Code := Tryz.f38.body.getD .skip
def rs38 : List ResultVar := [.tmp 4]
def fi38 : FnI := { nt := 9, lp := fun i => ⟨false, []⟩, jn := fun i => none, dt := fun i => none }
noncomputable def c39 : Code := Tryz.f39.body.getD .skip
def rs39 : List ResultVar := [.tmp 2]
def fi39 : FnI := { nt := 106, lp := fun i => if i = 4 then ⟨true, [1, 30, 31, 32]⟩ else if i = 10 then ⟨true, [1, 65, 66, 67]⟩ else ⟨false, []⟩, jn := fun i => none, dt := fun i => none }
noncomputable def c40 : Code := Tryz.f40.body.getD .skip
def rs40 : List ResultVar := [.tmp 4, .tmp 5]
def fi40 : FnI := { nt := 19, lp := fun i => ⟨false, []⟩, jn := fun i => none, dt := fun i => none }
noncomputable def c41 : Code := Tryz.f41.body.getD .skip
def rs41 : List ResultVar := [.tmp 4]
def fi41 : FnI := { nt := 13, lp := fun i => ⟨false, []⟩, jn := fun i => none, dt := fun i => none }
noncomputable def c42 : Code := Tryz.f42.body.getD .skip
def rs42 : List ResultVar := [.tmp 2]
def fi42 : FnI := { nt := 5, lp := fun i => ⟨false, []⟩, jn := fun i => none, dt := fun i => none }
noncomputable def c43 : Code := Tryz.f43.body.getD .skip
def rs43 : List ResultVar := [.tmp 2]
def fi43 : FnI := { nt := 14, lp := fun i => ⟨false, []⟩, jn := fun i => none, dt := fun i => if i = 1 then some (.split 4 8 (.leaf [0, 1, 2, 3, 4, 5, 6, 7, 8, 9, 10, 11]) (.split 4 9 (.leaf [0, 1, 2, 3, 5, 6, 7, 8, 4, 9, 10, 11]) (.leaf [0, 1, 2, 3, 5, 6, 7, 8, 9, 4, 10, 11]))) else none }
noncomputable def c44 : Code := Tryz.f44.body.getD .skip
def rs44 : List ResultVar := [.tmp 2]
def fi44 : FnI := { nt := 5, lp := fun i => ⟨false, []⟩, jn := fun i => none, dt := fun i => none }
noncomputable def c45 : Code := Tryz.f45.body.getD .skip
def rs45 : List ResultVar := [.tmp 2]
def fi45 : FnI := { nt := 5, lp := fun i => ⟨false, []⟩, jn := fun i => none, dt := fun i => none }
noncomputable def c46 : Code := Tryz.f46.body.getD .skip
def rs46 : List ResultVar := [.tmp 6]
def fi46 : FnI := { nt := 15, lp := fun i => ⟨false, []⟩, jn := fun i => none, dt := fun i => none }
noncomputable def c47 : Code := Tryz.f47.body.getD .skip
def rs47 : List ResultVar := [.tmp 4]
def fi47 : FnI := { nt := 12, lp := fun i => ⟨false, []⟩, jn := fun i => none, dt := fun i => none }
noncomputable def c48 : Code := Tryz.f48.body.getD .skip
def rs48 : List ResultVar := [.tmp 4]
def fi48 : FnI := { nt := 12, lp := fun i => ⟨false, []⟩, jn := fun i => none, dt := fun i => none }
noncomputable def c49 : Code := Tryz.f49.body.getD .skip
def rs49 : List ResultVar := [.tmp 4]
def fi49 : FnI := { nt := 18, lp := fun i => ⟨false, []⟩, jn := fun i => none, dt := fun i => none }
noncomputable def c50 : Code := Tryz.f50.body.getD .skip
def rs50 : List ResultVar := [.tmp 2]
def fi50 : FnI := { nt := 29, lp := fun i => ⟨false, []⟩, jn := fun i => none, dt := fun i => none }
noncomputable def c51 : Code := Tryz.f51.body.getD .skip
def rs51 : List ResultVar := [.tmp 2]
def fi51 : FnI := { nt := 5, lp := fun i => ⟨false, []⟩, jn := fun i => none, dt := fun i => none }
noncomputable def c52 : Code := Tryz.f52.body.getD .skip
def rs52 : List ResultVar := [.tmp 6]
def fi52 : FnI := { nt := 31, lp := fun i => if i = 2 then ⟨false, [0, 1, 2, 7]⟩ else ⟨false, []⟩, jn := fun i => none, dt := fun i => none }
noncomputable def c53 : Code := Tryz.f53.body.getD .skip
def rs53 : List ResultVar := [.cell 2 55]
def fi53 : FnI := { nt := 15, lp := fun i => ⟨false, []⟩, jn := fun i => none, dt := fun i => none }
noncomputable def c54 : Code := Tryz.f54.body.getD .skip
def rs54 : List ResultVar := [.cell 2 28]
def fi54 : FnI := { nt := 15, lp := fun i => ⟨false, []⟩, jn := fun i => none, dt := fun i => none }
noncomputable def c55 : Code := Tryz.f55.body.getD .skip
def rs55 : List ResultVar := [.cell 2 35]
def fi55 : FnI := { nt := 19, lp := fun i => ⟨false, []⟩, jn := fun i => none, dt := fun i => none }
noncomputable def c56 : Code := Tryz.f56.body.getD .skip
def rs56 : List ResultVar := [.tmp 2]
def fi56 : FnI := { nt := 16, lp := fun i => ⟨false, []⟩, jn := fun i => none, dt := fun i => none }
noncomputable def c57 : Code := Tryz.f57.body.getD .skip
def rs57 : List ResultVar := [.tmp 4]
def fi57 : FnI := { nt := 9, lp := fun i => ⟨false, []⟩, jn := fun i => none, dt := fun i => none }
noncomputable def c58 : Code := Tryz.f58.body.getD .skip
def rs58 : List ResultVar := [.tmp 3]
def fi58 : FnI := { nt := 8, lp := fun i => ⟨false, []⟩, jn := fun i => none, dt := fun i => none }
noncomputable def c59 : Code := Tryz.f59.body.getD .skip
def rs59 : List ResultVar := [.tmp 4]
def fi59 : FnI := { nt := 20, lp := fun i => ⟨false, []⟩, jn := fun i => none, dt := fun i => none }
noncomputable def c60 : Code := Tryz.f60.body.getD .skip
def rs60 : List ResultVar := [.tmp 4]
def fi60 : FnI := { nt := 21, lp := fun i => ⟨false, []⟩, jn := fun i => none, dt := fun i => none }
noncomputable def c61 : Code := Tryz.f61.body.getD .skip
def rs61 : List ResultVar := [.tmp 4]
def fi61 : FnI := { nt := 21, lp := fun i => ⟨false, []⟩, jn := fun i => none, dt := fun i => none }
noncomputable def c62 : Code := Tryz.f62.body.getD .skip
def rs62 : List ResultVar := [.tmp 4]
def fi62 : FnI := { nt := 27, lp := fun i => ⟨false, []⟩, jn := fun i => none, dt := fun i => none }
noncomputable def c63 : Code := Tryz.f63.body.getD .skip
def rs63 : List ResultVar := [.tmp 4]
def fi63 : FnI := { nt := 10, lp := fun i => ⟨false, []⟩, jn := fun i => none, dt := fun i => none }
noncomputable def c64 : Code := Tryz.f64.body.getD .skip
def rs64 : List ResultVar := [.tmp 4]
def fi64 : FnI := { nt := 10, lp := fun i => ⟨false, []⟩, jn := fun i => none, dt := fun i => none }
noncomputable def c65 : Code := Tryz.f65.body.getD .skip
def rs65 : List ResultVar := [.tmp 4]
def fi65 : FnI := { nt := 27, lp := fun i => if i = 2 then ⟨false, [0, 1, 5]⟩ else ⟨false, []⟩, jn := fun i => none, dt := fun i => none }
noncomputable def c66 : Code := Tryz.f66.body.getD .skip
def rs66 : List ResultVar := [.tmp 4]
def fi66 : FnI := { nt := 27, lp := fun i => if i = 2 then ⟨false, [0, 1, 5]⟩ else ⟨false, []⟩, jn := fun i => none, dt := fun i => none }
noncomputable def c67 : Code := Tryz.f67.body.getD .skip
def rs67 : List ResultVar := [.tmp 2]
def fi67 : FnI := { nt := 32, lp := fun i => if i = 3 then ⟨true, [0, 3, 4]⟩ else ⟨false, []⟩, jn := fun i => if i = 4 then some [0, 3, 4] else none, dt := fun i => none }
noncomputable def c68 : Code := Tryz.f68.body.getD .skip
def rs68 : List ResultVar := [.cell 2 35]
def fi68 : FnI := { nt := 55, lp := fun i => ⟨false, []⟩, jn := fun i => if i = 11 then some [2, 3] else none, dt := fun i => none }
noncomputable def c69 : Code := Tryz.f69.body.getD .skip
def rs69 : List ResultVar := [.tmp 2]
def fi69 : FnI := { nt := 23, lp := fun i => ⟨false, []⟩, jn := fun i => none, dt := fun i => none }
noncomputable def c70 : Code := Tryz.f70.body.getD .skip
def rs70 : List ResultVar := [.tmp 8]
def fi70 : FnI := { nt := 22, lp := fun i => ⟨false, []⟩, jn := fun i => none, dt := fun i => none }
noncomputable def c71 : Code := Tryz.f71.body.getD .skip
def rs71 : List ResultVar := [.tmp 4]
def fi71 : FnI := { nt := 14, lp := fun i => ⟨false, []⟩, jn := fun i => none, dt := fun i => if i = 1 then some (.split 4 7 (.split 5 7 (.leaf [0, 1, 2, 3, 4, 5, 6, 7, 8, 9]) (.leaf [0, 1, 2, 3, 4, 6, 7, 5, 8, 9])) (.leaf [0, 1, 2, 3, 6, 7, 4, 5, 8, 9])) else none }
noncomputable def c72 : Code := Tryz.f72.body.getD .skip
def rs72 : List ResultVar := [.tmp 2]
def fi72 : FnI := { nt := 28, lp := fun i => ⟨false, []⟩, jn := fun i => none, dt := fun i => if i = 7 then some (.split 2 7 (.leaf [0, 1, 2, 3, 4, 5, 6, 7, 8, 9, 10]) (.split 2 8 (.leaf [0, 1, 3, 4, 5, 6, 7, 2, 8, 9, 10]) (.leaf [0, 1, 3, 4, 5, 6, 7, 8, 2, 9, 10]))) else none }
noncomputable def c73 : Code := Tryz.f73.body.getD .skip
def rs73 : List ResultVar := [.tmp 6]
def fi73 : FnI := { nt := 15, lp := fun i => ⟨false, []⟩, jn := fun i => none, dt := fun i => none }
noncomputable def c74 : Code := Tryz.f74.body.getD .skip
def rs74 : List ResultVar := [.tmp 4]
def fi74 : FnI := { nt := 17, lp := fun i => ⟨false, []⟩, jn := fun i => none, dt := fun i => none }
noncomputable def c75 : Code := Tryz.f75.body.getD .skip
def rs75 : List ResultVar := [.tmp 2]
def fi75 : FnI := { nt := 22, lp := fun i => if i = 3 then ⟨false, [3, 7, 8, 9]⟩ else ⟨false, []⟩, jn := fun i => none, dt := fun i => none }
noncomputable def c76 : Code := Tryz.f76.body.getD .skip
def rs76 : List ResultVar := [.tmp 4]
def fi76 : FnI := { nt := 8, lp := fun i => ⟨false, []⟩, jn := fun i => none, dt := fun i => none }
noncomputable def c77 : Code := Tryz.f77.body.getD .skip
def rs77 : List ResultVar := [.tmp 2, .tmp 3]
def fi77 : FnI := { nt := 20, lp := fun i => ⟨false, []⟩, jn := fun i => none, dt := fun i => none }
noncomputable def c78 : Code := Tryz.f78.body.getD .skip
def rs78 : List ResultVar := [.tmp 4, .tmp 5, .tmp 6]
def fi78 : FnI := { nt := 13, lp := fun i => ⟨false, []⟩, jn := fun i => none, dt := fun i => none }
noncomputable def c79 : Code := Tryz.f79.body.getD .skip
def rs79 : List ResultVar := [.tmp 2, .tmp 3]
def fi79 : FnI := { nt := 18, lp := fun i => ⟨false, []⟩, jn := fun i => none, dt := fun i => none }
noncomputable def c80 : Code := Tryz.f80.body.getD .skip
def rs80 : List ResultVar := [.tmp 4]
def fi80 : FnI := { nt := 19, lp := fun i => if i = 2 then ⟨false, [0, 3, 7, 8]⟩ else ⟨false, []⟩, jn := fun i => none, dt := fun i => none }
noncomputable def c81 : Code := Tryz.f81.body.getD .skip
def rs81 : List ResultVar := []
def fi81 : FnI := { nt := 20, lp := fun i => ⟨false, []⟩, jn := fun i => none, dt := fun i => none }
noncomputable def c82 : Code := Tryz.f82.body.getD .skip
def rs82 : List ResultVar := [.tmp 2]
def fi82 : FnI := { nt := 5, lp := fun i => ⟨false, []⟩, jn := fun i => none, dt := fun i => none }
noncomputable def c83 : Code := Tryz.f83.body.getD .skip
def rs83 : List ResultVar := [.tmp 4]
def fi83 : FnI := { nt := 12, lp := fun i => ⟨false, []⟩, jn := fun i => none, dt := fun i => none }
noncomputable def c84 : Code := Tryz.f84.body.getD .skip
def rs84 : List ResultVar := [.tmp 4]
def fi84 : FnI := { nt := 12, lp := fun i => ⟨false, []⟩, jn := fun i => none, dt := fun i => none }
noncomputable def c85 : Code := Tryz.f85.body.getD .skip
def rs85 : List ResultVar := [.tmp 4]
def fi85 : FnI := { nt := 12, lp := fun i => ⟨false, []⟩, jn := fun i => none, dt := fun i => none }
noncomputable def c86 : Code := Tryz.f86.body.getD .skip
def rs86 : List ResultVar := [.tmp 4]
def fi86 : FnI := { nt := 12, lp := fun i => ⟨false, []⟩, jn := fun i => none, dt := fun i => none }
noncomputable def c87 : Code := Tryz.f87.body.getD .skip
def rs87 : List ResultVar := [.tmp 2]
def fi87 : FnI := { nt := 19, lp := fun i => ⟨false, []⟩, jn := fun i => none, dt := fun i => none }
noncomputable def c88 : Code := Tryz.f88.body.getD .skip
def rs88 : List ResultVar := [.tmp 2]
def fi88 : FnI := { nt := 22, lp := fun i => if i = 3 then ⟨false, [0, 3, 4]⟩ else ⟨false, []⟩, jn := fun i => none, dt := fun i => none }
noncomputable def c89 : Code := Tryz.f89.body.getD .skip
def rs89 : List ResultVar := [.tmp 2]
def fi89 : FnI := { nt := 23, lp := fun i => if i = 3 then ⟨false, [0, 3, 4]⟩ else ⟨false, []⟩, jn := fun i => none, dt := fun i => none }
noncomputable def c90 : Code := Tryz.f90.body.getD .skip
def rs90 : List ResultVar := [.tmp 2]
def fi90 : FnI := { nt := 23, lp := fun i => if i = 3 then ⟨false, [0, 3, 4]⟩ else ⟨false, []⟩, jn := fun i => none, dt := fun i => none }
noncomputable def c91 : Code := Tryz.f91.body.getD .skip
def rs91 : List ResultVar := [.tmp 2]
def fi91 : FnI := { nt := 23, lp := fun i => if i = 3 then ⟨false, [0, 3, 4]⟩ else ⟨false, []⟩, jn := fun i => none, dt := fun i => none }
noncomputable def c92 : Code := Tryz.f92.body.getD .skip
def rs92 : List ResultVar := [.tmp 2]
def fi92 : FnI := { nt := 19, lp := fun i => ⟨false, []⟩, jn := fun i => none, dt := fun i => none }
noncomputable def c93 : Code := Tryz.f93.body.getD .skip
def rs93 : List ResultVar := [.tmp 4]
def fi93 : FnI := { nt := 24, lp := fun i => ⟨false, []⟩, jn := fun i => none, dt := fun i => none }
noncomputable def c94 : Code := Tryz.f94.body.getD .skip
def rs94 : List ResultVar := [.tmp 4]
def fi94 : FnI := { nt := 19, lp := fun i => if i = 2 then ⟨false, [0, 1, 7, 8]⟩ else ⟨false, []⟩, jn := fun i => none, dt := fun i => none }
noncomputable def c95 : Code := Tryz.f95.body.getD .skip
def rs95 : List ResultVar := [.tmp 4]
def fi95 : FnI := { nt := 26, lp := fun i => if i = 4 then ⟨false, [0, 1, 5]⟩ else ⟨false, []⟩, jn := fun i => none, dt := fun i => none }
noncomputable def c96 : Code := Tryz.f96.body.getD .skip
def rs96 : List ResultVar := [.tmp 4]
def fi96 : FnI := { nt := 27, lp := fun i => if i = 4 then ⟨false, [0, 1, 5]⟩ else ⟨false, []⟩, jn := fun i => none, dt := fun i => none }
noncomputable def c97 : Code := Tryz.f97.body.getD .skip
def rs97 : List ResultVar := [.tmp 4]
def fi97 : FnI := { nt := 27, lp := fun i => if i = 4 then ⟨false, [0, 1, 5]⟩ else ⟨false, []⟩, jn := fun i => none, dt := fun i => none }
noncomputable def c98 : Code := Tryz.f98.body.getD .skip
def rs98 : List ResultVar := [.tmp 4]
def fi98 : FnI := { nt := 19, lp := fun i => if i = 2 then ⟨false, [0, 1, 5]⟩ else ⟨false, []⟩, jn := fun i => none, dt := fun i => none }
noncomputable def c99 : Code := Tryz.f99.body.getD .skip
def rs99 : List ResultVar := [.cell 6 35]
def fi99 : FnI := { nt := 71, lp := fun i => if i = 4 then ⟨true, [0, 1, 6, 7, 8, 9]⟩ else if i = 9 then ⟨true, [0, 1, 6, 7, 10]⟩ else ⟨false, []⟩, jn := fun i => if i = 10 then some [0, 1, 6, 7, 10] else none, dt := fun i => none }
noncomputable def c100 : Code := Tryz.f100.body.getD .skip
def rs100 : List ResultVar := [.tmp 4]
def fi100 : FnI := { nt := 70, lp := fun i => if i = 3 then ⟨true, [0, 3, 5, 6]⟩ else if i = 9 then ⟨true, [0, 3, 5, 7]⟩ else ⟨false, []⟩, jn := fun i => if i = 4 then some [0, 3, 5, 6] else if i = 10 then some [0, 3, 5, 7] else none, dt := fun i => none }
noncomputable def c101 : Code := Tryz.f101.body.getD .skip
def rs101 : List ResultVar := [.tmp 2]
def fi101 : FnI := { nt := 47, lp := fun i => if i = 2 then ⟨false, [0, 3]⟩ else ⟨false, []⟩, jn := fun i => none, dt := fun i => none }
noncomputable def c102 : Code := Tryz.f102.body.getD .skip
def rs102 : List ResultVar := [.tmp 4]
def fi102 : FnI := { nt := 51, lp := fun i => if i = 2 then ⟨true, [0, 1, 5]⟩ else ⟨false, []⟩, jn := fun i => none, dt := fun i => none }
noncomputable def c103 : Code := Tryz.f103.body.getD .skip
def rs103 : List ResultVar := [.tmp 2]
def fi103 : FnI := { nt := 18, lp := fun i => if i = 3 then ⟨false, [3, 6, 7, 8]⟩ else ⟨false, []⟩, jn := fun i => none, dt := fun i => none }
noncomputable def c104 : Code := Tryz.f104.body.getD .skip
def rs104 : List ResultVar := [.tmp 4]
def fi104 : FnI := { nt := 20, lp := fun i => ⟨false, []⟩, jn := fun i => none, dt := fun i => none }
noncomputable def c105 : Code := Tryz.f105.body.getD .skip
def rs105 : List ResultVar := [.tmp 8]
def fi105 : FnI := { nt := 66, lp := fun i => if i = 11 then ⟨false, [0, 1, 2, 3, 9, 10]⟩ else ⟨false, []⟩, jn := fun i => if i = 7 then some [0, 1, 2, 3] else if i = 17 then some [0, 9, 10] else none, dt := fun i => none }
noncomputable def c106 : Code := Tryz.f106.body.getD .skip
def rs106 : List ResultVar := [.tmp 4, .tmp 5, .tmp 6]
def fi106 : FnI := { nt := 23, lp := fun i => ⟨false, []⟩, jn := fun i => none, dt := fun i => none }
noncomputable def c107 : Code := Tryz.f107.body.getD .skip
def rs107 : List ResultVar := [.tmp 2, .tmp 3]
def fi107 : FnI := { nt := 77, lp := fun i => if i = 10 then ⟨false, [5, 6, 47, 48, 49]⟩ else ⟨false, []⟩, jn := fun i => if i = 8 then some [0, 5] else if i = 19 then some [6] else none, dt := fun i => none }
noncomputable def c108 : Code := Tryz.f108.body.getD .skip
def rs108 : List ResultVar := [.tmp 10]
def fi108 : FnI := { nt := 43, lp := fun i => ⟨false, []⟩, jn := fun i => none, dt := fun i => none }
noncomputable def c110 : Code := Tryz.f110.body.getD .skip
def rs110 : List ResultVar := [.tmp 4]
def fi110 : FnI := { nt := 54, lp := fun i => ⟨false, []⟩, jn := fun i => if i = 8 then some [0, 5, 6] else none, dt := fun i => none }
noncomputable def c111 : Code := Tryz.f111.body.getD .skip
def rs111 : List ResultVar := [.tmp 2]
def fi111 : FnI := { nt := 32, lp := fun i => if i = 2 then ⟨false, [0, 3]⟩ else ⟨false, []⟩, jn := fun i => none, dt := fun i => none }
noncomputable def c112 : Code := Tryz.f112.body.getD .skip
def rs112 : List ResultVar := [.cell 2 74]
def fi112 : FnI := { nt := 14, lp := fun i => ⟨false, []⟩, jn := fun i => none, dt := fun i => none }
noncomputable def c113 : Code := Tryz.f113.body.getD .skip
def rs113 : List ResultVar := [.cell 2 88]
def fi113 : FnI := { nt := 11, lp := fun i => ⟨false, []⟩, jn := fun i => none, dt := fun i => none }
noncomputable def c114 : Code := Tryz.f114.body.getD .skip
def rs114 : List ResultVar := [.cell 2 91]
def fi114 : FnI := { nt := 11, lp := fun i => ⟨false, []⟩, jn := fun i => none, dt := fun i => none }
noncomputable def c115 : Code := Tryz.f115.body.getD .skip
def rs115 : List ResultVar := [.tmp 2]
def fi115 : FnI := { nt := 29, lp := fun i => if i = 2 then ⟨false, [0, 5, 6, 7]⟩ else ⟨false, []⟩, jn := fun i => none, dt := fun i => none }
noncomputable def c116 : Code := Tryz.f116.body.getD .skip
def rs116 : List ResultVar := [.tmp 4]
def fi116 : FnI := { nt := 26, lp := fun i => if i = 4 then ⟨false, [0, 1, 12, 13]⟩ else ⟨false, []⟩, jn := fun i => none, dt := fun i => none }
noncomputable def c117 : Code := Tryz.f117.body.getD .skip
def rs117 : List ResultVar := [.tmp 4]
def fi117 : FnI := { nt := 15, lp := fun i => ⟨false, []⟩, jn := fun i => none, dt := fun i => none }
noncomputable def c118 : Code := Tryz.f118.body.getD .skip
def rs118 : List ResultVar := [.tmp 4]
def fi118 : FnI := { nt := 15, lp := fun i => ⟨false, []⟩, jn := fun i => none, dt := fun i => none }
noncomputable def c119 : Code := Tryz.f119.body.getD .skip
def rs119 : List ResultVar := [.tmp 2]
def fi119 : FnI := { nt := 6, lp := fun i => ⟨false, []⟩, jn := fun i => none, dt := fun i => none }
noncomputable def c120 : Code := Tryz.f120.body.getD .skip
def rs120 : List ResultVar := [.tmp 4]
def fi120 : FnI := { nt := 50, lp := fun i => if i = 6 then ⟨true, [0, 1, 6, 7]⟩ else ⟨false, []⟩, jn := fun i => if i = 4 then some [0, 1] else if i = 13 then some [6] else none, dt := fun i => none }
noncomputable def c121 : Code := Tryz.f121.body.getD .skip
def rs121 : List ResultVar := [.tmp 4]
def fi121 : FnI := { nt := 34, lp := fun i => if i = 6 then ⟨false, [0, 1, 5]⟩ else ⟨false, []⟩, jn := fun i => none, dt := fun i => none }
noncomputable def c122 : Code := Tryz.f122.body.getD .skip
def rs122 : List ResultVar := [.tmp 4]
def fi122 : FnI := { nt := 8, lp := fun i => ⟨false, []⟩, jn := fun i => none, dt := fun i => none }
noncomputable def c123 : Code := Tryz.f123.body.getD .skip
def rs123 : List ResultVar := [.tmp 4]
def fi123 : FnI := { nt := 143, lp := fun i => if i = 15 then ⟨false, [0, 1, 5, 6, 7, 8, 9, 10]⟩ else ⟨false, []⟩, jn := fun i => if i = 21 then some [0, 1, 5, 6, 7, 8, 9, 10] else none, dt := fun i => none }
noncomputable def c124 : Code := Tryz.f124.body.getD .skip
def rs124 : List ResultVar := [.tmp 6, .tmp 7]
def fi124 : FnI := { nt := 73, lp := fun i => ⟨false, []⟩, jn := fun i => if i = 10 then some [0, 1, 2, 8] else if i = 16 then some [2, 8, 9] else if i = 24 then some [11] else none, dt := fun i => none }
noncomputable def c125 : Code := Tryz.f125.body.getD .skip
def rs125 : List ResultVar := [.tmp 4]
def fi125 : FnI := { nt := 11, lp := fun i => ⟨false, []⟩, jn := fun i => none, dt := fun i => none }
noncomputable def c126 : Code := Tryz.f126.body.getD .skip
def rs126 : List ResultVar := [.tmp 4]
def fi126 : FnI := { nt := 11, lp := fun i => ⟨false, []⟩, jn := fun i => none, dt := fun i => none }
noncomputable def c127 : Code := Tryz.f127.body.getD .skip
def rs127 : List ResultVar := [.tmp 6]
def fi127 : FnI := { nt := 16, lp := fun i => ⟨false, []⟩, jn := fun i => none, dt := fun i => none }
noncomputable def c128 : Code := Tryz.f128.body.getD .skip
def rs128 : List ResultVar := [.tmp 6]
def fi128 : FnI := { nt := 16, lp := fun i => ⟨false, []⟩, jn := fun i => none, dt := fun i => none }
noncomputable def c129 : Code := Tryz.f129.body.getD .skip
def rs129 : List ResultVar := [.tmp 2]
def fi129 : FnI := { nt := 15, lp := fun i => ⟨false, []⟩, jn := fun i => none, dt := fun i => none }
noncomputable def c130 : Code := Tryz.f130.body.getD .skip
def rs130 : List ResultVar := [.tmp 2]
def fi130 : FnI := { nt := 15, lp := fun i => ⟨false, []⟩, jn := fun i => none, dt := fun i => none }
noncomputable def c131 : Code := Tryz.f131.body.getD .skip
def rs131 : List ResultVar := []
def fi131 : FnI := { nt := 167, lp := fun i => if i = 1 then ⟨false, [0, 1, 4]⟩ else ⟨false, []⟩, jn := fun i => if i = 20 then some [0, 4, 12] else if i = 25 then some [0, 4, 12] else none, dt := fun i => none }
noncomputable def c132 : Code := Tryz.f132.body.getD .skip
def rs132 : List ResultVar := [.tmp 10, .tmp 11]
def fi132 : FnI := { nt := 102, lp := fun i => if i = 11 then ⟨false, [0, 1, 3, 4, 10, 11, 12, 13, 14, 15, 16]⟩ else if i = 18 then ⟨false, [0, 1, 3, 4, 10, 11, 12, 13, 17]⟩ else ⟨false, []⟩, jn := fun i => if i = 3 then some [0, 1, 2, 3, 4, 10, 11] else if i = 7 then some [0, 1, 2, 3, 4, 10, 11, 12, 13] else if i = 25 then some [0, 3, 4, 10, 11, 12, 13] else if i = 28 then some [0, 4, 10, 11, 12, 13] else none, dt := fun i => none }
noncomputable def c133 : Code := Tryz.f133.body.getD .skip
def rs133 : List ResultVar := [.tmp 2]
def fi133 : FnI := { nt := 10, lp := fun i => if i = 2 then ⟨false, [2, 4]⟩ else ⟨false, []⟩, jn := fun i => none, dt := fun i => none }
noncomputable def c134 : Code := Tryz.f134.body.getD .skip
def rs134 : List ResultVar := [.tmp 2, .tmp 3]
def fi134 : FnI := { nt := 19, lp := fun i => ⟨false, []⟩, jn := fun i => none, dt := fun i => none }
noncomputable def c136 : Code := Tryz.f136.body.getD .skip
def rs136 : List ResultVar := [.tmp 4]
def fi136 : FnI := { nt := 8, lp := fun i => ⟨false, []⟩, jn := fun i => none, dt := fun i => none }
noncomputable def c138 : Code := Tryz.f138.body.getD .skip
def rs138 : List ResultVar := [.tmp 2]
def fi138 : FnI := { nt := 6, lp := fun i => ⟨false, []⟩, jn := fun i => none, dt := fun i => none }
noncomputable def c139 : Code := Tryz.f139.body.getD .skip
def rs139 : List ResultVar := [.tmp 4]
def fi139 : FnI := { nt := 81, lp := fun i => if i = 5 then ⟨false, [0, 1, 5, 6, 7, 8, 9]⟩ else if i = 11 then ⟨false, [0, 1, 5, 6, 7, 8, 10]⟩ else ⟨false, []⟩, jn := fun i => none, dt := fun i => none }
noncomputable def c140 : Code := Tryz.f140.body.getD .skip
def rs140 : List ResultVar := [.tmp 6, .tmp 7]
def fi140 : FnI := { nt := 172, lp := fun i => if i = 36 then ⟨false, [1, 8, 9, 10, 11, 12, 13, 99, 100, 101]⟩ else ⟨false, []⟩, jn := fun i => if i = 21 then some [0, 1, 2, 8, 9] else if i = 25 then some [0, 1, 2, 8, 9] else if i = 32 then some [0, 1, 2, 8, 9, 10] else if i = 55 then some [1, 8, 9, 10, 11, 12, 13, 99, 100, 101] else if i = 46 then some [1, 8, 9, 10, 11, 12, 13, 16, 99, 100, 101] else none, dt := fun i => none }
noncomputable def c141 : Code := Tryz.f141.body.getD .skip
def rs141 : List ResultVar := [.tmp 2]
def fi141 : FnI := { nt := 18, lp := fun i => ⟨false, []⟩, jn := fun i => none, dt := fun i => none }
noncomputable def c142 : Code := Tryz.f142.body.getD .skip
def rs142 : List ResultVar := [.tmp 2]
def fi142 : FnI := { nt := 7, lp := fun i => ⟨false, []⟩, jn := fun i => none, dt := fun i => none }
noncomputable def c143 : Code := Tryz.f143.body.getD .skip
def rs143 : List ResultVar := [.tmp 2]
def fi143 : FnI := { nt := 6, lp := fun i => ⟨false, []⟩, jn := fun i => none, dt := fun i => none }
noncomputable def c144 : Code := Tryz.f144.body.getD .skip
def rs144 : List ResultVar := [.tmp 2]
def fi144 : FnI := { nt := 25, lp := fun i => ⟨false, []⟩, jn := fun i => if i = 4 then some [0, 2] else if i = 7 then some [0, 2] else if i = 10 then some [0, 2] else none, dt := fun i => none }
noncomputable def c145 : Code := Tryz.f145.body.getD .skip
def rs145 : List ResultVar := [.tmp 2]
def fi145 : FnI := { nt := 4, lp := fun i => ⟨false, []⟩, jn := fun i => none, dt := fun i => none }
noncomputable def c146 : Code := Tryz.f146.body.getD .skip
def rs146 : List ResultVar := [.tmp 2]
def fi146 : FnI := { nt := 8, lp := fun i => ⟨false, []⟩, jn := fun i => none, dt := fun i => none }
noncomputable def c147 : Code := Tryz.f147.body.getD .skip
def rs147 : List ResultVar := [.tmp 2]
def fi147 : FnI := { nt := 8, lp := fun i => ⟨false, []⟩, jn := fun i => none, dt := fun i => none }
noncomputable def c148 : Code := Tryz.f148.body.getD .skip
def rs148 : List ResultVar := [.tmp 2, .tmp 3]
def fi148 : FnI := { nt := 117, lp := fun i => ⟨false, []⟩, jn := fun i => none, dt := fun i => none }
noncomputable def c150 : Code := Tryz.f150.body.getD .skip
def rs150 : List ResultVar := [.tmp 2, .tmp 3]
def fi150 : FnI := { nt := 39, lp := fun i => if i = 3 then ⟨false, [0, 4, 5]⟩ else if i = 8 then ⟨false, [4, 6, 7, 8]⟩ else ⟨false, []⟩, jn := fun i => if i = 12 then some [4, 6, 7, 8] else none, dt := fun i => none }
noncomputable def c151 : Code := Tryz.f151.body.getD .skip
def rs151 : List ResultVar := [.tmp 2]
def fi151 : FnI := { nt := 5, lp := fun i => ⟨false, []⟩, jn := fun i => none, dt := fun i => none }
noncomputable def c152 : Code := Tryz.f152.body.getD .skip
def rs152 : List ResultVar := [.tmp 2]
def fi152 : FnI := { nt := 94, lp := fun i => if i = 10 then ⟨false, [0, 3, 4, 5]⟩ else ⟨false, []⟩, jn := fun i => if i = 5 then some [0, 3, 4] else if i = 10 then some [0, 3, 4, 5] else if i = 11 then some [0, 3, 4, 5] else none, dt := fun i => none }
noncomputable def c153 : Code := Tryz.f153.body.getD .skip
def rs153 : List ResultVar := [.tmp 2]
def fi153 : FnI := { nt := 14, lp := fun i => ⟨false, []⟩, jn := fun i => none, dt := fun i => none }
noncomputable def c154 : Code := Tryz.f154.body.getD .skip
def rs154 : List ResultVar := [.tmp 2]
def fi154 : FnI := { nt := 14, lp := fun i => ⟨false, []⟩, jn := fun i => none, dt := fun i => none }
noncomputable def codeL : List (Option Func) := [none, none, none, some Tryz.f3, some Tryz.f4, some Tryz.f5, some Tryz.f6, some Tryz.f7, some Tryz.f8, some Tryz.f9, some Tryz.f10, some Tryz.f11, some Tryz.f12, some Tryz.f13, some Tryz.f14, some Tryz.f15, some Tryz.f16, some Tryz.f17, some Tryz.f18, some Tryz.f19, some Tryz.f20, some Tryz.f21, some Tryz.f22, some Tryz.f23, some Tryz.f24, some Tryz.f25, some Tryz.f26, some Tryz.f27, some Tryz.f28, some Tryz.f29, some Tryz.f30, some Tryz.f31, some Tryz.f32, some Tryz.f33, some Tryz.f34, some Tryz.f35, some Tryz.f36, some Tryz.f37, some Tryz.f38, some Tryz.f39, some Tryz.f40, some Tryz.f41, some Tryz.f42, some Tryz.f43, some Tryz.f44, some Tryz.f45, some Tryz.f46, some Tryz.f47, some Tryz.f48, some Tryz.f49, some Tryz.f50, some Tryz.f51, some Tryz.f52, some Tryz.f53, some Tryz.f54, some Tryz.f55, some Tryz.f56, some Tryz.f57, some Tryz.f58, some Tryz.f59, some Tryz.f60, some Tryz.f61, some Tryz.f62, some Tryz.f63, some Tryz.f64, some Tryz.f65, some Tryz.f66, some Tryz.f67, some Tryz.f68, some Tryz.f69, some Tryz.f70, some Tryz.f71, some Tryz.f72, some Tryz.f73, some Tryz.f74, some Tryz.f75, some Tryz.f76, some Tryz.f77, some Tryz.f78, some Tryz.f79, some Tryz.f80, some Tryz.f81, some Tryz.f82, some Tryz.f83, some Tryz.f84, some Tryz.f85, some Tryz.f86, some Tryz.f87, some Tryz.f88, some Tryz.f89, some Tryz.f90, some Tryz.f91, some Tryz.f92, some Tryz.f93, some Tryz.f94, some Tryz.f95, some Tryz.f96, some Tryz.f97, some Tryz.f98, some Tryz.f99, some Tryz.f100, some Tryz.f101, some Tryz.f102, some Tryz.f103, some Tryz.f104, some Tryz.f105, some Tryz.f106, some Tryz.f107, some Tryz.f108, none, some Tryz.f110, some Tryz.f111, some Tryz.f112, some Tryz.f113, some Tryz.f114, some Tryz.f115, some Tryz.f116, some Tryz.f117, some Tryz.f118, some Tryz.f119, some Tryz.f120, some Tryz.f121, some Tryz.f122, some Tryz.f123, some Tryz.f124, some Tryz.f125, some Tryz.f126, some Tryz.f127, some Tryz.f128, some Tryz.f129, some Tryz.f130, some Tryz.f131, some Tryz.f132, some Tryz.f133, some Tryz.f134, none, some Tryz.f136, none, some Tryz.f138, some Tryz.f139, some Tryz.f140, some Tryz.f141, some Tryz.f142, some Tryz.f143, some Tryz.f144, some Tryz.f145, some Tryz.f146, some Tryz.f147, some Tryz.f148, none, some Tryz.f150, some Tryz.f151, some Tryz.f152, some Tryz.f153, some Tryz.f154]
def fiL : List FnI := [⟨0, fun _ => ⟨false, []⟩, fun _ => none, fun _ => none⟩, ⟨0, fun _ => ⟨false, []⟩, fun _ => none, fun _ => none⟩, ⟨0, fun _ => ⟨false, []⟩, fun _ => none, fun _ => none⟩, fi3, fi4, fi5, fi6, fi7, fi8, fi9, fi10, fi11, fi12, fi13, fi14, fi15, fi16, fi17, fi18, fi19, fi20, fi21, fi22, fi23, fi24, fi25, fi26, fi27, fi28, fi29, fi30, fi31, fi32, fi33, fi34, fi35, fi36, fi37, fi38, fi39, fi40, fi41, fi42, fi43, fi44, fi45, fi46, fi47, fi48, fi49, fi50, fi51, fi52, fi53, fi54, fi55, fi56, fi57, fi58, fi59, fi60, fi61, fi62, fi63, fi64, fi65, fi66, fi67, fi68, fi69, fi70, fi71, fi72, fi73, fi74, fi75, fi76, fi77, fi78, fi79, fi80, fi81, fi82, fi83, fi84, fi85, fi86, fi87, fi88, fi89, fi90, fi91, fi92, fi93, fi94, fi95, fi96, fi97, fi98, fi99, fi100, fi101, fi102, fi103, fi104, fi105, fi106, fi107, fi108, ⟨0, fun _ => ⟨false, []⟩, fun _ => none, fun _ => none⟩, fi110, fi111, fi112, fi113, fi114, fi115, fi116, fi117, fi118, fi119, fi120, fi121, fi122, fi123, fi124, fi125, fi126, fi127, fi128, fi129, fi130, fi131, fi132, fi133, fi134, ⟨0, fun _ => ⟨false, []⟩, fun _ => none, fun _ => none⟩, fi136, ⟨0, fun _ => ⟨false, []⟩, fun _ => none, fun _ => none⟩, fi138, fi139, fi140, fi141, fi142, fi143, fi144, fi145, fi146, fi147, fi148, ⟨0, fun _ => ⟨false, []⟩, fun _ => none, fun _ => none⟩, fi150, fi151, fi152, fi153, fi154]
def primF (f : Nat) : Option (List SV → List SO → Out) := none
def purF : Nat → List Nat := fun f => match f with | 6 => [200] | 37 => [2, 3] | 76 => [0] | 105 => [0]  | _ => []
noncomputable def prg : Prg := { T := tab, own := ownF, pur := purF, code := fun f => (codeL[f]?).getD none, fi := fun f => (fiL[f]?).getD ⟨0, fun _ => ⟨false, []⟩, fun _ => none, fun _ => none⟩, prim := primF }
noncomputable def bk3_12 (K : Nat → List SV → List SO → Out) (N nl : Nat) (m12 : Nat) : Env → List SO → Out := fun env os => loopS nl (fi3.lp 12) (fun env os nx => exec (cx K) N nl fi3 (subC c3 [1, 1, 1, 1, 1, 1, 1, 1, 1, 0, 1, 0, 0]) env os (kLoop nx (kBlock 0 (kSeq (exec (cx K) N nl fi3 (subC c3 [1, 1, 1, 1, 1, 1, 1, 1, 1, 1])) (fi3.jn 17) (kEnd tab [] nl rs3))))) m12 (killS (fi3.lp 12).alive env) os
noncomputable def J3_11 (K : Nat → List SV → List SO → Out) (N nl : Nat) (x7 x12 x13 : SV) (os : List SO) : Out := exec (cx K) N nl fi3 (subC c3 [1, 1, 1, 1, 1, 1, 1, 1, 1]) [(7, x7), (12, x12), (13, x13)] os (kEnd tab [] nl rs3)
noncomputable def L3_12 (K : Nat → List SV → List SO → Out) (N nl : Nat) (m12 : Nat) (x7 x12 x13 x14 : SV) (os : List SO) : Out := loopS nl (fi3.lp 12) (fun env os nx => exec (cx K) N nl fi3 (subC c3 [1, 1, 1, 1, 1, 1, 1, 1, 1, 0, 1, 0, 0]) env os (kLoop nx (kBlock 0 (kSeq (exec (cx K) N nl fi3 (subC c3 [1, 1, 1, 1, 1, 1, 1, 1, 1, 1])) (fi3.jn 17) (kEnd tab [] nl rs3))))) m12 [(7, x7), (12, x12), (13, x13), (14, x14)] os
noncomputable def G3_12 (K : Nat → List SV → List SO → Out) (N nl : Nat) (m12 : Nat) (xs : List SV) (os : List SO) : Out := (fun env os nx => exec (cx K) N nl fi3 (subC c3 [1, 1, 1, 1, 1, 1, 1, 1, 1, 0, 1, 0, 0]) env os (kLoop nx (kBlock 0 (kSeq (exec (cx K) N nl fi3 (subC c3 [1, 1, 1, 1, 1, 1, 1, 1, 1, 1])) (fi3.jn 17) (kEnd tab [] nl rs3))))) (zipE [7, 12, 13, 14] xs) os (bk3_12 K N nl m12)
noncomputable def J3_15 (K : Nat → List SV → List SO → Out) (N nl : Nat) (m12 : Nat) (x7 x12 x13 x14 x16 : SV) (os : List SO) : Out := exec (cx K) N nl fi3 (subC c3 [1, 1, 1, 1, 1, 1, 1, 1, 1, 0, 1, 0, 0, 1, 0, 0, 1]) [(7, x7), (12, x12), (13, x13), (14, x14), (16, x16)] os (kBlock 1 (kSeq (exec (cx K) N nl fi3 (subC c3 [1, 1, 1, 1, 1, 1, 1, 1, 1, 0, 1, 0, 0, 1, 1])) (fi3.jn 13) (kLoop (bk3_12 K N nl m12) (kBlock 0 (kSeq (exec (cx K) N nl fi3 (subC c3 [1, 1, 1, 1, 1, 1, 1, 1, 1, 1])) (fi3.jn 17) (kEnd tab [] nl rs3))))))
noncomputable def JB3_11 (K : Nat → List SV → List SO → Out) (N nl : Nat) (x7 x12 x13 : SV) (os : List SO) : Out :=
 L3_12 K N nl N x7 x12 x13 (SV.v (.int .i64 0)) os
noncomputable def GB3_12 (K : Nat → List SV → List SO → Out) (N nl : Nat) (m12 : Nat) (x7 x12 x13 x14 : SV) (os : List SO) : Out :=
 bd (lenO tab 23 os x7) fun v141 o141 =>
 bd (ret1 (binS tab .lss 3 x14 v141) o141) fun v142 o142 =>
 condS v142 (both (both (both (dchk (isBox x13) <|
 bd (ret1 (loadS tab o142 28 x13) o142) fun v143 o143 =>
 bd (ret1 (indexAddrS tab o143 23 x7 x14) o143) fun v144 o144 =>
 bd (ret1 (loadS tab o144 35 v144) o144) fun v145 o145 =>
 dchk (keepOk ⟨tab, ownF, K⟩ o145 (SV.fn 11 []) [v145] [x13] false) <|
 bd (callS ⟨tab, ownF, K⟩ o145 11 [v145]) fun v146 o146 =>
 bd (callS ⟨tab, ownF, K⟩ o146 10 [v143, v146]) fun v147 o147 =>
 bd (ret1 (extractS v147 0) o147) fun v148 o148 =>
 bd (ret1 (extractS v147 1) o148) fun v149 o149 =>
 bd (allocS tab o149 35) fun v150 o150 =>
 bd (storeO tab o150 35 v150 (some v148)) fun v151 o151 =>
 J3_15 K N nl m12 x7 x12 x13 x14 v149 o151)
 (dchk (isBox x13) <|
 bd (ret1 (loadS tab o142 28 x13) o142) fun v152 o152 =>
 bd (ret1 (indexAddrS tab o152 23 x7 x14) o152) fun v153 o153 =>
 bd (ret1 (loadS tab o153 35 v153) o153) fun v154 o154 =>
 dchk (keepOk ⟨tab, ownF, K⟩ o154 (SV.fn 11 []) [v154] [x13] false) <|
 bd (callS ⟨tab, ownF, K⟩ o154 11 [v154]) fun v155 o155 =>
 bd (allocS tab o155 35) fun v156 o156 =>
 bd (callS ⟨tab, ownF, K⟩ o156 10 [v152, v155]) fun v157 o157 =>
 bd (ret1 (extractS v157 0) o157) fun v158 o158 =>
 bd (ret1 (extractS v157 1) o158) fun v159 o159 =>
 bd (storeO tab o159 35 v156 (some v158)) fun v160 o160 =>
 J3_15 K N nl m12 x7 x12 x13 x14 v159 o160))
 (dchk (isBox x13) <|
 bd (ret1 (loadS tab o142 28 x13) o142) fun v161 o161 =>
 bd (ret1 (indexAddrS tab o161 23 x7 x14) o161) fun v162 o162 =>
 dchk (isBox v162) <|
 bd (ret1 (loadS tab o162 35 v162) o162) fun v163 o163 =>
 bd (allocS tab o163 35) fun v164 o164 =>
 dchk (keepOk ⟨tab, ownF, K⟩ o164 (SV.fn 11 []) [v163] [x13] false) <|
 bd (callS ⟨tab, ownF, K⟩ o164 11 [v163]) fun v165 o165 =>
 bd (callS ⟨tab, ownF, K⟩ o165 10 [v161, v165]) fun v166 o166 =>
 bd (ret1 (extractS v166 0) o166) fun v167 o167 =>
 bd (ret1 (extractS v166 1) o167) fun v168 o168 =>
 bd (storeO tab o168 35 v164 (some v167)) fun v169 o169 =>
 J3_15 K N nl m12 x7 x12 x13 x14 v168 o169))
 (dchk (isBox x13) <|
 bd (ret1 (loadS tab o142 28 x13) o142) fun v170 o170 =>
 bd (allocS tab o170 35) fun v171 o171 =>
 bd (ret1 (indexAddrS tab o171 23 x7 x14) o171) fun v172 o172 =>
 bd (ret1 (loadS tab o172 35 v172) o172) fun v173 o173 =>
 dchk (keepOk ⟨tab, ownF, K⟩ o173 (SV.fn 11 []) [v173] [x13] false) <|
 bd (callS ⟨tab, ownF, K⟩ o173 11 [v173]) fun v174 o174 =>
 bd (callS ⟨tab, ownF, K⟩ o174 10 [v170, v174]) fun v175 o175 =>
 bd (ret1 (extractS v175 0) o175) fun v176 o176 =>
 bd (ret1 (extractS v175 1) o176) fun v177 o177 =>
 bd (storeO tab o177 35 v171 (some v176)) fun v178 o178 =>
 J3_15 K N nl m12 x7 x12 x13 x14 v177 o178))
 (retV tab nl o142 (resC1 (some (SV.v (.bool true))) (some [])))
noncomputable def JB3_15 (K : Nat → List SV → List SO → Out) (N nl : Nat) (m12 : Nat) (x7 x12 x13 x14 x16 : SV) (os : List SO) : Out :=
 bd (ret1 (binS tab .neq 3 x14 x12) os) fun v179 o179 =>
 bd (ret1 (binS tab .neq 4 x16 v179) o179) fun v180 o180 =>
 condS v180 (retV tab nl o180 (resC1 (some (SV.v (.bool false))) (some [])))
 (bd (ret1 (binS tab .add 3 x14 (SV.v (.int .i64 1))) o180) fun v181 o181 =>
 L3_12 K N nl m12 x7 x12 x13 v181 o181)
noncomputable def X3 (K : Nat → List SV → List SO → Out) (N nl : Nat) (x0 x1 : SV) (os : List SO) : Out := exec (cx K) N nl fi3 c3 [(0, x0), (1, x1)] os (kEnd tab [] nl rs3)
noncomputable def B3 (K : Nat → List SV → List SO → Out) (N nl : Nat) (x0 x1 : SV) (os : List SO) : Out :=
 bd (lenO tab 22 os x0) fun v1 o1 =>
 bd (ret1 (binS tab .gtr 3 v1 (SV.v (.int .i64 1048576))) o1) fun v2 o2 =>
 bd (gd v2 false (some (x1, o2)) o2) fun v3 o3 =>
 bd (gd v2 false (lenO tab 22 o3 v3) o3) fun v4 o4 =>
 bd (gd v2 false (ret1 (binS tab .gtr 3 v4 (SV.v (.int .i64 1048576))) o4) o4) fun v5 o5 =>
 bd (ret1 (pickS v2 (SV.v (.bool true)) v5) o5) fun v6 o6 =>
 condS v6 (retV tab nl o6 (resC1 (some (SV.v (.bool true))) (some [])))
 (bd (callS ⟨tab, ownF, K⟩ o6 6 [x0]) fun v7 o7 =>
 bd (ret1 (extractS v7 0) o7) fun v8 o8 =>
 bd (ret1 (extractS v7 1) o8) fun v9 o9 =>
 bd (ret1 (extractS v7 2) o9) fun v10 o10 =>
 bd (callS ⟨tab, ownF, K⟩ o10 7 [v8, v9, v10]) fun v11 o11 =>
 bd (ret1 (extractS v11 0) o11) fun v12 o12 =>
 bd (ret1 (extractS v11 1) o12) fun v13 o13 =>
 bd (allocS tab o13 28) fun v14 o14 =>
 bd (storeO tab o14 28 v14 (some v12)) fun v15 o15 =>
 bd (callS ⟨tab, ownF, K⟩ o15 8 [v8, v9, v10]) fun v16 o16 =>
 bd (ret1 (extractS v16 0) o16) fun v17 o17 =>
 bd (ret1 (extractS v16 1) o17) fun v18 o18 =>
 bd (allocS tab o18 28) fun v19 o19 =>
 bd (storeO tab o19 28 v19 (some v17)) fun v20 o20 =>
 bd (ret1 (binS tab .neq 4 v18 v13) o20) fun v21 o21 =>
 bd (gd v21 false (ret1 (loadS tab o21 28 v19) o21) o21) fun v22 o22 =>
 bd (gd v21 false (ret1 (loadS tab o22 28 v14) o22) o22) fun v23 o23 =>
 bd (gd v21 false (callS ⟨tab, ownF, K⟩ o23 9 [v22, v23]) o23) fun v24 o24 =>
 bd (gd v21 false (ret1 (unS .not v24) o24) o24) fun v25 o25 =>
 bd (ret1 (pickS v21 (SV.v (.bool true)) v25) o25) fun v26 o26 =>
 bd (gd v26 false (some (v18, o26)) o26) fun v27 o27 =>
 bd (gd v26 false (ret1 (unS .not v27) o27) o27) fun v28 o28 =>
 bd (ret1 (pickS v26 (SV.v (.bool true)) v28) o28) fun v29 o29 =>
 bd (gd v29 false (some (v10, o29)) o29) fun v30 o30 =>
 bd (gd v29 false (lenO tab 23 o30 v30) o30) fun v31 o31 =>
 bd (gd v29 false (ret1 (binS tab .eql 3 v31 (SV.v (.int .i64 0))) o31) o31) fun v32 o32 =>
 bd (ret1 (pickS v29 (SV.v (.bool true)) v32) o32) fun v33 o33 =>
 condS v33 (bd (ret1 (binS tab .eql 4 v18 v13) o33) fun v34 o34 =>
 bd (gd v34 true (ret1 (loadS tab o34 28 v19) o34) o34) fun v35 o35 =>
 bd (gd v34 true (ret1 (loadS tab o35 28 v14) o35) o35) fun v36 o36 =>
 bd (gd v34 true (callS ⟨tab, ownF, K⟩ o36 9 [v35, v36]) o36) fun v37 o37 =>
 bd (ret1 (pickS v34 v37 (SV.v (.bool false))) o37) fun v38 o38 =>
 retV tab nl o38 (resC1 (some v38) (some [])))
 (bd (lenO tab 22 o33 x1) fun v39 o39 =>
 bd (lenO tab 23 o39 v10) fun v40 o40 =>
 bd (ret1 (binS tab .rem 3 v39 v40) o40) fun v41 o41 =>
 bd (ret1 (loadS tab o41 28 v19) o41) fun v42 o42 =>
 bd (allocS tab o42 28) fun v43 o43 =>
 bd (storeO tab o43 28 v43 (some v42)) fun v44 o44 =>
 both (both (bd (buildSliceS tab o44 26 0 []) fun v45 o45 =>
 bd (ret1 (fieldAddrS tab 28 v19 2) o45) fun v46 o46 =>
 dchk (isBox v46) <|
 bd (ret1 (loadS tab o46 26 v46) o46) fun v47 o47 =>
 bd (ret1 (sliceS tab o47 26 v47 none (some v41)) o47) fun v48 o48 =>
 bd (appendS tab o48 26 26 v45 v48) fun v49 o49 =>
 bd (ret1 (fieldAddrS tab 28 v19 2) o49) fun v50 o50 =>
 bd (ret1 (loadS tab o50 26 v50) o50) fun v51 o51 =>
 bd (ret1 (binS tab .add 3 v41 (SV.v (.int .i64 1))) o51) fun v52 o52 =>
 bd (ret1 (sliceS tab o52 26 v51 (some v52) none) o52) fun v53 o53 =>
 bd (appendS tab o53 26 26 v49 v53) fun v54 o54 =>
 bd (ret1 (fieldAddrS tab 28 v43 2) o54) fun v55 o55 =>
 bd (storeO tab o55 26 v55 (some v54)) fun v56 o56 =>
 J3_11 K N nl v10 v41 v43 o56)
 (both (both (bd (buildSliceS tab o44 26 0 []) fun v57 o57 =>
 bd (ret1 (fieldAddrS tab 28 v19 2) o57) fun v58 o58 =>
 dchk (isBox v58) <|
 bd (ret1 (loadS tab o58 26 v58) o58) fun v59 o59 =>
 bd (ret1 (sliceS tab o59 26 v59 none (some v41)) o59) fun v60 o60 =>
 bd (ret1 (fieldAddrS tab 28 v19 2) o60) fun v61 o61 =>
 dchk (isBox v61) <|
 bd (ret1 (loadS tab o61 26 v61) o61) fun v62 o62 =>
 bd (appendS tab o62 26 26 v57 v60) fun v63 o63 =>
 bd (ret1 (binS tab .add 3 v41 (SV.v (.int .i64 1))) o63) fun v64 o64 =>
 bd (ret1 (sliceS tab o64 26 v62 (some v64) none) o64) fun v65 o65 =>
 bd (appendS tab o65 26 26 v63 v65) fun v66 o66 =>
 bd (ret1 (fieldAddrS tab 28 v43 2) o66) fun v67 o67 =>
 bd (storeO tab o67 26 v67 (some v66)) fun v68 o68 =>
 J3_11 K N nl v10 v41 v43 o68)
 (bd (buildSliceS tab o44 26 0 []) fun v69 o69 =>
 bd (ret1 (fieldAddrS tab 28 v19 2) o69) fun v70 o70 =>
 dchk (isBox v70) <|
 bd (ret1 (loadS tab o70 26 v70) o70) fun v71 o71 =>
 bd (ret1 (sliceS tab o71 26 v71 none (some v41)) o71) fun v72 o72 =>
 bd (ret1 (fieldAddrS tab 28 v19 2) o72) fun v73 o73 =>
 dchk (isBox v73) <|
 bd (ret1 (loadS tab o73 26 v73) o73) fun v74 o74 =>
 bd (ret1 (binS tab .add 3 v41 (SV.v (.int .i64 1))) o74) fun v75 o75 =>
 bd (ret1 (sliceS tab o75 26 v74 (some v75) none) o75) fun v76 o76 =>
 bd (appendS tab o76 26 26 v69 v72) fun v77 o77 =>
 bd (appendS tab o77 26 26 v77 v76) fun v78 o78 =>
 bd (ret1 (fieldAddrS tab 28 v43 2) o78) fun v79 o79 =>
 bd (storeO tab o79 26 v79 (some v78)) fun v80 o80 =>
 J3_11 K N nl v10 v41 v43 o80))
 (bd (ret1 (fieldAddrS tab 28 v19 2) o44) fun v81 o81 =>
 dchk (isBox v81) <|
 bd (ret1 (loadS tab o81 26 v81) o81) fun v82 o82 =>
 bd (ret1 (fieldAddrS tab 28 v19 2) o82) fun v83 o83 =>
 bd (ret1 (loadS tab o83 26 v83) o83) fun v84 o84 =>
 bd (ret1 (binS tab .add 3 v41 (SV.v (.int .i64 1))) o84) fun v85 o85 =>
 bd (ret1 (sliceS tab o85 26 v84 (some v85) none) o85) fun v86 o86 =>
 bd (buildSliceS tab o86 26 0 []) fun v87 o87 =>
 bd (ret1 (sliceS tab o87 26 v82 none (some v41)) o87) fun v88 o88 =>
 bd (appendS tab o88 26 26 v87 v88) fun v89 o89 =>
 bd (appendS tab o89 26 26 v89 v86) fun v90 o90 =>
 bd (ret1 (fieldAddrS tab 28 v43 2) o90) fun v91 o91 =>
 bd (storeO tab o91 26 v91 (some v90)) fun v92 o92 =>
 J3_11 K N nl v10 v41 v43 o92)))
 (both (bd (ret1 (fieldAddrS tab 28 v19 2) o44) fun v93 o93 =>
 bd (ret1 (loadS tab o93 26 v93) o93) fun v94 o94 =>
 bd (ret1 (sliceS tab o94 26 v94 none (some v41)) o94) fun v95 o95 =>
 bd (buildSliceS tab o95 26 0 []) fun v96 o96 =>
 bd (appendS tab o96 26 26 v96 v95) fun v97 o97 =>
 bd (ret1 (fieldAddrS tab 28 v19 2) o97) fun v98 o98 =>
 bd (ret1 (loadS tab o98 26 v98) o98) fun v99 o99 =>
 bd (ret1 (binS tab .add 3 v41 (SV.v (.int .i64 1))) o99) fun v100 o100 =>
 bd (ret1 (sliceS tab o100 26 v99 (some v100) none) o100) fun v101 o101 =>
 bd (appendS tab o101 26 26 v97 v101) fun v102 o102 =>
 bd (ret1 (fieldAddrS tab 28 v43 2) o102) fun v103 o103 =>
 bd (storeO tab o103 26 v103 (some v102)) fun v104 o104 =>
 J3_11 K N nl v10 v41 v43 o104)
 (both (both (bd (ret1 (fieldAddrS tab 28 v19 2) o44) fun v105 o105 =>
 bd (ret1 (loadS tab o105 26 v105) o105) fun v106 o106 =>
 bd (ret1 (sliceS tab o106 26 v106 none (some v41)) o106) fun v107 o107 =>
 bd (buildSliceS tab o107 26 0 []) fun v108 o108 =>
 bd (ret1 (fieldAddrS tab 28 v19 2) o108) fun v109 o109 =>
 dchk (isBox v109) <|
 bd (ret1 (loadS tab o109 26 v109) o109) fun v110 o110 =>
 bd (appendS tab o110 26 26 v108 v107) fun v111 o111 =>
 bd (ret1 (binS tab .add 3 v41 (SV.v (.int .i64 1))) o111) fun v112 o112 =>
 bd (ret1 (sliceS tab o112 26 v110 (some v112) none) o112) fun v113 o113 =>
 bd (appendS tab o113 26 26 v111 v113) fun v114 o114 =>
 bd (ret1 (fieldAddrS tab 28 v43 2) o114) fun v115 o115 =>
 bd (storeO tab o115 26 v115 (some v114)) fun v116 o116 =>
 J3_11 K N nl v10 v41 v43 o116)
 (bd (ret1 (fieldAddrS tab 28 v19 2) o44) fun v117 o117 =>
 bd (ret1 (loadS tab o117 26 v117) o117) fun v118 o118 =>
 bd (ret1 (sliceS tab o118 26 v118 none (some v41)) o118) fun v119 o119 =>
 bd (buildSliceS tab o119 26 0 []) fun v120 o120 =>
 bd (ret1 (fieldAddrS tab 28 v19 2) o120) fun v121 o121 =>
 dchk (isBox v121) <|
 bd (ret1 (loadS tab o121 26 v121) o121) fun v122 o122 =>
 bd (ret1 (binS tab .add 3 v41 (SV.v (.int .i64 1))) o122) fun v123 o123 =>
 bd (ret1 (sliceS tab o123 26 v122 (some v123) none) o123) fun v124 o124 =>
 bd (appendS tab o124 26 26 v120 v119) fun v125 o125 =>
 bd (appendS tab o125 26 26 v125 v124) fun v126 o126 =>
 bd (ret1 (fieldAddrS tab 28 v43 2) o126) fun v127 o127 =>
 bd (storeO tab o127 26 v127 (some v126)) fun v128 o128 =>
 J3_11 K N nl v10 v41 v43 o128))
 (bd (ret1 (fieldAddrS tab 28 v19 2) o44) fun v129 o129 =>
 bd (ret1 (loadS tab o129 26 v129) o129) fun v130 o130 =>
 bd (ret1 (sliceS tab o130 26 v130 none (some v41)) o130) fun v131 o131 =>
 bd (ret1 (fieldAddrS tab 28 v19 2) o131) fun v132 o132 =>
 bd (ret1 (loadS tab o132 26 v132) o132) fun v133 o133 =>
 bd (ret1 (binS tab .add 3 v41 (SV.v (.int .i64 1))) o133) fun v134 o134 =>
 bd (ret1 (sliceS tab o134 26 v133 (some v134) none) o134) fun v135 o135 =>
 bd (buildSliceS tab o135 26 0 []) fun v136 o136 =>
 bd (appendS tab o136 26 26 v136 v131) fun v137 o137 =>
 bd (appendS tab o137 26 26 v137 v135) fun v138 o138 =>
 bd (ret1 (fieldAddrS tab 28 v43 2) o138) fun v139 o139 =>
 bd (storeO tab o139 26 v139 (some v138)) fun v140 o140 =>
 J3_11 K N nl v10 v41 v43 o140)))))
noncomputable def bk4_9 (K : Nat → List SV → List SO → Out) (N nl : Nat) (m9 : Nat) : Env → List SO → Out := fun env os => loopS nl (fi4.lp 9) (fun env os nx => exec (cx K) N nl fi4 (subC c4 [1, 1, 1, 1, 1, 1, 0, 1, 0, 0]) env os (kLoop nx (kBlock 0 (kSeq (exec (cx K) N nl fi4 (subC c4 [1, 1, 1, 1, 1, 1, 1])) (fi4.jn 14) (kEnd tab [] nl rs4))))) m9 (killS (fi4.lp 9).alive env) os
noncomputable def L4_9 (K : Nat → List SV → List SO → Out) (N nl : Nat) (m9 : Nat) (x3 x4 x5 x8 x10 : SV) (os : List SO) : Out := loopS nl (fi4.lp 9) (fun env os nx => exec (cx K) N nl fi4 (subC c4 [1, 1, 1, 1, 1, 1, 0, 1, 0, 0]) env os (kLoop nx (kBlock 0 (kSeq (exec (cx K) N nl fi4 (subC c4 [1, 1, 1, 1, 1, 1, 1])) (fi4.jn 14) (kEnd tab [] nl rs4))))) m9 [(3, x3), (4, x4), (5, x5), (8, x8), (10, x10)] os
noncomputable def G4_9 (K : Nat → List SV → List SO → Out) (N nl : Nat) (m9 : Nat) (xs : List SV) (os : List SO) : Out := (fun env os nx => exec (cx K) N nl fi4 (subC c4 [1, 1, 1, 1, 1, 1, 0, 1, 0, 0]) env os (kLoop nx (kBlock 0 (kSeq (exec (cx K) N nl fi4 (subC c4 [1, 1, 1, 1, 1, 1, 1])) (fi4.jn 14) (kEnd tab [] nl rs4))))) (zipE [3, 4, 5, 8, 10] xs) os (bk4_9 K N nl m9)
noncomputable def J4_12 (K : Nat → List SV → List SO → Out) (N nl : Nat) (m9 : Nat) (x3 x4 x5 x8 x10 x11 x12 : SV) (os : List SO) : Out := exec (cx K) N nl fi4 (subC c4 [1, 1, 1, 1, 1, 1, 0, 1, 0, 0, 1, 0, 0, 1]) [(3, x3), (4, x4), (5, x5), (8, x8), (10, x10), (11, x11), (12, x12)] os (kBlock 1 (kSeq (exec (cx K) N nl fi4 (subC c4 [1, 1, 1, 1, 1, 1, 0, 1, 0, 0, 1, 1])) (fi4.jn 10) (kLoop (bk4_9 K N nl m9) (kBlock 0 (kSeq (exec (cx K) N nl fi4 (subC c4 [1, 1, 1, 1, 1, 1, 1])) (fi4.jn 14) (kEnd tab [] nl rs4))))))
noncomputable def GB4_9 (K : Nat → List SV → List SO → Out) (N nl : Nat) (m9 : Nat) (x3 x4 x5 x8 x10 : SV) (os : List SO) : Out :=
 bd (lenO tab 23 os x5) fun v31 o31 =>
 bd (ret1 (binS tab .lss 3 x10 v31) o31) fun v32 o32 =>
 condS v32 (both (both (both (dchk (isBox x8) <|
 bd (ret1 (loadS tab o32 28 x8) o32) fun v33 o33 =>
 bd (ret1 (indexAddrS tab o33 23 x5 x10) o33) fun v34 o34 =>
 bd (ret1 (loadS tab o34 35 v34) o34) fun v35 o35 =>
 dchk (keepOk ⟨tab, ownF, K⟩ o35 (SV.fn 11 []) [v35] [x8] false) <|
 bd (callS ⟨tab, ownF, K⟩ o35 11 [v35]) fun v36 o36 =>
 bd (callS ⟨tab, ownF, K⟩ o36 10 [v33, v36]) fun v37 o37 =>
 bd (ret1 (extractS v37 0) o37) fun v38 o38 =>
 bd (ret1 (extractS v37 1) o38) fun v39 o39 =>
 bd (allocS tab o39 35) fun v40 o40 =>
 bd (storeO tab o40 35 v40 (some v38)) fun v41 o41 =>
 J4_12 K N nl m9 x3 x4 x5 x8 x10 v40 v39 o41)
 (dchk (isBox x8) <|
 bd (ret1 (loadS tab o32 28 x8) o32) fun v42 o42 =>
 bd (ret1 (indexAddrS tab o42 23 x5 x10) o42) fun v43 o43 =>
 bd (ret1 (loadS tab o43 35 v43) o43) fun v44 o44 =>
 dchk (keepOk ⟨tab, ownF, K⟩ o44 (SV.fn 11 []) [v44] [x8] false) <|
 bd (callS ⟨tab, ownF, K⟩ o44 11 [v44]) fun v45 o45 =>
 bd (allocS tab o45 35) fun v46 o46 =>
 bd (callS ⟨tab, ownF, K⟩ o46 10 [v42, v45]) fun v47 o47 =>
 bd (ret1 (extractS v47 0) o47) fun v48 o48 =>
 bd (ret1 (extractS v47 1) o48) fun v49 o49 =>
 bd (storeO tab o49 35 v46 (some v48)) fun v50 o50 =>
 J4_12 K N nl m9 x3 x4 x5 x8 x10 v46 v49 o50))
 (dchk (isBox x8) <|
 bd (ret1 (loadS tab o32 28 x8) o32) fun v51 o51 =>
 bd (ret1 (indexAddrS tab o51 23 x5 x10) o51) fun v52 o52 =>
 dchk (isBox v52) <|
 bd (ret1 (loadS tab o52 35 v52) o52) fun v53 o53 =>
 bd (allocS tab o53 35) fun v54 o54 =>
 dchk (keepOk ⟨tab, ownF, K⟩ o54 (SV.fn 11 []) [v53] [x8] false) <|
 bd (callS ⟨tab, ownF, K⟩ o54 11 [v53]) fun v55 o55 =>
 bd (callS ⟨tab, ownF, K⟩ o55 10 [v51, v55]) fun v56 o56 =>
 bd (ret1 (extractS v56 0) o56) fun v57 o57 =>
 bd (ret1 (extractS v56 1) o57) fun v58 o58 =>
 bd (storeO tab o58 35 v54 (some v57)) fun v59 o59 =>
 J4_12 K N nl m9 x3 x4 x5 x8 x10 v54 v58 o59))
 (dchk (isBox x8) <|
 bd (ret1 (loadS tab o32 28 x8) o32) fun v60 o60 =>
 bd (allocS tab o60 35) fun v61 o61 =>
 bd (ret1 (indexAddrS tab o61 23 x5 x10) o61) fun v62 o62 =>
 bd (ret1 (loadS tab o62 35 v62) o62) fun v63 o63 =>
 dchk (keepOk ⟨tab, ownF, K⟩ o63 (SV.fn 11 []) [v63] [x8] false) <|
 bd (callS ⟨tab, ownF, K⟩ o63 11 [v63]) fun v64 o64 =>
 bd (callS ⟨tab, ownF, K⟩ o64 10 [v60, v64]) fun v65 o65 =>
 bd (ret1 (extractS v65 0) o65) fun v66 o66 =>
 bd (ret1 (extractS v65 1) o66) fun v67 o67 =>
 bd (storeO tab o67 35 v61 (some v66)) fun v68 o68 =>
 J4_12 K N nl m9 x3 x4 x5 x8 x10 v61 v67 o68))
 (bd (ret1 (fieldAddrS tab 28 x8 2) o32) fun v69 o69 =>
 bd (ret1 (loadS tab o69 26 v69) o69) fun v70 o70 =>
 bd (lenO tab 26 o70 v70) fun v71 o71 =>
 bd (lenO tab 23 o71 x5) fun v72 o72 =>
 bd (ret1 (binS tab .eql 3 v71 v72) o72) fun v73 o73 =>
 bd (gd v73 true (ret1 (fieldAddrS tab 28 x8 0) o73) o73) fun v74 o74 =>
 bd (gd v73 true (ret1 (loadS tab o74 3 v74) o74) o74) fun v75 o75 =>
 bd (gd v73 true (some (x3, o75)) o75) fun v76 o76 =>
 bd (gd v73 true (ret1 (binS tab .eql 3 v75 v76) o76) o76) fun v77 o77 =>
 bd (ret1 (pickS v73 v77 (SV.v (.bool false))) o77) fun v78 o78 =>
 bd (gd v78 true (ret1 (fieldAddrS tab 28 x8 1) o78) o78) fun v79 o79 =>
 bd (gd v78 true (ret1 (loadS tab o79 3 v79) o79) o79) fun v80 o80 =>
 bd (gd v78 true (some (x4, o80)) o80) fun v81 o81 =>
 bd (gd v78 true (ret1 (binS tab .eql 3 v80 v81) o81) o81) fun v82 o82 =>
 bd (ret1 (pickS v78 v82 (SV.v (.bool false))) o82) fun v83 o83 =>
 bd (gd v83 true (ret1 (loadS tab o83 28 x8) o83) o83) fun v84 o84 =>
 bd (gd v83 true (callS ⟨tab, ownF, K⟩ o84 13 [v84]) o84) fun v85 o85 =>
 bd (ret1 (pickS v83 v85 (SV.v (.bool false))) o85) fun v86 o86 =>
 retV tab nl o86 (resC1 (some v86) (some [])))
noncomputable def JB4_12 (K : Nat → List SV → List SO → Out) (N nl : Nat) (m9 : Nat) (x3 x4 x5 x8 x10 x11 x12 : SV) (os : List SO) : Out :=
 bd (ret1 (unS .not x12) os) fun v87 o87 =>
 bd (gd v87 false (ret1 (loadS tab o87 35 x11) o87) o87) fun v88 o88 =>
 bd (gd v87 false (some (x5, o88)) o88) fun v89 o89 =>
 bd (gd v87 false (some (x10, o89)) o89) fun v90 o90 =>
 bd (gd v87 false (ret1 (indexAddrS tab o90 23 v89 v90) o90) o90) fun v91 o91 =>
 bd (gd v87 false (ret1 (loadS tab o91 35 v91) o91) o91) fun v92 o92 =>
 bd (gd v87 false (callS ⟨tab, ownF, K⟩ o92 12 [v88, v92]) o92) fun v93 o93 =>
 bd (gd v87 false (ret1 (unS .not v93) o93) o93) fun v94 o94 =>
 bd (ret1 (pickS v87 (SV.v (.bool true)) v94) o94) fun v95 o95 =>
 condS v95 (retV tab nl o95 (resC1 (some (SV.v (.bool false))) (some [])))
 (bd (ret1 (binS tab .add 3 x10 (SV.v (.int .i64 1))) o95) fun v96 o96 =>
 L4_9 K N nl m9 x3 x4 x5 x8 v96 o96)
noncomputable def X4 (K : Nat → List SV → List SO → Out) (N nl : Nat) (x0 : SV) (os : List SO) : Out := exec (cx K) N nl fi4 c4 [(0, x0)] os (kEnd tab [] nl rs4)
noncomputable def B4 (K : Nat → List SV → List SO → Out) (N nl : Nat) (x0 : SV) (os : List SO) : Out :=
 bd (lenO tab 22 os x0) fun v1 o1 =>
 bd (ret1 (binS tab .gtr 3 v1 (SV.v (.int .i64 1048576))) o1) fun v2 o2 =>
 condS v2 (retV tab nl o2 (resC1 (some (SV.v (.bool true))) (some [])))
 (bd (callS ⟨tab, ownF, K⟩ o2 6 [x0]) fun v3 o3 =>
 bd (ret1 (extractS v3 0) o3) fun v4 o4 =>
 bd (ret1 (extractS v3 1) o4) fun v5 o5 =>
 bd (ret1 (extractS v3 2) o5) fun v6 o6 =>
 bd (callS ⟨tab, ownF, K⟩ o6 7 [v4, v5, v6]) fun v7 o7 =>
 bd (ret1 (extractS v7 0) o7) fun v8 o8 =>
 bd (ret1 (extractS v7 1) o8) fun v9 o9 =>
 bd (allocS tab o9 28) fun v10 o10 =>
 bd (storeO tab o10 28 v10 (some v8)) fun v11 o11 =>
 bd (callS ⟨tab, ownF, K⟩ o11 8 [v4, v5, v6]) fun v12 o12 =>
 bd (ret1 (extractS v12 0) o12) fun v13 o13 =>
 bd (ret1 (extractS v12 1) o13) fun v14 o14 =>
 bd (allocS tab o14 28) fun v15 o15 =>
 bd (storeO tab o15 28 v15 (some v13)) fun v16 o16 =>
 bd (ret1 (binS tab .neq 4 v14 v9) o16) fun v17 o17 =>
 bd (gd v17 false (ret1 (loadS tab o17 28 v15) o17) o17) fun v18 o18 =>
 bd (gd v17 false (ret1 (loadS tab o18 28 v10) o18) o18) fun v19 o19 =>
 bd (gd v17 false (callS ⟨tab, ownF, K⟩ o19 9 [v18, v19]) o19) fun v20 o20 =>
 bd (gd v17 false (ret1 (unS .not v20) o20) o20) fun v21 o21 =>
 bd (ret1 (pickS v17 (SV.v (.bool true)) v21) o21) fun v22 o22 =>
 bd (gd v22 false (some (v14, o22)) o22) fun v23 o23 =>
 bd (gd v22 false (ret1 (unS .not v23) o23) o23) fun v24 o24 =>
 bd (ret1 (pickS v22 (SV.v (.bool true)) v24) o24) fun v25 o25 =>
 condS v25 (bd (ret1 (binS tab .eql 4 v14 v9) o25) fun v26 o26 =>
 bd (gd v26 true (ret1 (loadS tab o26 28 v15) o26) o26) fun v27 o27 =>
 bd (gd v26 true (ret1 (loadS tab o27 28 v10) o27) o27) fun v28 o28 =>
 bd (gd v26 true (callS ⟨tab, ownF, K⟩ o28 9 [v27, v28]) o28) fun v29 o29 =>
 bd (ret1 (pickS v26 v29 (SV.v (.bool false))) o29) fun v30 o30 =>
 retV tab nl o30 (resC1 (some v30) (some [])))
 (L4_9 K N nl N v4 v5 v6 v15 (SV.v (.int .i64 0)) o25))
noncomputable def X6 (K : Nat → List SV → List SO → Out) (N nl : Nat) (x0 : SV) (os : List SO) : Out := exec (cx K) N nl fi6 c6 [(0, x0)] os (kEnd tab [200] nl rs6)
noncomputable def B6 (K : Nat → List SV → List SO → Out) (N nl : Nat) (x0 : SV) (os : List SO) : Out :=
 bd (evN tab 23 os none) fun v1 o1 =>
 bd (callS ⟨tab, ownF, K⟩ o1 27 [x0]) fun v2 o2 =>
 bd (callS ⟨tab, ownF, K⟩ o2 28 [v2, (SV.v (.int .i64 9))]) fun v3 o3 =>
 bd (callS ⟨tab, ownF, K⟩ o3 28 [v2, (SV.v (.int .i64 24))]) fun v4 o4 =>
 bd (ret1 (binS tab .quo 3 v4 (SV.v (.int .i64 23))) o4) fun v5 o5 =>
 bd (ret1 (binS tab .mul 3 v5 (SV.v (.int .i64 30))) o5) fun v6 o6 =>
 bd (ret1 (binS tab .add 3 v3 v6) o6) fun v7 o7 =>
 bd (callS ⟨tab, ownF, K⟩ o7 28 [v2, (SV.v (.int .i64 12))]) fun v8 o8 =>
 bd (callS ⟨tab, ownF, K⟩ o8 28 [v2, (SV.v (.int .i64 24))]) fun v9 o9 =>
 bd (ret1 (binS tab .quo 3 v9 (SV.v (.int .i64 23))) o9) fun v10 o10 =>
 bd (ret1 (binS tab .mul 3 v10 (SV.v (.int .i64 60))) o10) fun v11 o11 =>
 bd (ret1 (binS tab .add 3 v8 v11) o11) fun v12 o12 =>
 bd (callS ⟨tab, ownF, K⟩ o12 29 [v2]) fun v13 o13 =>
 retP tab [200] nl o13 (resC1 (some v7) (resC1 (some v12) (resC1 (some v13) (some []))))
noncomputable def bk7_5 (K : Nat → List SV → List SO → Out) (N nl : Nat) (m5 : Nat) : Env → List SO → Out := fun env os => loopS nl (fi7.lp 5) (fun env os nx => exec (cx K) N nl fi7 (subC c7 [1, 1, 1, 0, 1, 0, 0]) env os (kLoop nx (kBlock 0 (kSeq (exec (cx K) N nl fi7 (subC c7 [1, 1, 1, 1])) (fi7.jn 8) (kEnd tab [] nl rs7))))) m5 (killS (fi7.lp 5).alive env) os
noncomputable def L7_5 (K : Nat → List SV → List SO → Out) (N nl : Nat) (m5 : Nat) (x2 x6 x8 x9 : SV) (os : List SO) : Out := loopS nl (fi7.lp 5) (fun env os nx => exec (cx K) N nl fi7 (subC c7 [1, 1, 1, 0, 1, 0, 0]) env os (kLoop nx (kBlock 0 (kSeq (exec (cx K) N nl fi7 (subC c7 [1, 1, 1, 1])) (fi7.jn 8) (kEnd tab [] nl rs7))))) m5 [(2, x2), (6, x6), (8, x8), (9, x9)] os
noncomputable def G7_5 (K : Nat → List SV → List SO → Out) (N nl : Nat) (m5 : Nat) (xs : List SV) (os : List SO) : Out := (fun env os nx => exec (cx K) N nl fi7 (subC c7 [1, 1, 1, 0, 1, 0, 0]) env os (kLoop nx (kBlock 0 (kSeq (exec (cx K) N nl fi7 (subC c7 [1, 1, 1, 1])) (fi7.jn 8) (kEnd tab [] nl rs7))))) (zipE [2, 6, 8, 9] xs) os (bk7_5 K N nl m5)
noncomputable def J7_6 (K : Nat → List SV → List SO → Out) (N nl : Nat) (m5 : Nat) (x2 x6 x8 x9 : SV) (os : List SO) : Out := exec (cx K) N nl fi7 (subC c7 [1, 1, 1, 0, 1, 0, 0, 1, 1]) [(2, x2), (6, x6), (8, x8), (9, x9)] os (kLoop (bk7_5 K N nl m5) (kBlock 0 (kSeq (exec (cx K) N nl fi7 (subC c7 [1, 1, 1, 1])) (fi7.jn 8) (kEnd tab [] nl rs7))))
noncomputable def GB7_5 (K : Nat → List SV → List SO → Out) (N nl : Nat) (m5 : Nat) (x2 x6 x8 x9 : SV) (os : List SO) : Out :=
 bd (lenO tab 23 os x2) fun v10 o10 =>
 bd (ret1 (binS tab .lss 3 x9 v10) o10) fun v11 o11 =>
 condS v11 (both (both (bd (ret1 (fieldAddrS tab 28 x8 2) o11) fun v12 o12 =>
 dchk (isBox v12) <|
 bd (ret1 (loadS tab o12 26 v12) o12) fun v13 o13 =>
 bd (ret1 (indexAddrS tab o13 23 x2 x9) o13) fun v14 o14 =>
 bd (ret1 (fieldAddrS tab 35 v14 0) o14) fun v15 o15 =>
 dchk (isBox v15) <|
 bd (ret1 (loadS tab o15 3 v15) o15) fun v16 o16 =>
 bd (ret1 (indexAddrS tab o16 23 x2 x9) o16) fun v17 o17 =>
 bd (ret1 (fieldAddrS tab 35 v17 1) o17) fun v18 o18 =>
 dchk (isBox v18) <|
 bd (ret1 (loadS tab o18 3 v18) o18) fun v19 o19 =>
 bd (ret1 (indexAddrS tab o19 23 x2 x9) o19) fun v20 o20 =>
 bd (ret1 (loadS tab o20 35 v20) o20) fun v21 o21 =>
 dchk (keepOk ⟨tab, ownF, K⟩ o21 (SV.fn 32 []) [v21] [v12, v15, v18] false) <|
 bd (callS ⟨tab, ownF, K⟩ o21 32 [v21]) fun v22 o22 =>
 dchk (keepOk ⟨tab, ownF, K⟩ o22 (SV.fn 31 []) [v22] [v12, v15, v18] false) <|
 bd (callS ⟨tab, ownF, K⟩ o22 31 [v22]) fun v23 o23 =>
 bd (buildS tab o23 74 [(0, (some v16)), (1, (some v19)), (2, (some v23))]) fun v24 o24 =>
 bd (buildSliceS tab o24 26 1 [(0, v24)]) fun v25 o25 =>
 bd (appendS tab o25 26 26 v13 v25) fun v26 o26 =>
 bd (ret1 (fieldAddrS tab 28 x8 2) o26) fun v27 o27 =>
 bd (storeO tab o27 26 v27 (some v26)) fun v28 o28 =>
 J7_6 K N nl m5 x2 x6 x8 x9 o28)
 (both (bd (ret1 (fieldAddrS tab 28 x8 2) o11) fun v29 o29 =>
 dchk (isBox v29) <|
 bd (ret1 (loadS tab o29 26 v29) o29) fun v30 o30 =>
 bd (ret1 (indexAddrS tab o30 23 x2 x9) o30) fun v31 o31 =>
 bd (ret1 (fieldAddrS tab 35 v31 0) o31) fun v32 o32 =>
 dchk (isBox v32) <|
 bd (ret1 (loadS tab o32 3 v32) o32) fun v33 o33 =>
 bd (ret1 (indexAddrS tab o33 23 x2 x9) o33) fun v34 o34 =>
 bd (ret1 (loadS tab o34 35 v34) o34) fun v35 o35 =>
 dchk (keepOk ⟨tab, ownF, K⟩ o35 (SV.fn 32 []) [v35] [v29, v32] false) <|
 bd (callS ⟨tab, ownF, K⟩ o35 32 [v35]) fun v36 o36 =>
 bd (ret1 (indexAddrS tab o36 23 x2 x9) o36) fun v37 o37 =>
 bd (ret1 (fieldAddrS tab 35 v37 1) o37) fun v38 o38 =>
 dchk (isBox v38) <|
 bd (ret1 (loadS tab o38 3 v38) o38) fun v39 o39 =>
 dchk (keepOk ⟨tab, ownF, K⟩ o39 (SV.fn 31 []) [v36] [v29, v32, v38] false) <|
 bd (callS ⟨tab, ownF, K⟩ o39 31 [v36]) fun v40 o40 =>
 bd (buildS tab o40 74 [(0, (some v33)), (1, (some v39)), (2, (some v40))]) fun v41 o41 =>
 bd (buildSliceS tab o41 26 1 [(0, v41)]) fun v42 o42 =>
 bd (appendS tab o42 26 26 v30 v42) fun v43 o43 =>
 bd (ret1 (fieldAddrS tab 28 x8 2) o43) fun v44 o44 =>
 bd (storeO tab o44 26 v44 (some v43)) fun v45 o45 =>
 J7_6 K N nl m5 x2 x6 x8 x9 o45)
 (bd (ret1 (fieldAddrS tab 28 x8 2) o11) fun v46 o46 =>
 dchk (isBox v46) <|
 bd (ret1 (loadS tab o46 26 v46) o46) fun v47 o47 =>
 bd (ret1 (indexAddrS tab o47 23 x2 x9) o47) fun v48 o48 =>
 bd (ret1 (fieldAddrS tab 35 v48 0) o48) fun v49 o49 =>
 dchk (isBox v49) <|
 bd (ret1 (loadS tab o49 3 v49) o49) fun v50 o50 =>
 bd (ret1 (indexAddrS tab o50 23 x2 x9) o50) fun v51 o51 =>
 bd (ret1 (loadS tab o51 35 v51) o51) fun v52 o52 =>
 dchk (keepOk ⟨tab, ownF, K⟩ o52 (SV.fn 32 []) [v52] [v46, v49] false) <|
 bd (callS ⟨tab, ownF, K⟩ o52 32 [v52]) fun v53 o53 =>
 dchk (keepOk ⟨tab, ownF, K⟩ o53 (SV.fn 31 []) [v53] [v46, v49] false) <|
 bd (callS ⟨tab, ownF, K⟩ o53 31 [v53]) fun v54 o54 =>
 bd (ret1 (indexAddrS tab o54 23 x2 x9) o54) fun v55 o55 =>
 bd (ret1 (fieldAddrS tab 35 v55 1) o55) fun v56 o56 =>
 bd (ret1 (loadS tab o56 3 v56) o56) fun v57 o57 =>
 bd (buildS tab o57 74 [(0, (some v50)), (1, (some v57)), (2, (some v54))]) fun v58 o58 =>
 bd (buildSliceS tab o58 26 1 [(0, v58)]) fun v59 o59 =>
 bd (appendS tab o59 26 26 v47 v59) fun v60 o60 =>
 bd (ret1 (fieldAddrS tab 28 x8 2) o60) fun v61 o61 =>
 bd (storeO tab o61 26 v61 (some v60)) fun v62 o62 =>
 J7_6 K N nl m5 x2 x6 x8 x9 o62)))
 (both (both (bd (ret1 (fieldAddrS tab 28 x8 2) o11) fun v63 o63 =>
 dchk (isBox v63) <|
 bd (ret1 (loadS tab o63 26 v63) o63) fun v64 o64 =>
 bd (ret1 (indexAddrS tab o64 23 x2 x9) o64) fun v65 o65 =>
 bd (ret1 (fieldAddrS tab 35 v65 1) o65) fun v66 o66 =>
 dchk (isBox v66) <|
 bd (ret1 (loadS tab o66 3 v66) o66) fun v67 o67 =>
 bd (ret1 (indexAddrS tab o67 23 x2 x9) o67) fun v68 o68 =>
 bd (ret1 (loadS tab o68 35 v68) o68) fun v69 o69 =>
 dchk (keepOk ⟨tab, ownF, K⟩ o69 (SV.fn 32 []) [v69] [v63, v66] false) <|
 bd (callS ⟨tab, ownF, K⟩ o69 32 [v69]) fun v70 o70 =>
 bd (ret1 (indexAddrS tab o70 23 x2 x9) o70) fun v71 o71 =>
 bd (ret1 (fieldAddrS tab 35 v71 0) o71) fun v72 o72 =>
 dchk (isBox v72) <|
 bd (ret1 (loadS tab o72 3 v72) o72) fun v73 o73 =>
 dchk (keepOk ⟨tab, ownF, K⟩ o73 (SV.fn 31 []) [v70] [v63, v66, v72] false) <|
 bd (callS ⟨tab, ownF, K⟩ o73 31 [v70]) fun v74 o74 =>
 bd (buildS tab o74 74 [(0, (some v73)), (1, (some v67)), (2, (some v74))]) fun v75 o75 =>
 bd (buildSliceS tab o75 26 1 [(0, v75)]) fun v76 o76 =>
 bd (appendS tab o76 26 26 v64 v76) fun v77 o77 =>
 bd (ret1 (fieldAddrS tab 28 x8 2) o77) fun v78 o78 =>
 bd (storeO tab o78 26 v78 (some v77)) fun v79 o79 =>
 J7_6 K N nl m5 x2 x6 x8 x9 o79)
 (bd (ret1 (fieldAddrS tab 28 x8 2) o11) fun v80 o80 =>
 dchk (isBox v80) <|
 bd (ret1 (loadS tab o80 26 v80) o80) fun v81 o81 =>
 bd (ret1 (indexAddrS tab o81 23 x2 x9) o81) fun v82 o82 =>
 bd (ret1 (fieldAddrS tab 35 v82 1) o82) fun v83 o83 =>
 dchk (isBox v83) <|
 bd (ret1 (loadS tab o83 3 v83) o83) fun v84 o84 =>
 bd (ret1 (indexAddrS tab o84 23 x2 x9) o84) fun v85 o85 =>
 bd (ret1 (loadS tab o85 35 v85) o85) fun v86 o86 =>
 dchk (keepOk ⟨tab, ownF, K⟩ o86 (SV.fn 32 []) [v86] [v80, v83] false) <|
 bd (callS ⟨tab, ownF, K⟩ o86 32 [v86]) fun v87 o87 =>
 dchk (keepOk ⟨tab, ownF, K⟩ o87 (SV.fn 31 []) [v87] [v80, v83] false) <|
 bd (callS ⟨tab, ownF, K⟩ o87 31 [v87]) fun v88 o88 =>
 bd (ret1 (indexAddrS tab o88 23 x2 x9) o88) fun v89 o89 =>
 bd (ret1 (fieldAddrS tab 35 v89 0) o89) fun v90 o90 =>
 bd (ret1 (loadS tab o90 3 v90) o90) fun v91 o91 =>
 bd (buildS tab o91 74 [(0, (some v91)), (1, (some v84)), (2, (some v88))]) fun v92 o92 =>
 bd (buildSliceS tab o92 26 1 [(0, v92)]) fun v93 o93 =>
 bd (appendS tab o93 26 26 v81 v93) fun v94 o94 =>
 bd (ret1 (fieldAddrS tab 28 x8 2) o94) fun v95 o95 =>
 bd (storeO tab o95 26 v95 (some v94)) fun v96 o96 =>
 J7_6 K N nl m5 x2 x6 x8 x9 o96))
 (both (both (bd (ret1 (fieldAddrS tab 28 x8 2) o11) fun v97 o97 =>
 dchk (isBox v97) <|
 bd (ret1 (loadS tab o97 26 v97) o97) fun v98 o98 =>
 bd (ret1 (indexAddrS tab o98 23 x2 x9) o98) fun v99 o99 =>
 bd (ret1 (loadS tab o99 35 v99) o99) fun v100 o100 =>
 dchk (keepOk ⟨tab, ownF, K⟩ o100 (SV.fn 32 []) [v100] [v97] false) <|
 bd (callS ⟨tab, ownF, K⟩ o100 32 [v100]) fun v101 o101 =>
 bd (ret1 (indexAddrS tab o101 23 x2 x9) o101) fun v102 o102 =>
 bd (ret1 (fieldAddrS tab 35 v102 0) o102) fun v103 o103 =>
 dchk (isBox v103) <|
 bd (ret1 (loadS tab o103 3 v103) o103) fun v104 o104 =>
 bd (ret1 (indexAddrS tab o104 23 x2 x9) o104) fun v105 o105 =>
 bd (ret1 (fieldAddrS tab 35 v105 1) o105) fun v106 o106 =>
 dchk (isBox v106) <|
 bd (ret1 (loadS tab o106 3 v106) o106) fun v107 o107 =>
 dchk (keepOk ⟨tab, ownF, K⟩ o107 (SV.fn 31 []) [v101] [v97, v103, v106] false) <|
 bd (callS ⟨tab, ownF, K⟩ o107 31 [v101]) fun v108 o108 =>
 bd (buildS tab o108 74 [(0, (some v104)), (1, (some v107)), (2, (some v108))]) fun v109 o109 =>
 bd (buildSliceS tab o109 26 1 [(0, v109)]) fun v110 o110 =>
 bd (appendS tab o110 26 26 v98 v110) fun v111 o111 =>
 bd (ret1 (fieldAddrS tab 28 x8 2) o111) fun v112 o112 =>
 bd (storeO tab o112 26 v112 (some v111)) fun v113 o113 =>
 J7_6 K N nl m5 x2 x6 x8 x9 o113)
 (bd (ret1 (fieldAddrS tab 28 x8 2) o11) fun v114 o114 =>
 dchk (isBox v114) <|
 bd (ret1 (loadS tab o114 26 v114) o114) fun v115 o115 =>
 bd (ret1 (indexAddrS tab o115 23 x2 x9) o115) fun v116 o116 =>
 bd (ret1 (loadS tab o116 35 v116) o116) fun v117 o117 =>
 dchk (keepOk ⟨tab, ownF, K⟩ o117 (SV.fn 32 []) [v117] [v114] false) <|
 bd (callS ⟨tab, ownF, K⟩ o117 32 [v117]) fun v118 o118 =>
 bd (ret1 (indexAddrS tab o118 23 x2 x9) o118) fun v119 o119 =>
 bd (ret1 (fieldAddrS tab 35 v119 0) o119) fun v120 o120 =>
 dchk (isBox v120) <|
 bd (ret1 (loadS tab o120 3 v120) o120) fun v121 o121 =>
 dchk (keepOk ⟨tab, ownF, K⟩ o121 (SV.fn 31 []) [v118] [v114, v120] false) <|
 bd (callS ⟨tab, ownF, K⟩ o121 31 [v118]) fun v122 o122 =>
 bd (ret1 (indexAddrS tab o122 23 x2 x9) o122) fun v123 o123 =>
 bd (ret1 (fieldAddrS tab 35 v123 1) o123) fun v124 o124 =>
 bd (ret1 (loadS tab o124 3 v124) o124) fun v125 o125 =>
 bd (buildS tab o125 74 [(0, (some v121)), (1, (some v125)), (2, (some v122))]) fun v126 o126 =>
 bd (buildSliceS tab o126 26 1 [(0, v126)]) fun v127 o127 =>
 bd (appendS tab o127 26 26 v115 v127) fun v128 o128 =>
 bd (ret1 (fieldAddrS tab 28 x8 2) o128) fun v129 o129 =>
 bd (storeO tab o129 26 v129 (some v128)) fun v130 o130 =>
 J7_6 K N nl m5 x2 x6 x8 x9 o130))
 (both (bd (ret1 (fieldAddrS tab 28 x8 2) o11) fun v131 o131 =>
 dchk (isBox v131) <|
 bd (ret1 (loadS tab o131 26 v131) o131) fun v132 o132 =>
 bd (ret1 (indexAddrS tab o132 23 x2 x9) o132) fun v133 o133 =>
 bd (ret1 (loadS tab o133 35 v133) o133) fun v134 o134 =>
 dchk (keepOk ⟨tab, ownF, K⟩ o134 (SV.fn 32 []) [v134] [v131] false) <|
 bd (callS ⟨tab, ownF, K⟩ o134 32 [v134]) fun v135 o135 =>
 bd (ret1 (indexAddrS tab o135 23 x2 x9) o135) fun v136 o136 =>
 bd (ret1 (fieldAddrS tab 35 v136 1) o136) fun v137 o137 =>
 dchk (isBox v137) <|
 bd (ret1 (loadS tab o137 3 v137) o137) fun v138 o138 =>
 dchk (keepOk ⟨tab, ownF, K⟩ o138 (SV.fn 31 []) [v135] [v131, v137] false) <|
 bd (callS ⟨tab, ownF, K⟩ o138 31 [v135]) fun v139 o139 =>
 bd (ret1 (indexAddrS tab o139 23 x2 x9) o139) fun v140 o140 =>
 bd (ret1 (fieldAddrS tab 35 v140 0) o140) fun v141 o141 =>
 bd (ret1 (loadS tab o141 3 v141) o141) fun v142 o142 =>
 bd (buildS tab o142 74 [(0, (some v142)), (1, (some v138)), (2, (some v139))]) fun v143 o143 =>
 bd (buildSliceS tab o143 26 1 [(0, v143)]) fun v144 o144 =>
 bd (appendS tab o144 26 26 v132 v144) fun v145 o145 =>
 bd (ret1 (fieldAddrS tab 28 x8 2) o145) fun v146 o146 =>
 bd (storeO tab o146 26 v146 (some v145)) fun v147 o147 =>
 J7_6 K N nl m5 x2 x6 x8 x9 o147)
 (bd (ret1 (fieldAddrS tab 28 x8 2) o11) fun v148 o148 =>
 dchk (isBox v148) <|
 bd (ret1 (loadS tab o148 26 v148) o148) fun v149 o149 =>
 bd (ret1 (indexAddrS tab o149 23 x2 x9) o149) fun v150 o150 =>
 bd (ret1 (loadS tab o150 35 v150) o150) fun v151 o151 =>
 dchk (keepOk ⟨tab, ownF, K⟩ o151 (SV.fn 32 []) [v151] [v148] false) <|
 bd (callS ⟨tab, ownF, K⟩ o151 32 [v151]) fun v152 o152 =>
 dchk (keepOk ⟨tab, ownF, K⟩ o152 (SV.fn 31 []) [v152] [v148] false) <|
 bd (callS ⟨tab, ownF, K⟩ o152 31 [v152]) fun v153 o153 =>
 bd (ret1 (indexAddrS tab o153 23 x2 x9) o153) fun v154 o154 =>
 bd (ret1 (fieldAddrS tab 35 v154 0) o154) fun v155 o155 =>
 bd (ret1 (loadS tab o155 3 v155) o155) fun v156 o156 =>
 bd (ret1 (indexAddrS tab o156 23 x2 x9) o156) fun v157 o157 =>
 bd (ret1 (fieldAddrS tab 35 v157 1) o157) fun v158 o158 =>
 bd (ret1 (loadS tab o158 3 v158) o158) fun v159 o159 =>
 bd (buildS tab o159 74 [(0, (some v156)), (1, (some v159)), (2, (some v153))]) fun v160 o160 =>
 bd (buildSliceS tab o160 26 1 [(0, v160)]) fun v161 o161 =>
 bd (appendS tab o161 26 26 v149 v161) fun v162 o162 =>
 bd (ret1 (fieldAddrS tab 28 x8 2) o162) fun v163 o163 =>
 bd (storeO tab o163 26 v163 (some v162)) fun v164 o164 =>
 J7_6 K N nl m5 x2 x6 x8 x9 o164)))))
 (bd (ret1 (loadS tab o11 28 x8) o11) fun v165 o165 =>
 bd (callS ⟨tab, ownF, K⟩ o165 33 [v165]) fun v166 o166 =>
 bd (ret1 (unS .not v166) o166) fun v167 o167 =>
 condS v167 (bd (buildS tab o167 28 []) fun v168 o168 =>
 bd (storeO tab o168 28 x6 (some v168)) fun v169 o169 =>
 retV tab nl o169 (resC1 (loadS tab o169 28 x6) (resC1 (some (SV.v (.bool false))) (some []))))
 (bd (ret1 (loadS tab o167 28 x8) o167) fun v170 o170 =>
 bd (storeO tab o170 28 x6 (some v170)) fun v171 o171 =>
 retV tab nl o171 (resC1 (loadS tab o171 28 x6) (resC1 (some (SV.v (.bool true))) (some [])))))
noncomputable def JB7_6 (K : Nat → List SV → List SO → Out) (N nl : Nat) (m5 : Nat) (x2 x6 x8 x9 : SV) (os : List SO) : Out :=
 bd (ret1 (binS tab .add 3 x9 (SV.v (.int .i64 1))) os) fun v172 o172 =>
 L7_5 K N nl m5 x2 x6 x8 v172 o172
noncomputable def X7 (K : Nat → List SV → List SO → Out) (N nl : Nat) (x0 x1 x2 : SV) (os : List SO) : Out := exec (cx K) N nl fi7 c7 [(0, x0), (1, x1), (2, x2)] os (kEnd tab [] nl rs7)
noncomputable def B7 (K : Nat → List SV → List SO → Out) (N nl : Nat) (x0 x1 x2 : SV) (os : List SO) : Out :=
 bd (allocS tab os 28) fun v1 o1 =>
 bd (buildSliceS tab o1 26 0 []) fun v2 o2 =>
 bd (buildS tab o2 28 [(0, (some x0)), (1, (some x1)), (2, (some v2))]) fun v3 o3 =>
 bd (allocS tab o3 28) fun v4 o4 =>
 bd (storeO tab o4 28 v4 (some v3)) fun v5 o5 =>
 bd (callS ⟨tab, ownF, K⟩ o5 30 [x2]) fun v6 o6 =>
 bd (ret1 (unS .not v6) o6) fun v7 o7 =>
 condS v7 (bd (buildS tab o7 28 []) fun v8 o8 =>
 bd (storeO tab o8 28 v1 (some v8)) fun v9 o9 =>
 retV tab nl o9 (resC1 (loadS tab o9 28 v1) (resC1 (some (SV.v (.bool false))) (some []))))
 (L7_5 K N nl N x2 v1 v4 (SV.v (.int .i64 0)) o7)
noncomputable def bk8_5 (K : Nat → List SV → List SO → Out) (N nl : Nat) (m5 : Nat) : Env → List SO → Out := fun env os => loopS nl (fi8.lp 5) (fun env os nx => exec (cx K) N nl fi8 (subC c8 [1, 1, 1, 0, 1, 0, 0]) env os (kLoop nx (kBlock 0 (kSeq (exec (cx K) N nl fi8 (subC c8 [1, 1, 1, 1])) (fi8.jn 9) (kEnd tab [] nl rs8))))) m5 (killS (fi8.lp 5).alive env) os
noncomputable def L8_5 (K : Nat → List SV → List SO → Out) (N nl : Nat) (m5 : Nat) (x6 x8 x18 x19 x20 : SV) (os : List SO) : Out := loopS nl (fi8.lp 5) (fun env os nx => exec (cx K) N nl fi8 (subC c8 [1, 1, 1, 0, 1, 0, 0]) env os (kLoop nx (kBlock 0 (kSeq (exec (cx K) N nl fi8 (subC c8 [1, 1, 1, 1])) (fi8.jn 9) (kEnd tab [] nl rs8))))) m5 [(6, x6), (8, x8), (18, x18), (19, x19), (20, x20)] os
noncomputable def G8_5 (K : Nat → List SV → List SO → Out) (N nl : Nat) (m5 : Nat) (xs : List SV) (os : List SO) : Out := (fun env os nx => exec (cx K) N nl fi8 (subC c8 [1, 1, 1, 0, 1, 0, 0]) env os (kLoop nx (kBlock 0 (kSeq (exec (cx K) N nl fi8 (subC c8 [1, 1, 1, 1])) (fi8.jn 9) (kEnd tab [] nl rs8))))) (zipE [6, 8, 18, 19, 20] xs) os (bk8_5 K N nl m5)
noncomputable def GB8_5 (K : Nat → List SV → List SO → Out) (N nl : Nat) (m5 : Nat) (x6 x8 x18 x19 x20 : SV) (os : List SO) : Out :=
 bd (ret1 (binS tab .lss 3 x20 x19) os) fun v10 o10 =>
 condS v10 (bd (ret1 (indexAddrS tab o10 23 x18 x20) o10) fun v11 o11 =>
 bd (ret1 (loadS tab o11 35 v11) o11) fun v12 o12 =>
 bd (allocS tab o12 35) fun v13 o13 =>
 bd (storeO tab o13 35 v13 (some v12)) fun v14 o14 =>
 bd (ret1 (fieldAddrS tab 28 x8 2) o14) fun v15 o15 =>
 dchk (isBox v15) <|
 bd (ret1 (loadS tab o15 26 v15) o15) fun v16 o16 =>
 bd (ret1 (loadS tab o16 35 v13) o16) fun v17 o17 =>
 dchk (keepOk ⟨tab, ownF, K⟩ o17 (SV.fn 35 []) [v17] [v15] false) <|
 bd (callS ⟨tab, ownF, K⟩ o17 35 [v17]) fun v18 o18 =>
 bd (buildSliceS tab o18 26 1 [(0, v18)]) fun v19 o19 =>
 bd (appendS tab o19 26 26 v16 v19) fun v20 o20 =>
 bd (ret1 (fieldAddrS tab 28 x8 2) o20) fun v21 o21 =>
 bd (storeO tab o21 26 v21 (some v20)) fun v22 o22 =>
 bd (ret1 (binS tab .add 3 x20 (SV.v (.int .i64 1))) o22) fun v23 o23 =>
 L8_5 K N nl m5 x6 x8 x18 x19 v23 o23)
 (bd (ret1 (loadS tab o10 28 x8) o10) fun v24 o24 =>
 bd (callS ⟨tab, ownF, K⟩ o24 13 [v24]) fun v25 o25 =>
 bd (ret1 (unS .not v25) o25) fun v26 o26 =>
 condS v26 (bd (buildS tab o26 28 []) fun v27 o27 =>
 bd (storeO tab o27 28 x6 (some v27)) fun v28 o28 =>
 retV tab nl o28 (resC1 (loadS tab o28 28 x6) (resC1 (some (SV.v (.bool false))) (some []))))
 (bd (ret1 (loadS tab o26 28 x8) o26) fun v29 o29 =>
 bd (storeO tab o29 28 x6 (some v29)) fun v30 o30 =>
 retV tab nl o30 (resC1 (loadS tab o30 28 x6) (resC1 (some (SV.v (.bool true))) (some [])))))
noncomputable def X8 (K : Nat → List SV → List SO → Out) (N nl : Nat) (x0 x1 x2 : SV) (os : List SO) : Out := exec (cx K) N nl fi8 c8 [(0, x0), (1, x1), (2, x2)] os (kEnd tab [] nl rs8)
noncomputable def B8 (K : Nat → List SV → List SO → Out) (N nl : Nat) (x0 x1 x2 : SV) (os : List SO) : Out :=
 bd (allocS tab os 28) fun v1 o1 =>
 bd (callS ⟨tab, ownF, K⟩ o1 34 [x2]) fun v2 o2 =>
 bd (ret1 (unS .not v2) o2) fun v3 o3 =>
 condS v3 (bd (buildS tab o3 28 []) fun v4 o4 =>
 bd (storeO tab o4 28 v1 (some v4)) fun v5 o5 =>
 retV tab nl o5 (resC1 (loadS tab o5 28 v1) (resC1 (some (SV.v (.bool false))) (some []))))
 (bd (buildS tab o3 28 [(0, (some x0)), (1, (some x1))]) fun v6 o6 =>
 bd (allocS tab o6 28) fun v7 o7 =>
 bd (storeO tab o7 28 v7 (some v6)) fun v8 o8 =>
 bd (lenO tab 23 o8 x2) fun v9 o9 =>
 L8_5 K N nl N v1 v7 x2 v9 (SV.v (.int .i64 0)) o9)
noncomputable def X9 (K : Nat → List SV → List SO → Out) (N nl : Nat) (x0 x1 : SV) (os : List SO) : Out := exec (cx K) N nl fi9 c9 [(0, x0), (1, x1)] os (kEnd tab [] nl rs9)
noncomputable def B9 (K : Nat → List SV → List SO → Out) (N nl : Nat) (x0 x1 : SV) (os : List SO) : Out :=
 bd (boxS tab os 28 (some x0)) fun v1 o1 =>
 bd (boxS tab o1 28 (some x1)) fun v2 o2 =>
 bd (ret1 (fieldAddrS tab 28 v1 0) o2) fun v3 o3 =>
 bd (ret1 (loadS tab o3 3 v3) o3) fun v4 o4 =>
 bd (ret1 (fieldAddrS tab 28 v2 0) o4) fun v5 o5 =>
 bd (ret1 (loadS tab o5 3 v5) o5) fun v6 o6 =>
 bd (ret1 (binS tab .eql 3 v4 v6) o6) fun v7 o7 =>
 bd (gd v7 true (ret1 (fieldAddrS tab 28 v1 1) o7) o7) fun v8 o8 =>
 bd (gd v7 true (ret1 (loadS tab o8 3 v8) o8) o8) fun v9 o9 =>
 bd (gd v7 true (ret1 (fieldAddrS tab 28 v2 1) o9) o9) fun v10 o10 =>
 bd (gd v7 true (ret1 (loadS tab o10 3 v10) o10) o10) fun v11 o11 =>
 bd (gd v7 true (ret1 (binS tab .eql 3 v9 v11) o11) o11) fun v12 o12 =>
 bd (ret1 (pickS v7 v12 (SV.v (.bool false))) o12) fun v13 o13 =>
 bd (gd v13 true (ret1 (fieldAddrS tab 28 v1 2) o13) o13) fun v14 o14 =>
 bd (gd v13 true (ret1 (loadS tab o14 26 v14) o14) o14) fun v15 o15 =>
 bd (gd v13 true (ret1 (fieldAddrS tab 28 v2 2) o15) o15) fun v16 o16 =>
 bd (gd v13 true (ret1 (loadS tab o16 26 v16) o16) o16) fun v17 o17 =>
 bd (gd v13 true (callS ⟨tab, ownF, K⟩ o17 36 [v15, v17]) o17) fun v18 o18 =>
 bd (ret1 (pickS v13 v18 (SV.v (.bool false))) o18) fun v19 o19 =>
 retV tab nl o19 (resC1 (some v19) (some []))
noncomputable def X10 (K : Nat → List SV → List SO → Out) (N nl : Nat) (x0 x1 : SV) (os : List SO) : Out := exec (cx K) N nl fi10 c10 [(0, x0), (1, x1)] os (kEnd tab [] nl rs10)
noncomputable def B10 (K : Nat → List SV → List SO → Out) (N nl : Nat) (x0 x1 : SV) (os : List SO) : Out :=
 bd (boxS tab os 28 (some x0)) fun v1 o1 =>
 bd (allocS tab o1 35) fun v2 o2 =>
 bd (callS ⟨tab, ownF, K⟩ o2 37 [x1]) fun v3 o3 =>
 bd (ret1 (extractS v3 0) o3) fun v4 o4 =>
 bd (ret1 (extractS v3 1) o4) fun v5 o5 =>
 bd (allocS tab o5 35) fun v6 o6 =>
 bd (storeO tab o6 35 v6 (some v4)) fun v7 o7 =>
 bd (ret1 (unS .not v5) o7) fun v8 o8 =>
 bd (gd v8 false (ret1 (loadS tab o8 28 v1) o8) o8) fun v9 o9 =>
 bd (gd v8 false (callS ⟨tab, ownF, K⟩ o9 13 [v9]) o9) fun v10 o10 =>
 bd (gd v8 false (ret1 (unS .not v10) o10) o10) fun v11 o11 =>
 bd (ret1 (pickS v8 (SV.v (.bool true)) v11) o11) fun v12 o12 =>
 bd (gd v12 false (ret1 (fieldAddrS tab 28 v1 2) o12) o12) fun v13 o13 =>
 dchk (isBox v13) <|
 bd (gd v12 false (ret1 (loadS tab o13 26 v13) o13) o13) fun v14 o14 =>
 bd (gd v12 false (ret1 (loadS tab o14 35 v6) o14) o14) fun v15 o15 =>
 dchk (keepOk ⟨tab, ownF, K⟩ o15 (SV.fn 35 []) [v15] [v13] false) <|
 bd (gd v12 false (callS ⟨tab, ownF, K⟩ o15 35 [v15]) o15) fun v16 o16 =>
 bd (gd v12 false (callS ⟨tab, ownF, K⟩ o16 38 [v14, v16]) o16) fun v17 o17 =>
 bd (gd v12 false (ret1 (unS .not v17) o17) o17) fun v18 o18 =>
 bd (ret1 (pickS v12 (SV.v (.bool true)) v18) o18) fun v19 o19 =>
 condS v19 (bd (buildS tab o19 35 []) fun v20 o20 =>
 bd (storeO tab o20 35 v2 (some v20)) fun v21 o21 =>
 retV tab nl o21 (resC1 (loadS tab o21 35 v2) (resC1 (some (SV.v (.bool false))) (some []))))
 (bd (ret1 (loadS tab o19 35 v6) o19) fun v22 o22 =>
 bd (storeO tab o22 35 v2 (some v22)) fun v23 o23 =>
 retV tab nl o23 (resC1 (loadS tab o23 35 v2) (resC1 (some (SV.v (.bool true))) (some []))))
noncomputable def bk11_6 (K : Nat → List SV → List SO → Out) (N nl : Nat) (m6 : Nat) : Env → List SO → Out := fun env os => loopS nl (fi11.lp 6) (fun env os nx => exec (cx K) N nl fi11 (subC c11 [1, 1, 1, 1, 0, 1, 0, 0]) env os (kLoop nx (kBlock 0 (kSeq (exec (cx K) N nl fi11 (subC c11 [1, 1, 1, 1, 1])) (fi11.jn 10) (kEnd tab [] nl rs11))))) m6 (killS (fi11.lp 6).alive env) os
noncomputable def bk11_11 (K : Nat → List SV → List SO → Out) (N nl : Nat) (m11 : Nat) : Env → List SO → Out := fun env os => loopS nl (fi11.lp 11) (fun env os nx => exec (cx K) N nl fi11 (subC c11 [1, 1, 1, 1, 1, 0, 1, 0, 0]) env os (kLoop nx (kBlock 2 (kSeq (exec (cx K) N nl fi11 (subC c11 [1, 1, 1, 1, 1, 1])) (fi11.jn 15) (kEnd tab [] nl rs11))))) m11 (killS (fi11.lp 11).alive env) os
noncomputable def bk12_4 (K : Nat → List SV → List SO → Out) (N nl : Nat) (m4 : Nat) : Env → List SO → Out := fun env os => loopS nl (fi12.lp 4) (fun env os nx => exec (cx K) N nl fi12 (subC c12 [1, 1, 0, 1, 0, 0]) env os (kLoop nx (kBlock 0 (kSeq (exec (cx K) N nl fi12 (subC c12 [1, 1, 1])) (fi12.jn 8) (kEnd tab [] nl rs12))))) m4 (killS (fi12.lp 4).alive env) os
noncomputable def bk12_9 (K : Nat → List SV → List SO → Out) (N nl : Nat) (m9 : Nat) : Env → List SO → Out := fun env os => loopS nl (fi12.lp 9) (fun env os nx => exec (cx K) N nl fi12 (subC c12 [1, 1, 1, 0, 1, 0, 0]) env os (kLoop nx (kBlock 2 (kSeq (exec (cx K) N nl fi12 (subC c12 [1, 1, 1, 1])) (fi12.jn 13) (kEnd tab [] nl rs12))))) m9 (killS (fi12.lp 9).alive env) os
noncomputable def L12_4 (K : Nat → List SV → List SO → Out) (N nl : Nat) (m4 : Nat) (x2 x3 x5 : SV) (os : List SO) : Out := loopS nl (fi12.lp 4) (fun env os nx => exec (cx K) N nl fi12 (subC c12 [1, 1, 0, 1, 0, 0]) env os (kLoop nx (kBlock 0 (kSeq (exec (cx K) N nl fi12 (subC c12 [1, 1, 1])) (fi12.jn 8) (kEnd tab [] nl rs12))))) m4 [(2, x2), (3, x3), (5, x5)] os
noncomputable def L12_9 (K : Nat → List SV → List SO → Out) (N nl : Nat) (m9 : Nat) (x2 x3 x6 : SV) (os : List SO) : Out := loopS nl (fi12.lp 9) (fun env os nx => exec (cx K) N nl fi12 (subC c12 [1, 1, 1, 0, 1, 0, 0]) env os (kLoop nx (kBlock 2 (kSeq (exec (cx K) N nl fi12 (subC c12 [1, 1, 1, 1])) (fi12.jn 13) (kEnd tab [] nl rs12))))) m9 [(2, x2), (3, x3), (6, x6)] os
noncomputable def LB12_4 (K : Nat → List SV → List SO → Out) (N nl : Nat) (m4 : Nat) (x2 x3 x5 : SV) (os : List SO) : Out :=
 bd (ret1 (fieldAddrS tab 35 x2 2) os) fun v30 o30 =>
 bd (ret1 (loadS tab o30 32 v30) o30) fun v31 o31 =>
 bd (lenO tab 32 o31 v31) fun v32 o32 =>
 bd (ret1 (binS tab .lss 3 x5 v32) o32) fun v33 o33 =>
 condS v33 (bd (ret1 (fieldAddrS tab 35 x2 2) o33) fun v34 o34 =>
 bd (ret1 (loadS tab o34 32 v34) o34) fun v35 o35 =>
 bd (ret1 (indexAddrS tab o35 32 v35 x5) o35) fun v36 o36 =>
 bd (ret1 (loadS tab o36 88 v36) o36) fun v37 o37 =>
 bd (ret1 (fieldAddrS tab 35 x3 2) o37) fun v38 o38 =>
 bd (ret1 (loadS tab o38 32 v38) o38) fun v39 o39 =>
 bd (ret1 (indexAddrS tab o39 32 v39 x5) o39) fun v40 o40 =>
 bd (ret1 (loadS tab o40 88 v40) o40) fun v41 o41 =>
 bd (ret1 (binS tab .neq 88 v37 v41) o41) fun v42 o42 =>
 condS v42 (retV tab nl o42 (resC1 (some (SV.v (.bool false))) (some [])))
 (bd (ret1 (binS tab .add 3 x5 (SV.v (.int .i64 1))) o42) fun v43 o43 =>
 L12_4 K N nl m4 x2 x3 v43 o43))
 (L12_9 K N nl N x2 x3 (SV.v (.int .i64 0)) o33)
noncomputable def LB12_9 (K : Nat → List SV → List SO → Out) (N nl : Nat) (m9 : Nat) (x2 x3 x6 : SV) (os : List SO) : Out :=
 bd (ret1 (fieldAddrS tab 35 x2 3) os) fun v44 o44 =>
 bd (ret1 (loadS tab o44 33 v44) o44) fun v45 o45 =>
 bd (lenO tab 33 o45 v45) fun v46 o46 =>
 bd (ret1 (binS tab .lss 3 x6 v46) o46) fun v47 o47 =>
 condS v47 (bd (ret1 (fieldAddrS tab 35 x2 3) o47) fun v48 o48 =>
 bd (ret1 (loadS tab o48 33 v48) o48) fun v49 o49 =>
 bd (ret1 (indexAddrS tab o49 33 v49 x6) o49) fun v50 o50 =>
 bd (ret1 (loadS tab o50 91 v50) o50) fun v51 o51 =>
 bd (ret1 (fieldAddrS tab 35 x3 3) o51) fun v52 o52 =>
 bd (ret1 (loadS tab o52 33 v52) o52) fun v53 o53 =>
 bd (ret1 (indexAddrS tab o53 33 v53 x6) o53) fun v54 o54 =>
 bd (ret1 (loadS tab o54 91 v54) o54) fun v55 o55 =>
 bd (ret1 (binS tab .neq 91 v51 v55) o55) fun v56 o56 =>
 condS v56 (retV tab nl o56 (resC1 (some (SV.v (.bool false))) (some [])))
 (bd (ret1 (binS tab .add 3 x6 (SV.v (.int .i64 1))) o56) fun v57 o57 =>
 L12_9 K N nl m9 x2 x3 v57 o57))
 (retV tab nl o47 (resC1 (some (SV.v (.bool true))) (some [])))
noncomputable def X12 (K : Nat → List SV → List SO → Out) (N nl : Nat) (x0 x1 : SV) (os : List SO) : Out := exec (cx K) N nl fi12 c12 [(0, x0), (1, x1)] os (kEnd tab [] nl rs12)
noncomputable def B12 (K : Nat → List SV → List SO → Out) (N nl : Nat) (x0 x1 : SV) (os : List SO) : Out :=
 bd (boxS tab os 35 (some x0)) fun v1 o1 =>
 bd (boxS tab o1 35 (some x1)) fun v2 o2 =>
 bd (ret1 (fieldAddrS tab 35 v1 0) o2) fun v3 o3 =>
 bd (ret1 (loadS tab o3 3 v3) o3) fun v4 o4 =>
 bd (ret1 (fieldAddrS tab 35 v2 0) o4) fun v5 o5 =>
 bd (ret1 (loadS tab o5 3 v5) o5) fun v6 o6 =>
 bd (ret1 (binS tab .neq 3 v4 v6) o6) fun v7 o7 =>
 bd (gd v7 false (ret1 (fieldAddrS tab 35 v1 1) o7) o7) fun v8 o8 =>
 bd (gd v7 false (ret1 (loadS tab o8 3 v8) o8) o8) fun v9 o9 =>
 bd (gd v7 false (ret1 (fieldAddrS tab 35 v2 1) o9) o9) fun v10 o10 =>
 bd (gd v7 false (ret1 (loadS tab o10 3 v10) o10) o10) fun v11 o11 =>
 bd (gd v7 false (ret1 (binS tab .neq 3 v9 v11) o11) o11) fun v12 o12 =>
 bd (ret1 (pickS v7 (SV.v (.bool true)) v12) o12) fun v13 o13 =>
 bd (gd v13 false (ret1 (fieldAddrS tab 35 v1 2) o13) o13) fun v14 o14 =>
 bd (gd v13 false (ret1 (loadS tab o14 32 v14) o14) o14) fun v15 o15 =>
 bd (gd v13 false (lenO tab 32 o15 v15) o15) fun v16 o16 =>
 bd (gd v13 false (ret1 (fieldAddrS tab 35 v2 2) o16) o16) fun v17 o17 =>
 bd (gd v13 false (ret1 (loadS tab o17 32 v17) o17) o17) fun v18 o18 =>
 bd (gd v13 false (lenO tab 32 o18 v18) o18) fun v19 o19 =>
 bd (gd v13 false (ret1 (binS tab .neq 3 v16 v19) o19) o19) fun v20 o20 =>
 bd (ret1 (pickS v13 (SV.v (.bool true)) v20) o20) fun v21 o21 =>
 bd (gd v21 false (ret1 (fieldAddrS tab 35 v1 3) o21) o21) fun v22 o22 =>
 bd (gd v21 false (ret1 (loadS tab o22 33 v22) o22) o22) fun v23 o23 =>
 bd (gd v21 false (lenO tab 33 o23 v23) o23) fun v24 o24 =>
 bd (gd v21 false (ret1 (fieldAddrS tab 35 v2 3) o24) o24) fun v25 o25 =>
 bd (gd v21 false (ret1 (loadS tab o25 33 v25) o25) o25) fun v26 o26 =>
 bd (gd v21 false (lenO tab 33 o26 v26) o26) fun v27 o27 =>
 bd (gd v21 false (ret1 (binS tab .neq 3 v24 v27) o27) o27) fun v28 o28 =>
 bd (ret1 (pickS v21 (SV.v (.bool true)) v28) o28) fun v29 o29 =>
 condS v29 (retV tab nl o29 (resC1 (some (SV.v (.bool false))) (some [])))
 (L12_4 K N nl N v1 v2 (SV.v (.int .i64 0)) o29)
noncomputable def bk13_2 (K : Nat → List SV → List SO → Out) (N nl : Nat) (m2 : Nat) : Env → List SO → Out := fun env os => loopS nl (fi13.lp 2) (fun env os nx => exec (cx K) N nl fi13 (subC c13 [1, 0, 1, 0, 0]) env os (kLoop nx (kBlock 0 (kSeq (exec (cx K) N nl fi13 (subC c13 [1, 1])) (fi13.jn 9) (kEnd tab [] nl rs13))))) m2 (killS (fi13.lp 2).alive env) os
noncomputable def L13_2 (K : Nat → List SV → List SO → Out) (N nl : Nat) (m2 : Nat) (x1 x6 x7 x8 : SV) (os : List SO) : Out := loopS nl (fi13.lp 2) (fun env os nx => exec (cx K) N nl fi13 (subC c13 [1, 0, 1, 0, 0]) env os (kLoop nx (kBlock 0 (kSeq (exec (cx K) N nl fi13 (subC c13 [1, 1])) (fi13.jn 9) (kEnd tab [] nl rs13))))) m2 [(1, x1), (6, x6), (7, x7), (8, x8)] os
noncomputable def G13_2 (K : Nat → List SV → List SO → Out) (N nl : Nat) (m2 : Nat) (xs : List SV) (os : List SO) : Out := (fun env os nx => exec (cx K) N nl fi13 (subC c13 [1, 0, 1, 0, 0]) env os (kLoop nx (kBlock 0 (kSeq (exec (cx K) N nl fi13 (subC c13 [1, 1])) (fi13.jn 9) (kEnd tab [] nl rs13))))) (zipE [1, 6, 7, 8] xs) os (bk13_2 K N nl m2)
noncomputable def GB13_2 (K : Nat → List SV → List SO → Out) (N nl : Nat) (m2 : Nat) (x1 x6 x7 x8 : SV) (os : List SO) : Out :=
 bd (ret1 (binS tab .lss 3 x8 x7) os) fun v5 o5 =>
 condS v5 (bd (ret1 (indexAddrS tab o5 26 x6 x8) o5) fun v6 o6 =>
 bd (ret1 (loadS tab o6 74 v6) o6) fun v7 o7 =>
 bd (allocS tab o7 74) fun v8 o8 =>
 bd (storeO tab o8 74 v8 (some v7)) fun v9 o9 =>
 bd (ret1 (fieldAddrS tab 74 v8 0) o9) fun v10 o10 =>
 bd (ret1 (loadS tab o10 3 v10) o10) fun v11 o11 =>
 bd (callS ⟨tab, ownF, K⟩ o11 44 [v11]) fun v12 o12 =>
 bd (ret1 (unS .not v12) o12) fun v13 o13 =>
 bd (gd v13 false (ret1 (fieldAddrS tab 74 v8 1) o13) o13) fun v14 o14 =>
 bd (gd v13 false (ret1 (loadS tab o14 3 v14) o14) o14) fun v15 o15 =>
 bd (gd v13 false (callS ⟨tab, ownF, K⟩ o15 45 [v15]) o15) fun v16 o16 =>
 bd (gd v13 false (ret1 (unS .not v16) o16) o16) fun v17 o17 =>
 bd (ret1 (pickS v13 (SV.v (.bool true)) v17) o17) fun v18 o18 =>
 bd (gd v18 false (ret1 (fieldAddrS tab 74 v8 2) o18) o18) fun v19 o19 =>
 bd (gd v18 false (ret1 (loadS tab o19 3 v19) o19) o19) fun v20 o20 =>
 bd (gd v18 false (callS ⟨tab, ownF, K⟩ o20 46 [v20, (SV.v (.int .i64 0)), (SV.v (.int .i64 9972))]) o20) fun v21 o21 =>
 bd (gd v18 false (ret1 (unS .not v21) o21) o21) fun v22 o22 =>
 bd (ret1 (pickS v18 (SV.v (.bool true)) v22) o22) fun v23 o23 =>
 condS v23 (retV tab nl o23 (resC1 (some (SV.v (.bool false))) (some [])))
 (bd (ret1 (binS tab .gtr 3 x8 (SV.v (.int .i64 0))) o23) fun v24 o24 =>
 bd (gd v24 true (ret1 (fieldAddrS tab 74 v8 0) o24) o24) fun v25 o25 =>
 bd (gd v24 true (ret1 (loadS tab o25 3 v25) o25) o25) fun v26 o26 =>
 bd (gd v24 true (ret1 (fieldAddrS tab 28 x1 2) o26) o26) fun v27 o27 =>
 bd (gd v24 true (ret1 (loadS tab o27 26 v27) o27) o27) fun v28 o28 =>
 bd (gd v24 true (some (x8, o28)) o28) fun v29 o29 =>
 bd (gd v24 true (ret1 (binS tab .sub 3 v29 (SV.v (.int .i64 1))) o29) o29) fun v30 o30 =>
 bd (gd v24 true (ret1 (indexAddrS tab o30 26 v28 v30) o30) o30) fun v31 o31 =>
 bd (gd v24 true (ret1 (fieldAddrS tab 74 v31 0) o31) o31) fun v32 o32 =>
 bd (gd v24 true (ret1 (loadS tab o32 3 v32) o32) o32) fun v33 o33 =>
 bd (gd v24 true (ret1 (binS tab .lss 3 v26 v33) o33) o33) fun v34 o34 =>
 bd (gd v24 true (some (v34, o34)) o34) fun v35 o35 =>
 bd (gd v35 false (ret1 (fieldAddrS tab 74 v8 0) o35) o35) fun v36 o36 =>
 bd (gd v35 false (ret1 (loadS tab o36 3 v36) o36) o36) fun v37 o37 =>
 bd (gd v35 false (ret1 (fieldAddrS tab 28 x1 2) o37) o37) fun v38 o38 =>
 bd (gd v35 false (ret1 (loadS tab o38 26 v38) o38) o38) fun v39 o39 =>
 bd (gd v35 false (some (x8, o39)) o39) fun v40 o40 =>
 bd (gd v35 false (ret1 (binS tab .sub 3 v40 (SV.v (.int .i64 1))) o40) o40) fun v41 o41 =>
 bd (gd v35 false (ret1 (indexAddrS tab o41 26 v39 v41) o41) o41) fun v42 o42 =>
 bd (gd v35 false (ret1 (fieldAddrS tab 74 v42 0) o42) o42) fun v43 o43 =>
 bd (gd v35 false (ret1 (loadS tab o43 3 v43) o43) o43) fun v44 o44 =>
 bd (gd v35 false (ret1 (binS tab .eql 3 v37 v44) o44) o44) fun v45 o45 =>
 bd (gd v35 false (some (v45, o45)) o45) fun v46 o46 =>
 bd (gd v46 true (ret1 (fieldAddrS tab 74 v8 1) o46) o46) fun v47 o47 =>
 bd (gd v46 true (ret1 (loadS tab o47 3 v47) o47) o47) fun v48 o48 =>
 bd (gd v46 true (ret1 (fieldAddrS tab 28 x1 2) o48) o48) fun v49 o49 =>
 bd (gd v46 true (ret1 (loadS tab o49 26 v49) o49) o49) fun v50 o50 =>
 bd (gd v46 true (some (x8, o50)) o50) fun v51 o51 =>
 bd (gd v46 true (ret1 (binS tab .sub 3 v51 (SV.v (.int .i64 1))) o51) o51) fun v52 o52 =>
 bd (gd v46 true (ret1 (indexAddrS tab o52 26 v50 v52) o52) o52) fun v53 o53 =>
 bd (gd v46 true (ret1 (fieldAddrS tab 74 v53 1) o53) o53) fun v54 o54 =>
 bd (gd v46 true (ret1 (loadS tab o54 3 v54) o54) o54) fun v55 o55 =>
 bd (gd v46 true (ret1 (binS tab .leq 3 v48 v55) o55) o55) fun v56 o56 =>
 bd (gd v35 false (ret1 (pickS v46 v56 (SV.v (.bool false))) o56) o56) fun v57 o57 =>
 bd (gd v24 true (ret1 (pickS v35 (SV.v (.bool true)) v57) o57) o57) fun v58 o58 =>
 bd (ret1 (pickS v24 v58 (SV.v (.bool false))) o58) fun v59 o59 =>
 condS v59 (retV tab nl o59 (resC1 (some (SV.v (.bool false))) (some [])))
 (bd (ret1 (binS tab .add 3 x8 (SV.v (.int .i64 1))) o59) fun v60 o60 =>
 L13_2 K N nl m2 x1 x6 x7 v60 o60)))
 (bd (ret1 (fieldAddrS tab 28 x1 0) o5) fun v61 o61 =>
 bd (ret1 (loadS tab o61 3 v61) o61) fun v62 o62 =>
 bd (callS ⟨tab, ownF, K⟩ o62 46 [v62, (SV.v (.int .i64 1)), (SV.v (.int .i64 30))]) fun v63 o63 =>
 bd (gd v63 true (ret1 (fieldAddrS tab 28 x1 1) o63) o63) fun v64 o64 =>
 bd (gd v63 true (ret1 (loadS tab o64 3 v64) o64) o64) fun v65 o65 =>
 bd (gd v63 true (callS ⟨tab, ownF, K⟩ o65 46 [v65, (SV.v (.int .i64 0)), (SV.v (.int .i64 60))]) o65) fun v66 o66 =>
 bd (ret1 (pickS v63 v66 (SV.v (.bool false))) o66) fun v67 o67 =>
 bd (gd v67 true (ret1 (fieldAddrS tab 28 x1 2) o67) o67) fun v68 o68 =>
 bd (gd v67 true (ret1 (loadS tab o68 26 v68) o68) o68) fun v69 o69 =>
 bd (gd v67 true (lenO tab 26 o69 v69) o69) fun v70 o70 =>
 bd (gd v67 true (ret1 (binS tab .leq 3 v70 (SV.v (.int .i64 8))) o70) o70) fun v71 o71 =>
 bd (ret1 (pickS v67 v71 (SV.v (.bool false))) o71) fun v72 o72 =>
 retV tab nl o72 (resC1 (some v72) (some [])))
noncomputable def X13 (K : Nat → List SV → List SO → Out) (N nl : Nat) (x0 : SV) (os : List SO) : Out := exec (cx K) N nl fi13 c13 [(0, x0)] os (kEnd tab [] nl rs13)
noncomputable def B13 (K : Nat → List SV → List SO → Out) (N nl : Nat) (x0 : SV) (os : List SO) : Out :=
 bd (boxS tab os 28 (some x0)) fun v1 o1 =>
 bd (ret1 (fieldAddrS tab 28 v1 2) o1) fun v2 o2 =>
 bd (ret1 (loadS tab o2 26 v2) o2) fun v3 o3 =>
 bd (lenO tab 26 o3 v3) fun v4 o4 =>
 L13_2 K N nl N v1 v3 v4 (SV.v (.int .i64 0)) o4
noncomputable def bk15_5 (K : Nat → List SV → List SO → Out) (N nl : Nat) (m5 : Nat) : Env → List SO → Out := fun env os => loopS nl (fi15.lp 5) (fun env os nx => exec (cx K) N nl fi15 (subC c15 [1, 1, 1, 0, 1, 0, 0]) env os (kLoop nx (kBlock 0 (kSeq (exec (cx K) N nl fi15 (subC c15 [1, 1, 1, 1])) (fi15.jn 10) (kEnd tab [] nl rs15))))) m5 (killS (fi15.lp 5).alive env) os
noncomputable def bk16_5 (K : Nat → List SV → List SO → Out) (N nl : Nat) (m5 : Nat) : Env → List SO → Out := fun env os => loopS nl (fi16.lp 5) (fun env os nx => exec (cx K) N nl fi16 (subC c16 [1, 1, 1, 0, 1, 0, 0]) env os (kLoop nx (kBlock 0 (kSeq (exec (cx K) N nl fi16 (subC c16 [1, 1, 1, 1])) (fi16.jn 11) (kEnd tab [] nl rs16))))) m5 (killS (fi16.lp 5).alive env) os
noncomputable def bk18_3 (K : Nat → List SV → List SO → Out) (N nl : Nat) (m3 : Nat) : Env → List SO → Out := fun env os => loopS nl (fi18.lp 3) (fun env os nx => exec (cx K) N nl fi18 (subC c18 [1, 1, 0, 1, 0, 0]) env os (kLoop nx (kBlock 0 (kSeq (exec (cx K) N nl fi18 (subC c18 [1, 1, 1])) (fi18.jn 6) (kEnd tab [] nl rs18))))) m3 (killS (fi18.lp 3).alive env) os
noncomputable def L18_3 (K : Nat → List SV → List SO → Out) (N nl : Nat) (m3 : Nat) (x0 x3 x4 : SV) (os : List SO) : Out := loopS nl (fi18.lp 3) (fun env os nx => exec (cx K) N nl fi18 (subC c18 [1, 1, 0, 1, 0, 0]) env os (kLoop nx (kBlock 0 (kSeq (exec (cx K) N nl fi18 (subC c18 [1, 1, 1])) (fi18.jn 6) (kEnd tab [] nl rs18))))) m3 [(0, x0), (3, x3), (4, x4)] os
noncomputable def G18_3 (K : Nat → List SV → List SO → Out) (N nl : Nat) (m3 : Nat) (xs : List SV) (os : List SO) : Out := (fun env os nx => exec (cx K) N nl fi18 (subC c18 [1, 1, 0, 1, 0, 0]) env os (kLoop nx (kBlock 0 (kSeq (exec (cx K) N nl fi18 (subC c18 [1, 1, 1])) (fi18.jn 6) (kEnd tab [] nl rs18))))) (zipE [0, 3, 4] xs) os (bk18_3 K N nl m3)
noncomputable def GB18_3 (K : Nat → List SV → List SO → Out) (N nl : Nat) (m3 : Nat) (x0 x3 x4 : SV) (os : List SO) : Out :=
 bd (lenO tab 51 os x0) fun v4 o4 =>
 bd (ret1 (binS tab .lss 3 x4 v4) o4) fun v5 o5 =>
 condS v5 (bd (ret1 (indexAddrS tab o5 51 x0 x4) o5) fun v6 o6 =>
 bd (ret1 (loadS tab o6 101 v6) o6) fun v7 o7 =>
 bd (callS ⟨tab, ownF, K⟩ o7 55 [v7]) fun v8 o8 =>
 bd (ret1 (indexAddrS tab o8 23 x3 x4) o8) fun v9 o9 =>
 bd (storeO tab o9 35 v9 (some v8)) fun v10 o10 =>
 bd (ret1 (binS tab .add 3 x4 (SV.v (.int .i64 1))) o10) fun v11 o11 =>
 L18_3 K N nl m3 x0 x3 v11 o11)
 (retV tab nl o5 (resC1 (some x3) (some [])))
noncomputable def X18 (K : Nat → List SV → List SO → Out) (N nl : Nat) (x0 : SV) (os : List SO) : Out := exec (cx K) N nl fi18 c18 [(0, x0)] os (kEnd tab [] nl rs18)
noncomputable def B18 (K : Nat → List SV → List SO → Out) (N nl : Nat) (x0 : SV) (os : List SO) : Out :=
 bd (evN tab 23 os none) fun v1 o1 =>
 bd (lenO tab 51 o1 x0) fun v2 o2 =>
 bd (makeS tab o2 23 v2 v2) fun v3 o3 =>
 L18_3 K N nl N x0 v3 (SV.v (.int .i64 0)) o3
noncomputable def bk19_5 (K : Nat → List SV → List SO → Out) (N nl : Nat) (m5 : Nat) : Env → List SO → Out := fun env os => loopS nl (fi19.lp 5) (fun env os nx => exec (cx K) N nl fi19 (subC c19 [1, 1, 1, 0, 1, 0, 0]) env os (kLoop nx (kBlock 0 (kSeq (exec (cx K) N nl fi19 (subC c19 [1, 1, 1, 1])) (fi19.jn 10) (kEnd tab [] nl rs19))))) m5 (killS (fi19.lp 5).alive env) os
noncomputable def bk20_4 (K : Nat → List SV → List SO → Out) (N nl : Nat) (m4 : Nat) : Env → List SO → Out := fun env os => loopS nl (fi20.lp 4) (fun env os nx => exec (cx K) N nl fi20 (subC c20 [1, 1, 0, 1, 0, 0]) env os (kLoop nx (kBlock 0 (kSeq (exec (cx K) N nl fi20 (subC c20 [1, 1, 1])) (fi20.jn 8) (kEnd tab [] nl rs20))))) m4 (killS (fi20.lp 4).alive env) os
noncomputable def bk22_4 (K : Nat → List SV → List SO → Out) (N nl : Nat) (m4 : Nat) : Env → List SO → Out := fun env os => loopS nl (fi22.lp 4) (fun env os nx => exec (cx K) N nl fi22 (subC c22 [1, 1, 0, 1, 0, 0]) env os (kLoop nx (kBlock 0 (kSeq (exec (cx K) N nl fi22 (subC c22 [1, 1, 1])) (fi22.jn 8) (kEnd tab [] nl rs22))))) m4 (killS (fi22.lp 4).alive env) os
noncomputable def bk24_2 (K : Nat → List SV → List SO → Out) (N nl : Nat) (m2 : Nat) : Env → List SO → Out := fun env os => loopS nl (fi24.lp 2) (fun env os nx => exec (cx K) N nl fi24 (subC c24 [1, 0, 1, 0, 0]) env os (kLoop nx (kBlock 0 (kSeq (exec (cx K) N nl fi24 (subC c24 [1, 1])) (fi24.jn 10) (kEnd tab [] nl rs24))))) m2 (killS (fi24.lp 2).alive env) os
noncomputable def L24_2 (K : Nat → List SV → List SO → Out) (N nl : Nat) (m2 : Nat) (x0 x1 x5 : SV) (os : List SO) : Out := loopS nl (fi24.lp 2) (fun env os nx => exec (cx K) N nl fi24 (subC c24 [1, 0, 1, 0, 0]) env os (kLoop nx (kBlock 0 (kSeq (exec (cx K) N nl fi24 (subC c24 [1, 1])) (fi24.jn 10) (kEnd tab [] nl rs24))))) m2 [(0, x0), (1, x1), (5, x5)] os
noncomputable def LB24_2 (K : Nat → List SV → List SO → Out) (N nl : Nat) (m2 : Nat) (x0 x1 x5 : SV) (os : List SO) : Out :=
 bd (lenO tab 23 os x0) fun v1 o1 =>
 bd (ret1 (binS tab .lss 3 x5 v1) o1) fun v2 o2 =>
 condS v2 (bd (ret1 (indexAddrS tab o2 23 x0 x5) o2) fun v3 o3 =>
 bd (ret1 (fieldAddrS tab 35 v3 0) o3) fun v4 o4 =>
 bd (storeO tab o4 3 v4 (some x1)) fun v5 o5 =>
 bd (ret1 (binS tab .add 3 x1 (SV.v (.int .i64 1))) o5) fun v6 o6 =>
 bd (ret1 (indexAddrS tab o6 23 x0 x5) o6) fun v7 o7 =>
 bd (ret1 (fieldAddrS tab 35 v7 1) o7) fun v8 o8 =>
 bd (storeO tab o8 3 v8 (some v6)) fun v9 o9 =>
 bd (ret1 (binS tab .add 3 v6 (SV.v (.int .i64 1))) o9) fun v10 o10 =>
 bd (ret1 (indexAddrS tab o10 23 x0 x5) o10) fun v11 o11 =>
 bd (ret1 (fieldAddrS tab 35 v11 2) o11) fun v12 o12 =>
 bd (ret1 (loadS tab o12 32 v12) o12) fun v13 o13 =>
 bd (callS ⟨tab, ownF, K⟩ o13 65 [v13, v10]) fun v14 o14 =>
 bd (ret1 (indexAddrS tab o14 23 x0 x5) o14) fun v15 o15 =>
 bd (ret1 (fieldAddrS tab 35 v15 3) o15) fun v16 o16 =>
 bd (ret1 (loadS tab o16 33 v16) o16) fun v17 o17 =>
 bd (callS ⟨tab, ownF, K⟩ o17 66 [v17, v14]) fun v18 o18 =>
 bd (ret1 (binS tab .add 3 x5 (SV.v (.int .i64 1))) o18) fun v19 o19 =>
 L24_2 K N nl m2 x0 v18 v19 o19)
 (retV tab nl o2 (resC1 (some x1) (some [])))
noncomputable def X24 (K : Nat → List SV → List SO → Out) (N nl : Nat) (x0 x1 : SV) (os : List SO) : Out := exec (cx K) N nl fi24 c24 [(0, x0), (1, x1)] os (kEnd tab [] nl rs24)
noncomputable def B24 (K : Nat → List SV → List SO → Out) (N nl : Nat) (x0 x1 : SV) (os : List SO) : Out :=
 L24_2 K N nl N x0 x1 (SV.v (.int .i64 0)) os
noncomputable def bk25_2 (K : Nat → List SV → List SO → Out) (N nl : Nat) (m2 : Nat) : Env → List SO → Out := fun env os => loopS nl (fi25.lp 2) (fun env os nx => exec (cx K) N nl fi25 (subC c25 [1, 0, 1, 0, 0]) env os (kLoop nx (kBlock 0 (kSeq (exec (cx K) N nl fi25 (subC c25 [1, 1])) (fi25.jn 10) (kEnd tab [] nl rs25))))) m2 (killS (fi25.lp 2).alive env) os
noncomputable def bk26_2 (K : Nat → List SV → List SO → Out) (N nl : Nat) (m2 : Nat) : Env → List SO → Out := fun env os => loopS nl (fi26.lp 2) (fun env os nx => exec (cx K) N nl fi26 (subC c26 [1, 0, 1, 0, 0]) env os (kLoop nx (kBlock 0 (kSeq (exec (cx K) N nl fi26 (subC c26 [1, 1])) (fi26.jn 13) (kEnd tab [] nl rs26))))) m2 (killS (fi26.lp 2).alive env) os
noncomputable def J27_3 (K : Nat → List SV → List SO → Out) (N nl : Nat) (x0 : SV) (os : List SO) : Out := exec (cx K) N nl fi27 (subC c27 [1, 1]) [(0, x0)] os (kEnd tab [] nl rs27)
noncomputable def JB27_3 (K : Nat → List SV → List SO → Out) (N nl : Nat) (x0 : SV) (os : List SO) : Out :=
 bd (buildS tab os 115 [(0, (some x0))]) fun v4 o4 =>
 bd (boxS tab o4 115 (some v4)) fun v5 o5 =>
 retV tab nl o5 (resC1 (some v5) (some []))
noncomputable def X27 (K : Nat → List SV → List SO → Out) (N nl : Nat) (x0 : SV) (os : List SO) : Out := exec (cx K) N nl fi27 c27 [(0, x0)] os (kEnd tab [] nl rs27)
noncomputable def B27 (K : Nat → List SV → List SO → Out) (N nl : Nat) (x0 : SV) (os : List SO) : Out :=
 bd (lenO tab 22 os x0) fun v1 o1 =>
 bd (ret1 (binS tab .gtr 3 v1 (SV.v (.int .i64 2000))) o1) fun v2 o2 =>
 condS v2 (bd (ret1 (sliceS tab o2 22 x0 none (some (SV.v (.int .i64 2000)))) o2) fun v3 o3 =>
 J27_3 K N nl v3 o3)
 (J27_3 K N nl x0 o2)
noncomputable def X28 (K : Nat → List SV → List SO → Out) (N nl : Nat) (x0 x1 : SV) (os : List SO) : Out := exec (cx K) N nl fi28 c28 [(0, x0), (1, x1)] os (kEnd tab [] nl rs28)
noncomputable def B28 (K : Nat → List SV → List SO → Out) (N nl : Nat) (x0 x1 : SV) (os : List SO) : Out :=
 bd (ret1 (nilS x0) os) fun v1 o1 =>
 bd (ret1 (fieldAddrS tab 115 v1 1) o1) fun v2 o2 =>
 bd (ret1 (loadS tab o2 3 v2) o2) fun v3 o3 =>
 bd (ret1 (binS tab .add 3 v3 (SV.v (.int .i64 1))) o3) fun v4 o4 =>
 bd (ret1 (nilS x0) o4) fun v5 o5 =>
 bd (ret1 (fieldAddrS tab 115 v5 1) o5) fun v6 o6 =>
 bd (storeO tab o6 3 v6 (some v4)) fun v7 o7 =>
 bd (ret1 (binS tab .lss 3 x1 (SV.v (.int .i64 1))) o7) fun v8 o8 =>
 bd (gd v8 false (some (x0, o8)) o8) fun v9 o9 =>
 bd (gd v8 false (ret1 (nilS v9) o9) o9) fun v10 o10 =>
 bd (gd v8 false (ret1 (fieldAddrS tab 115 v10 0) o10) o10) fun v11 o11 =>
 bd (gd v8 false (ret1 (loadS tab o11 22 v11) o11) o11) fun v12 o12 =>
 bd (gd v8 false (lenO tab 22 o12 v12) o12) fun v13 o13 =>
 bd (gd v8 false (ret1 (binS tab .eql 3 v13 (SV.v (.int .i64 0))) o13) o13) fun v14 o14 =>
 bd (ret1 (pickS v8 (SV.v (.bool true)) v14) o14) fun v15 o15 =>
 condS v15 (retV tab nl o15 (resC1 (some (SV.v (.int .i64 0))) (some [])))
 (bd (ret1 (nilS x0) o15) fun v16 o16 =>
 bd (ret1 (fieldAddrS tab 115 v16 1) o16) fun v17 o17 =>
 bd (ret1 (loadS tab o17 3 v17) o17) fun v18 o18 =>
 bd (ret1 (binS tab .sub 3 v18 (SV.v (.int .i64 1))) o18) fun v19 o19 =>
 bd (ret1 (nilS x0) o19) fun v20 o20 =>
 bd (ret1 (fieldAddrS tab 115 v20 0) o20) fun v21 o21 =>
 bd (ret1 (loadS tab o21 22 v21) o21) fun v22 o22 =>
 bd (lenO tab 22 o22 v22) fun v23 o23 =>
 bd (ret1 (binS tab .lss 3 v19 v23) o23) fun v24 o24 =>
 condS v24 (bd (ret1 (nilS x0) o24) fun v25 o25 =>
 bd (ret1 (fieldAddrS tab 115 v25 0) o25) fun v26 o26 =>
 bd (ret1 (loadS tab o26 22 v26) o26) fun v27 o27 =>
 bd (ret1 (indexAddrS tab o27 22 v27 v19) o27) fun v28 o28 =>
 bd (ret1 (loadS tab o28 5 v28) o28) fun v29 o29 =>
 bd (convS tab o29 5 3 v29) fun v30 o30 =>
 bd (ret1 (binS tab .rem 3 v30 x1) o30) fun v31 o31 =>
 retV tab nl o31 (resC1 (some v31) (some [])))
 (bd (ret1 (nilS x0) o24) fun v32 o32 =>
 bd (ret1 (fieldAddrS tab 115 v32 0) o32) fun v33 o33 =>
 bd (ret1 (loadS tab o33 22 v33) o33) fun v34 o34 =>
 bd (ret1 (nilS x0) o34) fun v35 o35 =>
 bd (ret1 (fieldAddrS tab 115 v35 0) o35) fun v36 o36 =>
 bd (ret1 (loadS tab o36 22 v36) o36) fun v37 o37 =>
 bd (lenO tab 22 o37 v37) fun v38 o38 =>
 bd (ret1 (binS tab .rem 3 v19 v38) o38) fun v39 o39 =>
 bd (ret1 (indexAddrS tab o39 22 v34 v39) o39) fun v40 o40 =>
 bd (ret1 (loadS tab o40 5 v40) o40) fun v41 o41 =>
 bd (convS tab o41 5 3 v41) fun v42 o42 =>
 bd (ret1 (binS tab .mul 3 v42 (SV.v (.int .i64 131))) o42) fun v43 o43 =>
 bd (ret1 (nilS x0) o43) fun v44 o44 =>
 bd (ret1 (fieldAddrS tab 115 v44 0) o44) fun v45 o45 =>
 bd (ret1 (loadS tab o45 22 v45) o45) fun v46 o46 =>
 bd (ret1 (binS tab .mul 3 v19 (SV.v (.int .i64 7))) o46) fun v47 o47 =>
 bd (ret1 (binS tab .add 3 v47 (SV.v (.int .i64 3))) o47) fun v48 o48 =>
 bd (ret1 (nilS x0) o48) fun v49 o49 =>
 bd (ret1 (fieldAddrS tab 115 v49 0) o49) fun v50 o50 =>
 bd (ret1 (loadS tab o50 22 v50) o50) fun v51 o51 =>
 bd (lenO tab 22 o51 v51) fun v52 o52 =>
 bd (ret1 (binS tab .rem 3 v48 v52) o52) fun v53 o53 =>
 bd (ret1 (indexAddrS tab o53 22 v46 v53) o53) fun v54 o54 =>
 bd (ret1 (loadS tab o54 5 v54) o54) fun v55 o55 =>
 bd (convS tab o55 5 3 v55) fun v56 o56 =>
 bd (ret1 (binS tab .mul 3 v56 (SV.v (.int .i64 1117))) o56) fun v57 o57 =>
 bd (ret1 (binS tab .add 3 v43 v57) o57) fun v58 o58 =>
 bd (ret1 (binS tab .mul 3 v19 (SV.v (.int .i64 29))) o58) fun v59 o59 =>
 bd (ret1 (binS tab .add 3 v58 v59) o59) fun v60 o60 =>
 bd (ret1 (nilS x0) o60) fun v61 o61 =>
 bd (ret1 (fieldAddrS tab 115 v61 0) o61) fun v62 o62 =>
 bd (ret1 (loadS tab o62 22 v62) o62) fun v63 o63 =>
 bd (lenO tab 22 o63 v63) fun v64 o64 =>
 bd (ret1 (binS tab .quo 3 v19 v64) o64) fun v65 o65 =>
 bd (ret1 (binS tab .mul 3 v65 (SV.v (.int .i64 53))) o65) fun v66 o66 =>
 bd (ret1 (binS tab .add 3 v60 v66) o66) fun v67 o67 =>
 bd (ret1 (binS tab .quo 3 v67 (SV.v (.int .i64 64))) o67) fun v68 o68 =>
 bd (ret1 (binS tab .xor 3 v67 v68) o68) fun v69 o69 =>
 bd (ret1 (binS tab .rem 3 v69 x1) o69) fun v70 o70 =>
 retV tab nl o70 (resC1 (some v70) (some []))))
noncomputable def J29_8 (K : Nat → List SV → List SO → Out) (N nl : Nat) (x3 : SV) (os : List SO) : Out := exec (cx K) N nl fi29 (subC c29 [1, 1, 1]) [(3, x3)] os (kEnd tab [] nl rs29)
noncomputable def JB29_8 (K : Nat → List SV → List SO → Out) (N nl : Nat) (x3 : SV) (os : List SO) : Out :=
 retV tab nl os (resC1 (some x3) (some []))
noncomputable def X29 (K : Nat → List SV → List SO → Out) (N nl : Nat) (x0 : SV) (os : List SO) : Out := exec (cx K) N nl fi29 c29 [(0, x0)] os (kEnd tab [] nl rs29)
noncomputable def B29 (K : Nat → List SV → List SO → Out) (N nl : Nat) (x0 : SV) (os : List SO) : Out :=
 bd (evN tab 23 os none) fun v1 o1 =>
 bd (callS ⟨tab, ownF, K⟩ o1 67 [x0]) fun v2 o2 =>
 bd (callS ⟨tab, ownF, K⟩ o2 28 [x0, (SV.v (.int .i64 20))]) fun v3 o3 =>
 bd (ret1 (binS tab .eql 3 v3 (SV.v (.int .i64 0))) o3) fun v4 o4 =>
 condS v4 (bd (callS ⟨tab, ownF, K⟩ o4 68 [x0]) fun v5 o5 =>
 bd (buildSliceS tab o5 23 1 [(0, v5)]) fun v6 o6 =>
 bd (appendS tab o6 23 23 v2 v6) fun v7 o7 =>
 J29_8 K N nl v7 o7)
 (bd (ret1 (binS tab .eql 3 v3 (SV.v (.int .i64 1))) o4) fun v8 o8 =>
 condS v8 (bd (lenO tab 23 o8 v2) fun v9 o9 =>
 bd (ret1 (binS tab .gtr 3 v9 (SV.v (.int .i64 0))) o9) fun v10 o10 =>
 condS v10 (bd (lenO tab 23 o10 v2) fun v11 o11 =>
 bd (callS ⟨tab, ownF, K⟩ o11 28 [x0, v11]) fun v12 o12 =>
 bd (callS ⟨tab, ownF, K⟩ o12 68 [x0]) fun v13 o13 =>
 bd (ret1 (indexAddrS tab o13 23 v2 v12) o13) fun v14 o14 =>
 bd (storeO tab o14 35 v14 (some v13)) fun v15 o15 =>
 J29_8 K N nl v2 o15)
 (J29_8 K N nl v2 o10))
 (J29_8 K N nl v2 o8))
noncomputable def bk30_2 (K : Nat → List SV → List SO → Out) (N nl : Nat) (m2 : Nat) : Env → List SO → Out := fun env os => loopS nl (fi30.lp 2) (fun env os nx => exec (cx K) N nl fi30 (subC c30 [1, 0, 1, 0, 0]) env os (kLoop nx (kBlock 0 (kSeq (exec (cx K) N nl fi30 (subC c30 [1, 1])) (fi30.jn 6) (kEnd tab [] nl rs30))))) m2 (killS (fi30.lp 2).alive env) os
noncomputable def L30_2 (K : Nat → List SV → List SO → Out) (N nl : Nat) (m2 : Nat) (x0 x3 : SV) (os : List SO) : Out := loopS nl (fi30.lp 2) (fun env os nx => exec (cx K) N nl fi30 (subC c30 [1, 0, 1, 0, 0]) env os (kLoop nx (kBlock 0 (kSeq (exec (cx K) N nl fi30 (subC c30 [1, 1])) (fi30.jn 6) (kEnd tab [] nl rs30))))) m2 [(0, x0), (3, x3)] os
noncomputable def LB30_2 (K : Nat → List SV → List SO → Out) (N nl : Nat) (m2 : Nat) (x0 x3 : SV) (os : List SO) : Out :=
 bd (lenO tab 23 os x0) fun v1 o1 =>
 bd (ret1 (binS tab .lss 3 x3 v1) o1) fun v2 o2 =>
 condS v2 (bd (ret1 (indexAddrS tab o2 23 x0 x3) o2) fun v3 o3 =>
 bd (ret1 (loadS tab o3 35 v3) o3) fun v4 o4 =>
 bd (callS ⟨tab, ownF, K⟩ o4 69 [v4]) fun v5 o5 =>
 bd (ret1 (unS .not v5) o5) fun v6 o6 =>
 bd (gd v6 false (some (x3, o6)) o6) fun v7 o7 =>
 bd (gd v6 false (ret1 (binS tab .gtr 3 v7 (SV.v (.int .i64 0))) o7) o7) fun v8 o8 =>
 bd (gd v6 false (some (v8, o8)) o8) fun v9 o9 =>
 bd (gd v9 true (some (x0, o9)) o9) fun v10 o10 =>
 bd (gd v9 true (some (x3, o10)) o10) fun v11 o11 =>
 bd (gd v9 true (ret1 (binS tab .sub 3 v11 (SV.v (.int .i64 1))) o11) o11) fun v12 o12 =>
 bd (gd v9 true (ret1 (indexAddrS tab o12 23 v10 v12) o12) o12) fun v13 o13 =>
 bd (gd v9 true (ret1 (fieldAddrS tab 35 v13 0) o13) o13) fun v14 o14 =>
 bd (gd v9 true (ret1 (loadS tab o14 3 v14) o14) o14) fun v15 o15 =>
 bd (gd v9 true (some (x0, o15)) o15) fun v16 o16 =>
 bd (gd v9 true (some (x3, o16)) o16) fun v17 o17 =>
 bd (gd v9 true (ret1 (binS tab .sub 3 v17 (SV.v (.int .i64 1))) o17) o17) fun v18 o18 =>
 bd (gd v9 true (ret1 (indexAddrS tab o18 23 v16 v18) o18) o18) fun v19 o19 =>
 bd (gd v9 true (ret1 (fieldAddrS tab 35 v19 1) o19) o19) fun v20 o20 =>
 bd (gd v9 true (ret1 (loadS tab o20 3 v20) o20) o20) fun v21 o21 =>
 bd (gd v9 true (some (x0, o21)) o21) fun v22 o22 =>
 bd (gd v9 true (some (x3, o22)) o22) fun v23 o23 =>
 bd (gd v9 true (ret1 (indexAddrS tab o23 23 v22 v23) o23) o23) fun v24 o24 =>
 bd (gd v9 true (ret1 (fieldAddrS tab 35 v24 0) o24) o24) fun v25 o25 =>
 bd (gd v9 true (ret1 (loadS tab o25 3 v25) o25) o25) fun v26 o26 =>
 bd (gd v9 true (some (x0, o26)) o26) fun v27 o27 =>
 bd (gd v9 true (some (x3, o27)) o27) fun v28 o28 =>
 bd (gd v9 true (ret1 (indexAddrS tab o28 23 v27 v28) o28) o28) fun v29 o29 =>
 bd (gd v9 true (ret1 (fieldAddrS tab 35 v29 1) o29) o29) fun v30 o30 =>
 bd (gd v9 true (ret1 (loadS tab o30 3 v30) o30) o30) fun v31 o31 =>
 bd (gd v9 true (callS ⟨tab, ownF, K⟩ o31 70 [v15, v21, v26, v31]) o31) fun v32 o32 =>
 bd (gd v9 true (ret1 (unS .not v32) o32) o32) fun v33 o33 =>
 bd (gd v6 false (ret1 (pickS v9 v33 (SV.v (.bool false))) o33) o33) fun v34 o34 =>
 bd (ret1 (pickS v6 (SV.v (.bool true)) v34) o34) fun v35 o35 =>
 condS v35 (retV tab nl o35 (resC1 (some (SV.v (.bool false))) (some [])))
 (bd (ret1 (binS tab .add 3 x3 (SV.v (.int .i64 1))) o35) fun v36 o36 =>
 L30_2 K N nl m2 x0 v36 o36))
 (retV tab nl o2 (resC1 (some (SV.v (.bool true))) (some [])))
noncomputable def X30 (K : Nat → List SV → List SO → Out) (N nl : Nat) (x0 : SV) (os : List SO) : Out := exec (cx K) N nl fi30 c30 [(0, x0)] os (kEnd tab [] nl rs30)
noncomputable def B30 (K : Nat → List SV → List SO → Out) (N nl : Nat) (x0 : SV) (os : List SO) : Out :=
 L30_2 K N nl N x0 (SV.v (.int .i64 0)) os
noncomputable def bk31_3 (K : Nat → List SV → List SO → Out) (N nl : Nat) (m3 : Nat) : Env → List SO → Out := fun env os => loopS nl (fi31.lp 3) (fun env os nx => exec (cx K) N nl fi31 (subC c31 [1, 1, 0, 1, 0, 0]) env os (kLoop nx (kBlock 0 (kSeq (exec (cx K) N nl fi31 (subC c31 [1, 1, 1])) (fi31.jn 6) (kEnd tab [] nl rs31))))) m3 (killS (fi31.lp 3).alive env) os
noncomputable def L31_3 (K : Nat → List SV → List SO → Out) (N nl : Nat) (m3 : Nat) (x0 x3 x4 : SV) (os : List SO) : Out := loopS nl (fi31.lp 3) (fun env os nx => exec (cx K) N nl fi31 (subC c31 [1, 1, 0, 1, 0, 0]) env os (kLoop nx (kBlock 0 (kSeq (exec (cx K) N nl fi31 (subC c31 [1, 1, 1])) (fi31.jn 6) (kEnd tab [] nl rs31))))) m3 [(0, x0), (3, x3), (4, x4)] os
noncomputable def LB31_3 (K : Nat → List SV → List SO → Out) (N nl : Nat) (m3 : Nat) (x0 x3 x4 : SV) (os : List SO) : Out :=
 bd (lenO tab 9 os x0) fun v1 o1 =>
 bd (ret1 (binS tab .lss 3 x4 v1) o1) fun v2 o2 =>
 condS v2 (bd (ret1 (binS tab .mul 3 (SV.v (.int .i64 31)) x3) o2) fun v3 o3 =>
 bd (ret1 (indexS tab 9 x0 x4) o3) fun v4 o4 =>
 bd (convS tab o4 5 3 v4) fun v5 o5 =>
 bd (ret1 (binS tab .add 3 v3 v5) o5) fun v6 o6 =>
 bd (ret1 (binS tab .add 3 v6 (SV.v (.int .i64 1))) o6) fun v7 o7 =>
 bd (ret1 (binS tab .rem 3 v7 (SV.v (.int .i64 9973))) o7) fun v8 o8 =>
 bd (ret1 (binS tab .add 3 x4 (SV.v (.int .i64 1))) o8) fun v9 o9 =>
 L31_3 K N nl m3 x0 v8 v9 o9)
 (retV tab nl o2 (resC1 (some x3) (some [])))
noncomputable def X31 (K : Nat → List SV → List SO → Out) (N nl : Nat) (x0 : SV) (os : List SO) : Out := exec (cx K) N nl fi31 c31 [(0, x0)] os (kEnd tab [] nl rs31)
noncomputable def B31 (K : Nat → List SV → List SO → Out) (N nl : Nat) (x0 : SV) (os : List SO) : Out :=
 L31_3 K N nl N x0 (SV.v (.int .i64 7)) (SV.v (.int .i64 0)) os
noncomputable def bk32_5 (K : Nat → List SV → List SO → Out) (N nl : Nat) (m5 : Nat) : Env → List SO → Out := fun env os => loopS nl (fi32.lp 5) (fun env os nx => exec (cx K) N nl fi32 (subC c32 [1, 1, 1, 0, 1, 0, 0]) env os (kLoop nx (kBlock 0 (kSeq (exec (cx K) N nl fi32 (subC c32 [1, 1, 1, 1])) (fi32.jn 8) (kEnd tab [] nl rs32))))) m5 (killS (fi32.lp 5).alive env) os
noncomputable def bk32_9 (K : Nat → List SV → List SO → Out) (N nl : Nat) (m9 : Nat) : Env → List SO → Out := fun env os => loopS nl (fi32.lp 9) (fun env os nx => exec (cx K) N nl fi32 (subC c32 [1, 1, 1, 1, 0, 1, 0, 0]) env os (kLoop nx (kBlock 2 (kSeq (exec (cx K) N nl fi32 (subC c32 [1, 1, 1, 1, 1])) (fi32.jn 12) (kEnd tab [] nl rs32))))) m9 (killS (fi32.lp 9).alive env) os
noncomputable def L32_5 (K : Nat → List SV → List SO → Out) (N nl : Nat) (m5 : Nat) (x1 x3 x4 : SV) (os : List SO) : Out := loopS nl (fi32.lp 5) (fun env os nx => exec (cx K) N nl fi32 (subC c32 [1, 1, 1, 0, 1, 0, 0]) env os (kLoop nx (kBlock 0 (kSeq (exec (cx K) N nl fi32 (subC c32 [1, 1, 1, 1])) (fi32.jn 8) (kEnd tab [] nl rs32))))) m5 [(1, x1), (3, x3), (4, x4)] os
noncomputable def J32_6 (K : Nat → List SV → List SO → Out) (N nl : Nat) (m5 : Nat) (x1 x3 x4 : SV) (os : List SO) : Out := exec (cx K) N nl fi32 (subC c32 [1, 1, 1, 0, 1, 0, 0, 1, 1]) [(1, x1), (3, x3), (4, x4)] os (kLoop (bk32_5 K N nl m5) (kBlock 0 (kSeq (exec (cx K) N nl fi32 (subC c32 [1, 1, 1, 1])) (fi32.jn 8) (kEnd tab [] nl rs32))))
noncomputable def L32_9 (K : Nat → List SV → List SO → Out) (N nl : Nat) (m9 : Nat) (x1 x3 x5 : SV) (os : List SO) : Out := loopS nl (fi32.lp 9) (fun env os nx => exec (cx K) N nl fi32 (subC c32 [1, 1, 1, 1, 0, 1, 0, 0]) env os (kLoop nx (kBlock 2 (kSeq (exec (cx K) N nl fi32 (subC c32 [1, 1, 1, 1, 1])) (fi32.jn 12) (kEnd tab [] nl rs32))))) m9 [(1, x1), (3, x3), (5, x5)] os
noncomputable def LB32_5 (K : Nat → List SV → List SO → Out) (N nl : Nat) (m5 : Nat) (x1 x3 x4 : SV) (os : List SO) : Out :=
 bd (ret1 (fieldAddrS tab 35 x1 2) os) fun v10 o10 =>
 bd (ret1 (loadS tab o10 32 v10) o10) fun v11 o11 =>
 bd (lenO tab 32 o11 v11) fun v12 o12 =>
 bd (ret1 (binS tab .lss 3 x4 v12) o12) fun v13 o13 =>
 condS v13 (both (bd (ret1 (binS tab .add 9 x3 (SV.v (.string ⟨#[32]⟩))) o13) fun v14 o14 =>
 bd (ret1 (fieldAddrS tab 35 x1 2) o14) fun v15 o15 =>
 bd (ret1 (loadS tab o15 32 v15) o15) fun v16 o16 =>
 bd (ret1 (indexAddrS tab o16 32 v16 x4) o16) fun v17 o17 =>
 bd (ret1 (fieldAddrS tab 88 v17 0) o17) fun v18 o18 =>
 bd (ret1 (loadS tab o18 3 v18) o18) fun v19 o19 =>
 dchk (keepOk ⟨tab, ownF, K⟩ o19 (SV.fn 72 []) [v19] [] true) <|
 bd (callS ⟨tab, ownF, K⟩ o19 72 [v19]) fun v20 o20 =>
 bd (ret1 (binS tab .add 9 v14 v20) o20) fun v21 o21 =>
 bd (ret1 (binS tab .add 9 v21 (SV.v (.string ⟨#[58]⟩))) o21) fun v22 o22 =>
 bd (ret1 (fieldAddrS tab 35 x1 2) o22) fun v23 o23 =>
 dchk (isBox v23) <|
 bd (ret1 (loadS tab o23 32 v23) o23) fun v24 o24 =>
 bd (ret1 (indexAddrS tab o24 32 v24 x4) o24) fun v25 o25 =>
 bd (ret1 (fieldAddrS tab 88 v25 1) o25) fun v26 o26 =>
 bd (ret1 (loadS tab o26 3 v26) o26) fun v27 o27 =>
 bd (callS ⟨tab, ownF, K⟩ o27 72 [v27]) fun v28 o28 =>
 bd (ret1 (binS tab .add 9 v22 v28) o28) fun v29 o29 =>
 J32_6 K N nl m5 x1 v29 x4 o29)
 (bd (ret1 (binS tab .add 9 x3 (SV.v (.string ⟨#[32]⟩))) o13) fun v30 o30 =>
 bd (ret1 (fieldAddrS tab 35 x1 2) o30) fun v31 o31 =>
 bd (ret1 (loadS tab o31 32 v31) o31) fun v32 o32 =>
 bd (ret1 (indexAddrS tab o32 32 v32 x4) o32) fun v33 o33 =>
 bd (ret1 (fieldAddrS tab 88 v33 0) o33) fun v34 o34 =>
 bd (ret1 (loadS tab o34 3 v34) o34) fun v35 o35 =>
 bd (ret1 (fieldAddrS tab 35 x1 2) o35) fun v36 o36 =>
 bd (ret1 (loadS tab o36 32 v36) o36) fun v37 o37 =>
 bd (ret1 (indexAddrS tab o37 32 v37 x4) o37) fun v38 o38 =>
 dchk (keepOk ⟨tab, ownF, K⟩ o38 (SV.fn 72 []) [v35] [] true) <|
 bd (callS ⟨tab, ownF, K⟩ o38 72 [v35]) fun v39 o39 =>
 bd (ret1 (binS tab .add 9 v30 v39) o39) fun v40 o40 =>
 bd (ret1 (binS tab .add 9 v40 (SV.v (.string ⟨#[58]⟩))) o40) fun v41 o41 =>
 bd (ret1 (fieldAddrS tab 88 v38 1) o41) fun v42 o42 =>
 dchk (isBox v42) <|
 bd (ret1 (loadS tab o42 3 v42) o42) fun v43 o43 =>
 bd (callS ⟨tab, ownF, K⟩ o43 72 [v43]) fun v44 o44 =>
 bd (ret1 (binS tab .add 9 v41 v44) o44) fun v45 o45 =>
 J32_6 K N nl m5 x1 v45 x4 o45))
 (L32_9 K N nl N x1 x3 (SV.v (.int .i64 0)) o13)
noncomputable def JB32_6 (K : Nat → List SV → List SO → Out) (N nl : Nat) (m5 : Nat) (x1 x3 x4 : SV) (os : List SO) : Out :=
 bd (ret1 (binS tab .add 3 x4 (SV.v (.int .i64 1))) os) fun v46 o46 =>
 L32_5 K N nl m5 x1 x3 v46 o46
noncomputable def LB32_9 (K : Nat → List SV → List SO → Out) (N nl : Nat) (m9 : Nat) (x1 x3 x5 : SV) (os : List SO) : Out :=
 bd (ret1 (fieldAddrS tab 35 x1 3) os) fun v47 o47 =>
 bd (ret1 (loadS tab o47 33 v47) o47) fun v48 o48 =>
 bd (lenO tab 33 o48 v48) fun v49 o49 =>
 bd (ret1 (binS tab .lss 3 x5 v49) o49) fun v50 o50 =>
 condS v50 (bd (ret1 (binS tab .add 9 x3 (SV.v (.string ⟨#[32]⟩))) o50) fun v51 o51 =>
 bd (ret1 (fieldAddrS tab 35 x1 3) o51) fun v52 o52 =>
 bd (ret1 (loadS tab o52 33 v52) o52) fun v53 o53 =>
 bd (ret1 (indexAddrS tab o53 33 v53 x5) o53) fun v54 o54 =>
 bd (ret1 (fieldAddrS tab 91 v54 0) o54) fun v55 o55 =>
 bd (ret1 (loadS tab o55 3 v55) o55) fun v56 o56 =>
 bd (ret1 (fieldAddrS tab 35 x1 3) o56) fun v57 o57 =>
 bd (ret1 (loadS tab o57 33 v57) o57) fun v58 o58 =>
 bd (ret1 (indexAddrS tab o58 33 v58 x5) o58) fun v59 o59 =>
 bd (ret1 (fieldAddrS tab 91 v59 1) o59) fun v60 o60 =>
 bd (ret1 (loadS tab o60 3 v60) o60) fun v61 o61 =>
 bd (callS ⟨tab, ownF, K⟩ o61 71 [v56, v61]) fun v62 o62 =>
 bd (ret1 (binS tab .add 9 v51 v62) o62) fun v63 o63 =>
 bd (ret1 (binS tab .add 3 x5 (SV.v (.int .i64 1))) o63) fun v64 o64 =>
 L32_9 K N nl m9 x1 v63 v64 o64)
 (retV tab nl o50 (resC1 (some x3) (some [])))
noncomputable def X32 (K : Nat → List SV → List SO → Out) (N nl : Nat) (x0 : SV) (os : List SO) : Out := exec (cx K) N nl fi32 c32 [(0, x0)] os (kEnd tab [] nl rs32)
noncomputable def B32 (K : Nat → List SV → List SO → Out) (N nl : Nat) (x0 : SV) (os : List SO) : Out :=
 bd (boxS tab os 35 (some x0)) fun v1 o1 =>
 bd (ret1 (loadS tab o1 35 v1) o1) fun v2 o2 =>
 bd (callS ⟨tab, ownF, K⟩ o2 69 [v2]) fun v3 o3 =>
 bd (ret1 (unS .not v3) o3) fun v4 o4 =>
 condS v4 (retV tab nl o4 (resC1 (some (SV.v (.string ⟨#[]⟩))) (some [])))
 (bd (ret1 (fieldAddrS tab 35 v1 0) o4) fun v5 o5 =>
 bd (ret1 (loadS tab o5 3 v5) o5) fun v6 o6 =>
 bd (ret1 (fieldAddrS tab 35 v1 1) o6) fun v7 o7 =>
 bd (ret1 (loadS tab o7 3 v7) o7) fun v8 o8 =>
 bd (callS ⟨tab, ownF, K⟩ o8 71 [v6, v8]) fun v9 o9 =>
 L32_5 K N nl N v1 v9 (SV.v (.int .i64 0)) o9)
noncomputable def bk33_4 (K : Nat → List SV → List SO → Out) (N nl : Nat) (m4 : Nat) : Env → List SO → Out := fun env os => loopS nl (fi33.lp 4) (fun env os nx => exec (cx K) N nl fi33 (subC c33 [1, 1, 0, 1, 0, 0]) env os (kLoop nx (kBlock 0 (kSeq (exec (cx K) N nl fi33 (subC c33 [1, 1, 1])) (fi33.jn 11) (kEnd tab [] nl rs33))))) m4 (killS (fi33.lp 4).alive env) os
noncomputable def L33_4 (K : Nat → List SV → List SO → Out) (N nl : Nat) (m4 : Nat) (x1 x3 : SV) (os : List SO) : Out := loopS nl (fi33.lp 4) (fun env os nx => exec (cx K) N nl fi33 (subC c33 [1, 1, 0, 1, 0, 0]) env os (kLoop nx (kBlock 0 (kSeq (exec (cx K) N nl fi33 (subC c33 [1, 1, 1])) (fi33.jn 11) (kEnd tab [] nl rs33))))) m4 [(1, x1), (3, x3)] os
noncomputable def G33_4 (K : Nat → List SV → List SO → Out) (N nl : Nat) (m4 : Nat) (xs : List SV) (os : List SO) : Out := (fun env os nx => exec (cx K) N nl fi33 (subC c33 [1, 1, 0, 1, 0, 0]) env os (kLoop nx (kBlock 0 (kSeq (exec (cx K) N nl fi33 (subC c33 [1, 1, 1])) (fi33.jn 11) (kEnd tab [] nl rs33))))) (zipE [1, 3] xs) os (bk33_4 K N nl m4)
noncomputable def GB33_4 (K : Nat → List SV → List SO → Out) (N nl : Nat) (m4 : Nat) (x1 x3 : SV) (os : List SO) : Out :=
 bd (ret1 (fieldAddrS tab 28 x1 2) os) fun v16 o16 =>
 bd (ret1 (loadS tab o16 26 v16) o16) fun v17 o17 =>
 bd (lenO tab 26 o17 v17) fun v18 o18 =>
 bd (ret1 (binS tab .lss 3 x3 v18) o18) fun v19 o19 =>
 condS v19 (bd (ret1 (fieldAddrS tab 28 x1 2) o19) fun v20 o20 =>
 bd (ret1 (loadS tab o20 26 v20) o20) fun v21 o21 =>
 bd (ret1 (indexAddrS tab o21 26 v21 x3) o21) fun v22 o22 =>
 bd (ret1 (loadS tab o22 74 v22) o22) fun v23 o23 =>
 bd (allocS tab o23 74) fun v24 o24 =>
 bd (storeO tab o24 74 v24 (some v23)) fun v25 o25 =>
 bd (ret1 (fieldAddrS tab 74 v24 0) o25) fun v26 o26 =>
 bd (ret1 (loadS tab o26 3 v26) o26) fun v27 o27 =>
 bd (callS ⟨tab, ownF, K⟩ o27 73 [v27, (SV.v (.int .i64 1)), (SV.v (.int .i64 4))]) fun v28 o28 =>
 bd (ret1 (unS .not v28) o28) fun v29 o29 =>
 bd (gd v29 false (ret1 (fieldAddrS tab 74 v24 1) o29) o29) fun v30 o30 =>
 bd (gd v29 false (ret1 (loadS tab o30 3 v30) o30) o30) fun v31 o31 =>
 bd (gd v29 false (callS ⟨tab, ownF, K⟩ o31 73 [v31, (SV.v (.int .i64 1)), (SV.v (.int .i64 5))]) o31) fun v32 o32 =>
 bd (gd v29 false (ret1 (unS .not v32) o32) o32) fun v33 o33 =>
 bd (ret1 (pickS v29 (SV.v (.bool true)) v33) o33) fun v34 o34 =>
 bd (gd v34 false (ret1 (fieldAddrS tab 74 v24 2) o34) o34) fun v35 o35 =>
 bd (gd v34 false (ret1 (loadS tab o35 3 v35) o35) o35) fun v36 o36 =>
 bd (gd v34 false (callS ⟨tab, ownF, K⟩ o36 73 [v36, (SV.v (.int .i64 0)), (SV.v (.int .i64 9972))]) o36) fun v37 o37 =>
 bd (gd v34 false (ret1 (unS .not v37) o37) o37) fun v38 o38 =>
 bd (ret1 (pickS v34 (SV.v (.bool true)) v38) o38) fun v39 o39 =>
 condS v39 (retV tab nl o39 (resC1 (some (SV.v (.bool false))) (some [])))
 (bd (ret1 (binS tab .gtr 3 x3 (SV.v (.int .i64 0))) o39) fun v40 o40 =>
 bd (gd v40 true (ret1 (fieldAddrS tab 28 x1 2) o40) o40) fun v41 o41 =>
 bd (gd v40 true (ret1 (loadS tab o41 26 v41) o41) o41) fun v42 o42 =>
 bd (gd v40 true (some (x3, o42)) o42) fun v43 o43 =>
 bd (gd v40 true (ret1 (binS tab .sub 3 v43 (SV.v (.int .i64 1))) o43) o43) fun v44 o44 =>
 bd (gd v40 true (ret1 (indexAddrS tab o44 26 v42 v44) o44) o44) fun v45 o45 =>
 bd (gd v40 true (ret1 (fieldAddrS tab 74 v45 0) o45) o45) fun v46 o46 =>
 bd (gd v40 true (ret1 (loadS tab o46 3 v46) o46) o46) fun v47 o47 =>
 bd (gd v40 true (ret1 (fieldAddrS tab 28 x1 2) o47) o47) fun v48 o48 =>
 bd (gd v40 true (ret1 (loadS tab o48 26 v48) o48) o48) fun v49 o49 =>
 bd (gd v40 true (some (x3, o49)) o49) fun v50 o50 =>
 bd (gd v40 true (ret1 (binS tab .sub 3 v50 (SV.v (.int .i64 1))) o50) o50) fun v51 o51 =>
 bd (gd v40 true (ret1 (indexAddrS tab o51 26 v49 v51) o51) o51) fun v52 o52 =>
 bd (gd v40 true (ret1 (fieldAddrS tab 74 v52 1) o52) o52) fun v53 o53 =>
 bd (gd v40 true (ret1 (loadS tab o53 3 v53) o53) o53) fun v54 o54 =>
 bd (gd v40 true (ret1 (fieldAddrS tab 74 v24 0) o54) o54) fun v55 o55 =>
 bd (gd v40 true (ret1 (loadS tab o55 3 v55) o55) o55) fun v56 o56 =>
 bd (gd v40 true (ret1 (fieldAddrS tab 74 v24 1) o56) o56) fun v57 o57 =>
 bd (gd v40 true (ret1 (loadS tab o57 3 v57) o57) o57) fun v58 o58 =>
 bd (gd v40 true (callS ⟨tab, ownF, K⟩ o58 70 [v47, v54, v56, v58]) o58) fun v59 o59 =>
 bd (gd v40 true (ret1 (unS .not v59) o59) o59) fun v60 o60 =>
 bd (ret1 (pickS v40 v60 (SV.v (.bool false))) o60) fun v61 o61 =>
 condS v61 (retV tab nl o61 (resC1 (some (SV.v (.bool false))) (some [])))
 (bd (ret1 (binS tab .add 3 x3 (SV.v (.int .i64 1))) o61) fun v62 o62 =>
 L33_4 K N nl m4 x1 v62 o62)))
 (retV tab nl o19 (resC1 (some (SV.v (.bool true))) (some [])))
noncomputable def X33 (K : Nat → List SV → List SO → Out) (N nl : Nat) (x0 : SV) (os : List SO) : Out := exec (cx K) N nl fi33 c33 [(0, x0)] os (kEnd tab [] nl rs33)
noncomputable def B33 (K : Nat → List SV → List SO → Out) (N nl : Nat) (x0 : SV) (os : List SO) : Out :=
 bd (boxS tab os 28 (some x0)) fun v1 o1 =>
 bd (ret1 (fieldAddrS tab 28 v1 0) o1) fun v2 o2 =>
 bd (ret1 (loadS tab o2 3 v2) o2) fun v3 o3 =>
 bd (callS ⟨tab, ownF, K⟩ o3 73 [v3, (SV.v (.int .i64 1)), (SV.v (.int .i64 30))]) fun v4 o4 =>
 bd (ret1 (unS .not v4) o4) fun v5 o5 =>
 bd (gd v5 false (ret1 (fieldAddrS tab 28 v1 1) o5) o5) fun v6 o6 =>
 bd (gd v5 false (ret1 (loadS tab o6 3 v6) o6) o6) fun v7 o7 =>
 bd (gd v5 false (callS ⟨tab, ownF, K⟩ o7 73 [v7, (SV.v (.int .i64 0)), (SV.v (.int .i64 60))]) o7) fun v8 o8 =>
 bd (gd v5 false (ret1 (unS .not v8) o8) o8) fun v9 o9 =>
 bd (ret1 (pickS v5 (SV.v (.bool true)) v9) o9) fun v10 o10 =>
 bd (gd v10 false (ret1 (fieldAddrS tab 28 v1 2) o10) o10) fun v11 o11 =>
 bd (gd v10 false (ret1 (loadS tab o11 26 v11) o11) o11) fun v12 o12 =>
 bd (gd v10 false (lenO tab 26 o12 v12) o12) fun v13 o13 =>
 bd (gd v10 false (ret1 (binS tab .gtr 3 v13 (SV.v (.int .i64 8))) o13) o13) fun v14 o14 =>
 bd (ret1 (pickS v10 (SV.v (.bool true)) v14) o14) fun v15 o15 =>
 condS v15 (retV tab nl o15 (resC1 (some (SV.v (.bool false))) (some [])))
 (L33_4 K N nl N v1 (SV.v (.int .i64 0)) o15)
noncomputable def bk34_2 (K : Nat → List SV → List SO → Out) (N nl : Nat) (m2 : Nat) : Env → List SO → Out := fun env os => loopS nl (fi34.lp 2) (fun env os nx => exec (cx K) N nl fi34 (subC c34 [1, 0, 1, 0, 0]) env os (kLoop nx (kBlock 0 (kSeq (exec (cx K) N nl fi34 (subC c34 [1, 1])) (fi34.jn 7) (kEnd tab [] nl rs34))))) m2 (killS (fi34.lp 2).alive env) os
noncomputable def L34_2 (K : Nat → List SV → List SO → Out) (N nl : Nat) (m2 : Nat) (x0 x5 x6 x7 : SV) (os : List SO) : Out := loopS nl (fi34.lp 2) (fun env os nx => exec (cx K) N nl fi34 (subC c34 [1, 0, 1, 0, 0]) env os (kLoop nx (kBlock 0 (kSeq (exec (cx K) N nl fi34 (subC c34 [1, 1])) (fi34.jn 7) (kEnd tab [] nl rs34))))) m2 [(0, x0), (5, x5), (6, x6), (7, x7)] os
noncomputable def G34_2 (K : Nat → List SV → List SO → Out) (N nl : Nat) (m2 : Nat) (xs : List SV) (os : List SO) : Out := (fun env os nx => exec (cx K) N nl fi34 (subC c34 [1, 0, 1, 0, 0]) env os (kLoop nx (kBlock 0 (kSeq (exec (cx K) N nl fi34 (subC c34 [1, 1])) (fi34.jn 7) (kEnd tab [] nl rs34))))) (zipE [0, 5, 6, 7] xs) os (bk34_2 K N nl m2)
noncomputable def GB34_2 (K : Nat → List SV → List SO → Out) (N nl : Nat) (m2 : Nat) (x0 x5 x6 x7 : SV) (os : List SO) : Out :=
 bd (ret1 (binS tab .lss 3 x7 x6) os) fun v2 o2 =>
 condS v2 (bd (ret1 (indexAddrS tab o2 23 x5 x7) o2) fun v3 o3 =>
 bd (ret1 (loadS tab o3 35 v3) o3) fun v4 o4 =>
 bd (allocS tab o4 35) fun v5 o5 =>
 bd (storeO tab o5 35 v5 (some v4)) fun v6 o6 =>
 bd (ret1 (loadS tab o6 35 v5) o6) fun v7 o7 =>
 bd (callS ⟨tab, ownF, K⟩ o7 39 [v7]) fun v8 o8 =>
 bd (ret1 (unS .not v8) o8) fun v9 o9 =>
 bd (gd v9 false (some (x7, o9)) o9) fun v10 o10 =>
 bd (gd v9 false (ret1 (binS tab .gtr 3 v10 (SV.v (.int .i64 0))) o10) o10) fun v11 o11 =>
 bd (gd v9 false (some (v11, o11)) o11) fun v12 o12 =>
 bd (gd v12 true (some (x0, o12)) o12) fun v13 o13 =>
 bd (gd v12 true (some (x7, o13)) o13) fun v14 o14 =>
 bd (gd v12 true (ret1 (binS tab .sub 3 v14 (SV.v (.int .i64 1))) o14) o14) fun v15 o15 =>
 bd (gd v12 true (ret1 (indexAddrS tab o15 23 v13 v15) o15) o15) fun v16 o16 =>
 bd (gd v12 true (ret1 (loadS tab o16 35 v16) o16) o16) fun v17 o17 =>
 bd (gd v12 true (ret1 (loadS tab o17 35 v5) o17) o17) fun v18 o18 =>
 bd (gd v12 true (callS ⟨tab, ownF, K⟩ o18 74 [v17, v18]) o18) fun v19 o19 =>
 bd (gd v12 true (ret1 (binS tab .geq 3 v19 (SV.v (.int .i64 0))) o19) o19) fun v20 o20 =>
 bd (gd v9 false (ret1 (pickS v12 v20 (SV.v (.bool false))) o20) o20) fun v21 o21 =>
 bd (ret1 (pickS v9 (SV.v (.bool true)) v21) o21) fun v22 o22 =>
 condS v22 (retV tab nl o22 (resC1 (some (SV.v (.bool false))) (some [])))
 (bd (ret1 (binS tab .add 3 x7 (SV.v (.int .i64 1))) o22) fun v23 o23 =>
 L34_2 K N nl m2 x0 x5 x6 v23 o23))
 (retV tab nl o2 (resC1 (some (SV.v (.bool true))) (some [])))
noncomputable def X34 (K : Nat → List SV → List SO → Out) (N nl : Nat) (x0 : SV) (os : List SO) : Out := exec (cx K) N nl fi34 c34 [(0, x0)] os (kEnd tab [] nl rs34)
noncomputable def B34 (K : Nat → List SV → List SO → Out) (N nl : Nat) (x0 : SV) (os : List SO) : Out :=
 bd (lenO tab 23 os x0) fun v1 o1 =>
 L34_2 K N nl N x0 x0 v1 (SV.v (.int .i64 0)) o1
noncomputable def X35 (K : Nat → List SV → List SO → Out) (N nl : Nat) (x0 : SV) (os : List SO) : Out := exec (cx K) N nl fi35 c35 [(0, x0)] os (kEnd tab [] nl rs35)
noncomputable def B35 (K : Nat → List SV → List SO → Out) (N nl : Nat) (x0 : SV) (os : List SO) : Out :=
 bd (boxS tab os 35 (some x0)) fun v1 o1 =>
 bd (allocS tab o1 74) fun v2 o2 =>
 bd (ret1 (fieldAddrS tab 35 v1 0) o2) fun v3 o3 =>
 dchk (isBox v3) <|
 bd (ret1 (loadS tab o3 3 v3) o3) fun v4 o4 =>
 bd (ret1 (fieldAddrS tab 35 v1 1) o4) fun v5 o5 =>
 dchk (isBox v5) <|
 bd (ret1 (loadS tab o5 3 v5) o5) fun v6 o6 =>
 bd (ret1 (loadS tab o6 35 v1) o6) fun v7 o7 =>
 dchk (keepOk ⟨tab, ownF, K⟩ o7 (SV.fn 11 []) [v7] [v3, v5] false) <|
 bd (callS ⟨tab, ownF, K⟩ o7 11 [v7]) fun v8 o8 =>
 dchk (keepOk ⟨tab, ownF, K⟩ o8 (SV.fn 75 []) [v8] [v3, v5] false) <|
 bd (callS ⟨tab, ownF, K⟩ o8 75 [v8]) fun v9 o9 =>
 bd (buildS tab o9 74 [(0, (some v4)), (1, (some v6)), (2, (some v9))]) fun v10 o10 =>
 bd (storeO tab o10 74 v2 (some v10)) fun v11 o11 =>
 retV tab nl o11 (resC1 (loadS tab o11 74 v2) (some []))
noncomputable def bk36_4 (K : Nat → List SV → List SO → Out) (N nl : Nat) (m4 : Nat) : Env → List SO → Out := fun env os => loopS nl (fi36.lp 4) (fun env os nx => exec (cx K) N nl fi36 (subC c36 [1, 1, 0, 1, 0, 0]) env os (kLoop nx (kBlock 0 (kSeq (exec (cx K) N nl fi36 (subC c36 [1, 1, 1])) (fi36.jn 8) (kEnd tab [] nl rs36))))) m4 (killS (fi36.lp 4).alive env) os
noncomputable def L36_4 (K : Nat → List SV → List SO → Out) (N nl : Nat) (m4 : Nat) (x0 x1 x5 : SV) (os : List SO) : Out := loopS nl (fi36.lp 4) (fun env os nx => exec (cx K) N nl fi36 (subC c36 [1, 1, 0, 1, 0, 0]) env os (kLoop nx (kBlock 0 (kSeq (exec (cx K) N nl fi36 (subC c36 [1, 1, 1])) (fi36.jn 8) (kEnd tab [] nl rs36))))) m4 [(0, x0), (1, x1), (5, x5)] os
noncomputable def LB36_4 (K : Nat → List SV → List SO → Out) (N nl : Nat) (m4 : Nat) (x0 x1 x5 : SV) (os : List SO) : Out :=
 bd (lenO tab 26 os x0) fun v4 o4 =>
 bd (ret1 (binS tab .lss 3 x5 v4) o4) fun v5 o5 =>
 condS v5 (bd (ret1 (indexAddrS tab o5 26 x0 x5) o5) fun v6 o6 =>
 bd (ret1 (loadS tab o6 74 v6) o6) fun v7 o7 =>
 bd (ret1 (indexAddrS tab o7 26 x1 x5) o7) fun v8 o8 =>
 bd (ret1 (loadS tab o8 74 v8) o8) fun v9 o9 =>
 bd (ret1 (binS tab .neq 74 v7 v9) o9) fun v10 o10 =>
 condS v10 (retV tab nl o10 (resC1 (some (SV.v (.bool false))) (some [])))
 (bd (ret1 (binS tab .add 3 x5 (SV.v (.int .i64 1))) o10) fun v11 o11 =>
 L36_4 K N nl m4 x0 x1 v11 o11))
 (retV tab nl o5 (resC1 (some (SV.v (.bool true))) (some [])))
noncomputable def X36 (K : Nat → List SV → List SO → Out) (N nl : Nat) (x0 x1 : SV) (os : List SO) : Out := exec (cx K) N nl fi36 c36 [(0, x0), (1, x1)] os (kEnd tab [] nl rs36)
noncomputable def B36 (K : Nat → List SV → List SO → Out) (N nl : Nat) (x0 x1 : SV) (os : List SO) : Out :=
 bd (lenO tab 26 os x0) fun v1 o1 =>
 bd (lenO tab 26 o1 x1) fun v2 o2 =>
 bd (ret1 (binS tab .neq 3 v1 v2) o2) fun v3 o3 =>
 condS v3 (retV tab nl o3 (resC1 (some (SV.v (.bool false))) (some [])))
 (L36_4 K N nl N x0 x1 (SV.v (.int .i64 0)) o3)
noncomputable def bk37_7 (K : Nat → List SV → List SO → Out) (N nl : Nat) (m7 : Nat) : Env → List SO → Out := fun env os => loopS nl (fi37.lp 7) (fun env os nx => exec (cx K) N nl fi37 (subC c37 [1, 1, 1, 1, 1, 0, 1, 0, 0]) env os (kLoop nx (kBlock 0 (kSeq (exec (cx K) N nl fi37 (subC c37 [1, 1, 1, 1, 1, 1])) (fi37.jn 17) (kEnd tab [2, 3] nl rs37))))) m7 (killS (fi37.lp 7).alive env) os
noncomputable def L37_7 (K : Nat → List SV → List SO → Out) (N nl : Nat) (m7 : Nat) (x0 x2 x5 x33 x34 x35 : SV) (os : List SO) : Out := loopS nl (fi37.lp 7) (fun env os nx => exec (cx K) N nl fi37 (subC c37 [1, 1, 1, 1, 1, 0, 1, 0, 0]) env os (kLoop nx (kBlock 0 (kSeq (exec (cx K) N nl fi37 (subC c37 [1, 1, 1, 1, 1, 1])) (fi37.jn 17) (kEnd tab [2, 3] nl rs37))))) m7 [(0, x0), (2, x2), (5, x5), (33, x33), (34, x34), (35, x35)] os
noncomputable def G37_7 (K : Nat → List SV → List SO → Out) (N nl : Nat) (m7 : Nat) (xs : List SV) (os : List SO) : Out := (fun env os nx => exec (cx K) N nl fi37 (subC c37 [1, 1, 1, 1, 1, 0, 1, 0, 0]) env os (kLoop nx (kBlock 0 (kSeq (exec (cx K) N nl fi37 (subC c37 [1, 1, 1, 1, 1, 1])) (fi37.jn 17) (kEnd tab [2, 3] nl rs37))))) (zipE [0, 2, 5, 33, 34, 35] xs) os (bk37_7 K N nl m7)
noncomputable def J37_16 (K : Nat → List SV → List SO → Out) (N nl : Nat) (m7 : Nat) (x0 x2 x5 x33 x34 x35 : SV) (os : List SO) : Out := exec (cx K) N nl fi37 (subC c37 [1, 1, 1, 1, 1, 0, 1, 0, 0, 1, 1, 1]) [(0, x0), (2, x2), (5, x5), (33, x33), (34, x34), (35, x35)] os (kLoop (bk37_7 K N nl m7) (kBlock 0 (kSeq (exec (cx K) N nl fi37 (subC c37 [1, 1, 1, 1, 1, 1])) (fi37.jn 17) (kEnd tab [2, 3] nl rs37))))
noncomputable def GB37_7 (K : Nat → List SV → List SO → Out) (N nl : Nat) (m7 : Nat) (x0 x2 x5 x33 x34 x35 : SV) (os : List SO) : Out :=
 bd (ret1 (binS tab .lss 3 x35 x34) os) fun v19 o19 =>
 condS v19 (bd (ret1 (indexAddrS tab o19 119 x33 x35) o19) fun v20 o20 =>
 bd (ret1 (loadS tab o20 9 v20) o20) fun v21 o21 =>
 bd (callS ⟨tab, ownF, K⟩ o21 78 [v21, (SV.v (.string ⟨#[58]⟩))]) fun v22 o22 =>
 bd (ret1 (extractS v22 0) o22) fun v23 o23 =>
 bd (ret1 (extractS v22 1) o23) fun v24 o24 =>
 bd (ret1 (extractS v22 2) o24) fun v25 o25 =>
 condS v25 (bd (callS ⟨tab, ownF, K⟩ o25 79 [v23]) fun v26 o26 =>
 bd (ret1 (extractS v26 0) o26) fun v27 o27 =>
 bd (ret1 (extractS v26 1) o27) fun v28 o28 =>
 bd (callS ⟨tab, ownF, K⟩ o28 79 [v24]) fun v29 o29 =>
 bd (ret1 (extractS v29 0) o29) fun v30 o30 =>
 bd (ret1 (extractS v29 1) o30) fun v31 o31 =>
 bd (ret1 (fieldAddrS tab 35 x5 2) o31) fun v32 o32 =>
 bd (ret1 (loadS tab o32 32 v32) o32) fun v33 o33 =>
 bd (buildS tab o33 88 [(0, (some v27)), (1, (some v30))]) fun v34 o34 =>
 bd (buildSliceS tab o34 32 1 [(0, v34)]) fun v35 o35 =>
 bd (appendS tab o35 32 32 v33 v35) fun v36 o36 =>
 bd (ret1 (fieldAddrS tab 35 x5 2) o36) fun v37 o37 =>
 bd (storeO tab o37 32 v37 (some v36)) fun v38 o38 =>
 J37_16 K N nl m7 x0 x2 x5 x33 x34 x35 o38)
 (bd (callS ⟨tab, ownF, K⟩ o25 77 [v21]) fun v39 o39 =>
 bd (ret1 (extractS v39 0) o39) fun v40 o40 =>
 bd (ret1 (extractS v39 1) o40) fun v41 o41 =>
 bd (ret1 (fieldAddrS tab 35 x5 3) o41) fun v42 o42 =>
 bd (ret1 (loadS tab o42 33 v42) o42) fun v43 o43 =>
 bd (buildS tab o43 91 [(0, (some v40)), (1, (some v41))]) fun v44 o44 =>
 bd (buildSliceS tab o44 33 1 [(0, v44)]) fun v45 o45 =>
 bd (appendS tab o45 33 33 v43 v45) fun v46 o46 =>
 bd (ret1 (fieldAddrS tab 35 x5 3) o46) fun v47 o47 =>
 bd (storeO tab o47 33 v47 (some v46)) fun v48 o48 =>
 J37_16 K N nl m7 x0 x2 x5 x33 x34 x35 o48))
 (bd (ret1 (loadS tab o19 35 x5) o19) fun v49 o49 =>
 bd (callS ⟨tab, ownF, K⟩ o49 39 [v49]) fun v50 o50 =>
 bd (ret1 (unS .not v50) o50) fun v51 o51 =>
 bd (gd v51 false (ret1 (loadS tab o51 35 x5) o51) o51) fun v52 o52 =>
 bd (gd v51 false (callS ⟨tab, ownF, K⟩ o52 11 [v52]) o52) fun v53 o53 =>
 bd (gd v51 false (some (x0, o53)) o53) fun v54 o54 =>
 bd (gd v51 false (ret1 (binS tab .neq 9 v53 v54) o54) o54) fun v55 o55 =>
 bd (ret1 (pickS v51 (SV.v (.bool true)) v55) o55) fun v56 o56 =>
 condS v56 (bd (buildS tab o56 35 []) fun v57 o57 =>
 bd (storeO tab o57 35 x2 (some v57)) fun v58 o58 =>
 retP tab [2, 3] nl o58 (resC1 (loadS tab o58 35 x2) (resC1 (some (SV.v (.bool false))) (some []))))
 (bd (ret1 (loadS tab o56 35 x5) o56) fun v59 o59 =>
 bd (storeO tab o59 35 x2 (some v59)) fun v60 o60 =>
 retP tab [2, 3] nl o60 (resC1 (loadS tab o60 35 x2) (resC1 (some (SV.v (.bool true))) (some [])))))
noncomputable def JB37_16 (K : Nat → List SV → List SO → Out) (N nl : Nat) (m7 : Nat) (x0 x2 x5 x33 x34 x35 : SV) (os : List SO) : Out :=
 bd (ret1 (binS tab .add 3 x35 (SV.v (.int .i64 1))) os) fun v61 o61 =>
 L37_7 K N nl m7 x0 x2 x5 x33 x34 v61 o61
noncomputable def X37 (K : Nat → List SV → List SO → Out) (N nl : Nat) (x0 : SV) (os : List SO) : Out := exec (cx K) N nl fi37 c37 [(0, x0)] os (kEnd tab [2, 3] nl rs37)
noncomputable def B37 (K : Nat → List SV → List SO → Out) (N nl : Nat) (x0 : SV) (os : List SO) : Out :=
 bd (allocS tab os 35) fun v1 o1 =>
 bd (lenO tab 9 o1 x0) fun v2 o2 =>
 bd (ret1 (binS tab .gtr 3 v2 (SV.v (.int .i64 30))) o2) fun v3 o3 =>
 condS v3 (bd (buildS tab o3 35 []) fun v4 o4 =>
 bd (storeO tab o4 35 v1 (some v4)) fun v5 o5 =>
 retP tab [2, 3] nl o5 (resC1 (loadS tab o5 35 v1) (resC1 (some (SV.v (.bool false))) (some []))))
 (bd (callS ⟨tab, ownF, K⟩ o3 76 [x0, (SV.v (.string ⟨#[32]⟩))]) fun v6 o6 =>
 bd (allocS tab o6 35) fun v7 o7 =>
 bd (ret1 (indexAddrS tab o7 119 v6 (SV.v (.int .i64 0))) o7) fun v8 o8 =>
 bd (ret1 (loadS tab o8 9 v8) o8) fun v9 o9 =>
 bd (callS ⟨tab, ownF, K⟩ o9 77 [v9]) fun v10 o10 =>
 bd (ret1 (extractS v10 0) o10) fun v11 o11 =>
 bd (ret1 (extractS v10 1) o11) fun v12 o12 =>
 bd (ret1 (fieldAddrS tab 35 v7 0) o12) fun v13 o13 =>
 bd (storeO tab o13 3 v13 (some v11)) fun v14 o14 =>
 bd (ret1 (fieldAddrS tab 35 v7 1) o14) fun v15 o15 =>
 bd (storeO tab o15 3 v15 (some v12)) fun v16 o16 =>
 bd (ret1 (sliceS tab o16 119 v6 (some (SV.v (.int .i64 1))) none) o16) fun v17 o17 =>
 bd (lenO tab 119 o17 v17) fun v18 o18 =>
 L37_7 K N nl N x0 v1 v7 v17 v18 (SV.v (.int .i64 0)) o18)
noncomputable def X38 (K : Nat → List SV → List SO → Out) (N nl : Nat) (x0 x1 : SV) (os : List SO) : Out := exec (cx K) N nl fi38 c38 [(0, x0), (1, x1)] os (kEnd tab [] nl rs38)
noncomputable def B38 (K : Nat → List SV → List SO → Out) (N nl : Nat) (x0 x1 : SV) (os : List SO) : Out :=
 bd (boxS tab os 74 (some x1)) fun v1 o1 =>
 bd (ret1 (loadS tab o1 74 v1) o1) fun v2 o2 =>
 bd (callS ⟨tab, ownF, K⟩ o2 80 [x0, v2]) fun v3 o3 =>
 bd (ret1 (binS tab .geq 3 v3 (SV.v (.int .i64 0))) o3) fun v4 o4 =>
 retV tab nl o4 (resC1 (some v4) (some []))
noncomputable def bk39_4 (K : Nat → List SV → List SO → Out) (N nl : Nat) (m4 : Nat) : Env → List SO → Out := fun env os => loopS nl (fi39.lp 4) (fun env os nx => exec (cx K) N nl fi39 (subC c39 [1, 1, 0, 1, 0, 0]) env os (kLoop nx (kBlock 0 (kSeq (exec (cx K) N nl fi39 (subC c39 [1, 1, 1])) (fi39.jn 9) (kEnd tab [] nl rs39))))) m4 (killS (fi39.lp 4).alive env) os
noncomputable def bk39_10 (K : Nat → List SV → List SO → Out) (N nl : Nat) (m10 : Nat) : Env → List SO → Out := fun env os => loopS nl (fi39.lp 10) (fun env os nx => exec (cx K) N nl fi39 (subC c39 [1, 1, 1, 0, 1, 0, 0]) env os (kLoop nx (kBlock 2 (kSeq (exec (cx K) N nl fi39 (subC c39 [1, 1, 1, 1])) (fi39.jn 15) (kEnd tab [] nl rs39))))) m10 (killS (fi39.lp 10).alive env) os
noncomputable def L39_4 (K : Nat → List SV → List SO → Out) (N nl : Nat) (m4 : Nat) (x1 x30 x31 x32 : SV) (os : List SO) : Out := loopS nl (fi39.lp 4) (fun env os nx => exec (cx K) N nl fi39 (subC c39 [1, 1, 0, 1, 0, 0]) env os (kLoop nx (kBlock 0 (kSeq (exec (cx K) N nl fi39 (subC c39 [1, 1, 1])) (fi39.jn 9) (kEnd tab [] nl rs39))))) m4 [(1, x1), (30, x30), (31, x31), (32, x32)] os
noncomputable def G39_4 (K : Nat → List SV → List SO → Out) (N nl : Nat) (m4 : Nat) (xs : List SV) (os : List SO) : Out := (fun env os nx => exec (cx K) N nl fi39 (subC c39 [1, 1, 0, 1, 0, 0]) env os (kLoop nx (kBlock 0 (kSeq (exec (cx K) N nl fi39 (subC c39 [1, 1, 1])) (fi39.jn 9) (kEnd tab [] nl rs39))))) (zipE [1, 30, 31, 32] xs) os (bk39_4 K N nl m4)
noncomputable def L39_10 (K : Nat → List SV → List SO → Out) (N nl : Nat) (m10 : Nat) (x1 x65 x66 x67 : SV) (os : List SO) : Out := loopS nl (fi39.lp 10) (fun env os nx => exec (cx K) N nl fi39 (subC c39 [1, 1, 1, 0, 1, 0, 0]) env os (kLoop nx (kBlock 2 (kSeq (exec (cx K) N nl fi39 (subC c39 [1, 1, 1, 1])) (fi39.jn 15) (kEnd tab [] nl rs39))))) m10 [(1, x1), (65, x65), (66, x66), (67, x67)] os
noncomputable def G39_10 (K : Nat → List SV → List SO → Out) (N nl : Nat) (m10 : Nat) (xs : List SV) (os : List SO) : Out := (fun env os nx => exec (cx K) N nl fi39 (subC c39 [1, 1, 1, 0, 1, 0, 0]) env os (kLoop nx (kBlock 2 (kSeq (exec (cx K) N nl fi39 (subC c39 [1, 1, 1, 1])) (fi39.jn 15) (kEnd tab [] nl rs39))))) (zipE [1, 65, 66, 67] xs) os (bk39_10 K N nl m10)
noncomputable def GB39_4 (K : Nat → List SV → List SO → Out) (N nl : Nat) (m4 : Nat) (x1 x30 x31 x32 : SV) (os : List SO) : Out :=
 bd (ret1 (binS tab .lss 3 x32 x31) os) fun v24 o24 =>
 condS v24 (bd (ret1 (indexAddrS tab o24 32 x30 x32) o24) fun v25 o25 =>
 bd (ret1 (loadS tab o25 88 v25) o25) fun v26 o26 =>
 bd (allocS tab o26 88) fun v27 o27 =>
 bd (storeO tab o27 88 v27 (some v26)) fun v28 o28 =>
 bd (ret1 (fieldAddrS tab 88 v27 0) o28) fun v29 o29 =>
 bd (ret1 (loadS tab o29 3 v29) o29) fun v30 o30 =>
 bd (callS ⟨tab, ownF, K⟩ o30 46 [v30, (SV.v (.int .i64 0)), (SV.v (.int .i64 5))]) fun v31 o31 =>
 bd (ret1 (unS .not v31) o31) fun v32 o32 =>
 bd (gd v32 false (ret1 (fieldAddrS tab 88 v27 1) o32) o32) fun v33 o33 =>
 bd (gd v32 false (ret1 (loadS tab o33 3 v33) o33) o33) fun v34 o34 =>
 bd (gd v32 false (callS ⟨tab, ownF, K⟩ o34 46 [v34, (SV.v (.int .i64 0)), (SV.v (.int .i64 9))]) o34) fun v35 o35 =>
 bd (gd v32 false (ret1 (unS .not v35) o35) o35) fun v36 o36 =>
 bd (ret1 (pickS v32 (SV.v (.bool true)) v36) o36) fun v37 o37 =>
 bd (gd v37 false (some (x32, o37)) o37) fun v38 o38 =>
 bd (gd v37 false (ret1 (binS tab .gtr 3 v38 (SV.v (.int .i64 0))) o38) o38) fun v39 o39 =>
 bd (gd v37 false (some (v39, o39)) o39) fun v40 o40 =>
 bd (gd v40 true (ret1 (fieldAddrS tab 88 v27 0) o40) o40) fun v41 o41 =>
 bd (gd v40 true (ret1 (loadS tab o41 3 v41) o41) o41) fun v42 o42 =>
 bd (gd v40 true (ret1 (fieldAddrS tab 35 x1 2) o42) o42) fun v43 o43 =>
 bd (gd v40 true (ret1 (loadS tab o43 32 v43) o43) o43) fun v44 o44 =>
 bd (gd v40 true (some (x32, o44)) o44) fun v45 o45 =>
 bd (gd v40 true (ret1 (binS tab .sub 3 v45 (SV.v (.int .i64 1))) o45) o45) fun v46 o46 =>
 bd (gd v40 true (ret1 (indexAddrS tab o46 32 v44 v46) o46) o46) fun v47 o47 =>
 bd (gd v40 true (ret1 (fieldAddrS tab 88 v47 0) o47) o47) fun v48 o48 =>
 bd (gd v40 true (ret1 (loadS tab o48 3 v48) o48) o48) fun v49 o49 =>
 bd (gd v40 true (ret1 (binS tab .leq 3 v42 v49) o49) o49) fun v50 o50 =>
 bd (gd v37 false (ret1 (pickS v40 v50 (SV.v (.bool false))) o50) o50) fun v51 o51 =>
 bd (ret1 (pickS v37 (SV.v (.bool true)) v51) o51) fun v52 o52 =>
 condS v52 (retV tab nl o52 (resC1 (some (SV.v (.bool false))) (some [])))
 (bd (ret1 (binS tab .add 3 x32 (SV.v (.int .i64 1))) o52) fun v53 o53 =>
 L39_4 K N nl m4 x1 x30 x31 v53 o53))
 (bd (ret1 (fieldAddrS tab 35 x1 3) o24) fun v54 o54 =>
 bd (ret1 (loadS tab o54 33 v54) o54) fun v55 o55 =>
 bd (lenO tab 33 o55 v55) fun v56 o56 =>
 L39_10 K N nl N x1 v55 v56 (SV.v (.int .i64 0)) o56)
noncomputable def GB39_10 (K : Nat → List SV → List SO → Out) (N nl : Nat) (m10 : Nat) (x1 x65 x66 x67 : SV) (os : List SO) : Out :=
 bd (ret1 (binS tab .lss 3 x67 x66) os) fun v57 o57 =>
 condS v57 (bd (ret1 (indexAddrS tab o57 33 x65 x67) o57) fun v58 o58 =>
 bd (ret1 (loadS tab o58 91 v58) o58) fun v59 o59 =>
 bd (allocS tab o59 91) fun v60 o60 =>
 bd (storeO tab o60 91 v60 (some v59)) fun v61 o61 =>
 bd (ret1 (fieldAddrS tab 91 v60 0) o61) fun v62 o62 =>
 bd (ret1 (loadS tab o62 3 v62) o62) fun v63 o63 =>
 bd (callS ⟨tab, ownF, K⟩ o63 44 [v63]) fun v64 o64 =>
 bd (ret1 (unS .not v64) o64) fun v65 o65 =>
 bd (gd v65 false (ret1 (fieldAddrS tab 91 v60 0) o65) o65) fun v66 o66 =>
 bd (gd v65 false (ret1 (loadS tab o66 3 v66) o66) o66) fun v67 o67 =>
 bd (gd v65 false (ret1 (fieldAddrS tab 35 x1 0) o67) o67) fun v68 o68 =>
 bd (gd v65 false (ret1 (loadS tab o68 3 v68) o68) o68) fun v69 o69 =>
 bd (gd v65 false (ret1 (binS tab .eql 3 v67 v69) o69) o69) fun v70 o70 =>
 bd (ret1 (pickS v65 (SV.v (.bool true)) v70) o70) fun v71 o71 =>
 bd (gd v71 false (ret1 (fieldAddrS tab 91 v60 1) o71) o71) fun v72 o72 =>
 bd (gd v71 false (ret1 (loadS tab o72 3 v72) o72) o72) fun v73 o73 =>
 bd (gd v71 false (callS ⟨tab, ownF, K⟩ o73 45 [v73]) o73) fun v74 o74 =>
 bd (gd v71 false (ret1 (unS .not v74) o74) o74) fun v75 o75 =>
 bd (ret1 (pickS v71 (SV.v (.bool true)) v75) o75) fun v76 o76 =>
 bd (gd v76 false (some (x67, o76)) o76) fun v77 o77 =>
 bd (gd v76 false (ret1 (binS tab .gtr 3 v77 (SV.v (.int .i64 0))) o77) o77) fun v78 o78 =>
 bd (gd v76 false (some (v78, o78)) o78) fun v79 o79 =>
 bd (gd v79 true (ret1 (fieldAddrS tab 91 v60 0) o79) o79) fun v80 o80 =>
 bd (gd v79 true (ret1 (loadS tab o80 3 v80) o80) o80) fun v81 o81 =>
 bd (gd v79 true (ret1 (fieldAddrS tab 35 x1 3) o81) o81) fun v82 o82 =>
 bd (gd v79 true (ret1 (loadS tab o82 33 v82) o82) o82) fun v83 o83 =>
 bd (gd v79 true (some (x67, o83)) o83) fun v84 o84 =>
 bd (gd v79 true (ret1 (binS tab .sub 3 v84 (SV.v (.int .i64 1))) o84) o84) fun v85 o85 =>
 bd (gd v79 true (ret1 (indexAddrS tab o85 33 v83 v85) o85) o85) fun v86 o86 =>
 bd (gd v79 true (ret1 (fieldAddrS tab 91 v86 0) o86) o86) fun v87 o87 =>
 bd (gd v79 true (ret1 (loadS tab o87 3 v87) o87) o87) fun v88 o88 =>
 bd (gd v79 true (ret1 (binS tab .leq 3 v81 v88) o88) o88) fun v89 o89 =>
 bd (gd v76 false (ret1 (pickS v79 v89 (SV.v (.bool false))) o89) o89) fun v90 o90 =>
 bd (ret1 (pickS v76 (SV.v (.bool true)) v90) o90) fun v91 o91 =>
 condS v91 (retV tab nl o91 (resC1 (some (SV.v (.bool false))) (some [])))
 (bd (ret1 (binS tab .add 3 x67 (SV.v (.int .i64 1))) o91) fun v92 o92 =>
 L39_10 K N nl m10 x1 x65 x66 v92 o92))
 (retV tab nl o57 (resC1 (some (SV.v (.bool true))) (some [])))
noncomputable def X39 (K : Nat → List SV → List SO → Out) (N nl : Nat) (x0 : SV) (os : List SO) : Out := exec (cx K) N nl fi39 c39 [(0, x0)] os (kEnd tab [] nl rs39)
noncomputable def B39 (K : Nat → List SV → List SO → Out) (N nl : Nat) (x0 : SV) (os : List SO) : Out :=
 bd (boxS tab os 35 (some x0)) fun v1 o1 =>
 bd (ret1 (fieldAddrS tab 35 v1 0) o1) fun v2 o2 =>
 bd (ret1 (loadS tab o2 3 v2) o2) fun v3 o3 =>
 bd (callS ⟨tab, ownF, K⟩ o3 44 [v3]) fun v4 o4 =>
 bd (ret1 (unS .not v4) o4) fun v5 o5 =>
 bd (gd v5 false (ret1 (fieldAddrS tab 35 v1 1) o5) o5) fun v6 o6 =>
 bd (gd v5 false (ret1 (loadS tab o6 3 v6) o6) o6) fun v7 o7 =>
 bd (gd v5 false (callS ⟨tab, ownF, K⟩ o7 45 [v7]) o7) fun v8 o8 =>
 bd (gd v5 false (ret1 (unS .not v8) o8) o8) fun v9 o9 =>
 bd (ret1 (pickS v5 (SV.v (.bool true)) v9) o9) fun v10 o10 =>
 bd (gd v10 false (ret1 (fieldAddrS tab 35 v1 2) o10) o10) fun v11 o11 =>
 bd (gd v10 false (ret1 (loadS tab o11 32 v11) o11) o11) fun v12 o12 =>
 bd (gd v10 false (lenO tab 32 o12 v12) o12) fun v13 o13 =>
 bd (gd v10 false (ret1 (binS tab .gtr 3 v13 (SV.v (.int .i64 2))) o13) o13) fun v14 o14 =>
 bd (ret1 (pickS v10 (SV.v (.bool true)) v14) o14) fun v15 o15 =>
 bd (gd v15 false (ret1 (fieldAddrS tab 35 v1 3) o15) o15) fun v16 o16 =>
 bd (gd v15 false (ret1 (loadS tab o16 33 v16) o16) o16) fun v17 o17 =>
 bd (gd v15 false (lenO tab 33 o17 v17) o17) fun v18 o18 =>
 bd (gd v15 false (ret1 (binS tab .gtr 3 v18 (SV.v (.int .i64 2))) o18) o18) fun v19 o19 =>
 bd (ret1 (pickS v15 (SV.v (.bool true)) v19) o19) fun v20 o20 =>
 condS v20 (retV tab nl o20 (resC1 (some (SV.v (.bool false))) (some [])))
 (bd (ret1 (fieldAddrS tab 35 v1 2) o20) fun v21 o21 =>
 bd (ret1 (loadS tab o21 32 v21) o21) fun v22 o22 =>
 bd (lenO tab 32 o22 v22) fun v23 o23 =>
 L39_4 K N nl N v1 v22 v23 (SV.v (.int .i64 0)) o23)
noncomputable def X44 (K : Nat → List SV → List SO → Out) (N nl : Nat) (x0 : SV) (os : List SO) : Out := exec (cx K) N nl fi44 c44 [(0, x0)] os (kEnd tab [] nl rs44)
noncomputable def B44 (K : Nat → List SV → List SO → Out) (N nl : Nat) (x0 : SV) (os : List SO) : Out :=
 bd (callS ⟨tab, ownF, K⟩ os 46 [x0, (SV.v (.int .i64 1)), (SV.v (.int .i64 4))]) fun v1 o1 =>
 retV tab nl o1 (resC1 (some v1) (some []))
noncomputable def X45 (K : Nat → List SV → List SO → Out) (N nl : Nat) (x0 : SV) (os : List SO) : Out := exec (cx K) N nl fi45 c45 [(0, x0)] os (kEnd tab [] nl rs45)
noncomputable def B45 (K : Nat → List SV → List SO → Out) (N nl : Nat) (x0 : SV) (os : List SO) : Out :=
 bd (callS ⟨tab, ownF, K⟩ os 46 [x0, (SV.v (.int .i64 1)), (SV.v (.int .i64 5))]) fun v1 o1 =>
 retV tab nl o1 (resC1 (some v1) (some []))
noncomputable def X46 (K : Nat → List SV → List SO → Out) (N nl : Nat) (x0 x1 x2 : SV) (os : List SO) : Out := exec (cx K) N nl fi46 c46 [(0, x0), (1, x1), (2, x2)] os (kEnd tab [] nl rs46)
noncomputable def B46 (K : Nat → List SV → List SO → Out) (N nl : Nat) (x0 x1 x2 : SV) (os : List SO) : Out :=
 bd (ret1 (binS tab .geq 3 x0 x1) os) fun v1 o1 =>
 bd (gd v1 true (some (x0, o1)) o1) fun v2 o2 =>
 bd (gd v1 true (some (x2, o2)) o2) fun v3 o3 =>
 bd (gd v1 true (ret1 (binS tab .leq 3 v2 v3) o3) o3) fun v4 o4 =>
 bd (ret1 (pickS v1 v4 (SV.v (.bool false))) o4) fun v5 o5 =>
 retV tab nl o5 (resC1 (some v5) (some []))
noncomputable def bk52_2 (K : Nat → List SV → List SO → Out) (N nl : Nat) (m2 : Nat) : Env → List SO → Out := fun env os => loopS nl (fi52.lp 2) (fun env os nx => exec (cx K) N nl fi52 (subC c52 [1, 0, 1, 0, 0]) env os (kLoop nx (kBlock 0 (kSeq (exec (cx K) N nl fi52 (subC c52 [1, 1])) (fi52.jn 6) (kEnd tab [] nl rs52))))) m2 (killS (fi52.lp 2).alive env) os
noncomputable def L52_2 (K : Nat → List SV → List SO → Out) (N nl : Nat) (m2 : Nat) (x0 x1 x2 x7 : SV) (os : List SO) : Out := loopS nl (fi52.lp 2) (fun env os nx => exec (cx K) N nl fi52 (subC c52 [1, 0, 1, 0, 0]) env os (kLoop nx (kBlock 0 (kSeq (exec (cx K) N nl fi52 (subC c52 [1, 1])) (fi52.jn 6) (kEnd tab [] nl rs52))))) m2 [(0, x0), (1, x1), (2, x2), (7, x7)] os
noncomputable def LB52_2 (K : Nat → List SV → List SO → Out) (N nl : Nat) (m2 : Nat) (x0 x1 x2 x7 : SV) (os : List SO) : Out :=
 bd (lenO tab 23 os x0) fun v1 o1 =>
 bd (ret1 (binS tab .lss 3 x7 v1) o1) fun v2 o2 =>
 condS v2 (bd (ret1 (indexAddrS tab o2 23 x0 x7) o2) fun v3 o3 =>
 bd (ret1 (fieldAddrS tab 35 v3 0) o3) fun v4 o4 =>
 bd (ret1 (loadS tab o4 3 v4) o4) fun v5 o5 =>
 bd (ret1 (binS tab .eql 3 v5 x1) o5) fun v6 o6 =>
 bd (gd v6 true (some (x0, o6)) o6) fun v7 o7 =>
 bd (gd v6 true (some (x7, o7)) o7) fun v8 o8 =>
 bd (gd v6 true (ret1 (indexAddrS tab o8 23 v7 v8) o8) o8) fun v9 o9 =>
 bd (gd v6 true (ret1 (fieldAddrS tab 35 v9 1) o9) o9) fun v10 o10 =>
 bd (gd v6 true (ret1 (loadS tab o10 3 v10) o10) o10) fun v11 o11 =>
 bd (gd v6 true (some (x2, o11)) o11) fun v12 o12 =>
 bd (gd v6 true (ret1 (binS tab .eql 3 v11 v12) o12) o12) fun v13 o13 =>
 bd (ret1 (pickS v6 v13 (SV.v (.bool false))) o13) fun v14 o14 =>
 condS v14 (retV tab nl o14 (resC1 (some x7) (some [])))
 (bd (ret1 (binS tab .add 3 x7 (SV.v (.int .i64 1))) o14) fun v15 o15 =>
 L52_2 K N nl m2 x0 x1 x2 v15 o15))
 (retV tab nl o2 (resC1 (some (SV.v (.int .i64 (-1)))) (some [])))
noncomputable def X52 (K : Nat → List SV → List SO → Out) (N nl : Nat) (x0 x1 x2 : SV) (os : List SO) : Out := exec (cx K) N nl fi52 c52 [(0, x0), (1, x1), (2, x2)] os (kEnd tab [] nl rs52)
noncomputable def B52 (K : Nat → List SV → List SO → Out) (N nl : Nat) (x0 x1 x2 : SV) (os : List SO) : Out :=
 L52_2 K N nl N x0 x1 x2 (SV.v (.int .i64 0)) os
noncomputable def X55 (K : Nat → List SV → List SO → Out) (N nl : Nat) (x0 : SV) (os : List SO) : Out := exec (cx K) N nl fi55 c55 [(0, x0)] os (kEnd tab [] nl rs55)
noncomputable def B55 (K : Nat → List SV → List SO → Out) (N nl : Nat) (x0 : SV) (os : List SO) : Out :=
 bd (boxS tab os 101 (some x0)) fun v1 o1 =>
 bd (allocS tab o1 35) fun v2 o2 =>
 bd (allocS tab o2 35) fun v3 o3 =>
 bd (ret1 (fieldAddrS tab 101 v1 0) o3) fun v4 o4 =>
 bd (ret1 (loadS tab o4 3 v4) o4) fun v5 o5 =>
 bd (ret1 (fieldAddrS tab 35 v3 0) o5) fun v6 o6 =>
 bd (storeO tab o6 3 v6 (some v5)) fun v7 o7 =>
 bd (ret1 (fieldAddrS tab 101 v1 1) o7) fun v8 o8 =>
 bd (ret1 (loadS tab o8 3 v8) o8) fun v9 o9 =>
 bd (ret1 (fieldAddrS tab 35 v3 1) o9) fun v10 o10 =>
 bd (storeO tab o10 3 v10 (some v9)) fun v11 o11 =>
 bd (ret1 (fieldAddrS tab 101 v1 2) o11) fun v12 o12 =>
 bd (ret1 (loadS tab o12 98 v12) o12) fun v13 o13 =>
 bd (callS ⟨tab, ownF, K⟩ o13 90 [v13]) fun v14 o14 =>
 bd (ret1 (fieldAddrS tab 35 v3 2) o14) fun v15 o15 =>
 bd (storeO tab o15 32 v15 (some v14)) fun v16 o16 =>
 bd (ret1 (fieldAddrS tab 101 v1 3) o16) fun v17 o17 =>
 bd (ret1 (loadS tab o17 99 v17) o17) fun v18 o18 =>
 bd (callS ⟨tab, ownF, K⟩ o18 91 [v18]) fun v19 o19 =>
 bd (ret1 (fieldAddrS tab 35 v3 3) o19) fun v20 o20 =>
 bd (storeO tab o20 33 v20 (some v19)) fun v21 o21 =>
 bd (ret1 (loadS tab o21 35 v3) o21) fun v22 o22 =>
 bd (storeO tab o22 35 v2 (some v22)) fun v23 o23 =>
 retV tab nl o23 (resC1 (loadS tab o23 35 v2) (some []))
noncomputable def bk65_2 (K : Nat → List SV → List SO → Out) (N nl : Nat) (m2 : Nat) : Env → List SO → Out := fun env os => loopS nl (fi65.lp 2) (fun env os nx => exec (cx K) N nl fi65 (subC c65 [1, 0, 1, 0, 0]) env os (kLoop nx (kBlock 0 (kSeq (exec (cx K) N nl fi65 (subC c65 [1, 1])) (fi65.jn 8) (kEnd tab [] nl rs65))))) m2 (killS (fi65.lp 2).alive env) os
noncomputable def L65_2 (K : Nat → List SV → List SO → Out) (N nl : Nat) (m2 : Nat) (x0 x1 x5 : SV) (os : List SO) : Out := loopS nl (fi65.lp 2) (fun env os nx => exec (cx K) N nl fi65 (subC c65 [1, 0, 1, 0, 0]) env os (kLoop nx (kBlock 0 (kSeq (exec (cx K) N nl fi65 (subC c65 [1, 1])) (fi65.jn 8) (kEnd tab [] nl rs65))))) m2 [(0, x0), (1, x1), (5, x5)] os
noncomputable def LB65_2 (K : Nat → List SV → List SO → Out) (N nl : Nat) (m2 : Nat) (x0 x1 x5 : SV) (os : List SO) : Out :=
 bd (lenO tab 32 os x0) fun v1 o1 =>
 bd (ret1 (binS tab .lss 3 x5 v1) o1) fun v2 o2 =>
 condS v2 (bd (ret1 (indexAddrS tab o2 32 x0 x5) o2) fun v3 o3 =>
 bd (ret1 (fieldAddrS tab 88 v3 0) o3) fun v4 o4 =>
 bd (storeO tab o4 3 v4 (some x1)) fun v5 o5 =>
 bd (ret1 (binS tab .add 3 x1 (SV.v (.int .i64 1))) o5) fun v6 o6 =>
 bd (ret1 (indexAddrS tab o6 32 x0 x5) o6) fun v7 o7 =>
 bd (ret1 (fieldAddrS tab 88 v7 1) o7) fun v8 o8 =>
 bd (storeO tab o8 3 v8 (some v6)) fun v9 o9 =>
 bd (ret1 (binS tab .add 3 v6 (SV.v (.int .i64 1))) o9) fun v10 o10 =>
 bd (ret1 (binS tab .add 3 x5 (SV.v (.int .i64 1))) o10) fun v11 o11 =>
 L65_2 K N nl m2 x0 v10 v11 o11)
 (retV tab nl o2 (resC1 (some x1) (some [])))
noncomputable def X65 (K : Nat → List SV → List SO → Out) (N nl : Nat) (x0 x1 : SV) (os : List SO) : Out := exec (cx K) N nl fi65 c65 [(0, x0), (1, x1)] os (kEnd tab [] nl rs65)
noncomputable def B65 (K : Nat → List SV → List SO → Out) (N nl : Nat) (x0 x1 : SV) (os : List SO) : Out :=
 L65_2 K N nl N x0 x1 (SV.v (.int .i64 0)) os
noncomputable def bk66_2 (K : Nat → List SV → List SO → Out) (N nl : Nat) (m2 : Nat) : Env → List SO → Out := fun env os => loopS nl (fi66.lp 2) (fun env os nx => exec (cx K) N nl fi66 (subC c66 [1, 0, 1, 0, 0]) env os (kLoop nx (kBlock 0 (kSeq (exec (cx K) N nl fi66 (subC c66 [1, 1])) (fi66.jn 8) (kEnd tab [] nl rs66))))) m2 (killS (fi66.lp 2).alive env) os
noncomputable def L66_2 (K : Nat → List SV → List SO → Out) (N nl : Nat) (m2 : Nat) (x0 x1 x5 : SV) (os : List SO) : Out := loopS nl (fi66.lp 2) (fun env os nx => exec (cx K) N nl fi66 (subC c66 [1, 0, 1, 0, 0]) env os (kLoop nx (kBlock 0 (kSeq (exec (cx K) N nl fi66 (subC c66 [1, 1])) (fi66.jn 8) (kEnd tab [] nl rs66))))) m2 [(0, x0), (1, x1), (5, x5)] os
noncomputable def LB66_2 (K : Nat → List SV → List SO → Out) (N nl : Nat) (m2 : Nat) (x0 x1 x5 : SV) (os : List SO) : Out :=
 bd (lenO tab 33 os x0) fun v1 o1 =>
 bd (ret1 (binS tab .lss 3 x5 v1) o1) fun v2 o2 =>
 condS v2 (bd (ret1 (indexAddrS tab o2 33 x0 x5) o2) fun v3 o3 =>
 bd (ret1 (fieldAddrS tab 91 v3 0) o3) fun v4 o4 =>
 bd (storeO tab o4 3 v4 (some x1)) fun v5 o5 =>
 bd (ret1 (binS tab .add 3 x1 (SV.v (.int .i64 1))) o5) fun v6 o6 =>
 bd (ret1 (indexAddrS tab o6 33 x0 x5) o6) fun v7 o7 =>
 bd (ret1 (fieldAddrS tab 91 v7 1) o7) fun v8 o8 =>
 bd (storeO tab o8 3 v8 (some v6)) fun v9 o9 =>
 bd (ret1 (binS tab .add 3 v6 (SV.v (.int .i64 1))) o9) fun v10 o10 =>
 bd (ret1 (binS tab .add 3 x5 (SV.v (.int .i64 1))) o10) fun v11 o11 =>
 L66_2 K N nl m2 x0 v10 v11 o11)
 (retV tab nl o2 (resC1 (some x1) (some [])))
noncomputable def X66 (K : Nat → List SV → List SO → Out) (N nl : Nat) (x0 x1 : SV) (os : List SO) : Out := exec (cx K) N nl fi66 c66 [(0, x0), (1, x1)] os (kEnd tab [] nl rs66)
noncomputable def B66 (K : Nat → List SV → List SO → Out) (N nl : Nat) (x0 x1 : SV) (os : List SO) : Out :=
 L66_2 K N nl N x0 x1 (SV.v (.int .i64 0)) os
noncomputable def bk67_3 (K : Nat → List SV → List SO → Out) (N nl : Nat) (m3 : Nat) : Env → List SO → Out := fun env os => loopS nl (fi67.lp 3) (fun env os nx => exec (cx K) N nl fi67 (subC c67 [1, 1, 0, 1, 0, 0]) env os (kLoop nx (kBlock 0 (kSeq (exec (cx K) N nl fi67 (subC c67 [1, 1, 1])) (fi67.jn 8) (kEnd tab [] nl rs67))))) m3 (killS (fi67.lp 3).alive env) os
noncomputable def L67_3 (K : Nat → List SV → List SO → Out) (N nl : Nat) (m3 : Nat) (x0 x3 x4 : SV) (os : List SO) : Out := loopS nl (fi67.lp 3) (fun env os nx => exec (cx K) N nl fi67 (subC c67 [1, 1, 0, 1, 0, 0]) env os (kLoop nx (kBlock 0 (kSeq (exec (cx K) N nl fi67 (subC c67 [1, 1, 1])) (fi67.jn 8) (kEnd tab [] nl rs67))))) m3 [(0, x0), (3, x3), (4, x4)] os
noncomputable def G67_3 (K : Nat → List SV → List SO → Out) (N nl : Nat) (m3 : Nat) (xs : List SV) (os : List SO) : Out := (fun env os nx => exec (cx K) N nl fi67 (subC c67 [1, 1, 0, 1, 0, 0]) env os (kLoop nx (kBlock 0 (kSeq (exec (cx K) N nl fi67 (subC c67 [1, 1, 1])) (fi67.jn 8) (kEnd tab [] nl rs67))))) (zipE [0, 3, 4] xs) os (bk67_3 K N nl m3)
noncomputable def J67_4 (K : Nat → List SV → List SO → Out) (N nl : Nat) (m3 : Nat) (x0 x3 x4 : SV) (os : List SO) : Out := exec (cx K) N nl fi67 (subC c67 [1, 1, 0, 1, 0, 0, 1, 1]) [(0, x0), (3, x3), (4, x4)] os (kLoop (bk67_3 K N nl m3) (kBlock 0 (kSeq (exec (cx K) N nl fi67 (subC c67 [1, 1, 1])) (fi67.jn 8) (kEnd tab [] nl rs67))))
noncomputable def GB67_3 (K : Nat → List SV → List SO → Out) (N nl : Nat) (m3 : Nat) (x0 x3 x4 : SV) (os : List SO) : Out :=
 bd (ret1 (binS tab .gtr 3 x4 (SV.v (.int .i64 0))) os) fun v4 o4 =>
 condS v4 (bd (callS ⟨tab, ownF, K⟩ o4 28 [x0, (SV.v (.int .i64 4))]) fun v5 o5 =>
 bd (ret1 (binS tab .add 3 (SV.v (.int .i64 1)) v5) o5) fun v6 o6 =>
 bd (callS ⟨tab, ownF, K⟩ o6 28 [x0, (SV.v (.int .i64 3))]) fun v7 o7 =>
 bd (ret1 (binS tab .add 3 (SV.v (.int .i64 1)) v7) o7) fun v8 o8 =>
 bd (callS ⟨tab, ownF, K⟩ o8 99 [x0, v6, v8]) fun v9 o9 =>
 bd (allocS tab o9 35) fun v10 o10 =>
 bd (storeO tab o10 35 v10 (some v9)) fun v11 o11 =>
 bd (ret1 (fieldAddrS tab 35 v10 0) o11) fun v12 o12 =>
 bd (ret1 (loadS tab o12 3 v12) o12) fun v13 o13 =>
 bd (ret1 (fieldAddrS tab 35 v10 1) o13) fun v14 o14 =>
 bd (ret1 (loadS tab o14 3 v14) o14) fun v15 o15 =>
 bd (callS ⟨tab, ownF, K⟩ o15 52 [x3, v13, v15]) fun v16 o16 =>
 bd (ret1 (binS tab .lss 3 v16 (SV.v (.int .i64 0))) o16) fun v17 o17 =>
 condS v17 (bd (ret1 (loadS tab o17 35 v10) o17) fun v18 o18 =>
 bd (callS ⟨tab, ownF, K⟩ o18 100 [x3, v18]) fun v19 o19 =>
 J67_4 K N nl m3 x0 v19 x4 o19)
 (J67_4 K N nl m3 x0 x3 x4 o17))
 (retV tab nl o4 (resC1 (some x3) (some [])))
noncomputable def JB67_4 (K : Nat → List SV → List SO → Out) (N nl : Nat) (m3 : Nat) (x0 x3 x4 : SV) (os : List SO) : Out :=
 bd (ret1 (binS tab .sub 3 x4 (SV.v (.int .i64 1))) os) fun v20 o20 =>
 L67_3 K N nl m3 x0 x3 v20 o20
noncomputable def X67 (K : Nat → List SV → List SO → Out) (N nl : Nat) (x0 : SV) (os : List SO) : Out := exec (cx K) N nl fi67 c67 [(0, x0)] os (kEnd tab [] nl rs67)
noncomputable def B67 (K : Nat → List SV → List SO → Out) (N nl : Nat) (x0 : SV) (os : List SO) : Out :=
 bd (evN tab 23 os none) fun v1 o1 =>
 bd (buildSliceS tab o1 23 0 []) fun v2 o2 =>
 bd (callS ⟨tab, ownF, K⟩ o2 28 [x0, (SV.v (.int .i64 8))]) fun v3 o3 =>
 L67_3 K N nl N x0 v2 v3 o3
noncomputable def J68_11 (K : Nat → List SV → List SO → Out) (N nl : Nat) (x2 x3 : SV) (os : List SO) : Out := exec (cx K) N nl fi68 (subC c68 [1, 1, 1]) [(2, x2), (3, x3)] os (kEnd tab [] nl rs68)
noncomputable def JB68_11 (K : Nat → List SV → List SO → Out) (N nl : Nat) (x2 x3 : SV) (os : List SO) : Out :=
 bd (ret1 (loadS tab os 35 x3) os) fun v44 o44 =>
 bd (storeO tab o44 35 x2 (some v44)) fun v45 o45 =>
 retV tab nl o45 (resC1 (loadS tab o45 35 x2) (some []))
noncomputable def X68 (K : Nat → List SV → List SO → Out) (N nl : Nat) (x0 : SV) (os : List SO) : Out := exec (cx K) N nl fi68 c68 [(0, x0)] os (kEnd tab [] nl rs68)
noncomputable def B68 (K : Nat → List SV → List SO → Out) (N nl : Nat) (x0 : SV) (os : List SO) : Out :=
 bd (allocS tab os 35) fun v1 o1 =>
 bd (callS ⟨tab, ownF, K⟩ o1 28 [x0, (SV.v (.int .i64 4))]) fun v2 o2 =>
 bd (ret1 (binS tab .add 3 (SV.v (.int .i64 1)) v2) o2) fun v3 o3 =>
 bd (callS ⟨tab, ownF, K⟩ o3 28 [x0, (SV.v (.int .i64 3))]) fun v4 o4 =>
 bd (ret1 (binS tab .add 3 (SV.v (.int .i64 1)) v4) o4) fun v5 o5 =>
 bd (callS ⟨tab, ownF, K⟩ o5 99 [x0, v3, v5]) fun v6 o6 =>
 bd (allocS tab o6 35) fun v7 o7 =>
 bd (storeO tab o7 35 v7 (some v6)) fun v8 o8 =>
 bd (callS ⟨tab, ownF, K⟩ o8 28 [x0, (SV.v (.int .i64 20))]) fun v9 o9 =>
 bd (ret1 (binS tab .eql 3 v9 (SV.v (.int .i64 0))) o9) fun v10 o10 =>
 condS v10 (bd (buildSliceS tab o10 43 2 [(0, (SV.v (.int .i64 0))), (1, (SV.v (.int .i64 5)))]) fun v11 o11 =>
 bd (callS ⟨tab, ownF, K⟩ o11 28 [x0, (SV.v (.int .i64 2))]) fun v12 o12 =>
 bd (ret1 (indexAddrS tab o12 43 v11 v12) o12) fun v13 o13 =>
 bd (ret1 (loadS tab o13 3 v13) o13) fun v14 o14 =>
 bd (ret1 (fieldAddrS tab 35 v7 0) o14) fun v15 o15 =>
 bd (storeO tab o15 3 v15 (some v14)) fun v16 o16 =>
 J68_11 K N nl v1 v7 o16)
 (bd (ret1 (binS tab .eql 3 v9 (SV.v (.int .i64 1))) o10) fun v17 o17 =>
 condS v17 (bd (buildSliceS tab o17 43 2 [(0, (SV.v (.int .i64 0))), (1, (SV.v (.int .i64 6)))]) fun v18 o18 =>
 bd (callS ⟨tab, ownF, K⟩ o18 28 [x0, (SV.v (.int .i64 2))]) fun v19 o19 =>
 bd (ret1 (indexAddrS tab o19 43 v18 v19) o19) fun v20 o20 =>
 bd (ret1 (loadS tab o20 3 v20) o20) fun v21 o21 =>
 bd (ret1 (fieldAddrS tab 35 v7 1) o21) fun v22 o22 =>
 bd (storeO tab o22 3 v22 (some v21)) fun v23 o23 =>
 J68_11 K N nl v1 v7 o23)
 (bd (ret1 (binS tab .eql 3 v9 (SV.v (.int .i64 2))) o17) fun v24 o24 =>
 condS v24 (bd (ret1 (fieldAddrS tab 35 v7 2) o24) fun v25 o25 =>
 dchk (isBox v25) <|
 bd (ret1 (loadS tab o25 32 v25) o25) fun v26 o26 =>
 dchk (keepOk ⟨tab, ownF, K⟩ o26 (SV.fn 28 []) [x0, (SV.v (.int .i64 7))] [v25] false) <|
 bd (callS ⟨tab, ownF, K⟩ o26 28 [x0, (SV.v (.int .i64 7))]) fun v27 o27 =>
 dchk (keepOk ⟨tab, ownF, K⟩ o27 (SV.fn 28 []) [x0, (SV.v (.int .i64 12))] [v25] false) <|
 bd (callS ⟨tab, ownF, K⟩ o27 28 [x0, (SV.v (.int .i64 12))]) fun v28 o28 =>
 bd (buildS tab o28 88 [(0, (some v27)), (1, (some v28))]) fun v29 o29 =>
 bd (buildSliceS tab o29 32 1 [(0, v29)]) fun v30 o30 =>
 bd (appendS tab o30 32 32 v26 v30) fun v31 o31 =>
 bd (ret1 (fieldAddrS tab 35 v7 2) o31) fun v32 o32 =>
 bd (storeO tab o32 32 v32 (some v31)) fun v33 o33 =>
 J68_11 K N nl v1 v7 o33)
 (bd (ret1 (binS tab .eql 3 v9 (SV.v (.int .i64 3))) o24) fun v34 o34 =>
 condS v34 (bd (ret1 (fieldAddrS tab 35 v7 3) o34) fun v35 o35 =>
 dchk (isBox v35) <|
 bd (ret1 (loadS tab o35 33 v35) o35) fun v36 o36 =>
 dchk (keepOk ⟨tab, ownF, K⟩ o36 (SV.fn 28 []) [x0, (SV.v (.int .i64 6))] [v35] false) <|
 bd (callS ⟨tab, ownF, K⟩ o36 28 [x0, (SV.v (.int .i64 6))]) fun v37 o37 =>
 dchk (keepOk ⟨tab, ownF, K⟩ o37 (SV.fn 28 []) [x0, (SV.v (.int .i64 7))] [v35] false) <|
 bd (callS ⟨tab, ownF, K⟩ o37 28 [x0, (SV.v (.int .i64 7))]) fun v38 o38 =>
 bd (buildS tab o38 91 [(0, (some v37)), (1, (some v38))]) fun v39 o39 =>
 bd (buildSliceS tab o39 33 1 [(0, v39)]) fun v40 o40 =>
 bd (appendS tab o40 33 33 v36 v40) fun v41 o41 =>
 bd (ret1 (fieldAddrS tab 35 v7 3) o41) fun v42 o42 =>
 bd (storeO tab o42 33 v42 (some v41)) fun v43 o43 =>
 J68_11 K N nl v1 v7 o43)
 (J68_11 K N nl v1 v7 o34))))
noncomputable def X69 (K : Nat → List SV → List SO → Out) (N nl : Nat) (x0 : SV) (os : List SO) : Out := exec (cx K) N nl fi69 c69 [(0, x0)] os (kEnd tab [] nl rs69)
noncomputable def B69 (K : Nat → List SV → List SO → Out) (N nl : Nat) (x0 : SV) (os : List SO) : Out :=
 bd (boxS tab os 35 (some x0)) fun v1 o1 =>
 bd (ret1 (fieldAddrS tab 35 v1 0) o1) fun v2 o2 =>
 bd (ret1 (loadS tab o2 3 v2) o2) fun v3 o3 =>
 bd (callS ⟨tab, ownF, K⟩ o3 73 [v3, (SV.v (.int .i64 1)), (SV.v (.int .i64 4))]) fun v4 o4 =>
 bd (gd v4 true (ret1 (fieldAddrS tab 35 v1 1) o4) o4) fun v5 o5 =>
 bd (gd v4 true (ret1 (loadS tab o5 3 v5) o5) o5) fun v6 o6 =>
 bd (gd v4 true (callS ⟨tab, ownF, K⟩ o6 73 [v6, (SV.v (.int .i64 1)), (SV.v (.int .i64 5))]) o6) fun v7 o7 =>
 bd (ret1 (pickS v4 v7 (SV.v (.bool false))) o7) fun v8 o8 =>
 bd (gd v8 true (ret1 (fieldAddrS tab 35 v1 2) o8) o8) fun v9 o9 =>
 bd (gd v8 true (ret1 (loadS tab o9 32 v9) o9) o9) fun v10 o10 =>
 bd (gd v8 true (callS ⟨tab, ownF, K⟩ o10 101 [v10]) o10) fun v11 o11 =>
 bd (ret1 (pickS v8 v11 (SV.v (.bool false))) o11) fun v12 o12 =>
 bd (gd v12 true (ret1 (fieldAddrS tab 35 v1 0) o12) o12) fun v13 o13 =>
 bd (gd v12 true (ret1 (loadS tab o13 3 v13) o13) o13) fun v14 o14 =>
 bd (gd v12 true (ret1 (fieldAddrS tab 35 v1 3) o14) o14) fun v15 o15 =>
 bd (gd v12 true (ret1 (loadS tab o15 33 v15) o15) o15) fun v16 o16 =>
 bd (gd v12 true (callS ⟨tab, ownF, K⟩ o16 102 [v14, v16]) o16) fun v17 o17 =>
 bd (ret1 (pickS v12 v17 (SV.v (.bool false))) o17) fun v18 o18 =>
 retV tab nl o18 (resC1 (some v18) (some []))
noncomputable def X70 (K : Nat → List SV → List SO → Out) (N nl : Nat) (x0 x1 x2 x3 : SV) (os : List SO) : Out := exec (cx K) N nl fi70 c70 [(0, x0), (1, x1), (2, x2), (3, x3)] os (kEnd tab [] nl rs70)
noncomputable def B70 (K : Nat → List SV → List SO → Out) (N nl : Nat) (x0 x1 x2 x3 : SV) (os : List SO) : Out :=
 bd (ret1 (binS tab .lss 3 x0 x2) os) fun v1 o1 =>
 bd (gd v1 false (some (x0, o1)) o1) fun v2 o2 =>
 bd (gd v1 false (some (x2, o2)) o2) fun v3 o3 =>
 bd (gd v1 false (ret1 (binS tab .eql 3 v2 v3) o3) o3) fun v4 o4 =>
 bd (gd v1 false (some (v4, o4)) o4) fun v5 o5 =>
 bd (gd v5 true (some (x1, o5)) o5) fun v6 o6 =>
 bd (gd v5 true (some (x3, o6)) o6) fun v7 o7 =>
 bd (gd v5 true (ret1 (binS tab .lss 3 v6 v7) o7) o7) fun v8 o8 =>
 bd (gd v1 false (ret1 (pickS v5 v8 (SV.v (.bool false))) o8) o8) fun v9 o9 =>
 bd (ret1 (pickS v1 (SV.v (.bool true)) v9) o9) fun v10 o10 =>
 retV tab nl o10 (resC1 (some v10) (some []))
noncomputable def X71 (K : Nat → List SV → List SO → Out) (N nl : Nat) (x0 x1 : SV) (os : List SO) : Out := exec (cx K) N nl fi71 c71 [(0, x0), (1, x1)] os (kEnd tab [] nl rs71)
noncomputable def B71 (K : Nat → List SV → List SO → Out) (N nl : Nat) (x0 x1 : SV) (os : List SO) : Out :=
 both (both (bd (ret1 (binS tab .add 3 (SV.v (.int .i64 97)) x0) os) fun v1 o1 =>
 bd (ret1 (binS tab .sub 3 v1 (SV.v (.int .i64 1))) o1) fun v2 o2 =>
 bd (convS tab o2 3 5 v2) fun v3 o3 =>
 bd (buildSliceS tab o3 22 1 [(0, v3)]) fun v4 o4 =>
 bd (convS tab o4 22 9 v4) fun v5 o5 =>
 bd (callS ⟨tab, ownF, K⟩ o5 72 [x1]) fun v6 o6 =>
 bd (ret1 (binS tab .add 9 v5 v6) o6) fun v7 o7 =>
 retV tab nl o7 (resC1 (some v7) (some [])))
 (bd (ret1 (binS tab .add 3 (SV.v (.int .i64 97)) x0) os) fun v8 o8 =>
 bd (ret1 (binS tab .sub 3 v8 (SV.v (.int .i64 1))) o8) fun v9 o9 =>
 bd (convS tab o9 3 5 v9) fun v10 o10 =>
 bd (buildSliceS tab o10 22 1 [(0, v10)]) fun v11 o11 =>
 bd (callS ⟨tab, ownF, K⟩ o11 72 [x1]) fun v12 o12 =>
 bd (convS tab o12 22 9 v11) fun v13 o13 =>
 bd (ret1 (binS tab .add 9 v13 v12) o13) fun v14 o14 =>
 retV tab nl o14 (resC1 (some v14) (some []))))
 (bd (ret1 (binS tab .add 3 (SV.v (.int .i64 97)) x0) os) fun v15 o15 =>
 bd (ret1 (binS tab .sub 3 v15 (SV.v (.int .i64 1))) o15) fun v16 o16 =>
 bd (convS tab o16 3 5 v16) fun v17 o17 =>
 bd (callS ⟨tab, ownF, K⟩ o17 72 [x1]) fun v18 o18 =>
 bd (buildSliceS tab o18 22 1 [(0, v17)]) fun v19 o19 =>
 bd (convS tab o19 22 9 v19) fun v20 o20 =>
 bd (ret1 (binS tab .add 9 v20 v18) o20) fun v21 o21 =>
 retV tab nl o21 (resC1 (some v21) (some [])))
noncomputable def X72 (K : Nat → List SV → List SO → Out) (N nl : Nat) (x0 : SV) (os : List SO) : Out := exec (cx K) N nl fi72 c72 [(0, x0)] os (kEnd tab [] nl rs72)
noncomputable def B72 (K : Nat → List SV → List SO → Out) (N nl : Nat) (x0 : SV) (os : List SO) : Out :=
 bd (ret1 (binS tab .lss 3 x0 (SV.v (.int .i64 (-9223372036854775807)))) os) fun v1 o1 =>
 condS v1 (retV tab nl o1 (resC1 (some (SV.v (.string ⟨#[45, 57, 50, 50, 51, 51, 55, 50, 48, 51, 54, 56, 53, 52, 55, 55, 53, 56, 48, 56]⟩))) (some [])))
 (bd (ret1 (binS tab .lss 3 x0 (SV.v (.int .i64 0))) o1) fun v2 o2 =>
 condS v2 (bd (ret1 (unS .neg x0) o2) fun v3 o3 =>
 bd (callS ⟨tab, ownF, K⟩ o3 72 [v3]) fun v4 o4 =>
 bd (ret1 (binS tab .add 9 (SV.v (.string ⟨#[45]⟩)) v4) o4) fun v5 o5 =>
 retV tab nl o5 (resC1 (some v5) (some [])))
 (bd (ret1 (binS tab .lss 3 x0 (SV.v (.int .i64 10))) o2) fun v6 o6 =>
 condS v6 (bd (ret1 (binS tab .add 3 (SV.v (.int .i64 48)) x0) o6) fun v7 o7 =>
 bd (convS tab o7 3 5 v7) fun v8 o8 =>
 bd (buildSliceS tab o8 22 1 [(0, v8)]) fun v9 o9 =>
 bd (convS tab o9 22 9 v9) fun v10 o10 =>
 retV tab nl o10 (resC1 (some v10) (some [])))
 (both (bd (ret1 (binS tab .quo 3 x0 (SV.v (.int .i64 10))) o6) fun v11 o11 =>
 bd (callS ⟨tab, ownF, K⟩ o11 72 [v11]) fun v12 o12 =>
 bd (ret1 (binS tab .rem 3 x0 (SV.v (.int .i64 10))) o12) fun v13 o13 =>
 bd (ret1 (binS tab .add 3 (SV.v (.int .i64 48)) v13) o13) fun v14 o14 =>
 bd (convS tab o14 3 5 v14) fun v15 o15 =>
 bd (buildSliceS tab o15 22 1 [(0, v15)]) fun v16 o16 =>
 bd (convS tab o16 22 9 v16) fun v17 o17 =>
 bd (ret1 (binS tab .add 9 v12 v17) o17) fun v18 o18 =>
 retV tab nl o18 (resC1 (some v18) (some [])))
 (both (bd (ret1 (binS tab .quo 3 x0 (SV.v (.int .i64 10))) o6) fun v19 o19 =>
 bd (ret1 (binS tab .rem 3 x0 (SV.v (.int .i64 10))) o19) fun v20 o20 =>
 bd (ret1 (binS tab .add 3 (SV.v (.int .i64 48)) v20) o20) fun v21 o21 =>
 bd (convS tab o21 3 5 v21) fun v22 o22 =>
 bd (buildSliceS tab o22 22 1 [(0, v22)]) fun v23 o23 =>
 bd (callS ⟨tab, ownF, K⟩ o23 72 [v19]) fun v24 o24 =>
 bd (convS tab o24 22 9 v23) fun v25 o25 =>
 bd (ret1 (binS tab .add 9 v24 v25) o25) fun v26 o26 =>
 retV tab nl o26 (resC1 (some v26) (some [])))
 (bd (ret1 (binS tab .quo 3 x0 (SV.v (.int .i64 10))) o6) fun v27 o27 =>
 bd (ret1 (binS tab .rem 3 x0 (SV.v (.int .i64 10))) o27) fun v28 o28 =>
 bd (ret1 (binS tab .add 3 (SV.v (.int .i64 48)) v28) o28) fun v29 o29 =>
 bd (convS tab o29 3 5 v29) fun v30 o30 =>
 bd (buildSliceS tab o30 22 1 [(0, v30)]) fun v31 o31 =>
 bd (convS tab o31 22 9 v31) fun v32 o32 =>
 bd (callS ⟨tab, ownF, K⟩ o32 72 [v27]) fun v33 o33 =>
 bd (ret1 (binS tab .add 9 v33 v32) o33) fun v34 o34 =>
 retV tab nl o34 (resC1 (some v34) (some [])))))))
noncomputable def X73 (K : Nat → List SV → List SO → Out) (N nl : Nat) (x0 x1 x2 : SV) (os : List SO) : Out := exec (cx K) N nl fi73 c73 [(0, x0), (1, x1), (2, x2)] os (kEnd tab [] nl rs73)
noncomputable def B73 (K : Nat → List SV → List SO → Out) (N nl : Nat) (x0 x1 x2 : SV) (os : List SO) : Out :=
 bd (ret1 (binS tab .geq 3 x0 x1) os) fun v1 o1 =>
 bd (gd v1 true (some (x0, o1)) o1) fun v2 o2 =>
 bd (gd v1 true (some (x2, o2)) o2) fun v3 o3 =>
 bd (gd v1 true (ret1 (binS tab .leq 3 v2 v3) o3) o3) fun v4 o4 =>
 bd (ret1 (pickS v1 v4 (SV.v (.bool false))) o4) fun v5 o5 =>
 retV tab nl o5 (resC1 (some v5) (some []))
noncomputable def X74 (K : Nat → List SV → List SO → Out) (N nl : Nat) (x0 x1 : SV) (os : List SO) : Out := exec (cx K) N nl fi74 c74 [(0, x0), (1, x1)] os (kEnd tab [] nl rs74)
noncomputable def B74 (K : Nat → List SV → List SO → Out) (N nl : Nat) (x0 x1 : SV) (os : List SO) : Out :=
 bd (boxS tab os 35 (some x0)) fun v1 o1 =>
 bd (boxS tab o1 35 (some x1)) fun v2 o2 =>
 bd (ret1 (fieldAddrS tab 35 v1 0) o2) fun v3 o3 =>
 bd (ret1 (loadS tab o3 3 v3) o3) fun v4 o4 =>
 bd (ret1 (fieldAddrS tab 35 v2 0) o4) fun v5 o5 =>
 bd (ret1 (loadS tab o5 3 v5) o5) fun v6 o6 =>
 dchk (keepOk ⟨tab, ownF, K⟩ o6 (SV.fn 104 []) [v4, v6] [] true) <|
 bd (callS ⟨tab, ownF, K⟩ o6 104 [v4, v6]) fun v7 o7 =>
 bd (ret1 (fieldAddrS tab 35 v1 1) o7) fun v8 o8 =>
 dchk (isBox v8) <|
 bd (ret1 (loadS tab o8 3 v8) o8) fun v9 o9 =>
 bd (ret1 (fieldAddrS tab 35 v2 1) o9) fun v10 o10 =>
 dchk (isBox v10) <|
 bd (ret1 (loadS tab o10 3 v10) o10) fun v11 o11 =>
 bd (callS ⟨tab, ownF, K⟩ o11 104 [v9, v11]) fun v12 o12 =>
 bd (buildSliceS tab o12 43 2 [(0, v7), (1, v12)]) fun v13 o13 =>
 bd (callS ⟨tab, ownF, K⟩ o13 103 [v13]) fun v14 o14 =>
 retV tab nl o14 (resC1 (some v14) (some []))
noncomputable def bk75_3 (K : Nat → List SV → List SO → Out) (N nl : Nat) (m3 : Nat) : Env → List SO → Out := fun env os => loopS nl (fi75.lp 3) (fun env os nx => exec (cx K) N nl fi75 (subC c75 [1, 1, 0, 1, 0, 0]) env os (kLoop nx (kBlock 0 (kSeq (exec (cx K) N nl fi75 (subC c75 [1, 1, 1])) (fi75.jn 7) (kEnd tab [] nl rs75))))) m3 (killS (fi75.lp 3).alive env) os
noncomputable def L75_3 (K : Nat → List SV → List SO → Out) (N nl : Nat) (m3 : Nat) (x3 x7 x8 x9 : SV) (os : List SO) : Out := loopS nl (fi75.lp 3) (fun env os nx => exec (cx K) N nl fi75 (subC c75 [1, 1, 0, 1, 0, 0]) env os (kLoop nx (kBlock 0 (kSeq (exec (cx K) N nl fi75 (subC c75 [1, 1, 1])) (fi75.jn 7) (kEnd tab [] nl rs75))))) m3 [(3, x3), (7, x7), (8, x8), (9, x9)] os
noncomputable def LB75_3 (K : Nat → List SV → List SO → Out) (N nl : Nat) (m3 : Nat) (x3 x7 x8 x9 : SV) (os : List SO) : Out :=
 bd (ret1 (binS tab .lss 3 x9 x8) os) fun v3 o3 =>
 condS v3 (bd (ret1 (indexAddrS tab o3 22 x7 x9) o3) fun v4 o4 =>
 bd (ret1 (loadS tab o4 5 v4) o4) fun v5 o5 =>
 bd (ret1 (binS tab .mul 3 (SV.v (.int .i64 31)) x3) o5) fun v6 o6 =>
 bd (convS tab o6 5 3 v5) fun v7 o7 =>
 bd (ret1 (binS tab .add 3 v6 v7) o7) fun v8 o8 =>
 bd (ret1 (binS tab .add 3 v8 (SV.v (.int .i64 1))) o8) fun v9 o9 =>
 bd (ret1 (binS tab .rem 3 v9 (SV.v (.int .i64 9973))) o9) fun v10 o10 =>
 bd (ret1 (binS tab .add 3 x9 (SV.v (.int .i64 1))) o10) fun v11 o11 =>
 L75_3 K N nl m3 v10 x7 x8 v11 o11)
 (retV tab nl o3 (resC1 (some x3) (some [])))
noncomputable def X75 (K : Nat → List SV → List SO → Out) (N nl : Nat) (x0 : SV) (os : List SO) : Out := exec (cx K) N nl fi75 c75 [(0, x0)] os (kEnd tab [] nl rs75)
noncomputable def B75 (K : Nat → List SV → List SO → Out) (N nl : Nat) (x0 : SV) (os : List SO) : Out :=
 bd (convS tab os 9 22 x0) fun v1 o1 =>
 bd (lenO tab 22 o1 v1) fun v2 o2 =>
 L75_3 K N nl N (SV.v (.int .i64 7)) v1 v2 (SV.v (.int .i64 0)) o2
noncomputable def X76 (K : Nat → List SV → List SO → Out) (N nl : Nat) (x0 x1 : SV) (os : List SO) : Out := exec (cx K) N nl fi76 c76 [(0, x0), (1, x1)] os (kEnd tab [0] nl rs76)
noncomputable def B76 (K : Nat → List SV → List SO → Out) (N nl : Nat) (x0 x1 : SV) (os : List SO) : Out :=
 bd (evN tab 119 os none) fun v1 o1 =>
 bd (callS ⟨tab, ownF, K⟩ o1 105 [x0, x1, (SV.v (.int .i64 0)), (SV.v (.int .i64 (-1)))]) fun v2 o2 =>
 retP tab [0] nl o2 (resC1 (some v2) (some []))
noncomputable def X77 (K : Nat → List SV → List SO → Out) (N nl : Nat) (x0 : SV) (os : List SO) : Out := exec (cx K) N nl fi77 c77 [(0, x0)] os (kEnd tab [] nl rs77)
noncomputable def B77 (K : Nat → List SV → List SO → Out) (N nl : Nat) (x0 : SV) (os : List SO) : Out :=
 bd (ret1 (binS tab .eql 9 x0 (SV.v (.string ⟨#[]⟩))) os) fun v1 o1 =>
 condS v1 (retV tab nl o1 (resC1 (some (SV.v (.int .i64 0))) (resC1 (some (SV.v (.int .i64 0))) (some []))))
 (bd (ret1 (sliceS tab o1 9 x0 (some (SV.v (.int .i64 1))) none) o1) fun v2 o2 =>
 bd (callS ⟨tab, ownF, K⟩ o2 79 [v2]) fun v3 o3 =>
 bd (ret1 (extractS v3 0) o3) fun v4 o4 =>
 bd (ret1 (extractS v3 1) o4) fun v5 o5 =>
 bd (ret1 (indexS tab 9 x0 (SV.v (.int .i64 0))) o5) fun v6 o6 =>
 bd (convS tab o6 5 3 v6) fun v7 o7 =>
 bd (ret1 (binS tab .sub 3 v7 (SV.v (.int .i64 97))) o7) fun v8 o8 =>
 bd (ret1 (binS tab .add 3 v8 (SV.v (.int .i64 1))) o8) fun v9 o9 =>
 retV tab nl o9 (resC1 (some v9) (resC1 (some v4) (some []))))
noncomputable def X78 (K : Nat → List SV → List SO → Out) (N nl : Nat) (x0 x1 : SV) (os : List SO) : Out := exec (cx K) N nl fi78 c78 [(0, x0), (1, x1)] os (kEnd tab [] nl rs78)
noncomputable def B78 (K : Nat → List SV → List SO → Out) (N nl : Nat) (x0 x1 : SV) (os : List SO) : Out :=
 bd (callS ⟨tab, ownF, K⟩ os 106 [x0, x1]) fun v1 o1 =>
 bd (ret1 (extractS v1 0) o1) fun v2 o2 =>
 bd (ret1 (extractS v1 1) o2) fun v3 o3 =>
 bd (ret1 (extractS v1 2) o3) fun v4 o4 =>
 retV tab nl o4 (resC1 (some v2) (resC1 (some v3) (resC1 (some v4) (some []))))
noncomputable def bk80_2 (K : Nat → List SV → List SO → Out) (N nl : Nat) (m2 : Nat) : Env → List SO → Out := fun env os => loopS nl (fi80.lp 2) (fun env os nx => exec (cx K) N nl fi80 (subC c80 [1, 0, 1, 0, 0]) env os (kLoop nx (kBlock 0 (kSeq (exec (cx K) N nl fi80 (subC c80 [1, 1])) (fi80.jn 7) (kEnd tab [] nl rs80))))) m2 (killS (fi80.lp 2).alive env) os
noncomputable def L80_2 (K : Nat → List SV → List SO → Out) (N nl : Nat) (m2 : Nat) (x0 x3 x7 x8 : SV) (os : List SO) : Out := loopS nl (fi80.lp 2) (fun env os nx => exec (cx K) N nl fi80 (subC c80 [1, 0, 1, 0, 0]) env os (kLoop nx (kBlock 0 (kSeq (exec (cx K) N nl fi80 (subC c80 [1, 1])) (fi80.jn 7) (kEnd tab [] nl rs80))))) m2 [(0, x0), (3, x3), (7, x7), (8, x8)] os
noncomputable def LB80_2 (K : Nat → List SV → List SO → Out) (N nl : Nat) (m2 : Nat) (x0 x3 x7 x8 : SV) (os : List SO) : Out :=
 bd (ret1 (binS tab .lss 3 x8 x7) os) fun v3 o3 =>
 condS v3 (bd (ret1 (loadS tab o3 74 x3) o3) fun v4 o4 =>
 bd (ret1 (indexAddrS tab o4 26 x0 x8) o4) fun v5 o5 =>
 bd (ret1 (loadS tab o5 74 v5) o5) fun v6 o6 =>
 bd (ret1 (binS tab .eql 74 v4 v6) o6) fun v7 o7 =>
 condS v7 (retV tab nl o7 (resC1 (some x8) (some [])))
 (bd (ret1 (binS tab .add 3 x8 (SV.v (.int .i64 1))) o7) fun v8 o8 =>
 L80_2 K N nl m2 x0 x3 x7 v8 o8))
 (retV tab nl o3 (resC1 (some (SV.v (.int .i64 (-1)))) (some [])))
noncomputable def X80 (K : Nat → List SV → List SO → Out) (N nl : Nat) (x0 x1 : SV) (os : List SO) : Out := exec (cx K) N nl fi80 c80 [(0, x0), (1, x1)] os (kEnd tab [] nl rs80)
noncomputable def B80 (K : Nat → List SV → List SO → Out) (N nl : Nat) (x0 x1 : SV) (os : List SO) : Out :=
 bd (boxS tab os 74 (some x1)) fun v1 o1 =>
 bd (lenO tab 26 o1 x0) fun v2 o2 =>
 L80_2 K N nl N x0 v1 v2 (SV.v (.int .i64 0)) o2
noncomputable def bk88_3 (K : Nat → List SV → List SO → Out) (N nl : Nat) (m3 : Nat) : Env → List SO → Out := fun env os => loopS nl (fi88.lp 3) (fun env os nx => exec (cx K) N nl fi88 (subC c88 [1, 1, 0, 1, 0, 0]) env os (kLoop nx (kBlock 0 (kSeq (exec (cx K) N nl fi88 (subC c88 [1, 1, 1])) (fi88.jn 6) (kEnd tab [] nl rs88))))) m3 (killS (fi88.lp 3).alive env) os
noncomputable def bk89_3 (K : Nat → List SV → List SO → Out) (N nl : Nat) (m3 : Nat) : Env → List SO → Out := fun env os => loopS nl (fi89.lp 3) (fun env os nx => exec (cx K) N nl fi89 (subC c89 [1, 1, 0, 1, 0, 0]) env os (kLoop nx (kBlock 0 (kSeq (exec (cx K) N nl fi89 (subC c89 [1, 1, 1])) (fi89.jn 6) (kEnd tab [] nl rs89))))) m3 (killS (fi89.lp 3).alive env) os
noncomputable def bk90_3 (K : Nat → List SV → List SO → Out) (N nl : Nat) (m3 : Nat) : Env → List SO → Out := fun env os => loopS nl (fi90.lp 3) (fun env os nx => exec (cx K) N nl fi90 (subC c90 [1, 1, 0, 1, 0, 0]) env os (kLoop nx (kBlock 0 (kSeq (exec (cx K) N nl fi90 (subC c90 [1, 1, 1])) (fi90.jn 6) (kEnd tab [] nl rs90))))) m3 (killS (fi90.lp 3).alive env) os
noncomputable def L90_3 (K : Nat → List SV → List SO → Out) (N nl : Nat) (m3 : Nat) (x0 x3 x4 : SV) (os : List SO) : Out := loopS nl (fi90.lp 3) (fun env os nx => exec (cx K) N nl fi90 (subC c90 [1, 1, 0, 1, 0, 0]) env os (kLoop nx (kBlock 0 (kSeq (exec (cx K) N nl fi90 (subC c90 [1, 1, 1])) (fi90.jn 6) (kEnd tab [] nl rs90))))) m3 [(0, x0), (3, x3), (4, x4)] os
noncomputable def LB90_3 (K : Nat → List SV → List SO → Out) (N nl : Nat) (m3 : Nat) (x0 x3 x4 : SV) (os : List SO) : Out :=
 bd (lenO tab 98 os x0) fun v4 o4 =>
 bd (ret1 (binS tab .lss 3 x4 v4) o4) fun v5 o5 =>
 condS v5 (bd (ret1 (indexAddrS tab o5 98 x0 x4) o5) fun v6 o6 =>
 bd (ret1 (loadS tab o6 155 v6) o6) fun v7 o7 =>
 bd (callS ⟨tab, ownF, K⟩ o7 113 [v7]) fun v8 o8 =>
 bd (ret1 (indexAddrS tab o8 32 x3 x4) o8) fun v9 o9 =>
 bd (storeO tab o9 88 v9 (some v8)) fun v10 o10 =>
 bd (ret1 (binS tab .add 3 x4 (SV.v (.int .i64 1))) o10) fun v11 o11 =>
 L90_3 K N nl m3 x0 x3 v11 o11)
 (retV tab nl o5 (resC1 (some x3) (some [])))
noncomputable def X90 (K : Nat → List SV → List SO → Out) (N nl : Nat) (x0 : SV) (os : List SO) : Out := exec (cx K) N nl fi90 c90 [(0, x0)] os (kEnd tab [] nl rs90)
noncomputable def B90 (K : Nat → List SV → List SO → Out) (N nl : Nat) (x0 : SV) (os : List SO) : Out :=
 bd (evN tab 32 os none) fun v1 o1 =>
 bd (lenO tab 98 o1 x0) fun v2 o2 =>
 bd (makeS tab o2 32 v2 v2) fun v3 o3 =>
 L90_3 K N nl N x0 v3 (SV.v (.int .i64 0)) o3
noncomputable def bk91_3 (K : Nat → List SV → List SO → Out) (N nl : Nat) (m3 : Nat) : Env → List SO → Out := fun env os => loopS nl (fi91.lp 3) (fun env os nx => exec (cx K) N nl fi91 (subC c91 [1, 1, 0, 1, 0, 0]) env os (kLoop nx (kBlock 0 (kSeq (exec (cx K) N nl fi91 (subC c91 [1, 1, 1])) (fi91.jn 6) (kEnd tab [] nl rs91))))) m3 (killS (fi91.lp 3).alive env) os
noncomputable def L91_3 (K : Nat → List SV → List SO → Out) (N nl : Nat) (m3 : Nat) (x0 x3 x4 : SV) (os : List SO) : Out := loopS nl (fi91.lp 3) (fun env os nx => exec (cx K) N nl fi91 (subC c91 [1, 1, 0, 1, 0, 0]) env os (kLoop nx (kBlock 0 (kSeq (exec (cx K) N nl fi91 (subC c91 [1, 1, 1])) (fi91.jn 6) (kEnd tab [] nl rs91))))) m3 [(0, x0), (3, x3), (4, x4)] os
noncomputable def LB91_3 (K : Nat → List SV → List SO → Out) (N nl : Nat) (m3 : Nat) (x0 x3 x4 : SV) (os : List SO) : Out :=
 bd (lenO tab 99 os x0) fun v4 o4 =>
 bd (ret1 (binS tab .lss 3 x4 v4) o4) fun v5 o5 =>
 condS v5 (bd (ret1 (indexAddrS tab o5 99 x0 x4) o5) fun v6 o6 =>
 bd (ret1 (loadS tab o6 157 v6) o6) fun v7 o7 =>
 bd (callS ⟨tab, ownF, K⟩ o7 114 [v7]) fun v8 o8 =>
 bd (ret1 (indexAddrS tab o8 33 x3 x4) o8) fun v9 o9 =>
 bd (storeO tab o9 91 v9 (some v8)) fun v10 o10 =>
 bd (ret1 (binS tab .add 3 x4 (SV.v (.int .i64 1))) o10) fun v11 o11 =>
 L91_3 K N nl m3 x0 x3 v11 o11)
 (retV tab nl o5 (resC1 (some x3) (some [])))
noncomputable def X91 (K : Nat → List SV → List SO → Out) (N nl : Nat) (x0 : SV) (os : List SO) : Out := exec (cx K) N nl fi91 c91 [(0, x0)] os (kEnd tab [] nl rs91)
noncomputable def B91 (K : Nat → List SV → List SO → Out) (N nl : Nat) (x0 : SV) (os : List SO) : Out :=
 bd (evN tab 33 os none) fun v1 o1 =>
 bd (lenO tab 99 o1 x0) fun v2 o2 =>
 bd (makeS tab o2 33 v2 v2) fun v3 o3 =>
 L91_3 K N nl N x0 v3 (SV.v (.int .i64 0)) o3
end Go.Proofs.YtebaiioejagfoaaGreatDoor
