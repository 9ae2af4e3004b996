/-
  No cell of these rows narrows 'for every input' (looked for: loops, veiled, ifaces, maps, wideKeys, modest, calm, conditions, laid).
  DERIVED. THE GIVEN ROWS OF THIS SEAT. 12 by the template 'for every input the law returns true; each argument reads behind the call as it read before'; 0 by the template 'total and deterministic' (their statements: YtfjbclgbpdlkgaaTotals.lean).
  GIVEN WITH THE SEED: the statements are not yours to turn. If you find one false, say at which input.
  Laid BY PROGRAM, IN A SANDBOX (cutbox-rows.mjs): the forced cells as the released guide's own fill.sh prints them over the translation 6f97a6daef2120ce… (all of the seat's roots in one cut). By AI agents, Wed Nov 11 2026. No macro, syntax, notation, axiom, sorry.
-/
import Derived.Test.YtfjbclgbpdlkgaaChecked
import GoSem.Claim
import GoSem.ClaimJoined
import GoSem.ClaimMapViews
import Derived.JoinedTies
import Derived.KernelRfl
namespace Go.Proofs.Ytfjbclgbpdlkgaa
/- THE CELL 'sum', in the pinned program and in every row, IS THE sha256 OF THE DUMP (.gsa) THAT YtfjbclgbpdlkgaaProg.lean LOADS. Nothing in Lean hashes anything: it is a label: what it is worth is what the hold of that sum in a sandbox is worth. -/
noncomputable def Try.pinned : Pinned := { name := "ytfjbclgbpdlkgaa", sum := "6f97a6daef2120ce6c600bd29ffcf31121fea2862b36288c5acd0e8b650ac274", checked := Try.checked }
namespace Rows
def none {H : Type} : Left H := { results := [], args := [] }

/-- 'laws.FnDiskTrue': WHATEVER THE INPUT: true; the input reads as it did. -/
def fnDiskTrueSpec : ChangeSpec := { name := "fnDiskTrue", fn := fun _ => fun
  | [d] => { results := [.lit (.bool true)], args := [d] }
  | _ => none }
def fnDiskTrueRow : OpenClaim := { program := "ytfjbclgbpdlkgaa", sum := "6f97a6daef2120ce6c600bd29ffcf31121fea2862b36288c5acd0e8b650ac274", func := "loop.example/purser/laws.FnDiskTrue", spec := "fnDiskTrue", unfollowed := true, recurses := true, apart := false }
def FnDiskTrueSaid : Prop := fnDiskTrueRow.holds Try.pinned (OpenSpec.ofChange fnDiskTrueSpec)

/-- ITS FALSE NEIGHBOUR: 'it returns false'. Refute it at one input. -/
def fnDiskTrueWrong : ChangeSpec := { name := "fnDiskTrue", fn := fun _ => fun
  | [d] => { results := [.lit (.bool false)], args := [d] }
  | _ => none }
def FnDiskTrueWrongFalsely : Prop := fnDiskTrueRow.holds Try.pinned (OpenSpec.ofChange fnDiskTrueWrong)

/-- 'laws.FnDiskDo': WHATEVER THE INPUT: true; the input reads as it did. -/
def fnDiskDoSpec : ChangeSpec := { name := "fnDiskDo", fn := fun _ => fun
  | [d] => { results := [.lit (.bool true)], args := [d] }
  | _ => none }
def fnDiskDoRow : OpenClaim := { program := "ytfjbclgbpdlkgaa", sum := "6f97a6daef2120ce6c600bd29ffcf31121fea2862b36288c5acd0e8b650ac274", func := "loop.example/purser/laws.FnDiskDo", spec := "fnDiskDo", unfollowed := true, recurses := true, apart := false }
def FnDiskDoSaid : Prop := fnDiskDoRow.holds Try.pinned (OpenSpec.ofChange fnDiskDoSpec)

/-- ITS FALSE NEIGHBOUR: 'it returns false'. Refute it at one input. -/
def fnDiskDoWrong : ChangeSpec := { name := "fnDiskDo", fn := fun _ => fun
  | [d] => { results := [.lit (.bool false)], args := [d] }
  | _ => none }
def FnDiskDoWrongFalsely : Prop := fnDiskDoRow.holds Try.pinned (OpenSpec.ofChange fnDiskDoWrong)

/-- 'laws.FnDiskOrder': WHATEVER THE INPUT: true; the input reads as it did. -/
def fnDiskOrderSpec : ChangeSpec := { name := "fnDiskOrder", fn := fun _ => fun
  | [d1, d2] => { results := [.lit (.bool true)], args := [d1, d2] }
  | _ => none }
def fnDiskOrderRow : OpenClaim := { program := "ytfjbclgbpdlkgaa", sum := "6f97a6daef2120ce6c600bd29ffcf31121fea2862b36288c5acd0e8b650ac274", func := "loop.example/purser/laws.FnDiskOrder", spec := "fnDiskOrder", unfollowed := true, recurses := true, apart := false }
def FnDiskOrderSaid : Prop := fnDiskOrderRow.holds Try.pinned (OpenSpec.ofChange fnDiskOrderSpec)

/-- ITS FALSE NEIGHBOUR: 'it returns false'. Refute it at one input. -/
def fnDiskOrderWrong : ChangeSpec := { name := "fnDiskOrder", fn := fun _ => fun
  | [d1, d2] => { results := [.lit (.bool false)], args := [d1, d2] }
  | _ => none }
def FnDiskOrderWrongFalsely : Prop := fnDiskOrderRow.holds Try.pinned (OpenSpec.ofChange fnDiskOrderWrong)

/-- 'laws.FnDiskBad': WHATEVER THE INPUT: true; the input reads as it did. -/
def fnDiskBadSpec : ChangeSpec := { name := "fnDiskBad", fn := fun _ => fun
  | [d] => { results := [.lit (.bool true)], args := [d] }
  | _ => none }
def fnDiskBadRow : OpenClaim := { program := "ytfjbclgbpdlkgaa", sum := "6f97a6daef2120ce6c600bd29ffcf31121fea2862b36288c5acd0e8b650ac274", func := "loop.example/purser/laws.FnDiskBad", spec := "fnDiskBad", unfollowed := true, recurses := true, apart := false }
def FnDiskBadSaid : Prop := fnDiskBadRow.holds Try.pinned (OpenSpec.ofChange fnDiskBadSpec)

/-- ITS FALSE NEIGHBOUR: 'it returns false'. Refute it at one input. -/
def fnDiskBadWrong : ChangeSpec := { name := "fnDiskBad", fn := fun _ => fun
  | [d] => { results := [.lit (.bool false)], args := [d] }
  | _ => none }
def FnDiskBadWrongFalsely : Prop := fnDiskBadRow.holds Try.pinned (OpenSpec.ofChange fnDiskBadWrong)

/-- 'laws.FnDiskTear': WHATEVER THE INPUT: true; the input reads as it did. -/
def fnDiskTearSpec : ChangeSpec := { name := "fnDiskTear", fn := fun _ => fun
  | [d] => { results := [.lit (.bool true)], args := [d] }
  | _ => none }
def fnDiskTearRow : OpenClaim := { program := "ytfjbclgbpdlkgaa", sum := "6f97a6daef2120ce6c600bd29ffcf31121fea2862b36288c5acd0e8b650ac274", func := "loop.example/purser/laws.FnDiskTear", spec := "fnDiskTear", unfollowed := true, recurses := true, apart := false }
def FnDiskTearSaid : Prop := fnDiskTearRow.holds Try.pinned (OpenSpec.ofChange fnDiskTearSpec)

/-- ITS FALSE NEIGHBOUR: 'it returns false'. Refute it at one input. -/
def fnDiskTearWrong : ChangeSpec := { name := "fnDiskTear", fn := fun _ => fun
  | [d] => { results := [.lit (.bool false)], args := [d] }
  | _ => none }
def FnDiskTearWrongFalsely : Prop := fnDiskTearRow.holds Try.pinned (OpenSpec.ofChange fnDiskTearWrong)

/-- 'laws.FnMendsShape': WHATEVER THE INPUT: true; the input reads as it did. -/
def fnMendsShapeSpec : ChangeSpec := { name := "fnMendsShape", fn := fun _ => fun
  | [d] => { results := [.lit (.bool true)], args := [d] }
  | _ => none }
def fnMendsShapeRow : OpenClaim := { program := "ytfjbclgbpdlkgaa", sum := "6f97a6daef2120ce6c600bd29ffcf31121fea2862b36288c5acd0e8b650ac274", func := "loop.example/purser/laws.FnMendsShape", spec := "fnMendsShape", unfollowed := true, recurses := true, apart := false }
def FnMendsShapeSaid : Prop := fnMendsShapeRow.holds Try.pinned (OpenSpec.ofChange fnMendsShapeSpec)

/-- ITS FALSE NEIGHBOUR: 'it returns false'. Refute it at one input. -/
def fnMendsShapeWrong : ChangeSpec := { name := "fnMendsShape", fn := fun _ => fun
  | [d] => { results := [.lit (.bool false)], args := [d] }
  | _ => none }
def FnMendsShapeWrongFalsely : Prop := fnMendsShapeRow.holds Try.pinned (OpenSpec.ofChange fnMendsShapeWrong)

/-- 'laws.FnToNone': WHATEVER THE INPUT: true; the input reads as it did. -/
def fnToNoneSpec : ChangeSpec := { name := "fnToNone", fn := fun _ => fun
  | [d] => { results := [.lit (.bool true)], args := [d] }
  | _ => none }
def fnToNoneRow : OpenClaim := { program := "ytfjbclgbpdlkgaa", sum := "6f97a6daef2120ce6c600bd29ffcf31121fea2862b36288c5acd0e8b650ac274", func := "loop.example/purser/laws.FnToNone", spec := "fnToNone", unfollowed := true, recurses := true, apart := false }
def FnToNoneSaid : Prop := fnToNoneRow.holds Try.pinned (OpenSpec.ofChange fnToNoneSpec)

/-- ITS FALSE NEIGHBOUR: 'it returns false'. Refute it at one input. -/
def fnToNoneWrong : ChangeSpec := { name := "fnToNone", fn := fun _ => fun
  | [d] => { results := [.lit (.bool false)], args := [d] }
  | _ => none }
def FnToNoneWrongFalsely : Prop := fnToNoneRow.holds Try.pinned (OpenSpec.ofChange fnToNoneWrong)

/-- 'laws.FnStepsShape': WHATEVER THE INPUT: true; the input reads as it did. -/
def fnStepsShapeSpec : ChangeSpec := { name := "fnStepsShape", fn := fun _ => fun
  | [d] => { results := [.lit (.bool true)], args := [d] }
  | _ => none }
def fnStepsShapeRow : OpenClaim := { program := "ytfjbclgbpdlkgaa", sum := "6f97a6daef2120ce6c600bd29ffcf31121fea2862b36288c5acd0e8b650ac274", func := "loop.example/purser/laws.FnStepsShape", spec := "fnStepsShape", unfollowed := true, recurses := true, apart := false }
def FnStepsShapeSaid : Prop := fnStepsShapeRow.holds Try.pinned (OpenSpec.ofChange fnStepsShapeSpec)

/-- ITS FALSE NEIGHBOUR: 'it returns false'. Refute it at one input. -/
def fnStepsShapeWrong : ChangeSpec := { name := "fnStepsShape", fn := fun _ => fun
  | [d] => { results := [.lit (.bool false)], args := [d] }
  | _ => none }
def FnStepsShapeWrongFalsely : Prop := fnStepsShapeRow.holds Try.pinned (OpenSpec.ofChange fnStepsShapeWrong)

/-- 'laws.FnMendsLess': WHATEVER THE INPUT: true; the input reads as it did. -/
def fnMendsLessSpec : ChangeSpec := { name := "fnMendsLess", fn := fun _ => fun
  | [d1, d2] => { results := [.lit (.bool true)], args := [d1, d2] }
  | _ => none }
def fnMendsLessRow : OpenClaim := { program := "ytfjbclgbpdlkgaa", sum := "6f97a6daef2120ce6c600bd29ffcf31121fea2862b36288c5acd0e8b650ac274", func := "loop.example/purser/laws.FnMendsLess", spec := "fnMendsLess", unfollowed := true, recurses := true, apart := false }
def FnMendsLessSaid : Prop := fnMendsLessRow.holds Try.pinned (OpenSpec.ofChange fnMendsLessSpec)

/-- ITS FALSE NEIGHBOUR: 'it returns false'. Refute it at one input. -/
def fnMendsLessWrong : ChangeSpec := { name := "fnMendsLess", fn := fun _ => fun
  | [d1, d2] => { results := [.lit (.bool false)], args := [d1, d2] }
  | _ => none }
def FnMendsLessWrongFalsely : Prop := fnMendsLessRow.holds Try.pinned (OpenSpec.ofChange fnMendsLessWrong)

/-- 'laws.FnToSteps': WHATEVER THE INPUT: true; the input reads as it did. -/
def fnToStepsSpec : ChangeSpec := { name := "fnToSteps", fn := fun _ => fun
  | [d] => { results := [.lit (.bool true)], args := [d] }
  | _ => none }
def fnToStepsRow : OpenClaim := { program := "ytfjbclgbpdlkgaa", sum := "6f97a6daef2120ce6c600bd29ffcf31121fea2862b36288c5acd0e8b650ac274", func := "loop.example/purser/laws.FnToSteps", spec := "fnToSteps", unfollowed := true, recurses := true, apart := false }
def FnToStepsSaid : Prop := fnToStepsRow.holds Try.pinned (OpenSpec.ofChange fnToStepsSpec)

/-- ITS FALSE NEIGHBOUR: 'it returns false'. Refute it at one input. -/
def fnToStepsWrong : ChangeSpec := { name := "fnToSteps", fn := fun _ => fun
  | [d] => { results := [.lit (.bool false)], args := [d] }
  | _ => none }
def FnToStepsWrongFalsely : Prop := fnToStepsRow.holds Try.pinned (OpenSpec.ofChange fnToStepsWrong)

/-- 'laws.FnStepsDo': WHATEVER THE INPUT: true; the input reads as it did. -/
def fnStepsDoSpec : ChangeSpec := { name := "fnStepsDo", fn := fun _ => fun
  | [d] => { results := [.lit (.bool true)], args := [d] }
  | _ => none }
def fnStepsDoRow : OpenClaim := { program := "ytfjbclgbpdlkgaa", sum := "6f97a6daef2120ce6c600bd29ffcf31121fea2862b36288c5acd0e8b650ac274", func := "loop.example/purser/laws.FnStepsDo", spec := "fnStepsDo", unfollowed := true, recurses := true, apart := false }
def FnStepsDoSaid : Prop := fnStepsDoRow.holds Try.pinned (OpenSpec.ofChange fnStepsDoSpec)

/-- ITS FALSE NEIGHBOUR: 'it returns false'. Refute it at one input. -/
def fnStepsDoWrong : ChangeSpec := { name := "fnStepsDo", fn := fun _ => fun
  | [d] => { results := [.lit (.bool false)], args := [d] }
  | _ => none }
def FnStepsDoWrongFalsely : Prop := fnStepsDoRow.holds Try.pinned (OpenSpec.ofChange fnStepsDoWrong)

/-- 'laws.FnMendCut': WHATEVER THE INPUT: true; the input reads as it did. -/
def fnMendCutSpec : ChangeSpec := { name := "fnMendCut", fn := fun _ => fun
  | [d1, d2] => { results := [.lit (.bool true)], args := [d1, d2] }
  | _ => none }
def fnMendCutRow : OpenClaim := { program := "ytfjbclgbpdlkgaa", sum := "6f97a6daef2120ce6c600bd29ffcf31121fea2862b36288c5acd0e8b650ac274", func := "loop.example/purser/laws.FnMendCut", spec := "fnMendCut", unfollowed := true, recurses := true, apart := false }
def FnMendCutSaid : Prop := fnMendCutRow.holds Try.pinned (OpenSpec.ofChange fnMendCutSpec)

/-- ITS FALSE NEIGHBOUR: 'it returns false'. Refute it at one input. -/
def fnMendCutWrong : ChangeSpec := { name := "fnMendCut", fn := fun _ => fun
  | [d1, d2] => { results := [.lit (.bool false)], args := [d1, d2] }
  | _ => none }
def FnMendCutWrongFalsely : Prop := fnMendCutRow.holds Try.pinned (OpenSpec.ofChange fnMendCutWrong)

/- THE SECOND FORM. 'bulk': how many values and letters a reading holds, each counted each time it is reached (what is shared counts as often as it is met; a slice's spare places count too). A statement '..UptoSaid' is the law's where the arguments, and the package variables that the reading takes, are together of bulk at most 1048576: NARROWER than '..Said'. Prove '..Said' where nothing that the law and all that it calls make is longer than what came in: it says more and counts as full. Else prove '..UptoSaid'. A law counts once. -/
mutual
def uptoBulk {H : Type} : DataW H → Nat
  | .lit (.string bytes) => bytes.length + 1
  | .lit _ => 1
  | .nil => 1
  | .ptr d => uptoBulk d + 1
  | .slice elems spare => uptoBulkAll elems + uptoBulkAll spare + 1
  | .agg parts => uptoBulkAll parts + 1
  | .iface _ d => uptoBulk d + 1
  | .map entries => uptoBulkEntries entries + 1
  | .held _ => 1
def uptoBulkAll {H : Type} : List (DataW H) → Nat
  | [] => 0
  | d :: r => uptoBulk d + uptoBulkAll r
def uptoBulkEntries {H : Type} : List (Lit × DataW H) → Nat
  | [] => 0
  | x :: r => uptoBulkEntry x + uptoBulkEntries r
def uptoBulkEntry {H : Type} : Lit × DataW H → Nat
  | (.string bytes, d) => bytes.length + uptoBulk d + 1
  | (_, d) => uptoBulk d + 1
 end
def uptoSmall : (H : Type) → List (DataW H) → Bool := fun _ ds => decide (uptoBulkAll ds ≤ 1048576)
def OpenSpec.upto (s : _root_.Go.ChangeSpec) : _root_.Go.OpenSpec := { _root_.Go.OpenSpec.ofChange s with cond := some uptoSmall }

/-- 'laws.FnDiskTrue', WHERE WHAT IT READS IS OF BULK AT MOST 1048576: true; the input reads as it did. -/
def fnDiskTrueUptoRow : OpenClaim := { program := "ytfjbclgbpdlkgaa", sum := "6f97a6daef2120ce6c600bd29ffcf31121fea2862b36288c5acd0e8b650ac274", func := "loop.example/purser/laws.FnDiskTrue", spec := "fnDiskTrue", unfollowed := true, recurses := true, apart := false, narrowed := true }
def FnDiskTrueUptoSaid : Prop := fnDiskTrueUptoRow.holds Try.pinned (OpenSpec.upto fnDiskTrueSpec)

/-- 'laws.FnDiskDo', WHERE WHAT IT READS IS OF BULK AT MOST 1048576: true; the input reads as it did. -/
def fnDiskDoUptoRow : OpenClaim := { program := "ytfjbclgbpdlkgaa", sum := "6f97a6daef2120ce6c600bd29ffcf31121fea2862b36288c5acd0e8b650ac274", func := "loop.example/purser/laws.FnDiskDo", spec := "fnDiskDo", unfollowed := true, recurses := true, apart := false, narrowed := true }
def FnDiskDoUptoSaid : Prop := fnDiskDoUptoRow.holds Try.pinned (OpenSpec.upto fnDiskDoSpec)

/-- 'laws.FnDiskOrder', WHERE WHAT IT READS IS OF BULK AT MOST 1048576: true; the input reads as it did. -/
def fnDiskOrderUptoRow : OpenClaim := { program := "ytfjbclgbpdlkgaa", sum := "6f97a6daef2120ce6c600bd29ffcf31121fea2862b36288c5acd0e8b650ac274", func := "loop.example/purser/laws.FnDiskOrder", spec := "fnDiskOrder", unfollowed := true, recurses := true, apart := false, narrowed := true }
def FnDiskOrderUptoSaid : Prop := fnDiskOrderUptoRow.holds Try.pinned (OpenSpec.upto fnDiskOrderSpec)

/-- 'laws.FnDiskBad', WHERE WHAT IT READS IS OF BULK AT MOST 1048576: true; the input reads as it did. -/
def fnDiskBadUptoRow : OpenClaim := { program := "ytfjbclgbpdlkgaa", sum := "6f97a6daef2120ce6c600bd29ffcf31121fea2862b36288c5acd0e8b650ac274", func := "loop.example/purser/laws.FnDiskBad", spec := "fnDiskBad", unfollowed := true, recurses := true, apart := false, narrowed := true }
def FnDiskBadUptoSaid : Prop := fnDiskBadUptoRow.holds Try.pinned (OpenSpec.upto fnDiskBadSpec)

/-- 'laws.FnDiskTear', WHERE WHAT IT READS IS OF BULK AT MOST 1048576: true; the input reads as it did. -/
def fnDiskTearUptoRow : OpenClaim := { program := "ytfjbclgbpdlkgaa", sum := "6f97a6daef2120ce6c600bd29ffcf31121fea2862b36288c5acd0e8b650ac274", func := "loop.example/purser/laws.FnDiskTear", spec := "fnDiskTear", unfollowed := true, recurses := true, apart := false, narrowed := true }
def FnDiskTearUptoSaid : Prop := fnDiskTearUptoRow.holds Try.pinned (OpenSpec.upto fnDiskTearSpec)

/-- 'laws.FnMendsShape', WHERE WHAT IT READS IS OF BULK AT MOST 1048576: true; the input reads as it did. -/
def fnMendsShapeUptoRow : OpenClaim := { program := "ytfjbclgbpdlkgaa", sum := "6f97a6daef2120ce6c600bd29ffcf31121fea2862b36288c5acd0e8b650ac274", func := "loop.example/purser/laws.FnMendsShape", spec := "fnMendsShape", unfollowed := true, recurses := true, apart := false, narrowed := true }
def FnMendsShapeUptoSaid : Prop := fnMendsShapeUptoRow.holds Try.pinned (OpenSpec.upto fnMendsShapeSpec)

/-- 'laws.FnToNone', WHERE WHAT IT READS IS OF BULK AT MOST 1048576: true; the input reads as it did. -/
def fnToNoneUptoRow : OpenClaim := { program := "ytfjbclgbpdlkgaa", sum := "6f97a6daef2120ce6c600bd29ffcf31121fea2862b36288c5acd0e8b650ac274", func := "loop.example/purser/laws.FnToNone", spec := "fnToNone", unfollowed := true, recurses := true, apart := false, narrowed := true }
def FnToNoneUptoSaid : Prop := fnToNoneUptoRow.holds Try.pinned (OpenSpec.upto fnToNoneSpec)

/-- 'laws.FnStepsShape', WHERE WHAT IT READS IS OF BULK AT MOST 1048576: true; the input reads as it did. -/
def fnStepsShapeUptoRow : OpenClaim := { program := "ytfjbclgbpdlkgaa", sum := "6f97a6daef2120ce6c600bd29ffcf31121fea2862b36288c5acd0e8b650ac274", func := "loop.example/purser/laws.FnStepsShape", spec := "fnStepsShape", unfollowed := true, recurses := true, apart := false, narrowed := true }
def FnStepsShapeUptoSaid : Prop := fnStepsShapeUptoRow.holds Try.pinned (OpenSpec.upto fnStepsShapeSpec)

/-- 'laws.FnMendsLess', WHERE WHAT IT READS IS OF BULK AT MOST 1048576: true; the input reads as it did. -/
def fnMendsLessUptoRow : OpenClaim := { program := "ytfjbclgbpdlkgaa", sum := "6f97a6daef2120ce6c600bd29ffcf31121fea2862b36288c5acd0e8b650ac274", func := "loop.example/purser/laws.FnMendsLess", spec := "fnMendsLess", unfollowed := true, recurses := true, apart := false, narrowed := true }
def FnMendsLessUptoSaid : Prop := fnMendsLessUptoRow.holds Try.pinned (OpenSpec.upto fnMendsLessSpec)

/-- 'laws.FnToSteps', WHERE WHAT IT READS IS OF BULK AT MOST 1048576: true; the input reads as it did. -/
def fnToStepsUptoRow : OpenClaim := { program := "ytfjbclgbpdlkgaa", sum := "6f97a6daef2120ce6c600bd29ffcf31121fea2862b36288c5acd0e8b650ac274", func := "loop.example/purser/laws.FnToSteps", spec := "fnToSteps", unfollowed := true, recurses := true, apart := false, narrowed := true }
def FnToStepsUptoSaid : Prop := fnToStepsUptoRow.holds Try.pinned (OpenSpec.upto fnToStepsSpec)

/-- 'laws.FnStepsDo', WHERE WHAT IT READS IS OF BULK AT MOST 1048576: true; the input reads as it did. -/
def fnStepsDoUptoRow : OpenClaim := { program := "ytfjbclgbpdlkgaa", sum := "6f97a6daef2120ce6c600bd29ffcf31121fea2862b36288c5acd0e8b650ac274", func := "loop.example/purser/laws.FnStepsDo", spec := "fnStepsDo", unfollowed := true, recurses := true, apart := false, narrowed := true }
def FnStepsDoUptoSaid : Prop := fnStepsDoUptoRow.holds Try.pinned (OpenSpec.upto fnStepsDoSpec)

/-- 'laws.FnMendCut', WHERE WHAT IT READS IS OF BULK AT MOST 1048576: true; the input reads as it did. -/
def fnMendCutUptoRow : OpenClaim := { program := "ytfjbclgbpdlkgaa", sum := "6f97a6daef2120ce6c600bd29ffcf31121fea2862b36288c5acd0e8b650ac274", func := "loop.example/purser/laws.FnMendCut", spec := "fnMendCut", unfollowed := true, recurses := true, apart := false, narrowed := true }
def FnMendCutUptoSaid : Prop := fnMendCutUptoRow.holds Try.pinned (OpenSpec.upto fnMendCutSpec)

end Rows
end Go.Proofs.Ytfjbclgbpdlkgaa
