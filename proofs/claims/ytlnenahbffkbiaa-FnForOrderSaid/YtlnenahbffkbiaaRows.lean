/-
  No cell of these rows narrows 'for every input' (looked for: loops, veiled, ifaces, maps, wideKeys, modest, calm, conditions, laid).
  DERIVED. THE GIVEN ROWS OF THIS SEAT. 6 by the template 'for every input the law returns true; each argument reads behind the call as it read before'; 0 by the template 'total and deterministic' (their statements: YtlnenahbffkbiaaTotals.lean).
  GIVEN WITH THE SEED: the statements are not yours to turn. If you find one false, say at which input.
  Laid BY PROGRAM, IN A SANDBOX (cutbox-rows.mjs): the forced cells as the released guide's own fill.sh prints them over the translation caaf7dd73b46d391… (all of the seat's roots in one cut). By AI agents, Wed Nov 11 2026. No macro, syntax, notation, axiom, sorry.
-/
import Derived.Test.YtlnenahbffkbiaaChecked
import GoSem.Claim
import GoSem.ClaimJoined
import GoSem.ClaimMapViews
import Derived.JoinedTies
import Derived.KernelRfl
namespace Go.Proofs.Ytlnenahbffkbiaa
/- THE CELL 'sum', in the pinned program and in every row, IS THE sha256 OF THE DUMP (.gsa) THAT YtlnenahbffkbiaaProg.lean LOADS. Nothing in Lean hashes anything: it is a label: what it is worth is what the hold of that sum in a sandbox is worth. -/
noncomputable def Try.pinned : Pinned := { name := "ytlnenahbffkbiaa", sum := "caaf7dd73b46d391bfe62c642a153862c26741f1faddd60419194c9060f75204", checked := Try.checked }
namespace Rows
def none {H : Type} : Left H := { results := [], args := [] }

/-- 'laws.FnForOrder': WHATEVER THE INPUT: true; the input reads as it did. -/
def fnForOrderSpec : ChangeSpec := { name := "fnForOrder", fn := fun _ => fun
  | [d1, d2] => { results := [.lit (.bool true)], args := [d1, d2] }
  | _ => none }
def fnForOrderRow : OpenClaim := { program := "ytlnenahbffkbiaa", sum := "caaf7dd73b46d391bfe62c642a153862c26741f1faddd60419194c9060f75204", func := "loop.example/purser/laws.FnForOrder", spec := "fnForOrder", inPlace := ["slices.overlaps[loop.example/purser/impl.Pkg]"], unfollowed := true, recurses := true, apart := false }
def FnForOrderSaid : Prop := fnForOrderRow.holds Try.pinned (OpenSpec.ofChange fnForOrderSpec)

/-- ITS FALSE NEIGHBOUR: 'it returns false'. Refute it at one input. -/
def fnForOrderWrong : ChangeSpec := { name := "fnForOrder", fn := fun _ => fun
  | [d1, d2] => { results := [.lit (.bool false)], args := [d1, d2] }
  | _ => none }
def FnForOrderWrongFalsely : Prop := fnForOrderRow.holds Try.pinned (OpenSpec.ofChange fnForOrderWrong)

/-- 'laws.FnForTwice': WHATEVER THE INPUT: true; the input reads as it did. -/
def fnForTwiceSpec : ChangeSpec := { name := "fnForTwice", fn := fun _ => fun
  | [d1, d2] => { results := [.lit (.bool true)], args := [d1, d2] }
  | _ => none }
def fnForTwiceRow : OpenClaim := { program := "ytlnenahbffkbiaa", sum := "caaf7dd73b46d391bfe62c642a153862c26741f1faddd60419194c9060f75204", func := "loop.example/purser/laws.FnForTwice", spec := "fnForTwice", inPlace := ["slices.overlaps[loop.example/purser/impl.Pkg]"], unfollowed := true, recurses := true, apart := false }
def FnForTwiceSaid : Prop := fnForTwiceRow.holds Try.pinned (OpenSpec.ofChange fnForTwiceSpec)

/-- ITS FALSE NEIGHBOUR: 'it returns false'. Refute it at one input. -/
def fnForTwiceWrong : ChangeSpec := { name := "fnForTwice", fn := fun _ => fun
  | [d1, d2] => { results := [.lit (.bool false)], args := [d1, d2] }
  | _ => none }
def FnForTwiceWrongFalsely : Prop := fnForTwiceRow.holds Try.pinned (OpenSpec.ofChange fnForTwiceWrong)

/-- 'laws.FnForHas': WHATEVER THE INPUT: true; the input reads as it did. -/
def fnForHasSpec : ChangeSpec := { name := "fnForHas", fn := fun _ => fun
  | [d] => { results := [.lit (.bool true)], args := [d] }
  | _ => none }
def fnForHasRow : OpenClaim := { program := "ytlnenahbffkbiaa", sum := "caaf7dd73b46d391bfe62c642a153862c26741f1faddd60419194c9060f75204", func := "loop.example/purser/laws.FnForHas", spec := "fnForHas", inPlace := ["slices.overlaps[loop.example/purser/impl.Pkg]"], unfollowed := true, recurses := true, apart := false }
def FnForHasSaid : Prop := fnForHasRow.holds Try.pinned (OpenSpec.ofChange fnForHasSpec)

/-- ITS FALSE NEIGHBOUR: 'it returns false'. Refute it at one input. -/
def fnForHasWrong : ChangeSpec := { name := "fnForHas", fn := fun _ => fun
  | [d] => { results := [.lit (.bool false)], args := [d] }
  | _ => none }
def FnForHasWrongFalsely : Prop := fnForHasRow.holds Try.pinned (OpenSpec.ofChange fnForHasWrong)

/-- 'laws.FnForNeeded': WHATEVER THE INPUT: true; the input reads as it did. -/
def fnForNeededSpec : ChangeSpec := { name := "fnForNeeded", fn := fun _ => fun
  | [d] => { results := [.lit (.bool true)], args := [d] }
  | _ => none }
def fnForNeededRow : OpenClaim := { program := "ytlnenahbffkbiaa", sum := "caaf7dd73b46d391bfe62c642a153862c26741f1faddd60419194c9060f75204", func := "loop.example/purser/laws.FnForNeeded", spec := "fnForNeeded", inPlace := ["slices.overlaps[loop.example/purser/impl.Pkg]"], unfollowed := true, recurses := true, apart := false }
def FnForNeededSaid : Prop := fnForNeededRow.holds Try.pinned (OpenSpec.ofChange fnForNeededSpec)

/-- ITS FALSE NEIGHBOUR: 'it returns false'. Refute it at one input. -/
def fnForNeededWrong : ChangeSpec := { name := "fnForNeeded", fn := fun _ => fun
  | [d] => { results := [.lit (.bool false)], args := [d] }
  | _ => none }
def FnForNeededWrongFalsely : Prop := fnForNeededRow.holds Try.pinned (OpenSpec.ofChange fnForNeededWrong)

/-- 'laws.FnForNot': WHATEVER THE INPUT: true; the input reads as it did. -/
def fnForNotSpec : ChangeSpec := { name := "fnForNot", fn := fun _ => fun
  | [d1, d2] => { results := [.lit (.bool true)], args := [d1, d2] }
  | _ => none }
def fnForNotRow : OpenClaim := { program := "ytlnenahbffkbiaa", sum := "caaf7dd73b46d391bfe62c642a153862c26741f1faddd60419194c9060f75204", func := "loop.example/purser/laws.FnForNot", spec := "fnForNot", inPlace := ["slices.overlaps[loop.example/purser/impl.Pkg]"], unfollowed := true, recurses := true, apart := false }
def FnForNotSaid : Prop := fnForNotRow.holds Try.pinned (OpenSpec.ofChange fnForNotSpec)

/-- ITS FALSE NEIGHBOUR: 'it returns false'. Refute it at one input. -/
def fnForNotWrong : ChangeSpec := { name := "fnForNot", fn := fun _ => fun
  | [d1, d2] => { results := [.lit (.bool false)], args := [d1, d2] }
  | _ => none }
def FnForNotWrongFalsely : Prop := fnForNotRow.holds Try.pinned (OpenSpec.ofChange fnForNotWrong)

/-- 'laws.FnForNewest': WHATEVER THE INPUT: true; the input reads as it did. -/
def fnForNewestSpec : ChangeSpec := { name := "fnForNewest", fn := fun _ => fun
  | [d] => { results := [.lit (.bool true)], args := [d] }
  | _ => none }
def fnForNewestRow : OpenClaim := { program := "ytlnenahbffkbiaa", sum := "caaf7dd73b46d391bfe62c642a153862c26741f1faddd60419194c9060f75204", func := "loop.example/purser/laws.FnForNewest", spec := "fnForNewest", inPlace := ["slices.overlaps[loop.example/purser/impl.Pkg]"], unfollowed := true, recurses := true, apart := false }
def FnForNewestSaid : Prop := fnForNewestRow.holds Try.pinned (OpenSpec.ofChange fnForNewestSpec)

/-- ITS FALSE NEIGHBOUR: 'it returns false'. Refute it at one input. -/
def fnForNewestWrong : ChangeSpec := { name := "fnForNewest", fn := fun _ => fun
  | [d] => { results := [.lit (.bool false)], args := [d] }
  | _ => none }
def FnForNewestWrongFalsely : Prop := fnForNewestRow.holds Try.pinned (OpenSpec.ofChange fnForNewestWrong)

/- THE SECOND FORM. 'bulk': how many values and letters a reading holds, each counted each time it is reached (what is shared counts as often as it is met; a slice's spare places count too). A statement '..UptoSaid' is the law's where the arguments, and the package variables that the reading takes, are together of bulk at most 1048576: NARROWER than '..Said'. Prove '..Said' where nothing that the law and all that it calls make is longer than what came in: it says more and counts as full. Else prove '..UptoSaid'. A law counts once. -/
mutual
def uptoBulk {H : Type} : DataW H → Nat
  | .lit (.string bytes) => bytes.length + 1
  | .lit _ => 1
  | .nil => 1
  | .ptr d => uptoBulk d + 1
  | .slice elems spare => uptoBulkAll elems + uptoBulkAll spare + 1
  | .agg parts => uptoBulkAll parts + 1
  | .iface _ d => uptoBulk d + 1
  | .map entries => uptoBulkEntries entries + 1
  | .held _ => 1
def uptoBulkAll {H : Type} : List (DataW H) → Nat
  | [] => 0
  | d :: r => uptoBulk d + uptoBulkAll r
def uptoBulkEntries {H : Type} : List (Lit × DataW H) → Nat
  | [] => 0
  | x :: r => uptoBulkEntry x + uptoBulkEntries r
def uptoBulkEntry {H : Type} : Lit × DataW H → Nat
  | (.string bytes, d) => bytes.length + uptoBulk d + 1
  | (_, d) => uptoBulk d + 1
 end
def uptoSmall : (H : Type) → List (DataW H) → Bool := fun _ ds => decide (uptoBulkAll ds ≤ 1048576)
def OpenSpec.upto (s : _root_.Go.ChangeSpec) : _root_.Go.OpenSpec := { _root_.Go.OpenSpec.ofChange s with cond := some uptoSmall }

/-- 'laws.FnForOrder', WHERE WHAT IT READS IS OF BULK AT MOST 1048576: true; the input reads as it did. -/
def fnForOrderUptoRow : OpenClaim := { program := "ytlnenahbffkbiaa", sum := "caaf7dd73b46d391bfe62c642a153862c26741f1faddd60419194c9060f75204", func := "loop.example/purser/laws.FnForOrder", spec := "fnForOrder", inPlace := ["slices.overlaps[loop.example/purser/impl.Pkg]"], unfollowed := true, recurses := true, apart := false, narrowed := true }
def FnForOrderUptoSaid : Prop := fnForOrderUptoRow.holds Try.pinned (OpenSpec.upto fnForOrderSpec)

/-- 'laws.FnForTwice', WHERE WHAT IT READS IS OF BULK AT MOST 1048576: true; the input reads as it did. -/
def fnForTwiceUptoRow : OpenClaim := { program := "ytlnenahbffkbiaa", sum := "caaf7dd73b46d391bfe62c642a153862c26741f1faddd60419194c9060f75204", func := "loop.example/purser/laws.FnForTwice", spec := "fnForTwice", inPlace := ["slices.overlaps[loop.example/purser/impl.Pkg]"], unfollowed := true, recurses := true, apart := false, narrowed := true }
def FnForTwiceUptoSaid : Prop := fnForTwiceUptoRow.holds Try.pinned (OpenSpec.upto fnForTwiceSpec)

/-- 'laws.FnForHas', WHERE WHAT IT READS IS OF BULK AT MOST 1048576: true; the input reads as it did. -/
def fnForHasUptoRow : OpenClaim := { program := "ytlnenahbffkbiaa", sum := "caaf7dd73b46d391bfe62c642a153862c26741f1faddd60419194c9060f75204", func := "loop.example/purser/laws.FnForHas", spec := "fnForHas", inPlace := ["slices.overlaps[loop.example/purser/impl.Pkg]"], unfollowed := true, recurses := true, apart := false, narrowed := true }
def FnForHasUptoSaid : Prop := fnForHasUptoRow.holds Try.pinned (OpenSpec.upto fnForHasSpec)

/-- 'laws.FnForNeeded', WHERE WHAT IT READS IS OF BULK AT MOST 1048576: true; the input reads as it did. -/
def fnForNeededUptoRow : OpenClaim := { program := "ytlnenahbffkbiaa", sum := "caaf7dd73b46d391bfe62c642a153862c26741f1faddd60419194c9060f75204", func := "loop.example/purser/laws.FnForNeeded", spec := "fnForNeeded", inPlace := ["slices.overlaps[loop.example/purser/impl.Pkg]"], unfollowed := true, recurses := true, apart := false, narrowed := true }
def FnForNeededUptoSaid : Prop := fnForNeededUptoRow.holds Try.pinned (OpenSpec.upto fnForNeededSpec)

/-- 'laws.FnForNot', WHERE WHAT IT READS IS OF BULK AT MOST 1048576: true; the input reads as it did. -/
def fnForNotUptoRow : OpenClaim := { program := "ytlnenahbffkbiaa", sum := "caaf7dd73b46d391bfe62c642a153862c26741f1faddd60419194c9060f75204", func := "loop.example/purser/laws.FnForNot", spec := "fnForNot", inPlace := ["slices.overlaps[loop.example/purser/impl.Pkg]"], unfollowed := true, recurses := true, apart := false, narrowed := true }
def FnForNotUptoSaid : Prop := fnForNotUptoRow.holds Try.pinned (OpenSpec.upto fnForNotSpec)

/-- 'laws.FnForNewest', WHERE WHAT IT READS IS OF BULK AT MOST 1048576: true; the input reads as it did. -/
def fnForNewestUptoRow : OpenClaim := { program := "ytlnenahbffkbiaa", sum := "caaf7dd73b46d391bfe62c642a153862c26741f1faddd60419194c9060f75204", func := "loop.example/purser/laws.FnForNewest", spec := "fnForNewest", inPlace := ["slices.overlaps[loop.example/purser/impl.Pkg]"], unfollowed := true, recurses := true, apart := false, narrowed := true }
def FnForNewestUptoSaid : Prop := fnForNewestUptoRow.holds Try.pinned (OpenSpec.upto fnForNewestSpec)

end Rows
end Go.Proofs.Ytlnenahbffkbiaa
