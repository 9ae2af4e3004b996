/-
  No cell of these rows narrows 'for every input' (looked for: loops, veiled, ifaces, maps, wideKeys, modest, calm, conditions, laid).
  DERIVED. THE GIVEN ROWS OF THIS SEAT. 10 by the template 'for every input the law returns true; each argument reads behind the call as it read before'; 0 by the template 'total and deterministic' (their statements: YtjfegdlgepbjoaaTotals.lean).
  GIVEN WITH THE SEED: the statements are not yours to turn. If you find one false, say at which input.
  Laid BY PROGRAM, IN A SANDBOX (cutbox-rows.mjs): the forced cells as the released guide's own fill.sh prints them over the translation a8b6cbc04c6b47a9… (all of the seat's roots in one cut). By AI agents, Wed Nov 11 2026. No macro, syntax, notation, axiom, sorry.
-/
import Derived.Test.YtjfegdlgepbjoaaChecked
import GoSem.Claim
import GoSem.ClaimJoined
import GoSem.ClaimMapViews
import Derived.JoinedTies
import Derived.KernelRfl
namespace Go.Proofs.Ytjfegdlgepbjoaa
/- THE CELL 'sum', in the pinned program and in every row, IS THE sha256 OF THE DUMP (.gsa) THAT YtjfegdlgepbjoaaProg.lean LOADS. Nothing in Lean hashes anything: it is a label: what it is worth is what the hold of that sum in a sandbox is worth. -/
noncomputable def Try.pinned : Pinned := { name := "ytjfegdlgepbjoaa", sum := "a8b6cbc04c6b47a94ba1473944a01885708c3bdffe0e927774a108a7d4da32b9", checked := Try.checked }
namespace Rows
def none {H : Type} : Left H := { results := [], args := [] }

/-- 'laws.FnTrustNew': WHATEVER THE INPUT: true; the input reads as it did. -/
def fnTrustNewSpec : ChangeSpec := { name := "fnTrustNew", fn := fun _ => fun
  | [d] => { results := [.lit (.bool true)], args := [d] }
  | _ => none }
def fnTrustNewRow : OpenClaim := { program := "ytjfegdlgepbjoaa", sum := "a8b6cbc04c6b47a94ba1473944a01885708c3bdffe0e927774a108a7d4da32b9", func := "loop.example/purser/laws.FnTrustNew", spec := "fnTrustNew", apart := false }
def FnTrustNewSaid : Prop := fnTrustNewRow.holds Try.pinned (OpenSpec.ofChange fnTrustNewSpec)

/-- ITS FALSE NEIGHBOUR: 'it returns false'. Refute it at one input. -/
def fnTrustNewWrong : ChangeSpec := { name := "fnTrustNew", fn := fun _ => fun
  | [d] => { results := [.lit (.bool false)], args := [d] }
  | _ => none }
def FnTrustNewWrongFalsely : Prop := fnTrustNewRow.holds Try.pinned (OpenSpec.ofChange fnTrustNewWrong)

/-- 'laws.FnExactTrustNew': WHATEVER THE INPUT: true; the input reads as it did. -/
def fnExactTrustNewSpec : ChangeSpec := { name := "fnExactTrustNew", fn := fun _ => fun
  | [d] => { results := [.lit (.bool true)], args := [d] }
  | _ => none }
def fnExactTrustNewRow : OpenClaim := { program := "ytjfegdlgepbjoaa", sum := "a8b6cbc04c6b47a94ba1473944a01885708c3bdffe0e927774a108a7d4da32b9", func := "loop.example/purser/laws.FnExactTrustNew", spec := "fnExactTrustNew", apart := false }
def FnExactTrustNewSaid : Prop := fnExactTrustNewRow.holds Try.pinned (OpenSpec.ofChange fnExactTrustNewSpec)

/-- ITS FALSE NEIGHBOUR: 'it returns false'. Refute it at one input. -/
def fnExactTrustNewWrong : ChangeSpec := { name := "fnExactTrustNew", fn := fun _ => fun
  | [d] => { results := [.lit (.bool false)], args := [d] }
  | _ => none }
def FnExactTrustNewWrongFalsely : Prop := fnExactTrustNewRow.holds Try.pinned (OpenSpec.ofChange fnExactTrustNewWrong)

/-- 'laws.FnTrustLate': WHATEVER THE INPUT: true; the input reads as it did. -/
def fnTrustLateSpec : ChangeSpec := { name := "fnTrustLate", fn := fun _ => fun
  | [d] => { results := [.lit (.bool true)], args := [d] }
  | _ => none }
def fnTrustLateRow : OpenClaim := { program := "ytjfegdlgepbjoaa", sum := "a8b6cbc04c6b47a94ba1473944a01885708c3bdffe0e927774a108a7d4da32b9", func := "loop.example/purser/laws.FnTrustLate", spec := "fnTrustLate", recurses := true, apart := false }
def FnTrustLateSaid : Prop := fnTrustLateRow.holds Try.pinned (OpenSpec.ofChange fnTrustLateSpec)

/-- ITS FALSE NEIGHBOUR: 'it returns false'. Refute it at one input. -/
def fnTrustLateWrong : ChangeSpec := { name := "fnTrustLate", fn := fun _ => fun
  | [d] => { results := [.lit (.bool false)], args := [d] }
  | _ => none }
def FnTrustLateWrongFalsely : Prop := fnTrustLateRow.holds Try.pinned (OpenSpec.ofChange fnTrustLateWrong)

/-- 'laws.FnTrustIndex': WHATEVER THE INPUT: true; the input reads as it did. -/
def fnTrustIndexSpec : ChangeSpec := { name := "fnTrustIndex", fn := fun _ => fun
  | [d] => { results := [.lit (.bool true)], args := [d] }
  | _ => none }
def fnTrustIndexRow : OpenClaim := { program := "ytjfegdlgepbjoaa", sum := "a8b6cbc04c6b47a94ba1473944a01885708c3bdffe0e927774a108a7d4da32b9", func := "loop.example/purser/laws.FnTrustIndex", spec := "fnTrustIndex", recurses := true, apart := false }
def FnTrustIndexSaid : Prop := fnTrustIndexRow.holds Try.pinned (OpenSpec.ofChange fnTrustIndexSpec)

/-- ITS FALSE NEIGHBOUR: 'it returns false'. Refute it at one input. -/
def fnTrustIndexWrong : ChangeSpec := { name := "fnTrustIndex", fn := fun _ => fun
  | [d] => { results := [.lit (.bool false)], args := [d] }
  | _ => none }
def FnTrustIndexWrongFalsely : Prop := fnTrustIndexRow.holds Try.pinned (OpenSpec.ofChange fnTrustIndexWrong)

/-- 'laws.FnTrustApart': WHATEVER THE INPUT: true; the input reads as it did. -/
def fnTrustApartSpec : ChangeSpec := { name := "fnTrustApart", fn := fun _ => fun
  | [d1, d2] => { results := [.lit (.bool true)], args := [d1, d2] }
  | _ => none }
def fnTrustApartRow : OpenClaim := { program := "ytjfegdlgepbjoaa", sum := "a8b6cbc04c6b47a94ba1473944a01885708c3bdffe0e927774a108a7d4da32b9", func := "loop.example/purser/laws.FnTrustApart", spec := "fnTrustApart", recurses := true, apart := false }
def FnTrustApartSaid : Prop := fnTrustApartRow.holds Try.pinned (OpenSpec.ofChange fnTrustApartSpec)

/-- ITS FALSE NEIGHBOUR: 'it returns false'. Refute it at one input. -/
def fnTrustApartWrong : ChangeSpec := { name := "fnTrustApart", fn := fun _ => fun
  | [d1, d2] => { results := [.lit (.bool false)], args := [d1, d2] }
  | _ => none }
def FnTrustApartWrongFalsely : Prop := fnTrustApartRow.holds Try.pinned (OpenSpec.ofChange fnTrustApartWrong)

/-- 'laws.FnTrustBad': WHATEVER THE INPUT: true; the input reads as it did. -/
def fnTrustBadSpec : ChangeSpec := { name := "fnTrustBad", fn := fun _ => fun
  | [d1, d2] => { results := [.lit (.bool true)], args := [d1, d2] }
  | _ => none }
def fnTrustBadRow : OpenClaim := { program := "ytjfegdlgepbjoaa", sum := "a8b6cbc04c6b47a94ba1473944a01885708c3bdffe0e927774a108a7d4da32b9", func := "loop.example/purser/laws.FnTrustBad", spec := "fnTrustBad", recurses := true, apart := false }
def FnTrustBadSaid : Prop := fnTrustBadRow.holds Try.pinned (OpenSpec.ofChange fnTrustBadSpec)

/-- ITS FALSE NEIGHBOUR: 'it returns false'. Refute it at one input. -/
def fnTrustBadWrong : ChangeSpec := { name := "fnTrustBad", fn := fun _ => fun
  | [d1, d2] => { results := [.lit (.bool false)], args := [d1, d2] }
  | _ => none }
def FnTrustBadWrongFalsely : Prop := fnTrustBadRow.holds Try.pinned (OpenSpec.ofChange fnTrustBadWrong)

/-- 'laws.FnTrustRoot': WHATEVER THE INPUT: true; the input reads as it did. -/
def fnTrustRootSpec : ChangeSpec := { name := "fnTrustRoot", fn := fun _ => fun
  | [d] => { results := [.lit (.bool true)], args := [d] }
  | _ => none }
def fnTrustRootRow : OpenClaim := { program := "ytjfegdlgepbjoaa", sum := "a8b6cbc04c6b47a94ba1473944a01885708c3bdffe0e927774a108a7d4da32b9", func := "loop.example/purser/laws.FnTrustRoot", spec := "fnTrustRoot", recurses := true, apart := false }
def FnTrustRootSaid : Prop := fnTrustRootRow.holds Try.pinned (OpenSpec.ofChange fnTrustRootSpec)

/-- ITS FALSE NEIGHBOUR: 'it returns false'. Refute it at one input. -/
def fnTrustRootWrong : ChangeSpec := { name := "fnTrustRoot", fn := fun _ => fun
  | [d] => { results := [.lit (.bool false)], args := [d] }
  | _ => none }
def FnTrustRootWrongFalsely : Prop := fnTrustRootRow.holds Try.pinned (OpenSpec.ofChange fnTrustRootWrong)

/-- 'laws.FnTrustChain': WHATEVER THE INPUT: true; the input reads as it did. -/
def fnTrustChainSpec : ChangeSpec := { name := "fnTrustChain", fn := fun _ => fun
  | [d1, d2] => { results := [.lit (.bool true)], args := [d1, d2] }
  | _ => none }
def fnTrustChainRow : OpenClaim := { program := "ytjfegdlgepbjoaa", sum := "a8b6cbc04c6b47a94ba1473944a01885708c3bdffe0e927774a108a7d4da32b9", func := "loop.example/purser/laws.FnTrustChain", spec := "fnTrustChain", recurses := true, apart := false }
def FnTrustChainSaid : Prop := fnTrustChainRow.holds Try.pinned (OpenSpec.ofChange fnTrustChainSpec)

/-- ITS FALSE NEIGHBOUR: 'it returns false'. Refute it at one input. -/
def fnTrustChainWrong : ChangeSpec := { name := "fnTrustChain", fn := fun _ => fun
  | [d1, d2] => { results := [.lit (.bool false)], args := [d1, d2] }
  | _ => none }
def FnTrustChainWrongFalsely : Prop := fnTrustChainRow.holds Try.pinned (OpenSpec.ofChange fnTrustChainWrong)

/-- 'laws.FnExactTrustIndex': WHATEVER THE INPUT: true; the input reads as it did. -/
def fnExactTrustIndexSpec : ChangeSpec := { name := "fnExactTrustIndex", fn := fun _ => fun
  | [d1, d2, d3] => { results := [.lit (.bool true)], args := [d1, d2, d3] }
  | _ => none }
def fnExactTrustIndexRow : OpenClaim := { program := "ytjfegdlgepbjoaa", sum := "a8b6cbc04c6b47a94ba1473944a01885708c3bdffe0e927774a108a7d4da32b9", func := "loop.example/purser/laws.FnExactTrustIndex", spec := "fnExactTrustIndex", apart := false }
def FnExactTrustIndexSaid : Prop := fnExactTrustIndexRow.holds Try.pinned (OpenSpec.ofChange fnExactTrustIndexSpec)

/-- ITS FALSE NEIGHBOUR: 'it returns false'. Refute it at one input. -/
def fnExactTrustIndexWrong : ChangeSpec := { name := "fnExactTrustIndex", fn := fun _ => fun
  | [d1, d2, d3] => { results := [.lit (.bool false)], args := [d1, d2, d3] }
  | _ => none }
def FnExactTrustIndexWrongFalsely : Prop := fnExactTrustIndexRow.holds Try.pinned (OpenSpec.ofChange fnExactTrustIndexWrong)

/-- 'laws.FnExactTrustRoot': WHATEVER THE INPUT: true; the input reads as it did. -/
def fnExactTrustRootSpec : ChangeSpec := { name := "fnExactTrustRoot", fn := fun _ => fun
  | [d1, d2] => { results := [.lit (.bool true)], args := [d1, d2] }
  | _ => none }
def fnExactTrustRootRow : OpenClaim := { program := "ytjfegdlgepbjoaa", sum := "a8b6cbc04c6b47a94ba1473944a01885708c3bdffe0e927774a108a7d4da32b9", func := "loop.example/purser/laws.FnExactTrustRoot", spec := "fnExactTrustRoot", apart := false }
def FnExactTrustRootSaid : Prop := fnExactTrustRootRow.holds Try.pinned (OpenSpec.ofChange fnExactTrustRootSpec)

/-- ITS FALSE NEIGHBOUR: 'it returns false'. Refute it at one input. -/
def fnExactTrustRootWrong : ChangeSpec := { name := "fnExactTrustRoot", fn := fun _ => fun
  | [d1, d2] => { results := [.lit (.bool false)], args := [d1, d2] }
  | _ => none }
def FnExactTrustRootWrongFalsely : Prop := fnExactTrustRootRow.holds Try.pinned (OpenSpec.ofChange fnExactTrustRootWrong)

/- THE SECOND FORM. 'bulk': how many values and letters a reading holds, each counted each time it is reached (what is shared counts as often as it is met; a slice's spare places count too). A statement '..UptoSaid' is the law's where the arguments, and the package variables that the reading takes, are together of bulk at most 1048576: NARROWER than '..Said'. Prove '..Said' where nothing that the law and all that it calls make is longer than what came in: it says more and counts as full. Else prove '..UptoSaid'. A law counts once. -/
mutual
def uptoBulk {H : Type} : DataW H → Nat
  | .lit (.string bytes) => bytes.length + 1
  | .lit _ => 1
  | .nil => 1
  | .ptr d => uptoBulk d + 1
  | .slice elems spare => uptoBulkAll elems + uptoBulkAll spare + 1
  | .agg parts => uptoBulkAll parts + 1
  | .iface _ d => uptoBulk d + 1
  | .map entries => uptoBulkEntries entries + 1
  | .held _ => 1
def uptoBulkAll {H : Type} : List (DataW H) → Nat
  | [] => 0
  | d :: r => uptoBulk d + uptoBulkAll r
def uptoBulkEntries {H : Type} : List (Lit × DataW H) → Nat
  | [] => 0
  | x :: r => uptoBulkEntry x + uptoBulkEntries r
def uptoBulkEntry {H : Type} : Lit × DataW H → Nat
  | (.string bytes, d) => bytes.length + uptoBulk d + 1
  | (_, d) => uptoBulk d + 1
 end
def uptoSmall : (H : Type) → List (DataW H) → Bool := fun _ ds => decide (uptoBulkAll ds ≤ 1048576)
def OpenSpec.upto (s : _root_.Go.ChangeSpec) : _root_.Go.OpenSpec := { _root_.Go.OpenSpec.ofChange s with cond := some uptoSmall }

/-- 'laws.FnTrustNew', WHERE WHAT IT READS IS OF BULK AT MOST 1048576: true; the input reads as it did. -/
def fnTrustNewUptoRow : OpenClaim := { program := "ytjfegdlgepbjoaa", sum := "a8b6cbc04c6b47a94ba1473944a01885708c3bdffe0e927774a108a7d4da32b9", func := "loop.example/purser/laws.FnTrustNew", spec := "fnTrustNew", apart := false, narrowed := true }
def FnTrustNewUptoSaid : Prop := fnTrustNewUptoRow.holds Try.pinned (OpenSpec.upto fnTrustNewSpec)

/-- 'laws.FnExactTrustNew', WHERE WHAT IT READS IS OF BULK AT MOST 1048576: true; the input reads as it did. -/
def fnExactTrustNewUptoRow : OpenClaim := { program := "ytjfegdlgepbjoaa", sum := "a8b6cbc04c6b47a94ba1473944a01885708c3bdffe0e927774a108a7d4da32b9", func := "loop.example/purser/laws.FnExactTrustNew", spec := "fnExactTrustNew", apart := false, narrowed := true }
def FnExactTrustNewUptoSaid : Prop := fnExactTrustNewUptoRow.holds Try.pinned (OpenSpec.upto fnExactTrustNewSpec)

/-- 'laws.FnTrustLate', WHERE WHAT IT READS IS OF BULK AT MOST 1048576: true; the input reads as it did. -/
def fnTrustLateUptoRow : OpenClaim := { program := "ytjfegdlgepbjoaa", sum := "a8b6cbc04c6b47a94ba1473944a01885708c3bdffe0e927774a108a7d4da32b9", func := "loop.example/purser/laws.FnTrustLate", spec := "fnTrustLate", recurses := true, apart := false, narrowed := true }
def FnTrustLateUptoSaid : Prop := fnTrustLateUptoRow.holds Try.pinned (OpenSpec.upto fnTrustLateSpec)

/-- 'laws.FnTrustIndex', WHERE WHAT IT READS IS OF BULK AT MOST 1048576: true; the input reads as it did. -/
def fnTrustIndexUptoRow : OpenClaim := { program := "ytjfegdlgepbjoaa", sum := "a8b6cbc04c6b47a94ba1473944a01885708c3bdffe0e927774a108a7d4da32b9", func := "loop.example/purser/laws.FnTrustIndex", spec := "fnTrustIndex", recurses := true, apart := false, narrowed := true }
def FnTrustIndexUptoSaid : Prop := fnTrustIndexUptoRow.holds Try.pinned (OpenSpec.upto fnTrustIndexSpec)

/-- 'laws.FnTrustApart', WHERE WHAT IT READS IS OF BULK AT MOST 1048576: true; the input reads as it did. -/
def fnTrustApartUptoRow : OpenClaim := { program := "ytjfegdlgepbjoaa", sum := "a8b6cbc04c6b47a94ba1473944a01885708c3bdffe0e927774a108a7d4da32b9", func := "loop.example/purser/laws.FnTrustApart", spec := "fnTrustApart", recurses := true, apart := false, narrowed := true }
def FnTrustApartUptoSaid : Prop := fnTrustApartUptoRow.holds Try.pinned (OpenSpec.upto fnTrustApartSpec)

/-- 'laws.FnTrustBad', WHERE WHAT IT READS IS OF BULK AT MOST 1048576: true; the input reads as it did. -/
def fnTrustBadUptoRow : OpenClaim := { program := "ytjfegdlgepbjoaa", sum := "a8b6cbc04c6b47a94ba1473944a01885708c3bdffe0e927774a108a7d4da32b9", func := "loop.example/purser/laws.FnTrustBad", spec := "fnTrustBad", recurses := true, apart := false, narrowed := true }
def FnTrustBadUptoSaid : Prop := fnTrustBadUptoRow.holds Try.pinned (OpenSpec.upto fnTrustBadSpec)

/-- 'laws.FnTrustRoot', WHERE WHAT IT READS IS OF BULK AT MOST 1048576: true; the input reads as it did. -/
def fnTrustRootUptoRow : OpenClaim := { program := "ytjfegdlgepbjoaa", sum := "a8b6cbc04c6b47a94ba1473944a01885708c3bdffe0e927774a108a7d4da32b9", func := "loop.example/purser/laws.FnTrustRoot", spec := "fnTrustRoot", recurses := true, apart := false, narrowed := true }
def FnTrustRootUptoSaid : Prop := fnTrustRootUptoRow.holds Try.pinned (OpenSpec.upto fnTrustRootSpec)

/-- 'laws.FnTrustChain', WHERE WHAT IT READS IS OF BULK AT MOST 1048576: true; the input reads as it did. -/
def fnTrustChainUptoRow : OpenClaim := { program := "ytjfegdlgepbjoaa", sum := "a8b6cbc04c6b47a94ba1473944a01885708c3bdffe0e927774a108a7d4da32b9", func := "loop.example/purser/laws.FnTrustChain", spec := "fnTrustChain", recurses := true, apart := false, narrowed := true }
def FnTrustChainUptoSaid : Prop := fnTrustChainUptoRow.holds Try.pinned (OpenSpec.upto fnTrustChainSpec)

/-- 'laws.FnExactTrustIndex', WHERE WHAT IT READS IS OF BULK AT MOST 1048576: true; the input reads as it did. -/
def fnExactTrustIndexUptoRow : OpenClaim := { program := "ytjfegdlgepbjoaa", sum := "a8b6cbc04c6b47a94ba1473944a01885708c3bdffe0e927774a108a7d4da32b9", func := "loop.example/purser/laws.FnExactTrustIndex", spec := "fnExactTrustIndex", apart := false, narrowed := true }
def FnExactTrustIndexUptoSaid : Prop := fnExactTrustIndexUptoRow.holds Try.pinned (OpenSpec.upto fnExactTrustIndexSpec)

/-- 'laws.FnExactTrustRoot', WHERE WHAT IT READS IS OF BULK AT MOST 1048576: true; the input reads as it did. -/
def fnExactTrustRootUptoRow : OpenClaim := { program := "ytjfegdlgepbjoaa", sum := "a8b6cbc04c6b47a94ba1473944a01885708c3bdffe0e927774a108a7d4da32b9", func := "loop.example/purser/laws.FnExactTrustRoot", spec := "fnExactTrustRoot", apart := false, narrowed := true }
def FnExactTrustRootUptoSaid : Prop := fnExactTrustRootUptoRow.holds Try.pinned (OpenSpec.upto fnExactTrustRootSpec)

end Rows
end Go.Proofs.Ytjfegdlgepbjoaa
