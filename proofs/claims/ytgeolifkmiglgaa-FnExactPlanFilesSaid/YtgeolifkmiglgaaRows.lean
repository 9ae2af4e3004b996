/-
  No cell of these rows narrows 'for every input' (looked for: loops, veiled, ifaces, maps, wideKeys, modest, calm, conditions, laid).
  DERIVED. THE GIVEN ROWS OF THIS SEAT. 12 by the template 'for every input the law returns true; each argument reads behind the call as it read before'; 0 by the template 'total and deterministic' (their statements: YtgeolifkmiglgaaTotals.lean).
  GIVEN WITH THE SEED: the statements are not yours to turn. If you find one false, say at which input.
  Laid BY PROGRAM, IN A SANDBOX (cutbox-rows.mjs): the forced cells as the released guide's own fill.sh prints them over the translation b2b00857cf91f469… (all of the seat's roots in one cut). By AI agents, Wed Nov 11 2026. No macro, syntax, notation, axiom, sorry.
-/
import Derived.Test.YtgeolifkmiglgaaChecked
import GoSem.Claim
import GoSem.ClaimJoined
import GoSem.ClaimMapViews
import Derived.JoinedTies
import Derived.KernelRfl
namespace Go.Proofs.Ytgeolifkmiglgaa
/- THE CELL 'sum', in the pinned program and in every row, IS THE sha256 OF THE DUMP (.gsa) THAT YtgeolifkmiglgaaProg.lean LOADS. Nothing in Lean hashes anything: it is a label: what it is worth is what the hold of that sum in a sandbox is worth. -/
noncomputable def Try.pinned : Pinned := { name := "ytgeolifkmiglgaa", sum := "b2b00857cf91f4696e328df48e47a48eade57c540195c3daae332ea8ec4eb6df", checked := Try.checked }
namespace Rows
def none {H : Type} : Left H := { results := [], args := [] }

/-- 'laws.FnNewestMore': WHATEVER THE INPUT: true; the input reads as it did. -/
def fnNewestMoreSpec : ChangeSpec := { name := "fnNewestMore", fn := fun _ => fun
  | [d] => { results := [.lit (.bool true)], args := [d] }
  | _ => none }
def fnNewestMoreRow : OpenClaim := { program := "ytgeolifkmiglgaa", sum := "b2b00857cf91f4696e328df48e47a48eade57c540195c3daae332ea8ec4eb6df", func := "loop.example/purser/laws.FnNewestMore", spec := "fnNewestMore", apart := false }
def FnNewestMoreSaid : Prop := fnNewestMoreRow.holds Try.pinned (OpenSpec.ofChange fnNewestMoreSpec)

/-- ITS FALSE NEIGHBOUR: 'it returns false'. Refute it at one input. -/
def fnNewestMoreWrong : ChangeSpec := { name := "fnNewestMore", fn := fun _ => fun
  | [d] => { results := [.lit (.bool false)], args := [d] }
  | _ => none }
def FnNewestMoreWrongFalsely : Prop := fnNewestMoreRow.holds Try.pinned (OpenSpec.ofChange fnNewestMoreWrong)

/-- 'laws.FnNewest': WHATEVER THE INPUT: true; the input reads as it did. -/
def fnNewestSpec : ChangeSpec := { name := "fnNewest", fn := fun _ => fun
  | [d] => { results := [.lit (.bool true)], args := [d] }
  | _ => none }
def fnNewestRow : OpenClaim := { program := "ytgeolifkmiglgaa", sum := "b2b00857cf91f4696e328df48e47a48eade57c540195c3daae332ea8ec4eb6df", func := "loop.example/purser/laws.FnNewest", spec := "fnNewest", apart := false }
def FnNewestSaid : Prop := fnNewestRow.holds Try.pinned (OpenSpec.ofChange fnNewestSpec)

/-- ITS FALSE NEIGHBOUR: 'it returns false'. Refute it at one input. -/
def fnNewestWrong : ChangeSpec := { name := "fnNewest", fn := fun _ => fun
  | [d] => { results := [.lit (.bool false)], args := [d] }
  | _ => none }
def FnNewestWrongFalsely : Prop := fnNewestRow.holds Try.pinned (OpenSpec.ofChange fnNewestWrong)

/-- 'laws.FnExactPlanOk': WHATEVER THE INPUT: true; the input reads as it did. -/
def fnExactPlanOkSpec : ChangeSpec := { name := "fnExactPlanOk", fn := fun _ => fun
  | [d] => { results := [.lit (.bool true)], args := [d] }
  | _ => none }
def fnExactPlanOkRow : OpenClaim := { program := "ytgeolifkmiglgaa", sum := "b2b00857cf91f4696e328df48e47a48eade57c540195c3daae332ea8ec4eb6df", func := "loop.example/purser/laws.FnExactPlanOk", spec := "fnExactPlanOk", unfollowed := true, recurses := true, apart := false }
def FnExactPlanOkSaid : Prop := fnExactPlanOkRow.holds Try.pinned (OpenSpec.ofChange fnExactPlanOkSpec)

/-- ITS FALSE NEIGHBOUR: 'it returns false'. Refute it at one input. -/
def fnExactPlanOkWrong : ChangeSpec := { name := "fnExactPlanOk", fn := fun _ => fun
  | [d] => { results := [.lit (.bool false)], args := [d] }
  | _ => none }
def FnExactPlanOkWrongFalsely : Prop := fnExactPlanOkRow.holds Try.pinned (OpenSpec.ofChange fnExactPlanOkWrong)

/-- 'laws.FnPlanLess': WHATEVER THE INPUT: true; the input reads as it did. -/
def fnPlanLessSpec : ChangeSpec := { name := "fnPlanLess", fn := fun _ => fun
  | [d1, d2] => { results := [.lit (.bool true)], args := [d1, d2] }
  | _ => none }
def fnPlanLessRow : OpenClaim := { program := "ytgeolifkmiglgaa", sum := "b2b00857cf91f4696e328df48e47a48eade57c540195c3daae332ea8ec4eb6df", func := "loop.example/purser/laws.FnPlanLess", spec := "fnPlanLess", unfollowed := true, recurses := true, apart := false }
def FnPlanLessSaid : Prop := fnPlanLessRow.holds Try.pinned (OpenSpec.ofChange fnPlanLessSpec)

/-- ITS FALSE NEIGHBOUR: 'it returns false'. Refute it at one input. -/
def fnPlanLessWrong : ChangeSpec := { name := "fnPlanLess", fn := fun _ => fun
  | [d1, d2] => { results := [.lit (.bool false)], args := [d1, d2] }
  | _ => none }
def FnPlanLessWrongFalsely : Prop := fnPlanLessRow.holds Try.pinned (OpenSpec.ofChange fnPlanLessWrong)

/-- 'laws.FnPlanNeeds': WHATEVER THE INPUT: true; the input reads as it did. -/
def fnPlanNeedsSpec : ChangeSpec := { name := "fnPlanNeeds", fn := fun _ => fun
  | [d] => { results := [.lit (.bool true)], args := [d] }
  | _ => none }
def fnPlanNeedsRow : OpenClaim := { program := "ytgeolifkmiglgaa", sum := "b2b00857cf91f4696e328df48e47a48eade57c540195c3daae332ea8ec4eb6df", func := "loop.example/purser/laws.FnPlanNeeds", spec := "fnPlanNeeds", unfollowed := true, recurses := true, apart := false }
def FnPlanNeedsSaid : Prop := fnPlanNeedsRow.holds Try.pinned (OpenSpec.ofChange fnPlanNeedsSpec)

/-- ITS FALSE NEIGHBOUR: 'it returns false'. Refute it at one input. -/
def fnPlanNeedsWrong : ChangeSpec := { name := "fnPlanNeeds", fn := fun _ => fun
  | [d] => { results := [.lit (.bool false)], args := [d] }
  | _ => none }
def FnPlanNeedsWrongFalsely : Prop := fnPlanNeedsRow.holds Try.pinned (OpenSpec.ofChange fnPlanNeedsWrong)

/-- 'laws.FnExactStoreNewest': WHATEVER THE INPUT: true; the input reads as it did. -/
def fnExactStoreNewestSpec : ChangeSpec := { name := "fnExactStoreNewest", fn := fun _ => fun
  | [d1, d2] => { results := [.lit (.bool true)], args := [d1, d2] }
  | _ => none }
def fnExactStoreNewestRow : OpenClaim := { program := "ytgeolifkmiglgaa", sum := "b2b00857cf91f4696e328df48e47a48eade57c540195c3daae332ea8ec4eb6df", func := "loop.example/purser/laws.FnExactStoreNewest", spec := "fnExactStoreNewest", apart := false }
def FnExactStoreNewestSaid : Prop := fnExactStoreNewestRow.holds Try.pinned (OpenSpec.ofChange fnExactStoreNewestSpec)

/-- ITS FALSE NEIGHBOUR: 'it returns false'. Refute it at one input. -/
def fnExactStoreNewestWrong : ChangeSpec := { name := "fnExactStoreNewest", fn := fun _ => fun
  | [d1, d2] => { results := [.lit (.bool false)], args := [d1, d2] }
  | _ => none }
def FnExactStoreNewestWrongFalsely : Prop := fnExactStoreNewestRow.holds Try.pinned (OpenSpec.ofChange fnExactStoreNewestWrong)

/-- 'laws.FnFiles': WHATEVER THE INPUT: true; the input reads as it did. -/
def fnFilesSpec : ChangeSpec := { name := "fnFiles", fn := fun _ => fun
  | [d] => { results := [.lit (.bool true)], args := [d] }
  | _ => none }
def fnFilesRow : OpenClaim := { program := "ytgeolifkmiglgaa", sum := "b2b00857cf91f4696e328df48e47a48eade57c540195c3daae332ea8ec4eb6df", func := "loop.example/purser/laws.FnFiles", spec := "fnFiles", unfollowed := true, recurses := true, apart := false }
def FnFilesSaid : Prop := fnFilesRow.holds Try.pinned (OpenSpec.ofChange fnFilesSpec)

/-- ITS FALSE NEIGHBOUR: 'it returns false'. Refute it at one input. -/
def fnFilesWrong : ChangeSpec := { name := "fnFiles", fn := fun _ => fun
  | [d] => { results := [.lit (.bool false)], args := [d] }
  | _ => none }
def FnFilesWrongFalsely : Prop := fnFilesRow.holds Try.pinned (OpenSpec.ofChange fnFilesWrong)

/-- 'laws.FnFilesLess': WHATEVER THE INPUT: true; the input reads as it did. -/
def fnFilesLessSpec : ChangeSpec := { name := "fnFilesLess", fn := fun _ => fun
  | [d1, d2] => { results := [.lit (.bool true)], args := [d1, d2] }
  | _ => none }
def fnFilesLessRow : OpenClaim := { program := "ytgeolifkmiglgaa", sum := "b2b00857cf91f4696e328df48e47a48eade57c540195c3daae332ea8ec4eb6df", func := "loop.example/purser/laws.FnFilesLess", spec := "fnFilesLess", unfollowed := true, recurses := true, apart := false }
def FnFilesLessSaid : Prop := fnFilesLessRow.holds Try.pinned (OpenSpec.ofChange fnFilesLessSpec)

/-- ITS FALSE NEIGHBOUR: 'it returns false'. Refute it at one input. -/
def fnFilesLessWrong : ChangeSpec := { name := "fnFilesLess", fn := fun _ => fun
  | [d1, d2] => { results := [.lit (.bool false)], args := [d1, d2] }
  | _ => none }
def FnFilesLessWrongFalsely : Prop := fnFilesLessRow.holds Try.pinned (OpenSpec.ofChange fnFilesLessWrong)

/-- 'laws.FnExactPlanFiles': WHATEVER THE INPUT: true; the input reads as it did. -/
def fnExactPlanFilesSpec : ChangeSpec := { name := "fnExactPlanFiles", fn := fun _ => fun
  | [d] => { results := [.lit (.bool true)], args := [d] }
  | _ => none }
def fnExactPlanFilesRow : OpenClaim := { program := "ytgeolifkmiglgaa", sum := "b2b00857cf91f4696e328df48e47a48eade57c540195c3daae332ea8ec4eb6df", func := "loop.example/purser/laws.FnExactPlanFiles", spec := "fnExactPlanFiles", unfollowed := true, recurses := true, apart := false }
def FnExactPlanFilesSaid : Prop := fnExactPlanFilesRow.holds Try.pinned (OpenSpec.ofChange fnExactPlanFilesSpec)

/-- ITS FALSE NEIGHBOUR: 'it returns false'. Refute it at one input. -/
def fnExactPlanFilesWrong : ChangeSpec := { name := "fnExactPlanFiles", fn := fun _ => fun
  | [d] => { results := [.lit (.bool false)], args := [d] }
  | _ => none }
def FnExactPlanFilesWrongFalsely : Prop := fnExactPlanFilesRow.holds Try.pinned (OpenSpec.ofChange fnExactPlanFilesWrong)

/-- 'laws.FnExactDiskNew': WHATEVER THE INPUT: true; the input reads as it did. -/
def fnExactDiskNewSpec : ChangeSpec := { name := "fnExactDiskNew", fn := fun _ => fun
  | [] => { results := [.lit (.bool true)], args := [] }
  | _ => none }
def fnExactDiskNewRow : OpenClaim := { program := "ytgeolifkmiglgaa", sum := "b2b00857cf91f4696e328df48e47a48eade57c540195c3daae332ea8ec4eb6df", func := "loop.example/purser/laws.FnExactDiskNew", spec := "fnExactDiskNew", apart := false }
def FnExactDiskNewSaid : Prop := fnExactDiskNewRow.holds Try.pinned (OpenSpec.ofChange fnExactDiskNewSpec)

/-- ITS FALSE NEIGHBOUR: 'it returns false'. Refute it at one input. -/
def fnExactDiskNewWrong : ChangeSpec := { name := "fnExactDiskNew", fn := fun _ => fun
  | [] => { results := [.lit (.bool false)], args := [] }
  | _ => none }
def FnExactDiskNewWrongFalsely : Prop := fnExactDiskNewRow.holds Try.pinned (OpenSpec.ofChange fnExactDiskNewWrong)

/-- 'laws.FnExactDiskOk': WHATEVER THE INPUT: true; the input reads as it did. -/
def fnExactDiskOkSpec : ChangeSpec := { name := "fnExactDiskOk", fn := fun _ => fun
  | [d] => { results := [.lit (.bool true)], args := [d] }
  | _ => none }
def fnExactDiskOkRow : OpenClaim := { program := "ytgeolifkmiglgaa", sum := "b2b00857cf91f4696e328df48e47a48eade57c540195c3daae332ea8ec4eb6df", func := "loop.example/purser/laws.FnExactDiskOk", spec := "fnExactDiskOk", unfollowed := true, recurses := true, apart := false }
def FnExactDiskOkSaid : Prop := fnExactDiskOkRow.holds Try.pinned (OpenSpec.ofChange fnExactDiskOkSpec)

/-- ITS FALSE NEIGHBOUR: 'it returns false'. Refute it at one input. -/
def fnExactDiskOkWrong : ChangeSpec := { name := "fnExactDiskOk", fn := fun _ => fun
  | [d] => { results := [.lit (.bool false)], args := [d] }
  | _ => none }
def FnExactDiskOkWrongFalsely : Prop := fnExactDiskOkRow.holds Try.pinned (OpenSpec.ofChange fnExactDiskOkWrong)

/-- 'laws.FnExactDiskTrue': WHATEVER THE INPUT: true; the input reads as it did. -/
def fnExactDiskTrueSpec : ChangeSpec := { name := "fnExactDiskTrue", fn := fun _ => fun
  | [d] => { results := [.lit (.bool true)], args := [d] }
  | _ => none }
def fnExactDiskTrueRow : OpenClaim := { program := "ytgeolifkmiglgaa", sum := "b2b00857cf91f4696e328df48e47a48eade57c540195c3daae332ea8ec4eb6df", func := "loop.example/purser/laws.FnExactDiskTrue", spec := "fnExactDiskTrue", unfollowed := true, recurses := true, apart := false }
def FnExactDiskTrueSaid : Prop := fnExactDiskTrueRow.holds Try.pinned (OpenSpec.ofChange fnExactDiskTrueSpec)

/-- ITS FALSE NEIGHBOUR: 'it returns false'. Refute it at one input. -/
def fnExactDiskTrueWrong : ChangeSpec := { name := "fnExactDiskTrue", fn := fun _ => fun
  | [d] => { results := [.lit (.bool false)], args := [d] }
  | _ => none }
def FnExactDiskTrueWrongFalsely : Prop := fnExactDiskTrueRow.holds Try.pinned (OpenSpec.ofChange fnExactDiskTrueWrong)

/- THE SECOND FORM. 'bulk': how many values and letters a reading holds, each counted each time it is reached (what is shared counts as often as it is met; a slice's spare places count too). A statement '..UptoSaid' is the law's where the arguments, and the package variables that the reading takes, are together of bulk at most 1048576: NARROWER than '..Said'. Prove '..Said' where nothing that the law and all that it calls make is longer than what came in: it says more and counts as full. Else prove '..UptoSaid'. A law counts once. -/
mutual
def uptoBulk {H : Type} : DataW H → Nat
  | .lit (.string bytes) => bytes.length + 1
  | .lit _ => 1
  | .nil => 1
  | .ptr d => uptoBulk d + 1
  | .slice elems spare => uptoBulkAll elems + uptoBulkAll spare + 1
  | .agg parts => uptoBulkAll parts + 1
  | .iface _ d => uptoBulk d + 1
  | .map entries => uptoBulkEntries entries + 1
  | .held _ => 1
def uptoBulkAll {H : Type} : List (DataW H) → Nat
  | [] => 0
  | d :: r => uptoBulk d + uptoBulkAll r
def uptoBulkEntries {H : Type} : List (Lit × DataW H) → Nat
  | [] => 0
  | x :: r => uptoBulkEntry x + uptoBulkEntries r
def uptoBulkEntry {H : Type} : Lit × DataW H → Nat
  | (.string bytes, d) => bytes.length + uptoBulk d + 1
  | (_, d) => uptoBulk d + 1
 end
def uptoSmall : (H : Type) → List (DataW H) → Bool := fun _ ds => decide (uptoBulkAll ds ≤ 1048576)
def OpenSpec.upto (s : _root_.Go.ChangeSpec) : _root_.Go.OpenSpec := { _root_.Go.OpenSpec.ofChange s with cond := some uptoSmall }

/-- 'laws.FnNewestMore', WHERE WHAT IT READS IS OF BULK AT MOST 1048576: true; the input reads as it did. -/
def fnNewestMoreUptoRow : OpenClaim := { program := "ytgeolifkmiglgaa", sum := "b2b00857cf91f4696e328df48e47a48eade57c540195c3daae332ea8ec4eb6df", func := "loop.example/purser/laws.FnNewestMore", spec := "fnNewestMore", apart := false, narrowed := true }
def FnNewestMoreUptoSaid : Prop := fnNewestMoreUptoRow.holds Try.pinned (OpenSpec.upto fnNewestMoreSpec)

/-- 'laws.FnNewest', WHERE WHAT IT READS IS OF BULK AT MOST 1048576: true; the input reads as it did. -/
def fnNewestUptoRow : OpenClaim := { program := "ytgeolifkmiglgaa", sum := "b2b00857cf91f4696e328df48e47a48eade57c540195c3daae332ea8ec4eb6df", func := "loop.example/purser/laws.FnNewest", spec := "fnNewest", apart := false, narrowed := true }
def FnNewestUptoSaid : Prop := fnNewestUptoRow.holds Try.pinned (OpenSpec.upto fnNewestSpec)

/-- 'laws.FnExactPlanOk', WHERE WHAT IT READS IS OF BULK AT MOST 1048576: true; the input reads as it did. -/
def fnExactPlanOkUptoRow : OpenClaim := { program := "ytgeolifkmiglgaa", sum := "b2b00857cf91f4696e328df48e47a48eade57c540195c3daae332ea8ec4eb6df", func := "loop.example/purser/laws.FnExactPlanOk", spec := "fnExactPlanOk", unfollowed := true, recurses := true, apart := false, narrowed := true }
def FnExactPlanOkUptoSaid : Prop := fnExactPlanOkUptoRow.holds Try.pinned (OpenSpec.upto fnExactPlanOkSpec)

/-- 'laws.FnPlanLess', WHERE WHAT IT READS IS OF BULK AT MOST 1048576: true; the input reads as it did. -/
def fnPlanLessUptoRow : OpenClaim := { program := "ytgeolifkmiglgaa", sum := "b2b00857cf91f4696e328df48e47a48eade57c540195c3daae332ea8ec4eb6df", func := "loop.example/purser/laws.FnPlanLess", spec := "fnPlanLess", unfollowed := true, recurses := true, apart := false, narrowed := true }
def FnPlanLessUptoSaid : Prop := fnPlanLessUptoRow.holds Try.pinned (OpenSpec.upto fnPlanLessSpec)

/-- 'laws.FnPlanNeeds', WHERE WHAT IT READS IS OF BULK AT MOST 1048576: true; the input reads as it did. -/
def fnPlanNeedsUptoRow : OpenClaim := { program := "ytgeolifkmiglgaa", sum := "b2b00857cf91f4696e328df48e47a48eade57c540195c3daae332ea8ec4eb6df", func := "loop.example/purser/laws.FnPlanNeeds", spec := "fnPlanNeeds", unfollowed := true, recurses := true, apart := false, narrowed := true }
def FnPlanNeedsUptoSaid : Prop := fnPlanNeedsUptoRow.holds Try.pinned (OpenSpec.upto fnPlanNeedsSpec)

/-- 'laws.FnExactStoreNewest', WHERE WHAT IT READS IS OF BULK AT MOST 1048576: true; the input reads as it did. -/
def fnExactStoreNewestUptoRow : OpenClaim := { program := "ytgeolifkmiglgaa", sum := "b2b00857cf91f4696e328df48e47a48eade57c540195c3daae332ea8ec4eb6df", func := "loop.example/purser/laws.FnExactStoreNewest", spec := "fnExactStoreNewest", apart := false, narrowed := true }
def FnExactStoreNewestUptoSaid : Prop := fnExactStoreNewestUptoRow.holds Try.pinned (OpenSpec.upto fnExactStoreNewestSpec)

/-- 'laws.FnFiles', WHERE WHAT IT READS IS OF BULK AT MOST 1048576: true; the input reads as it did. -/
def fnFilesUptoRow : OpenClaim := { program := "ytgeolifkmiglgaa", sum := "b2b00857cf91f4696e328df48e47a48eade57c540195c3daae332ea8ec4eb6df", func := "loop.example/purser/laws.FnFiles", spec := "fnFiles", unfollowed := true, recurses := true, apart := false, narrowed := true }
def FnFilesUptoSaid : Prop := fnFilesUptoRow.holds Try.pinned (OpenSpec.upto fnFilesSpec)

/-- 'laws.FnFilesLess', WHERE WHAT IT READS IS OF BULK AT MOST 1048576: true; the input reads as it did. -/
def fnFilesLessUptoRow : OpenClaim := { program := "ytgeolifkmiglgaa", sum := "b2b00857cf91f4696e328df48e47a48eade57c540195c3daae332ea8ec4eb6df", func := "loop.example/purser/laws.FnFilesLess", spec := "fnFilesLess", unfollowed := true, recurses := true, apart := false, narrowed := true }
def FnFilesLessUptoSaid : Prop := fnFilesLessUptoRow.holds Try.pinned (OpenSpec.upto fnFilesLessSpec)

/-- 'laws.FnExactPlanFiles', WHERE WHAT IT READS IS OF BULK AT MOST 1048576: true; the input reads as it did. -/
def fnExactPlanFilesUptoRow : OpenClaim := { program := "ytgeolifkmiglgaa", sum := "b2b00857cf91f4696e328df48e47a48eade57c540195c3daae332ea8ec4eb6df", func := "loop.example/purser/laws.FnExactPlanFiles", spec := "fnExactPlanFiles", unfollowed := true, recurses := true, apart := false, narrowed := true }
def FnExactPlanFilesUptoSaid : Prop := fnExactPlanFilesUptoRow.holds Try.pinned (OpenSpec.upto fnExactPlanFilesSpec)

/-- 'laws.FnExactDiskNew', WHERE WHAT IT READS IS OF BULK AT MOST 1048576: true; the input reads as it did. -/
def fnExactDiskNewUptoRow : OpenClaim := { program := "ytgeolifkmiglgaa", sum := "b2b00857cf91f4696e328df48e47a48eade57c540195c3daae332ea8ec4eb6df", func := "loop.example/purser/laws.FnExactDiskNew", spec := "fnExactDiskNew", apart := false, narrowed := true }
def FnExactDiskNewUptoSaid : Prop := fnExactDiskNewUptoRow.holds Try.pinned (OpenSpec.upto fnExactDiskNewSpec)

/-- 'laws.FnExactDiskOk', WHERE WHAT IT READS IS OF BULK AT MOST 1048576: true; the input reads as it did. -/
def fnExactDiskOkUptoRow : OpenClaim := { program := "ytgeolifkmiglgaa", sum := "b2b00857cf91f4696e328df48e47a48eade57c540195c3daae332ea8ec4eb6df", func := "loop.example/purser/laws.FnExactDiskOk", spec := "fnExactDiskOk", unfollowed := true, recurses := true, apart := false, narrowed := true }
def FnExactDiskOkUptoSaid : Prop := fnExactDiskOkUptoRow.holds Try.pinned (OpenSpec.upto fnExactDiskOkSpec)

/-- 'laws.FnExactDiskTrue', WHERE WHAT IT READS IS OF BULK AT MOST 1048576: true; the input reads as it did. -/
def fnExactDiskTrueUptoRow : OpenClaim := { program := "ytgeolifkmiglgaa", sum := "b2b00857cf91f4696e328df48e47a48eade57c540195c3daae332ea8ec4eb6df", func := "loop.example/purser/laws.FnExactDiskTrue", spec := "fnExactDiskTrue", unfollowed := true, recurses := true, apart := false, narrowed := true }
def FnExactDiskTrueUptoSaid : Prop := fnExactDiskTrueUptoRow.holds Try.pinned (OpenSpec.upto fnExactDiskTrueSpec)

end Rows
end Go.Proofs.Ytgeolifkmiglgaa
