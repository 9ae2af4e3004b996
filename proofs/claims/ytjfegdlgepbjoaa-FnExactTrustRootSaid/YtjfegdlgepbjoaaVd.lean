/- Disks and steps, as data. -/
import Derived.Test.YtjfegdlgepbjoaaV3
import Derived.Test.YtjfegdlgepbjoaaV6
namespace Go.Proofs.Ytjfegdlgepbjoaa
open Go
set_option linter.unusedVariables false

structure TDisk where
  db : List TPkg
  files : List Int
  has : Bool
  jour : List TPkg
  deriving Inhabited, DecidableEq
structure TStep where
  kind : Int
  path : Int
  data : Int
  pkgs : List TPkg
  deriving Inhabited, DecidableEq
/-- A disk and a step, as arguments. -/
abbrev aDisk (d : TDisk) : SV := .ag [.sl 4 (d.db.map ePkg), .sl 1 (d.files.map iI), bB d.has, .sl 4 (d.jour.map ePkg)]
abbrev eStep (s : TStep) : SV := .ag [iI s.kind, iI s.path, iI s.data, .sl 4 (s.pkgs.map ePkg)]
/-- No list is longer than any can be. -/
def okInts (l : List Int) : Prop := l.length ≤ 9223372036854775807
def okPkg (p : TPkg) : Prop := p.files.length ≤ 9223372036854775807 ∧ p.deps.length ≤ 9223372036854775807
def okPkgs (l : List TPkg) : Prop := l.length ≤ 9223372036854775807 ∧ ∀ a, a ∈ l → okPkg a
def okRoot (r : TRoot) : Prop := r.keys.length ≤ 9223372036854775807
def okIndex (x : TIndex) : Prop := x.metas.length ≤ 9223372036854775807
def okTrust (t : TTrust) : Prop := okRoot t.root ∧ okIndex t.index
def okSigRoot (s : TRoot × List Int) : Prop := okRoot s.1 ∧ okInts s.2
def okSigIndex (s : TIndex × List Int) : Prop := okIndex s.1 ∧ okInts s.2
def okDisk (d : TDisk) : Prop := okPkgs d.db ∧ okInts d.files ∧ okPkgs d.jour
def okStep (s : TStep) : Prop := okPkgs s.pkgs
abbrev aSigRoot (s : TRoot × List Int) : SV := .ag [iI s.1.num, .sl 1 (s.1.keys.map iI), iI s.1.need, .sl 1 (s.2.map iI)]
abbrev aSigIndex (s : TIndex × List Int) : SV := .ag [iI s.1.num, iI s.1.til, .sl 3 (s.1.metas.map eMeta), .sl 1 (s.2.map iI)]
abbrev aRoot (r : TRoot) : SV := .ag [iI r.num, .sl 1 (r.keys.map iI), iI r.need]
abbrev aIndex (x : TIndex) : SV := .ag [iI x.num, iI x.til, .sl 3 (x.metas.map eMeta)]

end Go.Proofs.Ytjfegdlgepbjoaa
