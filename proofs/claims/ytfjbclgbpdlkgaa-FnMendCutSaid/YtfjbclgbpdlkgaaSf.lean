/- The evaluator S and what it says of functions: Sa, Sc, Sd, Se, Sf. -/
import Derived.Calls
import Derived.Orders
import Derived.Laws.World
import Derived.Laws.Cells
import Derived.Laws.Entries
import Derived.Laws.Append
import Derived.Laws.MakeOwn
import Derived.Laws.Small
import Derived.Laws.Slices
import Derived.Laws.Strings
/- The evaluator S: definitions. A ZT deterministic reading of the model's code over values that hold slices as lists. -/
namespace Go.Proofs.Ytfjbclgbpdlkgaa
open Go
set_option linter.unusedVariables false
inductive SV where
  | v (x : Value)
  | undef
  | dead
  | sl (sz : Nat) (l : List SV)
  | osl (j : Nat)
  | vw (j lo hi : Nat)
  | ag (l : List SV)
  | tup (l : List SV)
  | ptr (j off : Nat)
  | ap (j i off : Nat)
  | el (x : SV) (off : Nat)
  | fn (f : Nat) (caps : List SV)
  deriving Inhabited
def SV.cells : SV → List SV
  | .ag l => l
  | x => [x]
inductive SO where
  | dead
  | box (l : List SV)
  | arr (lent : Bool) (sz : Nat) (l : List SV)
  | frz (sz : Nat) (l : List SV)
  deriving Inhabited
inductive ZK where
  | int (k : IntKind) | bool | str | sl (sz : Nat) | fn | ptr
  deriving DecidableEq
def ZK.val : ZK → Value
  | .int k => .int k 0
  | .bool => .bool false
  | .str => .string ⟨#[]⟩
  | .sl _ => .slice none 0 0
  | .fn => .nilFunc
  | .ptr => .pointer none
structure TI where
  size : Nat
  bytes : Nat
  agg : Bool
  zero : List ZK
inductive UK where
  | str | bool
  | int (k : IntKind)
  | slice (e : Nat)
  | array (n e : Nat)
  | struct (fs : List (Nat × Nat))
  | eqs (fs : List (Nat × Nat))   -- a struct whose cells are all whole numbers
structure Tab where
  ti : Nat → Option TI
  und : Nat → Option UK
def UK.fields : UK → Option (List (Nat × Nat))
  | .struct fs => some fs
  | .eqs fs => some fs
  | _ => none
abbrev Out := Option (SV × List SO)
abbrev zKT := Nat → List SV → List SO → Out
structure Cx where
  T : Tab
  own : Nat → Bool
  K : Nat → List SV → List SO → Out
def Qm : Value → Bool
  | .int _ _ | .bool _ | .string _ | .nilFunc | .nilIface | .pointer none => true
  | _ => false
def cst (v : Value) : SV :=
  match v with
  | .slice none 0 0 => .sl 0 []
  | v => if Qm v then .v v else .dead
abbrev Env := List (Nat × SV)
def yN (t : Nat) : Env → SV
  | [] => .dead
  | p :: ps => match Nat.beq t p.1 with | true => p.2 | false => yN t ps
def ev (env : Env) : Operand → SV
  | .tmp t => yN t env
  | .const v => cst v
  | .func f => .fn f []
  | .global _ => .dead
def evP (env : Env) (x : Operand) : Option SV :=
  match x with
  | .const (.slice none 0 0) => none
  | x => some (ev env x)
def evN (T : Tab) (ty : Nat) (os : List SO) (x : Option SV) : Option (SV × List SO) :=
  match x with
  | none =>
    match T.und ty with
    | some (.slice e) =>
      match T.ti e with
      | some i => some (.osl os.length, os ++ [.arr false i.size []])
      | none => none
    | _ => none
  | some x => some (x, os)
def intOf? : SV → Option (IntKind × Int)
  | .v (.int k n) => some (k, n)
  | _ => none
def xE (os : List SO) : SV → Option (Nat × List SV)
  | .sl sz l => some (sz, l)
  | .osl j =>
    match os[j]? with
    | some (.arr _ sz l) => some (sz, l)
    | some (.frz sz l) => some (sz, l)
    | _ => none
  | .vw j lo hi =>
    match os[j]? with
    | some (.arr _ sz l) => if lo ≤ hi ∧ hi ≤ l.length then some (sz, (l.take hi).drop lo) else none
    | some (.frz sz l) => if lo ≤ hi ∧ hi ≤ l.length then some (sz, (l.take hi).drop lo) else none
    | _ => none
  | _ => none
def qiK (T : Tab) (t : Nat) (os : List SO) (x : SV) : Option Nat :=
  match T.und t with
  | some .str => match x with | .v (.string s) => some s.size | _ => none
  | some (.slice _) =>
    match x with
    | .vw j lo hi => match xE os (.vw j lo hi) with | some _ => some (hi - lo) | none => none
    | x => match xE os x with | some p => some p.2.length | none => none
  | _ => none
def xF : List ZK → List SO → List SV × List SO
  | [], os => ([], os)
  | .sl sz :: zs, os => let r := xF zs (os ++ [.arr false sz []]); (.osl os.length :: r.1, r.2)
  | z :: zs, os => let r := xF zs os; (.v z.val :: r.1, r.2)
def qaw : List ZK → List SV
  | [] => []
  | .sl sz :: zs => .sl sz [] :: qaw zs
  | z :: zs => .v z.val :: qaw zs
def xI : SV → Bool
  | .v _ | .sl _ _ | .osl _ | .ptr _ _ | .fn _ _ => true
  | _ => false
def pack (agg : Bool) (l : List SV) : Option SV :=
  if agg = true then (if l.all xI = true then some (.ag l) else none) else match l with | [x] => some x | _ => none
def y3 (l : List SV) (off : Nat) (xs : List SV) : List SV := l.take off ++ xs ++ l.drop (off + xs.length)
def QV : SV → Option (List SV)
  | .dead => none
  | .ag l => some l
  | x => some [x]
def kP (os : List SO) : SV → Option (List SV)
  | .ptr j off => match os[j]? with | some (.box l) => some (l.drop off) | _ => none
  | .ap j i off =>
    match os[j]? with
    | some (.arr _ _ l) => match l[i]? with | some x => (QV x).map (List.drop off) | none => none
    | _ => none
  | .el x off => (QV x).map (List.drop off)
  | _ => none
def qf (T : Tab) (os : List SO) (t : Nat) (p : SV) : Option SV :=
  match T.ti t with
  | some i =>
    match kP os p with
    | some l => if i.size ≤ l.length then pack i.agg (l.take i.size) else none
    | none => none
  | none => none
def km (os : List SO) : SV → Option (SV × List SO)
  | .v x => some (.v x, os)
  | .sl sz l => some (.sl sz l, os)
  | .osl j =>
    match os[j]? with
    | some (.arr false sz l) => some (.sl sz l, os.set j (.frz sz l))
    | some (.frz sz l) => some (.sl sz l, os)
    | _ => none
  | .vw j lo hi =>
    match os[j]? with
    | some (.arr false sz l) => if lo ≤ hi ∧ hi ≤ l.length then some (.sl sz ((l.take hi).drop lo), os.set j (.frz sz l)) else none
    | some (.frz sz l) => if lo ≤ hi ∧ hi ≤ l.length then some (.sl sz ((l.take hi).drop lo), os) else none
    | _ => none
  | _ => none
def qhR (os : List SO) : SV → Option (SV × List SO)
  | .vw j lo hi => km os (.vw j lo hi)
  | x => some (x, os)
def z8 : List SV → List SO → Option (List SV × List SO)
  | [], os => some ([], os)
  | x :: xs, os =>
    match km os x with
    | some (y, os1) => match z8 xs os1 with | some (ys, os2) => some (y :: ys, os2) | none => none
    | none => none
def YW (os : List SO) : SV → Option (SV × List SO)
  | .ag l => match z8 l os with | some (ys, os1) => some (.ag ys, os1) | none => none
  | x => km os x
def QD : List SV → List SO → Option (List SV × List SO)
  | [], os => some ([], os)
  | x :: xs, os =>
    match YW os x with
    | some (y, os1) => match QD xs os1 with | some (ys, os2) => some (y :: ys, os2) | none => none
    | none => none
def jP (x : SV) (off : Nat) (cs : List SV) : SV :=
  match x with
  | .ag l => .ag (y3 l off cs)
  | x => match off, cs with | 0, [y] => y | _, _ => x
def QW (T : Tab) (os : List SO) (t : Nat) (p x : SV) : Option (List SO) :=
  match T.ti t with
  | some i =>
    if x.cells.length = i.size then
      match p with
      | .ptr j off =>
        match os[j]? with
        | some (.box l) => if off + i.size ≤ l.length ∧ x.cells.all xI = true then some (os.set j (.box (y3 l off x.cells))) else none
        | _ => none
      | .ap j n off =>
        match z8 x.cells os with
        | some (ys, os1) =>
          match os1[j]? with
          | some (.arr b sz l) =>
            match l[n]? with
            | some y =>
              match QV y with
              | some yc => if off + i.size ≤ yc.length ∧ 0 < i.size then some (os1.set j (.arr b sz (l.set n (jP y off ys)))) else none
              | none => none
            | none => none
          | _ => none
        | none => none
      | _ => none
    else none
  | none => none
def addS (p : SV) (n : Nat) : Option SV :=
  match p with
  | .ptr j off => some (.ptr j (off + n))
  | .ap j i off => some (.ap j i (off + n))
  | .el x off => some (.el x (off + n))
  | _ => none
def qa (T : Tab) (s : Nat) (p : SV) (f : Nat) : Option SV :=
  match T.und s with
  | some u =>
    match u.fields with
    | some fs =>
      match fs[f]? with
      | some (off, t) => match T.ti t with | some i => if i.size = 0 then none else addS p off | none => none
      | none => none
    | none => none
  | none => none
def qcq (T : Tab) (s : Nat) (x : SV) (f : Nat) : Option SV :=
  match T.und s with
  | some u =>
    match u.fields with
    | some fs =>
      match fs[f]? with
      | some (off, t) =>
        match T.ti t, x with
        | some i, .ag l => if off + i.size ≤ l.length then pack i.agg ((l.drop off).take i.size) else none
        | _, _ => none
      | none => none
    | none => none
  | none => none
def elS (l : List SV) (n : Nat) : Option SV :=
  match l[n]? with
  | some y => some (.el y 0)
  | none => none
def qj (T : Tab) (os : List SO) (t : Nat) (x i : SV) : Option SV :=
  match i with
  | .v (.int _ n) =>
    match T.und t with
    | some (.slice e) =>
      match T.ti e with
      | some q =>
        match x with
        | .sl sz l => if 0 ≤ n ∧ sz = q.size then elS l n.toNat else none
        | .osl j =>
          match os[j]? with
          | some (.arr _ sz l) => if 0 ≤ n ∧ n < (l.length : Int) ∧ sz = q.size then some (.ap j n.toNat 0) else none
          | some (.frz sz l) => if 0 ≤ n ∧ sz = q.size then elS l n.toNat else none
          | _ => none
        | .vw j lo hi =>
          match os[j]? with
          | some (.arr _ sz l) => if 0 ≤ n ∧ n < ((hi - lo : Nat) : Int) ∧ lo ≤ hi ∧ hi ≤ l.length ∧ sz = q.size then some (.ap j (lo + n.toNat) 0) else none
          | _ => none
        | _ => none
      | none => none
    | some (.array k e) =>
      match T.ti e with
      | some q => if 0 ≤ n ∧ n < (k : Int) then addS x (n.toNat * q.size) else none
      | none => none
    | _ => none
  | _ => none
def qcr (T : Tab) (t : Nat) (x i : SV) : Option SV :=
  match T.und t, x, i with
  | some .str, .v (.string s), .v (.int _ n) => if 0 ≤ n then match s[n.toNat]? with | some b => some (.v (.int .u8 b.toNat)) | none => none else none
  | _, _, _ => none
def wP (n : Nat) (d : Nat) : Option SV → Option Nat
  | none => some d
  | some (.v (.int _ i)) => if 0 ≤ i ∧ i ≤ (n : Int) then some i.toNat else none
  | some _ => none
def wC (T : Tab) (os : List SO) (t : Nat) (x : SV) (lo hi : Option SV) : Option SV :=
  match T.und t with
  | some .str =>
    match x with
    | .v (.string s) =>
      match wP s.size s.size hi with
      | some h => match wP h 0 lo with | some l => some (.v (.string (s.extract l h))) | none => none
      | none => none
    | _ => none
  | some (.slice e) =>
    match T.ti e with
    | some q =>
      match x with
      | .osl j =>
        match os[j]? with
        | some (.arr _ sz l) =>
          match wP l.length l.length hi with
          | some h => match wP h 0 lo with | some o => if sz = q.size then some (.vw j o h) else none | none => none
          | none => none
        | some (.frz sz l) =>
          match wP l.length l.length hi with
          | some h => match wP h 0 lo with | some o => if sz = q.size then some (.sl sz ((l.take h).drop o)) else none | none => none
          | none => none
        | _ => none
      | .sl sz l =>
        match wP l.length l.length hi with
        | some h => match wP h 0 lo with | some o => if sz = q.size then some (.sl sz ((l.take h).drop o)) else none | none => none
        | none => none
      | _ => none
    | none => none
  | _ => none
def jQ (T : Tab) (t : Nat) (x hi m : SV) : Option SV :=
  match T.und t with
  | some (.slice e) =>
    match T.ti e with
    | some _ =>
      match x, hi, m with
      | .sl sz l, .v (.int _ h), .v (.int _ q) => if h = (l.length : Int) ∧ q = (l.length : Int) then some (.sl sz l) else none
      | _, _, _ => none
    | none => none
  | _ => none
def qhS (op : BinOp) (x y : ByteArray) : Option SV :=
  match op with
  | .add => if ((x.size + y.size : Nat) : Int) > IntKind.i64.max then none else some (.v (.string (x ++ y)))
  | .eql => some (.v (.bool (x.toList == y.toList)))
  | .neq => some (.v (.bool !(x.toList == y.toList)))
  | _ => none
def kZ (op : BinOp) (k : IntKind) (a b : Int) : Option SV :=
  match op with
  | .add => some (.v (.int k (k.wrap (a + b))))
  | .sub => some (.v (.int k (k.wrap (a - b))))
  | .mul => some (.v (.int k (k.wrap (a * b))))
  | .quo => if b = 0 then none else some (.v (.int k (k.wrap (a.tdiv b))))
  | .rem => if b = 0 then none else some (.v (.int k (a.tmod b)))
  | .xor => some (.v (.int k (k.wrap ((BitVec.ofInt k.bits a ^^^ BitVec.ofInt k.bits b).toNat))))
  | .and => some (.v (.int k (k.wrap ((BitVec.ofInt k.bits a &&& BitVec.ofInt k.bits b).toNat))))
  | .eql => some (.v (.bool (a == b)))
  | .neq => some (.v (.bool (a != b)))
  | .lss => some (.v (.bool (a < b)))
  | .leq => some (.v (.bool (a ≤ b)))
  | .gtr => some (.v (.bool (a > b)))
  | .geq => some (.v (.bool (a ≥ b)))
  | _ => none
def kt : List SV → List SV → Option Bool
  | [], [] => some true
  | .v (.int k a) :: xs, .v (.int k' b) :: ys =>
    if k = k' then match kt xs ys with | some r => some (a == b && r) | none => none else none
  | _, _ => none
def qw (T : Tab) (op : BinOp) (t : Nat) (x y : SV) : Option SV :=
  match x, y with
  | .v (.int k a), .v (.int k' b) =>
    match op with
    | .shl => none
    | .shr => if b < 0 then none else some (.v (.int k (a.fdiv (2 ^ min b.toNat k.bits))))
    | _ => if k = k' then kZ op k a b else none
  | .v (.string a), .v (.string b) => qhS op a b
  | .v (.bool a), .v (.bool b) =>
    match T.und t, op with
    | some .bool, .eql => some (.v (.bool (a == b)))
    | some .bool, .neq => some (.v (.bool !(a == b)))
    | _, _ => none
  | .ag a, .ag b =>
    match T.und t, T.ti t, op with
    | some (.eqs _), some i, .eql => if a.length = i.size then match kt a b with | some r => some (.v (.bool r)) | none => none else none
    | some (.eqs _), some i, .neq => if a.length = i.size then match kt a b with | some r => some (.v (.bool !r)) | none => none else none
    | _, _, _ => none
  | _, _ => none
def unS (op : UnOp) (x : SV) : Option SV :=
  match op, x with
  | .not, .v (.bool b) => some (.v (.bool !b))
  | .neg, .v (.int k n) => some (.v (.int k (k.wrap (0 - n))))
  | _, _ => none
def bytesOf : List SV → Option (List UInt8)
  | [] => some []
  | .v (.int .u8 n) :: xs => match bytesOf xs with | some r => some (UInt8.ofNat n.toNat :: r) | none => none
  | _ => none
def Qn (b : UInt8) : SV := .v (.int .u8 b.toNat)
def jf (T : Tab) (os : List SO) (src dst : Nat) (x : SV) : Option (SV × List SO) :=
  match T.und src, T.und dst, x with
  | some (.int _), some (.int k), .v (.int _ n) => some (.v (.int k (k.wrap n)), os)
  | some (.slice e), some .str, x =>
    match T.und e, xE os x with
    | some (.int .u8), some (1, l) => match bytesOf l with | some b => some (.v (.string ⟨b.toArray⟩), os) | none => none
    | _, _ => none
  | some .str, some (.slice e), .v (.string s) =>
    match T.und e with
    | some (.int .u8) => some (.osl os.length, os ++ [.arr false 1 (s.data.toList.map Qn)])
    | _ => none
  | some .str, some .str, .v (.string s) => some (.v (.string s), os)
  | _, _, _ => none
def qax (T : Tab) (os : List SO) (t : Nat) (n c : SV) : Option (SV × List SO) :=
  match T.und t, n, c with
  | some (.slice e), .v (.int _ n), .v (.int _ c) =>
    match T.ti e with
    | some i =>
      if 0 ≤ n ∧ n ≤ c ∧ i.bytes * c ≤ 2 ^ 47 ∧ c < 2 ^ 63 then
        match pack i.agg (qaw i.zero) with
        | some z => some (.osl os.length, os ++ [.arr false i.size (List.replicate n.toNat z)])
        | none => none
      else none
    | none => none
  | _, _, _ => none
def jg (fs : List (Nat × Nat)) (cs : List SV) : List (Nat × SV) → Option (List SV)
  | [] => some cs
  | (f, x) :: ps =>
    match fs[f]? with
    | some (off, _) => if off + x.cells.length ≤ cs.length ∧ x.cells.all xI = true then jg fs (y3 cs off x.cells) ps else none
    | none => none
def xb (T : Tab) (fs : List (Nat × Nat)) : List (Nat × Option SV) → List SO → Option (List (Nat × SV) × List SO)
  | [], os => some ([], os)
  | (f, x) :: ps, os =>
    match fs[f]? with
    | some (_, t) =>
      match T.ti t, evN T t os x with
      | some i, some (y, os1) =>
        if y.cells.length = i.size then
          match xb T fs ps os1 with
          | some (r, os2) => some ((f, y) :: r, os2)
          | none => none
        else none
      | _, _ => none
    | none => none
def zL (T : Tab) (os : List SO) (t : Nat) (parts : List (Nat × Option SV)) : Option (SV × List SO) :=
  match T.und t, T.ti t with
  | some u, some i =>
    match u.fields with
    | some fs =>
      match xb T fs parts os with
      | some (ps, os1) =>
        let z := xF i.zero os1
        match jg fs z.1 ps with
        | some cs => some (.ag cs, z.2)
        | none => none
      | none => none
    | none => none
  | _, _ => none
def qv (T : Tab) (os : List SO) (t n : Nat) (parts : List (Nat × SV)) : Option (SV × List SO) :=
  match T.und t with
  | some (.slice e) =>
    match T.ti e with
    | some i =>
      if parts.map (·.1) = List.range n ∧ n * i.size ≤ 2 ^ 24 then
        match QD (parts.map (·.2)) os with
        | some (l, os1) => if l.all (fun x => x.cells.length == i.size) = true then some (.osl os1.length, os1 ++ [.arr false i.size l]) else none
        | none => none
      else none
    | none => none
  | _ => none
def zx (T : Tab) (os : List SO) (t t' : Nat) (s x : SV) : Option (SV × List SO) :=
  match T.und t, T.und t', s with
  | some (.slice e), some (.slice _), .osl j =>
    match T.ti e, os[j]?, xE os x with
    | some i, some (.arr b sz l), some (sz', r) =>
      if sz = i.size ∧ sz' = sz ∧ i.bytes * (l.length + r.length) ≤ 2 ^ 47 ∧ 0 < i.bytes then
        some (.osl os.length, os.set j .dead ++ [.arr b sz (l ++ r)]) else none
    | _, _, _ => none
  | _, _, _ => none
def qfU (T : Tab) (os : List SO) (t : Nat) (d s : SV) : Option (SV × List SO) :=
  match T.und t, d, xE os s with
  | some (.slice e), .osl j, some (sz', r) =>
    match T.ti e, os[j]? with
    | some i, some (.arr b sz l) =>
      if sz = i.size ∧ sz' = sz then
        some (.v (.int .i64 ((min r.length l.length : Nat) : Int)), os.set j (.arr b sz (r.take (min r.length l.length) ++ l.drop (min r.length l.length)))) else none
    | _, _ => none
  | some (.slice e), .vw j lo hi, some (sz', r) =>
    match T.ti e, os[j]? with
    | some i, some (.arr b sz l) =>
      if sz = i.size ∧ lo ≤ hi ∧ hi ≤ l.length ∧ sz' = sz then
        some (.v (.int .i64 ((min r.length (hi - lo) : Nat) : Int)), os.set j (.arr b sz (l.take lo ++ r.take (min r.length (hi - lo)) ++ l.drop (lo + min r.length (hi - lo))))) else none
    | _, _ => none
  | _, _, _ => none
def ids0 : SV → List Nat
  | .ptr j _ => [j]
  | .ap j _ _ => [j]
  | _ => []
def ids1 : SV → List Nat
  | .ptr j _ => [j]
  | .ap j _ _ => [j]
  | .osl j => [j]
  | .vw j _ _ => [j]
  | .fn _ caps => caps.flatMap ids0
  | _ => []
def ids2 : SV → List Nat
  | .ag l => l.flatMap ids1
  | x => ids1 x
def ids3 : SV → List Nat
  | .tup l => l.flatMap ids2
  | x => ids2 x
def SO.ids : SO → List Nat
  | .box l => l.flatMap ids1
  | _ => []
def jh (os : List SO) : Nat → List Nat → List Nat → List Nat
  | 0, _, seen => seen
  | _, [], seen => seen
  | n + 1, j :: js, seen =>
    if seen.contains j then jh os n js seen
    else jh os n (js ++ (match os[j]? with | some o => o.ids | none => [])) (seen ++ [j])
def qay (ρ : Nat → Option Nat) : SV → SV
  | .v x => .v x
  | .sl sz l => .sl sz l
  | .undef => .undef
  | .ptr j o => match ρ j with | some i => .ptr i o | none => .dead
  | .ap j i o => match ρ j with | some k => .ap k i o | none => .dead
  | .osl j => match ρ j with | some i => .osl i | none => .dead
  | .vw j lo hi => match ρ j with | some i => .vw i lo hi | none => .dead
  | .el x o => .el x o
  | _ => .dead
def qfQ (ρ : Nat → Option Nat) : SV → SV
  | .fn f caps => .fn f (caps.map (qay ρ))
  | x => qay ρ x
def qfR (ρ : Nat → Option Nat) : SV → SV
  | .ag l => .ag (l.map (qfQ ρ))
  | x => qfQ ρ x
def qfV (ρ : Nat → Option Nat) : SV → SV
  | .tup l => .tup (l.map (qfR ρ))
  | x => qfR ρ x
def SO.ren (ρ : Nat → Option Nat) : SO → SO
  | .box l => .box (l.map (qfQ ρ))
  | o => o
def place (keep : List Nat) (j : Nat) : Option Nat :=
  match keep with
  | [] => none
  | k :: ks => if k = j then some 0 else match place ks j with | some i => some (i + 1) | none => none
def SO.lend : SO → SO
  | .arr _ sz l => .arr true sz l
  | o => o
def SO.own : SO → Bool
  | .arr true _ _ => false
  | _ => true
def xQ (os : List SO) (keep : List Nat) : SV → Option SV
  | .v x => some (.v x)
  | .sl sz l => some (.sl sz l)
  | .el x o => some (.el x o)
  | .ptr j o => match place keep j with | some i => some (.ptr i o) | none => none
  | .ap j i o => match place keep j with | some k => some (.ap k i o) | none => none
  | .fn f caps => some (.fn f (caps.map (qay (place keep))))
  | .osl j => match place keep j with | some i => some (.osl i) | none => match xE os (.osl j) with | some p => some (.sl p.1 p.2) | none => none
  | .vw j lo hi => match place keep j with | some _ => none | none => match xE os (.vw j lo hi) with | some p => some (.sl p.1 p.2) | none => none
  | _ => none
def yO (os : List SO) (keep : List Nat) : List SV → Option (List SV)
  | [] => some []
  | x :: xs => match xQ os keep x, yO os keep xs with | some y, some ys => some (y :: ys) | _, _ => none
def argV (os : List SO) (keep : List Nat) : SV → Option SV
  | .ag l => match yO os keep l with | some ys => some (.ag ys) | none => none
  | x => xQ os keep x
def QX (os : List SO) (keep : List Nat) : List SV → Option (List SV)
  | [] => some []
  | x :: xs => match argV os keep x, QX os keep xs with | some y, some ys => some (y :: ys) | _, _ => none
def qcs (own : Bool) (x : SV) : List Nat :=
  match x with
  | .ag l => l.flatMap fun y => match y with | .osl j => if own then [j] else [] | .vw _ _ _ => [] | y => ids1 y
  | .osl j => if own then [j] else []
  | .vw _ _ _ => []
  | x => ids1 x
def WG (own : Nat → Bool) : Nat → List SV → List Nat
  | _, [] => []
  | k, y :: ys => qcs (own k) y ++ WG own (k + 1000) ys
def Js (own : Nat → Bool) : Nat → List SV → List Nat
  | _, [] => []
  | k, x :: xs => WG own k x.cells ++ Js own (k + 100000) xs
def xR (own : Nat → Bool) (f : Nat) (args : List SV) : List Nat :=
  match own (f + 2000000) with
  | true => Js own (f + 3000000) args
  | false => args.flatMap (qcs (own f))
def kT (keep : List Nat) (x : SV) : List Nat :=
  x.cells.flatMap fun y => match y with
    | .osl j => match place keep j with | some _ => [] | none => [j]
    | .vw j _ _ => [j]
    | _ => []
def qi (x : SV) : Bool := x.cells.all fun y => match y with | .v _ => true | _ => false
def qg : SV → Bool
  | .v _ | .osl _ | .ptr _ _ | .fn _ [] | .dead => false
  | _ => true
def qh : SV → Bool
  | .tup l => l.any fun x => x.cells.any qg
  | x => x.cells.any qg
def SO.hasSl : SO → Bool
  | .dead => false
  | .box l => l.any qg
  | .arr _ _ l => !(l.all qi)
  | .frz _ _ => true
def ye : List Nat → Bool
  | [] => true
  | j :: js => !js.contains j && ye js
def yz (nl : Nat) (keep : List Nat) : Option (List Nat) :=
  if (keep.take nl == List.range nl && ye keep) = true then some keep else none
def gcO (keep : List Nat) (os : List SO) : List SO := keep.map fun j => (os.getD j .dead).ren (place keep)
def freeze : List Nat → List SO → Option (List SO)
  | [], os => some os
  | j :: js, os =>
    match os[j]? with
    | some (.arr false sz l) => freeze js (os.set j (.frz sz l))
    | some (.frz _ _) => freeze js os
    | _ => none
def we (β : Nat → Option Nat) : List Nat → List SO → List SO → Option (List SO)
  | [], _, os => some os
  | j :: js, o :: los, os =>
    match o, os[j]? with
    | .arr _ sz l, some (.arr b sz' _) => if sz = sz' then we β js los (os.set j (.arr b sz l)) else none
    | .box l, some (.box _) => we β js los (os.set j (.box (l.map (qfQ β))))
    | .frz _ _, some (.frz _ _) => we β js los os
    | _, _ => none
  | _ :: _, [], _ => none
def zJ (keep : List Nat) (n : Nat) (i : Nat) : Option Nat :=
  if i < keep.length then keep[i]? else some (n + (i - keep.length))
def SO.there : SO → Bool
  | .dead => false
  | _ => true
def qn (c : Cx) (os : List SO) (f : Nat) (args : List SV) : Out :=
  match yz 0 (jh os 100 (xR c.own f args) []) with
  | none => none
  | some keep =>
  match QX os keep args with
  | none => none
  | some as =>
  if (gcO keep os).all SO.there = true then
    match c.K f as ((gcO keep os).map SO.lend) with
    | none => none
    | some (r, los) =>
      match (if (c.own (f + 1000000) || (qh r || los.any SO.hasSl)) = true then freeze (args.flatMap (kT keep)) os else some os) with
      | none => none
      | some os0 =>
        match we (zJ keep os.length) keep los os0 with
        | none => none
        | some os1 =>
          if (los.drop keep.length).all SO.own = true then
            some (qfV (zJ keep os.length) r, os1 ++ (los.drop keep.length).map (SO.ren (zJ keep os.length)))
          else none
  else none
def nilA (T : Tab) (ty : Nat) : SV :=
  match T.und ty with
  | some (.slice e) => match T.ti e with | some i => .sl i.size [] | none => .dead
  | _ => .dead
def YV (T : Tab) (env : Env) (p : Operand × Nat) : SV :=
  match p.1 with
  | .const (.slice none 0 0) => nilA T p.2
  | x => ev env x
def wJ (c : Cx) (os : List SO) (f : SV) (args : List SV) : Out :=
  match f with
  | .fn f caps => qn c os f (args ++ caps)
  | _ => none
def minS : SV → SV → Option SV
  | .v (.int k x), .v (.int _ y) => some (.v (.int k (if y < x then y else x)))
  | _, _ => none
def maxS : SV → SV → Option SV
  | .v (.int k x), .v (.int _ y) => some (.v (.int k (if x < y then y else x)))
  | _, _ => none
def qc (x : Option SV) (os : List SO) : Out :=
  match x with
  | some y => some (y, os)
  | none => none
def ze (T : Tab) (t : Nat) (os : List SO) (x : SV) : Out :=
  match qiK T t os x with
  | some n => some (.v (.int .i64 (n : Int)), os)
  | none => none
def xx (c : Cx) (os : List SO) (b : Builtin) (ts : List Nat) (args : List SV) : Out :=
  match b, args with
  | .len, [x] => ze c.T (ts.getD 0 0) os x
  | .append, [s, x] => zx c.T os (ts.getD 0 0) (ts.getD 1 0) s x
  | .copy, [d, s] => qfU c.T os (ts.getD 0 0) d s
  | .min, [x, y] => qc (minS x y) os
  | .max, [x, y] => qc (maxS x y) os
  | _, _ => none
def qL (c a b : SV) : Option SV :=
  match c with
  | .v (.bool t) => some (if t then a else b)
  | _ => none
def ZP : SV → Option SV
  | .ptr j o => some (.ptr j o)
  | .ap j i o => some (.ap j i o)
  | .el x o => some (.el x o)
  | _ => none
def ql (x : SV) (i : Nat) : Option SV :=
  match x with
  | .tup l => l[i]?
  | _ => none
def qD (T : Tab) (os : List SO) (t : Nat) : Out :=
  match T.ti t with
  | some i => let z := xF i.zero os; some (.ptr z.2.length 0, z.2 ++ [.box z.1])
  | none => none
def wt (T : Tab) (os : List SO) (t : Nat) (x : Option SV) : Out :=
  match T.ti t, evN T t os x with
  | some i, some (y, os1) => if y.cells.length = i.size ∧ y.cells.all xI = true then some (.ptr os1.length 0, os1 ++ [.box y.cells]) else none
  | _, _ => none
def qp (T : Tab) (os : List SO) (t : Nat) (a : SV) (x : Option SV) : Out :=
  match evN T t os x with
  | some (y, os1) =>
    match qhR os1 y with
    | some (z, os2) => match QW T os2 t a z with | some os3 => some (.undef, os3) | none => none
    | none => none
  | none => none
def opS (c : Cx) (env : Env) (os : List SO) (o : Oper) : Out :=
  match o.op with
  | .move x => evN c.T o.type os (evP env x)
  | .assign x => evN c.T o.type os (evP env x)
  | .pick b x y => qc (qL (ev env b) (ev env x) (ev env y)) os
  | .alloc t => qD c.T os t
  | .box t x => wt c.T os t (evP env x)
  | .build t ps => zL c.T os t (ps.toList.map fun p => (p.1, evP env p.2))
  | .buildSlice t n ps => qv c.T os t n (ps.toList.map fun p => (p.1, ev env p.2))
  | .load t a => qc (qf c.T os t (ev env a)) os
  | .store t a x => qp c.T os t (ev env a) (evP env x)
  | .nilCheck x => qc (ZP (ev env x)) os
  | .binOp op t x y _ => qc (qw c.T op t (ev env x) (ev env y)) os
  | .unOp op _ x => qc (unS op (ev env x)) os
  | .convert s d x => jf c.T os s d (ev env x)
  | .makeSlice t n k => qax c.T os t (ev env n) (ev env k)
  | .slice t x lo hi none => qc (wC c.T os t (ev env x) (lo.map (ev env)) (hi.map (ev env))) os
  | .slice t x none (some h) (some m) => qc (jQ c.T t (ev env x) (ev env h) (ev env m)) os
  | .fieldAddr t x f => qc (qa c.T t (ev env x) f) os
  | .field t x f => qc (qcq c.T t (ev env x) f) os
  | .indexAddr t x i => qc (qj c.T os t (ev env x) (ev env i)) os
  | .index t x i => qc (qcr c.T t (ev env x) (ev env i)) os
  | .extract x i => qc (ql (ev env x) i) os
  | .makeFunc (.func f) fs caps => match fs.toList with | [] => some (.fn f (caps.toList.map (ev env)), os) | _ => none
  | .call { callee := .builtin b, args, argTypes } => if argTypes.size = args.size then xx c os b argTypes.toList (args.toList.map (ev env)) else none
  | .call { callee := .value f, args, argTypes } => if argTypes.size = args.size then wJ c os (ev env f) ((args.toList.zip argTypes.toList).map (YV c.T env)) else none
  | _ => none
def put (env : Env) (d : Option Nat) (x : SV) : Env :=
  match d with
  | some t => (t, x) :: env
  | none => env
def Qo (ops : List Oper) (env : Env) (j : Nat) : SV :=
  match ops[j]? with
  | some o => match o.dst with | some t => yN t env | none => .undef
  | none => .undef
def gd (g : SV) (want : Bool) (x : Out) (os : List SO) : Out :=
  match g with
  | .v (.bool b) => if b = want then x else some (.undef, os)
  | .dead => none
  | _ => some (.undef, os)
def op1 (c : Cx) (ops : List Oper) (env : Env) (os : List SO) (o : Oper) : Out :=
  match o.guard with
  | none => opS c env os o
  | some (j, want) => gd (Qo ops env j) want (opS c env os o) os
def ZZ (env : Env) (o : Oper) : Option SV :=
  match o.guard with
  | some _ => none
  | none =>
    match o.op with
    | .move x => evP env x
    | .assign x => evP env x
    | .makeFunc (.func f) fs caps => match fs.toList with | [] => some (.fn f (caps.toList.map (ev env))) | _ => none
    | _ => none
def jR (nt : Nat) (d : Option Nat) : Bool :=
  match d with
  | some t => Nat.blt t nt
  | none => true
def Z0 (c : Cx) (nt : Nat) (ops : List Oper) : List Oper → Env → List SO → (Env → List SO → Out) → Out
  | [], env, os, k => k env os
  | o :: rest, env, os, k =>
    match jR nt o.dst with
    | false => none
    | true =>
      match ZZ env o with
      | some x => Z0 c nt ops rest (put env o.dst x) os k
      | none => (op1 c ops env os o).bind fun r => Z0 c nt ops rest (put env o.dst r.1) r.2 k
structure Kt where
  n : Env → List SO → Out
  x : Nat → Env → List SO → Out
  r : Env → List SO → Out
def qE (b : SV) (x y : Out) : Out :=
  match b with
  | .v (.bool t) => if t = true then x else y
  | _ => none
def zB (alive : List Nat) (env : Env) : Env :=
  match alive with
  | t :: ts => (t, yN t env) :: zB ts env
  | [] => []
def killO (alive : Option (List Nat)) (env : Env) : Env :=
  match alive with
  | some l => zB l env
  | none => env
def gcK (nl : Nat) (env : Env) (os : List SO) : Option (List Nat) := yz nl (jh os 200 (List.range nl ++ env.flatMap fun p => ids3 p.2) [])
def renE (ρ : Nat → Option Nat) : Env → Env
  | [] => []
  | p :: ps => (p.1, qfV ρ p.2) :: renE ρ ps
inductive DT where
  | leaf (σ : List Nat)
  | split (i j : Nat) (a b : DT)
structure LpI where
  gc : Bool
  alive : List Nat
structure FnI where
  nt : Nat
  lp : Nat → LpI
  jn : Nat → Option (List Nat)
  dt : Nat → Option DT
def q8 (nl : Nat) (li : LpI) (f : Env → List SO → (Env → List SO → Out) → Out) : Nat → Env → List SO → Out
  | 0, _, _ => none
  | n + 1, env, os =>
    if li.gc = true then
      (gcK nl env os).bind fun keep => f (renE (place keep) env) (gcO keep os) fun env os => q8 nl li f n (zB li.alive env) os
    else f env os fun env os => q8 nl li f n (zB li.alive env) os
def kc : Code → Nat
  | .region id _ _ => id
  | .seq a _ => kc a
  | .block _ c => kc c
  | .loop c => kc c
  | _ => 0
inductive Cls where
  | p | rd | ld | ext | eff | call
def Cls.isE : Cls → Bool
  | .ext | .eff | .call => true
  | _ => false
def cls (T : Tab) (o : Op) : Cls :=
  match o with
  | .move (.const (.slice none 0 0)) => .ext
  | .assign (.const (.slice none 0 0)) => .ext
  | .move _ => .p
  | .assign _ => .p
  | .pick _ _ _ => .p
  | .nilCheck _ => .p
  | .binOp _ _ _ _ _ => .p
  | .unOp _ _ _ => .p
  | .fieldAddr _ _ _ => .p
  | .field _ _ _ => .p
  | .index _ _ _ => .p
  | .extract _ _ => .p
  | .makeFunc _ _ _ => .p
  | .load _ _ => .ld
  | .indexAddr _ _ _ => .rd
  | .slice _ _ _ _ _ => .rd
  | .call { callee := .builtin .len, .. } => .rd
  | .call { callee := .builtin .min, .. } => .p
  | .call { callee := .builtin .max, .. } => .p
  | .call { callee := .value _, .. } => .call
  | .alloc _ => .ext
  | .box _ _ => .ext
  | .build _ _ => .ext
  | .buildSlice _ _ _ => .ext
  | .convert s d _ => match T.und s, T.und d with | some (.int _), some (.int _) => .p | _, _ => .eff
  | _ => .eff
def wg (o : Oper) : List Nat := (o.after.toList.filter fun e => Region.binds .any e).map (·.on)
def qaz : List Nat → List Oper → List Nat
  | acc, [] => acc
  | acc, o :: os => qaz (acc ++ [(wg o).foldl (fun m e => m ||| (1 <<< e ||| acc.getD e 0)) 0]) os
def qco (ms : List Nat) (i j : Nat) : Bool := (ms.getD j 0).testBit i
def yr (ms : List Nat) (i j : Nat) : Bool := (Nat.blt i j && !(qco ms i j)) || (Nat.blt j i && !(qco ms j i))
def wD (ops : List Oper) (o : Oper) : List Nat :=
  (o.op.operands.toList.filterMap fun x => match x with | .tmp t => some t | _ => none) ++
  (match o.guard with | some (g, _) => (match ops[g]? with | some p => p.dst.toList | none => []) | none => [])
def Cls.notLd : Cls → Bool
  | .ld => false
  | _ => true
def Jt : Cls → Cls → Bool
  | .p, _ => true
  | _, .p => true
  | .rd, b => !b.isE
  | a, .rd => !a.isE
  | .ld, .ld => true
  | .ld, .ext => true
  | .ld, .call => true
  | .ext, .ld => true
  | .call, .ld => true
  | _, _ => false
def jS (T : Tab) (ops : List Oper) (ms : List Nat) (j : Nat) (o : Oper) (i : Nat) (q : Oper) : Bool :=
  (match q.dst, o.dst with | some s, some t => !(Nat.beq s t) || Nat.beq i j | _, _ => true) &&
  (match q.dst with | some s => !(wD ops o).contains s || ((Nat.blt i j && qco ms i j) || (Nat.blt j i && qco ms j i && (cls T o.op).notLd)) | none => true) &&
  (!(yr ms i j) || Jt (cls T q.op) (cls T o.op))
def qiL (f : Nat → Oper → Bool) : Nat → List Oper → Bool
  | _, [] => true
  | i, o :: os => f i o && qiL f (i + 1) os
def qct (T : Tab) (ops : List Oper) (ms : List Nat) : Bool :=
  qiL (fun j o => (wg o).all (fun e => Nat.blt e j) && qiL (jS T ops ms j o) 0 ops) 0 ops
def zv : SV → Bool
  | .ptr _ _ => true
  | .el _ _ => true
  | .undef => true   -- nothing is read there
  | _ => false
def boxIn (keep : List Nat) : SV → Bool
  | .ptr j _ => keep.contains j
  | .el _ _ => false
  | .undef => false   -- nothing is read there
  | _ => true
def zy (c : Cx) (os : List SO) (f : SV) (args : List SV) (ps : List SV) (e : Bool) : Bool :=
  match f with
  | .fn g caps =>
    let keep := jh os 100 (xR c.own g (args ++ caps)) []
    (!e || keep.isEmpty) && ps.all (fun p => !(boxIn keep p))
  | _ => false
def zQ (b : Bool) (x : Out) : Out :=
  match b with
  | true => x
  | false => none
def y4 (T : Tab) (ms : List Nat) (j : Nat) : Nat → List Oper → List (Nat × Operand)
  | _, [] => []
  | i, o :: os =>
    match o.op with
    | .load _ x => if yr ms i j = true then (i, x) :: y4 T ms j (i + 1) os else y4 T ms j (i + 1) os
    | _ => y4 T ms j (i + 1) os
def anyU (T : Tab) (ms : List Nat) (j : Nat) : Nat → List Oper → Bool
  | _, [] => false
  | i, o :: os => (yr ms i j && (cls T o.op).isE) || anyU T ms j (i + 1) os
def chkD (c : Cx) (ops : List Oper) (ms : List Nat) (j : Nat) (env : Env) (os : List SO) (o : Oper) (x : Out) : Out :=
  match o.op with
  | .load _ p => match anyU c.T ms j 0 ops with | true => zQ (zv (ev env p)) x | false => x
  | .call { callee := .value f, args, argTypes } =>
    match y4 c.T ms j 0 ops with
    | [] => x
    | l => zQ (zy c os (ev env f) ((args.toList.zip argTypes.toList).map (YV c.T env)) ((l.filter fun p => Nat.blt p.1 j).map fun p => ev env p.2) (l.any fun p => Nat.blt j p.1)) x
  | _ => x
def runD (c : Cx) (nt : Nat) (ops : List Oper) (ms : List Nat) : Nat → List Oper → Env → List SO → (Env → List SO → Out) → Out
  | _, [], env, os, k => k env os
  | j, o :: rest, env, os, k =>
    match jR nt o.dst with
    | false => none
    | true =>
      match ZZ env o with
      | some x => runD c nt ops ms (j + 1) rest (put env o.dst x) os k
      | none => chkD c ops ms j env os o ((op1 c ops env os o).bind fun r => runD c nt ops ms (j + 1) rest (put env o.dst r.1) r.2 k)
def xS (i : Nat) : List Nat → Nat
  | [] => 0
  | x :: xs => match Nat.beq x i with | true => 0 | false => xS i xs + 1
def xJ (C : List (Nat × Nat)) (σ : List Nat) (i : Nat) (o : Oper) : Oper :=
  { o with after := ((wg o ++ C.filterMap fun p => match Nat.beq p.2 i with | true => some p.1 | false => none).map fun e => { on := xS e σ, ground := .data }).toArray,
           guard := match o.guard with | some g => some (xS g.1 σ, g.2) | none => none }
def wK (C : List (Nat × Nat)) (σ : List Nat) (ops : List Oper) : List Oper :=
  σ.filterMap fun i => match ops[i]? with | some o => some (xJ C σ i o) | none => none
def qcu (σ : List Nat) (ops : List Oper) : Bool :=
  Nat.beq σ.length ops.length && ye σ && σ.all (fun i => Nat.blt i ops.length) && (List.range ops.length).all (fun i => σ.contains i) && ops.all fun o => match o.guard with | some g => Nat.blt g.1 ops.length | none => true
open Classical in
noncomputable def wZ (x y : Out) : Out := if x = y then x else none
def runL (c : Cx) (nt : Nat) (ops : List Oper) (env : Env) (os : List SO) (k : Env → List SO → Out) : Out :=
  match qct c.T ops (qaz [] ops) with
  | true => runD c nt ops (qaz [] ops) 0 ops env os k
  | false => none
noncomputable def runT (c : Cx) (nt : Nat) (ops : List Oper) (env : Env) (os : List SO) (k : Env → List SO → Out) : DT → List (Nat × Nat) → Out
  | .leaf σ, C =>
    match qcu σ ops with
    | true => runL c nt (wK C σ ops) env os k
    | false => none
  | .split i j a b, C =>
    match Nat.beq i j with
    | true => none
    | false => wZ (runT c nt ops env os k a (C ++ [(i, j)])) (runT c nt ops env os k b (C ++ [(j, i)]))
noncomputable def YX (c : Cx) (nt : Nat) (d : Option DT) (ops : List Oper) (env : Env) (os : List SO) (k : Env → List SO → Out) : Out :=
  match d with
  | none => runL c nt ops env os k
  | some t =>
    match qiL (fun j o => (wg o).all (fun e => Nat.blt e j)) 0 ops with
    | true => runT c nt ops env os k t []
    | false => none
def zu (f : Env → List SO → Kt → Out) (al : Option (List Nat)) (k : Kt) : Kt :=
  { n := fun env os => f (killO al env) os k, x := k.x, r := k.r }
def qu (id : Nat) (k : Kt) : Kt :=
  { n := k.n, x := fun i env os => if i = id then k.n env os else k.x i env os, r := k.r }
def qP (nx : Env → List SO → Out) (k : Kt) : Kt := { n := nx, x := k.x, r := k.r }
noncomputable def qA (c : Cx) (N nl : Nat) (fi : FnI) : Code → Env → List SO → Kt → Out
  | .skip, env, os, k => k.n env os
  | .region id ops draw, env, os, k =>
    match draw with
    | true => YX c fi.nt (fi.dt id) ops.toList env os k.n
    | false => Z0 c fi.nt ops.toList ops.toList env os k.n
  | .seq a b, env, os, k => qA c N nl fi a env os (zu (qA c N nl fi b) (fi.jn (kc b)) k)
  | .cond b x y, env, os, k => qE (ev env b) (qA c N nl fi x env os k) (qA c N nl fi y env os k)
  | .block id b, env, os, k => qA c N nl fi b env os (qu id k)
  | .loop b, env, os, k =>
    q8 nl (fi.lp (kc b)) (fun env os nx => qA c N nl fi b env os (qP nx k)) N (zB (fi.lp (kc b)).alive env) os
  | .exit i, env, os, k => k.x i env os
  | .ret, env, os, k => k.r env os
  | _, _, _, _ => none
def qcv (T : Tab) (env : Env) (os : List SO) : ResultVar → Option SV
  | .tmp t => some (yN t env)
  | .cell a t => qf T os t (yN a env)
def qx (x : Option SV) (xs : Option (List SV)) : Option (List SV) :=
  match x, xs with
  | some x, some xs => some (x :: xs)
  | _, _ => none
def yf (T : Tab) (env : Env) (os : List SO) : List ResultVar → Option (List SV)
  | [] => some []
  | r :: rs => qx (qcv T env os r) (yf T env os rs)
def QY (os : List SO) : SV → Option SV
  | .v x => some (.v x)
  | .sl sz l => some (.sl sz l)
  | .ptr j o => some (.ptr j o)
  | .fn f caps => some (.fn f caps)
  | .osl j => match os[j]? with | some (.arr _ _ _) => some (.osl j) | some (.frz sz l) => some (.sl sz l) | _ => none
  | _ => none
def ji (os : List SO) : List SV → Option (List SV)
  | [] => some []
  | x :: xs => match QY os x, ji os xs with | some y, some ys => some (y :: ys) | _, _ => none
def fixV (os : List SO) : SV → Option SV
  | .ag l => match ji os l with | some ys => some (.ag ys) | none => none
  | x => QY os x
def qaA (os : List SO) : List SV → Option (List SV)
  | [] => some []
  | x :: xs => match fixV os x, qaA os xs with | some y, some ys => some (y :: ys) | _, _ => none
def zq (T : Tab) (nl : Nat) (os : List SO) (xs : Option (List SV)) : Out :=
  match xs with
  | none => none
  | some xs =>
    match qaA os xs with
    | none => none
    | some ys =>
      match yz nl (jh os 200 (List.range nl ++ ys.flatMap ids2) []) with
      | none => none
      | some keep =>
        if ((keep.drop nl).all fun j => (os.getD j .dead).own) = true then
          some ((match ys with | [y] => qfR (place keep) y | ys => .tup (ys.map (qfR (place keep)))), gcO keep os)
        else none
def wQ (ms : List Nat) : Nat → List SV → List SO → Option (List SV × List SO)
  | _, [], os => some ([], os)
  | k, x :: xs, os =>
    match (match ms.contains k with | true => km os x | false => some (x, os)) with
    | some (y, os1) => match wQ ms (k + 1) xs os1 with | some (ys, os2) => some (y :: ys, os2) | none => none
    | none => none
def WH (ms : List Nat) : Nat → List SV → List SO → Option (List SV × List SO)
  | _, [], os => some ([], os)
  | k, x :: xs, os =>
    match (match x with | .ag l => (match wQ ms k l os with | some (l', os1) => some (.ag l', os1) | none => none) | x => (match ms.contains k with | true => km os x | false => some (x, os))) with
    | some (y, os1) => match WH ms (k + 100) xs os1 with | some (ys, os2) => some (y :: ys, os2) | none => none
    | none => none
def Ju (ms : List Nat) (os : List SO) : Option (List SO) :=
  match os[(0 : Nat)]? with
  | some (.box l) => match wQ ms 100000 l os with | some (l', os1) => some (os1.set 0 (.box l')) | none => none
  | _ => none
def kY (T : Tab) (ms : List Nat) (nl : Nat) (os : List SO) (xs : Option (List SV)) : Out :=
  match xs with
  | none => none
  | some xs =>
    match WH ms 0 xs os with
    | some (ys, os1) =>
      match (match ms.contains 99999 with | true => Ju ms os1 | false => some os1) with
      | some os2 => zq T nl os2 (some ys)
      | none => none
    | none => none
def retS (T : Tab) (ms : List Nat) (nl : Nat) (rs : List ResultVar) (env : Env) (os : List SO) : Out :=
  match ms with
  | [] => zq T nl os (yf T env os rs)
  | _ :: _ => kY T ms nl os (yf T env os rs)
def qV (T : Tab) (ms : List Nat) (nl : Nat) (rs : List ResultVar) : Kt := { n := retS T ms nl rs, x := fun _ _ _ => none, r := retS T ms nl rs }
def qM : Code → List Nat → Code
  | c, [] => c
  | .seq a b, d :: p => if d = 0 then qM a p else qM b p
  | .cond _ a b, d :: p => if d = 0 then qM a p else qM b p
  | .block _ c, _ :: p => qM c p
  | .loop c, _ :: p => qM c p
  | c, _ => c
def QZ : Nat → List SV → Env
  | _, [] => []
  | i, x :: xs => (i, x) :: QZ (i + 1) xs
def xd (sz by_ : Nat) : List SV → List SO → Out
  | [.sl s l], [] => if (l = [] ∨ s = sz) ∧ by_ * l.length ≤ 2 ^ 47 ∧ 0 < by_ then some (.osl 0, [.arr false sz l]) else none
  | _, _ => none
structure Prg where
  T : Tab
  own : Nat → Bool
  pur : Nat → List Nat
  code : Nat → Option Func
  fi : Nat → FnI
  prim : Nat → Option (List SV → List SO → Out)
noncomputable def qd (p : Prg) : Nat → Nat → List SV → List SO → Out
  | 0, _, _, _ => none
  | n + 1, f, args, os =>
    match p.prim f with
    | some q => q args os
    | none =>
      match p.code f with
      | none => none
      | some fn =>
        match fn.body with
        | none => none
        | some b =>
          qA ⟨p.T, p.own, qd p n⟩ (n + 1) os.length (p.fi f) b (QZ 0 args) os
            (qV p.T (p.pur f) os.length fn.results.toList)
def bd (A : Out) (f : SV → List SO → Out) : Out := Option.bind A fun r => f r.1 r.2
def gcB (nl : Nat) (xs : List SV) (os : List SO) (k : List SV → List SO → Out) : Out :=
  (yz nl (jh os 200 (List.range nl ++ xs.flatMap ids3) [])).bind fun keep => k (xs.map (qfV (place keep))) (gcO keep os)
end Go.Proofs.Ytfjbclgbpdlkgaa

/- The evaluator S: what its values and objects say of the model's memory. -/
namespace Go.Proofs.Ytfjbclgbpdlkgaa
open Go
set_option linter.unusedVariables false
set_option linter.unusedSimpArgs false
inductive Gh where
  | no
  | nil
  | blk (b sz n cap : Nat)
  | bx (b : Nat)
def Gh.block? : Gh → Option Nat
  | .blk b _ _ _ => some b
  | .bx b => some b
  | _ => none
def G0 : Nat → Gh := fun _ => .no
def zM (w : World) (b o : Nat) (cs : List Value) : Prop := ∀ k v, cs[k]? = some v → w.cell? ⟨b, o + k, none⟩ = some v
def zd (vs : List Value) : List Value := vs.flatMap fun v => v.cells.toList
def jT (sz : Nat) (v : Value) : Prop := v.cells.size = sz ∧ ∀ c, c ∈ v.cells.toList → c.oneCell' = true
inductive RepV (w : World) (B : Nat → Prop) : (Nat → Gh) → SV → Value → Prop
  | v {g : Nat → Gh} {x : Value} : Qm x = true → RepV w B g (.v x) x
  | undef {g : Nat → Gh} : RepV w B g .undef Go.undef
  | dead {g : Nat → Gh} {x : Value} : RepV w B g .dead x
  | sl0 {g : Nat → Gh} {a : Option Addr} {sz c : Nat} : RepV w B g (.sl sz []) (.slice a 0 c)
  | sl {g : Nat → Gh} {l : List SV} {vs : List Value} {sz b o c : Nat} : l.length = vs.length → (∀ (i : Nat) (x : SV) (v : Value), l[i]? = some x → vs[i]? = some v → RepV w B G0 x v) →
      (∀ v : Value, v ∈ vs → jT sz v) → zM w b o (zd vs) → B b → l.length ≤ c → RepV w B g (.sl sz l) (.slice (some ⟨b, o, none⟩) l.length c)
  | ag {g : Nat → Gh} {l : List SV} {vs : List Value} : l.length = vs.length → (∀ (i : Nat) (x : SV) (v : Value), l[i]? = some x → vs[i]? = some v → RepV w B g x v) →
      (∀ v : Value, v ∈ vs → v.oneCell' = true) → RepV w B g (.ag l) (.agg vs.toArray)
  | tup {g : Nat → Gh} {l : List SV} {vs : List Value} : l.length = vs.length → (∀ (i : Nat) (x : SV) (v : Value), l[i]? = some x → vs[i]? = some v → RepV w B g x v) →
      RepV w B g (.tup l) (.tuple vs.toArray)
  | osl0 {g : Nat → Gh} {j : Nat} : g j = .nil → RepV w B g (.osl j) (.slice none 0 0)
  | osl {g : Nat → Gh} {j b sz n cap : Nat} : g j = .blk b sz n cap → RepV w B g (.osl j) (.slice (some ⟨b, 0, none⟩) n cap)
  | vw0 {g : Nat → Gh} {j lo c : Nat} {a : Option Addr} : RepV w B g (.vw j lo lo) (.slice a 0 c)
  | vw {g : Nat → Gh} {j b sz n cap lo hi c : Nat} : g j = .blk b sz n cap → lo ≤ hi → hi ≤ n → hi - lo ≤ c →
      RepV w B g (.vw j lo hi) (.slice (some ⟨b, lo * sz, none⟩) (hi - lo) c)
  | ptr {g : Nat → Gh} {j b o : Nat} : g j = .bx b → RepV w B g (.ptr j o) (.pointer (some ⟨b, o, none⟩))
  | ap {g : Nat → Gh} {j b sz n cap i o : Nat} : g j = .blk b sz n cap → RepV w B g (.ap j i o) (.pointer (some ⟨b, i * sz + o, none⟩))
  | el {g : Nat → Gh} {x : SV} {u : Value} {b o k : Nat} : RepV w B G0 x u → zM w b o u.cells.toList → B b → RepV w B g (.el x k) (.pointer (some ⟨b, o + k, none⟩))
  | fn {g : Nat → Gh} {f : Nat} {caps : List SV} {vs : List Value} : caps.length = vs.length → (∀ (i : Nat) (x : SV) (v : Value), caps[i]? = some x → vs[i]? = some v → RepV w B g x v) →
      RepV w B g (.fn f caps) (.func (.func f) #[] vs.toArray)
def zU (w : World) (B : Nat → Prop) (g : Nat → Gh) (l : List SV) (vs : List Value) : Prop :=
  l.length = vs.length ∧ ∀ (i : Nat) (x : SV) (v : Value), l[i]? = some x → vs[i]? = some v → RepV w B g x v
def qaB (w : World) (b n : Nat) : Prop :=
  ∃ cs t fz, w.heap[b]? = some (.cells cs t fz) ∧ n ≤ cs.size ∧ ∀ o, o < cs.size → ¬ (fz.1 ≤ o ∧ o < fz.2)
def y7 (w : World) (B : Nat → Prop) (g : Nat → Gh) (j : Nat) : SO → Prop
  | .dead => True
  | .frz sz l => (l = [] ∧ g j = .nil) ∨ ∃ b cap vs, g j = .blk b sz l.length cap ∧ l.length ≤ cap ∧ B b ∧ zU w B G0 l vs ∧ (∀ v : Value, v ∈ vs → jT sz v) ∧ zM w b 0 (zd vs)
  | .arr _ sz l => (l = [] ∧ g j = .nil) ∨ ∃ b cap vs, g j = .blk b sz l.length cap ∧ l.length ≤ cap ∧ zU w B G0 l vs ∧ (∀ v : Value, v ∈ vs → jT sz v) ∧ zM w b 0 (zd vs) ∧ qaB w b (cap * sz)
  | .box l => ∃ b vs, g j = .bx b ∧ zU w B g l vs ∧ (∀ v : Value, v ∈ vs → v.oneCell' = true) ∧ zM w b 0 vs ∧ qaB w b vs.length
def SO.isLive : SO → Bool
  | .box _ | .arr _ _ _ => true
  | _ => false
def live (os : List SO) (g : Nat → Gh) (b : Nat) : Prop := ∃ j o, os[j]? = some o ∧ o.isLive = true ∧ (g j).block? = some b
structure Fr where
  N : Nat
  A : Nat → Prop
  L : Nat → Prop
  w0 : World
def Bk (fr : Fr) (os : List SO) (g : Nat → Gh) (w : World) (b : Nat) : Prop := b < w.heap.size ∧ (b < fr.N → fr.A b) ∧ ¬ live os g b
def z6 (w w' : World) : Prop := w'.os = w.os ∧ w'.tape = w.tape ∧ w'.output = w.output
theorem z6.refl (w : World) : z6 w w := ⟨rfl, rfl, rfl⟩
theorem z6.trans {w w' w'' : World} (h : z6 w w') (h' : z6 w' w'') : z6 w w'' := ⟨h'.1.trans h.1, h'.2.1.trans h.2.1, h'.2.2.trans h.2.2⟩
structure Mem (fr : Fr) (os : List SO) (g : Nat → Gh) (w : World) : Prop where
  objs : ∀ j o, os[j]? = some o → y7 w (Bk fr os g w) g j o
  fresh : ∀ j, os.length ≤ j → g j = .no
  inj : ∀ i j oi oj b, os[i]? = some oi → os[j]? = some oj → oi.isLive = true → oj.isLive = true → (g i).block? = some b → (g j).block? = some b → i = j
  own : ∀ b, live os g b → b < w.heap.size ∧ (b < fr.N → fr.L b)
  mine : ∀ j sz l b, os[j]? = some (.arr false sz l) → (g j).block? = some b → fr.N ≤ b
  frame : ∀ b, b < fr.N → ¬ fr.L b → w.heap[b]? = fr.w0.heap[b]?
  size : fr.N ≤ w.heap.size
  out : z6 fr.w0 w
def ws (w : World) (B : Nat → Prop) (g : Nat → Gh) (env : Env) (tmps : Array Value) : Prop :=
  ∀ t, RepV w B g (yN t env) (tmps.getD t undef)
structure Grow (fr : Fr) (os : List SO) (g : Nat → Gh) (w : World) (os' : List SO) (g' : Nat → Gh) (w' : World) : Prop where
  sub : ∀ b, Bk fr os g w b → Bk fr os' g' w' b
  same : ∀ b, Bk fr os g w b → w'.heap[b]? = w.heap[b]?
  ext : ∀ j, g j ≠ .no → g' j = g j
theorem jU {w w' : World} {b : Nat} (h : w'.heap[b]? = w.heap[b]?) (o : Nat) : w'.cell? ⟨b, o, none⟩ = w.cell? ⟨b, o, none⟩ := by
  simp only [World.cell?, h]
theorem zM.heap {w w' : World} {b o : Nat} {cs : List Value} (h : zM w b o cs) (e : w'.heap[b]? = w.heap[b]?) : zM w' b o cs :=
  fun k v hk => by rw [jU e]; exact h k v hk
theorem RepV.mono {w w' : World} {B B' : Nat → Prop} {g : Nat → Gh} {x : SV} {v : Value} (h : RepV w B g x v)
    (hB : ∀ b, B b → B' b) (hw : ∀ b, B b → w'.heap[b]? = w.heap[b]?) : ∀ g', (∀ j, g j ≠ .no → g' j = g j) → RepV w' B' g' x v := by
  induction h with
  | v h => exact fun _ _ => .v h
  | undef => exact fun _ _ => .undef
  | dead => exact fun _ _ => .dead
  | sl0 => exact fun _ _ => .sl0
  | sl h1 h2 h3 h4 h5 h6 ih => exact fun _ _ => .sl h1 (fun i x v a b => ih i x v a b G0 (fun j hj => absurd rfl hj)) h3 (h4.heap (hw _ h5)) (hB _ h5) h6
  | ag h1 h2 h3 ih => exact fun g' hg => .ag h1 (fun i x v a b => ih i x v a b g' hg) h3
  | tup h1 h2 ih => exact fun g' hg => .tup h1 (fun i x v a b => ih i x v a b g' hg)
  | osl0 h => exact fun g' hg => .osl0 (by rw [hg _ (by rw [h]; simp)]; exact h)
  | osl h => exact fun g' hg => .osl (by rw [hg _ (by rw [h]; simp)]; exact h)
  | vw0 => exact fun _ _ => .vw0
  | vw h a b c => exact fun g' hg => .vw (by rw [hg _ (by rw [h]; simp)]; exact h) a b c
  | ptr h => exact fun g' hg => .ptr (by rw [hg _ (by rw [h]; simp)]; exact h)
  | ap h => exact fun g' hg => .ap (by rw [hg _ (by rw [h]; simp)]; exact h)
  | el h1 h2 h3 ih => exact fun _ _ => .el (ih G0 (fun j hj => absurd rfl hj)) (h2.heap (hw _ h3)) (hB _ h3)
  | fn h1 h2 ih => exact fun g' hg => .fn h1 (fun i x v a b => ih i x v a b g' hg)
theorem zU.mono {w w' : World} {B B' : Nat → Prop} {g g' : Nat → Gh} {l : List SV} {vs : List Value} (h : zU w B g l vs)
    (hB : ∀ b, B b → B' b) (hw : ∀ b, B b → w'.heap[b]? = w.heap[b]?) (hg : ∀ j, g j ≠ .no → g' j = g j) : zU w' B' g' l vs :=
  ⟨h.1, fun i x v a b => (h.2 i x v a b).mono hB hw g' hg⟩
theorem RepV.grow {fr : Fr} {os os' : List SO} {g g' : Nat → Gh} {w w' : World} {x : SV} {v : Value} (h : RepV w (Bk fr os g w) g x v)
    (hg : Grow fr os g w os' g' w') : RepV w' (Bk fr os' g' w') g' x v := h.mono hg.sub hg.same g' hg.ext
theorem ws.grow {fr : Fr} {os os' : List SO} {g g' : Nat → Gh} {w w' : World} {env : Env} {tmps : Array Value} (h : ws w (Bk fr os g w) g env tmps)
    (hg : Grow fr os g w os' g' w') : ws w' (Bk fr os' g' w') g' env tmps := fun t => (h t).grow hg
theorem Grow.refl (fr : Fr) (os : List SO) (g : Nat → Gh) (w : World) : Grow fr os g w os g w := ⟨fun _ h => h, fun _ _ => rfl, fun _ _ => rfl⟩
theorem Grow.trans {fr : Fr} {os os' os'' : List SO} {g g' g'' : Nat → Gh} {w w' w'' : World} (h : Grow fr os g w os' g' w') (h' : Grow fr os' g' w' os'' g'' w'') :
    Grow fr os g w os'' g'' w'' :=
  ⟨fun b hb => h'.sub b (h.sub b hb), fun b hb => (h'.same b (h.sub b hb)).trans (h.same b hb), fun j hj => by
    rw [h'.ext j (by rw [h.ext j hj]; exact hj), h.ext j hj]⟩
theorem y7.mono {w w' : World} {B B' : Nat → Prop} {g g' : Nat → Gh} {j : Nat} {o : SO} (h : y7 w B g j o)
    (hB : ∀ b, B b → B' b) (hw : ∀ b, B b → w'.heap[b]? = w.heap[b]?) (hg : ∀ j, g j ≠ .no → g' j = g j)
    (hb : ∀ b, o.isLive = true → (g j).block? = some b → w'.heap[b]? = w.heap[b]?) : y7 w' B' g' j o := by
  cases o with
  | dead => trivial
  | frz sz l =>
    rcases h with ⟨a, b⟩ | ⟨b, cap, vs, h1, h2, h3, h4, h5, h6⟩
    · exact .inl ⟨a, by rw [hg _ (by rw [b]; simp)]; exact b⟩
    · exact .inr ⟨b, cap, vs, by rw [hg _ (by rw [h1]; simp)]; exact h1, h2, hB _ h3, h4.mono hB hw (fun j hj => absurd rfl hj), h5, h6.heap (hw _ h3)⟩
  | arr lt sz l =>
    rcases h with ⟨a, b⟩ | ⟨b, cap, vs, h1, h2, h3, h4, h5, h6⟩
    · exact .inl ⟨a, by rw [hg _ (by rw [b]; simp)]; exact b⟩
    · have e := hb b rfl (by rw [h1]; rfl)
      refine .inr ⟨b, cap, vs, by rw [hg _ (by rw [h1]; simp)]; exact h1, h2, h3.mono hB hw (fun j hj => absurd rfl hj), h4, h5.heap e, ?_⟩
      obtain ⟨cs, t, fz, a, c, d⟩ := h6
      exact ⟨cs, t, fz, by rw [e]; exact a, c, d⟩
  | box l =>
    obtain ⟨b, vs, h1, h2, h3, h4, h5⟩ := h
    have e := hb b rfl (by rw [h1]; rfl)
    refine ⟨b, vs, by rw [hg _ (by rw [h1]; simp)]; exact h1, h2.mono hB hw hg, h3, h4.heap e, ?_⟩
    obtain ⟨cs, t, fz, a, c, d⟩ := h5
    exact ⟨cs, t, fz, by rw [e]; exact a, c, d⟩
theorem WI {v : Value} (h : Qm v = true) : v.cells = #[v] := by
  cases v <;> first | rfl | simp [Qm] at h
theorem Z1 {v : Value} (h : Qm v = true) : v.oneCell' = true := by
  cases v <;> first | rfl | simp [Qm] at h
theorem RepV.cells {w : World} {B : Nat → Prop} {g : Nat → Gh} {x : SV} {v : Value} (h : RepV w B g x v) (hx : x ≠ .dead) : zU w B g x.cells v.cells.toList := by
  have one : ∀ {x : SV} {v : Value}, RepV w B g x v → x.cells = [x] → v.cells = #[v] → zU w B g x.cells v.cells.toList := by
    intro x v h e1 e2
    rw [e1, e2]
    refine ⟨rfl, fun i y c hy hc => ?_⟩
    cases i with
    | zero => simp at hy hc; subst hy; subst hc; exact h
    | succ i => simp at hy
  cases h with
  | ag h1 h2 h3 => exact ⟨by simpa [SV.cells, Value.cells] using h1, by simpa [SV.cells, Value.cells] using h2⟩
  | dead => exact absurd rfl hx
  | v h => exact one (.v h) rfl (WI h)
  | undef => exact one .undef rfl rfl
  | sl0 => exact one .sl0 rfl rfl
  | sl h1 h2 h3 h4 h5 h6 => exact one (.sl h1 h2 h3 h4 h5 h6) rfl rfl
  | tup h1 h2 => exact one (.tup h1 h2) rfl rfl
  | osl0 h => exact one (.osl0 h) rfl rfl
  | osl h => exact one (.osl h) rfl rfl
  | vw0 => exact one .vw0 rfl rfl
  | vw h a b c => exact one (.vw h a b c) rfl rfl
  | ptr h => exact one (.ptr h) rfl rfl
  | ap h => exact one (.ap h) rfl rfl
  | el h1 h2 h3 => exact one (.el h1 h2 h3) rfl rfl
  | fn h1 h2 => exact one (.fn h1 h2) rfl rfl
theorem RepV.size {w : World} {B : Nat → Prop} {g : Nat → Gh} {x : SV} {v : Value} (h : RepV w B g x v) (hx : x ≠ .dead) : x.cells.length = v.cells.size := by
  have := (h.cells hx).1; simpa using this
theorem wU {w : World} {B : Nat → Prop} {g : Nat → Gh} {x : SV} {v : Value} (h : RepV w B g x v) (hx : xI x = true) : v.oneCell' = true := by
  cases h <;> simp [xI] at hx <;> first | rfl | (apply Z1; assumption)
theorem zU.nil {w : World} {B : Nat → Prop} {g : Nat → Gh} : zU w B g [] [] := ⟨rfl, fun i x v h => by simp at h⟩
theorem zU.cons {w : World} {B : Nat → Prop} {g : Nat → Gh} {x : SV} {v : Value} {l : List SV} {vs : List Value} (h : RepV w B g x v) (hl : zU w B g l vs) :
    zU w B g (x :: l) (v :: vs) :=
  ⟨by simp [hl.1], fun i y c hy hc => by
    cases i with
    | zero => simp at hy hc; subst hy; subst hc; exact h
    | succ i => exact hl.2 i y c (by simpa using hy) (by simpa using hc)⟩
theorem zU.uncons {w : World} {B : Nat → Prop} {g : Nat → Gh} {x : SV} {l : List SV} {vs : List Value} (h : zU w B g (x :: l) vs) :
    ∃ v vs', vs = v :: vs' ∧ RepV w B g x v ∧ zU w B g l vs' := by
  cases vs with
  | nil => simp [zU] at h
  | cons v vs => exact ⟨v, vs, rfl, h.2 0 x v rfl rfl, by simpa using h.1, fun i y c hy hc => h.2 (i + 1) y c (by simpa using hy) (by simpa using hc)⟩
theorem zU.get {w : World} {B : Nat → Prop} {g : Nat → Gh} {l : List SV} {vs : List Value} (h : zU w B g l vs) {i : Nat} {x : SV} (hx : l[i]? = some x) :
    ∃ v, vs[i]? = some v ∧ RepV w B g x v := by
  have hi : i < l.length := by
    rcases Nat.lt_or_ge i l.length with h' | h'
    · exact h'
    · simp [List.getElem?_eq_none h'] at hx
  have hv : i < vs.length := h.1 ▸ hi
  exact ⟨vs[i], by simp [hv], h.2 i x _ hx (by simp [hv])⟩
theorem zU.append {w : World} {B : Nat → Prop} {g : Nat → Gh} {l l' : List SV} {vs vs' : List Value} (h : zU w B g l vs) (h' : zU w B g l' vs') :
    zU w B g (l ++ l') (vs ++ vs') :=
  ⟨by simp [h.1, h'.1], fun i x v hx hv => by
    have e := h.1
    rcases Nat.lt_or_ge i l.length with hi | hi
    · rw [List.getElem?_append_left hi] at hx; rw [List.getElem?_append_left (e ▸ hi)] at hv; exact h.2 i x v hx hv
    · rw [List.getElem?_append_right hi] at hx; rw [List.getElem?_append_right (e ▸ hi)] at hv; rw [e] at hx; exact h'.2 _ x v hx hv⟩
theorem zU.take {w : World} {B : Nat → Prop} {g : Nat → Gh} {l : List SV} {vs : List Value} (h : zU w B g l vs) (n : Nat) : zU w B g (l.take n) (vs.take n) :=
  ⟨by simp [h.1], fun i x v hx hv => by
    rw [List.getElem?_take] at hx hv
    split at hx
    · rename_i hi; rw [if_pos hi] at hv; exact h.2 i x v hx hv
    · simp at hx⟩
theorem zU.drop {w : World} {B : Nat → Prop} {g : Nat → Gh} {l : List SV} {vs : List Value} (h : zU w B g l vs) (n : Nat) : zU w B g (l.drop n) (vs.drop n) :=
  ⟨by simp [h.1], fun i x v hx hv => by
    rw [List.getElem?_drop] at hx hv; exact h.2 _ x v hx hv⟩
theorem zM.append {w : World} {b o : Nat} {xs ys : List Value} (h : zM w b o xs) (h' : zM w b (o + xs.length) ys) : zM w b o (xs ++ ys) := by
  intro k v hk
  rcases Nat.lt_or_ge k xs.length with hi | hi
  · exact h k v (by rwa [List.getElem?_append_left hi] at hk)
  · rw [List.getElem?_append_right hi] at hk
    have := h' _ v hk
    rwa [show o + xs.length + (k - xs.length) = o + k by omega] at this
theorem zM.take {w : World} {b o : Nat} {xs : List Value} (h : zM w b o xs) (n : Nat) : zM w b o (xs.take n) := by
  intro k v hk
  rw [List.getElem?_take] at hk
  split at hk
  · exact h k v hk
  · simp at hk
theorem zM.drop {w : World} {b o : Nat} {xs : List Value} (h : zM w b o xs) (n : Nat) : zM w b (o + n) (xs.drop n) := by
  intro k v hk
  rw [List.getElem?_drop] at hk
  have := h _ v hk
  rwa [show o + (n + k) = o + n + k by omega] at this
theorem yA {vs : List Value} {sz : Nat} (h : ∀ v, v ∈ vs → jT sz v) : ∀ i, (zd vs).drop (i * sz) = zd (vs.drop i) := by
  intro i
  induction i generalizing vs with
  | zero => simp
  | succ i ih =>
    cases vs with
    | nil => simp [zd]
    | cons v vs =>
      have hv := (h v (by simp)).1
      have e : (zd (v :: vs)).drop sz = zd vs := by
        simp only [zd, List.flatMap_cons]
        rw [List.drop_append_of_le_length (by simp [hv])]
        simp [List.drop_eq_nil_of_le, hv]
      rw [show (i + 1) * sz = sz + i * sz by rw [Nat.succ_mul]; omega, ← List.drop_drop, e]
      simpa using ih (vs := vs) (fun x hx => h x (by simp [hx]))
theorem zN {vs : List Value} {sz : Nat} (h : ∀ v, v ∈ vs → jT sz v) : (zd vs).length = vs.length * sz := by
  induction vs with
  | nil => simp [zd]
  | cons v vs ih =>
    have := ih (fun x hx => h x (by simp [hx]))
    have hv := (h v (by simp)).1
    simp only [zd, List.flatMap_cons, List.length_append, List.length_cons] at this ⊢
    rw [this]; simp [hv, Nat.succ_mul]; omega
theorem yB {vs : List Value} {sz : Nat} (h : ∀ v, v ∈ vs → jT sz v) : ∀ i, (zd vs).take (i * sz) = zd (vs.take i) := by
  intro i
  induction i generalizing vs with
  | zero => simp [zd]
  | succ i ih =>
    cases vs with
    | nil => simp [zd]
    | cons v vs =>
      have hv := (h v (by simp)).1
      have := ih (vs := vs) (fun x hx => h x (by simp [hx]))
      simp only [zd, List.flatMap_cons, List.take_succ_cons] at this ⊢
      rw [show (i + 1) * sz = v.cells.toList.length + i * sz by rw [Nat.succ_mul]; simp [hv]; omega, List.take_length_add_append, this]
theorem kH (vs us : List Value) : zd (vs ++ us) = zd vs ++ zd us := by simp [zd]
theorem Z2 {vs : List Value} {sz i : Nat} {v : Value} (h : ∀ v, v ∈ vs → jT sz v) (hv : vs[i]? = some v) {w : World} {b o : Nat}
    (hc : zM w b o (zd vs)) : zM w b (o + i * sz) v.cells.toList := by
  have h1 := hc.drop (i * sz)
  rw [yA h] at h1
  have hi : i < vs.length := by
    rcases Nat.lt_or_ge i vs.length with h' | h'
    · exact h'
    · simp [List.getElem?_eq_none h'] at hv
  have e : vs.drop i = v :: vs.drop (i + 1) := by
    rw [List.drop_eq_getElem_cons hi]
    congr 1
    simpa [hi] using hv
  rw [e] at h1
  have h2 := h1.take v.cells.size
  simp only [zd, List.flatMap_cons] at h2
  rwa [show v.cells.size = v.cells.toList.length by simp, List.take_left'] at h2
  rfl
end Go.Proofs.Ytfjbclgbpdlkgaa

/- The evaluator S: what is asked of the table of types; how memory may change; operations that only read. -/
namespace Go.Proofs.Ytfjbclgbpdlkgaa
open Go
set_option linter.unusedVariables false
set_option linter.unusedSimpArgs false
def KO : TypeDesc → Bool
  | .struct _ | .array _ _ => true
  | _ => false
def xe : List Value → List Value → Option Bool
  | [], [] => some true
  | .int k a :: xs, .int k' b :: ys => if k = k' then match xe xs ys with | some r => some (a == b && r) | none => none else none
  | _, _ => none
structure TiOk (P : Program) (t : Nat) (i : TI) : Prop where
  ok : ∃ info z d, P.info? t = some info ∧ info.size = i.size ∧ info.bytes = i.bytes ∧ info.zero = some z ∧ z.cells.toList = i.zero.map ZK.val ∧
    P.underlying t = some d ∧ KO d = i.agg ∧ ((i.agg = true → ∃ cs, z = .agg cs) ∧ (i.agg = false → z.oneCell' = true)) ∧ i.zero.length = i.size
structure TabOk (P : Program) (T : Tab) : Prop where
  ti : ∀ t i, T.ti t = some i → TiOk P t i
  str : ∀ t, T.und t = some .str → P.underlying t = some .string
  bool : ∀ t, T.und t = some .bool → P.underlying t = some .bool
  int : ∀ t k, T.und t = some (.int k) → P.underlying t = some (.int k)
  slice : ∀ t e, T.und t = some (.slice e) → P.underlying t = some (.slice e)
  array : ∀ t n e, T.und t = some (.array n e) → P.underlying t = some (.array n e)
  struct : ∀ t u fs, T.und t = some u → u.fields = some fs → ∃ fields : Array Field, P.underlying t = some (.struct fields) ∧ fields.toList.map (fun f => (f.offset, f.type)) = fs ∧ ∀ f, f ∈ fields.toList → (P.info? f.type).isSome = true
  eqs : ∀ t fs i, T.und t = some (.eqs fs) → T.ti t = some i → P.eqGuardType P.depth t = false ∧
    ∀ (xs ys : List Value) (r : Bool) (w : World), xe xs ys = some r → xs.length = i.size → (Op.equal t (.agg xs.toArray) (.agg ys.toArray)).run P w = .ok r w
variable {P : Program} {T : Tab}
theorem KP {t : TypeId} {i : TypeInfo} (h : P.info? t = some i) (w : World) : (typeInfo t).run P w = .ok i w := by simp [typeInfo, h]
theorem kx {t : TypeId} {i : TypeInfo} (h : P.info? t = some i) (w : World) : (sizeOf t).run P w = .ok i.size w := by simp [sizeOf, KP h]
theorem QH {t : TypeId} {i : TypeInfo} {z : Value} (h : P.info? t = some i) (hz : i.zero = some z) (w : World) : (zeroValue t).run P w = .ok z w := by simp [zeroValue, KP h, hz]
theorem Q0 {t : TypeId} {d : TypeDesc} (h : P.underlying t = some d) (w : World) : (isAgg t).run P w = .ok (KO d) w := by
  unfold isAgg KO
  simp only [Sem.run_bind, run_underlying h, Result.andThen_ok]
  cases d <;> rfl
theorem qaC {t : Nat} {i : TI} (hi : TiOk P t i) {w : World} {b o : Nat} {cs : List Value} (hc : zM w b o cs) (hl : i.size ≤ cs.length) :
    (i.agg = true → (Instr.loadAt t (.pointer (some ⟨b, o, none⟩))).run P w = .ok (.agg (cs.take i.size).toArray) w) ∧
    (∀ v, i.agg = false → cs[0]? = some v → (Instr.loadAt t (.pointer (some ⟨b, o, none⟩))).run P w = .ok v w) := by
  obtain ⟨info, z, d, h1, h2, h3, h4, h5, h6, h7, h8, h9⟩ := hi.ok
  refine ⟨fun ha => ?_, fun v ha hv => ?_⟩
  · have hl' : (cs.take i.size).length = i.size := by simp [hl]
    have hr := run_loadCells_list (P := P) w ⟨b, o, none⟩ (cs.take i.size) (fun j v hj => by rw [Addr.add_lit]; exact hc.take _ j v hj)
    rw [hl'] at hr
    simp only [Instr.loadAt, Instr.sureAddr, loadVar, Sem.run_bind, Sem.run_pure, Result.andThen_ok, Q0 h6, h7, ha, if_true, kx h1, h2, hr]
  · have := hc 0 v hv
    simp only [Nat.add_zero] at this
    simp only [Instr.loadAt, Instr.sureAddr, loadVar, Sem.run_bind, Sem.run_pure, Result.andThen_ok, Q0 h6, h7, ha, Bool.false_eq_true, if_false, run_load, this]
theorem KQ {w : World} {B : Nat → Prop} {g : Nat → Gh} {agg : Bool} {l : List SV} {x : SV} {vs : List Value} (h : pack agg l = some x) (hl : zU w B g l vs) :
    (agg = true → RepV w B g x (.agg vs.toArray)) ∧ (agg = false → ∃ v, vs[0]? = some v ∧ RepV w B g x v) := by
  unfold pack at h
  split at h
  · rename_i ha
    split at h
    · rename_i hok
      obtain rfl := Option.some.inj h
      refine ⟨fun _ => .ag hl.1 hl.2 (fun v hv => ?_), fun e => by simp [ha] at e⟩
      obtain ⟨i, hi, rfl⟩ := List.mem_iff_getElem.1 hv
      have hi' : i < l.length := by rw [hl.1]; exact hi
      exact wU (hl.2 i l[i] vs[i] (by simp [hi']) (by simp [hi])) (List.all_eq_true.1 hok _ (List.getElem_mem hi'))
    · simp at h
  · rename_i ha
    split at h
    · obtain rfl := Option.some.inj h
      obtain ⟨v, vs', rfl, hv, _⟩ := hl.uncons
      exact ⟨fun e => absurd e ha, fun _ => ⟨v, rfl, hv⟩⟩
    · simp at h
theorem Q2 {x : SV} {l : List SV} (h : QV x = some l) : x ≠ .dead ∧ l = x.cells := by
  cases x <;> simp [QV] at h <;> (subst h; exact ⟨by simp, rfl⟩)
theorem WJ {fr : Fr} {os : List SO} {g : Nat → Gh} {w : World} (hm : Mem fr os g w) {p : SV} {pv : Value} {l : List SV}
    (hp : RepV w (Bk fr os g w) g p pv) (h : kP os p = some l) :
    ∃ b o vs, pv = .pointer (some ⟨b, o, none⟩) ∧ zU w (Bk fr os g w) g l vs ∧ zM w b o vs := by
  cases p <;> simp only [kP] at h <;> try (simp at h; done)
  · rename_i j off
    split at h
    · rename_i l' hj
      obtain rfl := Option.some.inj h
      obtain ⟨b, vs, h1, h2, h3, h4, h5⟩ := hm.objs _ _ hj
      cases hp with
      | ptr hp =>
        rw [h1] at hp
        cases hp
        exact ⟨_, off, vs.drop off, rfl, h2.drop _, by simpa using h4.drop off⟩
    · simp at h
  · rename_i j i off
    split at h
    · rename_i lt sz l' hj
      split at h
      · rename_i x hx
        obtain ⟨xc, hxc, rfl⟩ := Option.map_eq_some_iff.1 h
        obtain ⟨hd, rfl⟩ := Q2 hxc
        cases hp with
        | ap hp =>
          rcases hm.objs _ _ hj with ⟨rfl, _⟩ | ⟨b, cap, vs, h1, h2, h3, h4, h5, h6⟩
          · simp at hx
          · rw [h1] at hp
            cases hp
            obtain ⟨u, hu, hr⟩ := h3.get hx
            have hc := Z2 h4 hu h5
            have hr' : RepV w (Bk fr os g w) g x u := hr.mono (fun _ h => h) (fun _ _ => rfl) g (fun j hj => absurd rfl hj)
            exact ⟨_, _, u.cells.toList.drop off, rfl, (hr'.cells hd).drop _, by simpa using hc.drop off⟩
      · simp at h
    · simp at h
  · rename_i x off
    obtain ⟨xc, hxc, rfl⟩ := Option.map_eq_some_iff.1 h
    obtain ⟨hd, rfl⟩ := Q2 hxc
    cases hp with
    | el h1 h2 h3 =>
      rename_i u b o
      have hr' : RepV w (Bk fr os g w) g x u := h1.mono (fun _ h => h) (fun _ _ => rfl) g (fun j hj => absurd rfl hj)
      exact ⟨b, _, u.cells.toList.drop off, rfl, (hr'.cells hd).drop _, h2.drop off⟩
theorem Jv (hT : TabOk P T) {fr : Fr} {os : List SO} {g : Nat → Gh} {w : World} (hm : Mem fr os g w) {t : Nat} {p x : SV} {pv : Value}
    (hp : RepV w (Bk fr os g w) g p pv) (h : qf T os t p = some x) : ∃ v, (Instr.loadAt t pv).run P w = .ok v w ∧ RepV w (Bk fr os g w) g x v := by
  unfold qf at h
  split at h
  · rename_i i hi
    split at h
    · rename_i l hl
      split at h
      · rename_i hle
        obtain ⟨b, o, vs, rfl, hr, hc⟩ := WJ hm hp hl
        have hle' : i.size ≤ vs.length := hr.1 ▸ hle
        obtain ⟨r1, r2⟩ := qaC (P := P) (hT.ti t i hi) hc hle'
        obtain ⟨p1, p2⟩ := KQ h (hr.take i.size)
        cases ha : i.agg with
        | true => exact ⟨_, r1 ha, p1 ha⟩
        | false =>
          obtain ⟨v, hv, hv'⟩ := p2 ha
          refine ⟨v, r2 v ha ?_, hv'⟩
          rw [List.getElem?_take] at hv
          split at hv
          · exact hv
          · simp at hv
      · simp at h
    · simp at h
  · simp at h
end Go.Proofs.Ytfjbclgbpdlkgaa

/- The evaluator S: operations that only read are sound. -/
namespace Go.Proofs.Ytfjbclgbpdlkgaa
open Go
set_option linter.unusedVariables false
set_option linter.unusedSimpArgs false
variable {P : Program} {T : Tab}
theorem qiM {w : World} {B : Nat → Prop} {g : Nat → Gh} (v : Value) : RepV w B g (cst v) v := by
  unfold cst
  split
  · exact .sl0
  · split
    · rename_i h; exact .v h
    · exact .dead
theorem kf {w : World} {B : Nat → Prop} {g : Nat → Gh} {env : Env} {a : Act} (hs : ws w B g env a.tmps) (x : Operand) : RepV w B g (ev env x) (a.eval x) := by
  cases x with
  | tmp t => exact hs t
  | const v => exact qiM v
  | func f => exact RepV.fn (caps := []) (vs := []) rfl (fun i x v h => by simp at h)
  | global n => exact .dead
theorem qcw {w : World} {B : Nat → Prop} {g : Nat → Gh} {p q : SV} {pv : Value} {n : Nat} (hp : RepV w B g p pv) (h : addS p n = some q) :
    ∃ b o, pv = .pointer (some ⟨b, o, none⟩) ∧ RepV w B g q (.pointer (some ⟨b, o + n, none⟩)) := by
  cases p <;> simp only [addS] at h <;> try (simp at h; done)
  · obtain rfl := Option.some.inj h
    cases hp with
    | ptr hp => exact ⟨_, _, rfl, .ptr hp⟩
  · obtain rfl := Option.some.inj h
    cases hp with
    | ap hp => exact ⟨_, _, rfl, by rw [Nat.add_assoc]; exact .ap hp⟩
  · obtain rfl := Option.some.inj h
    cases hp with
    | el h1 h2 h3 => exact ⟨_, _, rfl, by rw [Nat.add_assoc]; exact .el h1 h2 h3⟩
theorem WK (hT : TabOk P T) {s f off t : Nat} {u : UK} {fs : List (Nat × Nat)} (hu : T.und s = some u) (hf : u.fields = some fs) (hx : fs[f]? = some (off, t)) :
    ∃ (fields : Array Field) (fd : Field), P.underlying s = some (.struct fields) ∧ fields[f]? = some fd ∧ fd.offset = off ∧ fd.type = t := by
  obtain ⟨fields, h1, h2, _⟩ := hT.struct s u fs hu hf
  rw [← h2, List.getElem?_map] at hx
  obtain ⟨fd, h3, h4⟩ := Option.map_eq_some_iff.1 hx
  refine ⟨fields, fd, h1, by simpa using h3, ?_, ?_⟩ <;> (injection h4)
theorem KR (hT : TabOk P T) {w : World} {B : Nat → Prop} {g : Nat → Gh} {s f : Nat} {p x : SV} {pv : Value}
    (hp : RepV w B g p pv) (h : qa T s p f = some x) : ∃ v, (Instr.fieldAt s pv f).run P w = .ok v w ∧ RepV w B g x v := by
  unfold qa at h
  split at h
  · rename_i u hu
    split at h
    · rename_i fs hf
      split at h
      · rename_i off t hx
        split at h
        · rename_i i hi
          split at h
          · simp at h
          · rename_i hz
            obtain ⟨fields, fd, h1, h2, h3, h4⟩ := WK hT hu hf hx
            obtain ⟨info, z, d, i1, i2, i3, i4, i5, i6, i7, i8, i9⟩ := (hT.ti t i hi).ok
            obtain ⟨b, o, rfl, hr⟩ := qcw hp h
            refine ⟨_, ?_, hr⟩
            have i1' : P.info? fd.type = some info := by rw [h4]; exact i1
            have hz' : ¬ info.size = 0 := by rw [i2]; exact hz
            simp [Instr.fieldAt, run_underlying h1, h2, Instr.sureAddr, fieldPlace, kx i1', hz', Addr.add_lit, h3]
        · simp at h
      · simp at h
    · simp at h
  · simp at h
theorem WL {t : Nat} {i : TI} (hi : TiOk P t i) (w : World) (vs : List Value) (off : Nat) :
    (i.agg = true → (part t vs.toArray off).run P w = .ok (.agg ((vs.drop off).take i.size).toArray) w) ∧
    (∀ v, i.agg = false → vs[off]? = some v → (part t vs.toArray off).run P w = .ok v w) := by
  obtain ⟨info, z, d, i1, i2, i3, i4, i5, i6, i7, i8, i9⟩ := hi.ok
  refine ⟨fun ha => ?_, fun v ha hv => ?_⟩
  · simp only [part, Sem.run_bind, Q0 i6, i7, ha, Result.andThen_ok, if_true, kx i1, Sem.run_pure]
    congr 2
    rw [i2]
    apply Array.ext'
    simp [List.take_drop, Nat.add_comm]
  · simp only [part, Sem.run_bind, Q0 i6, i7, ha, Result.andThen_ok, Bool.false_eq_true, if_false]
    simp [hv]
theorem qcx (hT : TabOk P T) {w : World} {B : Nat → Prop} {g : Nat → Gh} {s f : Nat} {p x : SV} {pv : Value}
    (hp : RepV w B g p pv) (h : qcq T s p f = some x) : ∃ v, (Instr.field s pv f).run P w = .ok v w ∧ RepV w B g x v := by
  unfold qcq at h
  split at h
  · rename_i u hu
    split at h
    · rename_i fs hf
      split at h
      · rename_i off t hx
        split at h
        · rename_i i l hi
          split at h
          · rename_i hle
            obtain ⟨fields, fd, h1, h2, h3, h4⟩ := WK hT hu hf hx
            have hti := hT.ti t i hi
            cases hp with
            | ag a1 a2 a3 =>
              rename_i vs
              have hr : zU w B g ((l.drop off).take i.size) ((vs.drop off).take i.size) := (zU.drop ⟨a1, a2⟩ off).take i.size
              obtain ⟨q1, q2⟩ := WL (P := P) hti w vs off
              obtain ⟨p1, p2⟩ := KQ h hr
              cases ha : i.agg with
              | true => exact ⟨_, by simp [Instr.field, run_underlying h1, h2, asAgg, h3, h4, q1 ha], p1 ha⟩
              | false =>
                obtain ⟨v, hv, hv'⟩ := p2 ha
                refine ⟨v, ?_, hv'⟩
                have hv2 : vs[off]? = some v := by
                  rw [List.getElem?_take] at hv
                  split at hv
                  · rw [List.getElem?_drop] at hv; simpa using hv
                  · simp at hv
                have := q2 v ha hv2
                simp [Instr.field, run_underlying h1, h2, asAgg, h3, h4, this]
          · simp at h
        · simp at h
      · simp at h
    · simp at h
  · simp at h
theorem Q3 {w : World} {B : Nat → Prop} {g : Nat → Gh} {v : Value} {k : IntKind} {n : Int} (h : RepV w B g (.v (.int k n)) v) : v = .int k n := by
  cases h; rfl
theorem G0_any {w : World} {B : Nat → Prop} {g : Nat → Gh} {x : SV} {v : Value} (h : RepV w B G0 x v) : RepV w B g x v :=
  h.mono (fun _ h => h) (fun _ _ => rfl) g (fun j hj => absurd rfl hj)
theorem wA {t e : Nat} {info : TypeInfo} (ht : P.underlying t = some (.slice e)) (he : P.info? e = some info) (w : World) (b o len c : Nat) (k : IntKind) (n : Int)
    (h0 : 0 ≤ n) (h1 : n < (len : Int)) :
    (Instr.indexAt t (.slice (some ⟨b, o, none⟩) len c) (.int k n)).run P w = .ok (.pointer (some ⟨b, o + n.toNat * info.size, none⟩)) w := by
  simp [Instr.indexAt, asIntOf, run_underlying ht, h0, h1, kx he, Addr.add_lit]
theorem qcy {w : World} {B : Nat → Prop} {l : List SV} {vs : List Value} {sz b o : Nat} (h1 : l.length = vs.length) (h2 : ∀ (i : Nat) (x : SV) (v : Value), l[i]? = some x → vs[i]? = some v → RepV w B G0 x v)
    (h3 : ∀ v : Value, v ∈ vs → jT sz v) (h4 : zM w b o (zd vs)) (h5 : B b) {i : Nat} {x : SV} (h : elS l i = some x) {g : Nat → Gh} :
    RepV w B g x (.pointer (some ⟨b, o + i * sz, none⟩)) ∧ i < l.length := by
  unfold elS at h
  split at h
  · rename_i y hy
    obtain rfl := Option.some.inj h
    obtain ⟨u, hu, hr⟩ := zU.get ⟨h1, h2⟩ hy
    have := RepV.el (g := g) (k := 0) hr (Z2 h3 hu h4) h5
    refine ⟨by simpa using this, ?_⟩
    rcases Nat.lt_or_ge i l.length with h' | h'
    · exact h'
    · simp [List.getElem?_eq_none h'] at hy
  · simp at h
theorem KS (hT : TabOk P T) {fr : Fr} {os : List SO} {g : Nat → Gh} {w : World} (hm : Mem fr os g w) {t : Nat} {x i r : SV} {xv iv : Value}
    (hx : RepV w (Bk fr os g w) g x xv) (hi : RepV w (Bk fr os g w) g i iv) (h : qj T os t x i = some r) :
    ∃ v, (Instr.indexAt t xv iv).run P w = .ok v w ∧ RepV w (Bk fr os g w) g r v := by
  unfold qj at h
  split at h
  · rename_i k n
    obtain rfl := Q3 hi
    split at h
    · rename_i e hu
      have ht := hT.slice t e hu
      split at h
      · rename_i q hq
        obtain ⟨info, z, d, i1, i2, i3, i4, i5, i6, i7, i8, i9⟩ := (hT.ti e q hq).ok
        split at h
        · rename_i sz l
          split at h
          · rename_i h0
            obtain ⟨h0, rfl⟩ := h0
            cases hx with
            | sl0 => simp [elS] at h
            | sl h1 h2 h3 h4 h5 h6 =>
              obtain ⟨hr, hlt⟩ := qcy h1 h2 h3 h4 h5 h (g := g)
              exact ⟨_, wA ht i1 w _ _ _ _ k n h0 (by omega), by rw [i2]; exact hr⟩
          · simp at h
        · rename_i j
          split at h
          · rename_i lt sz l hj
            split at h
            · rename_i hc
              obtain ⟨h0, h1, rfl⟩ := hc
              obtain rfl := Option.some.inj h
              rcases hm.objs _ _ hj with ⟨rfl, _⟩ | ⟨b, cap, vs, e1, e2, e3, e4, e5, e6⟩
              · simp at h1; omega
              · cases hx with
                | osl0 hg => rw [e1] at hg; cases hg
                | osl hg =>
                  rw [e1] at hg
                  cases hg
                  refine ⟨_, wA ht i1 w _ _ _ _ k n h0 h1, ?_⟩
                  rw [i2, Nat.zero_add]
                  simpa using RepV.ap (w := w) (B := Bk fr os g w) (i := n.toNat) (o := 0) e1
            · simp at h
          · rename_i sz l hj
            split at h
            · rename_i h0
              obtain ⟨h0, rfl⟩ := h0
              rcases hm.objs _ _ hj with ⟨rfl, _⟩ | ⟨b, cap, vs, e1, e2, e3, e4, e5, e6⟩
              · simp [elS] at h
              · cases hx with
                | osl0 hg => rw [e1] at hg; cases hg
                | osl hg =>
                  rw [e1] at hg
                  cases hg
                  obtain ⟨hr, hlt⟩ := qcy e4.1 e4.2 e5 e6 e3 h (g := g)
                  exact ⟨_, wA ht i1 w _ _ _ _ k n h0 (by omega), by rw [i2]; exact hr⟩
            · simp at h
          · simp at h
        · rename_i j lo hi'
          split at h
          · rename_i lt sz l hj
            split at h
            · rename_i hc
              obtain ⟨h0, h1, h2, h3, rfl⟩ := hc
              obtain rfl := Option.some.inj h
              cases hx with
              | vw0 => simp at h1; omega
              | vw hg a1 a2 a3 =>
                rcases hm.objs _ _ hj with ⟨rfl, hn⟩ | ⟨b, cap, vs, e1, e2, e3, e4, e5, e6⟩
                · rw [hn] at hg; cases hg
                · rw [e1] at hg
                  cases hg
                  refine ⟨_, wA ht i1 w _ _ _ _ k n h0 h1, ?_⟩
                  rw [i2, ← Nat.add_mul]
                  simpa using RepV.ap (w := w) (B := Bk fr os g w) (i := lo + n.toNat) (o := 0) e1
            · simp at h
          · simp at h
        · simp at h
      · simp at h
    · rename_i kk e hu
      have ht := hT.array t kk e hu
      split at h
      · rename_i q hq
        obtain ⟨info, z, d, i1, i2, i3, i4, i5, i6, i7, i8, i9⟩ := (hT.ti e q hq).ok
        split at h
        · rename_i hc
          obtain ⟨b, o, rfl, hr⟩ := qcw hx h
          refine ⟨_, ?_, hr⟩
          simp [Instr.indexAt, asIntOf, run_underlying ht, Instr.sureAddr, hc.1, hc.2, kx i1, Addr.add_lit, i2]
        · simp at h
      · simp at h
    · simp at h
  · simp at h
theorem qcz (hT : TabOk P T) {w : World} {B : Nat → Prop} {g : Nat → Gh} {t : Nat} {x i r : SV} {xv iv : Value}
    (hx : RepV w B g x xv) (hi : RepV w B g i iv) (h : qcr T t x i = some r) :
    ∃ v, (Instr.index t xv iv).run P w = .ok v w ∧ RepV w B g r v := by
  unfold qcr at h
  split at h
  · rename_i s k n hu
    obtain rfl := Q3 hi
    cases hx
    split at h
    · rename_i h0
      split at h
      · rename_i b hb
        obtain rfl := Option.some.inj h
        exact ⟨.int .u8 b.toNat, by simp [Instr.index, asIntOf, run_underlying (hT.str t hu), h0, hb], .v rfl⟩
      · simp at h
    · simp at h
  · simp at h
theorem KT {w : World} {B : Nat → Prop} {g : Nat → Gh} {n d : Nat} {x : Option SV} {v : Option Value} {r : Nat} (h : wP n d x = some r)
    (hn : x = none → v = none) (hs : ∀ y, x = some y → ∃ u, v = some u ∧ RepV w B g y u) :
    (v = none ∧ r = d) ∨ ∃ k i, v = some (.int k i) ∧ 0 ≤ i ∧ i ≤ (n : Int) ∧ r = i.toNat := by
  unfold wP at h
  split at h
  · exact .inl ⟨hn rfl, (Option.some.inj h).symm⟩
  · rename_i k i
    split at h
    · rename_i hc
      obtain ⟨u, rfl, hu⟩ := hs _ rfl
      exact .inr ⟨k, i, by rw [Q3 hu], hc.1, hc.2, (Option.some.inj h).symm⟩
    · simp at h
  · simp at h
theorem ke {w : World} (k : IntKind) (i : Int) (y : Nat) (code : BoundsCode) (h0 : 0 ≤ i) (h1 : i ≤ (y : Int)) :
    (Instr.sliceBound (.int k i) y code).run P w = .ok i.toNat w := by
  simp [Instr.sliceBound, asIntOf, h0, h1]
theorem zW {w : World} {B : Nat → Prop} {g : Nat → Gh} {isSlice : Bool} {len cap : Nat} {lo hi : Option SV} {lov hiv : Option Value} {l h : Nat} (hc : len ≤ cap)
    (hh : wP len len hi = some h) (hl : wP h 0 lo = some l) (hin : hi = none → hiv = none) (his : ∀ y, hi = some y → ∃ u, hiv = some u ∧ RepV w B g y u)
    (lon : lo = none → lov = none) (los : ∀ y, lo = some y → ∃ u, lov = some u ∧ RepV w B g y u) :
    (Instr.sliceBounds isSlice len cap lov hiv none).run P w = .ok (l, h, cap) w ∧ l ≤ h ∧ h ≤ len := by
  rcases KT hh hin his with ⟨rfl, rfl⟩ | ⟨k, i, rfl, i0, i1, rfl⟩
  · rcases KT hl lon los with ⟨rfl, rfl⟩ | ⟨k', i', rfl, j0, j1, rfl⟩
    · exact ⟨by simp [Instr.sliceBounds], by omega, by omega⟩
    · exact ⟨by simp [Instr.sliceBounds, ke k' i' _ _ j0 j1], by omega, by omega⟩
  · rcases KT hl lon los with ⟨rfl, rfl⟩ | ⟨k', i', rfl, j0, j1, rfl⟩
    · exact ⟨by simp [Instr.sliceBounds, ke k i _ _ i0 (show i ≤ (cap : Int) by omega)], by omega, by omega⟩
    · exact ⟨by simp [Instr.sliceBounds, ke k i _ _ i0 (show i ≤ (cap : Int) by omega), ke k' i' _ _ j0 j1], by omega, by omega⟩
theorem qcA {w : World} {B : Nat → Prop} {l : List SV} {vs : List Value} {sz b o c : Nat} (h1 : l.length = vs.length) (h2 : ∀ (i : Nat) (x : SV) (v : Value), l[i]? = some x → vs[i]? = some v → RepV w B G0 x v)
    (h3 : ∀ v : Value, v ∈ vs → jT sz v) (h4 : zM w b o (zd vs)) (h5 : B b) (h6 : l.length ≤ c) {lo hi : Nat} (hl : lo ≤ hi) (hh : hi ≤ l.length) {g : Nat → Gh} :
    RepV w B g (.sl sz ((l.take hi).drop lo)) (.slice (if c = lo then some ⟨b, o, none⟩ else some ⟨b, o + lo * sz, none⟩) (hi - lo) (c - lo)) := by
  by_cases e : lo = hi
  · subst e
    rw [Nat.sub_self, List.drop_eq_nil_of_le (by simp; omega)]
    exact .sl0
  · have hlt : lo < hi := by omega
    rw [if_neg (by omega)]
    have e2 : hi - lo = ((l.take hi).drop lo).length := by simp; omega
    rw [e2]
    refine .sl (vs := (vs.take hi).drop lo) (sz := sz) (by simp [h1]) ?_ ?_ ?_ h5 (by simp; omega)
    · exact (zU.drop (zU.take ⟨h1, h2⟩ hi) lo).2
    · intro v hv; exact h3 v (List.mem_of_mem_take (List.mem_of_mem_drop hv))
    · have := (h4.take (hi * sz)).drop (lo * sz)
      rw [yB h3, yA (fun v hv => h3 v (List.mem_of_mem_take hv))] at this
      exact this
theorem wa {t e : Nat} {info : TypeInfo} (ht : P.underlying t = some (.slice e)) (he : P.info? e = some info) {w : World} {a : Option Addr} {n c l h : Nat} {lov hiv : Option Value}
    (hb : (Instr.sliceBounds true n c lov hiv none).run P w = .ok (l, h, c) w) :
    (Instr.sliceAt t (.slice a n c) lov hiv none).run P w = .ok (.slice (if c = l then a else a.map (·.add (l * info.size))) (h - l) (c - l)) w := by
  simp [Instr.sliceAt, run_underlying ht, Instr.slice, hb, kx he]
theorem qcB (hT : TabOk P T) {fr : Fr} {os : List SO} {g : Nat → Gh} {w : World} (hm : Mem fr os g w) {t : Nat} {x r : SV} {xv : Value} {lo hi : Option SV} {lov hiv : Option Value}
    (hx : RepV w (Bk fr os g w) g x xv) (hin : hi = none → hiv = none) (his : ∀ y, hi = some y → ∃ u, hiv = some u ∧ RepV w (Bk fr os g w) g y u)
    (lon : lo = none → lov = none) (los : ∀ y, lo = some y → ∃ u, lov = some u ∧ RepV w (Bk fr os g w) g y u) (h : wC T os t x lo hi = some r) :
    ∃ v, (Instr.sliceAt t xv lov hiv none).run P w = .ok v w ∧ RepV w (Bk fr os g w) g r v := by
  unfold wC at h
  split at h
  · rename_i hu
    have ht := hT.str t hu
    split at h
    · rename_i s
      cases hx
      split at h
      · rename_i hh hhe
        split at h
        · rename_i ll hle
          obtain rfl := Option.some.inj h
          obtain ⟨h1, h2, h3⟩ := zW (P := P) (w := w) (isSlice := false) (Nat.le_refl s.size) hhe hle hin his lon los
          exact ⟨.string (s.extract ll hh), by simp [Instr.sliceAt, run_underlying ht, Instr.slice, h1], .v rfl⟩
        · simp at h
      · simp at h
    · simp at h
  · rename_i e hu
    have ht := hT.slice t e hu
    split at h
    · rename_i q hq
      obtain ⟨info, z, d, i1, i2, i3, i4, i5, i6, i7, i8, i9⟩ := (hT.ti e q hq).ok
      split at h
      · rename_i j
        split at h
        · rename_i lt sz l hj
          split at h
          · rename_i hh hhe
            split at h
            · rename_i ll hle
              split at h
              · rename_i hsz
                subst hsz
                obtain rfl := Option.some.inj h
                rcases hm.objs _ _ hj with ⟨rfl, hn⟩ | ⟨b, cap, vs, e1, e2, e3, e4, e5, e6⟩
                · cases hx with
                  | osl0 _ =>
                    obtain ⟨h1, h2, h3⟩ := zW (P := P) (w := w) (isSlice := true) (Nat.le_refl 0) hhe hle hin his lon los
                    have : hh = 0 := by simpa using h3
                    subst this
                    obtain rfl : ll = 0 := by omega
                    exact ⟨_, wa ht i1 h1, by simpa using RepV.vw0⟩
                  | osl hg => rw [hn] at hg; cases hg
                · cases hx with
                  | osl0 hg => rw [e1] at hg; cases hg
                  | osl hg =>
                    rw [e1] at hg
                    cases hg
                    obtain ⟨h1, h2, h3⟩ := zW (P := P) (w := w) (isSlice := true) e2 hhe hle hin his lon los
                    refine ⟨_, wa ht i1 h1, ?_⟩
                    by_cases hlc : cap = ll
                    · obtain rfl : hh = ll := by omega
                      rw [Nat.sub_self]; exact .vw0
                    · rw [if_neg hlc, i2]
                      simp only [Option.map_some, Addr.add_lit, Nat.zero_add]
                      exact .vw e1 h2 h3 (by omega)
              · simp at h
            · simp at h
          · simp at h
        · rename_i sz l hj
          split at h
          · rename_i hh hhe
            split at h
            · rename_i ll hle
              split at h
              · rename_i hsz
                subst hsz
                obtain rfl := Option.some.inj h
                rcases hm.objs _ _ hj with ⟨rfl, hn⟩ | ⟨b, cap, vs, e1, e2, e3, e4, e5, e6⟩
                · cases hx with
                  | osl0 _ =>
                    obtain ⟨h1, h2, h3⟩ := zW (P := P) (w := w) (isSlice := true) (Nat.le_refl 0) hhe hle hin his lon los
                    have : hh = 0 := by simpa using h3
                    subst this
                    obtain rfl : ll = 0 := by omega
                    exact ⟨_, wa ht i1 h1, by simpa using RepV.sl0⟩
                  | osl hg => rw [hn] at hg; cases hg
                · cases hx with
                  | osl0 hg => rw [e1] at hg; cases hg
                  | osl hg =>
                    rw [e1] at hg
                    cases hg
                    obtain ⟨h1, h2, h3⟩ := zW (P := P) (w := w) (isSlice := true) e2 hhe hle hin his lon los
                    refine ⟨_, wa ht i1 h1, ?_⟩
                    have := qcA e4.1 e4.2 e5 e6 e3 e2 h2 h3 (g := g)
                    simpa [i2, Addr.add_lit] using this
              · simp at h
            · simp at h
          · simp at h
        · simp at h
      · rename_i sz l
        split at h
        · rename_i hh hhe
          split at h
          · rename_i ll hle
            split at h
            · rename_i hsz
              subst hsz
              obtain rfl := Option.some.inj h
              cases hx with
              | sl0 =>
                rename_i a c
                obtain ⟨h1, h2, h3⟩ := zW (P := P) (w := w) (isSlice := true) (Nat.zero_le c) hhe hle hin his lon los
                have : hh = 0 := by simpa using h3
                subst this
                obtain rfl : ll = 0 := by omega
                exact ⟨_, wa ht i1 h1, by simpa using RepV.sl0⟩
              | sl b1 b2 b3 b4 b5 b6 =>
                obtain ⟨h1, h2, h3⟩ := zW (P := P) (w := w) (isSlice := true) b6 hhe hle hin his lon los
                refine ⟨_, wa ht i1 h1, ?_⟩
                have := qcA b1 b2 b3 b4 b5 b6 h2 h3 (g := g)
                simpa [i2, Addr.add_lit] using this
            · simp at h
          · simp at h
        · simp at h
      · simp at h
    · simp at h
  · simp at h
theorem qaD (hT : TabOk P T) {w : World} {B : Nat → Prop} {g : Nat → Gh} {t : Nat} {x hi m r : SV} {xv hv mv : Value} (hx : RepV w B g x xv) (hh : RepV w B g hi hv) (hm : RepV w B g m mv) (h : jQ T t x hi m = some r) :
    ∃ v, (Instr.sliceAt t xv none (some hv) (some mv)).run P w = .ok v w ∧ RepV w B g r v := by
  unfold jQ at h
  split at h
  · rename_i e hu
    have ht := hT.slice t e hu
    split at h
    · rename_i q hq
      obtain ⟨info, z, d, i1, i2, i3, i4, i5, i6, i7, i8, i9⟩ := (hT.ti e q hq).ok
      split at h
      · rename_i sz l k1 n1 k2 n2
        split at h
        · rename_i hc
          obtain ⟨rfl, rfl⟩ := hc
          obtain rfl := Option.some.inj h
          rw [Q3 hh, Q3 hm]
          have run : ∀ (a : Option Addr) (c : Nat), l.length ≤ c → (Instr.sliceAt t (.slice a l.length c) none (some (.int k1 (l.length : Int))) (some (.int k2 (l.length : Int)))).run P w = .ok (.slice (if l.length = 0 then a else a.map (·.add (0 * info.size))) (l.length - 0) (l.length - 0)) w := fun a c hc => by
            have b1 := ke (P := P) (w := w) k2 (l.length : Int) c .slice3Acap (by omega) (by omega)
            have b2 := ke (P := P) (w := w) k1 (l.length : Int) l.length .slice3B (by omega) (by omega)
            rw [Int.toNat_natCast] at b1 b2
            simp [Instr.sliceAt, run_underlying ht, Instr.slice, Instr.sliceBounds, b1, b2, kx i1]
          have hadd : ∀ (b o : Nat), (if l.length = 0 then (some (⟨b, o, none⟩ : Addr)) else (some (⟨b, o, none⟩ : Addr)).map (·.add (0 * info.size))) = some ⟨b, o, none⟩ := fun b o => by
            split
            · rfl
            · simp [Addr.add_lit]
          cases hx with
          | sl0 => exact ⟨_, run _ _ (Nat.zero_le _), .sl0⟩
          | sl h1 h2 h3 h4 h5 h6 =>
            refine ⟨_, run _ _ h6, ?_⟩
            rw [hadd, Nat.sub_zero]
            exact .sl h1 h2 h3 h4 h5 (Nat.le_refl _)
        · simp at h
      · simp at h
    · simp at h
  · simp at h
end Go.Proofs.Ytfjbclgbpdlkgaa

/- The evaluator S: arithmetic, comparisons, conversions that make nothing. -/
namespace Go.Proofs.Ytfjbclgbpdlkgaa
open Go
set_option linter.unusedVariables false
set_option linter.unusedSimpArgs false
variable {P : Program} {T : Tab}
theorem wE {w : World} {B : Nat → Prop} {g : Nat → Gh} {x v : Value} (h : RepV w B g (.v x) v) : v = x := by cases h; rfl
theorem run_add {w : World} {t : Nat} {k : IntKind} {a b : Int} : (binOp .add t (.int k a) (.int k b)).run P w = .ok (.int k (k.wrap (a + b))) w := by
  rw [binOp_add]; simp [Op.intArith]
theorem qiN (hT : TabOk P T) {w : World} {B : Nat → Prop} {g : Nat → Gh} {op : BinOp} {t : Nat} {x y r : SV} {xv yv : Value} {xo yo : Operand}
    (hx : RepV w B g x xv) (hy : RepV w B g y yv) (h : qw T op t x y = some r) :
    ∃ v, (do eqGuard op t xo yo xv yv; binOp op t xv yv : Sem Value).run P w = .ok v w ∧ RepV w B g r v := by
  unfold qw at h
  split at h
  · rename_i k a k' b
    obtain rfl := wE hx
    obtain rfl := wE hy
    have key : ∀ op, (op = .shl → False) → (op = .shr → False) → (if k = k' then kZ op k a b else none) = some r →
        ∃ v, (do eqGuard op t xo yo (.int k a) (.int k' b); binOp op t (.int k a) (.int k' b) : Sem Value).run P w = .ok v w ∧ RepV w B g r v := by
      intro op _ _ h
      split at h
      · rename_i hk
        subst hk
        cases op <;> simp only [kZ] at h <;> first
          | (simp at h; done)
          | (split at h <;> first
              | (simp at h; done)
              | (rename_i hb; obtain rfl := Option.some.inj h; exact ⟨_, by simp [eqGuard_at_int, binOp, Op.intDiv, hb], .v rfl⟩))
          | (obtain rfl := Option.some.inj h; exact ⟨_, by simp [eqGuard_at_int, binOp, Op.intArith, Op.intCmp, Op.intBits], .v rfl⟩)
      · simp at h
    split at h
    · simp at h
    · split at h
      · simp at h
      · rename_i hb
        obtain rfl := Option.some.inj h
        exact ⟨_, by simp [eqGuard_at_int, binOp, Op.shift, hb], .v rfl⟩
    · rename_i h1 h2
      exact key op h1 h2 h
  · rename_i a b
    obtain rfl := wE hx
    obtain rfl := wE hy
    unfold qhS at h
    split at h
    · split at h
      · simp at h
      · rename_i hl
        obtain rfl := Option.some.inj h
        refine ⟨.string (a ++ b), ?_, .v rfl⟩
        simp only [eqGuard_add, binOp, Op.stringOp, Sem.run_bind, Sem.run_pure, Result.andThen_ok]
        rw [if_neg hl]; rfl
    · obtain rfl := Option.some.inj h
      exact ⟨_, by simp [eqGuard_at_string, binOp, Op.stringOp], .v rfl⟩
    · obtain rfl := Option.some.inj h
      exact ⟨_, by simp [eqGuard_at_string, binOp, Op.stringOp], .v rfl⟩
    · simp at h
  · rename_i a b
    obtain rfl := wE hx
    obtain rfl := wE hy
    split at h
    · rename_i hu
      obtain rfl := Option.some.inj h
      exact ⟨_, by simp [eqGuard_at_bool, run_eql_bool _ _ _ _ (hT.bool t hu)], .v rfl⟩
    · rename_i hu
      obtain rfl := Option.some.inj h
      exact ⟨_, by simp [eqGuard_at_bool, run_neq_bool _ _ _ _ (hT.bool t hu)], .v rfl⟩
    · simp at h
  · rename_i a b
    cases hx with
    | ag a1 a2 a3 =>
      rename_i va
      cases hy with
      | ag b1 b2 b3 =>
        rename_i vb
        have conv : ∀ (a b : List SV) (va vb : List Value) (r : Bool), zU w B g a va → zU w B g b vb → kt a b = some r → xe va vb = some r := by
          intro a
          induction a with
          | nil =>
            intro b va vb r ha hb h
            cases b with
            | nil =>
              have := ha.1; have := hb.1
              cases va <;> simp at *
              cases vb <;> simp at *
              simpa [kt, xe] using h
            | cons => simp [kt] at h
          | cons x a ih =>
            intro b va vb r ha hb h
            cases b with
            | nil => cases x <;> simp [kt] at h
            | cons y b =>
              obtain ⟨u, va', rfl, hu, ha'⟩ := ha.uncons
              obtain ⟨u', vb', rfl, hu', hb'⟩ := hb.uncons
              unfold kt at h
              split at h
              · simp_all
              · rename_i k p xs k' q ys e1 e2
                cases e1; cases e2
                obtain rfl := wE hu
                obtain rfl := wE hu'
                split at h
                · rename_i hk
                  subst hk
                  split at h
                  · rename_i r' hr'
                    have := ih b va' vb' r' ha' hb' hr'
                    simpa [xe, this] using h
                  · simp at h
                · simp at h
              · simp at h
        split at h
        · rename_i fs i hu hi
          obtain ⟨e1, e2⟩ := hT.eqs t fs i hu hi
          split at h
          · rename_i hz
            split at h
            · rename_i r' hr'
              obtain rfl := Option.some.inj h
              have := e2 va vb r' w (conv a b va vb r' ⟨a1, a2⟩ ⟨b1, b2⟩ hr') (by rw [← a1]; exact hz)
              exact ⟨.bool r', by simp [eqGuard, e1, binOp, this], .v rfl⟩
            · simp at h
          · simp at h
        · rename_i fs i hu hi
          obtain ⟨e1, e2⟩ := hT.eqs t fs i hu hi
          split at h
          · rename_i hz
            split at h
            · rename_i r' hr'
              obtain rfl := Option.some.inj h
              have := e2 va vb r' w (conv a b va vb r' ⟨a1, a2⟩ ⟨b1, b2⟩ hr') (by rw [← a1]; exact hz)
              exact ⟨.bool (!r'), by simp [eqGuard, e1, binOp, this], .v rfl⟩
            · simp at h
          · simp at h
        · simp at h
  · simp at h
theorem un_rep {w : World} {B : Nat → Prop} {g : Nat → Gh} {op : UnOp} {x r : SV} {xv : Value} (hx : RepV w B g x xv) (h : unS op x = some r) :
    ∃ v, (Op.unary op xv).run P w = .ok v w ∧ RepV w B g r v := by
  unfold unS at h
  split at h
  · obtain rfl := Option.some.inj h; obtain rfl := wE hx; exact ⟨_, rfl, .v rfl⟩
  · obtain rfl := Option.some.inj h; obtain rfl := wE hx; exact ⟨_, rfl, .v rfl⟩
  · simp at h
theorem yC {fr : Fr} {os : List SO} {g : Nat → Gh} {w : World} (hm : Mem fr os g w) {x : SV} {xv : Value} {sz : Nat} {l : List SV}
    (hx : RepV w (Bk fr os g w) g x xv) (h : xE os x = some (sz, l)) :
    ∃ a c, xv = .slice a l.length c ∧ l.length ≤ c ∧ (l = [] ∨ ∃ b o vs, a = some ⟨b, o, none⟩ ∧ zU w (Bk fr os g w) G0 l vs ∧ (∀ v : Value, v ∈ vs → jT sz v) ∧ zM w b o (zd vs)) := by
  have part : ∀ {l : List SV} {vs : List Value} {b : Nat} {lo hi : Nat}, zU w (Bk fr os g w) G0 l vs → (∀ v : Value, v ∈ vs → jT sz v) → zM w b 0 (zd vs) →
      zU w (Bk fr os g w) G0 ((l.take hi).drop lo) ((vs.take hi).drop lo) ∧ (∀ v : Value, v ∈ (vs.take hi).drop lo → jT sz v) ∧ zM w b (lo * sz) (zd ((vs.take hi).drop lo)) := by
    intro l vs b lo hi h1 h2 h3
    refine ⟨(h1.take hi).drop lo, fun v hv => h2 v (List.mem_of_mem_take (List.mem_of_mem_drop hv)), ?_⟩
    have := (h3.take (hi * sz)).drop (lo * sz)
    rw [yB h2, yA (fun v hv => h2 v (List.mem_of_mem_take hv))] at this
    simpa using this
  unfold xE at h
  split at h
  · obtain ⟨rfl, rfl⟩ := Prod.mk.inj (Option.some.inj h)
    cases hx with
    | sl0 => exact ⟨_, _, rfl, Nat.zero_le _, .inl rfl⟩
    | sl h1 h2 h3 h4 h5 h6 => exact ⟨_, _, rfl, h6, .inr ⟨_, _, _, rfl, ⟨h1, h2⟩, h3, h4⟩⟩
  · rename_i j
    split at h
    · rename_i lt sz' l' hj
      obtain ⟨rfl, rfl⟩ := Prod.mk.inj (Option.some.inj h)
      rcases hm.objs _ _ hj with ⟨rfl, hn⟩ | ⟨b, cap, vs, e1, e2, e3, e4, e5, e6⟩
      · cases hx with
        | osl0 => exact ⟨_, _, rfl, Nat.le_refl _, .inl rfl⟩
        | osl hg => rw [hn] at hg; cases hg
      · cases hx with
        | osl0 hg => rw [e1] at hg; cases hg
        | osl hg => rw [e1] at hg; cases hg; exact ⟨_, _, rfl, e2, .inr ⟨_, _, _, rfl, e3, e4, e5⟩⟩
    · rename_i sz' l' hj
      obtain ⟨rfl, rfl⟩ := Prod.mk.inj (Option.some.inj h)
      rcases hm.objs _ _ hj with ⟨rfl, hn⟩ | ⟨b, cap, vs, e1, e2, e3, e4, e5, e6⟩
      · cases hx with
        | osl0 => exact ⟨_, _, rfl, Nat.le_refl _, .inl rfl⟩
        | osl hg => rw [hn] at hg; cases hg
      · cases hx with
        | osl0 hg => rw [e1] at hg; cases hg
        | osl hg => rw [e1] at hg; cases hg; exact ⟨_, _, rfl, e2, .inr ⟨_, _, _, rfl, e4, e5, e6⟩⟩
    · simp at h
  · rename_i j lo hi
    split at h
    · rename_i lt sz' l' hj
      split at h
      · rename_i hc
        obtain ⟨rfl, rfl⟩ := Prod.mk.inj (Option.some.inj h)
        have hlen : ((l'.take hi).drop lo).length = hi - lo := by simp; omega
        rw [hlen]
        cases hx with
        | vw0 => exact ⟨_, _, by rw [Nat.sub_self], by omega, .inl (by rw [← List.length_eq_zero_iff, hlen]; omega)⟩
        | vw hg a1 a2 a3 =>
          rcases hm.objs _ _ hj with ⟨rfl, hn⟩ | ⟨b, cap, vs, e1, e2, e3, e4, e5, e6⟩
          · rw [hn] at hg; cases hg
          · rw [e1] at hg
            cases hg
            obtain ⟨p1, p2, p3⟩ := part (lo := lo) (hi := hi) e3 e4 e5
            exact ⟨_, _, rfl, a3, .inr ⟨_, _, _, rfl, p1, p2, p3⟩⟩
      · simp at h
    · rename_i sz' l' hj
      split at h
      · rename_i hc
        obtain ⟨rfl, rfl⟩ := Prod.mk.inj (Option.some.inj h)
        have hlen : ((l'.take hi).drop lo).length = hi - lo := by simp; omega
        rw [hlen]
        cases hx with
        | vw0 => exact ⟨_, _, by rw [Nat.sub_self], by omega, .inl (by rw [← List.length_eq_zero_iff, hlen]; omega)⟩
        | vw hg a1 a2 a3 =>
          rcases hm.objs _ _ hj with ⟨rfl, hn⟩ | ⟨b, cap, vs, e1, e2, e3, e4, e5, e6⟩
          · rw [hn] at hg; cases hg
          · rw [e1] at hg
            cases hg
            obtain ⟨p1, p2, p3⟩ := part (lo := lo) (hi := hi) e4 e5 e6
            exact ⟨_, _, rfl, a3, .inr ⟨_, _, _, rfl, p1, p2, p3⟩⟩
      · simp at h
    · simp at h
  · simp at h
end Go.Proofs.Ytfjbclgbpdlkgaa
