/- The evaluator S and what it says of functions: Sa, Sc, Sd. -/
import Derived.Calls
import Derived.Orders
import Derived.Laws.World
import Derived.Laws.Cells
import Derived.Laws.Entries
import Derived.Laws.Append
import Derived.Laws.MakeOwn
import Derived.Laws.Small
import Derived.Laws.Slices
import Derived.Laws.Strings
/- The evaluator S: definitions. A small deterministic reading of the model's code over values that hold slices as lists. -/
namespace Go.Proofs.YtebaiioejagfoaaGreatDoor
open Go
set_option linter.unusedVariables false
inductive SV where
  | v (x : Value)
  | undef
  | dead
  | sl (sz : Nat) (l : List SV)
  | osl (j : Nat)
  | vw (j lo hi : Nat)
  | ag (l : List SV)
  | tup (l : List SV)
  | ptr (j off : Nat)
  | ap (j i off : Nat)
  | el (x : SV) (off : Nat)
  | fn (f : Nat) (caps : List SV)
  deriving Inhabited
def SV.cells : SV → List SV
  | .ag l => l
  | x => [x]
inductive SO where
  | dead
  | box (l : List SV)
  | arr (lent : Bool) (sz : Nat) (l : List SV)
  | frz (sz : Nat) (l : List SV)
  | nst (lent : Bool) (sz : Nat) (l : List SV)
  deriving Inhabited
inductive ZK where
  | int (k : IntKind) | bool | str | sl (sz : Nat) | fn | ptr
  deriving DecidableEq
def ZK.val : ZK → Value
  | .int k => .int k 0
  | .bool => .bool false
  | .str => .string ⟨#[]⟩
  | .sl _ => .slice none 0 0
  | .fn => .nilFunc
  | .ptr => .pointer none
structure TI where
  size : Nat
  bytes : Nat
  agg : Bool
  zero : List ZK
inductive UK where
  | str | bool
  | int (k : IntKind)
  | slice (e : Nat)
  | array (n e : Nat)
  | struct (fs : List (Nat × Nat))
  | eqs (fs : List (Nat × Nat))   -- a struct whose cells are all whole numbers
structure Tab where
  ti : Nat → Option TI
  und : Nat → Option UK
def UK.fields : UK → Option (List (Nat × Nat))
  | .struct fs => some fs
  | .eqs fs => some fs
  | _ => none
abbrev Out := Option (SV × List SO)
abbrev zKT := Nat → List SV → List SO → Out
structure Cx where
  T : Tab
  own : Nat → Bool
  K : Nat → List SV → List SO → Out
def scalar : Value → Bool
  | .int _ _ | .bool _ | .string _ | .nilFunc | .nilIface | .pointer none => true
  | _ => false
def cst (v : Value) : SV :=
  match v with
  | .slice none 0 0 => .sl 0 []
  | v => if scalar v then .v v else .dead
abbrev Env := List (Nat × SV)
def look (t : Nat) : Env → SV
  | [] => .dead
  | p :: ps => match Nat.beq t p.1 with | true => p.2 | false => look t ps
def ev (env : Env) : Operand → SV
  | .tmp t => look t env
  | .const v => cst v
  | .func f => .fn f []
  | .global _ => .dead
def evP (env : Env) (x : Operand) : Option SV :=
  match x with
  | .const (.slice none 0 0) => none
  | x => some (ev env x)
def evN (T : Tab) (ty : Nat) (os : List SO) (x : Option SV) : Option (SV × List SO) :=
  match x with
  | none =>
    match T.und ty with
    | some (.slice e) =>
      match T.ti e with
      | some i => some (.osl os.length, os ++ [.arr false i.size []])
      | none => none
    | _ => none
  | some x => some (x, os)
def intOf? : SV → Option (IntKind × Int)
  | .v (.int k n) => some (k, n)
  | _ => none
def elems (os : List SO) : SV → Option (Nat × List SV)
  | .sl sz l => some (sz, l)
  | .osl j =>
    match os[j]? with
    | some (.arr _ sz l) => some (sz, l)
    | some (.frz sz l) => some (sz, l)
    | _ => none
  | .vw j lo hi =>
    match os[j]? with
    | some (.arr _ sz l) => if lo ≤ hi ∧ hi ≤ l.length then some (sz, (l.take hi).drop lo) else none
    | some (.frz sz l) => if lo ≤ hi ∧ hi ≤ l.length then some (sz, (l.take hi).drop lo) else none
    | _ => none
  | _ => none
def lenS (T : Tab) (t : Nat) (os : List SO) (x : SV) : Option Nat :=
  match T.und t with
  | some .str => match x with | .v (.string s) => some s.size | _ => none
  | some (.slice _) =>
    match x with
    | .vw j lo hi => match elems os (.vw j lo hi) with | some _ => some (hi - lo) | none => none
    | x => match elems os x with | some p => some p.2.length | none => none
  | _ => none
def zeroS : List ZK → List SO → List SV × List SO
  | [], os => ([], os)
  | .sl sz :: zs, os => let r := zeroS zs (os ++ [.arr false sz []]); (.osl os.length :: r.1, r.2)
  | z :: zs, os => let r := zeroS zs os; (.v z.val :: r.1, r.2)
def zeroP : List ZK → List SV
  | [] => []
  | .sl sz :: zs => .sl sz [] :: zeroP zs
  | z :: zs => .v z.val :: zeroP zs
def okCell : SV → Bool
  | .v _ | .sl _ _ | .osl _ | .ptr _ _ | .fn _ _ => true
  | _ => false
def pack (agg : Bool) (l : List SV) : Option SV :=
  if agg = true then (if l.all okCell = true then some (.ag l) else none) else match l with | [x] => some x | _ => none
def splice (l : List SV) (off : Nat) (xs : List SV) : List SV := l.take off ++ xs ++ l.drop (off + xs.length)
def dcells : SV → Option (List SV)
  | .dead => none
  | .ag l => some l
  | x => some [x]
def placeCells (os : List SO) : SV → Option (List SV)
  | .ptr j off => match os[j]? with | some (.box l) => some (l.drop off) | _ => none
  | .ap j i off =>
    match os[j]? with
    | some (.arr _ _ l) => match l[i]? with | some x => (dcells x).map (List.drop off) | none => none
    | _ => none
  | .el x off => (dcells x).map (List.drop off)
  | _ => none
def loadS (T : Tab) (os : List SO) (t : Nat) (p : SV) : Option SV :=
  match T.ti t with
  | some i =>
    match placeCells os p with
    | some l => if i.size ≤ l.length then pack i.agg (l.take i.size) else none
    | none => none
  | none => none
def pureCell (os : List SO) : SV → Option (SV × List SO)
  | .v x => some (.v x, os)
  | .sl sz l => some (.sl sz l, os)
  | .osl j =>
    match os[j]? with
    | some (.arr false sz l) => some (.sl sz l, os.set j (.frz sz l))
    | some (.frz sz l) => some (.sl sz l, os)
    | _ => none
  | .vw j lo hi =>
    match os[j]? with
    | some (.arr false sz l) => if lo ≤ hi ∧ hi ≤ l.length then some (.sl sz ((l.take hi).drop lo), os.set j (.frz sz l)) else none
    | some (.frz sz l) => if lo ≤ hi ∧ hi ≤ l.length then some (.sl sz ((l.take hi).drop lo), os) else none
    | _ => none
  | _ => none
def deVw (os : List SO) : SV → Option (SV × List SO)
  | .vw j lo hi => pureCell os (.vw j lo hi)
  | x => some (x, os)
def pureCells : List SV → List SO → Option (List SV × List SO)
  | [], os => some ([], os)
  | x :: xs, os =>
    match pureCell os x with
    | some (y, os1) => match pureCells xs os1 with | some (ys, os2) => some (y :: ys, os2) | none => none
    | none => none
def pureS (os : List SO) : SV → Option (SV × List SO)
  | .ag l => match pureCells l os with | some (ys, os1) => some (.ag ys, os1) | none => none
  | x => pureCell os x
def pureL : List SV → List SO → Option (List SV × List SO)
  | [], os => some ([], os)
  | x :: xs, os =>
    match pureS os x with
    | some (y, os1) => match pureL xs os1 with | some (ys, os2) => some (y :: ys, os2) | none => none
    | none => none
def setElem (x : SV) (off : Nat) (cs : List SV) : SV :=
  match x with
  | .ag l => .ag (splice l off cs)
  | x => match off, cs with | 0, [y] => y | _, _ => x
def storeS (T : Tab) (os : List SO) (t : Nat) (p x : SV) : Option (List SO) :=
  match T.ti t with
  | some i =>
    if x.cells.length = i.size then
      match p with
      | .ptr j off =>
        match os[j]? with
        | some (.box l) => if off + i.size ≤ l.length ∧ x.cells.all okCell = true then some (os.set j (.box (splice l off x.cells))) else none
        | _ => none
      | .ap j n off =>
        match pureCells x.cells os with
        | some (ys, os1) =>
          match os1[j]? with
          | some (.arr b sz l) =>
            match l[n]? with
            | some y =>
              match dcells y with
              | some yc => if off + i.size ≤ yc.length ∧ 0 < i.size then some (os1.set j (.arr b sz (l.set n (setElem y off ys)))) else none
              | none => none
            | none => none
          | _ => none
        | none => none
      | _ => none
    else none
  | none => none
def addS (p : SV) (n : Nat) : Option SV :=
  match p with
  | .ptr j off => some (.ptr j (off + n))
  | .ap j i off => some (.ap j i (off + n))
  | .el x off => some (.el x (off + n))
  | _ => none
def fieldAddrS (T : Tab) (s : Nat) (p : SV) (f : Nat) : Option SV :=
  match T.und s with
  | some u =>
    match u.fields with
    | some fs =>
      match fs[f]? with
      | some (off, t) => match T.ti t with | some i => if i.size = 0 then none else addS p off | none => none
      | none => none
    | none => none
  | none => none
def fieldS (T : Tab) (s : Nat) (x : SV) (f : Nat) : Option SV :=
  match T.und s with
  | some u =>
    match u.fields with
    | some fs =>
      match fs[f]? with
      | some (off, t) =>
        match T.ti t, x with
        | some i, .ag l => if off + i.size ≤ l.length then pack i.agg ((l.drop off).take i.size) else none
        | _, _ => none
      | none => none
    | none => none
  | none => none
def elS (l : List SV) (n : Nat) : Option SV :=
  match l[n]? with
  | some y => some (.el y 0)
  | none => none
def indexAddrS (T : Tab) (os : List SO) (t : Nat) (x i : SV) : Option SV :=
  match i with
  | .v (.int _ n) =>
    match T.und t with
    | some (.slice e) =>
      match T.ti e with
      | some q =>
        match x with
        | .sl sz l => if 0 ≤ n ∧ sz = q.size then elS l n.toNat else none
        | .osl j =>
          match os[j]? with
          | some (.arr _ sz l) => if 0 ≤ n ∧ n < (l.length : Int) ∧ sz = q.size then some (.ap j n.toNat 0) else none
          | some (.frz sz l) => if 0 ≤ n ∧ sz = q.size then elS l n.toNat else none
          | _ => none
        | .vw j lo hi =>
          match os[j]? with
          | some (.arr _ sz l) => if 0 ≤ n ∧ n < ((hi - lo : Nat) : Int) ∧ lo ≤ hi ∧ hi ≤ l.length ∧ sz = q.size then some (.ap j (lo + n.toNat) 0) else none
          | _ => none
        | _ => none
      | none => none
    | some (.array k e) =>
      match T.ti e with
      | some q => if 0 ≤ n ∧ n < (k : Int) then addS x (n.toNat * q.size) else none
      | none => none
    | _ => none
  | _ => none
def indexS (T : Tab) (t : Nat) (x i : SV) : Option SV :=
  match T.und t, x, i with
  | some .str, .v (.string s), .v (.int _ n) => if 0 ≤ n then match s[n.toNat]? with | some b => some (.v (.int .u8 b.toNat)) | none => none else none
  | _, _, _ => none
def boundS (n : Nat) (d : Nat) : Option SV → Option Nat
  | none => some d
  | some (.v (.int _ i)) => if 0 ≤ i ∧ i ≤ (n : Int) then some i.toNat else none
  | some _ => none
def sliceS (T : Tab) (os : List SO) (t : Nat) (x : SV) (lo hi : Option SV) : Option SV :=
  match T.und t with
  | some .str =>
    match x with
    | .v (.string s) =>
      match boundS s.size s.size hi with
      | some h => match boundS h 0 lo with | some l => some (.v (.string (s.extract l h))) | none => none
      | none => none
    | _ => none
  | some (.slice e) =>
    match T.ti e with
    | some q =>
      match x with
      | .osl j =>
        match os[j]? with
        | some (.arr _ sz l) =>
          match boundS l.length l.length hi with
          | some h => match boundS h 0 lo with | some o => if sz = q.size then some (.vw j o h) else none | none => none
          | none => none
        | some (.frz sz l) =>
          match boundS l.length l.length hi with
          | some h => match boundS h 0 lo with | some o => if sz = q.size then some (.sl sz ((l.take h).drop o)) else none | none => none
          | none => none
        | _ => none
      | .sl sz l =>
        match boundS l.length l.length hi with
        | some h => match boundS h 0 lo with | some o => if sz = q.size then some (.sl sz ((l.take h).drop o)) else none | none => none
        | none => none
      | _ => none
    | none => none
  | _ => none
def slice3S (T : Tab) (t : Nat) (x hi m : SV) : Option SV :=
  match T.und t with
  | some (.slice e) =>
    match T.ti e with
    | some _ =>
      match x, hi, m with
      | .sl sz l, .v (.int _ h), .v (.int _ q) => if h = (l.length : Int) ∧ q = (l.length : Int) then some (.sl sz l) else none
      | _, _, _ => none
    | none => none
  | _ => none
def strBin (op : BinOp) (x y : ByteArray) : Option SV :=
  match op with
  | .add => if ((x.size + y.size : Nat) : Int) > IntKind.i64.max then none else some (.v (.string (x ++ y)))
  | .eql => some (.v (.bool (x.toList == y.toList)))
  | .neq => some (.v (.bool !(x.toList == y.toList)))
  | _ => none
def intBin (op : BinOp) (k : IntKind) (a b : Int) : Option SV :=
  match op with
  | .add => some (.v (.int k (k.wrap (a + b))))
  | .sub => some (.v (.int k (k.wrap (a - b))))
  | .mul => some (.v (.int k (k.wrap (a * b))))
  | .quo => if b = 0 then none else some (.v (.int k (k.wrap (a.tdiv b))))
  | .rem => if b = 0 then none else some (.v (.int k (a.tmod b)))
  | .xor => some (.v (.int k (k.wrap ((BitVec.ofInt k.bits a ^^^ BitVec.ofInt k.bits b).toNat))))
  | .and => some (.v (.int k (k.wrap ((BitVec.ofInt k.bits a &&& BitVec.ofInt k.bits b).toNat))))
  | .eql => some (.v (.bool (a == b)))
  | .neq => some (.v (.bool (a != b)))
  | .lss => some (.v (.bool (a < b)))
  | .leq => some (.v (.bool (a ≤ b)))
  | .gtr => some (.v (.bool (a > b)))
  | .geq => some (.v (.bool (a ≥ b)))
  | _ => none
def sameInts : List SV → List SV → Option Bool
  | [], [] => some true
  | .v (.int k a) :: xs, .v (.int k' b) :: ys =>
    if k = k' then match sameInts xs ys with | some r => some (a == b && r) | none => none else none
  | _, _ => none
def binS (T : Tab) (op : BinOp) (t : Nat) (x y : SV) : Option SV :=
  match x, y with
  | .v (.int k a), .v (.int k' b) =>
    match op with
    | .shl => none
    | .shr => if b < 0 then none else some (.v (.int k (a.fdiv (2 ^ min b.toNat k.bits))))
    | _ => if k = k' then intBin op k a b else none
  | .v (.string a), .v (.string b) => strBin op a b
  | .v (.bool a), .v (.bool b) =>
    match T.und t, op with
    | some .bool, .eql => some (.v (.bool (a == b)))
    | some .bool, .neq => some (.v (.bool !(a == b)))
    | _, _ => none
  | .ag a, .ag b =>
    match T.und t, T.ti t, op with
    | some (.eqs _), some i, .eql => if a.length = i.size then match sameInts a b with | some r => some (.v (.bool r)) | none => none else none
    | some (.eqs _), some i, .neq => if a.length = i.size then match sameInts a b with | some r => some (.v (.bool !r)) | none => none else none
    | _, _, _ => none
  | _, _ => none
def unS (op : UnOp) (x : SV) : Option SV :=
  match op, x with
  | .not, .v (.bool b) => some (.v (.bool !b))
  | .neg, .v (.int k n) => some (.v (.int k (k.wrap (0 - n))))
  | _, _ => none
def bytesOf : List SV → Option (List UInt8)
  | [] => some []
  | .v (.int .u8 n) :: xs => match bytesOf xs with | some r => some (UInt8.ofNat n.toNat :: r) | none => none
  | _ => none
def byteSV (b : UInt8) : SV := .v (.int .u8 b.toNat)
def convS (T : Tab) (os : List SO) (src dst : Nat) (x : SV) : Option (SV × List SO) :=
  match T.und src, T.und dst, x with
  | some (.int _), some (.int k), .v (.int _ n) => some (.v (.int k (k.wrap n)), os)
  | some (.slice e), some .str, x =>
    match T.und e, elems os x with
    | some (.int .u8), some (1, l) => match bytesOf l with | some b => some (.v (.string ⟨b.toArray⟩), os) | none => none
    | _, _ => none
  | some .str, some (.slice e), .v (.string s) =>
    match T.und e with
    | some (.int .u8) => some (.osl os.length, os ++ [.arr false 1 (s.data.toList.map byteSV)])
    | _ => none
  | some .str, some .str, .v (.string s) => some (.v (.string s), os)
  | _, _, _ => none
def makeS (T : Tab) (os : List SO) (t : Nat) (n c : SV) : Option (SV × List SO) :=
  match T.und t, n, c with
  | some (.slice e), .v (.int _ n), .v (.int _ c) =>
    match T.ti e with
    | some i =>
      if 0 ≤ n ∧ n ≤ c ∧ i.bytes * c ≤ 2 ^ 47 ∧ c < 2 ^ 63 then
        match pack i.agg (zeroP i.zero) with
        | some z => some (.osl os.length, os ++ [.arr false i.size (List.replicate n.toNat z)])
        | none => none
      else none
    | none => none
  | _, _, _ => none
def setParts (fs : List (Nat × Nat)) (cs : List SV) : List (Nat × SV) → Option (List SV)
  | [] => some cs
  | (f, x) :: ps =>
    match fs[f]? with
    | some (off, _) => if off + x.cells.length ≤ cs.length ∧ x.cells.all okCell = true then setParts fs (splice cs off x.cells) ps else none
    | none => none
def partsN (T : Tab) (fs : List (Nat × Nat)) : List (Nat × Option SV) → List SO → Option (List (Nat × SV) × List SO)
  | [], os => some ([], os)
  | (f, x) :: ps, os =>
    match fs[f]? with
    | some (_, t) =>
      match T.ti t, evN T t os x with
      | some i, some (y, os1) =>
        if y.cells.length = i.size then
          match partsN T fs ps os1 with
          | some (r, os2) => some ((f, y) :: r, os2)
          | none => none
        else none
      | _, _ => none
    | none => none
def buildS (T : Tab) (os : List SO) (t : Nat) (parts : List (Nat × Option SV)) : Option (SV × List SO) :=
  match T.und t, T.ti t with
  | some u, some i =>
    match u.fields with
    | some fs =>
      match partsN T fs parts os with
      | some (ps, os1) =>
        let z := zeroS i.zero os1
        match setParts fs z.1 ps with
        | some cs => some (.ag cs, z.2)
        | none => none
      | none => none
    | none => none
  | _, _ => none
def buildSliceS (T : Tab) (os : List SO) (t n : Nat) (parts : List (Nat × SV)) : Option (SV × List SO) :=
  match T.und t with
  | some (.slice e) =>
    match T.ti e with
    | some i =>
      if parts.map (·.1) = List.range n ∧ n * i.size ≤ 2 ^ 24 then
        match pureL (parts.map (·.2)) os with
        | some (l, os1) => if l.all (fun x => x.cells.length == i.size) = true then some (.osl os1.length, os1 ++ [.arr false i.size l]) else none
        | none => none
      else none
    | none => none
  | _ => none
def appendS (T : Tab) (os : List SO) (t t' : Nat) (s x : SV) : Option (SV × List SO) :=
  match T.und t, T.und t', s with
  | some (.slice e), some (.slice _), .osl j =>
    match T.ti e, os[j]?, elems os x with
    | some i, some (.arr b sz l), some (sz', r) =>
      if sz = i.size ∧ sz' = sz ∧ i.bytes * (l.length + r.length) ≤ 2 ^ 47 ∧ 0 < i.bytes then
        some (.osl os.length, os.set j .dead ++ [.arr b sz (l ++ r)]) else none
    | _, _, _ => none
  | _, _, _ => none
def copyS (T : Tab) (os : List SO) (t : Nat) (d s : SV) : Option (SV × List SO) :=
  match T.und t, d, elems os s with
  | some (.slice e), .osl j, some (sz', r) =>
    match T.ti e, os[j]? with
    | some i, some (.arr b sz l) =>
      if sz = i.size ∧ sz' = sz then
        some (.v (.int .i64 ((min r.length l.length : Nat) : Int)), os.set j (.arr b sz (r.take (min r.length l.length) ++ l.drop (min r.length l.length)))) else none
    | _, _ => none
  | some (.slice e), .vw j lo hi, some (sz', r) =>
    match T.ti e, os[j]? with
    | some i, some (.arr b sz l) =>
      if sz = i.size ∧ lo ≤ hi ∧ hi ≤ l.length ∧ sz' = sz then
        some (.v (.int .i64 ((min r.length (hi - lo) : Nat) : Int)), os.set j (.arr b sz (l.take lo ++ r.take (min r.length (hi - lo)) ++ l.drop (lo + min r.length (hi - lo))))) else none
    | _, _ => none
  | _, _, _ => none
def ids0 : SV → List Nat
  | .ptr j _ => [j]
  | .ap j _ _ => [j]
  | _ => []
def ids1 : SV → List Nat
  | .ptr j _ => [j]
  | .ap j _ _ => [j]
  | .osl j => [j]
  | .vw j _ _ => [j]
  | .fn _ caps => caps.flatMap ids0
  | _ => []
def ids2 : SV → List Nat
  | .ag l => l.flatMap ids1
  | x => ids1 x
def ids3 : SV → List Nat
  | .tup l => l.flatMap ids2
  | x => ids2 x
def SO.ids : SO → List Nat
  | .box l => l.flatMap ids1
  | _ => []
def reach (os : List SO) : Nat → List Nat → List Nat → List Nat
  | 0, _, seen => seen
  | _, [], seen => seen
  | n + 1, j :: js, seen =>
    if seen.contains j then reach os n js seen
    else reach os n (js ++ (match os[j]? with | some o => o.ids | none => [])) (seen ++ [j])
def ren0 (ρ : Nat → Option Nat) : SV → SV
  | .v x => .v x
  | .sl sz l => .sl sz l
  | .undef => .undef
  | .ptr j o => match ρ j with | some i => .ptr i o | none => .dead
  | .ap j i o => match ρ j with | some k => .ap k i o | none => .dead
  | .osl j => match ρ j with | some i => .osl i | none => .dead
  | .vw j lo hi => match ρ j with | some i => .vw i lo hi | none => .dead
  | .el x o => .el x o
  | _ => .dead
def ren1 (ρ : Nat → Option Nat) : SV → SV
  | .fn f caps => .fn f (caps.map (ren0 ρ))
  | x => ren0 ρ x
def ren2 (ρ : Nat → Option Nat) : SV → SV
  | .ag l => .ag (l.map (ren1 ρ))
  | x => ren1 ρ x
def ren3 (ρ : Nat → Option Nat) : SV → SV
  | .tup l => .tup (l.map (ren2 ρ))
  | x => ren2 ρ x
def SO.ren (ρ : Nat → Option Nat) : SO → SO
  | .box l => .box (l.map (ren1 ρ))
  | o => o
def place (keep : List Nat) (j : Nat) : Option Nat :=
  match keep with
  | [] => none
  | k :: ks => if k = j then some 0 else match place ks j with | some i => some (i + 1) | none => none
def SO.lend : SO → SO
  | .arr _ sz l => .arr true sz l
  | .nst _ sz l => .nst true sz l
  | o => o
def SO.own : SO → Bool
  | .arr true _ _ => false
  | .nst true _ _ => false
  | _ => true
def nstA (os : List SO) (j : Nat) : Option SV :=
  match os[j]? with
  | some (.nst _ sz l) => some (.sl sz l)
  | _ => none
def argCell (os : List SO) (keep : List Nat) : SV → Option SV
  | .v x => some (.v x)
  | .sl sz l => some (.sl sz l)
  | .el x o => some (.el x o)
  | .ptr j o => match place keep j with | some i => some (.ptr i o) | none => none
  | .ap j i o => match place keep j with | some k => some (.ap k i o) | none => none
  | .fn f caps => some (.fn f (caps.map (ren0 (place keep))))
  | .osl j => match place keep j with | some i => some (.osl i) | none => match elems os (.osl j) with | some p => some (.sl p.1 p.2) | none => nstA os j
  | .vw j lo hi => match place keep j with | some _ => none | none => match elems os (.vw j lo hi) with | some p => some (.sl p.1 p.2) | none => none
  | _ => none
def argCells (os : List SO) (keep : List Nat) : List SV → Option (List SV)
  | [] => some []
  | x :: xs => match argCell os keep x, argCells os keep xs with | some y, some ys => some (y :: ys) | _, _ => none
def argV (os : List SO) (keep : List Nat) : SV → Option SV
  | .ag l => match argCells os keep l with | some ys => some (.ag ys) | none => none
  | x => argCell os keep x
def argVs (os : List SO) (keep : List Nat) : List SV → Option (List SV)
  | [] => some []
  | x :: xs => match argV os keep x, argVs os keep xs with | some y, some ys => some (y :: ys) | _, _ => none
def lendIds (own : Bool) (x : SV) : List Nat :=
  match x with
  | .ag l => l.flatMap fun y => match y with | .osl j => if own then [j] else [] | .vw _ _ _ => [] | y => ids1 y
  | .osl j => if own then [j] else []
  | .vw _ _ _ => []
  | x => ids1 x
def lendCells (own : Nat → Bool) : Nat → List SV → List Nat
  | _, [] => []
  | k, y :: ys => lendIds (own k) y ++ lendCells own (k + 1000) ys
def lendMask (own : Nat → Bool) : Nat → List SV → List Nat
  | _, [] => []
  | k, x :: xs => lendCells own k x.cells ++ lendMask own (k + 100000) xs
def lendAll (own : Nat → Bool) (f : Nat) (args : List SV) : List Nat :=
  match own (f + 2000000) with
  | true => lendMask own (f + 3000000) args
  | false => args.flatMap (lendIds (own f))
def snapIds (keep : List Nat) (x : SV) : List Nat :=
  x.cells.flatMap fun y => match y with
    | .osl j => match place keep j with | some _ => [] | none => [j]
    | .vw j _ _ => [j]
    | _ => []
def flatSV (x : SV) : Bool := x.cells.all fun y => match y with | .v _ => true | _ => false
def hasSl1 : SV → Bool
  | .v _ | .osl _ | .ptr _ _ | .fn _ [] | .dead => false
  | _ => true
def hasSl3 : SV → Bool
  | .tup l => l.any fun x => x.cells.any hasSl1
  | x => x.cells.any hasSl1
def SO.hasSl : SO → Bool
  | .dead => false
  | .box l => l.any hasSl1
  | .arr _ _ l => !(l.all flatSV)
  | .frz _ _ => true
  | .nst _ _ _ => false
def nodupB : List Nat → Bool
  | [] => true
  | j :: js => !js.contains j && nodupB js
def okKeep (nl : Nat) (keep : List Nat) : Option (List Nat) :=
  if (keep.take nl == List.range nl && nodupB keep) = true then some keep else none
def gcO (keep : List Nat) (os : List SO) : List SO := keep.map fun j => (os.getD j .dead).ren (place keep)
def freeze : List Nat → List SO → Option (List SO)
  | [], os => some os
  | j :: js, os =>
    match os[j]? with
    | some (.arr false sz l) => freeze js (os.set j (.frz sz l))
    | some (.frz _ _) => freeze js os
    | _ => none
def giveBack (β : Nat → Option Nat) : List Nat → List SO → List SO → Option (List SO)
  | [], _, os => some os
  | j :: js, o :: los, os =>
    match o, os[j]? with
    | .arr _ sz l, some (.arr b sz' _) => if sz = sz' then giveBack β js los (os.set j (.arr b sz l)) else none
    | .box l, some (.box _) => giveBack β js los (os.set j (.box (l.map (ren1 β))))
    | .frz _ _, some (.frz _ _) => giveBack β js los os
    | .dead, some (.arr _ _ _) => giveBack β js los (os.set j .dead)
    | .nst _ sz l, some (.nst b sz' _) => if sz = sz' then giveBack β js los (os.set j (.nst b sz l)) else none
    | _, _ => none
  | _ :: _, [], _ => none
def SO.back (tr : Bool) : SO → SO
  | .arr b sz l => .arr (b && tr) sz l
  | .nst b sz l => .nst (b && tr) sz l
  | o => o
def SO.fine : SO → Bool := fun _ => true
def anyLent (os : List SO) (keep : List Nat) : Bool :=
  keep.any fun j => match os[j]? with
    | some (.arr b _ _) => b
    | some (.nst b _ _) => b
    | _ => false
def backName (keep : List Nat) (n : Nat) (i : Nat) : Option Nat :=
  if i < keep.length then keep[i]? else some (n + (i - keep.length))
def SO.there : SO → Bool
  | .dead => false
  | _ => true
def callS (c : Cx) (os : List SO) (f : Nat) (args : List SV) : Out :=
  match okKeep 0 (reach os 100 (lendAll c.own f args) []) with
  | none => none
  | some keep =>
  match argVs os keep args with
  | none => none
  | some as =>
  if (gcO keep os).all SO.there = true then
    match c.K f as ((gcO keep os).map SO.lend) with
    | none => none
    | some (r, los) =>
      match (if (c.own (f + 1000000) || (hasSl3 r || los.any SO.hasSl)) = true then freeze (args.flatMap (snapIds keep)) os else some os) with
      | none => none
      | some os0 =>
        match giveBack (backName keep os.length) keep los os0 with
        | none => none
        | some os1 =>
          if (los.drop keep.length).all SO.fine = true then
            some (ren3 (backName keep os.length) r, os1 ++ (los.drop keep.length).map (fun o => (o.ren (backName keep os.length)).back (anyLent os keep)))
          else none
  else none
def nilA (T : Tab) (ty : Nat) : SV :=
  match T.und ty with
  | some (.slice e) => match T.ti e with | some i => .sl i.size [] | none => .dead
  | _ => .dead
def argO (T : Tab) (env : Env) (p : Operand × Nat) : SV :=
  match p.1 with
  | .const (.slice none 0 0) => nilA T p.2
  | x => ev env x
def calleeS (c : Cx) (os : List SO) (f : SV) (args : List SV) : Out :=
  match f with
  | .fn f caps => callS c os f (args ++ caps)
  | _ => none
def minS : SV → SV → Option SV
  | .v (.int k x), .v (.int _ y) => some (.v (.int k (if y < x then y else x)))
  | _, _ => none
def maxS : SV → SV → Option SV
  | .v (.int k x), .v (.int _ y) => some (.v (.int k (if x < y then y else x)))
  | _, _ => none
def ret1 (x : Option SV) (os : List SO) : Out :=
  match x with
  | some y => some (y, os)
  | none => none
def lenO (T : Tab) (t : Nat) (os : List SO) (x : SV) : Out :=
  match lenS T t os x with
  | some n => some (.v (.int .i64 (n : Int)), os)
  | none => none
def builtinS (c : Cx) (os : List SO) (b : Builtin) (ts : List Nat) (args : List SV) : Out :=
  match b, args with
  | .len, [x] => lenO c.T (ts.getD 0 0) os x
  | .append, [s, x] => appendS c.T os (ts.getD 0 0) (ts.getD 1 0) s x
  | .copy, [d, s] => copyS c.T os (ts.getD 0 0) d s
  | .min, [x, y] => ret1 (minS x y) os
  | .max, [x, y] => ret1 (maxS x y) os
  | _, _ => none
def pickS (c a b : SV) : Option SV :=
  match c with
  | .v (.bool t) => some (if t then a else b)
  | _ => none
def nilS : SV → Option SV
  | .ptr j o => some (.ptr j o)
  | .ap j i o => some (.ap j i o)
  | .el x o => some (.el x o)
  | _ => none
def extractS (x : SV) (i : Nat) : Option SV :=
  match x with
  | .tup l => l[i]?
  | _ => none
def allocS (T : Tab) (os : List SO) (t : Nat) : Out :=
  match T.ti t with
  | some i => let z := zeroS i.zero os; some (.ptr z.2.length 0, z.2 ++ [.box z.1])
  | none => none
def boxS (T : Tab) (os : List SO) (t : Nat) (x : Option SV) : Out :=
  match T.ti t, evN T t os x with
  | some i, some (y, os1) => if y.cells.length = i.size ∧ y.cells.all okCell = true then some (.ptr os1.length 0, os1 ++ [.box y.cells]) else none
  | _, _ => none
def storeO (T : Tab) (os : List SO) (t : Nat) (a : SV) (x : Option SV) : Out :=
  match evN T t os x with
  | some (y, os1) =>
    match deVw os1 y with
    | some (z, os2) => match storeS T os2 t a z with | some os3 => some (.undef, os3) | none => none
    | none => none
  | none => none
def opS (c : Cx) (env : Env) (os : List SO) (o : Oper) : Out :=
  match o.op with
  | .move x => evN c.T o.type os (evP env x)
  | .assign x => evN c.T o.type os (evP env x)
  | .pick b x y => ret1 (pickS (ev env b) (ev env x) (ev env y)) os
  | .alloc t => allocS c.T os t
  | .box t x => boxS c.T os t (evP env x)
  | .build t ps => buildS c.T os t (ps.toList.map fun p => (p.1, evP env p.2))
  | .buildSlice t n ps => buildSliceS c.T os t n (ps.toList.map fun p => (p.1, ev env p.2))
  | .load t a => ret1 (loadS c.T os t (ev env a)) os
  | .store t a x => storeO c.T os t (ev env a) (evP env x)
  | .nilCheck x => ret1 (nilS (ev env x)) os
  | .binOp op t x y _ => ret1 (binS c.T op t (ev env x) (ev env y)) os
  | .unOp op _ x => ret1 (unS op (ev env x)) os
  | .convert s d x => convS c.T os s d (ev env x)
  | .makeSlice t n k => makeS c.T os t (ev env n) (ev env k)
  | .slice t x lo hi none => ret1 (sliceS c.T os t (ev env x) (lo.map (ev env)) (hi.map (ev env))) os
  | .slice t x none (some h) (some m) => ret1 (slice3S c.T t (ev env x) (ev env h) (ev env m)) os
  | .fieldAddr t x f => ret1 (fieldAddrS c.T t (ev env x) f) os
  | .field t x f => ret1 (fieldS c.T t (ev env x) f) os
  | .indexAddr t x i => ret1 (indexAddrS c.T os t (ev env x) (ev env i)) os
  | .index t x i => ret1 (indexS c.T t (ev env x) (ev env i)) os
  | .extract x i => ret1 (extractS (ev env x) i) os
  | .makeFunc (.func f) fs caps => match fs.toList with | [] => some (.fn f (caps.toList.map (ev env)), os) | _ => none
  | .call { callee := .builtin b, args, argTypes } => if argTypes.size = args.size then builtinS c os b argTypes.toList (args.toList.map (ev env)) else none
  | .call { callee := .value f, args, argTypes } => if argTypes.size = args.size then calleeS c os (ev env f) ((args.toList.zip argTypes.toList).map (argO c.T env)) else none
  | _ => none
def put (env : Env) (d : Option Nat) (x : SV) : Env :=
  match d with
  | some t => (t, x) :: env
  | none => env
def guardV (ops : List Oper) (env : Env) (j : Nat) : SV :=
  match ops[j]? with
  | some o => match o.dst with | some t => look t env | none => .undef
  | none => .undef
def gd (g : SV) (want : Bool) (x : Out) (os : List SO) : Out :=
  match g with
  | .v (.bool b) => if b = want then x else some (.undef, os)
  | .dead => none
  | _ => some (.undef, os)
def op1 (c : Cx) (ops : List Oper) (env : Env) (os : List SO) (o : Oper) : Out :=
  match o.guard with
  | none => opS c env os o
  | some (j, want) => gd (guardV ops env j) want (opS c env os o) os
def silent (env : Env) (o : Oper) : Option SV :=
  match o.guard with
  | some _ => none
  | none =>
    match o.op with
    | .move x => evP env x
    | .assign x => evP env x
    | .makeFunc (.func f) fs caps => match fs.toList with | [] => some (.fn f (caps.toList.map (ev env))) | _ => none
    | _ => none
def okDst (nt : Nat) (d : Option Nat) : Bool :=
  match d with
  | some t => Nat.blt t nt
  | none => true
def runOps (c : Cx) (nt : Nat) (ops : List Oper) : List Oper → Env → List SO → (Env → List SO → Out) → Out
  | [], env, os, k => k env os
  | o :: rest, env, os, k =>
    match okDst nt o.dst with
    | false => none
    | true =>
      match silent env o with
      | some x => runOps c nt ops rest (put env o.dst x) os k
      | none => (op1 c ops env os o).bind fun r => runOps c nt ops rest (put env o.dst r.1) r.2 k
structure Kt where
  n : Env → List SO → Out
  x : Nat → Env → List SO → Out
  r : Env → List SO → Out
def condS (b : SV) (x y : Out) : Out :=
  match b with
  | .v (.bool t) => if t = true then x else y
  | _ => none
def killS (alive : List Nat) (env : Env) : Env :=
  match alive with
  | t :: ts => (t, look t env) :: killS ts env
  | [] => []
def killO (alive : Option (List Nat)) (env : Env) : Env :=
  match alive with
  | some l => killS l env
  | none => env
def gcK (nl : Nat) (env : Env) (os : List SO) : Option (List Nat) := okKeep nl (reach os 200 (List.range nl ++ env.flatMap fun p => ids3 p.2) [])
def renE (ρ : Nat → Option Nat) : Env → Env
  | [] => []
  | p :: ps => (p.1, ren3 ρ p.2) :: renE ρ ps
inductive DT where
  | leaf (σ : List Nat)
  | split (i j : Nat) (a b : DT)
structure LpI where
  gc : Bool
  alive : List Nat
structure FnI where
  nt : Nat
  lp : Nat → LpI
  jn : Nat → Option (List Nat)
  dt : Nat → Option DT
def loopS (nl : Nat) (li : LpI) (f : Env → List SO → (Env → List SO → Out) → Out) : Nat → Env → List SO → Out
  | 0, _, _ => none
  | n + 1, env, os =>
    if li.gc = true then
      (gcK nl env os).bind fun keep => f (renE (place keep) env) (gcO keep os) fun env os => loopS nl li f n (killS li.alive env) os
    else f env os fun env os => loopS nl li f n (killS li.alive env) os
def firstRegion : Code → Nat
  | .region id _ _ => id
  | .seq a _ => firstRegion a
  | .block _ c => firstRegion c
  | .loop c => firstRegion c
  | _ => 0
inductive Cls where
  | p | rd | ld | ext | eff | call
def Cls.isE : Cls → Bool
  | .ext | .eff | .call => true
  | _ => false
def cls (T : Tab) (o : Op) : Cls :=
  match o with
  | .move (.const (.slice none 0 0)) => .ext
  | .assign (.const (.slice none 0 0)) => .ext
  | .move _ => .p
  | .assign _ => .p
  | .pick _ _ _ => .p
  | .nilCheck _ => .p
  | .binOp _ _ _ _ _ => .p
  | .unOp _ _ _ => .p
  | .fieldAddr _ _ _ => .p
  | .field _ _ _ => .p
  | .index _ _ _ => .p
  | .extract _ _ => .p
  | .makeFunc _ _ _ => .p
  | .load _ _ => .ld
  | .indexAddr _ _ _ => .rd
  | .slice _ _ _ _ _ => .rd
  | .call { callee := .builtin .len, .. } => .rd
  | .call { callee := .builtin .min, .. } => .p
  | .call { callee := .builtin .max, .. } => .p
  | .call { callee := .value _, .. } => .call
  | .alloc _ => .ext
  | .box _ _ => .ext
  | .build _ _ => .ext
  | .buildSlice _ _ _ => .ext
  | .convert s d _ => match T.und s, T.und d with | some (.int _), some (.int _) => .p | _, _ => .eff
  | _ => .eff
def bindOn (o : Oper) : List Nat := (o.after.toList.filter fun e => Region.binds .any e).map (·.on)
def masks : List Nat → List Oper → List Nat
  | acc, [] => acc
  | acc, o :: os => masks (acc ++ [(bindOn o).foldl (fun m e => m ||| (1 <<< e ||| acc.getD e 0)) 0]) os
def ordB (ms : List Nat) (i j : Nat) : Bool := (ms.getD j 0).testBit i
def unord (ms : List Nat) (i j : Nat) : Bool := (Nat.blt i j && !(ordB ms i j)) || (Nat.blt j i && !(ordB ms j i))
def tmpsOf (ops : List Oper) (o : Oper) : List Nat :=
  (o.op.operands.toList.filterMap fun x => match x with | .tmp t => some t | _ => none) ++
  (match o.guard with | some (g, _) => (match ops[g]? with | some p => p.dst.toList | none => []) | none => [])
def Cls.notLd : Cls → Bool
  | .ld => false
  | _ => true
def okPair : Cls → Cls → Bool
  | .p, _ => true
  | _, .p => true
  | .rd, b => !b.isE
  | a, .rd => !a.isE
  | .ld, .ld => true
  | .ld, .ext => true
  | .ld, .call => true
  | .ext, .ld => true
  | .call, .ld => true
  | _, _ => false
def okDraw1 (T : Tab) (ops : List Oper) (ms : List Nat) (j : Nat) (o : Oper) (i : Nat) (q : Oper) : Bool :=
  (match q.dst, o.dst with | some s, some t => !(Nat.beq s t) || Nat.beq i j | _, _ => true) &&
  (match q.dst with | some s => !(tmpsOf ops o).contains s || ((Nat.blt i j && ordB ms i j) || (Nat.blt j i && ordB ms j i && (cls T o.op).notLd)) | none => true) &&
  (!(unord ms i j) || okPair (cls T q.op) (cls T o.op))
def allI (f : Nat → Oper → Bool) : Nat → List Oper → Bool
  | _, [] => true
  | i, o :: os => f i o && allI f (i + 1) os
def drawOk (T : Tab) (ops : List Oper) (ms : List Nat) : Bool :=
  allI (fun j o => (bindOn o).all (fun e => Nat.blt e j) && allI (okDraw1 T ops ms j o) 0 ops) 0 ops
def isBox : SV → Bool
  | .ptr _ _ => true
  | .el _ _ => true
  | .undef => true   -- nothing is read there
  | _ => false
def boxIn (keep : List Nat) : SV → Bool
  | .ptr j _ => keep.contains j
  | .el _ _ => false
  | .undef => false   -- nothing is read there
  | _ => true
def keepOk (c : Cx) (os : List SO) (f : SV) (args : List SV) (ps : List SV) (e : Bool) : Bool :=
  match f with
  | .fn g caps =>
    let keep := reach os 100 (lendAll c.own g (args ++ caps)) []
    (!e || keep.isEmpty) && ps.all (fun p => !(boxIn keep p))
  | _ => false
def dchk (b : Bool) (x : Out) : Out :=
  match b with
  | true => x
  | false => none
def loadsU (T : Tab) (ms : List Nat) (j : Nat) : Nat → List Oper → List (Nat × Operand)
  | _, [] => []
  | i, o :: os =>
    match o.op with
    | .load _ x => if unord ms i j = true then (i, x) :: loadsU T ms j (i + 1) os else loadsU T ms j (i + 1) os
    | _ => loadsU T ms j (i + 1) os
def anyU (T : Tab) (ms : List Nat) (j : Nat) : Nat → List Oper → Bool
  | _, [] => false
  | i, o :: os => (unord ms i j && (cls T o.op).isE) || anyU T ms j (i + 1) os
def chkD (c : Cx) (ops : List Oper) (ms : List Nat) (j : Nat) (env : Env) (os : List SO) (o : Oper) (x : Out) : Out :=
  match o.op with
  | .load _ p => match anyU c.T ms j 0 ops with | true => dchk (isBox (ev env p)) x | false => x
  | .call { callee := .value f, args, argTypes } =>
    match loadsU c.T ms j 0 ops with
    | [] => x
    | l => dchk (keepOk c os (ev env f) ((args.toList.zip argTypes.toList).map (argO c.T env)) ((l.filter fun p => Nat.blt p.1 j).map fun p => ev env p.2) (l.any fun p => Nat.blt j p.1)) x
  | _ => x
def runD (c : Cx) (nt : Nat) (ops : List Oper) (ms : List Nat) : Nat → List Oper → Env → List SO → (Env → List SO → Out) → Out
  | _, [], env, os, k => k env os
  | j, o :: rest, env, os, k =>
    match okDst nt o.dst with
    | false => none
    | true =>
      match silent env o with
      | some x => runD c nt ops ms (j + 1) rest (put env o.dst x) os k
      | none => chkD c ops ms j env os o ((op1 c ops env os o).bind fun r => runD c nt ops ms (j + 1) rest (put env o.dst r.1) r.2 k)
def posOf (i : Nat) : List Nat → Nat
  | [] => 0
  | x :: xs => match Nat.beq x i with | true => 0 | false => posOf i xs + 1
def permOp (C : List (Nat × Nat)) (σ : List Nat) (i : Nat) (o : Oper) : Oper :=
  { o with after := ((bindOn o ++ C.filterMap fun p => match Nat.beq p.2 i with | true => some p.1 | false => none).map fun e => { on := posOf e σ, ground := .data }).toArray,
           guard := match o.guard with | some g => some (posOf g.1 σ, g.2) | none => none }
def permOps (C : List (Nat × Nat)) (σ : List Nat) (ops : List Oper) : List Oper :=
  σ.filterMap fun i => match ops[i]? with | some o => some (permOp C σ i o) | none => none
def permOk (σ : List Nat) (ops : List Oper) : Bool :=
  Nat.beq σ.length ops.length && nodupB σ && σ.all (fun i => Nat.blt i ops.length) && (List.range ops.length).all (fun i => σ.contains i) && ops.all fun o => match o.guard with | some g => Nat.blt g.1 ops.length | none => true
open Classical in
noncomputable def both (x y : Out) : Out := if x = y then x else none
def runL (c : Cx) (nt : Nat) (ops : List Oper) (env : Env) (os : List SO) (k : Env → List SO → Out) : Out :=
  match drawOk c.T ops (masks [] ops) with
  | true => runD c nt ops (masks [] ops) 0 ops env os k
  | false => none
noncomputable def runT (c : Cx) (nt : Nat) (ops : List Oper) (env : Env) (os : List SO) (k : Env → List SO → Out) : DT → List (Nat × Nat) → Out
  | .leaf σ, C =>
    match permOk σ ops with
    | true => runL c nt (permOps C σ ops) env os k
    | false => none
  | .split i j a b, C =>
    match Nat.beq i j with
    | true => none
    | false => both (runT c nt ops env os k a (C ++ [(i, j)])) (runT c nt ops env os k b (C ++ [(j, i)]))
noncomputable def runDraw (c : Cx) (nt : Nat) (d : Option DT) (ops : List Oper) (env : Env) (os : List SO) (k : Env → List SO → Out) : Out :=
  match d with
  | none => runL c nt ops env os k
  | some t =>
    match allI (fun j o => (bindOn o).all (fun e => Nat.blt e j)) 0 ops with
    | true => runT c nt ops env os k t []
    | false => none
def kSeq (f : Env → List SO → Kt → Out) (al : Option (List Nat)) (k : Kt) : Kt :=
  { n := fun env os => f (killO al env) os k, x := k.x, r := k.r }
def kBlock (id : Nat) (k : Kt) : Kt :=
  { n := k.n, x := fun i env os => if i = id then k.n env os else k.x i env os, r := k.r }
def kLoop (nx : Env → List SO → Out) (k : Kt) : Kt := { n := nx, x := k.x, r := k.r }
noncomputable def exec (c : Cx) (N nl : Nat) (fi : FnI) : Code → Env → List SO → Kt → Out
  | .skip, env, os, k => k.n env os
  | .region id ops draw, env, os, k =>
    match draw with
    | true => runDraw c fi.nt (fi.dt id) ops.toList env os k.n
    | false => runOps c fi.nt ops.toList ops.toList env os k.n
  | .seq a b, env, os, k => exec c N nl fi a env os (kSeq (exec c N nl fi b) (fi.jn (firstRegion b)) k)
  | .cond b x y, env, os, k => condS (ev env b) (exec c N nl fi x env os k) (exec c N nl fi y env os k)
  | .block id b, env, os, k => exec c N nl fi b env os (kBlock id k)
  | .loop b, env, os, k =>
    loopS nl (fi.lp (firstRegion b)) (fun env os nx => exec c N nl fi b env os (kLoop nx k)) N (killS (fi.lp (firstRegion b)).alive env) os
  | .exit i, env, os, k => k.x i env os
  | .ret, env, os, k => k.r env os
  | _, _, _, _ => none
def resCell (T : Tab) (env : Env) (os : List SO) : ResultVar → Option SV
  | .tmp t => some (look t env)
  | .cell a t => loadS T os t (look a env)
def resC1 (x : Option SV) (xs : Option (List SV)) : Option (List SV) :=
  match x, xs with
  | some x, some xs => some (x :: xs)
  | _, _ => none
def resCells (T : Tab) (env : Env) (os : List SO) : List ResultVar → Option (List SV)
  | [] => some []
  | r :: rs => resC1 (resCell T env os r) (resCells T env os rs)
def fixCell (os : List SO) : SV → Option SV
  | .v x => some (.v x)
  | .sl sz l => some (.sl sz l)
  | .ptr j o => some (.ptr j o)
  | .fn f caps => some (.fn f caps)
  | .osl j => match os[j]? with | some (.arr _ _ _) => some (.osl j) | some (.frz sz l) => some (.sl sz l) | some (.nst _ _ _) => some (.osl j) | _ => none
  | _ => none
def fixCells (os : List SO) : List SV → Option (List SV)
  | [] => some []
  | x :: xs => match fixCell os x, fixCells os xs with | some y, some ys => some (y :: ys) | _, _ => none
def fixV (os : List SO) : SV → Option SV
  | .ag l => match fixCells os l with | some ys => some (.ag ys) | none => none
  | x => fixCell os x
def fixVs (os : List SO) : List SV → Option (List SV)
  | [] => some []
  | x :: xs => match fixV os x, fixVs os xs with | some y, some ys => some (y :: ys) | _, _ => none
def retV (T : Tab) (nl : Nat) (os : List SO) (xs : Option (List SV)) : Out :=
  match xs with
  | none => none
  | some xs =>
    match fixVs os xs with
    | none => none
    | some ys =>
      match okKeep nl (reach os 200 (List.range nl ++ ys.flatMap ids2) []) with
      | none => none
      | some keep =>
        if ((keep.drop nl).all fun j => (os.getD j .dead).fine) = true then
          some ((match ys with | [y] => ren2 (place keep) y | ys => .tup (ys.map (ren2 (place keep)))), gcO keep os)
        else none
def purCells (ms : List Nat) : Nat → List SV → List SO → Option (List SV × List SO)
  | _, [], os => some ([], os)
  | k, x :: xs, os =>
    match (match ms.contains k with | true => pureCell os x | false => some (x, os)) with
    | some (y, os1) => match purCells ms (k + 1) xs os1 with | some (ys, os2) => some (y :: ys, os2) | none => none
    | none => none
def purVs (ms : List Nat) : Nat → List SV → List SO → Option (List SV × List SO)
  | _, [], os => some ([], os)
  | k, x :: xs, os =>
    match (match x with | .ag l => (match purCells ms k l os with | some (l', os1) => some (.ag l', os1) | none => none) | x => (match ms.contains k with | true => pureCell os x | false => some (x, os))) with
    | some (y, os1) => match purVs ms (k + 100) xs os1 with | some (ys, os2) => some (y :: ys, os2) | none => none
    | none => none
def purBox (ms : List Nat) (os : List SO) : Option (List SO) :=
  match os[(0 : Nat)]? with
  | some (.box l) => match purCells ms 100000 l os with | some (l', os1) => some (os1.set 0 (.box l')) | none => none
  | _ => none
def retP (T : Tab) (ms : List Nat) (nl : Nat) (os : List SO) (xs : Option (List SV)) : Out :=
  match xs with
  | none => none
  | some xs =>
    match purVs ms 0 xs os with
    | some (ys, os1) =>
      match (match ms.contains 99999 with | true => purBox ms os1 | false => some os1) with
      | some os2 => retV T nl os2 (some ys)
      | none => none
    | none => none
def retS (T : Tab) (ms : List Nat) (nl : Nat) (rs : List ResultVar) (env : Env) (os : List SO) : Out :=
  match ms with
  | [] => retV T nl os (resCells T env os rs)
  | _ :: _ => retP T ms nl os (resCells T env os rs)
def kEnd (T : Tab) (ms : List Nat) (nl : Nat) (rs : List ResultVar) : Kt := { n := retS T ms nl rs, x := fun _ _ _ => none, r := retS T ms nl rs }
def subC : Code → List Nat → Code
  | c, [] => c
  | .seq a b, d :: p => if d = 0 then subC a p else subC b p
  | .cond _ a b, d :: p => if d = 0 then subC a p else subC b p
  | .block _ c, _ :: p => subC c p
  | .loop c, _ :: p => subC c p
  | c, _ => c
def numEnv : Nat → List SV → Env
  | _, [] => []
  | i, x :: xs => (i, x) :: numEnv (i + 1) xs
def cloneS (sz by_ : Nat) : List SV → List SO → Out
  | [.sl s l], [] => if (l = [] ∨ s = sz) ∧ by_ * l.length ≤ 2 ^ 47 ∧ 0 < by_ then some (.osl 0, [.arr false sz l]) else none
  | _, _ => none
def insS (sz by_ : Nat) : List SV → List SO → Out
  | [.osl 0, .v (.int .i64 k), .osl 1], [.arr true s1 l, .arr true s2 [x]] =>
    if s1 = sz ∧ s2 = sz ∧ 0 ≤ k ∧ k ≤ (l.length : Int) ∧ (l.length + 1) * by_ ≤ 140737488355328 then
      some (.osl 2, [.dead, .arr true sz [x], .arr true sz (l.take k.toNat ++ x :: l.drop k.toNat)]) else none
  | _, _ => none
structure Prg where
  T : Tab
  own : Nat → Bool
  pur : Nat → List Nat
  code : Nat → Option Func
  fi : Nat → FnI
  prim : Nat → Option (List SV → List SO → Out)
noncomputable def callF (p : Prg) : Nat → Nat → List SV → List SO → Out
  | 0, _, _, _ => none
  | n + 1, f, args, os =>
    match p.prim f with
    | some q => q args os
    | none =>
      match p.code f with
      | none => none
      | some fn =>
        match fn.body with
        | none => none
        | some b =>
          exec ⟨p.T, p.own, callF p n⟩ (n + 1) os.length (p.fi f) b (numEnv 0 args) os
            (kEnd p.T (p.pur f) os.length fn.results.toList)
def bd (A : Out) (f : SV → List SO → Out) : Out := Option.bind A fun r => f r.1 r.2
def gcB (nl : Nat) (xs : List SV) (os : List SO) (k : List SV → List SO → Out) : Out :=
  (okKeep nl (reach os 200 (List.range nl ++ xs.flatMap ids3) [])).bind fun keep => k (xs.map (ren3 (place keep))) (gcO keep os)
end Go.Proofs.YtebaiioejagfoaaGreatDoor

/- The evaluator S: what its values and objects say of the model's memory. -/
namespace Go.Proofs.YtebaiioejagfoaaGreatDoor
open Go
set_option linter.unusedVariables false
set_option linter.unusedSimpArgs false
inductive Gh where
  | no
  | nil
  | blk (b sz n cap : Nat)
  | bx (b : Nat)
  | nst (b sz n cap : Nat) (ins : List Nat)
def Gh.has : Gh → Nat → Prop
  | .blk b _ _ _, c => b = c
  | .bx b, c => b = c
  | .nst b _ _ _ ins, c => b = c ∨ c ∈ ins
  | _, _ => False
def G0 : Nat → Gh := fun _ => .no
def CellsAt (w : World) (b o : Nat) (cs : List Value) : Prop := ∀ k v, cs[k]? = some v → w.cell? ⟨b, o + k, none⟩ = some v
def flatV (vs : List Value) : List Value := vs.flatMap fun v => v.cells.toList
def ElOK (sz : Nat) (v : Value) : Prop := v.cells.size = sz ∧ ∀ c, c ∈ v.cells.toList → c.oneCell' = true
inductive RepV (w : World) (B : Nat → Prop) : (Nat → Gh) → SV → Value → Prop
  | v {g : Nat → Gh} {x : Value} : scalar x = true → RepV w B g (.v x) x
  | undef {g : Nat → Gh} : RepV w B g .undef Go.undef
  | dead {g : Nat → Gh} {x : Value} : RepV w B g .dead x
  | sl0 {g : Nat → Gh} {a : Option Addr} {sz c : Nat} : RepV w B g (.sl sz []) (.slice a 0 c)
  | sl {g : Nat → Gh} {l : List SV} {vs : List Value} {sz b o c : Nat} : l.length = vs.length → (∀ (i : Nat) (x : SV) (v : Value), l[i]? = some x → vs[i]? = some v → RepV w B G0 x v) →
      (∀ v : Value, v ∈ vs → ElOK sz v) → CellsAt w b o (flatV vs) → B b → l.length ≤ c → RepV w B g (.sl sz l) (.slice (some ⟨b, o, none⟩) l.length c)
  | ag {g : Nat → Gh} {l : List SV} {vs : List Value} : l.length = vs.length → (∀ (i : Nat) (x : SV) (v : Value), l[i]? = some x → vs[i]? = some v → RepV w B g x v) →
      (∀ v : Value, v ∈ vs → v.oneCell' = true) → RepV w B g (.ag l) (.agg vs.toArray)
  | tup {g : Nat → Gh} {l : List SV} {vs : List Value} : l.length = vs.length → (∀ (i : Nat) (x : SV) (v : Value), l[i]? = some x → vs[i]? = some v → RepV w B g x v) →
      RepV w B g (.tup l) (.tuple vs.toArray)
  | osl0 {g : Nat → Gh} {j : Nat} : g j = .nil → RepV w B g (.osl j) (.slice none 0 0)
  | osl {g : Nat → Gh} {j b sz n cap : Nat} : g j = .blk b sz n cap → RepV w B g (.osl j) (.slice (some ⟨b, 0, none⟩) n cap)
  | osln {g : Nat → Gh} {j b sz n cap : Nat} {ins : List Nat} : g j = .nst b sz n cap ins → RepV w B g (.osl j) (.slice (some ⟨b, 0, none⟩) n cap)
  | vw0 {g : Nat → Gh} {j lo c : Nat} {a : Option Addr} : RepV w B g (.vw j lo lo) (.slice a 0 c)
  | vw {g : Nat → Gh} {j b sz n cap lo hi c : Nat} : g j = .blk b sz n cap → lo ≤ hi → hi ≤ n → hi - lo ≤ c →
      RepV w B g (.vw j lo hi) (.slice (some ⟨b, lo * sz, none⟩) (hi - lo) c)
  | ptr {g : Nat → Gh} {j b o : Nat} : g j = .bx b → RepV w B g (.ptr j o) (.pointer (some ⟨b, o, none⟩))
  | ap {g : Nat → Gh} {j b sz n cap i o : Nat} : g j = .blk b sz n cap → RepV w B g (.ap j i o) (.pointer (some ⟨b, i * sz + o, none⟩))
  | el {g : Nat → Gh} {x : SV} {u : Value} {b o k : Nat} : RepV w B G0 x u → CellsAt w b o u.cells.toList → B b → RepV w B g (.el x k) (.pointer (some ⟨b, o + k, none⟩))
  | fn {g : Nat → Gh} {f : Nat} {caps : List SV} {vs : List Value} : caps.length = vs.length → (∀ (i : Nat) (x : SV) (v : Value), caps[i]? = some x → vs[i]? = some v → RepV w B g x v) →
      RepV w B g (.fn f caps) (.func (.func f) #[] vs.toArray)
def RepL (w : World) (B : Nat → Prop) (g : Nat → Gh) (l : List SV) (vs : List Value) : Prop :=
  l.length = vs.length ∧ ∀ (i : Nat) (x : SV) (v : Value), l[i]? = some x → vs[i]? = some v → RepV w B g x v
def Room (w : World) (b n : Nat) (sz : Nat := 1) : Prop :=
  ∃ cs t fz, w.heap[b]? = some (.cells cs t fz) ∧ n ≤ cs.size ∧ (∀ o, o < cs.size → ¬ (fz.1 ≤ o ∧ o < fz.2)) ∧ (sz ≠ 1 → ¬ (fz.1 ≤ cs.size ∧ cs.size < fz.2))
structure Inner (w : World) (b : Nat) (ins : List Nat) (l : List SV) (vs : List Value) : Prop where
  out : b ∉ ins
  at_ : ∃ f : Nat → Nat → Nat, (∀ (i c : Nat) (x : SV) (v : Value) (sz : Nat) (m : List SV), l[i]? = some x → vs[i]? = some v → x.cells[c]? = some (.sl sz m) → m ≠ [] → f i c ∈ ins ∧ ∃ cap, v.cells.toList[c]? = some (.slice (some ⟨f i c, 0, none⟩) m.length cap) ∧ Room w (f i c) (cap * sz) sz) ∧
    ∀ i c i' c', f i c = f i' c' → i = i' ∧ c = c'
def ObjOK (w : World) (B : Nat → Prop) (g : Nat → Gh) (j : Nat) : SO → Prop
  | .dead => True
  | .frz sz l => (l = [] ∧ g j = .nil) ∨ ∃ b cap vs, g j = .blk b sz l.length cap ∧ l.length ≤ cap ∧ B b ∧ RepL w B G0 l vs ∧ (∀ v : Value, v ∈ vs → ElOK sz v) ∧ CellsAt w b 0 (flatV vs)
  | .arr _ sz l => (l = [] ∧ g j = .nil) ∨ ∃ b cap vs, g j = .blk b sz l.length cap ∧ l.length ≤ cap ∧ RepL w B G0 l vs ∧ (∀ v : Value, v ∈ vs → ElOK sz v) ∧ CellsAt w b 0 (flatV vs) ∧ Room w b (cap * sz) sz
  | .nst _ sz l => (l = [] ∧ g j = .nil) ∨ ∃ b cap vs ins, g j = .nst b sz l.length cap ins ∧ l.length ≤ cap ∧ RepL w (fun c => c ∈ ins) G0 l vs ∧ (∀ v : Value, v ∈ vs → ElOK sz v) ∧ CellsAt w b 0 (flatV vs) ∧ Room w b (cap * sz) sz ∧ Inner w b ins l vs
  | .box l => ∃ b vs, g j = .bx b ∧ RepL w B g l vs ∧ (∀ v : Value, v ∈ vs → v.oneCell' = true) ∧ CellsAt w b 0 vs ∧ Room w b vs.length
def SO.isLive : SO → Bool
  | .box _ | .arr _ _ _ | .nst _ _ _ => true
  | _ => false
def live (os : List SO) (g : Nat → Gh) (b : Nat) : Prop := ∃ j o, os[j]? = some o ∧ o.isLive = true ∧ (g j).has b
structure Fr where
  N : Nat
  A : Nat → Prop
  L : Nat → Prop
  w0 : World
def Bk (fr : Fr) (os : List SO) (g : Nat → Gh) (w : World) (b : Nat) : Prop := b < w.heap.size ∧ (b < fr.N → fr.A b) ∧ ¬ live os g b
def SameOut (w w' : World) : Prop := w'.os = w.os ∧ w'.tape = w.tape ∧ w'.output = w.output
theorem SameOut.refl (w : World) : SameOut w w := ⟨rfl, rfl, rfl⟩
theorem SameOut.trans {w w' w'' : World} (h : SameOut w w') (h' : SameOut w' w'') : SameOut w w'' := ⟨h'.1.trans h.1, h'.2.1.trans h.2.1, h'.2.2.trans h.2.2⟩
structure Mem (fr : Fr) (os : List SO) (g : Nat → Gh) (w : World) : Prop where
  objs : ∀ j o, os[j]? = some o → ObjOK w (Bk fr os g w) g j o
  fresh : ∀ j, os.length ≤ j → g j = .no
  inj : ∀ i j oi oj b, os[i]? = some oi → os[j]? = some oj → oi.isLive = true → oj.isLive = true → (g i).has b → (g j).has b → i = j
  own : ∀ b, live os g b → b < w.heap.size ∧ (b < fr.N → fr.L b)
  mine : ∀ j sz l b, os[j]? = some (.arr false sz l) → (g j).has b → fr.N ≤ b
  frame : ∀ b, b < fr.N → ¬ fr.L b → w.heap[b]? = fr.w0.heap[b]?
  size : fr.N ≤ w.heap.size
  out : SameOut fr.w0 w
def Slots (w : World) (B : Nat → Prop) (g : Nat → Gh) (env : Env) (tmps : Array Value) : Prop :=
  ∀ t, RepV w B g (look t env) (tmps.getD t undef)
structure Grow (fr : Fr) (os : List SO) (g : Nat → Gh) (w : World) (os' : List SO) (g' : Nat → Gh) (w' : World) : Prop where
  sub : ∀ b, Bk fr os g w b → Bk fr os' g' w' b
  same : ∀ b, Bk fr os g w b → w'.heap[b]? = w.heap[b]?
  ext : ∀ j, g j ≠ .no → g' j = g j
theorem cell?_heap {w w' : World} {b : Nat} (h : w'.heap[b]? = w.heap[b]?) (o : Nat) : w'.cell? ⟨b, o, none⟩ = w.cell? ⟨b, o, none⟩ := by
  simp only [World.cell?, h]
theorem CellsAt.heap {w w' : World} {b o : Nat} {cs : List Value} (h : CellsAt w b o cs) (e : w'.heap[b]? = w.heap[b]?) : CellsAt w' b o cs :=
  fun k v hk => by rw [cell?_heap e]; exact h k v hk
theorem RepV.mono {w w' : World} {B B' : Nat → Prop} {g : Nat → Gh} {x : SV} {v : Value} (h : RepV w B g x v)
    (hB : ∀ b, B b → B' b) (hw : ∀ b, B b → w'.heap[b]? = w.heap[b]?) : ∀ g', (∀ j, g j ≠ .no → g' j = g j) → RepV w' B' g' x v := by
  induction h with
  | v h => exact fun _ _ => .v h
  | undef => exact fun _ _ => .undef
  | dead => exact fun _ _ => .dead
  | sl0 => exact fun _ _ => .sl0
  | sl h1 h2 h3 h4 h5 h6 ih => exact fun _ _ => .sl h1 (fun i x v a b => ih i x v a b G0 (fun j hj => absurd rfl hj)) h3 (h4.heap (hw _ h5)) (hB _ h5) h6
  | ag h1 h2 h3 ih => exact fun g' hg => .ag h1 (fun i x v a b => ih i x v a b g' hg) h3
  | tup h1 h2 ih => exact fun g' hg => .tup h1 (fun i x v a b => ih i x v a b g' hg)
  | osl0 h => exact fun g' hg => .osl0 (by rw [hg _ (by rw [h]; simp)]; exact h)
  | osl h => exact fun g' hg => .osl (by rw [hg _ (by rw [h]; simp)]; exact h)
  | osln h => exact fun g' hg => .osln (by rw [hg _ (by rw [h]; simp)]; exact h)
  | vw0 => exact fun _ _ => .vw0
  | vw h a b c => exact fun g' hg => .vw (by rw [hg _ (by rw [h]; simp)]; exact h) a b c
  | ptr h => exact fun g' hg => .ptr (by rw [hg _ (by rw [h]; simp)]; exact h)
  | ap h => exact fun g' hg => .ap (by rw [hg _ (by rw [h]; simp)]; exact h)
  | el h1 h2 h3 ih => exact fun _ _ => .el (ih G0 (fun j hj => absurd rfl hj)) (h2.heap (hw _ h3)) (hB _ h3)
  | fn h1 h2 ih => exact fun g' hg => .fn h1 (fun i x v a b => ih i x v a b g' hg)
theorem RepL.mono {w w' : World} {B B' : Nat → Prop} {g g' : Nat → Gh} {l : List SV} {vs : List Value} (h : RepL w B g l vs)
    (hB : ∀ b, B b → B' b) (hw : ∀ b, B b → w'.heap[b]? = w.heap[b]?) (hg : ∀ j, g j ≠ .no → g' j = g j) : RepL w' B' g' l vs :=
  ⟨h.1, fun i x v a b => (h.2 i x v a b).mono hB hw g' hg⟩
theorem RepV.grow {fr : Fr} {os os' : List SO} {g g' : Nat → Gh} {w w' : World} {x : SV} {v : Value} (h : RepV w (Bk fr os g w) g x v)
    (hg : Grow fr os g w os' g' w') : RepV w' (Bk fr os' g' w') g' x v := h.mono hg.sub hg.same g' hg.ext
theorem Slots.grow {fr : Fr} {os os' : List SO} {g g' : Nat → Gh} {w w' : World} {env : Env} {tmps : Array Value} (h : Slots w (Bk fr os g w) g env tmps)
    (hg : Grow fr os g w os' g' w') : Slots w' (Bk fr os' g' w') g' env tmps := fun t => (h t).grow hg
theorem Grow.refl (fr : Fr) (os : List SO) (g : Nat → Gh) (w : World) : Grow fr os g w os g w := ⟨fun _ h => h, fun _ _ => rfl, fun _ _ => rfl⟩
theorem Grow.trans {fr : Fr} {os os' os'' : List SO} {g g' g'' : Nat → Gh} {w w' w'' : World} (h : Grow fr os g w os' g' w') (h' : Grow fr os' g' w' os'' g'' w'') :
    Grow fr os g w os'' g'' w'' :=
  ⟨fun b hb => h'.sub b (h.sub b hb), fun b hb => (h'.same b (h.sub b hb)).trans (h.same b hb), fun j hj => by
    rw [h'.ext j (by rw [h.ext j hj]; exact hj), h.ext j hj]⟩
theorem ObjOK.mono {w w' : World} {B B' : Nat → Prop} {g g' : Nat → Gh} {j : Nat} {o : SO} (h : ObjOK w B g j o)
    (hB : ∀ b, B b → B' b) (hw : ∀ b, B b → w'.heap[b]? = w.heap[b]?) (hg : ∀ j, g j ≠ .no → g' j = g j)
    (hb : ∀ b, o.isLive = true → (g j).has b → w'.heap[b]? = w.heap[b]?) : ObjOK w' B' g' j o := by
  cases o with
  | dead => trivial
  | frz sz l =>
    rcases h with ⟨a, b⟩ | ⟨b, cap, vs, h1, h2, h3, h4, h5, h6⟩
    · exact .inl ⟨a, by rw [hg _ (by rw [b]; simp)]; exact b⟩
    · exact .inr ⟨b, cap, vs, by rw [hg _ (by rw [h1]; simp)]; exact h1, h2, hB _ h3, h4.mono hB hw (fun j hj => absurd rfl hj), h5, h6.heap (hw _ h3)⟩
  | arr lt sz l =>
    rcases h with ⟨a, b⟩ | ⟨b, cap, vs, h1, h2, h3, h4, h5, h6⟩
    · exact .inl ⟨a, by rw [hg _ (by rw [b]; simp)]; exact b⟩
    · have e := hb b rfl (by rw [h1]; rfl)
      refine .inr ⟨b, cap, vs, by rw [hg _ (by rw [h1]; simp)]; exact h1, h2, h3.mono hB hw (fun j hj => absurd rfl hj), h4, h5.heap e, ?_⟩
      obtain ⟨cs, t, fz, a, c, d⟩ := h6
      exact ⟨cs, t, fz, by rw [e]; exact a, c, d⟩
  | nst lt sz l =>
    rcases h with ⟨a, b⟩ | ⟨b, cap, vs, ins, h1, h2, h3, h4, h5, h6, h7⟩
    · exact .inl ⟨a, by rw [hg _ (by rw [b]; simp)]; exact b⟩
    · have e : ∀ c, b = c ∨ c ∈ ins → w'.heap[c]? = w.heap[c]? := fun c hc => hb c rfl (by rw [h1]; exact hc)
      have room : ∀ {c n s : Nat}, (b = c ∨ c ∈ ins) → Room w c n s → Room w' c n s := fun {c n s} hc hr => by
        obtain ⟨cs, t, fz, a, c', d⟩ := hr
        exact ⟨cs, t, fz, by rw [e _ hc]; exact a, c', d⟩
      refine .inr ⟨b, cap, vs, ins, by rw [hg _ (by rw [h1]; simp)]; exact h1, h2, h3.mono (fun _ h => h) (fun c hc => e c (.inr hc)) (fun j hj => absurd rfl hj), h4, h5.heap (e b (.inl rfl)), room (.inl rfl) h6, h7.out, ?_⟩
      obtain ⟨f, f1, f2⟩ := h7.at_
      refine ⟨f, fun i c x v sz m a1 a2 a3 a4 => ?_, f2⟩
      obtain ⟨p1, cap', p2, p3⟩ := f1 i c x v sz m a1 a2 a3 a4
      exact ⟨p1, cap', p2, room (.inr p1) p3⟩
  | box l =>
    obtain ⟨b, vs, h1, h2, h3, h4, h5⟩ := h
    have e := hb b rfl (by rw [h1]; rfl)
    refine ⟨b, vs, by rw [hg _ (by rw [h1]; simp)]; exact h1, h2.mono hB hw hg, h3, h4.heap e, ?_⟩
    obtain ⟨cs, t, fz, a, c, d⟩ := h5
    exact ⟨cs, t, fz, by rw [e]; exact a, c, d⟩
theorem scalar_cells {v : Value} (h : scalar v = true) : v.cells = #[v] := by
  cases v <;> first | rfl | simp [scalar] at h
theorem scalar_one {v : Value} (h : scalar v = true) : v.oneCell' = true := by
  cases v <;> first | rfl | simp [scalar] at h
theorem RepV.cells {w : World} {B : Nat → Prop} {g : Nat → Gh} {x : SV} {v : Value} (h : RepV w B g x v) (hx : x ≠ .dead) : RepL w B g x.cells v.cells.toList := by
  have one : ∀ {x : SV} {v : Value}, RepV w B g x v → x.cells = [x] → v.cells = #[v] → RepL w B g x.cells v.cells.toList := by
    intro x v h e1 e2
    rw [e1, e2]
    refine ⟨rfl, fun i y c hy hc => ?_⟩
    cases i with
    | zero => simp at hy hc; subst hy; subst hc; exact h
    | succ i => simp at hy
  cases h with
  | ag h1 h2 h3 => exact ⟨by simpa [SV.cells, Value.cells] using h1, by simpa [SV.cells, Value.cells] using h2⟩
  | dead => exact absurd rfl hx
  | v h => exact one (.v h) rfl (scalar_cells h)
  | undef => exact one .undef rfl rfl
  | sl0 => exact one .sl0 rfl rfl
  | sl h1 h2 h3 h4 h5 h6 => exact one (.sl h1 h2 h3 h4 h5 h6) rfl rfl
  | tup h1 h2 => exact one (.tup h1 h2) rfl rfl
  | osl0 h => exact one (.osl0 h) rfl rfl
  | osl h => exact one (.osl h) rfl rfl
  | osln h => exact one (.osln h) rfl rfl
  | vw0 => exact one .vw0 rfl rfl
  | vw h a b c => exact one (.vw h a b c) rfl rfl
  | ptr h => exact one (.ptr h) rfl rfl
  | ap h => exact one (.ap h) rfl rfl
  | el h1 h2 h3 => exact one (.el h1 h2 h3) rfl rfl
  | fn h1 h2 => exact one (.fn h1 h2) rfl rfl
theorem RepV.size {w : World} {B : Nat → Prop} {g : Nat → Gh} {x : SV} {v : Value} (h : RepV w B g x v) (hx : x ≠ .dead) : x.cells.length = v.cells.size := by
  have := (h.cells hx).1; simpa using this
theorem okCell_one {w : World} {B : Nat → Prop} {g : Nat → Gh} {x : SV} {v : Value} (h : RepV w B g x v) (hx : okCell x = true) : v.oneCell' = true := by
  cases h <;> simp [okCell] at hx <;> first | rfl | (apply scalar_one; assumption)
theorem RepL.nil {w : World} {B : Nat → Prop} {g : Nat → Gh} : RepL w B g [] [] := ⟨rfl, fun i x v h => by simp at h⟩
theorem RepL.cons {w : World} {B : Nat → Prop} {g : Nat → Gh} {x : SV} {v : Value} {l : List SV} {vs : List Value} (h : RepV w B g x v) (hl : RepL w B g l vs) :
    RepL w B g (x :: l) (v :: vs) :=
  ⟨by simp [hl.1], fun i y c hy hc => by
    cases i with
    | zero => simp at hy hc; subst hy; subst hc; exact h
    | succ i => exact hl.2 i y c (by simpa using hy) (by simpa using hc)⟩
theorem RepL.uncons {w : World} {B : Nat → Prop} {g : Nat → Gh} {x : SV} {l : List SV} {vs : List Value} (h : RepL w B g (x :: l) vs) :
    ∃ v vs', vs = v :: vs' ∧ RepV w B g x v ∧ RepL w B g l vs' := by
  cases vs with
  | nil => simp [RepL] at h
  | cons v vs => exact ⟨v, vs, rfl, h.2 0 x v rfl rfl, by simpa using h.1, fun i y c hy hc => h.2 (i + 1) y c (by simpa using hy) (by simpa using hc)⟩
theorem RepL.get {w : World} {B : Nat → Prop} {g : Nat → Gh} {l : List SV} {vs : List Value} (h : RepL w B g l vs) {i : Nat} {x : SV} (hx : l[i]? = some x) :
    ∃ v, vs[i]? = some v ∧ RepV w B g x v := by
  have hi : i < l.length := by
    rcases Nat.lt_or_ge i l.length with h' | h'
    · exact h'
    · simp [List.getElem?_eq_none h'] at hx
  have hv : i < vs.length := h.1 ▸ hi
  exact ⟨vs[i], by simp [hv], h.2 i x _ hx (by simp [hv])⟩
theorem RepL.append {w : World} {B : Nat → Prop} {g : Nat → Gh} {l l' : List SV} {vs vs' : List Value} (h : RepL w B g l vs) (h' : RepL w B g l' vs') :
    RepL w B g (l ++ l') (vs ++ vs') :=
  ⟨by simp [h.1, h'.1], fun i x v hx hv => by
    have e := h.1
    rcases Nat.lt_or_ge i l.length with hi | hi
    · rw [List.getElem?_append_left hi] at hx; rw [List.getElem?_append_left (e ▸ hi)] at hv; exact h.2 i x v hx hv
    · rw [List.getElem?_append_right hi] at hx; rw [List.getElem?_append_right (e ▸ hi)] at hv; rw [e] at hx; exact h'.2 _ x v hx hv⟩
theorem RepL.take {w : World} {B : Nat → Prop} {g : Nat → Gh} {l : List SV} {vs : List Value} (h : RepL w B g l vs) (n : Nat) : RepL w B g (l.take n) (vs.take n) :=
  ⟨by simp [h.1], fun i x v hx hv => by
    rw [List.getElem?_take] at hx hv
    split at hx
    · rename_i hi; rw [if_pos hi] at hv; exact h.2 i x v hx hv
    · simp at hx⟩
theorem RepL.drop {w : World} {B : Nat → Prop} {g : Nat → Gh} {l : List SV} {vs : List Value} (h : RepL w B g l vs) (n : Nat) : RepL w B g (l.drop n) (vs.drop n) :=
  ⟨by simp [h.1], fun i x v hx hv => by
    rw [List.getElem?_drop] at hx hv; exact h.2 _ x v hx hv⟩
theorem CellsAt.append {w : World} {b o : Nat} {xs ys : List Value} (h : CellsAt w b o xs) (h' : CellsAt w b (o + xs.length) ys) : CellsAt w b o (xs ++ ys) := by
  intro k v hk
  rcases Nat.lt_or_ge k xs.length with hi | hi
  · exact h k v (by rwa [List.getElem?_append_left hi] at hk)
  · rw [List.getElem?_append_right hi] at hk
    have := h' _ v hk
    rwa [show o + xs.length + (k - xs.length) = o + k by omega] at this
theorem CellsAt.take {w : World} {b o : Nat} {xs : List Value} (h : CellsAt w b o xs) (n : Nat) : CellsAt w b o (xs.take n) := by
  intro k v hk
  rw [List.getElem?_take] at hk
  split at hk
  · exact h k v hk
  · simp at hk
theorem CellsAt.drop {w : World} {b o : Nat} {xs : List Value} (h : CellsAt w b o xs) (n : Nat) : CellsAt w b (o + n) (xs.drop n) := by
  intro k v hk
  rw [List.getElem?_drop] at hk
  have := h _ v hk
  rwa [show o + (n + k) = o + n + k by omega] at this
theorem flatV_drop {vs : List Value} {sz : Nat} (h : ∀ v, v ∈ vs → ElOK sz v) : ∀ i, (flatV vs).drop (i * sz) = flatV (vs.drop i) := by
  intro i
  induction i generalizing vs with
  | zero => simp
  | succ i ih =>
    cases vs with
    | nil => simp [flatV]
    | cons v vs =>
      have hv := (h v (by simp)).1
      have e : (flatV (v :: vs)).drop sz = flatV vs := by
        simp only [flatV, List.flatMap_cons]
        rw [List.drop_append_of_le_length (by simp [hv])]
        simp [List.drop_eq_nil_of_le, hv]
      rw [show (i + 1) * sz = sz + i * sz by rw [Nat.succ_mul]; omega, ← List.drop_drop, e]
      simpa using ih (vs := vs) (fun x hx => h x (by simp [hx]))
theorem flatV_length {vs : List Value} {sz : Nat} (h : ∀ v, v ∈ vs → ElOK sz v) : (flatV vs).length = vs.length * sz := by
  induction vs with
  | nil => simp [flatV]
  | cons v vs ih =>
    have := ih (fun x hx => h x (by simp [hx]))
    have hv := (h v (by simp)).1
    simp only [flatV, List.flatMap_cons, List.length_append, List.length_cons] at this ⊢
    rw [this]; simp [hv, Nat.succ_mul]; omega
theorem flatV_take {vs : List Value} {sz : Nat} (h : ∀ v, v ∈ vs → ElOK sz v) : ∀ i, (flatV vs).take (i * sz) = flatV (vs.take i) := by
  intro i
  induction i generalizing vs with
  | zero => simp [flatV]
  | succ i ih =>
    cases vs with
    | nil => simp [flatV]
    | cons v vs =>
      have hv := (h v (by simp)).1
      have := ih (vs := vs) (fun x hx => h x (by simp [hx]))
      simp only [flatV, List.flatMap_cons, List.take_succ_cons] at this ⊢
      rw [show (i + 1) * sz = v.cells.toList.length + i * sz by rw [Nat.succ_mul]; simp [hv]; omega, List.take_length_add_append, this]
theorem flatV_append (vs us : List Value) : flatV (vs ++ us) = flatV vs ++ flatV us := by simp [flatV]
theorem flatV_elem {vs : List Value} {sz i : Nat} {v : Value} (h : ∀ v, v ∈ vs → ElOK sz v) (hv : vs[i]? = some v) {w : World} {b o : Nat}
    (hc : CellsAt w b o (flatV vs)) : CellsAt w b (o + i * sz) v.cells.toList := by
  have h1 := hc.drop (i * sz)
  rw [flatV_drop h] at h1
  have hi : i < vs.length := by
    rcases Nat.lt_or_ge i vs.length with h' | h'
    · exact h'
    · simp [List.getElem?_eq_none h'] at hv
  have e : vs.drop i = v :: vs.drop (i + 1) := by
    rw [List.drop_eq_getElem_cons hi]
    congr 1
    simpa [hi] using hv
  rw [e] at h1
  have h2 := h1.take v.cells.size
  simp only [flatV, List.flatMap_cons] at h2
  rwa [show v.cells.size = v.cells.toList.length by simp, List.take_left'] at h2
  rfl
end Go.Proofs.YtebaiioejagfoaaGreatDoor

/- The evaluator S: what is asked of the table of types; how memory may change; operations that only read. -/
namespace Go.Proofs.YtebaiioejagfoaaGreatDoor
open Go
set_option linter.unusedVariables false
set_option linter.unusedSimpArgs false
def aggDesc : TypeDesc → Bool
  | .struct _ | .array _ _ => true
  | _ => false
def intsEq : List Value → List Value → Option Bool
  | [], [] => some true
  | .int k a :: xs, .int k' b :: ys => if k = k' then match intsEq xs ys with | some r => some (a == b && r) | none => none else none
  | _, _ => none
structure TiOk (P : Program) (t : Nat) (i : TI) : Prop where
  ok : ∃ info z d, P.info? t = some info ∧ info.size = i.size ∧ info.bytes = i.bytes ∧ info.zero = some z ∧ z.cells.toList = i.zero.map ZK.val ∧
    P.underlying t = some d ∧ aggDesc d = i.agg ∧ ((i.agg = true → ∃ cs, z = .agg cs) ∧ (i.agg = false → z.oneCell' = true)) ∧ i.zero.length = i.size
structure TabOk (P : Program) (T : Tab) : Prop where
  ti : ∀ t i, T.ti t = some i → TiOk P t i
  str : ∀ t, T.und t = some .str → P.underlying t = some .string
  bool : ∀ t, T.und t = some .bool → P.underlying t = some .bool
  int : ∀ t k, T.und t = some (.int k) → P.underlying t = some (.int k)
  slice : ∀ t e, T.und t = some (.slice e) → P.underlying t = some (.slice e)
  array : ∀ t n e, T.und t = some (.array n e) → P.underlying t = some (.array n e)
  struct : ∀ t u fs, T.und t = some u → u.fields = some fs → ∃ fields : Array Field, P.underlying t = some (.struct fields) ∧ fields.toList.map (fun f => (f.offset, f.type)) = fs ∧ ∀ f, f ∈ fields.toList → (P.info? f.type).isSome = true
  eqs : ∀ t fs i, T.und t = some (.eqs fs) → T.ti t = some i → P.eqGuardType P.depth t = false ∧
    ∀ (xs ys : List Value) (r : Bool) (w : World), intsEq xs ys = some r → xs.length = i.size → (Op.equal t (.agg xs.toArray) (.agg ys.toArray)).run P w = .ok r w
variable {P : Program} {T : Tab}
theorem run_info {t : TypeId} {i : TypeInfo} (h : P.info? t = some i) (w : World) : (typeInfo t).run P w = .ok i w := by simp [typeInfo, h]
theorem run_size {t : TypeId} {i : TypeInfo} (h : P.info? t = some i) (w : World) : (sizeOf t).run P w = .ok i.size w := by simp [sizeOf, run_info h]
theorem run_zero {t : TypeId} {i : TypeInfo} {z : Value} (h : P.info? t = some i) (hz : i.zero = some z) (w : World) : (zeroValue t).run P w = .ok z w := by simp [zeroValue, run_info h, hz]
theorem run_agg {t : TypeId} {d : TypeDesc} (h : P.underlying t = some d) (w : World) : (isAgg t).run P w = .ok (aggDesc d) w := by
  unfold isAgg aggDesc
  simp only [Sem.run_bind, run_underlying h, Result.andThen_ok]
  cases d <;> rfl
theorem run_loadAt {t : Nat} {i : TI} (hi : TiOk P t i) {w : World} {b o : Nat} {cs : List Value} (hc : CellsAt w b o cs) (hl : i.size ≤ cs.length) :
    (i.agg = true → (Instr.loadAt t (.pointer (some ⟨b, o, none⟩))).run P w = .ok (.agg (cs.take i.size).toArray) w) ∧
    (∀ v, i.agg = false → cs[0]? = some v → (Instr.loadAt t (.pointer (some ⟨b, o, none⟩))).run P w = .ok v w) := by
  obtain ⟨info, z, d, h1, h2, h3, h4, h5, h6, h7, h8, h9⟩ := hi.ok
  refine ⟨fun ha => ?_, fun v ha hv => ?_⟩
  · have hl' : (cs.take i.size).length = i.size := by simp [hl]
    have hr := run_loadCells_list (P := P) w ⟨b, o, none⟩ (cs.take i.size) (fun j v hj => by rw [Addr.add_lit]; exact hc.take _ j v hj)
    rw [hl'] at hr
    simp only [Instr.loadAt, Instr.sureAddr, loadVar, Sem.run_bind, Sem.run_pure, Result.andThen_ok, run_agg h6, h7, ha, if_true, run_size h1, h2, hr]
  · have := hc 0 v hv
    simp only [Nat.add_zero] at this
    simp only [Instr.loadAt, Instr.sureAddr, loadVar, Sem.run_bind, Sem.run_pure, Result.andThen_ok, run_agg h6, h7, ha, Bool.false_eq_true, if_false, run_load, this]
theorem pack_rep {w : World} {B : Nat → Prop} {g : Nat → Gh} {agg : Bool} {l : List SV} {x : SV} {vs : List Value} (h : pack agg l = some x) (hl : RepL w B g l vs) :
    (agg = true → RepV w B g x (.agg vs.toArray)) ∧ (agg = false → ∃ v, vs[0]? = some v ∧ RepV w B g x v) := by
  unfold pack at h
  split at h
  · rename_i ha
    split at h
    · rename_i hok
      obtain rfl := Option.some.inj h
      refine ⟨fun _ => .ag hl.1 hl.2 (fun v hv => ?_), fun e => by simp [ha] at e⟩
      obtain ⟨i, hi, rfl⟩ := List.mem_iff_getElem.1 hv
      have hi' : i < l.length := by rw [hl.1]; exact hi
      exact okCell_one (hl.2 i l[i] vs[i] (by simp [hi']) (by simp [hi])) (List.all_eq_true.1 hok _ (List.getElem_mem hi'))
    · simp at h
  · rename_i ha
    split at h
    · obtain rfl := Option.some.inj h
      obtain ⟨v, vs', rfl, hv, _⟩ := hl.uncons
      exact ⟨fun e => absurd e ha, fun _ => ⟨v, rfl, hv⟩⟩
    · simp at h
theorem dcells_eq {x : SV} {l : List SV} (h : dcells x = some l) : x ≠ .dead ∧ l = x.cells := by
  cases x <;> simp [dcells] at h <;> (subst h; exact ⟨by simp, rfl⟩)
theorem place_rep {fr : Fr} {os : List SO} {g : Nat → Gh} {w : World} (hm : Mem fr os g w) {p : SV} {pv : Value} {l : List SV}
    (hp : RepV w (Bk fr os g w) g p pv) (h : placeCells os p = some l) :
    ∃ b o vs, pv = .pointer (some ⟨b, o, none⟩) ∧ RepL w (Bk fr os g w) g l vs ∧ CellsAt w b o vs := by
  cases p <;> simp only [placeCells] at h <;> try (simp at h; done)
  · rename_i j off
    split at h
    · rename_i l' hj
      obtain rfl := Option.some.inj h
      obtain ⟨b, vs, h1, h2, h3, h4, h5⟩ := hm.objs _ _ hj
      cases hp with
      | ptr hp =>
        rw [h1] at hp
        cases hp
        exact ⟨_, off, vs.drop off, rfl, h2.drop _, by simpa using h4.drop off⟩
    · simp at h
  · rename_i j i off
    split at h
    · rename_i lt sz l' hj
      split at h
      · rename_i x hx
        obtain ⟨xc, hxc, rfl⟩ := Option.map_eq_some_iff.1 h
        obtain ⟨hd, rfl⟩ := dcells_eq hxc
        cases hp with
        | ap hp =>
          rcases hm.objs _ _ hj with ⟨rfl, _⟩ | ⟨b, cap, vs, h1, h2, h3, h4, h5, h6⟩
          · simp at hx
          · rw [h1] at hp
            cases hp
            obtain ⟨u, hu, hr⟩ := h3.get hx
            have hc := flatV_elem h4 hu h5
            have hr' : RepV w (Bk fr os g w) g x u := hr.mono (fun _ h => h) (fun _ _ => rfl) g (fun j hj => absurd rfl hj)
            exact ⟨_, _, u.cells.toList.drop off, rfl, (hr'.cells hd).drop _, by simpa using hc.drop off⟩
      · simp at h
    · simp at h
  · rename_i x off
    obtain ⟨xc, hxc, rfl⟩ := Option.map_eq_some_iff.1 h
    obtain ⟨hd, rfl⟩ := dcells_eq hxc
    cases hp with
    | el h1 h2 h3 =>
      rename_i u b o
      have hr' : RepV w (Bk fr os g w) g x u := h1.mono (fun _ h => h) (fun _ _ => rfl) g (fun j hj => absurd rfl hj)
      exact ⟨b, _, u.cells.toList.drop off, rfl, (hr'.cells hd).drop _, h2.drop off⟩
theorem load_rep (hT : TabOk P T) {fr : Fr} {os : List SO} {g : Nat → Gh} {w : World} (hm : Mem fr os g w) {t : Nat} {p x : SV} {pv : Value}
    (hp : RepV w (Bk fr os g w) g p pv) (h : loadS T os t p = some x) : ∃ v, (Instr.loadAt t pv).run P w = .ok v w ∧ RepV w (Bk fr os g w) g x v := by
  unfold loadS at h
  split at h
  · rename_i i hi
    split at h
    · rename_i l hl
      split at h
      · rename_i hle
        obtain ⟨b, o, vs, rfl, hr, hc⟩ := place_rep hm hp hl
        have hle' : i.size ≤ vs.length := hr.1 ▸ hle
        obtain ⟨r1, r2⟩ := run_loadAt (P := P) (hT.ti t i hi) hc hle'
        obtain ⟨p1, p2⟩ := pack_rep h (hr.take i.size)
        cases ha : i.agg with
        | true => exact ⟨_, r1 ha, p1 ha⟩
        | false =>
          obtain ⟨v, hv, hv'⟩ := p2 ha
          refine ⟨v, r2 v ha ?_, hv'⟩
          rw [List.getElem?_take] at hv
          split at hv
          · exact hv
          · simp at hv
      · simp at h
    · simp at h
  · simp at h
end Go.Proofs.YtebaiioejagfoaaGreatDoor
