/- The evaluator S and what it says of functions: Sa. -/
import Derived.Calls
import Derived.Orders
/- The evaluator S: definitions. A small deterministic reading of the model's code over values that hold slices as lists. -/
namespace Go.Proofs.Ytikennabfbkdhaa
open Go
set_option linter.unusedVariables false
inductive SV where
  | v (x : Value)
  | undef
  | dead
  | sl (sz : Nat) (l : List SV)
  | osl (j : Nat)
  | vw (j lo hi : Nat)
  | ag (l : List SV)
  | tup (l : List SV)
  | ptr (j off : Nat)
  | ap (j i off : Nat)
  | el (x : SV) (off : Nat)
  | fn (f : Nat) (caps : List SV)
  deriving Inhabited
def SV.cells : SV → List SV
  | .ag l => l
  | x => [x]
inductive SO where
  | dead
  | box (l : List SV)
  | arr (lent : Bool) (sz : Nat) (l : List SV)
  | frz (sz : Nat) (l : List SV)
  | nst (lent : Bool) (sz : Nat) (l : List SV)
  deriving Inhabited
inductive ZK where
  | int (k : IntKind) | bool | str | sl (sz : Nat) | fn | ptr
  deriving DecidableEq
def ZK.val : ZK → Value
  | .int k => .int k 0
  | .bool => .bool false
  | .str => .string ⟨#[]⟩
  | .sl _ => .slice none 0 0
  | .fn => .nilFunc
  | .ptr => .pointer none
structure TI where
  size : Nat
  bytes : Nat
  agg : Bool
  zero : List ZK
inductive UK where
  | str | bool
  | int (k : IntKind)
  | slice (e : Nat)
  | array (n e : Nat)
  | struct (fs : List (Nat × Nat))
  | eqs (fs : List (Nat × Nat))   -- a struct whose cells are all whole numbers
structure Tab where
  ti : Nat → Option TI
  und : Nat → Option UK
  /-- Types whose empty literals are read alone. -/
  pz : Nat → Bool := fun _ => false
def UK.fields : UK → Option (List (Nat × Nat))
  | .struct fs => some fs
  | .eqs fs => some fs
  | _ => none
abbrev Out := Option (SV × List SO)
abbrev zKT := Nat → List SV → List SO → Out
structure Cx where
  T : Tab
  own : Nat → Bool
  K : Nat → List SV → List SO → Out
def scalar : Value → Bool
  | .int _ _ | .bool _ | .string _ | .nilFunc | .nilIface | .pointer none => true
  | _ => false
def cst (v : Value) : SV :=
  match v with
  | .slice none 0 0 => .sl 0 []
  | v => if scalar v then .v v else .dead
abbrev Env := List (Nat × SV)
def look (t : Nat) : Env → SV
  | [] => .dead
  | p :: ps => match Nat.beq t p.1 with | true => p.2 | false => look t ps
def ev (env : Env) : Operand → SV
  | .tmp t => look t env
  | .const v => cst v
  | .func f => .fn f []
  | .global _ => .dead
def evP (env : Env) (x : Operand) : Option SV :=
  match x with
  | .const (.slice none 0 0) => none
  | x => some (ev env x)
def evN (T : Tab) (ty : Nat) (os : List SO) (x : Option SV) : Option (SV × List SO) :=
  match x with
  | none =>
    match T.und ty with
    | some (.slice e) =>
      match T.ti e with
      | some i => some (.osl os.length, os ++ [.arr false i.size []])
      | none => none
    | _ => none
  | some x => some (x, os)
def intOf? : SV → Option (IntKind × Int)
  | .v (.int k n) => some (k, n)
  | _ => none
def elems (os : List SO) : SV → Option (Nat × List SV)
  | .sl sz l => some (sz, l)
  | .osl j =>
    match os[j]? with
    | some (.arr _ sz l) => some (sz, l)
    | some (.frz sz l) => some (sz, l)
    | _ => none
  | .vw j lo hi =>
    match os[j]? with
    | some (.arr _ sz l) => if lo ≤ hi ∧ hi ≤ l.length then some (sz, (l.take hi).drop lo) else none
    | some (.frz sz l) => if lo ≤ hi ∧ hi ≤ l.length then some (sz, (l.take hi).drop lo) else none
    | _ => none
  | _ => none
def lenS (T : Tab) (t : Nat) (os : List SO) (x : SV) : Option Nat :=
  match T.und t with
  | some .str => match x with | .v (.string s) => some s.size | _ => none
  | some (.slice _) =>
    match x with
    | .vw j lo hi => match elems os (.vw j lo hi) with | some _ => some (hi - lo) | none => none
    | x => match elems os x with | some p => some p.2.length | none => none
  | _ => none
def zeroS : List ZK → List SO → List SV × List SO
  | [], os => ([], os)
  | .sl sz :: zs, os => let r := zeroS zs (os ++ [.arr false sz []]); (.osl os.length :: r.1, r.2)
  | z :: zs, os => let r := zeroS zs os; (.v z.val :: r.1, r.2)
def zeroP : List ZK → List SV
  | [] => []
  | .sl sz :: zs => .sl sz [] :: zeroP zs
  | z :: zs => .v z.val :: zeroP zs
def okCell : SV → Bool
  | .v _ | .sl _ _ | .osl _ | .ptr _ _ | .fn _ _ => true
  | _ => false
def pack (agg : Bool) (l : List SV) : Option SV :=
  if agg = true then (if l.all okCell = true then some (.ag l) else none) else match l with | [x] => some x | _ => none
def splice (l : List SV) (off : Nat) (xs : List SV) : List SV := l.take off ++ xs ++ l.drop (off + xs.length)
def dcells : SV → Option (List SV)
  | .dead => none
  | .ag l => some l
  | x => some [x]
def placeCells (os : List SO) : SV → Option (List SV)
  | .ptr j off => match os[j]? with | some (.box l) => some (l.drop off) | _ => none
  | .ap j i off =>
    match os[j]? with
    | some (.arr _ _ l) => match l[i]? with | some x => (dcells x).map (List.drop off) | none => none
    | _ => none
  | .el x off => (dcells x).map (List.drop off)
  | _ => none
def loadS (T : Tab) (os : List SO) (t : Nat) (p : SV) : Option SV :=
  match T.ti t with
  | some i =>
    match placeCells os p with
    | some l => if i.size ≤ l.length then pack i.agg (l.take i.size) else none
    | none => none
  | none => none
def pureCell (os : List SO) : SV → Option (SV × List SO)
  | .v x => some (.v x, os)
  | .sl sz l => some (.sl sz l, os)
  | .osl j =>
    match os[j]? with
    | some (.arr false sz l) => some (.sl sz l, os.set j (.frz sz l))
    | some (.frz sz l) => some (.sl sz l, os)
    | _ => none
  | .vw j lo hi =>
    match os[j]? with
    | some (.arr false sz l) => if lo ≤ hi ∧ hi ≤ l.length then some (.sl sz ((l.take hi).drop lo), os.set j (.frz sz l)) else none
    | some (.frz sz l) => if lo ≤ hi ∧ hi ≤ l.length then some (.sl sz ((l.take hi).drop lo), os) else none
    | _ => none
  | _ => none
def deVw (os : List SO) : SV → Option (SV × List SO)
  | .vw j lo hi => pureCell os (.vw j lo hi)
  | x => some (x, os)
def pureCells : List SV → List SO → Option (List SV × List SO)
  | [], os => some ([], os)
  | x :: xs, os =>
    match pureCell os x with
    | some (y, os1) => match pureCells xs os1 with | some (ys, os2) => some (y :: ys, os2) | none => none
    | none => none
def pureS (os : List SO) : SV → Option (SV × List SO)
  | .ag l => match pureCells l os with | some (ys, os1) => some (.ag ys, os1) | none => none
  | x => pureCell os x
def pureL : List SV → List SO → Option (List SV × List SO)
  | [], os => some ([], os)
  | x :: xs, os =>
    match pureS os x with
    | some (y, os1) => match pureL xs os1 with | some (ys, os2) => some (y :: ys, os2) | none => none
    | none => none
def setElem (x : SV) (off : Nat) (cs : List SV) : SV :=
  match x with
  | .ag l => .ag (splice l off cs)
  | x => match off, cs with | 0, [y] => y | _, _ => x
def storeS (T : Tab) (os : List SO) (t : Nat) (p x : SV) : Option (List SO) :=
  match T.ti t with
  | some i =>
    if x.cells.length = i.size then
      match p with
      | .ptr j off =>
        match os[j]? with
        | some (.box l) => if off + i.size ≤ l.length ∧ x.cells.all okCell = true then some (os.set j (.box (splice l off x.cells))) else none
        | _ => none
      | .ap j n off =>
        match pureCells x.cells os with
        | some (ys, os1) =>
          match os1[j]? with
          | some (.arr b sz l) =>
            match l[n]? with
            | some y =>
              match dcells y with
              | some yc => if off + i.size ≤ yc.length ∧ 0 < i.size then some (os1.set j (.arr b sz (l.set n (setElem y off ys)))) else none
              | none => none
            | none => none
          | _ => none
        | none => none
      | _ => none
    else none
  | none => none
def addS (p : SV) (n : Nat) : Option SV :=
  match p with
  | .ptr j off => some (.ptr j (off + n))
  | .ap j i off => some (.ap j i (off + n))
  | .el x off => some (.el x (off + n))
  | _ => none
def fieldAddrS (T : Tab) (s : Nat) (p : SV) (f : Nat) : Option SV :=
  match T.und s with
  | some u =>
    match u.fields with
    | some fs =>
      match fs[f]? with
      | some (off, t) => match T.ti t with | some i => if i.size = 0 then none else addS p off | none => none
      | none => none
    | none => none
  | none => none
def fieldS (T : Tab) (s : Nat) (x : SV) (f : Nat) : Option SV :=
  match T.und s with
  | some u =>
    match u.fields with
    | some fs =>
      match fs[f]? with
      | some (off, t) =>
        match T.ti t, x with
        | some i, .ag l => if off + i.size ≤ l.length then pack i.agg ((l.drop off).take i.size) else none
        | _, _ => none
      | none => none
    | none => none
  | none => none
def elS (l : List SV) (n : Nat) : Option SV :=
  match l[n]? with
  | some y => some (.el y 0)
  | none => none
def indexAddrS (T : Tab) (os : List SO) (t : Nat) (x i : SV) : Option SV :=
  match i with
  | .v (.int _ n) =>
    match T.und t with
    | some (.slice e) =>
      match T.ti e with
      | some q =>
        match x with
        | .sl sz l => if 0 ≤ n ∧ sz = q.size then elS l n.toNat else none
        | .osl j =>
          match os[j]? with
          | some (.arr _ sz l) => if 0 ≤ n ∧ n < (l.length : Int) ∧ sz = q.size then some (.ap j n.toNat 0) else none
          | some (.frz sz l) => if 0 ≤ n ∧ sz = q.size then elS l n.toNat else none
          | _ => none
        | .vw j lo hi =>
          match os[j]? with
          | some (.arr _ sz l) => if 0 ≤ n ∧ n < ((hi - lo : Nat) : Int) ∧ lo ≤ hi ∧ hi ≤ l.length ∧ sz = q.size then some (.ap j (lo + n.toNat) 0) else none
          | _ => none
        | _ => none
      | none => none
    | some (.array k e) =>
      match T.ti e with
      | some q => if 0 ≤ n ∧ n < (k : Int) then addS x (n.toNat * q.size) else none
      | none => none
    | _ => none
  | _ => none
def indexS (T : Tab) (t : Nat) (x i : SV) : Option SV :=
  match T.und t, x, i with
  | some .str, .v (.string s), .v (.int _ n) => if 0 ≤ n then match s[n.toNat]? with | some b => some (.v (.int .u8 b.toNat)) | none => none else none
  | _, _, _ => none
def boundS (n : Nat) (d : Nat) : Option SV → Option Nat
  | none => some d
  | some (.v (.int _ i)) => if 0 ≤ i ∧ i ≤ (n : Int) then some i.toNat else none
  | some _ => none
def sliceS (T : Tab) (os : List SO) (t : Nat) (x : SV) (lo hi : Option SV) : Option SV :=
  match T.und t with
  | some .str =>
    match x with
    | .v (.string s) =>
      match boundS s.size s.size hi with
      | some h => match boundS h 0 lo with | some l => some (.v (.string (s.extract l h))) | none => none
      | none => none
    | _ => none
  | some (.slice e) =>
    match T.ti e with
    | some q =>
      match x with
      | .osl j =>
        match os[j]? with
        | some (.arr _ sz l) =>
          match boundS l.length l.length hi with
          | some h => match boundS h 0 lo with | some o => if sz = q.size then some (.vw j o h) else none | none => none
          | none => none
        | some (.frz sz l) =>
          match boundS l.length l.length hi with
          | some h => match boundS h 0 lo with | some o => if sz = q.size then some (.sl sz ((l.take h).drop o)) else none | none => none
          | none => none
        | _ => none
      | .sl sz l =>
        match boundS l.length l.length hi with
        | some h => match boundS h 0 lo with | some o => if sz = q.size then some (.sl sz ((l.take h).drop o)) else none | none => none
        | none => none
      | _ => none
    | none => none
  | _ => none
def slice3S (T : Tab) (t : Nat) (x hi m : SV) : Option SV :=
  match T.und t with
  | some (.slice e) =>
    match T.ti e with
    | some _ =>
      match x, hi, m with
      | .sl sz l, .v (.int _ h), .v (.int _ q) => if h = (l.length : Int) ∧ q = (l.length : Int) then some (.sl sz l) else none
      | _, _, _ => none
    | none => none
  | _ => none
def strBin (op : BinOp) (x y : ByteArray) : Option SV :=
  match op with
  | .add => if ((x.size + y.size : Nat) : Int) > IntKind.i64.max then none else some (.v (.string (x ++ y)))
  | .eql => some (.v (.bool (x.toList == y.toList)))
  | .neq => some (.v (.bool !(x.toList == y.toList)))
  | _ => none
def intBin (op : BinOp) (k : IntKind) (a b : Int) : Option SV :=
  match op with
  | .add => some (.v (.int k (k.wrap (a + b))))
  | .sub => some (.v (.int k (k.wrap (a - b))))
  | .mul => some (.v (.int k (k.wrap (a * b))))
  | .quo => if b = 0 then none else some (.v (.int k (k.wrap (a.tdiv b))))
  | .rem => if b = 0 then none else some (.v (.int k (a.tmod b)))
  | .xor => some (.v (.int k (k.wrap ((BitVec.ofInt k.bits a ^^^ BitVec.ofInt k.bits b).toNat))))
  | .and => some (.v (.int k (k.wrap ((BitVec.ofInt k.bits a &&& BitVec.ofInt k.bits b).toNat))))
  | .eql => some (.v (.bool (a == b)))
  | .neq => some (.v (.bool (a != b)))
  | .lss => some (.v (.bool (a < b)))
  | .leq => some (.v (.bool (a ≤ b)))
  | .gtr => some (.v (.bool (a > b)))
  | .geq => some (.v (.bool (a ≥ b)))
  | _ => none
def sameInts : List SV → List SV → Option Bool
  | [], [] => some true
  | .v (.int k a) :: xs, .v (.int k' b) :: ys =>
    if k = k' then match sameInts xs ys with | some r => some (a == b && r) | none => none else none
  | _, _ => none
def binS (T : Tab) (op : BinOp) (t : Nat) (x y : SV) : Option SV :=
  match x, y with
  | .v (.int k a), .v (.int k' b) =>
    match op with
    | .shl => none
    | .shr => if b < 0 then none else some (.v (.int k (a.fdiv (2 ^ min b.toNat k.bits))))
    | _ => if k = k' then intBin op k a b else none
  | .v (.string a), .v (.string b) => strBin op a b
  | .v (.bool a), .v (.bool b) =>
    match T.und t, op with
    | some .bool, .eql => some (.v (.bool (a == b)))
    | some .bool, .neq => some (.v (.bool !(a == b)))
    | _, _ => none
  | .ag a, .ag b =>
    match T.und t, T.ti t, op with
    | some (.eqs _), some i, .eql => if a.length = i.size then match sameInts a b with | some r => some (.v (.bool r)) | none => none else none
    | some (.eqs _), some i, .neq => if a.length = i.size then match sameInts a b with | some r => some (.v (.bool !r)) | none => none else none
    | _, _, _ => none
  | _, _ => none
def unS (op : UnOp) (x : SV) : Option SV :=
  match op, x with
  | .not, .v (.bool b) => some (.v (.bool !b))
  | .neg, .v (.int k n) => some (.v (.int k (k.wrap (0 - n))))
  | _, _ => none
def bytesOf : List SV → Option (List UInt8)
  | [] => some []
  | .v (.int .u8 n) :: xs => match bytesOf xs with | some r => some (UInt8.ofNat n.toNat :: r) | none => none
  | _ => none
def byteSV (b : UInt8) : SV := .v (.int .u8 b.toNat)
def convS (T : Tab) (os : List SO) (src dst : Nat) (x : SV) : Option (SV × List SO) :=
  match T.und src, T.und dst, x with
  | some (.int _), some (.int k), .v (.int _ n) => some (.v (.int k (k.wrap n)), os)
  | some (.slice e), some .str, x =>
    match T.und e, elems os x with
    | some (.int .u8), some (1, l) => match bytesOf l with | some b => some (.v (.string ⟨b.toArray⟩), os) | none => none
    | _, _ => none
  | some .str, some (.slice e), .v (.string s) =>
    match T.und e with
    | some (.int .u8) => some (.osl os.length, os ++ [.arr false 1 (s.data.toList.map byteSV)])
    | _ => none
  | some .str, some .str, .v (.string s) => some (.v (.string s), os)
  | _, _, _ => none
def makeS (T : Tab) (os : List SO) (t : Nat) (n c : SV) : Option (SV × List SO) :=
  match T.und t, n, c with
  | some (.slice e), .v (.int _ n), .v (.int _ c) =>
    match T.ti e with
    | some i =>
      if 0 ≤ n ∧ n ≤ c ∧ i.bytes * c ≤ 2 ^ 47 ∧ c < 2 ^ 63 then
        match pack i.agg (zeroP i.zero) with
        | some z => some (.osl os.length, os ++ [.arr false i.size (List.replicate n.toNat z)])
        | none => none
      else none
    | none => none
  | _, _, _ => none
def setParts (fs : List (Nat × Nat)) (cs : List SV) : List (Nat × SV) → Option (List SV)
  | [] => some cs
  | (f, x) :: ps =>
    match fs[f]? with
    | some (off, _) => if off + x.cells.length ≤ cs.length ∧ x.cells.all okCell = true then setParts fs (splice cs off x.cells) ps else none
    | none => none
def partsN (T : Tab) (fs : List (Nat × Nat)) : List (Nat × Option SV) → List SO → Option (List (Nat × SV) × List SO)
  | [], os => some ([], os)
  | (f, x) :: ps, os =>
    match fs[f]? with
    | some (_, t) =>
      match T.ti t, evN T t os x with
      | some i, some (y, os1) =>
        if y.cells.length = i.size then
          match partsN T fs ps os1 with
          | some (r, os2) => some ((f, y) :: r, os2)
          | none => none
        else none
      | _, _ => none
    | none => none
def buildS (T : Tab) (os : List SO) (t : Nat) (parts : List (Nat × Option SV)) : Option (SV × List SO) :=
  match T.und t, T.ti t with
  | some u, some i =>
    match u.fields with
    | some fs =>
      match partsN T fs parts os with
      | some (ps, os1) =>
        let z := zeroS i.zero os1
        match setParts fs z.1 ps with
        | some cs => some (.ag cs, z.2)
        | none => none
      | none => none
    | none => none
  | _, _ => none
def buildSliceS (T : Tab) (os : List SO) (t n : Nat) (parts : List (Nat × SV)) : Option (SV × List SO) :=
  match T.und t with
  | some (.slice e) =>
    match T.ti e with
    | some i =>
      if parts.map (·.1) = List.range n ∧ n * i.size ≤ 2 ^ 24 then
        match pureL (parts.map (·.2)) os with
        | some (l, os1) => if l.all (fun x => x.cells.length == i.size) = true then some (.osl os1.length, os1 ++ [.arr false i.size l]) else none
        | none => none
      else none
    | none => none
  | _ => none
def pzS (T : Tab) (t n k : Nat) : Bool := T.pz t && Nat.beq n 0 && Nat.beq k 0
def nilSl (T : Tab) (os : List SO) (t : Nat) : Option (SV × List SO) :=
  match T.und t with
  | some (.slice e) => match T.ti e with | some i => some (.sl i.size [], os) | none => none
  | _ => none
def buildSliceO (T : Tab) (os : List SO) (t n : Nat) (parts : List (Nat × SV)) : Option (SV × List SO) :=
  match pzS T t n parts.length with
  | true => nilSl T os t
  | false => buildSliceS T os t n parts
def appendS (T : Tab) (os : List SO) (t t' : Nat) (s x : SV) : Option (SV × List SO) :=
  match T.und t, T.und t', s with
  | some (.slice e), some (.slice _), .osl j =>
    match T.ti e, os[j]?, elems os x with
    | some i, some (.arr b sz l), some (sz', r) =>
      if sz = i.size ∧ sz' = sz ∧ i.bytes * (l.length + r.length) ≤ 2 ^ 47 ∧ 0 < i.bytes then
        some (.osl os.length, os.set j .dead ++ [.arr b sz (l ++ r)]) else none
    | _, _, _ => none
  | _, _, _ => none
def copyS (T : Tab) (os : List SO) (t : Nat) (d s : SV) : Option (SV × List SO) :=
  match T.und t, d, elems os s with
  | some (.slice e), .osl j, some (sz', r) =>
    match T.ti e, os[j]? with
    | some i, some (.arr b sz l) =>
      if sz = i.size ∧ sz' = sz then
        some (.v (.int .i64 ((min r.length l.length : Nat) : Int)), os.set j (.arr b sz (r.take (min r.length l.length) ++ l.drop (min r.length l.length)))) else none
    | _, _ => none
  | some (.slice e), .vw j lo hi, some (sz', r) =>
    match T.ti e, os[j]? with
    | some i, some (.arr b sz l) =>
      if sz = i.size ∧ lo ≤ hi ∧ hi ≤ l.length ∧ sz' = sz then
        some (.v (.int .i64 ((min r.length (hi - lo) : Nat) : Int)), os.set j (.arr b sz (l.take lo ++ r.take (min r.length (hi - lo)) ++ l.drop (lo + min r.length (hi - lo))))) else none
    | _, _ => none
  | _, _, _ => none
def ids0 : SV → List Nat
  | .ptr j _ => [j]
  | .ap j _ _ => [j]
  | _ => []
def ids1 : SV → List Nat
  | .ptr j _ => [j]
  | .ap j _ _ => [j]
  | .osl j => [j]
  | .vw j _ _ => [j]
  | .fn _ caps => caps.flatMap ids0
  | _ => []
def ids2 : SV → List Nat
  | .ag l => l.flatMap ids1
  | x => ids1 x
def ids3 : SV → List Nat
  | .tup l => l.flatMap ids2
  | x => ids2 x
def SO.ids : SO → List Nat
  | .box l => l.flatMap ids1
  | _ => []
def reach (os : List SO) : Nat → List Nat → List Nat → List Nat
  | 0, _, seen => seen
  | _, [], seen => seen
  | n + 1, j :: js, seen =>
    if seen.contains j then reach os n js seen
    else reach os n (js ++ (match os[j]? with | some o => o.ids | none => [])) (seen ++ [j])
def ren0 (ρ : Nat → Option Nat) : SV → SV
  | .v x => .v x
  | .sl sz l => .sl sz l
  | .undef => .undef
  | .ptr j o => match ρ j with | some i => .ptr i o | none => .dead
  | .ap j i o => match ρ j with | some k => .ap k i o | none => .dead
  | .osl j => match ρ j with | some i => .osl i | none => .dead
  | .vw j lo hi => match ρ j with | some i => .vw i lo hi | none => .dead
  | .el x o => .el x o
  | _ => .dead
def ren1 (ρ : Nat → Option Nat) : SV → SV
  | .fn f caps => .fn f (caps.map (ren0 ρ))
  | x => ren0 ρ x
def ren2 (ρ : Nat → Option Nat) : SV → SV
  | .ag l => .ag (l.map (ren1 ρ))
  | x => ren1 ρ x
def ren3 (ρ : Nat → Option Nat) : SV → SV
  | .tup l => .tup (l.map (ren2 ρ))
  | x => ren2 ρ x
def SO.ren (ρ : Nat → Option Nat) : SO → SO
  | .box l => .box (l.map (ren1 ρ))
  | o => o
def place (keep : List Nat) (j : Nat) : Option Nat :=
  match keep with
  | [] => none
  | k :: ks => if k = j then some 0 else match place ks j with | some i => some (i + 1) | none => none
def SO.lend : SO → SO
  | .arr _ sz l => .arr true sz l
  | .nst _ sz l => .nst true sz l
  | o => o
def SO.own : SO → Bool
  | .arr true _ _ => false
  | .nst true _ _ => false
  | _ => true
def nstA (os : List SO) (j : Nat) : Option SV :=
  match os[j]? with
  | some (.nst _ sz l) => some (.sl sz l)
  | _ => none
def argCell (os : List SO) (keep : List Nat) : SV → Option SV
  | .v x => some (.v x)
  | .sl sz l => some (.sl sz l)
  | .el x o => some (.el x o)
  | .ptr j o => match place keep j with | some i => some (.ptr i o) | none => none
  | .ap j i o => match place keep j with | some k => some (.ap k i o) | none => none
  | .fn f caps => some (.fn f (caps.map (ren0 (place keep))))
  | .osl j => match place keep j with | some i => some (.osl i) | none => match elems os (.osl j) with | some p => some (.sl p.1 p.2) | none => nstA os j
  | .vw j lo hi => match place keep j with | some _ => none | none => match elems os (.vw j lo hi) with | some p => some (.sl p.1 p.2) | none => none
  | _ => none
def argCells (os : List SO) (keep : List Nat) : List SV → Option (List SV)
  | [] => some []
  | x :: xs => match argCell os keep x, argCells os keep xs with | some y, some ys => some (y :: ys) | _, _ => none
def argV (os : List SO) (keep : List Nat) : SV → Option SV
  | .ag l => match argCells os keep l with | some ys => some (.ag ys) | none => none
  | x => argCell os keep x
def argVs (os : List SO) (keep : List Nat) : List SV → Option (List SV)
  | [] => some []
  | x :: xs => match argV os keep x, argVs os keep xs with | some y, some ys => some (y :: ys) | _, _ => none
def lendIds (own : Bool) (x : SV) : List Nat :=
  match x with
  | .ag l => l.flatMap fun y => match y with | .osl j => if own then [j] else [] | .vw _ _ _ => [] | y => ids1 y
  | .osl j => if own then [j] else []
  | .vw _ _ _ => []
  | x => ids1 x
def lendCells (own : Nat → Bool) : Nat → List SV → List Nat
  | _, [] => []
  | k, y :: ys => lendIds (own k) y ++ lendCells own (k + 1000) ys
def lendMask (own : Nat → Bool) : Nat → List SV → List Nat
  | _, [] => []
  | k, x :: xs => lendCells own k x.cells ++ lendMask own (k + 100000) xs
def lendAll (own : Nat → Bool) (f : Nat) (args : List SV) : List Nat :=
  match own (f + 2000000) with
  | true => lendMask own (f + 3000000) args
  | false => args.flatMap (lendIds (own f))
def snapIds (keep : List Nat) (x : SV) : List Nat :=
  x.cells.flatMap fun y => match y with
    | .osl j => match place keep j with | some _ => [] | none => [j]
    | .vw j _ _ => [j]
    | _ => []
def flatSV (x : SV) : Bool := x.cells.all fun y => match y with | .v _ => true | _ => false
def hasSl1 : SV → Bool
  | .v _ | .osl _ | .ptr _ _ | .fn _ [] | .dead => false
  | _ => true
def hasSl3 : SV → Bool
  | .tup l => l.any fun x => x.cells.any hasSl1
  | x => x.cells.any hasSl1
def SO.hasSl : SO → Bool
  | .dead => false
  | .box l => l.any hasSl1
  | .arr _ _ l => !(l.all flatSV)
  | .frz _ _ => true
  | .nst _ _ _ => false
def nodupB : List Nat → Bool
  | [] => true
  | j :: js => !js.contains j && nodupB js
def okKeep (nl : Nat) (keep : List Nat) : Option (List Nat) :=
  if (keep.take nl == List.range nl && nodupB keep) = true then some keep else none
def gcO (keep : List Nat) (os : List SO) : List SO := keep.map fun j => (os.getD j .dead).ren (place keep)
def freeze : List Nat → List SO → Option (List SO)
  | [], os => some os
  | j :: js, os =>
    match os[j]? with
    | some (.arr false sz l) => freeze js (os.set j (.frz sz l))
    | some (.frz _ _) => freeze js os
    | _ => none
def giveBack (β : Nat → Option Nat) : List Nat → List SO → List SO → Option (List SO)
  | [], _, os => some os
  | j :: js, o :: los, os =>
    match o, os[j]? with
    | .arr _ sz l, some (.arr b sz' _) => if sz = sz' then giveBack β js los (os.set j (.arr b sz l)) else none
    | .box l, some (.box _) => giveBack β js los (os.set j (.box (l.map (ren1 β))))
    | .frz _ _, some (.frz _ _) => giveBack β js los os
    | .dead, some (.arr _ _ _) => giveBack β js los (os.set j .dead)
    | .nst _ sz l, some (.nst b sz' _) => if sz = sz' then giveBack β js los (os.set j (.nst b sz l)) else none
    | _, _ => none
  | _ :: _, [], _ => none
def SO.back (tr : Bool) : SO → SO
  | .arr b sz l => .arr (b && tr) sz l
  | .nst b sz l => .nst (b && tr) sz l
  | o => o
def SO.fine : SO → Bool := fun _ => true
def anyLent (os : List SO) (keep : List Nat) : Bool :=
  keep.any fun j => match os[j]? with
    | some (.arr b _ _) => b
    | some (.nst b _ _) => b
    | _ => false
def backName (keep : List Nat) (n : Nat) (i : Nat) : Option Nat :=
  if i < keep.length then keep[i]? else some (n + (i - keep.length))
def SO.there : SO → Bool
  | .dead => false
  | _ => true
def callS (c : Cx) (os : List SO) (f : Nat) (args : List SV) : Out :=
  match okKeep 0 (reach os 100 (lendAll c.own f args) []) with
  | none => none
  | some keep =>
  match argVs os keep args with
  | none => none
  | some as =>
  if (gcO keep os).all SO.there = true then
    match c.K f as ((gcO keep os).map SO.lend) with
    | none => none
    | some (r, los) =>
      match (if (c.own (f + 1000000) || (hasSl3 r || los.any SO.hasSl)) = true then freeze (args.flatMap (snapIds keep)) os else some os) with
      | none => none
      | some os0 =>
        match giveBack (backName keep os.length) keep los os0 with
        | none => none
        | some os1 =>
          if (los.drop keep.length).all SO.fine = true then
            some (ren3 (backName keep os.length) r, os1 ++ (los.drop keep.length).map (fun o => (o.ren (backName keep os.length)).back (anyLent os keep)))
          else none
  else none
def nilA (T : Tab) (ty : Nat) : SV :=
  match T.und ty with
  | some (.slice e) => match T.ti e with | some i => .sl i.size [] | none => .dead
  | _ => .dead
def argO (T : Tab) (env : Env) (p : Operand × Nat) : SV :=
  match p.1 with
  | .const (.slice none 0 0) => nilA T p.2
  | x => ev env x
def calleeS (c : Cx) (os : List SO) (f : SV) (args : List SV) : Out :=
  match f with
  | .fn f caps => callS c os f (args ++ caps)
  | _ => none
def minS : SV → SV → Option SV
  | .v (.int k x), .v (.int _ y) => some (.v (.int k (if y < x then y else x)))
  | _, _ => none
def maxS : SV → SV → Option SV
  | .v (.int k x), .v (.int _ y) => some (.v (.int k (if x < y then y else x)))
  | _, _ => none
def ret1 (x : Option SV) (os : List SO) : Out :=
  match x with
  | some y => some (y, os)
  | none => none
def lenO (T : Tab) (t : Nat) (os : List SO) (x : SV) : Out :=
  match lenS T t os x with
  | some n => some (.v (.int .i64 (n : Int)), os)
  | none => none
def builtinS (c : Cx) (os : List SO) (b : Builtin) (ts : List Nat) (args : List SV) : Out :=
  match b, args with
  | .len, [x] => lenO c.T (ts.getD 0 0) os x
  | .append, [s, x] => appendS c.T os (ts.getD 0 0) (ts.getD 1 0) s x
  | .copy, [d, s] => copyS c.T os (ts.getD 0 0) d s
  | .min, [x, y] => ret1 (minS x y) os
  | .max, [x, y] => ret1 (maxS x y) os
  | _, _ => none
def pickS (c a b : SV) : Option SV :=
  match c with
  | .v (.bool t) => some (if t then a else b)
  | _ => none
def nilS : SV → Option SV
  | .ptr j o => some (.ptr j o)
  | .ap j i o => some (.ap j i o)
  | .el x o => some (.el x o)
  | _ => none
def extractS (x : SV) (i : Nat) : Option SV :=
  match x with
  | .tup l => l[i]?
  | _ => none
def allocS (T : Tab) (os : List SO) (t : Nat) : Out :=
  match T.ti t with
  | some i => let z := zeroS i.zero os; some (.ptr z.2.length 0, z.2 ++ [.box z.1])
  | none => none
def boxS (T : Tab) (os : List SO) (t : Nat) (x : Option SV) : Out :=
  match T.ti t, evN T t os x with
  | some i, some (y, os1) => if y.cells.length = i.size ∧ y.cells.all okCell = true then some (.ptr os1.length 0, os1 ++ [.box y.cells]) else none
  | _, _ => none
def storeO (T : Tab) (os : List SO) (t : Nat) (a : SV) (x : Option SV) : Out :=
  match evN T t os x with
  | some (y, os1) =>
    match deVw os1 y with
    | some (z, os2) => match storeS T os2 t a z with | some os3 => some (.undef, os3) | none => none
    | none => none
  | none => none
def opS (c : Cx) (env : Env) (os : List SO) (o : Oper) : Out :=
  match o.op with
  | .move x => evN c.T o.type os (evP env x)
  | .assign x => evN c.T o.type os (evP env x)
  | .pick b x y => ret1 (pickS (ev env b) (ev env x) (ev env y)) os
  | .alloc t => allocS c.T os t
  | .box t x => boxS c.T os t (evP env x)
  | .build t ps => buildS c.T os t (ps.toList.map fun p => (p.1, evP env p.2))
  | .buildSlice t n ps => buildSliceO c.T os t n (ps.toList.map fun p => (p.1, ev env p.2))
  | .load t a => ret1 (loadS c.T os t (ev env a)) os
  | .store t a x => storeO c.T os t (ev env a) (evP env x)
  | .nilCheck x => ret1 (nilS (ev env x)) os
  | .binOp op t x y _ => ret1 (binS c.T op t (ev env x) (ev env y)) os
  | .unOp op _ x => ret1 (unS op (ev env x)) os
  | .convert s d x => convS c.T os s d (ev env x)
  | .makeSlice t n k => makeS c.T os t (ev env n) (ev env k)
  | .slice t x lo hi none => ret1 (sliceS c.T os t (ev env x) (lo.map (ev env)) (hi.map (ev env))) os
  | .slice t x none (some h) (some m) => ret1 (slice3S c.T t (ev env x) (ev env h) (ev env m)) os
  | .fieldAddr t x f => ret1 (fieldAddrS c.T t (ev env x) f) os
  | .field t x f => ret1 (fieldS c.T t (ev env x) f) os
  | .indexAddr t x i => ret1 (indexAddrS c.T os t (ev env x) (ev env i)) os
  | .index t x i => ret1 (indexS c.T t (ev env x) (ev env i)) os
  | .extract x i => ret1 (extractS (ev env x) i) os
  | .makeFunc (.func f) fs caps => match fs.toList with | [] => some (.fn f (caps.toList.map (ev env)), os) | _ => none
  | .call { callee := .builtin b, args, argTypes } => if argTypes.size = args.size then builtinS c os b argTypes.toList (args.toList.map (ev env)) else none
  | .call { callee := .value f, args, argTypes } => if argTypes.size = args.size then calleeS c os (ev env f) ((args.toList.zip argTypes.toList).map (argO c.T env)) else none
  | _ => none
def put (env : Env) (d : Option Nat) (x : SV) : Env :=
  match d with
  | some t => (t, x) :: env
  | none => env
def guardV (ops : List Oper) (env : Env) (j : Nat) : SV :=
  match ops[j]? with
  | some o => match o.dst with | some t => look t env | none => .undef
  | none => .undef
def gd (g : SV) (want : Bool) (x : Out) (os : List SO) : Out :=
  match g with
  | .v (.bool b) => if b = want then x else some (.undef, os)
  | .dead => none
  | _ => some (.undef, os)
def op1 (c : Cx) (ops : List Oper) (env : Env) (os : List SO) (o : Oper) : Out :=
  match o.guard with
  | none => opS c env os o
  | some (j, want) => gd (guardV ops env j) want (opS c env os o) os
def silent (env : Env) (o : Oper) : Option SV :=
  match o.guard with
  | some _ => none
  | none =>
    match o.op with
    | .move x => evP env x
    | .assign x => evP env x
    | .makeFunc (.func f) fs caps => match fs.toList with | [] => some (.fn f (caps.toList.map (ev env))) | _ => none
    | _ => none
def okDst (nt : Nat) (d : Option Nat) : Bool :=
  match d with
  | some t => Nat.blt t nt
  | none => true
def runOps (c : Cx) (nt : Nat) (ops : List Oper) : List Oper → Env → List SO → (Env → List SO → Out) → Out
  | [], env, os, k => k env os
  | o :: rest, env, os, k =>
    match okDst nt o.dst with
    | false => none
    | true =>
      match silent env o with
      | some x => runOps c nt ops rest (put env o.dst x) os k
      | none => (op1 c ops env os o).bind fun r => runOps c nt ops rest (put env o.dst r.1) r.2 k
structure Kt where
  n : Env → List SO → Out
  x : Nat → Env → List SO → Out
  r : Env → List SO → Out
def condS (b : SV) (x y : Out) : Out :=
  match b with
  | .v (.bool t) => if t = true then x else y
  | _ => none
def killS (alive : List Nat) (env : Env) : Env :=
  match alive with
  | t :: ts => (t, look t env) :: killS ts env
  | [] => []
def killO (alive : Option (List Nat)) (env : Env) : Env :=
  match alive with
  | some l => killS l env
  | none => env
def gcK (nl : Nat) (env : Env) (os : List SO) : Option (List Nat) := okKeep nl (reach os 200 (List.range nl ++ env.flatMap fun p => ids3 p.2) [])
def renE (ρ : Nat → Option Nat) : Env → Env
  | [] => []
  | p :: ps => (p.1, ren3 ρ p.2) :: renE ρ ps
inductive DT where
  | leaf (σ : List Nat)
  | split (i j : Nat) (a b : DT)
structure LpI where
  gc : Bool
  alive : List Nat
structure FnI where
  nt : Nat
  lp : Nat → LpI
  jn : Nat → Option (List Nat)
  dt : Nat → Option DT
def loopS (nl : Nat) (li : LpI) (f : Env → List SO → (Env → List SO → Out) → Out) : Nat → Env → List SO → Out
  | 0, _, _ => none
  | n + 1, env, os =>
    if li.gc = true then
      (gcK nl env os).bind fun keep => f (renE (place keep) env) (gcO keep os) fun env os => loopS nl li f n (killS li.alive env) os
    else f env os fun env os => loopS nl li f n (killS li.alive env) os
def firstRegion : Code → Nat
  | .region id _ _ => id
  | .seq a _ => firstRegion a
  | .block _ c => firstRegion c
  | .loop c => firstRegion c
  | _ => 0
inductive Cls where
  | p | rd | ld | ext | eff | call
def Cls.isE : Cls → Bool
  | .ext | .eff | .call => true
  | _ => false
def cls (T : Tab) (o : Op) : Cls :=
  match o with
  | .move (.const (.slice none 0 0)) => .ext
  | .assign (.const (.slice none 0 0)) => .ext
  | .move _ => .p
  | .assign _ => .p
  | .pick _ _ _ => .p
  | .nilCheck _ => .p
  | .binOp _ _ _ _ _ => .p
  | .unOp _ _ _ => .p
  | .fieldAddr _ _ _ => .p
  | .field _ _ _ => .p
  | .index _ _ _ => .p
  | .extract _ _ => .p
  | .makeFunc _ _ _ => .p
  | .load _ _ => .ld
  | .indexAddr _ _ _ => .rd
  | .slice _ _ _ _ _ => .rd
  | .call { callee := .builtin .len, .. } => .rd
  | .call { callee := .builtin .min, .. } => .p
  | .call { callee := .builtin .max, .. } => .p
  | .call { callee := .value _, .. } => .call
  | .alloc _ => .ext
  | .box _ _ => .ext
  | .build _ _ => .ext
  | .buildSlice t n ps => match pzS T t n ps.toList.length with | true => .p | false => .ext
  | .convert s d _ => match T.und s, T.und d with | some (.int _), some (.int _) => .p | _, _ => .eff
  | _ => .eff
def bindOn (o : Oper) : List Nat := (o.after.toList.filter fun e => Region.binds .any e).map (·.on)
def masks : List Nat → List Oper → List Nat
  | acc, [] => acc
  | acc, o :: os => masks (acc ++ [(bindOn o).foldl (fun m e => m ||| (1 <<< e ||| acc.getD e 0)) 0]) os
def ordB (ms : List Nat) (i j : Nat) : Bool := (ms.getD j 0).testBit i
def unord (ms : List Nat) (i j : Nat) : Bool := (Nat.blt i j && !(ordB ms i j)) || (Nat.blt j i && !(ordB ms j i))
def tmpsOf (ops : List Oper) (o : Oper) : List Nat :=
  (o.op.operands.toList.filterMap fun x => match x with | .tmp t => some t | _ => none) ++
  (match o.guard with | some (g, _) => (match ops[g]? with | some p => p.dst.toList | none => []) | none => [])
def Cls.notLd : Cls → Bool
  | .ld => false
  | _ => true
def okPair : Cls → Cls → Bool
  | .p, _ => true
  | _, .p => true
  | .rd, b => !b.isE
  | a, .rd => !a.isE
  | .ld, .ld => true
  | .ld, .ext => true
  | .ld, .call => true
  | .ext, .ld => true
  | .call, .ld => true
  | _, _ => false
def okDraw1 (T : Tab) (ops : List Oper) (ms : List Nat) (j : Nat) (o : Oper) (i : Nat) (q : Oper) : Bool :=
  (match q.dst, o.dst with | some s, some t => !(Nat.beq s t) || Nat.beq i j | _, _ => true) &&
  (match q.dst with | some s => !(tmpsOf ops o).contains s || ((Nat.blt i j && ordB ms i j) || (Nat.blt j i && ordB ms j i && (cls T o.op).notLd)) | none => true) &&
  (!(unord ms i j) || okPair (cls T q.op) (cls T o.op))
def allI (f : Nat → Oper → Bool) : Nat → List Oper → Bool
  | _, [] => true
  | i, o :: os => f i o && allI f (i + 1) os
def drawOk (T : Tab) (ops : List Oper) (ms : List Nat) : Bool :=
  allI (fun j o => (bindOn o).all (fun e => Nat.blt e j) && allI (okDraw1 T ops ms j o) 0 ops) 0 ops
def isBox : SV → Bool
  | .ptr _ _ => true
  | .el _ _ => true
  | .undef => true   -- nothing is read there
  | _ => false
def boxIn (keep : List Nat) : SV → Bool
  | .ptr j _ => keep.contains j
  | .el _ _ => false
  | .undef => false   -- nothing is read there
  | _ => true
def keepOk (c : Cx) (os : List SO) (f : SV) (args : List SV) (ps : List SV) (e : Bool) : Bool :=
  match f with
  | .fn g caps =>
    let keep := reach os 100 (lendAll c.own g (args ++ caps)) []
    (!e || keep.isEmpty) && ps.all (fun p => !(boxIn keep p))
  | _ => false
def dchk (b : Bool) (x : Out) : Out :=
  match b with
  | true => x
  | false => none
def loadsU (T : Tab) (ms : List Nat) (j : Nat) : Nat → List Oper → List (Nat × Operand)
  | _, [] => []
  | i, o :: os =>
    match o.op with
    | .load _ x => if unord ms i j = true then (i, x) :: loadsU T ms j (i + 1) os else loadsU T ms j (i + 1) os
    | _ => loadsU T ms j (i + 1) os
def anyU (T : Tab) (ms : List Nat) (j : Nat) : Nat → List Oper → Bool
  | _, [] => false
  | i, o :: os => (unord ms i j && (cls T o.op).isE) || anyU T ms j (i + 1) os
def chkD (c : Cx) (ops : List Oper) (ms : List Nat) (j : Nat) (env : Env) (os : List SO) (o : Oper) (x : Out) : Out :=
  match o.op with
  | .load _ p => match anyU c.T ms j 0 ops with | true => dchk (isBox (ev env p)) x | false => x
  | .call { callee := .value f, args, argTypes } =>
    match loadsU c.T ms j 0 ops with
    | [] => x
    | l => dchk (keepOk c os (ev env f) ((args.toList.zip argTypes.toList).map (argO c.T env)) ((l.filter fun p => Nat.blt p.1 j).map fun p => ev env p.2) (l.any fun p => Nat.blt j p.1)) x
  | _ => x
def runD (c : Cx) (nt : Nat) (ops : List Oper) (ms : List Nat) : Nat → List Oper → Env → List SO → (Env → List SO → Out) → Out
  | _, [], env, os, k => k env os
  | j, o :: rest, env, os, k =>
    match okDst nt o.dst with
    | false => none
    | true =>
      match silent env o with
      | some x => runD c nt ops ms (j + 1) rest (put env o.dst x) os k
      | none => chkD c ops ms j env os o ((op1 c ops env os o).bind fun r => runD c nt ops ms (j + 1) rest (put env o.dst r.1) r.2 k)
def posOf (i : Nat) : List Nat → Nat
  | [] => 0
  | x :: xs => match Nat.beq x i with | true => 0 | false => posOf i xs + 1
def permOp (C : List (Nat × Nat)) (σ : List Nat) (i : Nat) (o : Oper) : Oper :=
  { o with after := ((bindOn o ++ C.filterMap fun p => match Nat.beq p.2 i with | true => some p.1 | false => none).map fun e => { on := posOf e σ, ground := .data }).toArray,
           guard := match o.guard with | some g => some (posOf g.1 σ, g.2) | none => none }
def permOps (C : List (Nat × Nat)) (σ : List Nat) (ops : List Oper) : List Oper :=
  σ.filterMap fun i => match ops[i]? with | some o => some (permOp C σ i o) | none => none
def permOk (σ : List Nat) (ops : List Oper) : Bool :=
  Nat.beq σ.length ops.length && nodupB σ && σ.all (fun i => Nat.blt i ops.length) && (List.range ops.length).all (fun i => σ.contains i) && ops.all fun o => match o.guard with | some g => Nat.blt g.1 ops.length | none => true
open Classical in
noncomputable def both (x y : Out) : Out := if x = y then x else none
def runL (c : Cx) (nt : Nat) (ops : List Oper) (env : Env) (os : List SO) (k : Env → List SO → Out) : Out :=
  match drawOk c.T ops (masks [] ops) with
  | true => runD c nt ops (masks [] ops) 0 ops env os k
  | false => none
noncomputable def runT (c : Cx) (nt : Nat) (ops : List Oper) (env : Env) (os : List SO) (k : Env → List SO → Out) : DT → List (Nat × Nat) → Out
  | .leaf σ, C =>
    match permOk σ ops with
    | true => runL c nt (permOps C σ ops) env os k
    | false => none
  | .split i j a b, C =>
    match Nat.beq i j with
    | true => none
    | false => both (runT c nt ops env os k a (C ++ [(i, j)])) (runT c nt ops env os k b (C ++ [(j, i)]))
noncomputable def runDraw (c : Cx) (nt : Nat) (d : Option DT) (ops : List Oper) (env : Env) (os : List SO) (k : Env → List SO → Out) : Out :=
  match d with
  | none => runL c nt ops env os k
  | some t =>
    match allI (fun j o => (bindOn o).all (fun e => Nat.blt e j)) 0 ops with
    | true => runT c nt ops env os k t []
    | false => none
def kSeq (f : Env → List SO → Kt → Out) (al : Option (List Nat)) (k : Kt) : Kt :=
  { n := fun env os => f (killO al env) os k, x := k.x, r := k.r }
def kBlock (id : Nat) (k : Kt) : Kt :=
  { n := k.n, x := fun i env os => if i = id then k.n env os else k.x i env os, r := k.r }
def kLoop (nx : Env → List SO → Out) (k : Kt) : Kt := { n := nx, x := k.x, r := k.r }
noncomputable def exec (c : Cx) (N nl : Nat) (fi : FnI) : Code → Env → List SO → Kt → Out
  | .skip, env, os, k => k.n env os
  | .region id ops draw, env, os, k =>
    match draw with
    | true => runDraw c fi.nt (fi.dt id) ops.toList env os k.n
    | false => runOps c fi.nt ops.toList ops.toList env os k.n
  | .seq a b, env, os, k => exec c N nl fi a env os (kSeq (exec c N nl fi b) (fi.jn (firstRegion b)) k)
  | .cond b x y, env, os, k => condS (ev env b) (exec c N nl fi x env os k) (exec c N nl fi y env os k)
  | .block id b, env, os, k => exec c N nl fi b env os (kBlock id k)
  | .loop b, env, os, k =>
    loopS nl (fi.lp (firstRegion b)) (fun env os nx => exec c N nl fi b env os (kLoop nx k)) N (killS (fi.lp (firstRegion b)).alive env) os
  | .exit i, env, os, k => k.x i env os
  | .ret, env, os, k => k.r env os
  | _, _, _, _ => none
def resCell (T : Tab) (env : Env) (os : List SO) : ResultVar → Option SV
  | .tmp t => some (look t env)
  | .cell a t => loadS T os t (look a env)
def resC1 (x : Option SV) (xs : Option (List SV)) : Option (List SV) :=
  match x, xs with
  | some x, some xs => some (x :: xs)
  | _, _ => none
def resCells (T : Tab) (env : Env) (os : List SO) : List ResultVar → Option (List SV)
  | [] => some []
  | r :: rs => resC1 (resCell T env os r) (resCells T env os rs)
def fixCell (os : List SO) : SV → Option SV
  | .v x => some (.v x)
  | .sl sz l => some (.sl sz l)
  | .ptr j o => some (.ptr j o)
  | .fn f caps => some (.fn f caps)
  | .osl j => match os[j]? with | some (.arr _ _ _) => some (.osl j) | some (.frz sz l) => some (.sl sz l) | some (.nst _ _ _) => some (.osl j) | _ => none
  | _ => none
def fixCells (os : List SO) : List SV → Option (List SV)
  | [] => some []
  | x :: xs => match fixCell os x, fixCells os xs with | some y, some ys => some (y :: ys) | _, _ => none
def fixV (os : List SO) : SV → Option SV
  | .ag l => match fixCells os l with | some ys => some (.ag ys) | none => none
  | x => fixCell os x
def fixVs (os : List SO) : List SV → Option (List SV)
  | [] => some []
  | x :: xs => match fixV os x, fixVs os xs with | some y, some ys => some (y :: ys) | _, _ => none
def retV (T : Tab) (nl : Nat) (os : List SO) (xs : Option (List SV)) : Out :=
  match xs with
  | none => none
  | some xs =>
    match fixVs os xs with
    | none => none
    | some ys =>
      match okKeep nl (reach os 200 (List.range nl ++ ys.flatMap ids2) []) with
      | none => none
      | some keep =>
        if ((keep.drop nl).all fun j => (os.getD j .dead).fine) = true then
          some ((match ys with | [y] => ren2 (place keep) y | ys => .tup (ys.map (ren2 (place keep)))), gcO keep os)
        else none
def purCells (ms : List Nat) : Nat → List SV → List SO → Option (List SV × List SO)
  | _, [], os => some ([], os)
  | k, x :: xs, os =>
    match (match ms.contains k with | true => pureCell os x | false => some (x, os)) with
    | some (y, os1) => match purCells ms (k + 1) xs os1 with | some (ys, os2) => some (y :: ys, os2) | none => none
    | none => none
def purVs (ms : List Nat) : Nat → List SV → List SO → Option (List SV × List SO)
  | _, [], os => some ([], os)
  | k, x :: xs, os =>
    match (match x with | .ag l => (match purCells ms k l os with | some (l', os1) => some (.ag l', os1) | none => none) | x => (match ms.contains k with | true => pureCell os x | false => some (x, os))) with
    | some (y, os1) => match purVs ms (k + 100) xs os1 with | some (ys, os2) => some (y :: ys, os2) | none => none
    | none => none
def purBox (ms : List Nat) (os : List SO) : Option (List SO) :=
  match os[(0 : Nat)]? with
  | some (.box l) => match purCells ms 100000 l os with | some (l', os1) => some (os1.set 0 (.box l')) | none => none
  | _ => none
def retP (T : Tab) (ms : List Nat) (nl : Nat) (os : List SO) (xs : Option (List SV)) : Out :=
  match xs with
  | none => none
  | some xs =>
    match purVs ms 0 xs os with
    | some (ys, os1) =>
      match (match ms.contains 99999 with | true => purBox ms os1 | false => some os1) with
      | some os2 => retV T nl os2 (some ys)
      | none => none
    | none => none
def retS (T : Tab) (ms : List Nat) (nl : Nat) (rs : List ResultVar) (env : Env) (os : List SO) : Out :=
  match ms with
  | [] => retV T nl os (resCells T env os rs)
  | _ :: _ => retP T ms nl os (resCells T env os rs)
def kEnd (T : Tab) (ms : List Nat) (nl : Nat) (rs : List ResultVar) : Kt := { n := retS T ms nl rs, x := fun _ _ _ => none, r := retS T ms nl rs }
def subC : Code → List Nat → Code
  | c, [] => c
  | .seq a b, d :: p => if d = 0 then subC a p else subC b p
  | .cond _ a b, d :: p => if d = 0 then subC a p else subC b p
  | .block _ c, _ :: p => subC c p
  | .loop c, _ :: p => subC c p
  | c, _ => c
def numEnv : Nat → List SV → Env
  | _, [] => []
  | i, x :: xs => (i, x) :: numEnv (i + 1) xs
def cloneS (sz by_ : Nat) : List SV → List SO → Out
  | [.sl s l], [] => if (l = [] ∨ s = sz) ∧ by_ * l.length ≤ 2 ^ 47 ∧ 0 < by_ then some (.osl 0, [.arr false sz l]) else none
  | _, _ => none
def insS (sz by_ : Nat) : List SV → List SO → Out
  | [.osl 0, .v (.int .i64 k), .osl 1], [.arr true s1 l, .arr true s2 [x]] =>
    if s1 = sz ∧ s2 = sz ∧ 0 ≤ k ∧ k ≤ (l.length : Int) ∧ (l.length + 1) * by_ ≤ 140737488355328 then
      some (.osl 2, [.dead, .arr true sz [x], .arr true sz (l.take k.toNat ++ x :: l.drop k.toNat)]) else none
  | _, _ => none
structure Prg where
  T : Tab
  own : Nat → Bool
  pur : Nat → List Nat
  code : Nat → Option Func
  fi : Nat → FnI
  prim : Nat → Option (List SV → List SO → Out)
noncomputable def callF (p : Prg) : Nat → Nat → List SV → List SO → Out
  | 0, _, _, _ => none
  | n + 1, f, args, os =>
    match p.prim f with
    | some q => q args os
    | none =>
      match p.code f with
      | none => none
      | some fn =>
        match fn.body with
        | none => none
        | some b =>
          exec ⟨p.T, p.own, callF p n⟩ (n + 1) os.length (p.fi f) b (numEnv 0 args) os
            (kEnd p.T (p.pur f) os.length fn.results.toList)
def bd (A : Out) (f : SV → List SO → Out) : Out := Option.bind A fun r => f r.1 r.2
def gcB (nl : Nat) (xs : List SV) (os : List SO) (k : List SV → List SO → Out) : Out :=
  (okKeep nl (reach os 200 (List.range nl ++ xs.flatMap ids3) [])).bind fun keep => k (xs.map (ren3 (place keep))) (gcO keep os)
end Go.Proofs.Ytikennabfbkdhaa
