/- The evaluator S and what it says of functions: Td. -/
import Derived.Test.YtikennabfbkdhaaTe
/- The evaluator S: what it gives from some amount of fuel on, and its steps, brought to normal form. -/
namespace Go.Proofs.Ytikennabfbkdhaa
open Go
set_option linter.unusedVariables false
set_option linter.unusedSimpArgs false
def Is (x : SV) (os : List SO) : SV → List SO → Prop := fun y ps => y = x ∧ ps = os
theorem ev_is {A : Nat → Out} {x os} : Ev A (Is x os) ↔ Ex A x os := by
  constructor
  · rintro ⟨_, _, ⟨rfl, rfl⟩, h⟩; exact h
  · intro h; exact ⟨_, _, ⟨rfl, rfl⟩, h⟩
theorem Ev.mono {A : Nat → Out} {Q R : SV → List SO → Prop} (h : Ev A Q) (hi : ∀ x os, Q x os → R x os) : Ev A R := by
  obtain ⟨x, os, hq, he⟩ := h
  exact ⟨x, os, hi _ _ hq, he⟩
theorem ev_done {x os} {Q : SV → List SO → Prop} (h : Q x os) : Ev (fun _ => some (x, os)) Q := ⟨x, os, h, 0, fun _ _ => rfl⟩
def fN (n : Nat) (k : Nat → Out) : Out :=
  match Nat.beq n 0 with | true => k 0 | false => match Nat.beq n 1 with | true => k 1 | false => match Nat.beq n 2 with | true => k 2 | false => match Nat.beq n 3 with | true => k 3 | false => match Nat.beq n 4 with | true => k 4 | false => match Nat.beq n 5 with | true => k 5 | false => match Nat.beq n 6 with | true => k 6 | false => match Nat.beq n 7 with | true => k 7 | false => match Nat.beq n 8 with | true => k 8 | false => match Nat.beq n 9 with | true => k 9 | false => match Nat.beq n 10 with | true => k 10 | false => match Nat.beq n 11 with | true => k 11 | false => match Nat.beq n 12 with | true => k 12 | false => match Nat.beq n 13 with | true => k 13 | false => match Nat.beq n 14 with | true => k 14 | false => match Nat.beq n 15 with | true => k 15 | false => match Nat.beq n 16 with | true => k 16 | false => match Nat.beq n 17 with | true => k 17 | false => match Nat.beq n 18 with | true => k 18 | false => match Nat.beq n 19 with | true => k 19 | false => match Nat.beq n 20 with | true => k 20 | false => match Nat.beq n 21 with | true => k 21 | false => match Nat.beq n 22 with | true => k 22 | false => match Nat.beq n 23 with | true => k 23 | false => match Nat.beq n 24 with | true => k 24 | false => match Nat.beq n 25 with | true => k 25 | false => match Nat.beq n 26 with | true => k 26 | false => match Nat.beq n 27 with | true => k 27 | false => match Nat.beq n 28 with | true => k 28 | false => match Nat.beq n 29 with | true => k 29 | false => match Nat.beq n 30 with | true => k 30 | false => match Nat.beq n 31 with | true => k 31 | false => match Nat.beq n 32 with | true => k 32 | false => match Nat.beq n 33 with | true => k 33 | false => match Nat.beq n 34 with | true => k 34 | false => match Nat.beq n 35 with | true => k 35 | false => match Nat.beq n 36 with | true => k 36 | false => match Nat.beq n 37 with | true => k 37 | false => match Nat.beq n 38 with | true => k 38 | false => match Nat.beq n 39 with | true => k 39 | false => k n
theorem fN_eq (n k) : fN n k = k n := by
  unfold fN
  repeat' (split <;> first | (rename_i h; rw [Nat.eq_of_beq_eq_true h]) | skip)
  all_goals rfl
def fVal (x : Value) (k : Value → Out) : Out :=
  match x with
  | .int a n => match a with | .i64 => k (.int .i64 n) | .u8 => k (.int .u8 n) | a => k (.int a n)
  | .bool b => k (.bool b)
  | .string s => k (.string s)
  | x => k x
theorem fVal_eq (x k) : fVal x k = k x := by
  unfold fVal
  split
  · split <;> rfl
  · rfl
  · rfl
  · rfl
def fB (x : SV) (k : SV → Out) : Out :=
  match x with
  | .v (.bool b) => match b with | true => k (.v (.bool true)) | false => k (.v (.bool false))
  | x => k x
theorem fB_eq (x k) : fB x k = k x := by
  unfold fB
  split
  · split <;> rfl
  · rfl
def f0 (x : SV) (k : SV → Out) : Out :=
  match x with
  | .v x => fVal x fun x => k (.v x)
  | .undef => k .undef
  | .dead => k .dead
  | .sl sz l => fN sz fun sz => k (.sl sz l)
  | .osl j => fN j fun j => k (.osl j)
  | .vw j lo hi => fN j fun j => k (.vw j lo hi)
  | .ptr j o => fN j fun j => fN o fun o => k (.ptr j o)
  | .ap j i o => fN j fun j => fN o fun o => k (.ap j i o)
  | x => k x
theorem f0_eq (x k) : f0 x k = k x := by cases x <;> simp [f0, fN_eq, fVal_eq]
def fL0 : List SV → (List SV → Out) → Out
  | [], k => k []
  | x :: xs, k => f0 x fun x => fL0 xs fun xs => k (x :: xs)
theorem fL0_eq : ∀ (l k), fL0 l k = k l
  | [], _ => rfl
  | x :: xs, k => by simp [fL0, f0_eq, fL0_eq]
def f1 (x : SV) (k : SV → Out) : Out :=
  match x with
  | .fn f caps => fN f fun f => fL0 caps fun caps => k (.fn f caps)
  | x => f0 x k
theorem f1_eq (x k) : f1 x k = k x := by cases x <;> simp [f1, f0_eq, fN_eq, fL0_eq]
def fL1 : List SV → (List SV → Out) → Out
  | [], k => k []
  | x :: xs, k => f1 x fun x => fL1 xs fun xs => k (x :: xs)
theorem fL1_eq : ∀ (l k), fL1 l k = k l
  | [], _ => rfl
  | x :: xs, k => by simp [fL1, f1_eq, fL1_eq]
def f2 (x : SV) (k : SV → Out) : Out :=
  match x with
  | .ag l => fL1 l fun l => k (.ag l)
  | x => f1 x k
theorem f2_eq (x k) : f2 x k = k x := by cases x <;> simp [f2, f1_eq, fL1_eq]
def fL2 : List SV → (List SV → Out) → Out
  | [], k => k []
  | x :: xs, k => f2 x fun x => fL2 xs fun xs => k (x :: xs)
theorem fL2_eq : ∀ (l k), fL2 l k = k l
  | [], _ => rfl
  | x :: xs, k => by simp [fL2, f2_eq, fL2_eq]
def f3 (x : SV) (k : SV → Out) : Out :=
  match x with
  | .tup l => fL2 l fun l => k (.tup l)
  | .el x o => f2 x fun x => fN o fun o => k (.el x o)
  | x => f2 x k
theorem f3_eq (x k) : f3 x k = k x := by cases x <;> simp [f3, f2_eq, fL2_eq, fN_eq]
def fO (x : SO) (k : SO → Out) : Out :=
  match x with
  | .dead => k .dead
  | .box l => fL1 l fun l => k (.box l)
  | .arr b sz l => match b with | true => fN sz fun sz => k (.arr true sz l) | false => fN sz fun sz => k (.arr false sz l)
  | .frz sz l => fN sz fun sz => k (.frz sz l)
  | .nst b sz l => match b with | true => fN sz fun sz => k (.nst true sz l) | false => fN sz fun sz => k (.nst false sz l)
theorem fO_eq (x k) : fO x k = k x := by
  cases x with
  | arr b sz l => cases b <;> simp [fO, fN_eq]
  | nst b sz l => cases b <;> simp [fO, fN_eq]
  | _ => simp [fO, fL1_eq, fN_eq]
def fOs : List SO → (List SO → Out) → Out
  | [], k => k []
  | x :: xs, k => fO x fun x => fOs xs fun xs => k (x :: xs)
theorem fOs_eq : ∀ (l k), fOs l k = k l
  | [], _ => rfl
  | x :: xs, k => by simp [fOs, fO_eq, fOs_eq]
def nf (A : Out) : Out :=
  match A with
  | none => none
  | some (x, os) => f3 x fun x => fOs os fun os => some (x, os)
theorem nf_eq (A) : nf A = A := by
  unfold nf
  split
  · rfl
  · rw [f3_eq, fOs_eq]
def nfB (A : Out) : Out :=
  match A with
  | none => none
  | some (x, os) => fB x fun x => f3 x fun x => fOs os fun os => some (x, os)
theorem nfB_eq (A) : nfB A = A := by
  unfold nfB
  split
  · rfl
  · rw [fB_eq, f3_eq, fOs_eq]
def fNs : List Nat → (List Nat → Out) → Out
  | [], k => k []
  | x :: xs, k => fN x fun x => fNs xs fun xs => k (x :: xs)
theorem ev_bd {A : Out} {F : Nat → SV → List SO → Out} {Q x os} (h : nfB A = some (x, os)) (h2 : Ev (fun n => F n x os) Q) : Ev (fun n => bd A (F n)) Q := by
  rw [nfB_eq] at h
  subst h
  exact h2
theorem ev_bd0 {A : Out} {F : Nat → SV → List SO → Out} {Q x os} (h : nf A = some (x, os)) (h2 : Ev (fun n => F n x os) Q) : Ev (fun n => bd A (F n)) Q := by
  rw [nf_eq] at h
  subst h
  exact h2
theorem ev_bdB {A : Out} {F : Nat → SV → List SO → Out} {Q os} {b : Bool} (h : nf A = some (.v (.bool b), os)) (h1 : b = true → Ev (fun n => F n (.v (.bool true)) os) Q) (h2 : b = false → Ev (fun n => F n (.v (.bool false)) os) Q) : Ev (fun n => bd A (F n)) Q := by
  rw [nf_eq] at h
  subst h
  cases b
  · exact h2 rfl
  · exact h1 rfl
theorem ev_ret {A : Out} {Q : SV → List SO → Prop} {x os} (h : nf A = some (x, os)) (h2 : Q x os) : Ev (fun _ => A) Q := by
  rw [nf_eq] at h
  subst h
  exact ev_done h2
theorem ev_bdx {A : Out} {F : Nat → SV → List SO → Out} {Q x os} (h : A = some (x, os)) (h2 : Ev (fun n => F n x os) Q) : Ev (fun n => bd A (F n)) Q := by
  subst h
  exact h2
theorem ev_bdE {A : Nat → Out} {F : Nat → SV → List SO → Out} {Q Q1} (h : Ev A Q1) (h2 : ∀ x os, Q1 x os → Ev (fun n => F n x os) Q) : Ev (fun n => bd (A n) (F n)) Q := by
  obtain ⟨x, os, hq, n1, h1⟩ := h
  obtain ⟨y, ps, hq2, n2, h2⟩ := h2 x os hq
  refine ⟨y, ps, hq2, n1 + n2, fun n hn => ?_⟩
  show bd (A n) (F n) = _
  rw [h1 n (by omega)]
  exact h2 n (by omega)
theorem ev_bdX {A : Nat → Out} {F : Nat → SV → List SO → Out} {Q x os} (h : Ex A x os) (h2 : Ev (fun n => F n x os) Q) : Ev (fun n => bd (A n) (F n)) Q :=
  ev_bdE (ev_is.2 h) fun _ _ h => by obtain ⟨rfl, rfl⟩ := h; exact h2
theorem ev_dchk {b : Nat → Bool} {X : Nat → Out} {Q} (h : ∀ n, b n = true) (h2 : Ev X Q) : Ev (fun n => dchk (b n) (X n)) Q :=
  ev_eq (fun n => by show dchk (b n) (X n) = X n; rw [h n]; rfl) h2
theorem ev_pickB {c : Bool} {a b : SV} {os : List SO} {F : Nat → SV → List SO → Out} {Q} (h : c = true → Ev (fun n => F n a os) Q) (h2 : c = false → Ev (fun n => F n b os) Q) : Ev (fun n => bd (ret1 (pickS (.v (.bool c)) a b) os) (F n)) Q := by
  cases c
  · exact h2 rfl
  · exact h rfl
theorem ev_cond {c : Bool} {X Y : Nat → Out} {Q} (h : c = true → Ev X Q) (h2 : c = false → Ev Y Q) : Ev (fun n => condS (.v (.bool c)) (X n) (Y n)) Q := by
  cases c
  · exact h2 rfl
  · exact h rfl
theorem ev_ct {X Y : Nat → Out} {Q} (h2 : Ev X Q) : Ev (fun n => condS (.v (.bool true)) (X n) (Y n)) Q := h2
theorem ev_cf {X Y : Nat → Out} {Q} (h2 : Ev Y Q) : Ev (fun n => condS (.v (.bool false)) (X n) (Y n)) Q := h2
theorem ev_gtt {A : Nat → Out} {F : Nat → SV → List SO → Out} {os Q} (h2 : Ev (fun n => bd (A n) (F n)) Q) : Ev (fun n => bd (gd (.v (.bool true)) true (A n) os) (F n)) Q := h2
theorem ev_gff {A : Nat → Out} {F : Nat → SV → List SO → Out} {os Q} (h2 : Ev (fun n => bd (A n) (F n)) Q) : Ev (fun n => bd (gd (.v (.bool false)) false (A n) os) (F n)) Q := h2
theorem ev_gtf {A : Nat → Out} {F : Nat → SV → List SO → Out} {os Q} (h2 : Ev (fun n => F n .undef os) Q) : Ev (fun n => bd (gd (.v (.bool true)) false (A n) os) (F n)) Q := h2
theorem ev_gft {A : Nat → Out} {F : Nat → SV → List SO → Out} {os Q} (h2 : Ev (fun n => F n .undef os) Q) : Ev (fun n => bd (gd (.v (.bool false)) true (A n) os) (F n)) Q := h2
theorem ev_gu {b : Bool} {A : Nat → Out} {F : Nat → SV → List SO → Out} {os Q} (h2 : Ev (fun n => F n .undef os) Q) : Ev (fun n => bd (gd .undef b (A n) os) (F n)) Q := h2
theorem ev_gB {c want : Bool} {A : Nat → Out} {F : Nat → SV → List SO → Out} {os Q} (h : c = want → Ev (fun n => bd (A n) (F n)) Q) (h2 : c = !want → Ev (fun n => F n .undef os) Q) : Ev (fun n => bd (gd (.v (.bool c)) want (A n) os) (F n)) Q := by
  cases c <;> cases want <;> first | exact h rfl | exact h2 rfl
theorem up_ind {n : Nat} {G : Nat → Prop} (h : ∀ i, i ≤ n → (i < n → G (i + 1)) → G i) : ∀ i, i ≤ n → G i := by
  intro i hi
  obtain ⟨k, hk⟩ : ∃ k, k = n - i := ⟨_, rfl⟩
  induction k generalizing i with
  | zero => exact h i hi fun hlt => by omega
  | succ k ih => exact h i hi fun hlt => ih (i + 1) (by omega) (by omega)
theorem ev_gcB {nl : Nat} {xs : List SV} {os : List SO} {F : Nat → List SV → List SO → Out} {Q xs' os'} (h : nf (gcB nl xs os fun xs os => some (.tup xs, os)) = some (.tup xs', os')) (h2 : Ev (fun n => F n xs' os') Q) : Ev (fun n => gcB nl xs os (F n)) Q := by
  rw [nf_eq] at h
  unfold gcB at h ⊢
  cases hk : okKeep nl (reach os 200 (List.range nl ++ xs.flatMap ids3) []) with
  | none => rw [hk] at h; cases h
  | some keep =>
    rw [hk] at h
    simp only [Option.bind_some, Option.some.injEq, Prod.mk.injEq, SV.tup.injEq] at h ⊢
    obtain ⟨rfl, rfl⟩ := h
    exact h2
theorem ev_both {X Y : Nat → Out} {x os} {Q : SV → List SO → Prop} (hx : Ex X x os) (hy : Ex Y x os) (hq : Q x os) : Ev (fun n => both (X n) (Y n)) Q := by
  obtain ⟨n1, h1⟩ := hx
  obtain ⟨n2, h2⟩ := hy
  refine ⟨x, os, hq, n1 + n2, fun n hn => ?_⟩
  show both (X n) (Y n) = _
  rw [h1 n (by omega), h2 n (by omega)]
  unfold both
  rw [if_pos rfl]
abbrev iI (n : Int) : SV := .v (.int .i64 n)
abbrev bB (b : Bool) : SV := .v (.bool b)
theorem ev_bothQ {X Y : Nat → Out} {x os} {Q : SV → List SO → Prop} (hq : Q x os) (hx : Ev X (Is x os)) (hy : Ev Y (Is x os)) : Ev (fun n => both (X n) (Y n)) Q := ev_both (ev_is.1 hx) (ev_is.1 hy) hq
theorem ev_bothI {X Y : Nat → Out} {x os} (hx : Ev X (Is x os)) (hy : Ev Y (Is x os)) : Ev (fun n => both (X n) (Y n)) (Is x os) := ev_bothQ ⟨rfl, rfl⟩ hx hy
def preC (own : Nat → Bool) (f : Nat) (os : List SO) (args : List SV) (k : List Nat → List SV → List SO → Out) : Out :=
  match okKeep 0 (reach os 100 (lendAll own f args) []) with
  | none => none
  | some keep =>
  match argVs os keep args with
  | none => none
  | some as => if (gcO keep os).all SO.there = true then fNs keep fun keep => fL2 as fun as => fOs ((gcO keep os).map SO.lend) fun los => k keep as los else none
def preR (own : Nat → Bool) (f : Nat) (os : List SO) (args : List SV) : Option (List Nat × List SV × List SO) :=
  match okKeep 0 (reach os 100 (lendAll own f args) []) with
  | none => none
  | some keep =>
  match argVs os keep args with
  | none => none
  | some as => if (gcO keep os).all SO.there = true then some (keep, as, (gcO keep os).map SO.lend) else none
def pN (n : Nat) {α : Type} (k : Nat → α) : α :=
  match Nat.beq n 0 with | true => k 0 | false => match Nat.beq n 1 with | true => k 1 | false => match Nat.beq n 2 with | true => k 2 | false => match Nat.beq n 3 with | true => k 3 | false => match Nat.beq n 4 with | true => k 4 | false => match Nat.beq n 5 with | true => k 5 | false => match Nat.beq n 6 with | true => k 6 | false => match Nat.beq n 7 with | true => k 7 | false => match Nat.beq n 8 with | true => k 8 | false => match Nat.beq n 9 with | true => k 9 | false => match Nat.beq n 10 with | true => k 10 | false => match Nat.beq n 11 with | true => k 11 | false => match Nat.beq n 12 with | true => k 12 | false => match Nat.beq n 13 with | true => k 13 | false => match Nat.beq n 14 with | true => k 14 | false => match Nat.beq n 15 with | true => k 15 | false => match Nat.beq n 16 with | true => k 16 | false => match Nat.beq n 17 with | true => k 17 | false => match Nat.beq n 18 with | true => k 18 | false => match Nat.beq n 19 with | true => k 19 | false => match Nat.beq n 20 with | true => k 20 | false => match Nat.beq n 21 with | true => k 21 | false => match Nat.beq n 22 with | true => k 22 | false => match Nat.beq n 23 with | true => k 23 | false => match Nat.beq n 24 with | true => k 24 | false => match Nat.beq n 25 with | true => k 25 | false => match Nat.beq n 26 with | true => k 26 | false => match Nat.beq n 27 with | true => k 27 | false => match Nat.beq n 28 with | true => k 28 | false => match Nat.beq n 29 with | true => k 29 | false => match Nat.beq n 30 with | true => k 30 | false => match Nat.beq n 31 with | true => k 31 | false => match Nat.beq n 32 with | true => k 32 | false => match Nat.beq n 33 with | true => k 33 | false => match Nat.beq n 34 with | true => k 34 | false => match Nat.beq n 35 with | true => k 35 | false => match Nat.beq n 36 with | true => k 36 | false => match Nat.beq n 37 with | true => k 37 | false => match Nat.beq n 38 with | true => k 38 | false => match Nat.beq n 39 with | true => k 39 | false => k n
theorem pN_eq (n) {α : Type} (k : Nat → α) : pN n k = k n := by
  unfold pN
  repeat' (split <;> first | (rename_i h; rw [Nat.eq_of_beq_eq_true h]) | skip)
  all_goals rfl
def pNs {α : Type} : List Nat → (List Nat → α) → α
  | [], k => k []
  | x :: xs, k => pN x fun x => pNs xs fun xs => k (x :: xs)
theorem pNs_eq {α : Type} : ∀ (l) (k : List Nat → α), pNs l k = k l
  | [], _ => rfl
  | x :: xs, k => by simp [pNs, pN_eq, pNs_eq]
def keepC (own : Nat → Bool) (f : Nat) (os : List SO) (args : List SV) : Option (List Nat) :=
  match okKeep 0 (reach os 100 (lendAll own f args) []) with
  | none => none
  | some keep => pNs keep fun keep => some keep
def asC (keep : List Nat) (os : List SO) (args : List SV) : Out :=
  match argVs os keep args with
  | none => none
  | some as => if (gcO keep os).all SO.there = true then some (.tup as, (gcO keep os).map SO.lend) else none
def flagC (nest : Bool) (r : SV) (los : List SO) : Bool := nest || (hasSl3 r || los.any SO.hasSl)
def postC (b : Bool) (os : List SO) (args : List SV) (keep : List Nat) (r : SV) (los : List SO) : Out :=
  match (match b with | true => freeze (args.flatMap (snapIds keep)) os | false => some os) with
  | none => none
  | some os0 =>
    match giveBack (backName keep os.length) keep los os0 with
    | none => none
    | some os1 =>
      if (los.drop keep.length).all SO.fine = true then
        some (ren3 (backName keep os.length) r, os1 ++ (los.drop keep.length).map (fun o => (o.ren (backName keep os.length)).back (anyLent os keep)))
      else none
theorem callS_is {c : Cx} {os : List SO} {f : Nat} {args as : List SV} {keep : List Nat} {los los' : List SO} {r : SV} {b : Bool}
    (h1 : keepC c.own f os args = some keep) (h2 : nf (asC keep os args) = some (.tup as, los)) (h3 : c.K f as los = some (r, los')) (h4 : flagC (c.own (f + 1000000)) r los' = b) :
    callS c os f args = postC b os args keep r los' := by
  rw [nf_eq] at h2
  unfold keepC at h1
  unfold callS
  split at h1
  · cases h1
  · rename_i keep' hk
    rw [pNs_eq] at h1
    cases h1
    rw [hk]
    unfold asC at h2
    dsimp only
    split at h2
    · cases h2
    · rename_i as' ha
      rw [ha]
      dsimp only
      split at h2
      · rename_i hg
        cases h2
        rw [if_pos hg, h3]
        dsimp only
        unfold postC
        unfold flagC at h4
        subst h4
        cases (c.own (f + 1000000) || (hasSl3 r || los'.any SO.hasSl)) <;> rfl
      · cases h2
theorem ex_call {own : Nat → Bool} {T : Tab} {K : Nat → Nat → List SV → List SO → Out} {os : List SO} {f : Nat} {args as : List SV} {keep : List Nat} {los los' os' : List SO} {r x : SV} {b : Bool}
    (h1 : keepC own f os args = some keep) (h2 : nf (asC keep os args) = some (.tup as, los)) (h3 : Ex (fun n => K n f as los) r los') (h4 : flagC (own (f + 1000000)) r los' = b)
    (h5 : nf (postC b os args keep r los') = some (x, os')) : Ex (fun n => callS ⟨T, own, K n⟩ os f args) x os' := by
  obtain ⟨n0, h0⟩ := h3
  rw [nf_eq] at h5
  refine ⟨n0, fun n hn => ?_⟩
  show callS _ _ _ _ = _
  rw [callS_is (c := ⟨T, own, K n⟩) h1 h2 (h0 n hn) h4, h5]
section
variable {own : Nat → Bool} {T : Tab} {K : Nat → Nat → List SV → List SO → Out} {os : List SO} {f : Nat} {args as : List SV} {keep : List Nat} {los los' os' : List SO} {r x : SV} {F : Nat → SV → List SO → Out} {Q : SV → List SO → Prop}
theorem postC_any {b : Bool} (h : freeze (args.flatMap (snapIds keep)) os = some os) : postC b os args keep r los' = postC false os args keep r los' := by
  cases b
  · rfl
  · unfold postC; rw [h]
theorem ev_call (h3 : Ex (fun n => K n f as los) r los') (h1 : keepC own f os args = some keep) (h2 : nf (asC keep os args) = some (.tup as, los)) (h4 : freeze (args.flatMap (snapIds keep)) os = some os ∨ flagC (own (f + 1000000)) r los' = false)
    (h5 : nf (postC false os args keep r los') = some (x, os')) (h6 : Ev (fun n => F n x os') Q) : Ev (fun n => bd (callS ⟨T, own, K n⟩ os f args) (F n)) Q := by
  rcases h4 with h4 | h4
  · exact ev_bdX (ex_call h1 h2 h3 rfl (by rw [postC_any h4]; exact h5)) h6
  · exact ev_bdX (ex_call h1 h2 h3 h4 h5) h6
theorem ev_callF (h3 : Ex (fun n => K n f as los) r los') (h1 : keepC own f os args = some keep) (h2 : nf (asC keep os args) = some (.tup as, los)) (h4 : flagC (own (f + 1000000)) r los' = true)
    (h5 : nf (postC true os args keep r los') = some (x, os')) (h6 : Ev (fun n => F n x os') Q) : Ev (fun n => bd (callS ⟨T, own, K n⟩ os f args) (F n)) Q :=
  ev_bdX (ex_call h1 h2 h3 h4 h5) h6
theorem ev_callN {R : Int → Prop} (h3 : ∃ z, R z ∧ Ex (fun n => K n f as los) (iI z) los') (h1 : keepC own f os args = some keep) (h2 : nf (asC keep os args) = some (.tup as, los)) (h4 : freeze (args.flatMap (snapIds keep)) os = some os ∨ ∀ z, flagC (own (f + 1000000)) (iI z) los' = false)
    (h5 : ∀ z, nf (postC false os args keep (iI z) los') = some (iI z, os')) (h6 : ∀ z, R z → Ev (fun n => F n (iI z) os') Q) : Ev (fun n => bd (callS ⟨T, own, K n⟩ os f args) (F n)) Q := by
  obtain ⟨z, hz, he⟩ := h3
  exact ev_call he h1 h2 (h4.imp id fun h => h z) (h5 z) (h6 z hz)
theorem ev_callB {c : Bool} (h3 : Ex (fun n => K n f as los) (.v (.bool c)) los') (h1 : keepC own f os args = some keep) (h2 : nf (asC keep os args) = some (.tup as, los)) (h4 : freeze (args.flatMap (snapIds keep)) os = some os ∨ (own (f + 1000000) || los'.any SO.hasSl) = false)
    (h5 : nf (postC false os args keep (.v (.bool true)) los') = some (.v (.bool true), os')) (h5' : nf (postC false os args keep (.v (.bool false)) los') = some (.v (.bool false), os'))
    (h6 : c = true → Ev (fun n => F n (.v (.bool true)) os') Q) (h7 : c = false → Ev (fun n => F n (.v (.bool false)) os') Q) : Ev (fun n => bd (callS ⟨T, own, K n⟩ os f args) (F n)) Q := by
  have h8 : ∀ b, freeze (args.flatMap (snapIds keep)) os = some os ∨ flagC (own (f + 1000000)) (.v (.bool b)) los' = false := fun b => h4.imp id fun h => by
    rw [Bool.or_eq_false_iff] at h
    unfold flagC; rw [h.1, h.2]; rfl
  cases c
  · exact ev_call h3 h1 h2 (h8 _) h5' (h7 rfl)
  · exact ev_call h3 h1 h2 (h8 _) h5 (h6 rfl)
theorem ev_callD {c : Prop} [Decidable c] (h3 : Ex (fun n => K n f as los) (.v (.bool (decide c))) los') (h1 : keepC own f os args = some keep) (h2 : nf (asC keep os args) = some (.tup as, los)) (h4 : freeze (args.flatMap (snapIds keep)) os = some os ∨ (own (f + 1000000) || los'.any SO.hasSl) = false)
    (h5 : nf (postC false os args keep (.v (.bool true)) los') = some (.v (.bool true), os')) (h5' : nf (postC false os args keep (.v (.bool false)) los') = some (.v (.bool false), os'))
    (h6 : c → Ev (fun n => F n (.v (.bool true)) os') Q) (h7 : ¬ c → Ev (fun n => F n (.v (.bool false)) os') Q) : Ev (fun n => bd (callS ⟨T, own, K n⟩ os f args) (F n)) Q :=
  ev_callB h3 h1 h2 h4 h5 h5' (fun e => h6 (of_decide_eq_true e)) (fun e => h7 (of_decide_eq_false e))
end
theorem ev_callE {own : Nat → Bool} {T : Tab} {K : Nat → Nat → List SV → List SO → Out} {os : List SO} {f : Nat} {args as : List SV} {keep : List Nat} {los : List SO} {F : Nat → SV → List SO → Out} {Q Q1}
    (h3 : Ev (fun n => K n f as los) Q1) (h1 : keepC own f os args = some keep) (h2 : nf (asC keep os args) = some (.tup as, los)) (h6 : ∀ r los', Q1 r los' → Ev (fun n => bd (postC (flagC (own (f + 1000000)) r los') os args keep r los') (F n)) Q) : Ev (fun n => bd (callS ⟨T, own, K n⟩ os f args) (F n)) Q := by
  obtain ⟨r, los', hq, n1, h1'⟩ := h3
  obtain ⟨y, ps, hq2, n2, h2'⟩ := h6 r los' hq
  refine ⟨y, ps, hq2, n1 + n2, fun n hn => ?_⟩
  show bd (callS _ _ _ _) _ = _
  rw [callS_is (c := ⟨T, own, K n⟩) h1 h2 (h1' n (by omega)) rfl]
  exact h2' n (by omega)
def slSize (T : Tab) (t : Nat) : Option Nat :=
  match T.und t with
  | some (.slice e) => match T.ti e with | some q => some q.size | none => none
  | _ => none
theorem slSize_spec {T : Tab} {t sz : Nat} (h : slSize T t = some sz) : ∃ e q, T.und t = some (.slice e) ∧ T.ti e = some q ∧ q.size = sz := by
  unfold slSize at h
  split at h
  · rename_i e he
    split at h
    · rename_i q hq
      exact ⟨e, q, he, hq, Option.some.inj h⟩
    · cases h
  · cases h
def isInt (T : Tab) (t : Nat) (k : IntKind) : Bool :=
  match T.und t with
  | some (.int k') => decide (k' = k)
  | _ => false
theorem isInt_spec {T : Tab} {t : Nat} {k : IntKind} (h : isInt T t k = true) : T.und t = some (.int k) := by
  unfold isInt at h
  split at h
  · rename_i k' he; rw [he, of_decide_eq_true h]
  · cases h
theorem ev_post {nb : Bool} {os os' : List SO} {args : List SV} {keep : List Nat} {los' : List SO} {r x : SV} {F : Nat → SV → List SO → Out} {Q : SV → List SO → Prop} (h4 : freeze (args.flatMap (snapIds keep)) os = some os ∨ flagC nb r los' = false)
    (h5 : nf (postC false os args keep r los') = some (x, os')) (h6 : Ev (fun n => F n x os') Q) : Ev (fun n => bd (postC (flagC nb r los') os args keep r los') (F n)) Q := by
  rw [nf_eq] at h5
  rcases h4 with h4 | h4
  · rw [postC_any h4, h5]; exact h6
  · rw [h4, h5]; exact h6
theorem ev_postF {nb : Bool} {os os' : List SO} {args : List SV} {keep : List Nat} {los' : List SO} {r x : SV} {F : Nat → SV → List SO → Out} {Q : SV → List SO → Prop} (h4 : flagC nb r los' = true)
    (h5 : nf (postC true os args keep r los') = some (x, os')) (h6 : Ev (fun n => F n x os') Q) : Ev (fun n => bd (postC (flagC nb r los') os args keep r los') (F n)) Q := by
  rw [nf_eq] at h5
  rw [h4, h5]; exact h6
def ints (l : List Int) : List SV := l.map iI
theorem wrap64 {x : Int} (h1 : -9223372036854775808 ≤ x) (h2 : x ≤ 9223372036854775807) : IntKind.i64.wrap x = x := by
  have : IntKind.i64.wrap x = (x + 9223372036854775808) % 18446744073709551616 - 9223372036854775808 := by
    simp only [IntKind.wrap, IntKind.bits, IntKind.signed]
    have := Int.emod_nonneg x (b := 18446744073709551616) (by decide)
    have := Int.emod_lt_of_pos x (b := 18446744073709551616) (by decide)
    simp
    omega
  rw [this]; omega
theorem ev_add {T : Tab} {t : Nat} {a b : Int} {os : List SO} {F : Nat → SV → List SO → Out} {Q} (h : -9223372036854775808 ≤ a + b ∧ a + b ≤ 9223372036854775807) (h2 : Ev (fun n => F n (iI (a + b)) os) Q) :
    Ev (fun n => bd (ret1 (binS T .add t (.v (.int .i64 a)) (.v (.int .i64 b))) os) (F n)) Q := by
  refine ev_bdx (x := iI (a + b)) (os := os) ?_ h2
  simp [binS, intBin, ret1, wrap64 h.1 h.2]
theorem ev_sub {T : Tab} {t : Nat} {a b : Int} {os : List SO} {F : Nat → SV → List SO → Out} {Q} (h : -9223372036854775808 ≤ a - b ∧ a - b ≤ 9223372036854775807) (h2 : Ev (fun n => F n (iI (a - b)) os) Q) :
    Ev (fun n => bd (ret1 (binS T .sub t (.v (.int .i64 a)) (.v (.int .i64 b))) os) (F n)) Q := by
  refine ev_bdx (x := iI (a - b)) (os := os) ?_ h2
  simp [binS, intBin, ret1, wrap64 h.1 h.2]
theorem ev_lss {T : Tab} {t : Nat} {a b : Int} {k : IntKind} {os : List SO} {F : Nat → SV → List SO → Out} {Q} (h : a < b → Ev (fun n => F n (.v (.bool true)) os) Q) (h2 : ¬ (a < b) → Ev (fun n => F n (.v (.bool false)) os) Q) :
    Ev (fun n => bd (ret1 (binS T .lss t (.v (.int k a)) (.v (.int k b))) os) (F n)) Q := by
  by_cases e : a < b
  · refine ev_bdx (x := .v (.bool true)) (os := os) ?_ (h e)
    simp [binS, intBin, ret1]; omega
  · refine ev_bdx (x := .v (.bool false)) (os := os) ?_ (h2 e)
    simp [binS, intBin, ret1]; omega
theorem ev_leq {T : Tab} {t : Nat} {a b : Int} {k : IntKind} {os : List SO} {F : Nat → SV → List SO → Out} {Q} (h : a ≤ b → Ev (fun n => F n (.v (.bool true)) os) Q) (h2 : ¬ (a ≤ b) → Ev (fun n => F n (.v (.bool false)) os) Q) :
    Ev (fun n => bd (ret1 (binS T .leq t (.v (.int k a)) (.v (.int k b))) os) (F n)) Q := by
  by_cases e : a ≤ b
  · refine ev_bdx (x := .v (.bool true)) (os := os) ?_ (h e)
    simp [binS, intBin, ret1]; omega
  · refine ev_bdx (x := .v (.bool false)) (os := os) ?_ (h2 e)
    simp [binS, intBin, ret1]; omega
theorem ev_gtr {T : Tab} {t : Nat} {a b : Int} {k : IntKind} {os : List SO} {F : Nat → SV → List SO → Out} {Q} (h : b < a → Ev (fun n => F n (.v (.bool true)) os) Q) (h2 : ¬ (b < a) → Ev (fun n => F n (.v (.bool false)) os) Q) :
    Ev (fun n => bd (ret1 (binS T .gtr t (.v (.int k a)) (.v (.int k b))) os) (F n)) Q := by
  by_cases e : b < a
  · refine ev_bdx (x := .v (.bool true)) (os := os) ?_ (h e)
    simp [binS, intBin, ret1]; omega
  · refine ev_bdx (x := .v (.bool false)) (os := os) ?_ (h2 e)
    simp [binS, intBin, ret1]; omega
theorem ev_geq {T : Tab} {t : Nat} {a b : Int} {k : IntKind} {os : List SO} {F : Nat → SV → List SO → Out} {Q} (h : b ≤ a → Ev (fun n => F n (.v (.bool true)) os) Q) (h2 : ¬ (b ≤ a) → Ev (fun n => F n (.v (.bool false)) os) Q) :
    Ev (fun n => bd (ret1 (binS T .geq t (.v (.int k a)) (.v (.int k b))) os) (F n)) Q := by
  by_cases e : b ≤ a
  · refine ev_bdx (x := .v (.bool true)) (os := os) ?_ (h e)
    simp [binS, intBin, ret1]; omega
  · refine ev_bdx (x := .v (.bool false)) (os := os) ?_ (h2 e)
    simp [binS, intBin, ret1]; omega
theorem ev_eql {T : Tab} {t : Nat} {a b : Int} {k : IntKind} {os : List SO} {F : Nat → SV → List SO → Out} {Q} (h : a = b → Ev (fun n => F n (.v (.bool true)) os) Q) (h2 : ¬ (a = b) → Ev (fun n => F n (.v (.bool false)) os) Q) :
    Ev (fun n => bd (ret1 (binS T .eql t (.v (.int k a)) (.v (.int k b))) os) (F n)) Q := by
  by_cases e : a = b
  · refine ev_bdx (x := .v (.bool true)) (os := os) ?_ (h e)
    simp [binS, intBin, ret1]; omega
  · refine ev_bdx (x := .v (.bool false)) (os := os) ?_ (h2 e)
    simp [binS, intBin, ret1]; omega
theorem ev_neq {T : Tab} {t : Nat} {a b : Int} {k : IntKind} {os : List SO} {F : Nat → SV → List SO → Out} {Q} (h : a ≠ b → Ev (fun n => F n (.v (.bool true)) os) Q) (h2 : ¬ (a ≠ b) → Ev (fun n => F n (.v (.bool false)) os) Q) :
    Ev (fun n => bd (ret1 (binS T .neq t (.v (.int k a)) (.v (.int k b))) os) (F n)) Q := by
  by_cases e : a ≠ b
  · refine ev_bdx (x := .v (.bool true)) (os := os) ?_ (h e)
    simp [binS, intBin, ret1]; omega
  · refine ev_bdx (x := .v (.bool false)) (os := os) ?_ (h2 e)
    simp [binS, intBin, ret1]; omega
theorem ev_mul {T : Tab} {t : Nat} {a b : Int} {os : List SO} {F : Nat → SV → List SO → Out} {Q} (h : -9223372036854775808 ≤ a * b ∧ a * b ≤ 9223372036854775807) (h2 : Ev (fun n => F n (iI (a * b)) os) Q) :
    Ev (fun n => bd (ret1 (binS T .mul t (.v (.int .i64 a)) (.v (.int .i64 b))) os) (F n)) Q := by
  refine ev_bdx (x := iI (a * b)) (os := os) ?_ h2
  simp [binS, intBin, ret1, wrap64 h.1 h.2]
theorem ev_rem {T : Tab} {t : Nat} {a b : Int} {os : List SO} {F : Nat → SV → List SO → Out} {Q} (hb : 0 < b) (h : ∀ x, x = a.tmod b → (0 ≤ a → 0 ≤ x) → x < b → Ev (fun n => F n (iI x) os) Q) :
    Ev (fun n => bd (ret1 (binS T .rem t (.v (.int .i64 a)) (.v (.int .i64 b))) os) (F n)) Q := by
  refine ev_bdx (x := iI (a.tmod b)) (os := os) ?_ (h _ rfl (fun ha => Int.tmod_nonneg _ ha) (Int.tmod_lt_of_pos _ hb))
  simp [binS, intBin, ret1, show ¬ b = 0 by omega]
theorem ev_quo {T : Tab} {t : Nat} {a b : Int} {os : List SO} {F : Nat → SV → List SO → Out} {Q} (hb : 0 < b) (ha : 0 ≤ a ∧ a ≤ 9223372036854775807) (h : ∀ x, x = a / b → 0 ≤ x → x ≤ a → Ev (fun n => F n (iI x) os) Q) :
    Ev (fun n => bd (ret1 (binS T .quo t (.v (.int .i64 a)) (.v (.int .i64 b))) os) (F n)) Q := by
  have h0 : 0 ≤ a / b := Int.ediv_nonneg ha.1 (by omega)
  have h1 : a / b ≤ a := Int.ediv_le_self _ ha.1
  refine ev_bdx (x := iI (a / b)) (os := os) ?_ (h _ rfl h0 h1)
  simp [binS, intBin, ret1, show ¬ b = 0 by omega, Int.tdiv_eq_ediv_of_nonneg ha.1, wrap64 (x := a / b) (by omega) (by omega)]
theorem ev_xor {T : Tab} {t : Nat} {a b : Int} {os : List SO} {F : Nat → SV → List SO → Out} {Q} (ha : 0 ≤ a ∧ a < 4611686018427387904) (hb : 0 ≤ b ∧ b < 4611686018427387904) (h : ∀ x, 0 ≤ x → x < 4611686018427387904 → Ev (fun n => F n (iI x) os) Q) :
    Ev (fun n => bd (ret1 (binS T .xor t (.v (.int .i64 a)) (.v (.int .i64 b))) os) (F n)) Q := by
  have h1 : ((BitVec.ofInt 64 a ^^^ BitVec.ofInt 64 b).toNat) < 2 ^ 62 := by
    rw [BitVec.toNat_xor]
    refine Nat.xor_lt_two_pow ?_ ?_ <;> (rw [BitVec.toNat_ofInt]; omega)
  refine ev_bdx (x := iI (((BitVec.ofInt 64 a ^^^ BitVec.ofInt 64 b).toNat : Nat) : Int)) (os := os) ?_ (h _ (by omega) (by omega))
  have h2 : IntKind.i64.wrap (((BitVec.ofInt 64 a ^^^ BitVec.ofInt 64 b).toNat : Nat) : Int) = (((BitVec.ofInt 64 a ^^^ BitVec.ofInt 64 b).toNat : Nat) : Int) := by
    generalize (BitVec.ofInt 64 a ^^^ BitVec.ofInt 64 b).toNat = z at h1 ⊢
    exact wrap64 (by omega) (by omega)
  show some (SV.v (.int .i64 (IntKind.i64.wrap (((BitVec.ofInt 64 a ^^^ BitVec.ofInt 64 b).toNat : Nat) : Int))), os) = _
  rw [h2]
theorem ev_conv8 {T : Tab} {s d : Nat} {y : Int} {os : List SO} {F : Nat → SV → List SO → Out} {Q} (hs : isInt T s .u8 = true) (hd : isInt T d .i64 = true) (h : 0 ≤ y ∧ y < 256) (h2 : 0 ≤ y → y < 256 → Ev (fun n => F n (iI y) os) Q) :
    Ev (fun n => bd (convS T os s d (.v (.int .u8 y))) (F n)) Q := by
  refine ev_bdx (x := iI y) (os := os) ?_ (h2 h.1 h.2)
  simp [convS, isInt_spec hs, isInt_spec hd, wrap64 (x := y) (by omega) (by omega)]
theorem ev_conv64 {T : Tab} {s d : Nat} {y : Int} {os : List SO} {F : Nat → SV → List SO → Out} {Q} (hs : isInt T s .i64 = true) (hd : isInt T d .i64 = true) (h : -9223372036854775808 ≤ y ∧ y ≤ 9223372036854775807) (h2 : Ev (fun n => F n (iI y) os) Q) :
    Ev (fun n => bd (convS T os s d (.v (.int .i64 y))) (F n)) Q := by
  refine ev_bdx (x := iI y) (os := os) ?_ h2
  simp [convS, isInt_spec hs, isInt_spec hd, wrap64 (x := y) (by omega) (by omega)]
abbrev bI (x : Int) : SV := .v (.int .u8 x)
abbrev rd (b : List Int) (p : Int) : SO := .box [.sl 1 (b.map bI), iI p]
def nth {α : Type} [Inhabited α] (l : List α) (i : Nat) : α := l.getD i default
theorem get_nth {α : Type} [Inhabited α] {l : List α} {i : Nat} (h : i < l.length) : l[i]? = some (nth l i) := by
  simp [nth, List.getElem?_eq_getElem h]
theorem tn_sub1 (i : Nat) : ((i : Int) - 1).toNat = i - 1 := by omega
theorem tn_add1 (i : Nat) : ((i : Int) + 1).toNat = i + 1 := by omega
theorem ev_len {T : Tab} {t : Nat} {sz : Nat} {l : List SV} {os : List SO} {F : Nat → SV → List SO → Out} {Q} (hu : (slSize T t).isSome = true) (h2 : Ev (fun n => F n (iI (l.length : Int)) os) Q) :
    Ev (fun n => bd (lenO T t os (.sl sz l)) (F n)) Q := by
  obtain ⟨s, hs⟩ := Option.isSome_iff_exists.1 hu
  obtain ⟨e, q, hu, -⟩ := slSize_spec hs
  refine ev_bdx (x := iI (l.length : Int)) (os := os) ?_ h2
  simp [lenO, lenS, hu, elems]
theorem ev_lenm {α : Type} {T : Tab} {t : Nat} {sz : Nat} {f : α → SV} {l : List α} {os : List SO} {F : Nat → SV → List SO → Out} {Q} (hu : (slSize T t).isSome = true) (h2 : Ev (fun n => F n (iI (l.length : Int)) os) Q) :
    Ev (fun n => bd (lenO T t os (.sl sz (l.map f))) (F n)) Q := by
  refine ev_len hu ?_
  rw [List.length_map]; exact h2
theorem ev_leno {T : Tab} {t : Nat} {sz j : Nat} {b : Bool} {l : List SV} {os : List SO} {F : Nat → SV → List SO → Out} {Q} (hj : os[j]? = some (.arr b sz l)) (hu : (slSize T t).isSome = true) (h2 : Ev (fun n => F n (iI (l.length : Int)) os) Q) :
    Ev (fun n => bd (lenO T t os (.osl j)) (F n)) Q := by
  obtain ⟨s, hs⟩ := Option.isSome_iff_exists.1 hu
  obtain ⟨e, q, hu, -⟩ := slSize_spec hs
  refine ev_bdx (x := iI (l.length : Int)) (os := os) ?_ h2
  simp [lenO, lenS, hu, elems, hj]
theorem ev_lenom {α : Type} {T : Tab} {t : Nat} {sz j : Nat} {b : Bool} {f : α → SV} {l : List α} {os : List SO} {F : Nat → SV → List SO → Out} {Q} (hj : os[j]? = some (.arr b sz (l.map f))) (hu : (slSize T t).isSome = true) (h2 : Ev (fun n => F n (iI (l.length : Int)) os) Q) :
    Ev (fun n => bd (lenO T t os (.osl j)) (F n)) Q := by
  refine ev_leno hj hu ?_
  rw [List.length_map]; exact h2
theorem eI {T : Tab} {os : List SO} {t : Nat} {x y : SV} {F : Nat → SV → List SO → Out} {Q} (h : Ev (fun n => bd (ret1 (indexAddrS T os t x y) os) (F n)) Q) : Ev (fun n => bd (ret1 (indexAddrS T os t x y) os) (F n)) Q := h
theorem ev_idxo {T : Tab} {os : List SO} {t j sz : Nat} {b : Bool} {l : List SV} {i : Int} {F : Nat → SV → List SO → Out} {Q} (hj : os[j]? = some (.arr b sz l)) (hu : slSize T t = some sz) (h0 : 0 ≤ i ∧ i < (l.length : Int)) (h2 : Ev (fun n => F n (.ap j i.toNat 0) os) Q) :
    Ev (fun n => bd (ret1 (indexAddrS T os t (.osl j) (.v (.int .i64 i))) os) (F n)) Q := by
  obtain ⟨e, q, hu, hq, hs⟩ := slSize_spec hu
  refine ev_bdx (x := .ap j i.toNat 0) (os := os) ?_ h2
  simp [indexAddrS, hu, hq, hj, h0.1, h0.2, hs, ret1]
section
variable {T : Tab} {os : List SO} {F : Nat → SV → List SO → Out} {Q : SV → List SO → Prop}
theorem eG {v : SV} {w : Bool} {A : Nat → Out} (h : Ev (fun n => bd (gd v w (A n) os) (F n)) Q) : Ev (fun n => bd (gd v w (A n) os) (F n)) Q := h
theorem eB {op : BinOp} {t : Nat} {x y : SV} (h : Ev (fun n => bd (ret1 (binS T op t x y) os) (F n)) Q) : Ev (fun n => bd (ret1 (binS T op t x y) os) (F n)) Q := h
theorem eL {t : Nat} {x : SV} (h : Ev (fun n => bd (lenO T t os x) (F n)) Q) : Ev (fun n => bd (lenO T t os x) (F n)) Q := h
theorem eO {t : Nat} {x : SV} (h : Ev (fun n => bd (ret1 (loadS T os t x) os) (F n)) Q) : Ev (fun n => bd (ret1 (loadS T os t x) os) (F n)) Q := h
theorem eV {s t : Nat} {x : SV} (h : Ev (fun n => bd (convS T os s t x) (F n)) Q) : Ev (fun n => bd (convS T os s t x) (F n)) Q := h
theorem eC {c : Nat → Cx} {f : Nat} {as : List SV} (h : Ev (fun n => bd (callS (c n) os f as) (F n)) Q) : Ev (fun n => bd (callS (c n) os f as) (F n)) Q := h
theorem eK {v : SV} {X Y : Nat → Out} (h : Ev (fun n => condS v (X n) (Y n)) Q) : Ev (fun n => condS v (X n) (Y n)) Q := h
theorem eD {A : Nat → Out} (h : Ev (fun n => bd (A n) (F n)) Q) : Ev (fun n => bd (A n) (F n)) Q := h
theorem eH {nl : Nat} {xs : List SV} {F : Nat → List SV → List SO → Out} (h : Ev (fun n => gcB nl xs os (F n)) Q) : Ev (fun n => gcB nl xs os (F n)) Q := h
theorem ev_ldz {t j sz : Nat} {b : Bool} {l : List SV} {i : Nat} (hj : os[j]? = some (.arr b sz l)) (hu : isInt T t .i64 = true) (ht : (T.ti t).map (fun q => (q.size, q.agg)) = some (1, false)) (hl : ∀ x ∈ l, ∃ z, x = iI z) (hi : i < l.length)
    (h2 : ∀ z, Ev (fun n => F n (iI z) os) Q) : Ev (fun n => bd (ret1 (loadS T os t (.ap j i 0)) os) (F n)) Q := by
  obtain ⟨z, hz⟩ := hl _ (List.getElem_mem hi)
  refine ev_bdx (x := iI z) (os := os) ?_ (h2 z)
  obtain ⟨q, hq, he⟩ := Option.map_eq_some_iff.1 ht
  obtain ⟨e1, e2⟩ := Prod.mk.inj he
  simp [loadS, hq, placeCells, hj, List.getElem?_eq_getElem hi, hz, dcells, e1, e2, pack, ret1]
end
theorem eA {T : Tab} {os : List SO} {t t' : Nat} {s x : SV} {F : Nat → SV → List SO → Out} {Q} (h : Ev (fun n => bd (appendS T os t t' s x) (F n)) Q) : Ev (fun n => bd (appendS T os t t' s x) (F n)) Q := h
def slBytes (T : Tab) (t : Nat) : Option (Nat × Nat) :=
  match T.und t with
  | some (.slice e) => match T.ti e with | some q => some (q.size, q.bytes) | none => none
  | _ => none
theorem slBytes_spec {T : Tab} {t : Nat} {p : Nat × Nat} (h : slBytes T t = some p) : ∃ e q, T.und t = some (.slice e) ∧ T.ti e = some q ∧ q.size = p.1 ∧ q.bytes = p.2 := by
  unfold slBytes at h
  split at h
  · rename_i e he
    split at h
    · rename_i q hq
      cases h
      exact ⟨e, q, he, hq, rfl, rfl⟩
    · cases h
  · cases h
theorem ev_app {T : Tab} {os os' : List SO} {t j sz by_ : Nat} {b : Bool} {l r : List SV} {x y : SV} {F : Nat → SV → List SO → Out} {Q} (ht : slBytes T t = some (sz, by_)) (hj : os[j]? = some (.arr b sz l)) (hx : elems os x = some (sz, r)) (hb : Nat.blt 0 by_ = true)
    (hn : nf (some (.osl os.length, os.set j .dead ++ [.arr b sz (l ++ r)])) = some (y, os')) (hle : by_ * (l.length + r.length) ≤ 140737488355328) (h2 : Ev (fun n => F n y os') Q) :
    Ev (fun n => bd (appendS T os t t (.osl j) x) (F n)) Q := by
  obtain ⟨e, q, hu, hq, h3, h4⟩ := slBytes_spec ht
  dsimp only at h3 h4
  refine ev_bdx (x := .osl os.length) (os := os.set j .dead ++ [.arr b sz (l ++ r)]) ?_ ?_
  · simp only [Nat.blt_eq] at hb
    have : q.bytes * (l.length + r.length) ≤ 2 ^ 47 := by rw [h4]; exact hle
    simp only [appendS, hu, hq, hj, hx, h3]
    rw [if_pos ⟨trivial, trivial, this, by rw [h4]; exact hb⟩]
  · rw [nf_eq] at hn
    obtain ⟨rfl, rfl⟩ := Prod.mk.inj (Option.some.inj hn)
    exact h2
theorem ev_lenoc {T : Tab} {t : Nat} {sz j k : Nat} {b : Bool} {l : List SV} {os : List SO} {F : Nat → SV → List SO → Out} {Q} (hj : os[j]? = some (.arr b sz l)) (hu : (slSize T t).isSome = true) (hk : pN l.length some = some k) (h2 : Ev (fun n => F n (iI (k : Int)) os) Q) :
    Ev (fun n => bd (lenO T t os (.osl j)) (F n)) Q := by
  rw [pN_eq] at hk
  refine ev_leno hj hu ?_
  rw [Option.some.inj hk]; exact h2
theorem ev_lenc {T : Tab} {t : Nat} {sz k : Nat} {l : List SV} {os : List SO} {F : Nat → SV → List SO → Out} {Q} (hu : (slSize T t).isSome = true) (hk : pN l.length some = some k) (h2 : Ev (fun n => F n (iI (k : Int)) os) Q) :
    Ev (fun n => bd (lenO T t os (.sl sz l)) (F n)) Q := by
  rw [pN_eq] at hk
  refine ev_len hu ?_
  rw [Option.some.inj hk]; exact h2
theorem eq_of_nth {α : Type} [Inhabited α] {a b : List α} (hl : a.length = b.length) (h : ∀ i, i < a.length → nth a i = nth b i) : a = b := by
  refine List.ext_getElem hl fun i h1 h2 => ?_
  have := h i h1
  simpa [nth, List.getD_eq_getElem?_getD, List.getElem?_eq_getElem h1, List.getElem?_eq_getElem h2] using this
def isEqs (T : Tab) (t n : Nat) : Bool :=
  match T.und t, T.ti t with
  | some (.eqs _), some i => Nat.beq i.size n
  | _, _ => false
theorem isEqs_spec {T : Tab} {t n : Nat} (h : isEqs T t n = true) : ∃ fs q, T.und t = some (.eqs fs) ∧ T.ti t = some q ∧ q.size = n := by
  unfold isEqs at h
  split at h
  · rename_i fs i hu hi
    exact ⟨fs, i, hu, hi, Nat.eq_of_beq_eq_true h⟩
  · cases h
theorem ev_eql2 {T : Tab} {t : Nat} {a0 a1 b0 b1 : Int} {os : List SO} {F : Nat → SV → List SO → Out} {Q} (ht : isEqs T t 2 = true) (h : a0 = b0 ∧ a1 = b1 → Ev (fun n => F n (.v (.bool true)) os) Q) (h2 : ¬ (a0 = b0 ∧ a1 = b1) → Ev (fun n => F n (.v (.bool false)) os) Q) :
    Ev (fun n => bd (ret1 (binS T .eql t (.ag [iI a0, iI a1]) (.ag [iI b0, iI b1])) os) (F n)) Q := by
  obtain ⟨fs, q, hu, hq, hs⟩ := isEqs_spec ht
  by_cases e : a0 = b0 ∧ a1 = b1
  · refine ev_bdx (x := .v (.bool true)) (os := os) ?_ (h e)
    simp [binS, hu, hq, hs, sameInts, ret1, e]
  · refine ev_bdx (x := .v (.bool false)) (os := os) ?_ (h2 e)
    simp [binS, hu, hq, hs, sameInts, ret1, e]
    try omega
theorem ev_neq2 {T : Tab} {t : Nat} {a0 a1 b0 b1 : Int} {os : List SO} {F : Nat → SV → List SO → Out} {Q} (ht : isEqs T t 2 = true) (h : a0 = b0 ∧ a1 = b1 → Ev (fun n => F n (.v (.bool false)) os) Q) (h2 : ¬ (a0 = b0 ∧ a1 = b1) → Ev (fun n => F n (.v (.bool true)) os) Q) :
    Ev (fun n => bd (ret1 (binS T .neq t (.ag [iI a0, iI a1]) (.ag [iI b0, iI b1])) os) (F n)) Q := by
  obtain ⟨fs, q, hu, hq, hs⟩ := isEqs_spec ht
  by_cases e : a0 = b0 ∧ a1 = b1
  · refine ev_bdx (x := .v (.bool false)) (os := os) ?_ (h e)
    simp [binS, hu, hq, hs, sameInts, ret1, e]
  · refine ev_bdx (x := .v (.bool true)) (os := os) ?_ (h2 e)
    simp [binS, hu, hq, hs, sameInts, ret1, e]
    try omega
theorem ev_eql3 {T : Tab} {t : Nat} {a0 a1 a2 b0 b1 b2 : Int} {os : List SO} {F : Nat → SV → List SO → Out} {Q} (ht : isEqs T t 3 = true) (h : a0 = b0 ∧ a1 = b1 ∧ a2 = b2 → Ev (fun n => F n (.v (.bool true)) os) Q) (h2 : ¬ (a0 = b0 ∧ a1 = b1 ∧ a2 = b2) → Ev (fun n => F n (.v (.bool false)) os) Q) :
    Ev (fun n => bd (ret1 (binS T .eql t (.ag [iI a0, iI a1, iI a2]) (.ag [iI b0, iI b1, iI b2])) os) (F n)) Q := by
  obtain ⟨fs, q, hu, hq, hs⟩ := isEqs_spec ht
  by_cases e : a0 = b0 ∧ a1 = b1 ∧ a2 = b2
  · refine ev_bdx (x := .v (.bool true)) (os := os) ?_ (h e)
    simp [binS, hu, hq, hs, sameInts, ret1, e]
  · refine ev_bdx (x := .v (.bool false)) (os := os) ?_ (h2 e)
    simp [binS, hu, hq, hs, sameInts, ret1, e]
    try omega
theorem ev_neq3 {T : Tab} {t : Nat} {a0 a1 a2 b0 b1 b2 : Int} {os : List SO} {F : Nat → SV → List SO → Out} {Q} (ht : isEqs T t 3 = true) (h : a0 = b0 ∧ a1 = b1 ∧ a2 = b2 → Ev (fun n => F n (.v (.bool false)) os) Q) (h2 : ¬ (a0 = b0 ∧ a1 = b1 ∧ a2 = b2) → Ev (fun n => F n (.v (.bool true)) os) Q) :
    Ev (fun n => bd (ret1 (binS T .neq t (.ag [iI a0, iI a1, iI a2]) (.ag [iI b0, iI b1, iI b2])) os) (F n)) Q := by
  obtain ⟨fs, q, hu, hq, hs⟩ := isEqs_spec ht
  by_cases e : a0 = b0 ∧ a1 = b1 ∧ a2 = b2
  · refine ev_bdx (x := .v (.bool false)) (os := os) ?_ (h e)
    simp [binS, hu, hq, hs, sameInts, ret1, e]
  · refine ev_bdx (x := .v (.bool true)) (os := os) ?_ (h2 e)
    simp [binS, hu, hq, hs, sameInts, ret1, e]
    try omega
theorem take_nth {α : Type} [Inhabited α] {l : List α} {k : Nat} (h : k < l.length) : l.take (k + 1) = l.take k ++ [nth l k] := by
  rw [List.take_add_one, get_nth h]; rfl
theorem nth_mem {α : Type} [Inhabited α] {l : List α} {k : Nat} (h : k < l.length) : nth l k ∈ l := List.mem_of_getElem? (get_nth h)
theorem mem_nth {α : Type} [Inhabited α] {l : List α} {v : α} (h : v ∈ l) : ∃ k, k < l.length ∧ nth l k = v := by
  obtain ⟨k, hk, e⟩ := List.mem_iff_getElem.1 h
  exact ⟨k, hk, by have := get_nth hk; rw [List.getElem?_eq_getElem hk] at this; rw [← e]; exact (Option.some.inj this).symm⟩
abbrev sS (l : List UInt8) : SV := .v (.string ⟨l.toArray⟩)
theorem ev_slen {T : Tab} {t : Nat} {l : List UInt8} {os : List SO} {F : Nat → SV → List SO → Out} {Q} (hu : T.und t = some .str) (h2 : Ev (fun n => F n (iI (l.length : Int)) os) Q) : Ev (fun n => bd (lenO T t os (.v (.string ⟨l.toArray⟩))) (F n)) Q := by
  refine ev_bdx (x := iI (l.length : Int)) (os := os) ?_ h2
  simp [lenO, lenS, hu, ByteArray.size]
theorem eS {T : Tab} {os : List SO} {t : Nat} {x : SV} {lo hi : Option SV} {F : Nat → SV → List SO → Out} {Q} (h : Ev (fun n => bd (ret1 (sliceS T os t x lo hi) os) (F n)) Q) : Ev (fun n => bd (ret1 (sliceS T os t x lo hi) os) (F n)) Q := h
theorem ev_slh {α : Type} {T : Tab} {os : List SO} {t sz : Nat} {f : α → SV} {l : List α} {h : Int} {F : Nat → SV → List SO → Out} {Q} (hu : slSize T t = some sz) (h0 : 0 ≤ h ∧ h ≤ (l.length : Int)) (h2 : Ev (fun n => F n (.sl sz ((l.take h.toNat).map f)) os) Q) :
    Ev (fun n => bd (ret1 (sliceS T os t (.sl sz (l.map f)) none (some (.v (.int .i64 h)))) os) (F n)) Q := by
  obtain ⟨e, q, hu, hq, hs⟩ := slSize_spec hu
  refine ev_bdx (x := .sl sz ((l.take h.toNat).map f)) (os := os) ?_ h2
  simp [sliceS, hu, hq, boundS, h0.1, h0.2, hs, ret1, List.map_take]
theorem ev_sll {α : Type} {T : Tab} {os : List SO} {t sz : Nat} {f : α → SV} {l : List α} {h : Int} {F : Nat → SV → List SO → Out} {Q} (hu : slSize T t = some sz) (h0 : 0 ≤ h ∧ h ≤ (l.length : Int)) (h2 : Ev (fun n => F n (.sl sz ((l.drop h.toNat).map f)) os) Q) :
    Ev (fun n => bd (ret1 (sliceS T os t (.sl sz (l.map f)) (some (.v (.int .i64 h))) none) os) (F n)) Q := by
  obtain ⟨e, q, hu, hq, hs⟩ := slSize_spec hu
  refine ev_bdx (x := .sl sz ((l.drop h.toNat).map f)) (os := os) ?_ h2
  have h1 : h ≤ ((l.map f).length : Int) := by rw [List.length_map]; exact h0.2
  have e1 : (l.map f).take l.length = l.map f := by rw [← List.length_map (f := f), List.take_length]
  simp [sliceS, hu, hq, boundS, h0.1, h0.2, hs, ret1, List.map_drop, e1]
theorem ev_slvh {T : Tab} {os : List SO} {t sz j : Nat} {b : Bool} {l : List SV} {h : Int} {F : Nat → SV → List SO → Out} {Q} (hj : os[j]? = some (.arr b sz l)) (hu : slSize T t = some sz) (h0 : 0 ≤ h ∧ h ≤ (l.length : Int)) (h2 : Ev (fun n => F n (.vw j 0 h.toNat) os) Q) :
    Ev (fun n => bd (ret1 (sliceS T os t (.osl j) none (some (.v (.int .i64 h)))) os) (F n)) Q := by
  obtain ⟨e, q, hu, hq, hs⟩ := slSize_spec hu
  refine ev_bdx (x := .vw j 0 h.toNat) (os := os) ?_ h2
  simp [sliceS, hu, hq, hj, boundS, h0.1, h0.2, hs, ret1]
theorem ev_slvl {T : Tab} {os : List SO} {t sz j : Nat} {b : Bool} {l : List SV} {h : Int} {F : Nat → SV → List SO → Out} {Q} (hj : os[j]? = some (.arr b sz l)) (hu : slSize T t = some sz) (h0 : 0 ≤ h ∧ h ≤ (l.length : Int)) (h2 : Ev (fun n => F n (.vw j h.toNat l.length) os) Q) :
    Ev (fun n => bd (ret1 (sliceS T os t (.osl j) (some (.v (.int .i64 h))) none) os) (F n)) Q := by
  obtain ⟨e, q, hu, hq, hs⟩ := slSize_spec hu
  refine ev_bdx (x := .vw j h.toNat l.length) (os := os) ?_ h2
  simp [sliceS, hu, hq, hj, boundS, h0.1, h0.2, hs, ret1]
theorem all_true {n i : Nat} {P : Nat → Prop} [∀ j, Decidable (P j)] (h : ∀ j, j < i → P j) (hi : n ≤ i) : decide (∀ j, j < n → P j) = true :=
  decide_eq_true fun j hj => h j (by omega)
theorem all_false {n i : Nat} {P : Nat → Prop} [∀ j, Decidable (P j)] (hi : i < n) (h : ¬ P i) : decide (∀ j, j < n → P j) = false :=
  decide_eq_false fun hh => h (hh i hi)
theorem all_step {i : Nat} {P : Nat → Prop} (h : ∀ j, j < i → P j) (hp : P i) : ∀ j, j < i + 1 → P j := fun j hj => by
  by_cases e : j = i
  · subst e; exact hp
  · exact h j (by omega)
theorem ev_idx {α : Type} [Inhabited α] {T : Tab} {t : Nat} {enc : α → SV} {l : List α} {sz : Nat} {i : Int} {os : List SO} {F : Nat → SV → List SO → Out} {Q}
    (hu : slSize T t = some sz) (h0 : 0 ≤ i ∧ i < (l.length : Int)) (h2 : Ev (fun n => F n (.el (enc (nth l i.toNat)) 0) os) Q) :
    Ev (fun n => bd (ret1 (indexAddrS T os t (.sl sz (l.map enc)) (.v (.int .i64 i))) os) (F n)) Q := by
  obtain ⟨e, q, hu, hq, hs⟩ := slSize_spec hu
  refine ev_bdx (x := .el (enc (nth l i.toNat)) 0) (os := os) ?_ h2
  have hg : (l.map enc)[i.toNat]? = some (enc (nth l i.toNat)) := by
    rw [List.getElem?_map, get_nth (by omega)]; rfl
  simp [indexAddrS, hu, hq, hs, h0.1, elS, hg, ret1]
end Go.Proofs.Ytikennabfbkdhaa
