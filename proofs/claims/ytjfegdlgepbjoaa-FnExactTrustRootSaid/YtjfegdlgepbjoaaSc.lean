/- The evaluator S: what its values and objects say of the model's memory. -/
import Derived.Test.YtjfegdlgepbjoaaSa
import Derived.Laws.World
import Derived.Laws.Cells
namespace Go.Proofs.Ytjfegdlgepbjoaa
open Go
set_option linter.unusedVariables false
set_option linter.unusedSimpArgs false

inductive Gh where
  | no
  | nil
  | blk (b sz n cap : Nat)
  | bx (b : Nat)

def Gh.block? : Gh → Option Nat
  | .blk b _ _ _ => some b
  | .bx b => some b
  | _ => none

def G0 : Nat → Gh := fun _ => .no

def CellsAt (w : World) (b o : Nat) (cs : List Value) : Prop := ∀ k v, cs[k]? = some v → w.cell? ⟨b, o + k, none⟩ = some v

def flatV (vs : List Value) : List Value := vs.flatMap fun v => v.cells.toList

/-- An element's value: so many cells, each of them one. -/
def ElOK (sz : Nat) (v : Value) : Prop := v.cells.size = sz ∧ ∀ c, c ∈ v.cells.toList → c.oneCell' = true

inductive RepV (w : World) (B : Nat → Prop) : (Nat → Gh) → SV → Value → Prop
  | v {g : Nat → Gh} {x : Value} : scalar x = true → RepV w B g (.v x) x
  | undef {g : Nat → Gh} : RepV w B g .undef Go.undef
  | dead {g : Nat → Gh} {x : Value} : RepV w B g .dead x
  | sl0 {g : Nat → Gh} {a : Option Addr} {sz c : Nat} : RepV w B g (.sl sz []) (.slice a 0 c)
  | sl {g : Nat → Gh} {l : List SV} {vs : List Value} {sz b o c : Nat} : l.length = vs.length → (∀ (i : Nat) (x : SV) (v : Value), l[i]? = some x → vs[i]? = some v → RepV w B G0 x v) →
      (∀ v : Value, v ∈ vs → ElOK sz v) → CellsAt w b o (flatV vs) → B b → l.length ≤ c → RepV w B g (.sl sz l) (.slice (some ⟨b, o, none⟩) l.length c)
  | ag {g : Nat → Gh} {l : List SV} {vs : List Value} : l.length = vs.length → (∀ (i : Nat) (x : SV) (v : Value), l[i]? = some x → vs[i]? = some v → RepV w B g x v) →
      (∀ v : Value, v ∈ vs → v.oneCell' = true) → RepV w B g (.ag l) (.agg vs.toArray)
  | tup {g : Nat → Gh} {l : List SV} {vs : List Value} : l.length = vs.length → (∀ (i : Nat) (x : SV) (v : Value), l[i]? = some x → vs[i]? = some v → RepV w B g x v) →
      RepV w B g (.tup l) (.tuple vs.toArray)
  | osl0 {g : Nat → Gh} {j : Nat} : g j = .nil → RepV w B g (.osl j) (.slice none 0 0)
  | osl {g : Nat → Gh} {j b sz n cap : Nat} : g j = .blk b sz n cap → RepV w B g (.osl j) (.slice (some ⟨b, 0, none⟩) n cap)
  | vw0 {g : Nat → Gh} {j lo c : Nat} {a : Option Addr} : RepV w B g (.vw j lo lo) (.slice a 0 c)
  | vw {g : Nat → Gh} {j b sz n cap lo hi c : Nat} : g j = .blk b sz n cap → lo ≤ hi → hi ≤ n → hi - lo ≤ c →
      RepV w B g (.vw j lo hi) (.slice (some ⟨b, lo * sz, none⟩) (hi - lo) c)
  | ptr {g : Nat → Gh} {j b o : Nat} : g j = .bx b → RepV w B g (.ptr j o) (.pointer (some ⟨b, o, none⟩))
  | ap {g : Nat → Gh} {j b sz n cap i o : Nat} : g j = .blk b sz n cap → RepV w B g (.ap j i o) (.pointer (some ⟨b, i * sz + o, none⟩))
  | el {g : Nat → Gh} {x : SV} {u : Value} {b o k : Nat} : RepV w B G0 x u → CellsAt w b o u.cells.toList → B b → RepV w B g (.el x k) (.pointer (some ⟨b, o + k, none⟩))
  | fn {g : Nat → Gh} {f : Nat} {caps : List SV} {vs : List Value} : caps.length = vs.length → (∀ (i : Nat) (x : SV) (v : Value), caps[i]? = some x → vs[i]? = some v → RepV w B g x v) →
      RepV w B g (.fn f caps) (.func (.func f) #[] vs.toArray)

def RepL (w : World) (B : Nat → Prop) (g : Nat → Gh) (l : List SV) (vs : List Value) : Prop :=
  l.length = vs.length ∧ ∀ (i : Nat) (x : SV) (v : Value), l[i]? = some x → vs[i]? = some v → RepV w B g x v

/-- A block of cells that may be written. -/
def Room (w : World) (b n : Nat) : Prop :=
  ∃ cs t fz, w.heap[b]? = some (.cells cs t fz) ∧ n ≤ cs.size ∧ ∀ o, o < cs.size → ¬ (fz.1 ≤ o ∧ o < fz.2)

def ObjOK (w : World) (B : Nat → Prop) (g : Nat → Gh) (j : Nat) : SO → Prop
  | .dead => True
  | .frz sz l => (l = [] ∧ g j = .nil) ∨ ∃ b cap vs, g j = .blk b sz l.length cap ∧ l.length ≤ cap ∧ B b ∧ RepL w B G0 l vs ∧ (∀ v : Value, v ∈ vs → ElOK sz v) ∧ CellsAt w b 0 (flatV vs)
  | .arr _ sz l => (l = [] ∧ g j = .nil) ∨ ∃ b cap vs, g j = .blk b sz l.length cap ∧ l.length ≤ cap ∧ RepL w B G0 l vs ∧ (∀ v : Value, v ∈ vs → ElOK sz v) ∧ CellsAt w b 0 (flatV vs) ∧ Room w b (cap * sz)
  | .box l => ∃ b vs, g j = .bx b ∧ RepL w B g l vs ∧ (∀ v : Value, v ∈ vs → v.oneCell' = true) ∧ CellsAt w b 0 vs ∧ Room w b vs.length

def SO.isLive : SO → Bool
  | .box _ | .arr _ _ _ => true
  | _ => false

def live (os : List SO) (g : Nat → Gh) (b : Nat) : Prop := ∃ j o, os[j]? = some o ∧ o.isLive = true ∧ (g j).block? = some b

/-- What is fixed while a function runs: how many blocks there were, which of these the arguments lead to, which are lent, and the memory. -/
structure Fr where
  N : Nat
  A : Nat → Prop
  L : Nat → Prop
  w0 : World

def Bk (fr : Fr) (os : List SO) (g : Nat → Gh) (w : World) (b : Nat) : Prop := b < w.heap.size ∧ (b < fr.N → fr.A b) ∧ ¬ live os g b

/-- What is outside memory is as it was. -/
def SameOut (w w' : World) : Prop := w'.os = w.os ∧ w'.tape = w.tape ∧ w'.output = w.output

theorem SameOut.refl (w : World) : SameOut w w := ⟨rfl, rfl, rfl⟩

theorem SameOut.trans {w w' w'' : World} (h : SameOut w w') (h' : SameOut w' w'') : SameOut w w'' := ⟨h'.1.trans h.1, h'.2.1.trans h.2.1, h'.2.2.trans h.2.2⟩

structure Mem (fr : Fr) (os : List SO) (g : Nat → Gh) (w : World) : Prop where
  objs : ∀ j o, os[j]? = some o → ObjOK w (Bk fr os g w) g j o
  fresh : ∀ j, os.length ≤ j → g j = .no
  inj : ∀ i j oi oj b, os[i]? = some oi → os[j]? = some oj → oi.isLive = true → oj.isLive = true → (g i).block? = some b → (g j).block? = some b → i = j
  own : ∀ b, live os g b → b < w.heap.size ∧ (b < fr.N → fr.L b)
  mine : ∀ j sz l b, os[j]? = some (.arr false sz l) → (g j).block? = some b → fr.N ≤ b
  frame : ∀ b, b < fr.N → ¬ fr.L b → w.heap[b]? = fr.w0.heap[b]?
  size : fr.N ≤ w.heap.size
  out : SameOut fr.w0 w

def Slots (w : World) (B : Nat → Prop) (g : Nat → Gh) (env : Env) (tmps : Array Value) : Prop :=
  ∀ t, RepV w B g (look t env) (tmps.getD t undef)

/-- All that was told stays told. -/
structure Grow (fr : Fr) (os : List SO) (g : Nat → Gh) (w : World) (os' : List SO) (g' : Nat → Gh) (w' : World) : Prop where
  sub : ∀ b, Bk fr os g w b → Bk fr os' g' w' b
  same : ∀ b, Bk fr os g w b → w'.heap[b]? = w.heap[b]?
  ext : ∀ j, g j ≠ .no → g' j = g j

theorem cell?_heap {w w' : World} {b : Nat} (h : w'.heap[b]? = w.heap[b]?) (o : Nat) : w'.cell? ⟨b, o, none⟩ = w.cell? ⟨b, o, none⟩ := by
  simp only [World.cell?, h]

theorem CellsAt.heap {w w' : World} {b o : Nat} {cs : List Value} (h : CellsAt w b o cs) (e : w'.heap[b]? = w.heap[b]?) : CellsAt w' b o cs :=
  fun k v hk => by rw [cell?_heap e]; exact h k v hk

theorem RepV.mono {w w' : World} {B B' : Nat → Prop} {g : Nat → Gh} {x : SV} {v : Value} (h : RepV w B g x v)
    (hB : ∀ b, B b → B' b) (hw : ∀ b, B b → w'.heap[b]? = w.heap[b]?) : ∀ g', (∀ j, g j ≠ .no → g' j = g j) → RepV w' B' g' x v := by
  induction h with
  | v h => exact fun _ _ => .v h
  | undef => exact fun _ _ => .undef
  | dead => exact fun _ _ => .dead
  | sl0 => exact fun _ _ => .sl0
  | sl h1 h2 h3 h4 h5 h6 ih => exact fun _ _ => .sl h1 (fun i x v a b => ih i x v a b G0 (fun j hj => absurd rfl hj)) h3 (h4.heap (hw _ h5)) (hB _ h5) h6
  | ag h1 h2 h3 ih => exact fun g' hg => .ag h1 (fun i x v a b => ih i x v a b g' hg) h3
  | tup h1 h2 ih => exact fun g' hg => .tup h1 (fun i x v a b => ih i x v a b g' hg)
  | osl0 h => exact fun g' hg => .osl0 (by rw [hg _ (by rw [h]; simp)]; exact h)
  | osl h => exact fun g' hg => .osl (by rw [hg _ (by rw [h]; simp)]; exact h)
  | vw0 => exact fun _ _ => .vw0
  | vw h a b c => exact fun g' hg => .vw (by rw [hg _ (by rw [h]; simp)]; exact h) a b c
  | ptr h => exact fun g' hg => .ptr (by rw [hg _ (by rw [h]; simp)]; exact h)
  | ap h => exact fun g' hg => .ap (by rw [hg _ (by rw [h]; simp)]; exact h)
  | el h1 h2 h3 ih => exact fun _ _ => .el (ih G0 (fun j hj => absurd rfl hj)) (h2.heap (hw _ h3)) (hB _ h3)
  | fn h1 h2 ih => exact fun g' hg => .fn h1 (fun i x v a b => ih i x v a b g' hg)

theorem RepL.mono {w w' : World} {B B' : Nat → Prop} {g g' : Nat → Gh} {l : List SV} {vs : List Value} (h : RepL w B g l vs)
    (hB : ∀ b, B b → B' b) (hw : ∀ b, B b → w'.heap[b]? = w.heap[b]?) (hg : ∀ j, g j ≠ .no → g' j = g j) : RepL w' B' g' l vs :=
  ⟨h.1, fun i x v a b => (h.2 i x v a b).mono hB hw g' hg⟩

theorem RepV.grow {fr : Fr} {os os' : List SO} {g g' : Nat → Gh} {w w' : World} {x : SV} {v : Value} (h : RepV w (Bk fr os g w) g x v)
    (hg : Grow fr os g w os' g' w') : RepV w' (Bk fr os' g' w') g' x v := h.mono hg.sub hg.same g' hg.ext

theorem Slots.grow {fr : Fr} {os os' : List SO} {g g' : Nat → Gh} {w w' : World} {env : Env} {tmps : Array Value} (h : Slots w (Bk fr os g w) g env tmps)
    (hg : Grow fr os g w os' g' w') : Slots w' (Bk fr os' g' w') g' env tmps := fun t => (h t).grow hg

theorem Grow.refl (fr : Fr) (os : List SO) (g : Nat → Gh) (w : World) : Grow fr os g w os g w := ⟨fun _ h => h, fun _ _ => rfl, fun _ _ => rfl⟩

theorem Grow.trans {fr : Fr} {os os' os'' : List SO} {g g' g'' : Nat → Gh} {w w' w'' : World} (h : Grow fr os g w os' g' w') (h' : Grow fr os' g' w' os'' g'' w'') :
    Grow fr os g w os'' g'' w'' :=
  ⟨fun b hb => h'.sub b (h.sub b hb), fun b hb => (h'.same b (h.sub b hb)).trans (h.same b hb), fun j hj => by
    rw [h'.ext j (by rw [h.ext j hj]; exact hj), h.ext j hj]⟩

/-- What stands in an object stays told, where its own block is as it was. -/
theorem ObjOK.mono {w w' : World} {B B' : Nat → Prop} {g g' : Nat → Gh} {j : Nat} {o : SO} (h : ObjOK w B g j o)
    (hB : ∀ b, B b → B' b) (hw : ∀ b, B b → w'.heap[b]? = w.heap[b]?) (hg : ∀ j, g j ≠ .no → g' j = g j)
    (hb : ∀ b, o.isLive = true → (g j).block? = some b → w'.heap[b]? = w.heap[b]?) : ObjOK w' B' g' j o := by
  cases o with
  | dead => trivial
  | frz sz l =>
    rcases h with ⟨a, b⟩ | ⟨b, cap, vs, h1, h2, h3, h4, h5, h6⟩
    · exact .inl ⟨a, by rw [hg _ (by rw [b]; simp)]; exact b⟩
    · exact .inr ⟨b, cap, vs, by rw [hg _ (by rw [h1]; simp)]; exact h1, h2, hB _ h3, h4.mono hB hw (fun j hj => absurd rfl hj), h5, h6.heap (hw _ h3)⟩
  | arr lt sz l =>
    rcases h with ⟨a, b⟩ | ⟨b, cap, vs, h1, h2, h3, h4, h5, h6⟩
    · exact .inl ⟨a, by rw [hg _ (by rw [b]; simp)]; exact b⟩
    · have e := hb b rfl (by rw [h1]; rfl)
      refine .inr ⟨b, cap, vs, by rw [hg _ (by rw [h1]; simp)]; exact h1, h2, h3.mono hB hw (fun j hj => absurd rfl hj), h4, h5.heap e, ?_⟩
      obtain ⟨cs, t, fz, a, c, d⟩ := h6
      exact ⟨cs, t, fz, by rw [e]; exact a, c, d⟩
  | box l =>
    obtain ⟨b, vs, h1, h2, h3, h4, h5⟩ := h
    have e := hb b rfl (by rw [h1]; rfl)
    refine ⟨b, vs, by rw [hg _ (by rw [h1]; simp)]; exact h1, h2.mono hB hw hg, h3, h4.heap e, ?_⟩
    obtain ⟨cs, t, fz, a, c, d⟩ := h5
    exact ⟨cs, t, fz, by rw [e]; exact a, c, d⟩

/-! ### cells of a value -/
theorem scalar_cells {v : Value} (h : scalar v = true) : v.cells = #[v] := by
  cases v <;> first | rfl | simp [scalar] at h

theorem scalar_one {v : Value} (h : scalar v = true) : v.oneCell' = true := by
  cases v <;> first | rfl | simp [scalar] at h

theorem RepV.cells {w : World} {B : Nat → Prop} {g : Nat → Gh} {x : SV} {v : Value} (h : RepV w B g x v) (hx : x ≠ .dead) : RepL w B g x.cells v.cells.toList := by
  have one : ∀ {x : SV} {v : Value}, RepV w B g x v → x.cells = [x] → v.cells = #[v] → RepL w B g x.cells v.cells.toList := by
    intro x v h e1 e2
    rw [e1, e2]
    refine ⟨rfl, fun i y c hy hc => ?_⟩
    cases i with
    | zero => simp at hy hc; subst hy; subst hc; exact h
    | succ i => simp at hy
  cases h with
  | ag h1 h2 h3 => exact ⟨by simpa [SV.cells, Value.cells] using h1, by simpa [SV.cells, Value.cells] using h2⟩
  | dead => exact absurd rfl hx
  | v h => exact one (.v h) rfl (scalar_cells h)
  | undef => exact one .undef rfl rfl
  | sl0 => exact one .sl0 rfl rfl
  | sl h1 h2 h3 h4 h5 h6 => exact one (.sl h1 h2 h3 h4 h5 h6) rfl rfl
  | tup h1 h2 => exact one (.tup h1 h2) rfl rfl
  | osl0 h => exact one (.osl0 h) rfl rfl
  | osl h => exact one (.osl h) rfl rfl
  | vw0 => exact one .vw0 rfl rfl
  | vw h a b c => exact one (.vw h a b c) rfl rfl
  | ptr h => exact one (.ptr h) rfl rfl
  | ap h => exact one (.ap h) rfl rfl
  | el h1 h2 h3 => exact one (.el h1 h2 h3) rfl rfl
  | fn h1 h2 => exact one (.fn h1 h2) rfl rfl

theorem RepV.size {w : World} {B : Nat → Prop} {g : Nat → Gh} {x : SV} {v : Value} (h : RepV w B g x v) (hx : x ≠ .dead) : x.cells.length = v.cells.size := by
  have := (h.cells hx).1; simpa using this

theorem okCell_one {w : World} {B : Nat → Prop} {g : Nat → Gh} {x : SV} {v : Value} (h : RepV w B g x v) (hx : okCell x = true) : v.oneCell' = true := by
  cases h <;> simp [okCell] at hx <;> first | rfl | (apply scalar_one; assumption)

theorem RepL.nil {w : World} {B : Nat → Prop} {g : Nat → Gh} : RepL w B g [] [] := ⟨rfl, fun i x v h => by simp at h⟩

theorem RepL.cons {w : World} {B : Nat → Prop} {g : Nat → Gh} {x : SV} {v : Value} {l : List SV} {vs : List Value} (h : RepV w B g x v) (hl : RepL w B g l vs) :
    RepL w B g (x :: l) (v :: vs) :=
  ⟨by simp [hl.1], fun i y c hy hc => by
    cases i with
    | zero => simp at hy hc; subst hy; subst hc; exact h
    | succ i => exact hl.2 i y c (by simpa using hy) (by simpa using hc)⟩

theorem RepL.uncons {w : World} {B : Nat → Prop} {g : Nat → Gh} {x : SV} {l : List SV} {vs : List Value} (h : RepL w B g (x :: l) vs) :
    ∃ v vs', vs = v :: vs' ∧ RepV w B g x v ∧ RepL w B g l vs' := by
  cases vs with
  | nil => simp [RepL] at h
  | cons v vs => exact ⟨v, vs, rfl, h.2 0 x v rfl rfl, by simpa using h.1, fun i y c hy hc => h.2 (i + 1) y c (by simpa using hy) (by simpa using hc)⟩

theorem RepL.get {w : World} {B : Nat → Prop} {g : Nat → Gh} {l : List SV} {vs : List Value} (h : RepL w B g l vs) {i : Nat} {x : SV} (hx : l[i]? = some x) :
    ∃ v, vs[i]? = some v ∧ RepV w B g x v := by
  have hi : i < l.length := by
    rcases Nat.lt_or_ge i l.length with h' | h'
    · exact h'
    · simp [List.getElem?_eq_none h'] at hx
  have hv : i < vs.length := h.1 ▸ hi
  exact ⟨vs[i], by simp [hv], h.2 i x _ hx (by simp [hv])⟩

theorem RepL.append {w : World} {B : Nat → Prop} {g : Nat → Gh} {l l' : List SV} {vs vs' : List Value} (h : RepL w B g l vs) (h' : RepL w B g l' vs') :
    RepL w B g (l ++ l') (vs ++ vs') :=
  ⟨by simp [h.1, h'.1], fun i x v hx hv => by
    have e := h.1
    rcases Nat.lt_or_ge i l.length with hi | hi
    · rw [List.getElem?_append_left hi] at hx; rw [List.getElem?_append_left (e ▸ hi)] at hv; exact h.2 i x v hx hv
    · rw [List.getElem?_append_right hi] at hx; rw [List.getElem?_append_right (e ▸ hi)] at hv; rw [e] at hx; exact h'.2 _ x v hx hv⟩

theorem RepL.take {w : World} {B : Nat → Prop} {g : Nat → Gh} {l : List SV} {vs : List Value} (h : RepL w B g l vs) (n : Nat) : RepL w B g (l.take n) (vs.take n) :=
  ⟨by simp [h.1], fun i x v hx hv => by
    rw [List.getElem?_take] at hx hv
    split at hx
    · rename_i hi; rw [if_pos hi] at hv; exact h.2 i x v hx hv
    · simp at hx⟩

theorem RepL.drop {w : World} {B : Nat → Prop} {g : Nat → Gh} {l : List SV} {vs : List Value} (h : RepL w B g l vs) (n : Nat) : RepL w B g (l.drop n) (vs.drop n) :=
  ⟨by simp [h.1], fun i x v hx hv => by
    rw [List.getElem?_drop] at hx hv; exact h.2 _ x v hx hv⟩

theorem CellsAt.append {w : World} {b o : Nat} {xs ys : List Value} (h : CellsAt w b o xs) (h' : CellsAt w b (o + xs.length) ys) : CellsAt w b o (xs ++ ys) := by
  intro k v hk
  rcases Nat.lt_or_ge k xs.length with hi | hi
  · exact h k v (by rwa [List.getElem?_append_left hi] at hk)
  · rw [List.getElem?_append_right hi] at hk
    have := h' _ v hk
    rwa [show o + xs.length + (k - xs.length) = o + k by omega] at this

theorem CellsAt.take {w : World} {b o : Nat} {xs : List Value} (h : CellsAt w b o xs) (n : Nat) : CellsAt w b o (xs.take n) := by
  intro k v hk
  rw [List.getElem?_take] at hk
  split at hk
  · exact h k v hk
  · simp at hk

theorem CellsAt.drop {w : World} {b o : Nat} {xs : List Value} (h : CellsAt w b o xs) (n : Nat) : CellsAt w b (o + n) (xs.drop n) := by
  intro k v hk
  rw [List.getElem?_drop] at hk
  have := h _ v hk
  rwa [show o + (n + k) = o + n + k by omega] at this

/-- Cells of whole elements: element i's stand from i times the size on. -/
theorem flatV_drop {vs : List Value} {sz : Nat} (h : ∀ v, v ∈ vs → ElOK sz v) : ∀ i, (flatV vs).drop (i * sz) = flatV (vs.drop i) := by
  intro i
  induction i generalizing vs with
  | zero => simp
  | succ i ih =>
    cases vs with
    | nil => simp [flatV]
    | cons v vs =>
      have hv := (h v (by simp)).1
      have e : (flatV (v :: vs)).drop sz = flatV vs := by
        simp only [flatV, List.flatMap_cons]
        rw [List.drop_append_of_le_length (by simp [hv])]
        simp [List.drop_eq_nil_of_le, hv]
      rw [show (i + 1) * sz = sz + i * sz by rw [Nat.succ_mul]; omega, ← List.drop_drop, e]
      simpa using ih (vs := vs) (fun x hx => h x (by simp [hx]))

theorem flatV_length {vs : List Value} {sz : Nat} (h : ∀ v, v ∈ vs → ElOK sz v) : (flatV vs).length = vs.length * sz := by
  induction vs with
  | nil => simp [flatV]
  | cons v vs ih =>
    have := ih (fun x hx => h x (by simp [hx]))
    have hv := (h v (by simp)).1
    simp only [flatV, List.flatMap_cons, List.length_append, List.length_cons] at this ⊢
    rw [this]; simp [hv, Nat.succ_mul]; omega

theorem flatV_take {vs : List Value} {sz : Nat} (h : ∀ v, v ∈ vs → ElOK sz v) : ∀ i, (flatV vs).take (i * sz) = flatV (vs.take i) := by
  intro i
  induction i generalizing vs with
  | zero => simp [flatV]
  | succ i ih =>
    cases vs with
    | nil => simp [flatV]
    | cons v vs =>
      have hv := (h v (by simp)).1
      have := ih (vs := vs) (fun x hx => h x (by simp [hx]))
      simp only [flatV, List.flatMap_cons, List.take_succ_cons] at this ⊢
      rw [show (i + 1) * sz = v.cells.toList.length + i * sz by rw [Nat.succ_mul]; simp [hv]; omega, List.take_length_add_append, this]

theorem flatV_append (vs us : List Value) : flatV (vs ++ us) = flatV vs ++ flatV us := by simp [flatV]

theorem flatV_elem {vs : List Value} {sz i : Nat} {v : Value} (h : ∀ v, v ∈ vs → ElOK sz v) (hv : vs[i]? = some v) {w : World} {b o : Nat}
    (hc : CellsAt w b o (flatV vs)) : CellsAt w b (o + i * sz) v.cells.toList := by
  have h1 := hc.drop (i * sz)
  rw [flatV_drop h] at h1
  have hi : i < vs.length := by
    rcases Nat.lt_or_ge i vs.length with h' | h'
    · exact h'
    · simp [List.getElem?_eq_none h'] at hv
  have e : vs.drop i = v :: vs.drop (i + 1) := by
    rw [List.drop_eq_getElem_cons hi]
    congr 1
    simpa [hi] using hv
  rw [e] at h1
  have h2 := h1.take v.cells.size
  simp only [flatV, List.flatMap_cons] at h2
  rwa [show v.cells.size = v.cells.toList.length by simp, List.take_left'] at h2
  rfl

end Go.Proofs.Ytjfegdlgepbjoaa
