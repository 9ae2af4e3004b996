/- The evaluator S and what it says of functions: Sc, Sd. -/
import Derived.Test.YtikennabfbkdhaaSa
import Derived.Laws.World
import Derived.Laws.Cells
import Derived.Laws.Entries
import Derived.Laws.Append
import Derived.Laws.MakeOwn
import Derived.Laws.Small
import Derived.Laws.Slices
import Derived.Laws.Strings
/- The evaluator S: what its values and objects say of the model's memory. -/
namespace Go.Proofs.Ytikennabfbkdhaa
open Go
set_option linter.unusedVariables false
set_option linter.unusedSimpArgs false
inductive Gh where
  | no
  | nil
  | blk (b sz n cap : Nat)
  | bx (b : Nat)
  | nst (b sz n cap : Nat) (ins : List Nat)
def Gh.has : Gh → Nat → Prop
  | .blk b _ _ _, c => b = c
  | .bx b, c => b = c
  | .nst b _ _ _ ins, c => b = c ∨ c ∈ ins
  | _, _ => False
def G0 : Nat → Gh := fun _ => .no
def CellsAt (w : World) (b o : Nat) (cs : List Value) : Prop := ∀ k v, cs[k]? = some v → w.cell? ⟨b, o + k, none⟩ = some v
def flatV (vs : List Value) : List Value := vs.flatMap fun v => v.cells.toList
def ElOK (sz : Nat) (v : Value) : Prop := v.cells.size = sz ∧ ∀ c, c ∈ v.cells.toList → c.oneCell' = true
inductive RepV (w : World) (B : Nat → Prop) : (Nat → Gh) → SV → Value → Prop
  | v {g : Nat → Gh} {x : Value} : scalar x = true → RepV w B g (.v x) x
  | undef {g : Nat → Gh} : RepV w B g .undef Go.undef
  | dead {g : Nat → Gh} {x : Value} : RepV w B g .dead x
  | sl0 {g : Nat → Gh} {a : Option Addr} {sz c : Nat} : RepV w B g (.sl sz []) (.slice a 0 c)
  | sl {g : Nat → Gh} {l : List SV} {vs : List Value} {sz b o c : Nat} : l.length = vs.length → (∀ (i : Nat) (x : SV) (v : Value), l[i]? = some x → vs[i]? = some v → RepV w B G0 x v) →
      (∀ v : Value, v ∈ vs → ElOK sz v) → CellsAt w b o (flatV vs) → B b → l.length ≤ c → RepV w B g (.sl sz l) (.slice (some ⟨b, o, none⟩) l.length c)
  | ag {g : Nat → Gh} {l : List SV} {vs : List Value} : l.length = vs.length → (∀ (i : Nat) (x : SV) (v : Value), l[i]? = some x → vs[i]? = some v → RepV w B g x v) →
      (∀ v : Value, v ∈ vs → v.oneCell' = true) → RepV w B g (.ag l) (.agg vs.toArray)
  | tup {g : Nat → Gh} {l : List SV} {vs : List Value} : l.length = vs.length → (∀ (i : Nat) (x : SV) (v : Value), l[i]? = some x → vs[i]? = some v → RepV w B g x v) →
      RepV w B g (.tup l) (.tuple vs.toArray)
  | osl0 {g : Nat → Gh} {j : Nat} : g j = .nil → RepV w B g (.osl j) (.slice none 0 0)
  | osl {g : Nat → Gh} {j b sz n cap : Nat} : g j = .blk b sz n cap → RepV w B g (.osl j) (.slice (some ⟨b, 0, none⟩) n cap)
  | osln {g : Nat → Gh} {j b sz n cap : Nat} {ins : List Nat} : g j = .nst b sz n cap ins → RepV w B g (.osl j) (.slice (some ⟨b, 0, none⟩) n cap)
  | vw0 {g : Nat → Gh} {j lo c : Nat} {a : Option Addr} : RepV w B g (.vw j lo lo) (.slice a 0 c)
  | vw {g : Nat → Gh} {j b sz n cap lo hi c : Nat} : g j = .blk b sz n cap → lo ≤ hi → hi ≤ n → hi - lo ≤ c →
      RepV w B g (.vw j lo hi) (.slice (some ⟨b, lo * sz, none⟩) (hi - lo) c)
  | ptr {g : Nat → Gh} {j b o : Nat} : g j = .bx b → RepV w B g (.ptr j o) (.pointer (some ⟨b, o, none⟩))
  | ap {g : Nat → Gh} {j b sz n cap i o : Nat} : g j = .blk b sz n cap → RepV w B g (.ap j i o) (.pointer (some ⟨b, i * sz + o, none⟩))
  | el {g : Nat → Gh} {x : SV} {u : Value} {b o k : Nat} : RepV w B G0 x u → CellsAt w b o u.cells.toList → B b → RepV w B g (.el x k) (.pointer (some ⟨b, o + k, none⟩))
  | fn {g : Nat → Gh} {f : Nat} {caps : List SV} {vs : List Value} : caps.length = vs.length → (∀ (i : Nat) (x : SV) (v : Value), caps[i]? = some x → vs[i]? = some v → RepV w B g x v) →
      RepV w B g (.fn f caps) (.func (.func f) #[] vs.toArray)
def RepL (w : World) (B : Nat → Prop) (g : Nat → Gh) (l : List SV) (vs : List Value) : Prop :=
  l.length = vs.length ∧ ∀ (i : Nat) (x : SV) (v : Value), l[i]? = some x → vs[i]? = some v → RepV w B g x v
def Room (w : World) (b n : Nat) (sz : Nat := 1) : Prop :=
  ∃ cs t fz, w.heap[b]? = some (.cells cs t fz) ∧ n ≤ cs.size ∧ (∀ o, o < cs.size → ¬ (fz.1 ≤ o ∧ o < fz.2)) ∧ (sz ≠ 1 → ¬ (fz.1 ≤ cs.size ∧ cs.size < fz.2))
structure Inner (w : World) (b : Nat) (ins : List Nat) (l : List SV) (vs : List Value) : Prop where
  out : b ∉ ins
  at_ : ∃ f : Nat → Nat → Nat, (∀ (i c : Nat) (x : SV) (v : Value) (sz : Nat) (m : List SV), l[i]? = some x → vs[i]? = some v → x.cells[c]? = some (.sl sz m) → m ≠ [] → f i c ∈ ins ∧ ∃ cap, v.cells.toList[c]? = some (.slice (some ⟨f i c, 0, none⟩) m.length cap) ∧ Room w (f i c) (cap * sz) sz) ∧
    ∀ i c i' c', f i c = f i' c' → i = i' ∧ c = c'
def ObjOK (w : World) (B : Nat → Prop) (g : Nat → Gh) (j : Nat) : SO → Prop
  | .dead => True
  | .frz sz l => (l = [] ∧ g j = .nil) ∨ ∃ b cap vs, g j = .blk b sz l.length cap ∧ l.length ≤ cap ∧ B b ∧ RepL w B G0 l vs ∧ (∀ v : Value, v ∈ vs → ElOK sz v) ∧ CellsAt w b 0 (flatV vs)
  | .arr _ sz l => (l = [] ∧ g j = .nil) ∨ ∃ b cap vs, g j = .blk b sz l.length cap ∧ l.length ≤ cap ∧ RepL w B G0 l vs ∧ (∀ v : Value, v ∈ vs → ElOK sz v) ∧ CellsAt w b 0 (flatV vs) ∧ Room w b (cap * sz) sz
  | .nst _ sz l => (l = [] ∧ g j = .nil) ∨ ∃ b cap vs ins, g j = .nst b sz l.length cap ins ∧ l.length ≤ cap ∧ RepL w (fun c => c ∈ ins) G0 l vs ∧ (∀ v : Value, v ∈ vs → ElOK sz v) ∧ CellsAt w b 0 (flatV vs) ∧ Room w b (cap * sz) sz ∧ Inner w b ins l vs
  | .box l => ∃ b vs, g j = .bx b ∧ RepL w B g l vs ∧ (∀ v : Value, v ∈ vs → v.oneCell' = true) ∧ CellsAt w b 0 vs ∧ Room w b vs.length
def SO.isLive : SO → Bool
  | .box _ | .arr _ _ _ | .nst _ _ _ => true
  | _ => false
def live (os : List SO) (g : Nat → Gh) (b : Nat) : Prop := ∃ j o, os[j]? = some o ∧ o.isLive = true ∧ (g j).has b
structure Fr where
  N : Nat
  A : Nat → Prop
  L : Nat → Prop
  w0 : World
def Bk (fr : Fr) (os : List SO) (g : Nat → Gh) (w : World) (b : Nat) : Prop := b < w.heap.size ∧ (b < fr.N → fr.A b) ∧ ¬ live os g b
def SameOut (w w' : World) : Prop := w'.os = w.os ∧ w'.tape = w.tape ∧ w'.output = w.output
theorem SameOut.refl (w : World) : SameOut w w := ⟨rfl, rfl, rfl⟩
theorem SameOut.trans {w w' w'' : World} (h : SameOut w w') (h' : SameOut w' w'') : SameOut w w'' := ⟨h'.1.trans h.1, h'.2.1.trans h.2.1, h'.2.2.trans h.2.2⟩
structure Mem (fr : Fr) (os : List SO) (g : Nat → Gh) (w : World) : Prop where
  objs : ∀ j o, os[j]? = some o → ObjOK w (Bk fr os g w) g j o
  fresh : ∀ j, os.length ≤ j → g j = .no
  inj : ∀ i j oi oj b, os[i]? = some oi → os[j]? = some oj → oi.isLive = true → oj.isLive = true → (g i).has b → (g j).has b → i = j
  own : ∀ b, live os g b → b < w.heap.size ∧ (b < fr.N → fr.L b)
  mine : ∀ j sz l b, os[j]? = some (.arr false sz l) → (g j).has b → fr.N ≤ b
  frame : ∀ b, b < fr.N → ¬ fr.L b → w.heap[b]? = fr.w0.heap[b]?
  size : fr.N ≤ w.heap.size
  out : SameOut fr.w0 w
def Slots (w : World) (B : Nat → Prop) (g : Nat → Gh) (env : Env) (tmps : Array Value) : Prop :=
  ∀ t, RepV w B g (look t env) (tmps.getD t undef)
structure Grow (fr : Fr) (os : List SO) (g : Nat → Gh) (w : World) (os' : List SO) (g' : Nat → Gh) (w' : World) : Prop where
  sub : ∀ b, Bk fr os g w b → Bk fr os' g' w' b
  same : ∀ b, Bk fr os g w b → w'.heap[b]? = w.heap[b]?
  ext : ∀ j, g j ≠ .no → g' j = g j
theorem cell?_heap {w w' : World} {b : Nat} (h : w'.heap[b]? = w.heap[b]?) (o : Nat) : w'.cell? ⟨b, o, none⟩ = w.cell? ⟨b, o, none⟩ := by
  simp only [World.cell?, h]
theorem CellsAt.heap {w w' : World} {b o : Nat} {cs : List Value} (h : CellsAt w b o cs) (e : w'.heap[b]? = w.heap[b]?) : CellsAt w' b o cs :=
  fun k v hk => by rw [cell?_heap e]; exact h k v hk
theorem RepV.mono {w w' : World} {B B' : Nat → Prop} {g : Nat → Gh} {x : SV} {v : Value} (h : RepV w B g x v)
    (hB : ∀ b, B b → B' b) (hw : ∀ b, B b → w'.heap[b]? = w.heap[b]?) : ∀ g', (∀ j, g j ≠ .no → g' j = g j) → RepV w' B' g' x v := by
  induction h with
  | v h => exact fun _ _ => .v h
  | undef => exact fun _ _ => .undef
  | dead => exact fun _ _ => .dead
  | sl0 => exact fun _ _ => .sl0
  | sl h1 h2 h3 h4 h5 h6 ih => exact fun _ _ => .sl h1 (fun i x v a b => ih i x v a b G0 (fun j hj => absurd rfl hj)) h3 (h4.heap (hw _ h5)) (hB _ h5) h6
  | ag h1 h2 h3 ih => exact fun g' hg => .ag h1 (fun i x v a b => ih i x v a b g' hg) h3
  | tup h1 h2 ih => exact fun g' hg => .tup h1 (fun i x v a b => ih i x v a b g' hg)
  | osl0 h => exact fun g' hg => .osl0 (by rw [hg _ (by rw [h]; simp)]; exact h)
  | osl h => exact fun g' hg => .osl (by rw [hg _ (by rw [h]; simp)]; exact h)
  | osln h => exact fun g' hg => .osln (by rw [hg _ (by rw [h]; simp)]; exact h)
  | vw0 => exact fun _ _ => .vw0
  | vw h a b c => exact fun g' hg => .vw (by rw [hg _ (by rw [h]; simp)]; exact h) a b c
  | ptr h => exact fun g' hg => .ptr (by rw [hg _ (by rw [h]; simp)]; exact h)
  | ap h => exact fun g' hg => .ap (by rw [hg _ (by rw [h]; simp)]; exact h)
  | el h1 h2 h3 ih => exact fun _ _ => .el (ih G0 (fun j hj => absurd rfl hj)) (h2.heap (hw _ h3)) (hB _ h3)
  | fn h1 h2 ih => exact fun g' hg => .fn h1 (fun i x v a b => ih i x v a b g' hg)
theorem RepL.mono {w w' : World} {B B' : Nat → Prop} {g g' : Nat → Gh} {l : List SV} {vs : List Value} (h : RepL w B g l vs)
    (hB : ∀ b, B b → B' b) (hw : ∀ b, B b → w'.heap[b]? = w.heap[b]?) (hg : ∀ j, g j ≠ .no → g' j = g j) : RepL w' B' g' l vs :=
  ⟨h.1, fun i x v a b => (h.2 i x v a b).mono hB hw g' hg⟩
theorem RepV.grow {fr : Fr} {os os' : List SO} {g g' : Nat → Gh} {w w' : World} {x : SV} {v : Value} (h : RepV w (Bk fr os g w) g x v)
    (hg : Grow fr os g w os' g' w') : RepV w' (Bk fr os' g' w') g' x v := h.mono hg.sub hg.same g' hg.ext
theorem Slots.grow {fr : Fr} {os os' : List SO} {g g' : Nat → Gh} {w w' : World} {env : Env} {tmps : Array Value} (h : Slots w (Bk fr os g w) g env tmps)
    (hg : Grow fr os g w os' g' w') : Slots w' (Bk fr os' g' w') g' env tmps := fun t => (h t).grow hg
theorem Grow.refl (fr : Fr) (os : List SO) (g : Nat → Gh) (w : World) : Grow fr os g w os g w := ⟨fun _ h => h, fun _ _ => rfl, fun _ _ => rfl⟩
theorem Grow.trans {fr : Fr} {os os' os'' : List SO} {g g' g'' : Nat → Gh} {w w' w'' : World} (h : Grow fr os g w os' g' w') (h' : Grow fr os' g' w' os'' g'' w'') :
    Grow fr os g w os'' g'' w'' :=
  ⟨fun b hb => h'.sub b (h.sub b hb), fun b hb => (h'.same b (h.sub b hb)).trans (h.same b hb), fun j hj => by
    rw [h'.ext j (by rw [h.ext j hj]; exact hj), h.ext j hj]⟩
theorem ObjOK.mono {w w' : World} {B B' : Nat → Prop} {g g' : Nat → Gh} {j : Nat} {o : SO} (h : ObjOK w B g j o)
    (hB : ∀ b, B b → B' b) (hw : ∀ b, B b → w'.heap[b]? = w.heap[b]?) (hg : ∀ j, g j ≠ .no → g' j = g j)
    (hb : ∀ b, o.isLive = true → (g j).has b → w'.heap[b]? = w.heap[b]?) : ObjOK w' B' g' j o := by
  cases o with
  | dead => trivial
  | frz sz l =>
    rcases h with ⟨a, b⟩ | ⟨b, cap, vs, h1, h2, h3, h4, h5, h6⟩
    · exact .inl ⟨a, by rw [hg _ (by rw [b]; simp)]; exact b⟩
    · exact .inr ⟨b, cap, vs, by rw [hg _ (by rw [h1]; simp)]; exact h1, h2, hB _ h3, h4.mono hB hw (fun j hj => absurd rfl hj), h5, h6.heap (hw _ h3)⟩
  | arr lt sz l =>
    rcases h with ⟨a, b⟩ | ⟨b, cap, vs, h1, h2, h3, h4, h5, h6⟩
    · exact .inl ⟨a, by rw [hg _ (by rw [b]; simp)]; exact b⟩
    · have e := hb b rfl (by rw [h1]; rfl)
      refine .inr ⟨b, cap, vs, by rw [hg _ (by rw [h1]; simp)]; exact h1, h2, h3.mono hB hw (fun j hj => absurd rfl hj), h4, h5.heap e, ?_⟩
      obtain ⟨cs, t, fz, a, c, d⟩ := h6
      exact ⟨cs, t, fz, by rw [e]; exact a, c, d⟩
  | nst lt sz l =>
    rcases h with ⟨a, b⟩ | ⟨b, cap, vs, ins, h1, h2, h3, h4, h5, h6, h7⟩
    · exact .inl ⟨a, by rw [hg _ (by rw [b]; simp)]; exact b⟩
    · have e : ∀ c, b = c ∨ c ∈ ins → w'.heap[c]? = w.heap[c]? := fun c hc => hb c rfl (by rw [h1]; exact hc)
      have room : ∀ {c n s : Nat}, (b = c ∨ c ∈ ins) → Room w c n s → Room w' c n s := fun {c n s} hc hr => by
        obtain ⟨cs, t, fz, a, c', d⟩ := hr
        exact ⟨cs, t, fz, by rw [e _ hc]; exact a, c', d⟩
      refine .inr ⟨b, cap, vs, ins, by rw [hg _ (by rw [h1]; simp)]; exact h1, h2, h3.mono (fun _ h => h) (fun c hc => e c (.inr hc)) (fun j hj => absurd rfl hj), h4, h5.heap (e b (.inl rfl)), room (.inl rfl) h6, h7.out, ?_⟩
      obtain ⟨f, f1, f2⟩ := h7.at_
      refine ⟨f, fun i c x v sz m a1 a2 a3 a4 => ?_, f2⟩
      obtain ⟨p1, cap', p2, p3⟩ := f1 i c x v sz m a1 a2 a3 a4
      exact ⟨p1, cap', p2, room (.inr p1) p3⟩
  | box l =>
    obtain ⟨b, vs, h1, h2, h3, h4, h5⟩ := h
    have e := hb b rfl (by rw [h1]; rfl)
    refine ⟨b, vs, by rw [hg _ (by rw [h1]; simp)]; exact h1, h2.mono hB hw hg, h3, h4.heap e, ?_⟩
    obtain ⟨cs, t, fz, a, c, d⟩ := h5
    exact ⟨cs, t, fz, by rw [e]; exact a, c, d⟩
theorem scalar_cells {v : Value} (h : scalar v = true) : v.cells = #[v] := by
  cases v <;> first | rfl | simp [scalar] at h
theorem scalar_one {v : Value} (h : scalar v = true) : v.oneCell' = true := by
  cases v <;> first | rfl | simp [scalar] at h
theorem RepV.cells {w : World} {B : Nat → Prop} {g : Nat → Gh} {x : SV} {v : Value} (h : RepV w B g x v) (hx : x ≠ .dead) : RepL w B g x.cells v.cells.toList := by
  have one : ∀ {x : SV} {v : Value}, RepV w B g x v → x.cells = [x] → v.cells = #[v] → RepL w B g x.cells v.cells.toList := by
    intro x v h e1 e2
    rw [e1, e2]
    refine ⟨rfl, fun i y c hy hc => ?_⟩
    cases i with
    | zero => simp at hy hc; subst hy; subst hc; exact h
    | succ i => simp at hy
  cases h with
  | ag h1 h2 h3 => exact ⟨by simpa [SV.cells, Value.cells] using h1, by simpa [SV.cells, Value.cells] using h2⟩
  | dead => exact absurd rfl hx
  | v h => exact one (.v h) rfl (scalar_cells h)
  | undef => exact one .undef rfl rfl
  | sl0 => exact one .sl0 rfl rfl
  | sl h1 h2 h3 h4 h5 h6 => exact one (.sl h1 h2 h3 h4 h5 h6) rfl rfl
  | tup h1 h2 => exact one (.tup h1 h2) rfl rfl
  | osl0 h => exact one (.osl0 h) rfl rfl
  | osl h => exact one (.osl h) rfl rfl
  | osln h => exact one (.osln h) rfl rfl
  | vw0 => exact one .vw0 rfl rfl
  | vw h a b c => exact one (.vw h a b c) rfl rfl
  | ptr h => exact one (.ptr h) rfl rfl
  | ap h => exact one (.ap h) rfl rfl
  | el h1 h2 h3 => exact one (.el h1 h2 h3) rfl rfl
  | fn h1 h2 => exact one (.fn h1 h2) rfl rfl
theorem RepV.size {w : World} {B : Nat → Prop} {g : Nat → Gh} {x : SV} {v : Value} (h : RepV w B g x v) (hx : x ≠ .dead) : x.cells.length = v.cells.size := by
  have := (h.cells hx).1; simpa using this
theorem okCell_one {w : World} {B : Nat → Prop} {g : Nat → Gh} {x : SV} {v : Value} (h : RepV w B g x v) (hx : okCell x = true) : v.oneCell' = true := by
  cases h <;> simp [okCell] at hx <;> first | rfl | (apply scalar_one; assumption)
theorem RepL.nil {w : World} {B : Nat → Prop} {g : Nat → Gh} : RepL w B g [] [] := ⟨rfl, fun i x v h => by simp at h⟩
theorem RepL.cons {w : World} {B : Nat → Prop} {g : Nat → Gh} {x : SV} {v : Value} {l : List SV} {vs : List Value} (h : RepV w B g x v) (hl : RepL w B g l vs) :
    RepL w B g (x :: l) (v :: vs) :=
  ⟨by simp [hl.1], fun i y c hy hc => by
    cases i with
    | zero => simp at hy hc; subst hy; subst hc; exact h
    | succ i => exact hl.2 i y c (by simpa using hy) (by simpa using hc)⟩
theorem RepL.uncons {w : World} {B : Nat → Prop} {g : Nat → Gh} {x : SV} {l : List SV} {vs : List Value} (h : RepL w B g (x :: l) vs) :
    ∃ v vs', vs = v :: vs' ∧ RepV w B g x v ∧ RepL w B g l vs' := by
  cases vs with
  | nil => simp [RepL] at h
  | cons v vs => exact ⟨v, vs, rfl, h.2 0 x v rfl rfl, by simpa using h.1, fun i y c hy hc => h.2 (i + 1) y c (by simpa using hy) (by simpa using hc)⟩
theorem RepL.get {w : World} {B : Nat → Prop} {g : Nat → Gh} {l : List SV} {vs : List Value} (h : RepL w B g l vs) {i : Nat} {x : SV} (hx : l[i]? = some x) :
    ∃ v, vs[i]? = some v ∧ RepV w B g x v := by
  have hi : i < l.length := by
    rcases Nat.lt_or_ge i l.length with h' | h'
    · exact h'
    · simp [List.getElem?_eq_none h'] at hx
  have hv : i < vs.length := h.1 ▸ hi
  exact ⟨vs[i], by simp [hv], h.2 i x _ hx (by simp [hv])⟩
theorem RepL.append {w : World} {B : Nat → Prop} {g : Nat → Gh} {l l' : List SV} {vs vs' : List Value} (h : RepL w B g l vs) (h' : RepL w B g l' vs') :
    RepL w B g (l ++ l') (vs ++ vs') :=
  ⟨by simp [h.1, h'.1], fun i x v hx hv => by
    have e := h.1
    rcases Nat.lt_or_ge i l.length with hi | hi
    · rw [List.getElem?_append_left hi] at hx; rw [List.getElem?_append_left (e ▸ hi)] at hv; exact h.2 i x v hx hv
    · rw [List.getElem?_append_right hi] at hx; rw [List.getElem?_append_right (e ▸ hi)] at hv; rw [e] at hx; exact h'.2 _ x v hx hv⟩
theorem RepL.take {w : World} {B : Nat → Prop} {g : Nat → Gh} {l : List SV} {vs : List Value} (h : RepL w B g l vs) (n : Nat) : RepL w B g (l.take n) (vs.take n) :=
  ⟨by simp [h.1], fun i x v hx hv => by
    rw [List.getElem?_take] at hx hv
    split at hx
    · rename_i hi; rw [if_pos hi] at hv; exact h.2 i x v hx hv
    · simp at hx⟩
theorem RepL.drop {w : World} {B : Nat → Prop} {g : Nat → Gh} {l : List SV} {vs : List Value} (h : RepL w B g l vs) (n : Nat) : RepL w B g (l.drop n) (vs.drop n) :=
  ⟨by simp [h.1], fun i x v hx hv => by
    rw [List.getElem?_drop] at hx hv; exact h.2 _ x v hx hv⟩
theorem CellsAt.append {w : World} {b o : Nat} {xs ys : List Value} (h : CellsAt w b o xs) (h' : CellsAt w b (o + xs.length) ys) : CellsAt w b o (xs ++ ys) := by
  intro k v hk
  rcases Nat.lt_or_ge k xs.length with hi | hi
  · exact h k v (by rwa [List.getElem?_append_left hi] at hk)
  · rw [List.getElem?_append_right hi] at hk
    have := h' _ v hk
    rwa [show o + xs.length + (k - xs.length) = o + k by omega] at this
theorem CellsAt.take {w : World} {b o : Nat} {xs : List Value} (h : CellsAt w b o xs) (n : Nat) : CellsAt w b o (xs.take n) := by
  intro k v hk
  rw [List.getElem?_take] at hk
  split at hk
  · exact h k v hk
  · simp at hk
theorem CellsAt.drop {w : World} {b o : Nat} {xs : List Value} (h : CellsAt w b o xs) (n : Nat) : CellsAt w b (o + n) (xs.drop n) := by
  intro k v hk
  rw [List.getElem?_drop] at hk
  have := h _ v hk
  rwa [show o + (n + k) = o + n + k by omega] at this
theorem flatV_drop {vs : List Value} {sz : Nat} (h : ∀ v, v ∈ vs → ElOK sz v) : ∀ i, (flatV vs).drop (i * sz) = flatV (vs.drop i) := by
  intro i
  induction i generalizing vs with
  | zero => simp
  | succ i ih =>
    cases vs with
    | nil => simp [flatV]
    | cons v vs =>
      have hv := (h v (by simp)).1
      have e : (flatV (v :: vs)).drop sz = flatV vs := by
        simp only [flatV, List.flatMap_cons]
        rw [List.drop_append_of_le_length (by simp [hv])]
        simp [List.drop_eq_nil_of_le, hv]
      rw [show (i + 1) * sz = sz + i * sz by rw [Nat.succ_mul]; omega, ← List.drop_drop, e]
      simpa using ih (vs := vs) (fun x hx => h x (by simp [hx]))
theorem flatV_length {vs : List Value} {sz : Nat} (h : ∀ v, v ∈ vs → ElOK sz v) : (flatV vs).length = vs.length * sz := by
  induction vs with
  | nil => simp [flatV]
  | cons v vs ih =>
    have := ih (fun x hx => h x (by simp [hx]))
    have hv := (h v (by simp)).1
    simp only [flatV, List.flatMap_cons, List.length_append, List.length_cons] at this ⊢
    rw [this]; simp [hv, Nat.succ_mul]; omega
theorem flatV_take {vs : List Value} {sz : Nat} (h : ∀ v, v ∈ vs → ElOK sz v) : ∀ i, (flatV vs).take (i * sz) = flatV (vs.take i) := by
  intro i
  induction i generalizing vs with
  | zero => simp [flatV]
  | succ i ih =>
    cases vs with
    | nil => simp [flatV]
    | cons v vs =>
      have hv := (h v (by simp)).1
      have := ih (vs := vs) (fun x hx => h x (by simp [hx]))
      simp only [flatV, List.flatMap_cons, List.take_succ_cons] at this ⊢
      rw [show (i + 1) * sz = v.cells.toList.length + i * sz by rw [Nat.succ_mul]; simp [hv]; omega, List.take_length_add_append, this]
theorem flatV_append (vs us : List Value) : flatV (vs ++ us) = flatV vs ++ flatV us := by simp [flatV]
theorem flatV_elem {vs : List Value} {sz i : Nat} {v : Value} (h : ∀ v, v ∈ vs → ElOK sz v) (hv : vs[i]? = some v) {w : World} {b o : Nat}
    (hc : CellsAt w b o (flatV vs)) : CellsAt w b (o + i * sz) v.cells.toList := by
  have h1 := hc.drop (i * sz)
  rw [flatV_drop h] at h1
  have hi : i < vs.length := by
    rcases Nat.lt_or_ge i vs.length with h' | h'
    · exact h'
    · simp [List.getElem?_eq_none h'] at hv
  have e : vs.drop i = v :: vs.drop (i + 1) := by
    rw [List.drop_eq_getElem_cons hi]
    congr 1
    simpa [hi] using hv
  rw [e] at h1
  have h2 := h1.take v.cells.size
  simp only [flatV, List.flatMap_cons] at h2
  rwa [show v.cells.size = v.cells.toList.length by simp, List.take_left'] at h2
  rfl
end Go.Proofs.Ytikennabfbkdhaa

/- The evaluator S: what is asked of the table of types; how memory may change; operations that only read. -/
namespace Go.Proofs.Ytikennabfbkdhaa
open Go
set_option linter.unusedVariables false
set_option linter.unusedSimpArgs false
def aggDesc : TypeDesc → Bool
  | .struct _ | .array _ _ => true
  | _ => false
def intsEq : List Value → List Value → Option Bool
  | [], [] => some true
  | .int k a :: xs, .int k' b :: ys => if k = k' then match intsEq xs ys with | some r => some (a == b && r) | none => none else none
  | _, _ => none
structure TiOk (P : Program) (t : Nat) (i : TI) : Prop where
  ok : ∃ info z d, P.info? t = some info ∧ info.size = i.size ∧ info.bytes = i.bytes ∧ info.zero = some z ∧ z.cells.toList = i.zero.map ZK.val ∧
    P.underlying t = some d ∧ aggDesc d = i.agg ∧ ((i.agg = true → ∃ cs, z = .agg cs) ∧ (i.agg = false → z.oneCell' = true)) ∧ i.zero.length = i.size
structure TabOk (P : Program) (T : Tab) : Prop where
  ti : ∀ t i, T.ti t = some i → TiOk P t i
  str : ∀ t, T.und t = some .str → P.underlying t = some .string
  bool : ∀ t, T.und t = some .bool → P.underlying t = some .bool
  int : ∀ t k, T.und t = some (.int k) → P.underlying t = some (.int k)
  slice : ∀ t e, T.und t = some (.slice e) → P.underlying t = some (.slice e)
  array : ∀ t n e, T.und t = some (.array n e) → P.underlying t = some (.array n e)
  struct : ∀ t u fs, T.und t = some u → u.fields = some fs → ∃ fields : Array Field, P.underlying t = some (.struct fields) ∧ fields.toList.map (fun f => (f.offset, f.type)) = fs ∧ ∀ f, f ∈ fields.toList → (P.info? f.type).isSome = true
  eqs : ∀ t fs i, T.und t = some (.eqs fs) → T.ti t = some i → P.eqGuardType P.depth t = false ∧
    ∀ (xs ys : List Value) (r : Bool) (w : World), intsEq xs ys = some r → xs.length = i.size → (Op.equal t (.agg xs.toArray) (.agg ys.toArray)).run P w = .ok r w
variable {P : Program} {T : Tab}
theorem run_info {t : TypeId} {i : TypeInfo} (h : P.info? t = some i) (w : World) : (typeInfo t).run P w = .ok i w := by simp [typeInfo, h]
theorem run_size {t : TypeId} {i : TypeInfo} (h : P.info? t = some i) (w : World) : (sizeOf t).run P w = .ok i.size w := by simp [sizeOf, run_info h]
theorem run_zero {t : TypeId} {i : TypeInfo} {z : Value} (h : P.info? t = some i) (hz : i.zero = some z) (w : World) : (zeroValue t).run P w = .ok z w := by simp [zeroValue, run_info h, hz]
theorem run_agg {t : TypeId} {d : TypeDesc} (h : P.underlying t = some d) (w : World) : (isAgg t).run P w = .ok (aggDesc d) w := by
  unfold isAgg aggDesc
  simp only [Sem.run_bind, run_underlying h, Result.andThen_ok]
  cases d <;> rfl
theorem run_loadAt {t : Nat} {i : TI} (hi : TiOk P t i) {w : World} {b o : Nat} {cs : List Value} (hc : CellsAt w b o cs) (hl : i.size ≤ cs.length) :
    (i.agg = true → (Instr.loadAt t (.pointer (some ⟨b, o, none⟩))).run P w = .ok (.agg (cs.take i.size).toArray) w) ∧
    (∀ v, i.agg = false → cs[0]? = some v → (Instr.loadAt t (.pointer (some ⟨b, o, none⟩))).run P w = .ok v w) := by
  obtain ⟨info, z, d, h1, h2, h3, h4, h5, h6, h7, h8, h9⟩ := hi.ok
  refine ⟨fun ha => ?_, fun v ha hv => ?_⟩
  · have hl' : (cs.take i.size).length = i.size := by simp [hl]
    have hr := run_loadCells_list (P := P) w ⟨b, o, none⟩ (cs.take i.size) (fun j v hj => by rw [Addr.add_lit]; exact hc.take _ j v hj)
    rw [hl'] at hr
    simp only [Instr.loadAt, Instr.sureAddr, loadVar, Sem.run_bind, Sem.run_pure, Result.andThen_ok, run_agg h6, h7, ha, if_true, run_size h1, h2, hr]
  · have := hc 0 v hv
    simp only [Nat.add_zero] at this
    simp only [Instr.loadAt, Instr.sureAddr, loadVar, Sem.run_bind, Sem.run_pure, Result.andThen_ok, run_agg h6, h7, ha, Bool.false_eq_true, if_false, run_load, this]
theorem pack_rep {w : World} {B : Nat → Prop} {g : Nat → Gh} {agg : Bool} {l : List SV} {x : SV} {vs : List Value} (h : pack agg l = some x) (hl : RepL w B g l vs) :
    (agg = true → RepV w B g x (.agg vs.toArray)) ∧ (agg = false → ∃ v, vs[0]? = some v ∧ RepV w B g x v) := by
  unfold pack at h
  split at h
  · rename_i ha
    split at h
    · rename_i hok
      obtain rfl := Option.some.inj h
      refine ⟨fun _ => .ag hl.1 hl.2 (fun v hv => ?_), fun e => by simp [ha] at e⟩
      obtain ⟨i, hi, rfl⟩ := List.mem_iff_getElem.1 hv
      have hi' : i < l.length := by rw [hl.1]; exact hi
      exact okCell_one (hl.2 i l[i] vs[i] (by simp [hi']) (by simp [hi])) (List.all_eq_true.1 hok _ (List.getElem_mem hi'))
    · simp at h
  · rename_i ha
    split at h
    · obtain rfl := Option.some.inj h
      obtain ⟨v, vs', rfl, hv, _⟩ := hl.uncons
      exact ⟨fun e => absurd e ha, fun _ => ⟨v, rfl, hv⟩⟩
    · simp at h
theorem dcells_eq {x : SV} {l : List SV} (h : dcells x = some l) : x ≠ .dead ∧ l = x.cells := by
  cases x <;> simp [dcells] at h <;> (subst h; exact ⟨by simp, rfl⟩)
theorem place_rep {fr : Fr} {os : List SO} {g : Nat → Gh} {w : World} (hm : Mem fr os g w) {p : SV} {pv : Value} {l : List SV}
    (hp : RepV w (Bk fr os g w) g p pv) (h : placeCells os p = some l) :
    ∃ b o vs, pv = .pointer (some ⟨b, o, none⟩) ∧ RepL w (Bk fr os g w) g l vs ∧ CellsAt w b o vs := by
  cases p <;> simp only [placeCells] at h <;> try (simp at h; done)
  · rename_i j off
    split at h
    · rename_i l' hj
      obtain rfl := Option.some.inj h
      obtain ⟨b, vs, h1, h2, h3, h4, h5⟩ := hm.objs _ _ hj
      cases hp with
      | ptr hp =>
        rw [h1] at hp
        cases hp
        exact ⟨_, off, vs.drop off, rfl, h2.drop _, by simpa using h4.drop off⟩
    · simp at h
  · rename_i j i off
    split at h
    · rename_i lt sz l' hj
      split at h
      · rename_i x hx
        obtain ⟨xc, hxc, rfl⟩ := Option.map_eq_some_iff.1 h
        obtain ⟨hd, rfl⟩ := dcells_eq hxc
        cases hp with
        | ap hp =>
          rcases hm.objs _ _ hj with ⟨rfl, _⟩ | ⟨b, cap, vs, h1, h2, h3, h4, h5, h6⟩
          · simp at hx
          · rw [h1] at hp
            cases hp
            obtain ⟨u, hu, hr⟩ := h3.get hx
            have hc := flatV_elem h4 hu h5
            have hr' : RepV w (Bk fr os g w) g x u := hr.mono (fun _ h => h) (fun _ _ => rfl) g (fun j hj => absurd rfl hj)
            exact ⟨_, _, u.cells.toList.drop off, rfl, (hr'.cells hd).drop _, by simpa using hc.drop off⟩
      · simp at h
    · simp at h
  · rename_i x off
    obtain ⟨xc, hxc, rfl⟩ := Option.map_eq_some_iff.1 h
    obtain ⟨hd, rfl⟩ := dcells_eq hxc
    cases hp with
    | el h1 h2 h3 =>
      rename_i u b o
      have hr' : RepV w (Bk fr os g w) g x u := h1.mono (fun _ h => h) (fun _ _ => rfl) g (fun j hj => absurd rfl hj)
      exact ⟨b, _, u.cells.toList.drop off, rfl, (hr'.cells hd).drop _, h2.drop off⟩
theorem load_rep (hT : TabOk P T) {fr : Fr} {os : List SO} {g : Nat → Gh} {w : World} (hm : Mem fr os g w) {t : Nat} {p x : SV} {pv : Value}
    (hp : RepV w (Bk fr os g w) g p pv) (h : loadS T os t p = some x) : ∃ v, (Instr.loadAt t pv).run P w = .ok v w ∧ RepV w (Bk fr os g w) g x v := by
  unfold loadS at h
  split at h
  · rename_i i hi
    split at h
    · rename_i l hl
      split at h
      · rename_i hle
        obtain ⟨b, o, vs, rfl, hr, hc⟩ := place_rep hm hp hl
        have hle' : i.size ≤ vs.length := hr.1 ▸ hle
        obtain ⟨r1, r2⟩ := run_loadAt (P := P) (hT.ti t i hi) hc hle'
        obtain ⟨p1, p2⟩ := pack_rep h (hr.take i.size)
        cases ha : i.agg with
        | true => exact ⟨_, r1 ha, p1 ha⟩
        | false =>
          obtain ⟨v, hv, hv'⟩ := p2 ha
          refine ⟨v, r2 v ha ?_, hv'⟩
          rw [List.getElem?_take] at hv
          split at hv
          · exact hv
          · simp at hv
      · simp at h
    · simp at h
  · simp at h
end Go.Proofs.Ytikennabfbkdhaa
