/- The evaluator S and what it says of functions: Sg, Sh, Si, Sj, Sk, Sl. -/
import Derived.Test.YtfjbclgbpdlkgaaSf
import Derived.Laws.Tables
import Derived.Laws.IdiomCopy
import Derived.Laws.AppendOwn
import Derived.Laws.BytesString
/- The evaluator S: how memory and the objects may change. -/
namespace Go.Proofs.Ytfjbclgbpdlkgaa
open Go
set_option linter.unusedVariables false
set_option linter.unusedSimpArgs false
def upd (g : Nat → Gh) (j : Nat) (x : Gh) : Nat → Gh := fun i => if i = j then x else g i
structure Chg (fr : Fr) (os : List SO) (g : Nat → Gh) (w : World) (os' : List SO) (g' : Nat → Gh) (w' : World) (W : Nat → Prop) : Prop where
  size : w.heap.size ≤ w'.heap.size
  same : ∀ b, b < w.heap.size → ¬ W b → w'.heap[b]? = w.heap[b]?
  only : ∀ b, W b → live os g b
  ext : ∀ j, g j ≠ .no → g' j = g j
  live : ∀ b, live os' g' b → (live os g b ∨ w.heap.size ≤ b) ∧ b < w'.heap.size
  out : z6 w w'
theorem Chg.grow {fr : Fr} {os os' : List SO} {g g' : Nat → Gh} {w w' : World} {W : Nat → Prop} (h : Chg fr os g w os' g' w' W) : Grow fr os g w os' g' w' where
  sub b hb := ⟨Nat.lt_of_lt_of_le hb.1 h.size, hb.2.1, fun hl => by
    rcases (h.live b hl).1 with hl' | hl'
    · exact hb.2.2 hl'
    · have := hb.1; omega⟩
  same b hb := h.same b hb.1 fun hw => hb.2.2 (h.only b hw)
  ext := h.ext
theorem Chg.mem {fr : Fr} {os os' : List SO} {g g' : Nat → Gh} {w w' : World} {W : Nat → Prop} (h : Chg fr os g w os' g' w' W) (hm : Mem fr os g w)
    (objs : ∀ j o, os'[j]? = some o → (os[j]? = some o ∧ ∀ b, o.isLive = true → (g j).block? = some b → ¬ W b) ∨ y7 w' (Bk fr os' g' w') g' j o)
    (fresh : ∀ j, os'.length ≤ j → g' j = .no)
    (inj : ∀ i j oi oj b, os'[i]? = some oi → os'[j]? = some oj → oi.isLive = true → oj.isLive = true → (g' i).block? = some b → (g' j).block? = some b → i = j)
    (mine : ∀ j sz l b, os'[j]? = some (.arr false sz l) → (g' j).block? = some b → fr.N ≤ b) : Mem fr os' g' w' where
  objs j o hj := by
    rcases objs j o hj with ⟨h1, h2⟩ | h1
    · have hg := h.grow
      refine (hm.objs j o h1).mono hg.sub hg.same hg.ext fun b hl hb => ?_
      exact h.same b (hm.own b ⟨j, o, h1, hl, hb⟩).1 (h2 b hl hb)
    · exact h1
  fresh := fresh
  inj := inj
  own b hb := ⟨(h.live b hb).2, fun hN => by
    rcases (h.live b hb).1 with hl | hl
    · exact (hm.own b hl).2 hN
    · have := hm.size; omega⟩
  mine := mine
  frame b hN hL := by
    have hb : b < w.heap.size := Nat.lt_of_lt_of_le hN hm.size
    rw [h.same b hb fun hw => hL ((hm.own b (h.only b hw)).2 hN)]
    exact hm.frame b hN hL
  size := Nat.le_trans hm.size h.size
  out := hm.out.trans h.out
theorem ky {α : Type} (l : List α) (x y : α) (j : Nat) (h : (l ++ [x])[j]? = some y) : (j < l.length ∧ l[j]? = some y) ∨ (j = l.length ∧ y = x) := by
  rcases Nat.lt_trichotomy j l.length with h' | h' | h'
  · exact .inl ⟨h', by rwa [List.getElem?_append_left h'] at h⟩
  · subst h'; simp at h; exact .inr ⟨rfl, h.symm⟩
  · rw [List.getElem?_append_right (by omega)] at h
    have : j - l.length ≠ 0 := by omega
    cases hk : j - l.length with
    | zero => omega
    | succ k => simp [hk] at h
theorem q6 {α : Type} {l : List α} {i : Nat} {x : α} (h : l[i]? = some x) : i < l.length := by
  rcases Nat.lt_or_ge i l.length with h' | h'
  · exact h'
  · simp [List.getElem?_eq_none h'] at h
def Res (fr : Fr) (os : List SO) (g : Nat → Gh) (w : World) (os' : List SO) (x : SV) (v : Value) (w' : World) : Prop :=
  ∃ g', Mem fr os' g' w' ∧ Grow fr os g w os' g' w' ∧ RepV w' (Bk fr os' g' w') g' x v
theorem Res.same {fr : Fr} {os : List SO} {g : Nat → Gh} {w : World} {x : SV} {v : Value} (hm : Mem fr os g w) (h : RepV w (Bk fr os g w) g x v) : Res fr os g w os x v w :=
  ⟨g, hm, Grow.refl _ _ _ _, h⟩
theorem jj {fr : Fr} {os : List SO} {g : Nat → Gh} {w w' : World} (hm : Mem fr os g w) (so : z6 w w') (o : SO) (x : Gh) (hs : w.heap.size ≤ w'.heap.size)
    (hw : ∀ b, b < w.heap.size → w'.heap[b]? = w.heap[b]?) (hx : ∀ b, x.block? = some b → w.heap.size ≤ b ∧ b < w'.heap.size) :
    Chg fr os g w (os ++ [o]) (upd g os.length x) w' (fun _ => False) where
  out := so
  size := hs
  same b hb _ := hw b hb
  only b hb := hb.elim
  ext j hj := by
    unfold upd
    split
    · rename_i e; subst e; exact absurd (hm.fresh _ (Nat.le_refl _)) hj
    · rfl
  live b hb := by
    obtain ⟨j, o', hj, hl, hb⟩ := hb
    rcases ky _ _ _ _ hj with ⟨h1, h2⟩ | ⟨rfl, rfl⟩
    · have hg : upd g os.length x j = g j := by unfold upd; rw [if_neg (by omega)]
      rw [hg] at hb
      have : live os g b := ⟨j, o', h2, hl, hb⟩
      exact ⟨.inl this, Nat.lt_of_lt_of_le (hm.own b this).1 hs⟩
    · have hg : upd g os.length x os.length = x := by unfold upd; rw [if_pos rfl]
      rw [hg] at hb
      exact ⟨.inr (hx b hb).1, (hx b hb).2⟩
theorem QI {fr : Fr} {os : List SO} {g : Nat → Gh} {w w' : World} (hm : Mem fr os g w) (so : z6 w w') (o : SO) (x : Gh) (hs : w.heap.size ≤ w'.heap.size)
    (hw : ∀ b, b < w.heap.size → w'.heap[b]? = w.heap[b]?) (hx : ∀ b, x.block? = some b → w.heap.size ≤ b ∧ b < w'.heap.size)
    (ho : y7 w' (Bk fr (os ++ [o]) (upd g os.length x) w') (upd g os.length x) os.length o) : Mem fr (os ++ [o]) (upd g os.length x) w' := by
  have hold : ∀ j, j < os.length → upd g os.length x j = g j := fun j hj => by unfold upd; rw [if_neg (by omega)]
  have hnew : upd g os.length x os.length = x := by unfold upd; rw [if_pos rfl]
  have hlt : ∀ {i : Nat} {oi : SO} {b : Nat}, os[i]? = some oi → oi.isLive = true → (g i).block? = some b → b < w.heap.size := fun h1 h2 h3 => (hm.own _ ⟨_, _, h1, h2, h3⟩).1
  refine (jj hm so o x hs hw hx).mem hm ?_ ?_ ?_ ?_
  · intro j o' hj
    rcases ky _ _ _ _ hj with ⟨h1, h2⟩ | ⟨rfl, rfl⟩
    · exact .inl ⟨h2, fun _ _ _ h => h⟩
    · exact .inr ho
  · intro j hj
    simp at hj
    unfold upd
    rw [if_neg (by omega)]
    exact hm.fresh j (by omega)
  · intro i j oi oj b hi hj li lj bi bj
    rcases ky _ _ _ _ hi with ⟨i1, i2⟩ | ⟨rfl, rfl⟩ <;> rcases ky _ _ _ _ hj with ⟨j1, j2⟩ | ⟨rfl, rfl⟩
    · rw [hold i i1] at bi; rw [hold j j1] at bj; exact hm.inj i j oi oj b i2 j2 li lj bi bj
    · rw [hold i i1] at bi; rw [hnew] at bj; have := hlt i2 li bi; have := (hx b bj).1; omega
    · rw [hnew] at bi; rw [hold j j1] at bj; have := hlt j2 lj bj; have := (hx b bi).1; omega
    · rfl
  · intro j sz l b hj hb
    rcases ky _ _ _ _ hj with ⟨j1, j2⟩ | ⟨rfl, _⟩
    · rw [hold j j1] at hb; exact hm.mine j sz l b j2 hb
    · rw [hnew] at hb; exact Nat.le_trans hm.size (hx b hb).1
theorem jk (w : World) (o : Obj) : z6 w (w.alloc o) := ⟨rfl, rfl, rfl⟩
theorem Jw (w : World) (o : Obj) : z6 w (w.drew.alloc o) := ⟨rfl, rfl, rfl⟩
theorem kQ (w : World) (o : Obj) (b : Nat) (h : b < w.heap.size) : (w.alloc o).heap[b]? = w.heap[b]? := by
  show (w.heap.push o)[b]? = w.heap[b]?
  rw [Array.getElem?_push, if_neg (Nat.ne_of_lt h)]
theorem yt (w : World) (o : Obj) : (w.alloc o).heap[w.heap.size]? = some o := by
  show (w.heap.push o)[w.heap.size]? = some o
  rw [Array.getElem?_push, if_pos rfl]
theorem w2 (w : World) (cs : Array Value) (t : Nat) : zM (w.alloc (.cells cs t)) w.heap.size 0 cs.toList := by
  intro k v hk
  rw [World.cell?_alloc_new, Nat.zero_add]
  simpa using hk
theorem yu (w : World) (cs : Array Value) (t n : Nat) (h : n ≤ cs.size) : qaB (w.alloc (.cells cs t)) w.heap.size n :=
  ⟨cs, t, (0, 0), yt w _, h, fun o ho hc => by omega⟩
theorem KU {fr : Fr} {os : List SO} {g : Nat → Gh} {w : World} (hm : Mem fr os g w) (sz : Nat) :
    Mem fr (os ++ [.arr false sz []]) (upd g os.length .nil) w ∧ Grow fr os g w (os ++ [.arr false sz []]) (upd g os.length .nil) w ∧
    (upd g os.length .nil) os.length = .nil := by
  have hx : ∀ b, Gh.nil.block? = some b → w.heap.size ≤ b ∧ b < w.heap.size := fun b h => by simp [Gh.block?] at h
  have hn : (upd g os.length .nil) os.length = .nil := by unfold upd; rw [if_pos rfl]
  refine ⟨QI hm ⟨rfl, rfl, rfl⟩ _ _ (Nat.le_refl _) (fun _ _ => rfl) hx ?_, (jj hm ⟨rfl, rfl, rfl⟩ _ _ (Nat.le_refl _) (fun _ _ => rfl) hx).grow, hn⟩
  exact .inl ⟨rfl, hn⟩
theorem Jx {fr : Fr} {os : List SO} {g : Nat → Gh} {w : World} (hm : Mem fr os g w) {l : List SV} {vs : List Value} (hl : zU w (Bk fr os g w) g l vs) (h1 : ∀ v : Value, v ∈ vs → v.oneCell' = true) (t : Nat) :
    Res fr os g w (os ++ [.box l]) (.ptr os.length 0) (.pointer (some ⟨w.heap.size, 0, none⟩)) (w.alloc (.cells vs.toArray t)) := by
  have hx : ∀ b, (Gh.bx w.heap.size).block? = some b → w.heap.size ≤ b ∧ b < (w.alloc (.cells vs.toArray t)).heap.size := fun b h => by simp [Gh.block?] at h; simp [h]
  have hn : (upd g os.length (.bx w.heap.size)) os.length = .bx w.heap.size := by unfold upd; rw [if_pos rfl]
  have hs : w.heap.size ≤ (w.alloc (.cells vs.toArray t)).heap.size := by simp
  have hg := (jj hm (jk w _) (.box l) _ hs (kQ w (.cells vs.toArray t)) hx).grow
  refine ⟨_, QI hm (jk w _) _ _ hs (kQ w _) hx ?_, hg, .ptr hn⟩
  refine ⟨w.heap.size, vs, hn, hl.mono hg.sub hg.same hg.ext, h1, by simpa using w2 w vs.toArray t, yu w _ t _ (by simp)⟩
theorem Jy {fr : Fr} {os : List SO} {g : Nat → Gh} {w : World} (hm : Mem fr os g w) {l : List SV} {vs junk : List Value} {sz cap : Nat} (hl : zU w (Bk fr os g w) G0 l vs)
    (h1 : ∀ v : Value, v ∈ vs → jT sz v) (hc : l.length ≤ cap) (hj : (zd vs ++ junk).length = cap * sz) (t : Nat) :
    Res fr os g w (os ++ [.arr false sz l]) (.osl os.length) (.slice (some ⟨w.heap.size, 0, none⟩) l.length cap) (w.alloc (.cells (zd vs ++ junk).toArray t)) := by
  have hx : ∀ b, (Gh.blk w.heap.size sz l.length cap).block? = some b → w.heap.size ≤ b ∧ b < (w.alloc (.cells (zd vs ++ junk).toArray t)).heap.size := fun b h => by simp [Gh.block?] at h; simp [h]
  have hn : (upd g os.length (.blk w.heap.size sz l.length cap)) os.length = .blk w.heap.size sz l.length cap := by unfold upd; rw [if_pos rfl]
  have hs : w.heap.size ≤ (w.alloc (.cells (zd vs ++ junk).toArray t)).heap.size := by simp
  have hg := (jj hm (jk w _) (.arr false sz l) _ hs (kQ w (.cells (zd vs ++ junk).toArray t)) hx).grow
  refine ⟨_, QI hm (jk w _) _ _ hs (kQ w _) hx ?_, hg, .osl hn⟩
  refine .inr ⟨w.heap.size, cap, vs, hn, hc, hl.mono hg.sub hg.same (fun j hj => absurd rfl hj), h1, ?_, yu w _ t _ (by simp [← hj])⟩
  have := (w2 w (zd vs ++ junk).toArray t).take (zd vs).length
  simpa using this
end Go.Proofs.Ytfjbclgbpdlkgaa

/- The evaluator S: new variables, structs that are built, stores. -/
namespace Go.Proofs.Ytfjbclgbpdlkgaa
open Go
set_option linter.unusedVariables false
set_option linter.unusedSimpArgs false
variable {P : Program} {T : Tab}
theorem qfW {env : Env} {a : Act} {x : Operand} (h : evP env x = none) : a.eval x = .slice none 0 0 := by
  unfold evP at h
  split at h
  · rfl
  · simp at h
theorem qfX {env : Env} {x : Operand} {y : SV} (h : evP env x = some y) : ev env x = y := by
  unfold evP at h
  split at h
  · simp at h
  · exact Option.some.inj h
theorem Q4 {fr : Fr} {os os1 : List SO} {g : Nat → Gh} {w : World} (hm : Mem fr os g w) {env : Env} {a : Act} (hs : ws w (Bk fr os g w) g env a.tmps) {ty : Nat} {x : Operand} {y : SV}
    (h : evN T ty os (evP env x) = some (y, os1)) : Res fr os g w os1 y (a.eval x) w := by
  unfold evN at h
  split at h
  · rename_i hx
    split at h
    · rename_i e hu
      split at h
      · rename_i i hi
        obtain ⟨rfl, rfl⟩ := Prod.mk.inj (Option.some.inj h)
        obtain ⟨h1, h2, h3⟩ := KU hm i.size
        rw [qfW hx]
        exact ⟨_, h1, h2, .osl0 h3⟩
      · simp at h
    · simp at h
  · rename_i z hx
    obtain ⟨rfl, rfl⟩ := Prod.mk.inj (Option.some.inj h)
    rw [← qfX hx]
    exact Res.same hm (kf hs x)
theorem WM {z : ZK} (h : ∀ sz, z ≠ .sl sz) : Qm z.val = true := by
  cases z <;> first | rfl | (exact absurd rfl (h _))
theorem WN {fr : Fr} {w : World} : ∀ (zs : List ZK) {os : List SO} {g : Nat → Gh}, Mem fr os g w →
    ∃ g', Mem fr (xF zs os).2 g' w ∧ Grow fr os g w (xF zs os).2 g' w ∧ zU w (Bk fr (xF zs os).2 g' w) g' (xF zs os).1 (zs.map ZK.val) := by
  intro zs
  induction zs with
  | nil => intro os g hm; exact ⟨g, hm, Grow.refl _ _ _ _, zU.nil⟩
  | cons z zs ih =>
    intro os g hm
    by_cases hz : ∃ sz, z = .sl sz
    · obtain ⟨sz, rfl⟩ := hz
      obtain ⟨h1, h2, h3⟩ := KU hm sz
      obtain ⟨g', m, gr, r⟩ := ih h1
      refine ⟨g', m, h2.trans gr, ?_⟩
      simp only [xF, List.map_cons]
      refine zU.cons (.osl0 ?_) r
      rw [gr.ext _ (by rw [h3]; simp)]; exact h3
    · have hz' : ∀ sz, z ≠ .sl sz := fun sz e => hz ⟨sz, e⟩
      obtain ⟨g', m, gr, r⟩ := ih hm
      have e : xF (z :: zs) os = (.v z.val :: (xF zs os).1, (xF zs os).2) := by
        cases z <;> first | rfl | exact absurd rfl (hz' _)
      rw [e]
      exact ⟨g', m, gr, zU.cons (.v (WM hz')) r⟩
theorem qcC (z : ZK) : z.val.oneCell' = true := by cases z <;> rfl
theorem qcD (hT : TabOk P T) {fr : Fr} {os os1 : List SO} {g : Nat → Gh} {w : World} (hm : Mem fr os g w) {t : Nat} {y : SV}
    (h : qD T os t = some (y, os1)) : ∃ v w', (Instr.alloc t true (.tuple #[])).run P w = .ok v w' ∧ Res fr os g w os1 y v w' := by
  unfold qD at h
  split at h
  · rename_i i hi
    obtain ⟨info, z, d, i1, i2, i3, i4, i5, i6, i7, i8, i9⟩ := (hT.ti t i hi).ok
    obtain ⟨g', m, gr, r⟩ := WN (fr := fr) (w := w) i.zero hm
    obtain ⟨rfl, rfl⟩ := Prod.mk.inj (Option.some.inj h)
    obtain ⟨g2, m2, gr2, r2⟩ := Jx m r (fun v hv => by obtain ⟨z, _, rfl⟩ := List.mem_map.1 hv; exact qcC z) t
    refine ⟨_, _, ?_, g2, m2, gr.trans gr2, r2⟩
    rw [← i5]
    simp [Instr.alloc, QH i1 i4, newVar, newRow]
  · simp at h
theorem qiO (hT : TabOk P T) {fr : Fr} {os os1 : List SO} {g : Nat → Gh} {w : World} (hm : Mem fr os g w) {env : Env} {a : Act} (hs : ws w (Bk fr os g w) g env a.tmps) {t : Nat} {x : Operand} {y : SV}
    (h : wt T os t (evP env x) = some (y, os1)) : ∃ v w', (Instr.box t (a.eval x)).run P w = .ok v w' ∧ Res fr os g w os1 y v w' := by
  unfold wt at h
  split at h
  · rename_i i z osz hi hn
    split at h
    · rename_i hc
      obtain ⟨rfl, rfl⟩ := Prod.mk.inj (Option.some.inj h)
      obtain ⟨g1, m1, gr1, r1⟩ := Q4 hm hs hn
      have hd : z ≠ .dead := by
        intro e; subst e; have := hc.2; simp [SV.cells, xI] at this
      have hl := r1.cells hd
      obtain ⟨g2, m2, gr2, r2⟩ := Jx m1 hl (fun v hv => by
        obtain ⟨k, hk, rfl⟩ := List.mem_iff_getElem.1 hv
        have hk' : k < z.cells.length := by rw [hl.1]; exact hk
        exact wU (hl.2 k z.cells[k] _ (by simp [hk']) (by simp [hk])) (List.all_eq_true.1 hc.2 _ (List.getElem_mem hk'))) t
      refine ⟨_, _, ?_, g2, m2, gr1.trans gr2, r2⟩
      simp [Instr.box, newVar, newRow]
    · simp at h
  · simp at h
def yP (w : World) (B : Nat → Prop) (g : Nat → Gh) : List (Nat × SV) → List (Nat × Value) → Prop
  | [], [] => True
  | p :: ps, q :: qs => p.1 = q.1 ∧ RepV w B g p.2 q.2 ∧ yP w B g ps qs
  | _, _ => False
theorem yP.grow {fr : Fr} {os os' : List SO} {g g' : Nat → Gh} {w w' : World} (hg : Grow fr os g w os' g' w') : ∀ {ps : List (Nat × SV)} {qs : List (Nat × Value)},
    yP w (Bk fr os g w) g ps qs → yP w' (Bk fr os' g' w') g' ps qs
  | [], [], _ => trivial
  | p :: ps, q :: qs, h => ⟨h.1, h.2.1.grow hg, yP.grow hg h.2.2⟩
  | [], _ :: _, h => h.elim
  | _ :: _, [], h => h.elim
theorem qaE {fr : Fr} {w : World} {fs : List (Nat × Nat)} {env : Env} {a : Act} : ∀ (ps : List (Nat × Operand)) {os os1 : List SO} {g : Nat → Gh} {r : List (Nat × SV)}, Mem fr os g w →
    ws w (Bk fr os g w) g env a.tmps → xb T fs (ps.map fun p => (p.1, evP env p.2)) os = some (r, os1) →
    ∃ g', Mem fr os1 g' w ∧ Grow fr os g w os1 g' w ∧ yP w (Bk fr os1 g' w) g' r (ps.map fun p => (p.1, a.eval p.2)) ∧
      ∀ p, p ∈ r → ∃ off t i, fs[p.1]? = some (off, t) ∧ T.ti t = some i ∧ p.2.cells.length = i.size := by
  intro ps
  induction ps with
  | nil =>
    intro os os1 g r hm hs h
    simp only [xb, List.map_nil] at h
    obtain ⟨rfl, rfl⟩ := Prod.mk.inj (Option.some.inj h)
    exact ⟨g, hm, Grow.refl _ _ _ _, trivial, fun p hp => by simp at hp⟩
  | cons p ps ih =>
    intro os os1 g r hm hs h
    simp only [xb, List.map_cons] at h
    split at h
    · rename_i off t hf
      split at h
      · rename_i i y os2 hi hn
        split at h
        · rename_i hz
          split at h
          · rename_i r' os3 hr
            obtain ⟨rfl, rfl⟩ := Prod.mk.inj (Option.some.inj h)
            obtain ⟨g1, m1, gr1, r1⟩ := Q4 hm hs hn
            obtain ⟨g2, m2, gr2, r2, r3⟩ := ih m1 (hs.grow gr1) hr
            refine ⟨g2, m2, gr1.trans gr2, ⟨rfl, r1.grow gr2, r2⟩, fun q hq => ?_⟩
            rcases List.mem_cons.1 hq with rfl | hq
            · exact ⟨off, t, i, hf, hi, hz⟩
            · exact r3 q hq
          · simp at h
        · simp at h
      · simp at h
    · simp at h
theorem qcE (cs : List Value) : ∀ (off : Nat) (arr : Array Value) (k : Nat), off + k + cs.length ≤ arr.size →
    ((cs.zipIdx k).foldl (fun a p => a.setIfInBounds (off + p.2) p.1) arr).toList = arr.toList.take (off + k) ++ cs ++ arr.toList.drop (off + k + cs.length) := by
  induction cs with
  | nil => intro off arr k h; simp
  | cons c cs ih =>
    intro off arr k h
    simp only [List.zipIdx_cons, List.foldl_cons, List.length_cons] at h ⊢
    rw [ih off _ (k + 1) (by simp; omega)]
    have hlt : off + k < arr.toList.length := by simp; omega
    simp only [Array.toList_setIfInBounds]
    rw [show off + (k + 1) = (off + k) + 1 by omega, List.take_succ_eq_append_getElem (by simpa using hlt), List.take_set, List.getElem_set_self, List.drop_set_of_lt (by omega)]
    rw [List.set_eq_of_length_le (by simp; omega)]
    simp [Nat.add_assoc, Nat.add_comm 1]
theorem WO (place : Nat → Option (Nat × Nat)) (cells : Array Value) (i off : Nat) (v : Value) (rest : List (Nat × Value)) (hp : place i = some (off, v.cells.size)) (h : off + v.cells.size ≤ cells.size) :
    Instr.fill place cells ((i, v) :: rest) = Instr.fill place (cells.toList.take off ++ v.cells.toList ++ cells.toList.drop (off + v.cells.size)).toArray rest := by
  rw [Instr.fill, hp]
  simp only [ne_eq, not_true_eq_false, decide_false, Bool.false_or]
  rw [if_neg (by simp; omega)]
  congr 1
  apply Array.ext'
  have := qcE v.cells.toList off cells 0 (by simpa using h)
  simp only [Nat.add_zero] at this
  rw [← Array.foldl_toList, Array.toList_zipIdx]
  rw [this]
  simp
theorem WP {w : World} {B : Nat → Prop} {g : Nat → Gh} {fs : List (Nat × Nat)} (place : Nat → Option (Nat × Nat))
    (hp : ∀ (f off t : Nat) (i : TI), fs[f]? = some (off, t) → T.ti t = some i → place f = some (off, i.size)) : ∀ (ps : List (Nat × SV)) (qs : List (Nat × Value)) (cs cs' : List SV) (vs : List Value),
    yP w B g ps qs → (∀ p, p ∈ ps → ∃ off t i, fs[p.1]? = some (off, t) ∧ T.ti t = some i ∧ p.2.cells.length = i.size) → zU w B g cs vs → (∀ v : Value, v ∈ vs → v.oneCell' = true) →
    jg fs cs ps = some cs' → ∃ vs', Instr.fill place vs.toArray qs = some vs'.toArray ∧ zU w B g cs' vs' ∧ (∀ v : Value, v ∈ vs' → v.oneCell' = true) := by
  intro ps
  induction ps with
  | nil =>
    intro qs cs cs' vs h1 h2 h3 h4 h
    cases qs with
    | nil =>
      simp only [jg] at h
      obtain rfl := Option.some.inj h
      exact ⟨vs, rfl, h3, h4⟩
    | cons => exact h1.elim
  | cons p ps ih =>
    intro qs cs cs' vs h1 h2 h3 h4 h
    cases qs with
    | nil => exact h1.elim
    | cons q qs =>
      obtain ⟨f, x⟩ := p
      obtain ⟨f', v⟩ := q
      obtain ⟨e1, e2, e3⟩ := h1
      simp only at e1 e2
      subst e1
      obtain ⟨off, t, i, a1, a2, a3⟩ := h2 (f, x) (by simp)
      simp only at a1 a3
      simp only [jg, a1] at h
      split at h
      · rename_i hc
        have hd : x ≠ .dead := by intro e; subst e; have := hc.2; simp [SV.cells, xI] at this
        have hl := e2.cells hd
        have hsz : v.cells.size = x.cells.length := by rw [hl.1]; simp
        have hone : ∀ u : Value, u ∈ v.cells.toList → u.oneCell' = true := fun u hu => by
          obtain ⟨k, hk, rfl⟩ := List.mem_iff_getElem.1 hu
          have hk' : k < x.cells.length := by rw [hl.1]; exact hk
          exact wU (hl.2 k x.cells[k] _ (by simp [hk']) (by simp [hk])) (List.all_eq_true.1 hc.2 _ (List.getElem_mem hk'))
        have hle : off + v.cells.size ≤ vs.toArray.size := by rw [hsz]; simp [← h3.1]; exact hc.1
        rw [WO place _ f off v qs (by rw [hp f off t i a1 a2, hsz, a3]) hle]
        refine ih qs (y3 cs off x.cells) cs' _ e3 (fun p hp' => h2 p (by simp [hp'])) ?_ ?_ h
        · simp only [y3, hsz]
          exact ((h3.take off).append hl).append (h3.drop _)
        · intro u hu
          simp only [List.mem_append] at hu
          rcases hu with (hu | hu) | hu
          · exact h4 u (List.mem_of_mem_take hu)
          · exact hone u hu
          · exact h4 u (List.mem_of_mem_drop hu)
      · simp at h
theorem YY {T : Tab} : ∀ (fs : List Field), (∀ f, f ∈ fs → (P.info? f.type).isSome = true) →
    ∃ places, fs.mapM (fun f => (P.info? f.type).map fun i => (f.offset, i.size)) = some places ∧
      ∀ (k : Nat) (f : Field) (info : TypeInfo), fs[k]? = some f → P.info? f.type = some info → places[k]? = some (f.offset, info.size) := by
  intro fs
  induction fs with
  | nil => intro _; exact ⟨[], rfl, fun k f info h => by simp at h⟩
  | cons f fs ih =>
    intro h
    obtain ⟨pl, h1, h2⟩ := ih (fun x hx => h x (by simp [hx]))
    obtain ⟨info, hi⟩ := Option.isSome_iff_exists.1 (h f (by simp))
    refine ⟨(f.offset, info.size) :: pl, by simp [List.mapM_cons, hi, h1], fun k f' info' hk hi' => ?_⟩
    cases k with
    | zero => simp at hk; subst hk; rw [hi] at hi'; cases hi'; rfl
    | succ k => simpa using h2 k f' info' (by simpa using hk) hi'
theorem qcF (hT : TabOk P T) {fr : Fr} {os os1 : List SO} {g : Nat → Gh} {w : World} (hm : Mem fr os g w) {env : Env} {a : Act} (hs : ws w (Bk fr os g w) g env a.tmps) {t : Nat} {ps : Array (Nat × Operand)} {y : SV}
    (h : zL T os t (ps.toList.map fun p => (p.1, evP env p.2)) = some (y, os1)) :
    ∃ v, (Instr.build t (ps.map fun (i, x) => (i, a.eval x))).run P w = .ok v w ∧ Res fr os g w os1 y v w := by
  unfold zL at h
  split at h
  · rename_i u i hu hi
    split at h
    · rename_i fs hf
      split at h
      · rename_i r os2 hr
        simp only at h
        split at h
        · rename_i cs hcs
          obtain ⟨rfl, rfl⟩ := Prod.mk.inj (Option.some.inj h)
          obtain ⟨info, z, d, i1, i2, i3, i4, i5, i6, i7, i8, i9⟩ := (hT.ti t i hi).ok
          obtain ⟨fields, f1, f2, f3⟩ := hT.struct t u fs hu hf
          obtain ⟨g1, m1, gr1, r1, r2⟩ := qaE ps.toList hm hs hr
          obtain ⟨g2, m2, gr2, z2⟩ := WN (fr := fr) (w := w) i.zero m1
          obtain ⟨pl, p1, p2⟩ := YY (P := P) (T := T) fields.toList f3
          have hplace : ∀ (f off t : Nat) (i : TI), fs[f]? = some (off, t) → T.ti t = some i → (pl.toArray[·]?) f = some (off, i.size) := by
            intro f off t' i' hx hi'
            rw [← f2, List.getElem?_map] at hx
            obtain ⟨fd, h3, h4⟩ := Option.map_eq_some_iff.1 hx
            obtain ⟨info', z', d', j1, j2, j3, j4, j5, j6, j7, j8, j9⟩ := (hT.ti t' i' hi').ok
            obtain ⟨e1, e2⟩ := Prod.mk.inj h4
            have := p2 f fd info' h3 (by rw [e2]; exact j1)
            simp only [List.getElem?_toArray]
            rw [this, e1, j2]
          obtain ⟨vs', v1, v2, v3⟩ := WP (T := T) (pl.toArray[·]?) hplace r _ _ cs (i.zero.map ZK.val) (r1.grow gr2) r2 z2 (fun v hv => by obtain ⟨z, _, rfl⟩ := List.mem_map.1 hv; exact qcC z) hcs
          refine ⟨.agg vs'.toArray, run_build w t _ _ ?_, g2, m2, gr1.trans gr2, .ag v2.1 v2.2 v3⟩
          simp only [Program.built, i1, f1, i4, p1]
          rw [show z.cells = (i.zero.map ZK.val).toArray by rw [← i5]]
          simpa using v1
        · simp at h
      · simp at h
    · simp at h
  · simp at h
theorem Q5 (w : World) (a : Addr) (v : Value) (b : Nat) (h : a.block ≠ b) : (w.setCell a v).heap[b]? = w.heap[b]? := by
  simp only [World.setCell, Array.getElem?_modify]
  rw [if_neg h]
theorem kC (b c : Nat) (h : b ≠ c) : ∀ (vs : List Value) (o : Nat) (w : World), (w.setCells b o vs).heap[c]? = w.heap[c]?
  | [], _, _ => rfl
  | v :: r, o, w => by rw [World.setCells, kC b c h r, Q5 _ _ _ _ h]
theorem kp (b : Nat) : ∀ (vs : List Value) (o : Nat) (w : World), z6 w (w.setCells b o vs)
  | [], _, w => z6.refl w
  | v :: r, o, w => by
    rw [World.setCells]
    exact z6.trans (w' := w.setCell ⟨b, o, none⟩ v) ⟨rfl, rfl, rfl⟩ (kp b r (o + 1) _)
theorem wh (b : Nat) : ∀ (vs : List Value) (o : Nat) (w : World), (w.setCells b o vs).heap.size = w.heap.size
  | [], _, _ => rfl
  | v :: r, o, w => by rw [World.setCells, wh b r]; simp
theorem jm (b : Nat) : ∀ (vs : List Value) (o : Nat) (w : World) {cs : Array Value} {t : Nat} {fz : Nat × Nat}, w.heap[b]? = some (.cells cs t fz) →
    ∃ cs', (w.setCells b o vs).heap[b]? = some (.cells cs' t fz) ∧ cs'.size = cs.size
  | [], _, _, cs, _, _, h => ⟨cs, h, rfl⟩
  | v :: r, o, w, cs, t, fz, h => by
    have : (w.setCell ⟨b, o, none⟩ v).heap[b]? = some (.cells (cs.setIfInBounds o v) t fz) := by
      simp only [World.setCell, Array.getElem?_modify, if_true, h]
      rfl
    obtain ⟨cs', h1, h2⟩ := jm b r (o + 1) _ this
    exact ⟨cs', by rw [World.setCells]; exact h1, by simpa using h2⟩
theorem Q6 {w : World} {b n : Nat} (h : qaB w b n) {o : Nat} (ho : o < n) : (w.cell? ⟨b, o, none⟩).isSome = true ∧ w.frozen? ⟨b, o, none⟩ = false := by
  obtain ⟨cs, t, fz, h1, h2, h3⟩ := h
  refine ⟨by simp [World.cell?, h1]; omega, ?_⟩
  have := h3 o (by omega)
  obtain ⟨lo, hi⟩ := fz
  simp only [World.frozen?, h1]
  simpa using this
theorem wR {w : World} {b n : Nat} (h : qaB w b n) (o : Nat) (vs : List Value) : qaB (w.setCells b o vs) b n := by
  obtain ⟨cs, t, fz, h1, h2, h3⟩ := h
  obtain ⟨cs', h4, h5⟩ := jm b vs o w h1
  exact ⟨cs', t, fz, h4, by omega, by rw [h5]; exact h3⟩
theorem jV {w : World} {b n o : Nat} {vs : List Value} (h : qaB w b n) (ho : o + vs.length ≤ n) (h1 : ∀ v : Value, v ∈ vs → v.oneCell' = true) :
    (storeCells ⟨b, o, none⟩ vs).run P w = .ok () (w.setCells b o vs) := by
  have := run_storeCells_cells (P := P) b o vs 0 w (fun j hj => (Q6 h (by omega)).1) (fun j hj => (Q6 h (by omega)).2) h1
  simpa using this
theorem wB {w : World} {b n o : Nat} {vs cs : List Value} (h : qaB w b n) (hc : zM w b 0 cs) (ho : o ≤ cs.length) (hn : o + vs.length ≤ n) :
    zM (w.setCells b o vs) b 0 (cs.take o ++ vs ++ cs.drop (o + vs.length)) := by
  intro k v hk
  rw [Nat.zero_add]
  have lt : (cs.take o).length = o := by simp [ho]
  rcases Nat.lt_or_ge k o with h1 | h1
  · rw [World.cell?_setCells_out b vs o w _ (fun _ _ => .inl h1)]
    rw [List.append_assoc, List.getElem?_append_left (by omega), List.getElem?_take, if_pos h1] at hk
    have := hc k v hk
    rwa [Nat.zero_add] at this
  · rcases Nat.lt_or_ge k (o + vs.length) with h2 | h2
    · have := World.cell?_setCells_in b vs o w (fun j hj => (Q6 h (by omega)).1) (k - o) (by omega)
      rw [show o + (k - o) = k by omega] at this
      rw [this]
      rw [List.append_assoc, List.getElem?_append_right (by omega), List.getElem?_append_left (by omega), lt] at hk
      rw [List.getElem?_eq_getElem (by omega)] at hk
      exact hk
    · rw [World.cell?_setCells_out b vs o w _ (fun _ _ => .inr h2)]
      rw [List.getElem?_append_right (by simp; omega), List.getElem?_drop] at hk
      have e : o + vs.length + (k - (cs.take o ++ vs).length) = k := by simp; omega
      rw [e] at hk
      have := hc k v hk
      rwa [Nat.zero_add] at this
theorem Q7 {fr : Fr} {os : List SO} {g : Nat → Gh} {w w' : World} (hm : Mem fr os g w) (so : z6 w w') {j : Nat} {o o' : SO} {b : Nat} (hj : os[j]? = some o) (ho : o.isLive = true) (hb : (g j).block? = some b) (ho' : o'.isLive = true)
    (hs : w'.heap.size = w.heap.size) (hw : ∀ c, c ≠ b → w'.heap[c]? = w.heap[c]?) : Chg fr os g w (os.set j o') g w' (fun c => c = b) where
  out := so
  size := by omega
  same c hc hne := hw c hne
  only c hc := ⟨j, o, hj, ho, by rw [hc]; exact hb⟩
  ext _ _ := rfl
  live c hc := by
    obtain ⟨k, x, hk, hl, hx⟩ := hc
    rw [List.getElem?_set] at hk
    split at hk
    · rename_i e
      subst e
      have : live os g c := ⟨j, o, hj, ho, hx⟩
      exact ⟨.inl this, by rw [hs]; exact (hm.own c this).1⟩
    · have : live os g c := ⟨k, x, hk, hl, hx⟩
      exact ⟨.inl this, by rw [hs]; exact (hm.own c this).1⟩
theorem KV {fr : Fr} {os : List SO} {g : Nat → Gh} {w w' : World} (hm : Mem fr os g w) (so : z6 w w') {j : Nat} {o o' : SO} {b : Nat} (hj : os[j]? = some o) (ho : o.isLive = true) (hb : (g j).block? = some b) (ho' : o'.isLive = true)
    (hmine : ∀ sz l, o' = .arr false sz l → ∃ sz' l', o = .arr false sz' l') (hs : w'.heap.size = w.heap.size) (hw : ∀ c, c ≠ b → w'.heap[c]? = w.heap[c]?)
    (hok : y7 w' (Bk fr (os.set j o') g w') g j o') : Mem fr (os.set j o') g w' := by
  have hjl := q6 hj
  have back : ∀ {k : Nat} {x : SO}, (os.set j o')[k]? = some x → (k = j ∧ x = o') ∨ (k ≠ j ∧ os[k]? = some x) := by
    intro k x hk
    rw [List.getElem?_set] at hk
    split at hk
    · rename_i e; subst e; first | exact .inl ⟨rfl, (Option.some.inj hk).symm⟩ | (rw [if_pos hjl] at hk; exact .inl ⟨rfl, (Option.some.inj hk).symm⟩)
    · rename_i e; exact .inr ⟨fun h => e h.symm, hk⟩
  refine (Q7 hm so hj ho hb ho' hs hw).mem hm ?_ ?_ ?_ ?_
  · intro k x hk
    rcases back hk with ⟨rfl, rfl⟩ | ⟨hne, hk⟩
    · exact .inr hok
    · exact .inl ⟨hk, fun c hl hc e => by subst e; exact hne (hm.inj k j x o c hk hj hl ho hc hb)⟩
  · intro k hk; exact hm.fresh k (by simpa using hk)
  · intro i k oi ok c hi hk li lk bi bk
    have lift : ∀ {k : Nat} {x : SO}, (os.set j o')[k]? = some x → x.isLive = true → ∃ y, os[k]? = some y ∧ y.isLive = true := by
      intro k x hk hl
      rcases back hk with ⟨rfl, rfl⟩ | ⟨_, hk⟩
      · exact ⟨o, hj, ho⟩
      · exact ⟨x, hk, hl⟩
    obtain ⟨y, hy, hyl⟩ := lift hi li
    obtain ⟨z, hz, hzl⟩ := lift hk lk
    exact hm.inj i k y z c hy hz hyl hzl bi bk
  · intro k sz l c hk hc
    rcases back hk with ⟨rfl, e⟩ | ⟨_, hk⟩
    · obtain ⟨sz', l', rfl⟩ := hmine sz l e.symm
      exact hm.mine k sz' l' c hj hc
    · exact hm.mine k sz l c hk hc
end Go.Proofs.Ytfjbclgbpdlkgaa

/- The evaluator S: what is handed on is read from then on; stores; slice literals. -/
namespace Go.Proofs.Ytfjbclgbpdlkgaa
open Go
set_option linter.unusedVariables false
set_option linter.unusedSimpArgs false
variable {P : Program} {T : Tab}
theorem yD {fr : Fr} {os : List SO} {g : Nat → Gh} {w : World} (hm : Mem fr os g w) {j sz : Nat} {l : List SV} (hj : os[j]? = some (.arr false sz l)) :
    Chg fr os g w (os.set j (.frz sz l)) g w (fun _ => False) where
  out := z6.refl _
  size := Nat.le_refl _
  same _ _ _ := rfl
  only _ h := h.elim
  ext _ _ := rfl
  live c hc := by
    obtain ⟨k, x, hk, hl, hx⟩ := hc
    rw [List.getElem?_set] at hk
    split at hk
    · rename_i e
      subst e
      split at hk
      · obtain rfl := Option.some.inj hk; simp [SO.isLive] at hl
      · simp at hk
    · have : live os g c := ⟨k, x, hk, hl, hx⟩
      exact ⟨.inl this, (hm.own c this).1⟩
theorem jW {fr : Fr} {os : List SO} {g : Nat → Gh} {w : World} (hm : Mem fr os g w) {j sz : Nat} {l : List SV} (hj : os[j]? = some (.arr false sz l)) :
    Mem fr (os.set j (.frz sz l)) g w := by
  have hjl := q6 hj
  have hg := (yD hm hj).grow
  have back : ∀ {k : Nat} {x : SO}, (os.set j (.frz sz l))[k]? = some x → (k = j ∧ x = .frz sz l) ∨ (k ≠ j ∧ os[k]? = some x) := by
    intro k x hk
    rw [List.getElem?_set] at hk
    split at hk
    · rename_i e; subst e; first | exact .inl ⟨rfl, (Option.some.inj hk).symm⟩ | (rw [if_pos hjl] at hk; exact .inl ⟨rfl, (Option.some.inj hk).symm⟩)
    · rename_i e; exact .inr ⟨fun h => e h.symm, hk⟩
  refine (yD hm hj).mem hm ?_ ?_ ?_ ?_
  · intro k x hk
    rcases back hk with ⟨rfl, rfl⟩ | ⟨_, hk⟩
    · refine .inr ?_
      rcases hm.objs _ _ hj with ⟨rfl, hn⟩ | ⟨b, cap, vs, e1, e2, e3, e4, e5, e6⟩
      · exact .inl ⟨rfl, hn⟩
      · have hlive : live os g b := ⟨k, _, hj, rfl, by rw [e1]; rfl⟩
        refine .inr ⟨b, cap, vs, e1, e2, ⟨(hm.own b hlive).1, fun h => ?_, ?_⟩, e3.mono hg.sub hg.same (fun j hj => absurd rfl hj), e4, e5⟩
        · have := hm.mine k sz l b hj (by rw [e1]; rfl); omega
        · rintro ⟨i, o, hi, hl, hb⟩
          rcases back hi with ⟨rfl, rfl⟩ | ⟨hne, hi⟩
          · simp [SO.isLive] at hl
          · exact hne (hm.inj i k o _ b hi hj hl rfl hb (by rw [e1]; rfl))
    · exact .inl ⟨hk, fun _ _ _ h => h⟩
  · intro k hk; exact hm.fresh k (by simpa using hk)
  · intro i k oi ok c hi hk li lk bi bk
    rcases back hi with ⟨rfl, rfl⟩ | ⟨_, hi⟩
    · simp [SO.isLive] at li
    · rcases back hk with ⟨rfl, rfl⟩ | ⟨_, hk⟩
      · simp [SO.isLive] at lk
      · exact hm.inj i k oi ok c hi hk li lk bi bk
  · intro k sz' l' c hk hc
    rcases back hk with ⟨rfl, e⟩ | ⟨_, hk⟩
    · cases e
    · exact hm.mine k sz' l' c hk hc
theorem qcG {fr : Fr} {os : List SO} {g : Nat → Gh} {w : World} (hm : Mem fr os g w) {j sz : Nat} {l : List SV} {v : Value} (hj : os[j]? = some (.frz sz l))
    (h : RepV w (Bk fr os g w) g (.osl j) v) : ∀ g', RepV w (Bk fr os g w) g' (.sl sz l) v := by
  intro g'
  rcases hm.objs _ _ hj with ⟨rfl, hn⟩ | ⟨b, cap, vs, e1, e2, e3, e4, e5, e6⟩
  · cases h with
    | osl0 => exact .sl0
    | osl hg => rw [hn] at hg; cases hg
  · cases h with
    | osl0 hg => rw [e1] at hg; cases hg
    | osl hg => rw [e1] at hg; cases hg; exact .sl e4.1 e4.2 e5 e6 e3 e2
theorem qhT {fr : Fr} {os : List SO} {g : Nat → Gh} {w : World} (hm : Mem fr os g w) {j sz lo hi : Nat} {l : List SV} {v : Value} (hj : os[j]? = some (.frz sz l)) (hl : lo ≤ hi) (hh : hi ≤ l.length)
    (h : RepV w (Bk fr os g w) g (.vw j lo hi) v) : ∀ g', RepV w (Bk fr os g w) g' (.sl sz ((l.take hi).drop lo)) v := by
  intro g'
  cases h with
  | vw0 => rw [List.drop_eq_nil_of_le (by simp; omega)]; exact .sl0
  | vw hg a1 a2 a3 =>
    by_cases e : lo = hi
    · subst e
      rw [Nat.sub_self, List.drop_eq_nil_of_le (by simp; omega)]
      exact .sl0
    rcases hm.objs _ _ hj with ⟨rfl, hn⟩ | ⟨b, cap, vs, e1, e2, e3, e4, e5, e6⟩
    · rw [hn] at hg; cases hg
    · rw [e1] at hg; cases hg
      have e7 : hi - lo = ((l.take hi).drop lo).length := by simp; omega
      have h1 := e4.1
      rw [e7]
      refine .sl (vs := (vs.take hi).drop lo) (sz := sz) (by simp [h1]) ?_ ?_ ?_ e3 (by simp; omega)
      · exact (zU.drop (zU.take ⟨e4.1, e4.2⟩ hi) lo).2
      · intro v hv; exact e5 v (List.mem_of_mem_take (List.mem_of_mem_drop hv))
      · have := (e6.take (hi * sz)).drop (lo * sz)
        rw [yB e5, yA (fun v hv => e5 v (List.mem_of_mem_take hv)), Nat.zero_add] at this
        exact this
theorem wF {fr : Fr} {os os1 : List SO} {g : Nat → Gh} {w : World} (hm : Mem fr os g w) {x y : SV} {v : Value} (hx : RepV w (Bk fr os g w) g x v)
    (h : km os x = some (y, os1)) : Mem fr os1 g w ∧ Grow fr os g w os1 g w ∧ RepV w (Bk fr os1 g w) G0 y v ∧ v.oneCell' = true := by
  unfold km at h
  split at h
  · obtain ⟨rfl, rfl⟩ := Prod.mk.inj (Option.some.inj h)
    cases hx with
    | v hs => exact ⟨hm, Grow.refl _ _ _ _, .v hs, Z1 hs⟩
  · obtain ⟨rfl, rfl⟩ := Prod.mk.inj (Option.some.inj h)
    cases hx with
    | sl0 => exact ⟨hm, Grow.refl _ _ _ _, .sl0, rfl⟩
    | sl h1 h2 h3 h4 h5 h6 => exact ⟨hm, Grow.refl _ _ _ _, .sl h1 h2 h3 h4 h5 h6, rfl⟩
  · rename_i j
    split at h
    · rename_i sz l hj
      obtain ⟨rfl, rfl⟩ := Prod.mk.inj (Option.some.inj h)
      have hm' := jW hm hj
      have hg := (yD hm hj).grow
      have hj' : (os.set j (.frz sz l))[j]? = some (.frz sz l) := by rw [List.getElem?_set, if_pos rfl, if_pos (q6 hj)]
      exact ⟨hm', hg, qcG hm' hj' (hx.grow hg) _, wU hx rfl⟩
    · rename_i sz l hj
      obtain ⟨rfl, rfl⟩ := Prod.mk.inj (Option.some.inj h)
      exact ⟨hm, Grow.refl _ _ _ _, qcG hm hj hx _, wU hx rfl⟩
    · simp at h
  · rename_i j lo hi
    have hone : v.oneCell' = true := by cases hx <;> rfl
    split at h
    · rename_i sz l hj
      split at h
      · rename_i hb
        obtain ⟨rfl, rfl⟩ := Prod.mk.inj (Option.some.inj h)
        have hm' := jW hm hj
        have hg := (yD hm hj).grow
        have hj' : (os.set j (.frz sz l))[j]? = some (.frz sz l) := by rw [List.getElem?_set, if_pos rfl, if_pos (q6 hj)]
        exact ⟨hm', hg, qhT hm' hj' hb.1 hb.2 (hx.grow hg) _, hone⟩
      · simp at h
    · rename_i sz l hj
      split at h
      · rename_i hb
        obtain ⟨rfl, rfl⟩ := Prod.mk.inj (Option.some.inj h)
        exact ⟨hm, Grow.refl _ _ _ _, qhT hm hj hb.1 hb.2 hx _, hone⟩
      · simp at h
    · simp at h
  · simp at h
theorem qfY {fr : Fr} {os os1 : List SO} {g : Nat → Gh} {w : World} (hm : Mem fr os g w) {x y : SV} {v : Value} (hx : RepV w (Bk fr os g w) g x v)
    (h : qhR os x = some (y, os1)) : Mem fr os1 g w ∧ Grow fr os g w os1 g w ∧ RepV w (Bk fr os1 g w) g y v := by
  unfold qhR at h
  split at h
  · obtain ⟨m, gr, r, -⟩ := wF hm hx h
    exact ⟨m, gr, r.mono (fun _ h => h) (fun _ _ => rfl) g (fun _ h => absurd rfl h)⟩
  · obtain ⟨rfl, rfl⟩ := Prod.mk.inj (Option.some.inj h)
    exact ⟨hm, Grow.refl _ _ _ _, hx⟩
theorem jq {fr : Fr} {w : World} {g : Nat → Gh} : ∀ (xs : List SV) {os os1 : List SO} {ys : List SV} {vs : List Value}, Mem fr os g w → zU w (Bk fr os g w) g xs vs →
    z8 xs os = some (ys, os1) → Mem fr os1 g w ∧ Grow fr os g w os1 g w ∧ zU w (Bk fr os1 g w) G0 ys vs ∧ ∀ v : Value, v ∈ vs → v.oneCell' = true := by
  intro xs
  induction xs with
  | nil =>
    intro os os1 ys vs hm hl h
    simp only [z8] at h
    obtain ⟨rfl, rfl⟩ := Prod.mk.inj (Option.some.inj h)
    have := hl.1
    cases vs with
    | nil => exact ⟨hm, Grow.refl _ _ _ _, zU.nil, fun v hv => by simp at hv⟩
    | cons => simp at this
  | cons x xs ih =>
    intro os os1 ys vs hm hl h
    obtain ⟨v, vs', rfl, hv, hl'⟩ := hl.uncons
    simp only [z8] at h
    split at h
    · rename_i y os2 hy
      split at h
      · rename_i ys' os3 hys
        obtain ⟨rfl, rfl⟩ := Prod.mk.inj (Option.some.inj h)
        obtain ⟨m1, g1, r1, o1⟩ := wF hm hv hy
        obtain ⟨m2, g2, r2, o2⟩ := ih m1 (hl'.mono g1.sub g1.same g1.ext) hys
        refine ⟨m2, g1.trans g2, zU.cons (r1.mono g2.sub g2.same G0 (fun _ h => absurd rfl h)) r2, fun u hu => ?_⟩
        rcases List.mem_cons.1 hu with rfl | hu
        · exact o1
        · exact o2 u hu
      · simp at h
    · simp at h
theorem Q8 {v : Value} (h : v.oneCell' = true) : v.cells = #[v] := by
  cases v <;> first | rfl | simp [Value.oneCell'] at h
theorem qcH {fr : Fr} {os os1 : List SO} {g : Nat → Gh} {w : World} (hm : Mem fr os g w) {x y : SV} {v : Value} (hx : RepV w (Bk fr os g w) g x v)
    (h : YW os x = some (y, os1)) : Mem fr os1 g w ∧ Grow fr os g w os1 g w ∧ RepV w (Bk fr os1 g w) G0 y v ∧ jT y.cells.length v := by
  unfold YW at h
  split at h
  · rename_i l
    split at h
    · rename_i ys os2 hys
      obtain ⟨rfl, rfl⟩ := Prod.mk.inj (Option.some.inj h)
      cases hx with
      | ag h1 h2 h3 =>
        obtain ⟨m, g1, r, o⟩ := jq l hm ⟨h1, h2⟩ hys
        exact ⟨m, g1, .ag r.1 r.2 o, by simpa [SV.cells, Value.cells] using r.1.symm, by simpa [Value.cells] using o⟩
    · simp at h
  · obtain ⟨m, g1, r, o⟩ := wF hm hx h
    have hd : y ≠ .dead := by
     intro e
     subst e
     unfold km at h
     split at h <;> first
      | (obtain ⟨e, _⟩ := Prod.mk.inj (Option.some.inj h); cases e; done)
      | (split at h <;> first | (obtain ⟨e, _⟩ := Prod.mk.inj (Option.some.inj h); cases e; done) | (split at h <;> first | (obtain ⟨e, _⟩ := Prod.mk.inj (Option.some.inj h); cases e; done) | (simp at h; done)) | (simp at h; done))
      | (simp at h; done)
    exact ⟨m, g1, r, (r.size hd).symm, fun c hc => by rw [Q8 o] at hc; simp at hc; subst hc; exact o⟩
theorem qcI {fr : Fr} {w : World} {g : Nat → Gh} : ∀ (xs : List SV) {os os1 : List SO} {ys : List SV} {vs : List Value}, Mem fr os g w → zU w (Bk fr os g w) g xs vs →
    QD xs os = some (ys, os1) → Mem fr os1 g w ∧ Grow fr os g w os1 g w ∧ zU w (Bk fr os1 g w) G0 ys vs ∧
      ∀ (i : Nat) (y : SV) (v : Value), ys[i]? = some y → vs[i]? = some v → jT y.cells.length v := by
  intro xs
  induction xs with
  | nil =>
    intro os os1 ys vs hm hl h
    simp only [QD] at h
    obtain ⟨rfl, rfl⟩ := Prod.mk.inj (Option.some.inj h)
    have := hl.1
    cases vs with
    | nil => exact ⟨hm, Grow.refl _ _ _ _, zU.nil, fun i y v hv => by simp at hv⟩
    | cons => simp at this
  | cons x xs ih =>
    intro os os1 ys vs hm hl h
    obtain ⟨v, vs', rfl, hv, hl'⟩ := hl.uncons
    simp only [QD] at h
    split at h
    · rename_i y os2 hy
      split at h
      · rename_i ys' os3 hys
        obtain ⟨rfl, rfl⟩ := Prod.mk.inj (Option.some.inj h)
        obtain ⟨m1, g1, r1, o1⟩ := qcH hm hv hy
        obtain ⟨m2, g2, r2, o2⟩ := ih m1 (hl'.mono g1.sub g1.same g1.ext) hys
        refine ⟨m2, g1.trans g2, zU.cons (r1.mono g2.sub g2.same G0 (fun _ h => absurd rfl h)) r2, fun i z u hz hu => ?_⟩
        cases i with
        | zero => simp at hz hu; subst hz; subst hu; exact o1
        | succ i => exact o2 i z u (by simpa using hz) (by simpa using hu)
      · simp at h
    · simp at h
theorem Qp {t : Nat} {i : TI} (hi : TiOk P t i) {w : World} {b n o : Nat} {v : Value} (h : qaB w b n) (hs : v.cells.size = i.size) (ho : o + v.cells.size ≤ n)
    (h1 : ∀ u : Value, u ∈ v.cells.toList → u.oneCell' = true) : (Instr.storeAt t (.pointer (some ⟨b, o, none⟩)) v).run P w = .ok () (w.setCells b o v.cells.toList) := by
  obtain ⟨info, z, d, i1, i2, i3, i4, i5, i6, i7, i8, i9⟩ := hi.ok
  have := jV (P := P) (vs := v.cells.toList) h (by simpa using ho) h1
  simp [Instr.storeAt, Instr.sureAddr, storeVar, kx i1, i2, hs, this]
theorem qcJ {vs : List Value} {sz n off : Nat} {u u' : Value} {cs : List Value} (h : ∀ v : Value, v ∈ vs → jT sz v) (hu : vs[n]? = some u)
    (hc : u'.cells.toList = u.cells.toList.take off ++ cs ++ u.cells.toList.drop (off + cs.length)) (ho : off + cs.length ≤ sz) :
    zd (vs.set n u') = (zd vs).take (n * sz + off) ++ cs ++ (zd vs).drop (n * sz + off + cs.length) := by
  have hn := q6 hu
  have hus : u.cells.toList.length = sz := by simpa using (h u (List.mem_of_getElem? hu)).1
  have e1 : vs = vs.take n ++ u :: vs.drop (n + 1) := by
    have : u = vs[n] := by rw [List.getElem?_eq_getElem hn] at hu; exact (Option.some.inj hu).symm
    rw [this, ← List.drop_eq_getElem_cons hn, List.take_append_drop]
  have hA : (zd (vs.take n)).length = n * sz := by
    rw [zN (fun v hv => h v (List.mem_of_mem_take hv)), List.length_take, Nat.min_eq_left (by omega)]
  have e2 : zd vs = zd (vs.take n) ++ (u.cells.toList ++ zd (vs.drop (n + 1))) := by
    conv => lhs; rw [e1]
    simp [zd]
  have e3 : zd (vs.set n u') = zd (vs.take n) ++ (u'.cells.toList ++ zd (vs.drop (n + 1))) := by
    rw [List.set_eq_take_append_cons_drop, if_pos hn]
    simp [zd]
  rw [e3, e2, hc]
  generalize zd (vs.take n) = A at *
  generalize zd (vs.drop (n + 1)) = D at *
  generalize u.cells.toList = U at *
  clear e1 e2 e3 hc hu h
  rw [List.take_append, List.drop_append, hA, List.take_of_length_le (show A.length ≤ n * sz + off by omega), show n * sz + off - n * sz = off by omega,
    List.take_append_of_le_length (show off ≤ U.length by omega), List.drop_eq_nil_of_le (show A.length ≤ n * sz + off + cs.length by omega),
    show n * sz + off + cs.length - n * sz = off + cs.length by omega, List.drop_append_of_le_length (show off + cs.length ≤ U.length by omega)]
  simp [List.append_assoc]
theorem YZ {w : World} {B : Nat → Prop} {y : SV} {u : Value} {ys : List SV} {cs : List Value} {off : Nat} (hy : RepV w B G0 y u) (hd : y ≠ .dead) (hr : zU w B G0 ys cs)
    (ho : ∀ c : Value, c ∈ cs → c.oneCell' = true) (hl : off + cs.length ≤ y.cells.length) (hp : 0 < cs.length) :
    ∃ u', RepV w B G0 (jP y off ys) u' ∧ u'.cells.toList = u.cells.toList.take off ++ cs ++ u.cells.toList.drop (off + cs.length) := by
  by_cases ha : ∃ ly, y = .ag ly
  · obtain ⟨ly, rfl⟩ := ha
    cases hy with
    | ag a1 a2 a3 =>
      rename_i uv
      have hrl : zU w B G0 ly uv := ⟨a1, a2⟩
      refine ⟨.agg (uv.take off ++ cs ++ uv.drop (off + cs.length)).toArray, ?_, by simp [Value.cells]⟩
      have h1 : jP (.ag ly) off ys = .ag (y3 ly off ys) := rfl
      rw [h1]
      have h2 : zU w B G0 (y3 ly off ys) (uv.take off ++ cs ++ uv.drop (off + cs.length)) := by
        simp only [y3, hr.1]
        exact ((hrl.take off).append hr).append (hrl.drop _)
      refine .ag h2.1 h2.2 fun z hz => ?_
      simp only [List.mem_append] at hz
      rcases hz with (hz | hz) | hz
      · exact a3 z (List.mem_of_mem_take hz)
      · exact ho z hz
      · exact a3 z (List.mem_of_mem_drop hz)
  · have hyc : y.cells = [y] := by
      cases y <;> first | rfl | exact absurd ⟨_, rfl⟩ ha
    have hs := hy.size hd
    rw [hyc] at hs hl
    simp at hs hl
    obtain rfl : off = 0 := by omega
    obtain ⟨c, rfl⟩ : ∃ c, cs = [c] := by
      match cs, hp, hl with
      | [c], _, _ => exact ⟨c, rfl⟩
    obtain ⟨z, rfl⟩ : ∃ z, ys = [z] := by
      have := hr.1
      match ys, this with
      | [z], _ => exact ⟨z, rfl⟩
    have e : jP y 0 [z] = z := by
      cases y <;> first | rfl | exact absurd ⟨_, rfl⟩ ha
    rw [e]
    refine ⟨c, hr.2 0 z c rfl rfl, ?_⟩
    rw [Q8 (ho c (by simp))]
    have : u.cells.toList.length = 1 := by simp [← hs]
    rw [List.drop_eq_nil_of_le (by simp; omega)]
    rfl
theorem qcK (hT : TabOk P T) {fr : Fr} {os os1 : List SO} {g : Nat → Gh} {w : World} (hm : Mem fr os g w) {t : Nat} {p x : SV} {pv xv : Value}
    (hp : RepV w (Bk fr os g w) g p pv) (hx : RepV w (Bk fr os g w) g x xv) (h : QW T os t p x = some os1) :
    ∃ w', (Instr.storeAt t pv xv).run P w = .ok () w' ∧ Mem fr os1 g w' ∧ Grow fr os g w os1 g w' := by
  unfold QW at h
  split at h
  · rename_i i hi
    have hti := hT.ti t i hi
    split at h
    · rename_i hsz
      split at h
      · rename_i j off
        split at h
        · rename_i l hj
          split at h
          · rename_i hc
            obtain rfl := Option.some.inj h
            have hd : x ≠ .dead := by intro e; subst e; have := hc.2; simp [SV.cells, xI] at this
            have hxl := hx.cells hd
            have hxs : xv.cells.size = i.size := by rw [← hsz, hx.size hd]
            have hone : ∀ u : Value, u ∈ xv.cells.toList → u.oneCell' = true := fun u hu => by
              obtain ⟨k, hk, rfl⟩ := List.mem_iff_getElem.1 hu
              have hk' : k < x.cells.length := by rw [hxl.1]; exact hk
              exact wU (hxl.2 k x.cells[k] _ (by simp [hk']) (by simp [hk])) (List.all_eq_true.1 hc.2 _ (List.getElem_mem hk'))
            obtain ⟨b, vs, e1, e2, e3, e4, e5⟩ := hm.objs _ _ hj
            cases hp with
            | ptr hp =>
              rw [e1] at hp
              cases hp
              have hle : off + xv.cells.size ≤ vs.length := by rw [hxs, ← e2.1]; exact hc.1
              have hb : (g j).block? = some b := by rw [e1]; rfl
              have hs := wh b xv.cells.toList off w
              have hw := fun c (hc : c ≠ b) => kC b c (fun e => hc e.symm) xv.cells.toList off w
              have hg := (Q7 hm (kp _ _ _ _) hj rfl hb (o' := .box (y3 l off x.cells)) rfl hs hw).grow
              refine ⟨_, Qp hti e5 hxs hle hone, KV hm (kp _ _ _ _) hj rfl hb rfl (fun sz l e => by cases e) hs hw ?_, hg⟩
              refine ⟨b, vs.take off ++ xv.cells.toList ++ vs.drop (off + xv.cells.toList.length), e1, ?_, ?_, ?_, ?_⟩
              · have key : zU w (Bk fr os g w) g (y3 l off x.cells) (vs.take off ++ xv.cells.toList ++ vs.drop (off + xv.cells.toList.length)) := by
                  have hl := hxl.1
                  simp only [y3]
                  rw [hl]
                  exact ((e2.take off).append hxl).append (e2.drop _)
                exact key.mono hg.sub hg.same hg.ext
              · intro u hu
                simp only [List.mem_append] at hu
                rcases hu with (hu | hu) | hu
                · exact e3 u (List.mem_of_mem_take hu)
                · exact hone u hu
                · exact e3 u (List.mem_of_mem_drop hu)
              · exact wB e5 e4 (by omega) (by simpa using hle)
              · have : (vs.take off ++ xv.cells.toList ++ vs.drop (off + xv.cells.toList.length)).length = vs.length := by simp; omega
                rw [this]; exact wR e5 _ _
          · simp at h
        · simp at h
      · rename_i j n off
        split at h
        · rename_i ys os2 hys
          split at h
          · rename_i lt sz l hj
            split at h
            · rename_i y hy
              split at h
              · rename_i yc hyc
                obtain ⟨hyd, rfl⟩ := Q2 hyc
                split at h
                · rename_i hle
                  obtain rfl := Option.some.inj h
                  have hd : x ≠ .dead := by intro e; subst e; simp [SV.cells, z8, km] at hys
                  have hxl := hx.cells hd
                  have hxs : xv.cells.size = i.size := by rw [← hsz, hx.size hd]
                  obtain ⟨m1, g1, r1, o1⟩ := jq _ hm hxl hys
                  rcases m1.objs _ _ hj with ⟨rfl, hn⟩ | ⟨b, cap, vs, e1, e2, e3, e4, e5, e6⟩
                  · simp at hy
                  · cases hp with
                    | ap hp =>
                      rw [e1] at hp
                      cases hp
                      obtain ⟨u, hu, hyu⟩ := e3.get hy
                      have hn := q6 hu
                      have husz := (e4 u (List.mem_of_getElem? hu)).1
                      have hu1 := (e4 u (List.mem_of_getElem? hu)).2
                      have hxlen : xv.cells.toList.length = i.size := by simpa using hxs
                      have hys' : y.cells.length = sz := by rw [hyu.size hyd]; exact husz
                      obtain ⟨u', q1, q2⟩ := YZ hyu hyd r1 o1 (by rw [hxlen]; exact hle.1) (by rw [hxlen]; exact hle.2)
                      have q3 : off + xv.cells.toList.length ≤ sz := by rw [hxlen, ← hys']; exact hle.1
                      have hlen := zN e4
                      have hmul : (n + 1) * sz ≤ vs.length * sz := Nat.mul_le_mul_right _ hn
                      have hmul2 : vs.length * sz ≤ cap * sz := Nat.mul_le_mul_right _ (by rw [← e3.1]; exact e2)
                      rw [Nat.succ_mul] at hmul
                      have hb : (g j).block? = some b := by rw [e1]; rfl
                      have hs := wh b xv.cells.toList (n * sz + off) w
                      have hw := fun c (hc : c ≠ b) => kC b c (fun e => hc e.symm) xv.cells.toList (n * sz + off) w
                      have hg := (Q7 m1 (kp _ _ _ _) hj rfl hb (o' := .arr lt sz (l.set n (jP y off ys))) rfl hs hw).grow
                      have hu'sz : u'.cells.size = sz := by
                        have : u'.cells.toList.length = u.cells.toList.length := by
                          rw [q2]
                          have : u.cells.toList.length = sz := by simpa using husz
                          simp; omega
                        simp at this; omega
                      refine ⟨_, Qp hti e6 hxs (by rw [show xv.cells.size = xv.cells.toList.length by simp]; omega) o1, KV m1 (kp _ _ _ _) hj rfl hb rfl (fun sz' l' e => ?_) hs hw ?_, g1.trans hg⟩
                      · cases e; exact ⟨_, _, rfl⟩
                      · refine .inr ⟨b, cap, vs.set n u', by simpa using e1, by simpa using e2, ?_, ?_, ?_, wR e6 _ _⟩
                        · refine ⟨by simp [e3.1], fun k z c hz hc => ?_⟩
                          rw [List.getElem?_set] at hz hc
                          split at hz
                          · rename_i e
                            subst e
                            have h1 : n < l.length := q6 hy
                            first
                              | (rw [if_pos h1] at hz; rw [if_pos rfl, if_pos hn] at hc; obtain rfl := Option.some.inj hz; obtain rfl := Option.some.inj hc; exact q1.mono hg.sub hg.same G0 (fun _ h => absurd rfl h))
                              | (rw [if_pos rfl] at hc; obtain rfl := Option.some.inj hz; obtain rfl := Option.some.inj hc; exact q1.mono hg.sub hg.same G0 (fun _ h => absurd rfl h))
                          · rename_i e
                            rw [if_neg e] at hc
                            exact (e3.2 k z c hz hc).mono hg.sub hg.same G0 (fun _ h => absurd rfl h)
                        · intro v hv
                          rcases List.mem_or_eq_of_mem_set hv with hv | rfl
                          · exact e4 v hv
                          · refine ⟨hu'sz, fun c hc => ?_⟩
                            rw [q2] at hc
                            simp only [List.mem_append] at hc
                            rcases hc with (hc | hc) | hc
                            · exact hu1 c (List.mem_of_mem_take hc)
                            · exact o1 c hc
                            · exact hu1 c (List.mem_of_mem_drop hc)
                        · rw [qcJ e4 hu q2 q3]
                          exact wB e6 e5 (by omega) (by omega)
                · simp at h
              · simp at h
            · simp at h
          · simp at h
        · simp at h
      · simp at h
    · simp at h
  · simp at h
end Go.Proofs.Ytfjbclgbpdlkgaa

/- The evaluator S: slice literals, make, append, copy. -/
namespace Go.Proofs.Ytfjbclgbpdlkgaa
open Go
set_option linter.unusedVariables false
set_option linter.unusedSimpArgs false
variable {P : Program} {T : Tab}
theorem qaF (sz : Nat) : ∀ (qs : List (Nat × Value)) (done : List Value) (rest : List Value) (n : Nat), qs.map (·.1) = List.range' done.length n → (∀ q, q ∈ qs → jT sz q.2) → (∀ v : Value, v ∈ done → jT sz v) →
    rest.length = qs.length * sz → Instr.fill (fun i => some (i * sz, sz)) (zd done ++ rest).toArray qs = some (zd (done ++ qs.map (·.2))).toArray := by
  intro qs
  induction qs with
  | nil =>
    intro done rest n h1 h2 h3 h4
    obtain rfl : rest = [] := by simpa using h4
    simp [Instr.fill]
  | cons q qs ih =>
    intro done rest n h1 h2 h3 h4
    obtain ⟨k, v⟩ := q
    have hv : v.cells.size = sz := (h2 (k, v) (by simp)).1
    cases n with
    | zero => simp at h1
    | succ n =>
      rw [List.range'_succ] at h1
      simp only [List.map_cons, List.cons.injEq] at h1
      obtain ⟨hk, h1⟩ := h1
      subst hk
      have hdl := zN h3
      simp only [List.length_cons, Nat.succ_mul] at h4
      rw [WO _ _ done.length (done.length * sz) v qs (by rw [hv]) (by simp [hdl, hv]; omega)]
      have e : ((zd done ++ rest).toArray.toList.take (done.length * sz) ++ v.cells.toList ++ (zd done ++ rest).toArray.toList.drop (done.length * sz + v.cells.size)) =
          zd (done ++ [v]) ++ rest.drop sz := by
        simp only [kH]
        rw [List.take_left' hdl, hv, ← List.drop_drop, List.drop_left' hdl]
        simp [zd]
      rw [e]
      have := ih (done ++ [v]) (rest.drop sz) n (by simpa using h1) (fun q hq => h2 q (by simp [hq])) (fun u hu => by
        rcases List.mem_append.1 hu with hu | hu
        · exact h3 u hu
        · simp at hu; subst hu; exact h2 (done.length, u) (by simp)) (by simp; omega)
      rw [this]
      simp
theorem ZQ (hT : TabOk P T) {fr : Fr} {os os1 : List SO} {g : Nat → Gh} {w : World} (hm : Mem fr os g w) {env : Env} {a : Act} (hs : ws w (Bk fr os g w) g env a.tmps) {t n : Nat} {ps : Array (Nat × Operand)} {y : SV}
    (h : qv T os t n (ps.toList.map fun p => (p.1, ev env p.2)) = some (y, os1)) :
    ∃ v w', (Instr.buildSlice t n (ps.map fun (i, x) => (i, a.eval x))).run P w = .ok v w' ∧ Res fr os g w os1 y v w' := by
  unfold qv at h
  split at h
  · rename_i e hu
    split at h
    · rename_i i hi
      split at h
      · rename_i hc
        split at h
        · rename_i l os2 hl
          split at h
          · rename_i hall
            obtain ⟨rfl, rfl⟩ := Prod.mk.inj (Option.some.inj h)
            obtain ⟨info, z, d, i1, i2, i3, i4, i5, i6, i7, i8, i9⟩ := (hT.ti e i hi).ok
            have ht := hT.slice t e hu
            have hrl : zU w (Bk fr os g w) g ((ps.toList.map fun p => (p.1, ev env p.2)).map (·.2)) (ps.toList.map fun p => a.eval p.2) := by
              simp only [List.map_map]
              refine ⟨by simp, fun k x v hx hv => ?_⟩
              rw [List.getElem?_map] at hx hv
              obtain ⟨p, hp, rfl⟩ := Option.map_eq_some_iff.1 hx
              rw [hp] at hv
              obtain rfl := Option.some.inj hv
              exact kf hs p.2
            obtain ⟨m1, g1, r1, r2⟩ := qcI _ hm hrl hl
            have hn : ps.toList.length = n := by
              have := congrArg List.length hc.1
              simpa using this
            have hll : l.length = n := by rw [r1.1]; simpa using hn
            have hsz : ∀ v : Value, v ∈ ps.toList.map (fun p => a.eval p.2) → jT i.size v := by
              intro v hv
              obtain ⟨k, hk, rfl⟩ := List.mem_iff_getElem.1 hv
              have hk' : k < l.length := by rw [r1.1]; exact hk
              have := List.all_eq_true.1 hall _ (List.getElem_mem hk')
              have h2 := r2 k l[k] _ (List.getElem?_eq_getElem hk') (List.getElem?_eq_getElem hk)
              rw [show l[k].cells.length = i.size by simpa using this] at h2
              exact h2
            obtain ⟨g2, m2, gr2, rr⟩ := Jy m1 (l := l) (junk := []) (sz := i.size) (cap := n) r1 hsz (by omega) (by simp [zN hsz]; rw [show ps.size = n by simpa using hn]) e
            simp only [List.append_nil, hll] at rr gr2 m2
            refine ⟨_, _, ?_, g2, m2, g1.trans gr2, rr⟩
            have hfill : ∀ Z : Array Value, Instr.fill (fun j => some (j * i.size, i.size)) ((Array.range (n * i.size)).map (fun j => Z[j % Z.size]!)) (ps.map fun (i, x) => (i, a.eval x)).toList =
                some (zd (ps.toList.map fun p => a.eval p.2)).toArray := by
              intro Z
              have := qaF i.size (ps.toList.map fun p => (p.1, a.eval p.2)) [] ((Array.range (n * i.size)).map (fun j => Z[j % Z.size]!)).toList n
                (by simp only [List.length_nil, List.map_map]; rw [← List.range_eq_range', ← hc.1]; simp) (fun q hq => hsz q.2 (by
                  obtain ⟨p, hp, rfl⟩ := List.mem_map.1 hq
                  exact List.mem_map.2 ⟨p, hp, rfl⟩)) (fun v hv => by simp at hv) (by simp; rw [show ps.size = n by simpa using hn])
              simp only [zd, List.flatMap_nil, List.nil_append, Array.toArray_toList, List.map_map] at this
              rw [Array.toList_map]
              exact this
            have hle : ¬ (n * i.size > 2 ^ 24) := by omega
            by_cases h0 : n * i.size = 0
            · have hf := hfill #[]
              rw [h0, Array.toList_map] at hf
              simp only [Instr.buildSlice, Sem.run_bind, run_underlying ht, Result.andThen_ok, kx i1, i2, h0, if_true, Sem.run_pure, newRow, run_newObj, Array.toList_map]
              rw [if_neg (by omega)]
              simp only [Sem.run_bind, Sem.run_pure, Result.andThen_ok]
              rw [hf]
              rfl
            · have hf := hfill z.cells
              rw [Array.toList_map] at hf
              simp only [Instr.buildSlice, Sem.run_bind, run_underlying ht, Result.andThen_ok, kx i1, i2, h0, if_false, QH i1 i4, Sem.run_pure, newRow, run_newObj, Array.toList_map]
              rw [if_neg hle]
              simp only [Sem.run_bind, Sem.run_pure, Result.andThen_ok, QH i1 i4]
              rw [hf]
              rfl
          · simp at h
        · simp at h
      · simp at h
    · simp at h
  · simp at h
theorem qcL (z : Value) (c : Nat) (hz : 0 < z.cells.size) : (madeCells z.cells (c * z.cells.size)).toList = zd (List.replicate c z) := by
  induction c with
  | zero => simp [madeCells, zd]
  | succ c ih =>
    simp only [madeCells, Array.toList_map, Array.toList_range] at ih ⊢
    rw [Nat.succ_mul, List.range_add, List.map_append, ih, List.replicate_succ']
    simp only [kH, List.map_map]
    congr 1
    simp only [zd, List.flatMap_cons, List.flatMap_nil, List.append_nil]
    apply List.ext_getElem
    · simp
    · intro k h1 h2
      have hk : k < z.cells.size := by simpa using h1
      simp [Nat.mul_comm c, Nat.mod_eq_of_lt hk, hk]
theorem qcM {w : World} {B : Nat → Prop} : ∀ (zs : List ZK), zU w B G0 (qaw zs) (zs.map ZK.val) := by
  intro zs
  induction zs with
  | nil => exact zU.nil
  | cons z zs ih =>
    by_cases hz : ∃ sz, z = .sl sz
    · obtain ⟨sz, rfl⟩ := hz
      exact zU.cons .sl0 ih
    · have hz' : ∀ sz, z ≠ .sl sz := fun sz e => hz ⟨sz, e⟩
      have e : qaw (z :: zs) = .v z.val :: qaw zs := by
        cases z <;> first | rfl | exact absurd rfl (hz' _)
      rw [e]
      exact zU.cons (.v (WM hz')) ih
theorem KW {w : World} {B : Nat → Prop} {g : Nat → Gh} {x : SV} {v : Value} (h : RepV w B g x v) (n : Nat) : zU w B g (List.replicate n x) (List.replicate n v) := by
  refine ⟨by simp, fun i y c hy hc => ?_⟩
  have h1 := List.mem_of_getElem? hy
  have h2 := List.mem_of_getElem? hc
  rw [List.eq_of_mem_replicate h1, List.eq_of_mem_replicate h2]
  exact h
theorem qfZ (hT : TabOk P T) {fr : Fr} {os os1 : List SO} {g : Nat → Gh} {w : World} (hm : Mem fr os g w) {t : Nat} {n c y : SV} {nv cv : Value}
    (hn : RepV w (Bk fr os g w) g n nv) (hc : RepV w (Bk fr os g w) g c cv) (h : qax T os t n c = some (y, os1)) :
    ∃ v w', (Instr.makeSlice t nv cv).run P w = .ok v w' ∧ Res fr os g w os1 y v w' := by
  unfold qax at h
  split at h
  · rename_i e k n k' c hu
    obtain rfl := wE hn
    obtain rfl := wE hc
    split at h
    · rename_i i hi
      split at h
      · rename_i hcond
        obtain ⟨c1, c2, c3, c4⟩ := hcond
        split at h
        · rename_i zS hz
          obtain ⟨rfl, rfl⟩ := Prod.mk.inj (Option.some.inj h)
          obtain ⟨info, z, d, i1, i2, i3, i4, i5, i6, i7, i8, i9⟩ := (hT.ti e i hi).ok
          have ht := hT.slice t e hu
          obtain ⟨p1, p2⟩ := KQ hz (qcM (w := w) (B := Bk fr os g w) i.zero)
          have hzc : z.cells.size = i.size := by
            have : z.cells.toList.length = i.size := by rw [i5]; simpa using i9
            simpa using this
          have hzr : RepV w (Bk fr os g w) G0 zS z := by
            cases ha : i.agg with
            | true =>
              have := p1 ha
              obtain ⟨cs, rfl⟩ := i8.1 ha
              rw [← i5] at this
              simpa [Value.cells] using this
            | false =>
              obtain ⟨v, hv, hr⟩ := p2 ha
              rw [← i5, Q8 (i8.2 ha)] at hv
              simp at hv
              rw [hv]; exact hr
          have hz1 : ∀ c, c ∈ z.cells.toList → c.oneCell' = true := fun c hc => by rw [i5] at hc; obtain ⟨q, _, rfl⟩ := List.mem_map.1 hc; exact qcC q
          have hlenz : (List.replicate n.toNat zS).length = n.toNat := by simp
          have hpos : c.toNat = n.toNat + (c.toNat - n.toNat) := by omega
          have hflat : (madeCells z.cells (c.toNat * i.size)).toList = zd (List.replicate n.toNat z) ++ (madeCells z.cells (c.toNat * i.size)).toList.drop (n.toNat * i.size) := by
            by_cases h0 : 0 < z.cells.size
            · rw [← hzc, qcL z c.toNat h0, hpos, ← List.replicate_append_replicate, kH]
              have : (zd (List.replicate n.toNat z)).length = n.toNat * z.cells.size := by
                rw [zN (sz := z.cells.size) (fun v hv => by rw [List.eq_of_mem_replicate hv]; exact ⟨rfl, hz1⟩), List.length_replicate]
              rw [List.drop_left' this]
            · have e0 : i.size = 0 := by omega
              have e1 : z.cells = #[] := by
                have : z.cells.size = 0 := by omega
                exact Array.eq_empty_of_size_eq_zero this
              have e2 : zd (List.replicate n.toNat z) = [] := by
                rw [← List.length_eq_zero_iff, zN (sz := 0) (fun v hv => by rw [List.eq_of_mem_replicate hv]; exact ⟨by rw [e1]; rfl, hz1⟩)]; simp
              rw [e0, e2]; simp
          obtain ⟨g2, m2, gr2, rr⟩ := Jy hm (l := List.replicate n.toNat zS) (junk := (madeCells z.cells (c.toNat * i.size)).toList.drop (n.toNat * i.size)) (sz := i.size) (cap := c.toNat) (KW hzr n.toNat)
            (fun v hv => by rw [List.eq_of_mem_replicate hv]; exact ⟨hzc, hz1⟩) (by simp; omega) (by rw [← hflat]; simp [size_madeCells]) e
          rw [← hflat, Array.toArray_toList] at rr gr2 m2
          rw [hlenz] at rr
          refine ⟨_, _, run_make w t e info z ht i1 i4 k k' n c c1 c2 (by rw [i3]; omega) (by omega), g2, ?_, ?_, ?_⟩
          all_goals (rw [i2]; first | exact m2 | exact gr2 | exact rr)
        · simp at h
      · simp at h
    · simp at h
  · simp at h
end Go.Proofs.Ytfjbclgbpdlkgaa

/- The evaluator S: append and copy. -/
namespace Go.Proofs.Ytfjbclgbpdlkgaa
open Go
set_option linter.unusedVariables false
set_option linter.unusedSimpArgs false
variable {P : Program} {T : Tab}
theorem QJ {fr : Fr} {os : List SO} {g : Nat → Gh} {w w' : World} (hm : Mem fr os g w) (so : z6 w w') {j : Nat} {lt : Bool} {sz : Nat} {l : List SV} (hj : os[j]? = some (.arr lt sz l)) (o : SO) (x : Gh) (hs : w.heap.size ≤ w'.heap.size)
    (hw : ∀ c, c < w.heap.size → (g j).block? ≠ some c → w'.heap[c]? = w.heap[c]?) (hx : ∀ c, x.block? = some c → ((g j).block? = some c ∨ w.heap.size ≤ c) ∧ c < w'.heap.size) :
    Chg fr os g w (os.set j .dead ++ [o]) (upd g os.length x) w' (fun c => (g j).block? = some c) where
  out := so
  size := hs
  same c hc hne := hw c hc hne
  only c hc := ⟨j, _, hj, rfl, hc⟩
  ext k hk := by
    unfold upd
    split
    · rename_i e; subst e; exact absurd (hm.fresh _ (Nat.le_refl _)) hk
    · rfl
  live c hc := by
    obtain ⟨k, o', hk, hl, hb⟩ := hc
    rcases ky _ _ _ _ hk with ⟨h1, h2⟩ | ⟨rfl, rfl⟩
    · have hg : upd g os.length x k = g k := by unfold upd; rw [if_neg (by simp at h1; omega)]
      rw [hg] at hb
      rw [List.getElem?_set] at h2
      split at h2
      · rename_i e
        subst e
        have : o' = .dead := by
          first
            | exact (Option.some.inj h2).symm
            | (split at h2 <;> first | exact (Option.some.inj h2).symm | simp at h2)
        subst this
        simp [SO.isLive] at hl
      · have : live os g c := ⟨k, o', h2, hl, hb⟩
        exact ⟨.inl this, Nat.lt_of_lt_of_le (hm.own c this).1 hs⟩
    · have hg : upd g os.length x (os.set j .dead).length = x := by unfold upd; rw [if_pos (by simp)]
      rw [hg] at hb
      obtain ⟨h1, h2⟩ := hx c hb
      exact ⟨h1.imp (fun h => ⟨j, _, hj, rfl, h⟩) id, h2⟩
theorem KX {fr : Fr} {os : List SO} {g : Nat → Gh} {w w' : World} (hm : Mem fr os g w) (so : z6 w w') {j : Nat} {lt : Bool} {sz sz' : Nat} {l l' : List SV} (hj : os[j]? = some (.arr lt sz l)) (x : Gh) (hs : w.heap.size ≤ w'.heap.size)
    (hw : ∀ c, c < w.heap.size → (g j).block? ≠ some c → w'.heap[c]? = w.heap[c]?) (hx : ∀ c, x.block? = some c → ((g j).block? = some c ∨ w.heap.size ≤ c) ∧ c < w'.heap.size)
    (hok : y7 w' (Bk fr (os.set j .dead ++ [.arr lt sz' l']) (upd g os.length x) w') (upd g os.length x) os.length (.arr lt sz' l')) :
    Mem fr (os.set j .dead ++ [.arr lt sz' l']) (upd g os.length x) w' := by
  have hjl := q6 hj
  have hold : ∀ k, k < os.length → upd g os.length x k = g k := fun k hk => by unfold upd; rw [if_neg (by omega)]
  have hnew : upd g os.length x os.length = x := by unfold upd; rw [if_pos rfl]
  have back : ∀ {k : Nat} {o : SO}, (os.set j .dead ++ [.arr lt sz' l'])[k]? = some o → (k = j ∧ o = .dead) ∨ (k ≠ j ∧ k < os.length ∧ os[k]? = some o) ∨ (k = os.length ∧ o = .arr lt sz' l') := by
    intro k o hk
    rcases ky _ _ _ _ hk with ⟨h1, h2⟩ | ⟨h1, h2⟩
    · rw [List.getElem?_set] at h2
      split at h2
      · rename_i e
        subst e
        refine .inl ⟨rfl, ?_⟩
        first
          | exact (Option.some.inj h2).symm
          | (split at h2 <;> first | exact (Option.some.inj h2).symm | simp at h2)
      · rename_i e
        exact .inr (.inl ⟨fun h => e h.symm, by simpa using h1, h2⟩)
    · exact .inr (.inr ⟨by simpa using h1, h2⟩)
  have hlt : ∀ {i : Nat} {oi : SO} {b : Nat}, os[i]? = some oi → oi.isLive = true → (g i).block? = some b → b < w.heap.size := fun h1 h2 h3 => (hm.own _ ⟨_, _, h1, h2, h3⟩).1
  refine (QJ hm so hj _ x hs hw hx).mem hm ?_ ?_ ?_ ?_
  · intro k o hk
    rcases back hk with ⟨rfl, rfl⟩ | ⟨h1, h2, h3⟩ | ⟨rfl, rfl⟩
    · exact .inr trivial
    · exact .inl ⟨h3, fun c hl hc e => h1 (hm.inj k j o _ c h3 hj hl rfl hc e)⟩
    · exact .inr hok
  · intro k hk
    simp at hk
    unfold upd
    rw [if_neg (by omega)]
    exact hm.fresh k (by omega)
  · intro i k oi ok c hi hk li lk bi bk
    rcases back hi with ⟨rfl, rfl⟩ | ⟨i1, i2, i3⟩ | ⟨rfl, rfl⟩
    · simp [SO.isLive] at li
    · rcases back hk with ⟨rfl, rfl⟩ | ⟨k1, k2, k3⟩ | ⟨rfl, rfl⟩
      · simp [SO.isLive] at lk
      · rw [hold i i2] at bi; rw [hold k k2] at bk; exact hm.inj i k oi ok c i3 k3 li lk bi bk
      · rw [hold i i2] at bi; rw [hnew] at bk
        rcases (hx c bk).1 with h | h
        · exact absurd (hm.inj i j oi _ c i3 hj li rfl bi h) i1
        · have := hlt i3 li bi; omega
    · rcases back hk with ⟨rfl, rfl⟩ | ⟨k1, k2, k3⟩ | ⟨rfl, rfl⟩
      · simp [SO.isLive] at lk
      · rw [hnew] at bi; rw [hold k k2] at bk
        rcases (hx c bi).1 with h | h
        · exact absurd (hm.inj k j ok _ c k3 hj lk rfl bk h) k1
        · have := hlt k3 lk bk; omega
      · rfl
  · intro k sz'' l'' c hk hc
    rcases back hk with ⟨rfl, e⟩ | ⟨k1, k2, k3⟩ | ⟨rfl, e⟩
    · cases e
    · rw [hold k k2] at hc; exact hm.mine k sz'' l'' c k3 hc
    · cases e
      rw [hnew] at hc
      rcases (hx c hc).1 with h | h
      · exact hm.mine j sz l c hj h
      · exact Nat.le_trans hm.size h
theorem wS {w : World} {B : Nat → Prop} {l : List SV} {sz : Nat} {a : Option Addr} {c : Nat}
    (h : l = [] ∨ ∃ b o vs, a = some ⟨b, o, none⟩ ∧ zU w B G0 l vs ∧ (∀ v : Value, v ∈ vs → jT sz v) ∧ zM w b o (zd vs)) :
    ∃ vs, zU w B G0 l vs ∧ (∀ v : Value, v ∈ vs → jT sz v) ∧ ∀ w' : World, w'.heap = w.heap → ∀ n, n ≤ l.length → ∀ len,
      (Builtin.firstCells sz n (.slice a len c)).run P w' = .ok (zd (vs.take n)).toArray w' := by
  rcases h with rfl | ⟨b, o, vs, rfl, h1, h2, h3⟩
  · refine ⟨[], zU.nil, fun v hv => by simp at hv, fun w' hw n hn len => ?_⟩
    obtain rfl : n = 0 := by simpa using hn
    cases a <;> simp [Builtin.firstCells, loadCells, loadCellsFrom, zd]
  · refine ⟨vs, h1, h2, fun w' hw n hn len => ?_⟩
    have hlen : (zd (vs.take n)).length = n * sz := by
      rw [zN (fun v hv => h2 v (List.mem_of_mem_take hv)), List.length_take, Nat.min_eq_left (by rw [← h1.1]; exact hn)]
    refine run_firstCells_some w' sz n ⟨b, o, none⟩ len c _ hlen fun k v hk => ?_
    rw [Addr.add_lit, jU (show w'.heap[b]? = w.heap[b]? by rw [hw])]
    have := h3.take (n * sz)
    rw [yB h2] at this
    exact this k v hk
theorem jr {t t' ty e e' : Nat} {info : TypeInfo} (ht : P.underlying t = some (.slice e)) (ht' : P.underlying t' = some (.slice e')) (hi : P.info? e = some info) {w w' : World} {base xa : Option Addr} {sLen sCap n xc : Nat}
    (hfit : sLen + n ≤ sCap) {new : Array Value} (hx : (Builtin.firstCells info.size n (.slice xa n xc)).run P w = .ok new w)
    (hst : match base with | some a => (storeCells (a.add (sLen * info.size)) new.toList).run P w = .ok () w' | none => w' = w) :
    (Builtin.append_ #[t, t'] ty #[.slice base sLen sCap, .slice xa n xc]).run P w = .ok (.slice base (sLen + n) sCap) w' := by
  cases base with
  | none =>
    simp only at hst
    subst hst
    simp [Builtin.append_, run_underlying ht, run_underlying ht', kx hi, Builtin.lenOf, hfit, hx]
  | some a =>
    simp only at hst
    simp [Builtin.append_, run_underlying ht, run_underlying ht', kx hi, Builtin.lenOf, hfit, hx, hst]
theorem ZR {t t' ty e e' : Nat} {info : TypeInfo} {z : Value} (ht : P.underlying t = some (.slice e)) (ht' : P.underlying t' = some (.slice e')) (hi : P.info? e = some info) (hz : info.zero = some z) {w : World} {base xa : Option Addr} {sLen sCap n xc : Nat}
    (hfit : ¬ sLen + n ≤ sCap) (hb : 0 < info.bytes) (hl : info.bytes * (sLen + n) ≤ 2 ^ 47) {old new : Array Value} (hx : (Builtin.firstCells info.size n (.slice xa n xc)).run P w.drew = .ok new w.drew)
    (hs : (Builtin.firstCells info.size sLen (.slice base sLen sCap)).run P w.drew = .ok old w.drew) :
    ∃ cap, sLen + n ≤ cap ∧ (Builtin.append_ #[t, t'] ty #[.slice base sLen sCap, .slice xa n xc]).run P w =
      .ok (.slice (some ⟨w.heap.size, 0, none⟩) (sLen + n) cap) (w.drew.alloc (.cells (old ++ new ++ Builtin.zeroCells z.cells (cap - (sLen + n))) e)) := by
  have h1 : sLen + n ≤ info.bytes * (sLen + n) := Nat.le_mul_of_pos_left _ hb
  have h2 := nextslicecap_le (need := sLen + n) (old := sCap) (by omega)
  have h3 : Builtin.nextslicecap (sLen + n) sCap * info.bytes ≤ 2 ^ 48 := by
    have := Nat.mul_le_mul_right info.bytes h2
    rw [Nat.mul_assoc, Nat.mul_comm (sLen + n)] at this
    omega
  have e1 : ¬ ((((sLen + n : Nat) : Int)) > IntKind.i64.max ∧ (False ∨ info.bytes = 0)) := by simp; omega
  have e2 : ¬ (Builtin.nextslicecap (sLen + n) sCap * info.bytes > 2 ^ 48) := by omega
  refine ⟨grownCap w (sLen + n) sCap e, by unfold grownCap; simp only [Question.cut]; omega, ?_⟩
  have e3 : ¬ (281474976710656 < Builtin.nextslicecap (sLen + n) sCap * info.bytes) := by omega
  have e4 : ¬ info.bytes = 0 := by omega
  simp [Builtin.append_, run_underlying ht, run_underlying ht', kx hi, KP hi, Builtin.lenOf, hfit, e3, e4, Question.forced, hx, hs, QH hi hz, newRow, grownCap, -Array.append_assoc]
theorem qaG (hT : TabOk P T) {fr : Fr} {os os1 : List SO} {g : Nat → Gh} {w : World} (hm : Mem fr os g w) {t t' ty : Nat} {s x y : SV} {sv xv : Value}
    (hs : RepV w (Bk fr os g w) g s sv) (hx : RepV w (Bk fr os g w) g x xv) (h : zx T os t t' s x = some (y, os1)) :
    ∃ v w', (Builtin.append_ #[t, t'] ty #[sv, xv]).run P w = .ok v w' ∧ Res fr os g w os1 y v w' := by
  unfold zx at h
  split at h
  · rename_i e e' j hu hu'
    split at h
    · rename_i i lt sz l sz' r hi hj hr
      split at h
      · rename_i hc
        obtain ⟨rfl, rfl, c3, c4⟩ := hc
        obtain ⟨rfl, rfl⟩ := Prod.mk.inj (Option.some.inj h)
        obtain ⟨info, z, d, i1, i2, i3, i4, i5, i6, i7, i8, i9⟩ := (hT.ti e i hi).ok
        have ht := hT.slice t e hu
        have ht' := hT.slice t' e' hu'
        have hzc : z.cells.size = i.size := by
          have : z.cells.toList.length = i.size := by rw [i5]; simpa using i9
          simpa using this
        obtain ⟨xa, xc, rfl, hxc, hxr⟩ := yC hm hx hr
        obtain ⟨us, u1, u2, u3⟩ := wS (P := P) (c := xc) hxr
        have hus : us.take r.length = us := List.take_of_length_le (by rw [u1.1]; exact Nat.le_refl _)
        have hbase : ∃ base cap vs, sv = .slice base l.length cap ∧ l.length ≤ cap ∧ zU w (Bk fr os g w) G0 l vs ∧ (∀ v : Value, v ∈ vs → jT i.size v) ∧
            ((base = none ∧ l = [] ∧ cap = 0 ∧ g j = .nil) ∨ ∃ b, base = some ⟨b, 0, none⟩ ∧ g j = .blk b i.size l.length cap ∧ zM w b 0 (zd vs) ∧ qaB w b (cap * i.size)) := by
          rcases hm.objs _ _ hj with ⟨rfl, hn⟩ | ⟨b, cap, vs, e1, e2, e3, e4, e5, e6⟩
          · cases hs with
            | osl0 => exact ⟨none, 0, [], rfl, Nat.le_refl _, zU.nil, fun v hv => by simp at hv, .inl ⟨rfl, rfl, rfl, hn⟩⟩
            | osl hg => rw [hn] at hg; cases hg
          · cases hs with
            | osl0 hg => rw [e1] at hg; cases hg
            | osl hg => rw [e1] at hg; cases hg; exact ⟨_, _, vs, rfl, e2, e3, e4, .inr ⟨b, rfl, e1, e5, e6⟩⟩
        obtain ⟨base, cap, vs, rfl, b1, b2, b3, b4⟩ := hbase
        have hlv : vs.length = l.length := b2.1.symm
        have hallsz : ∀ v : Value, v ∈ vs ++ us → jT i.size v := fun v hv => by
          rcases List.mem_append.1 hv with hv | hv
          · exact b3 v hv
          · exact u2 v hv
        by_cases hfit : l.length + r.length ≤ cap
        · -- there is room
          rcases b4 with ⟨rfl, rfl, rfl, hn⟩ | ⟨b, rfl, e1, e5, e6⟩
          · have hr0 : r = [] := by rw [← List.length_eq_zero_iff]; simpa using hfit
            subst hr0
            have hx0 : ∀ c, Gh.nil.block? = some c → ((g j).block? = some c ∨ w.heap.size ≤ c) ∧ c < w.heap.size := fun c hc => by simp [Gh.block?] at hc
            have hnew : upd g os.length .nil os.length = .nil := by unfold upd; rw [if_pos rfl]
            have hg := (QJ hm (z6.refl _) hj (.arr lt i.size ([] ++ [])) .nil (Nat.le_refl _) (fun _ _ _ => rfl) hx0).grow
            have hrun := jr (P := P) (ty := ty) ht ht' i1 (w := w) (w' := w) (base := none) (sLen := 0) (sCap := 0) (xc := xc) hfit (by rw [i2]; exact u3 w rfl _ (Nat.le_refl _) _) rfl
            exact ⟨_, _, hrun, _, KX hm (z6.refl _) hj .nil (Nat.le_refl _) (fun _ _ _ => rfl) hx0 (.inl ⟨rfl, hnew⟩), hg, .osl0 hnew⟩
          · have hrun := jr (P := P) (ty := ty) ht ht' i1 (w := w) (w' := w.setCells b (l.length * i.size) (zd us)) (base := some ⟨b, 0, none⟩) (sLen := l.length) (sCap := cap) (xc := xc) hfit (by rw [i2]; exact u3 w rfl _ (Nat.le_refl _) _)
              (by
                simp only [i2, Addr.add_lit, Nat.zero_add, hus]
                refine jV e6 ?_ ?_
                · rw [zN u2, ← u1.1, ← Nat.add_mul]; exact Nat.mul_le_mul_right _ hfit
                · intro v hv; obtain ⟨u, hu, hv⟩ := List.mem_flatMap.1 hv; exact (u2 u hu).2 v hv)
            have hs' := wh b (zd us) (l.length * i.size) w
            have hblk : (g j).block? = some b := by rw [e1]; rfl
            have hw : ∀ c, c < w.heap.size → (g j).block? ≠ some c → (w.setCells b (l.length * i.size) (zd us)).heap[c]? = w.heap[c]? := fun c _ hc => kC b c (fun e => hc (by rw [hblk, e])) _ _ _
            have hlive : live os g b := ⟨j, _, hj, rfl, hblk⟩
            have hx0 : ∀ c, (Gh.blk b i.size (l ++ r).length cap).block? = some c → ((g j).block? = some c ∨ w.heap.size ≤ c) ∧ c < (w.setCells b (l.length * i.size) (zd us)).heap.size := fun c hc => by
              simp only [Gh.block?, Option.some.injEq] at hc
              subst hc
              exact ⟨.inl hblk, by rw [hs']; exact (hm.own b hlive).1⟩
            have hnew : upd g os.length (.blk b i.size (l ++ r).length cap) os.length = .blk b i.size (l ++ r).length cap := by unfold upd; rw [if_pos rfl]
            have hg := (QJ hm (kp _ _ _ _) hj (.arr lt i.size (l ++ r)) _ (by omega) hw hx0).grow
            refine ⟨_, _, hrun, _, KX hm (kp _ _ _ _) hj _ (by omega) hw hx0 (.inr ⟨b, cap, vs ++ us, hnew, by simpa using hfit, ?_, hallsz, ?_, wR e6 _ _⟩), hg, ?_⟩
            · exact (b2.append u1).mono hg.sub hg.same (fun _ h => absurd rfl h)
            · have hlen : (zd vs).length = l.length * i.size := by rw [zN b3, hlv]
              have := wB (o := l.length * i.size) (vs := zd us) e6 e5 (by omega) (by rw [zN u2, ← u1.1, ← Nat.add_mul]; exact Nat.mul_le_mul_right _ hfit)
              rw [List.take_of_length_le (by omega), List.drop_eq_nil_of_le (by omega), List.append_nil, ← kH] at this
              exact this
            · have := RepV.osl (w := w.setCells b (l.length * i.size) (zd us)) (B := Bk fr (os.set j .dead ++ [.arr lt i.size (l ++ r)]) (upd g os.length (.blk b i.size (l ++ r).length cap)) (w.setCells b (l.length * i.size) (zd us))) hnew
              simpa using this
        · -- a new array
          have hvs : ∀ w' : World, w'.heap = w.heap → (Builtin.firstCells i.size l.length (.slice base l.length cap)).run P w' = .ok (zd vs).toArray w' := by
            intro w' hw'
            obtain ⟨vs', p1, p2, p3⟩ := wS (P := P) (w := w) (B := Bk fr os g w) (l := l) (sz := i.size) (a := base) (c := cap) (by
              rcases b4 with ⟨rfl, rfl, rfl, hn⟩ | ⟨b, rfl, e1, e5, e6⟩
              · exact .inl rfl
              · exact .inr ⟨b, 0, vs, rfl, b2, b3, e5⟩)
            rcases b4 with ⟨rfl, rfl, rfl, hn⟩ | ⟨b, rfl, e1, e5, e6⟩
            · have : vs = [] := by rw [← List.length_eq_zero_iff]; simpa using hlv
              subst this
              simp [Builtin.firstCells, zd]
            · have hlen : (zd vs).length = l.length * i.size := by rw [zN b3, hlv]
              refine run_firstCells_some w' i.size l.length ⟨b, 0, none⟩ _ _ _ hlen fun k v hk => ?_
              rw [Addr.add_lit, jU (show w'.heap[b]? = w.heap[b]? by rw [hw'])]
              exact e5 k v hk
          obtain ⟨cap', hcap, hrun⟩ := ZR (P := P) (ty := ty) ht ht' i1 i4 (w := w) (base := base) (xa := xa) (sLen := l.length) (sCap := cap) (n := r.length) (xc := xc) hfit (by rw [i3]; exact c4) (by rw [i3]; exact c3)
            (by rw [i2]; exact u3 w.drew rfl _ (Nat.le_refl _) _) (by rw [i2]; exact hvs w.drew rfl)
          rw [hus] at hrun
          have hnew : upd g os.length (.blk w.heap.size i.size (l ++ r).length cap') os.length = .blk w.heap.size i.size (l ++ r).length cap' := by unfold upd; rw [if_pos rfl]
          have hx0 : ∀ (o : Obj), ∀ c, (Gh.blk w.heap.size i.size (l ++ r).length cap').block? = some c → ((g j).block? = some c ∨ w.heap.size ≤ c) ∧ c < (w.drew.alloc o).heap.size := fun o c hc => by
            simp only [Gh.block?, Option.some.injEq] at hc
            subst hc
            exact ⟨.inr (Nat.le_refl _), by simp⟩
          have hs' : ∀ (o : Obj), w.heap.size ≤ (w.drew.alloc o).heap.size := fun o => by simp
          have hw : ∀ (o : Obj), ∀ c, c < w.heap.size → (g j).block? ≠ some c → (w.drew.alloc o).heap[c]? = w.heap[c]? := fun o c hc _ => kQ w.drew o c hc
          have hg := fun o => (QJ hm (Jw w o) hj (.arr lt i.size (l ++ r)) _ (hs' o) (hw o) (hx0 o)).grow
          refine ⟨_, _, hrun, _, KX hm (Jw w _) hj _ (hs' _) (hw _) (hx0 _) (.inr ⟨w.heap.size, cap', vs ++ us, hnew, by simpa using hcap, ?_, hallsz, ?_, ?_⟩), hg _, ?_⟩
          · exact (b2.append u1).mono (hg _).sub (hg _).same (fun _ h => absurd rfl h)
          · have := (w2 w.drew ((zd vs).toArray ++ (zd us).toArray ++ Builtin.zeroCells z.cells (cap' - (l.length + r.length))) e).take (zd (vs ++ us)).length
            simp only [World.size_drew, Array.toList_append, kH] at this ⊢
            rw [List.take_left'] at this
            · exact this
            · simp
          · refine yu w.drew _ e _ ?_
            have h1 : (zd vs).length = l.length * i.size := by rw [zN b3, hlv]
            have h2 : (zd us).length = r.length * i.size := by rw [zN u2, u1.1]
            simp only [Array.size_append, List.size_toArray, h1, h2, size_zeroCells, hzc]
            rw [← Nat.add_mul, ← Nat.add_mul]
            exact Nat.mul_le_mul_right _ (by omega)
          · have := fun W => RepV.osl (w := W) (B := Bk fr (os.set j .dead ++ [.arr lt i.size (l ++ r)]) (upd g os.length (.blk w.heap.size i.size (l ++ r).length cap')) W) hnew
            simpa using this _
      · simp at h
    · simp at h
  · simp at h
end Go.Proofs.Ytfjbclgbpdlkgaa

/- The evaluator S: copy and conversions. -/
namespace Go.Proofs.Ytfjbclgbpdlkgaa
open Go
set_option linter.unusedVariables false
set_option linter.unusedSimpArgs false
variable {P : Program} {T : Tab}
theorem qiP {fr : Fr} {os : List SO} {g : Nat → Gh} {w : World} (hm : Mem fr os g w) {j sz : Nat} {lt : Bool} {l : List SV} {sv : Value} (hj : os[j]? = some (.arr lt sz l))
    (hs : RepV w (Bk fr os g w) g (.osl j) sv) :
    ∃ base cap vs, sv = .slice base l.length cap ∧ l.length ≤ cap ∧ zU w (Bk fr os g w) G0 l vs ∧ (∀ v : Value, v ∈ vs → jT sz v) ∧
      ((base = none ∧ l = [] ∧ cap = 0 ∧ g j = .nil) ∨ ∃ b, base = some ⟨b, 0, none⟩ ∧ g j = .blk b sz l.length cap ∧ zM w b 0 (zd vs) ∧ qaB w b (cap * sz)) := by
  rcases hm.objs _ _ hj with ⟨rfl, hn⟩ | ⟨b, cap, vs, e1, e2, e3, e4, e5, e6⟩
  · cases hs with
    | osl0 => exact ⟨none, 0, [], rfl, Nat.le_refl _, zU.nil, fun v hv => by simp at hv, .inl ⟨rfl, rfl, rfl, hn⟩⟩
    | osl hg => rw [hn] at hg; cases hg
  · cases hs with
    | osl0 hg => rw [e1] at hg; cases hg
    | osl hg => rw [e1] at hg; cases hg; exact ⟨_, _, vs, rfl, e2, e3, e4, .inr ⟨b, rfl, e1, e5, e6⟩⟩
theorem KY {os : List SO} {j : Nat} {o : SO} (h : os[j]? = some o) : os.set j o = os := by
  apply List.ext_getElem?
  intro k
  rw [List.getElem?_set]
  split
  · rename_i e
    subst e
    first
      | exact h.symm
      | (rw [if_pos (q6 h)]; exact h.symm)
  · rfl
theorem WQ {fr : Fr} {os : List SO} {g : Nat → Gh} {w : World} (hm : Mem fr os g w) {j sz : Nat} {lt : Bool} {l r : List SV} {vs us : List Value} {b cap lo : Nat} (hj : os[j]? = some (.arr lt sz l))
    (e1 : g j = .blk b sz l.length cap) (e2 : l.length ≤ cap) (e3 : zU w (Bk fr os g w) G0 l vs) (e4 : ∀ v : Value, v ∈ vs → jT sz v) (e5 : zM w b 0 (zd vs)) (e6 : qaB w b (cap * sz))
    (hr : zU w (Bk fr os g w) G0 r us) (hu : ∀ v : Value, v ∈ us → jT sz v) (hle : lo + r.length ≤ l.length) :
    (storeCells ⟨b, lo * sz, none⟩ (zd us)).run P w = .ok () (w.setCells b (lo * sz) (zd us)) ∧
    Mem fr (os.set j (.arr lt sz (l.take lo ++ r ++ l.drop (lo + r.length)))) g (w.setCells b (lo * sz) (zd us)) ∧
    Grow fr os g w (os.set j (.arr lt sz (l.take lo ++ r ++ l.drop (lo + r.length)))) g (w.setCells b (lo * sz) (zd us)) := by
  have hul : (zd us).length = r.length * sz := by rw [zN hu, hr.1]
  have hvl : (zd vs).length = l.length * sz := by rw [zN e4, e3.1]
  have hmul : (lo + r.length) * sz ≤ l.length * sz := Nat.mul_le_mul_right _ hle
  have hmul2 : l.length * sz ≤ cap * sz := Nat.mul_le_mul_right _ e2
  rw [Nat.add_mul] at hmul
  have hb : (g j).block? = some b := by rw [e1]; rfl
  have hs := wh b (zd us) (lo * sz) w
  have hw := fun c (hc : c ≠ b) => kC b c (fun e => hc e.symm) (zd us) (lo * sz) w
  have hg := (Q7 hm (kp _ _ _ _) hj rfl hb (o' := .arr lt sz (l.take lo ++ r ++ l.drop (lo + r.length))) rfl hs hw).grow
  refine ⟨jV e6 (by omega) (fun v hv => by obtain ⟨u, hu', hv⟩ := List.mem_flatMap.1 hv; exact (hu u hu').2 v hv), KV hm (kp _ _ _ _) hj rfl hb rfl (fun sz' l' e => by cases e; exact ⟨_, _, rfl⟩) hs hw ?_, hg⟩
  have hlen : (l.take lo ++ r ++ l.drop (lo + r.length)).length = l.length := by simp; omega
  refine .inr ⟨b, cap, vs.take lo ++ us ++ vs.drop (lo + us.length), by rw [hlen]; exact e1, by rw [hlen]; exact e2, ?_, ?_, ?_, wR e6 _ _⟩
  · have := ((e3.take lo).append hr).append (e3.drop (lo + r.length))
    rw [← hr.1]
    exact this.mono hg.sub hg.same (fun _ h => absurd rfl h)
  · intro v hv
    simp only [List.mem_append] at hv
    rcases hv with (hv | hv) | hv
    · exact e4 v (List.mem_of_mem_take hv)
    · exact hu v hv
    · exact e4 v (List.mem_of_mem_drop hv)
  · have := wB (o := lo * sz) (vs := zd us) e6 e5 (by omega) (by omega)
    rw [hul, ← Nat.add_mul, yB e4, yA e4] at this
    rw [kH, kH, ← hr.1]
    exact this
theorem QK {t t' e ty : Nat} {info : TypeInfo} (ht : P.underlying t = some (.slice e)) (hi : P.info? e = some info) {w w' : World} {base xa : Option Addr} {dl dc n xc : Nat} {cells : Array Value}
    (hx : (Builtin.firstCells info.size (min n dl) (.slice xa n xc)).run P w = .ok cells w) (hst : match base with | some a => (storeCells a cells.toList).run P w = .ok () w' | none => w' = w) :
    (Builtin.copy_ #[t, t'] ty #[.slice base dl dc, .slice xa n xc]).run P w = .ok (.int .i64 ((min n dl : Nat) : Int)) w' := by
  cases base with
  | none =>
    simp only at hst
    subst hst
    simp [Builtin.copy_, run_underlying ht, kx hi, Builtin.lenOf, hx, goInt]
  | some a =>
    simp only at hst
    simp [Builtin.copy_, run_underlying ht, kx hi, Builtin.lenOf, hx, hst, goInt]
theorem qf0 (hT : TabOk P T) {fr : Fr} {os os1 : List SO} {g : Nat → Gh} {w : World} (hm : Mem fr os g w) {t t' ty : Nat} {s x y : SV} {sv xv : Value}
    (hs : RepV w (Bk fr os g w) g s sv) (hx : RepV w (Bk fr os g w) g x xv) (h : qfU T os t s x = some (y, os1)) :
    ∃ v w', (Builtin.copy_ #[t, t'] ty #[sv, xv]).run P w = .ok v w' ∧ Res fr os g w os1 y v w' := by
  unfold qfU at h
  split at h
  · rename_i e j sz' r hu hr
    split at h
    · rename_i i lt sz l hi hj
      split at h
      · rename_i hc
        obtain ⟨rfl, rfl⟩ := hc
        obtain ⟨rfl, rfl⟩ := Prod.mk.inj (Option.some.inj h)
        obtain ⟨info, z, d, i1, i2, i3, i4, i5, i6, i7, i8, i9⟩ := (hT.ti e i hi).ok
        have ht := hT.slice t e hu
        obtain ⟨xa, xc, rfl, hxc, hxr⟩ := yC hm hx hr
        obtain ⟨us, u1, u2, u3⟩ := wS (P := P) (c := xc) hxr
        obtain ⟨base, cap, vs, rfl, b1, b2, b3, b4⟩ := qiP hm hj hs
        have hread := u3 w rfl (min r.length l.length) (Nat.min_le_left _ _) r.length
        rw [← i2] at hread
        rcases b4 with ⟨rfl, rfl, rfl, hn⟩ | ⟨b, rfl, e1, e5, e6⟩
        · refine ⟨_, w, QK ht i1 (t' := t') (ty := ty) (w' := w) (dl := 0) (by simpa using hread) rfl, ?_⟩
          have e : (r.take (min r.length ([] : List SV).length) ++ ([] : List SV).drop (min r.length ([] : List SV).length)) = [] := by simp
          rw [e, KY hj]
          exact Res.same hm (.v rfl)
        · have hm1 : (r.take (min r.length l.length)).length = min r.length l.length := by simp
          obtain ⟨q1, q2, q3⟩ := WQ (P := P) (lo := 0) (r := r.take (min r.length l.length)) (us := us.take (min r.length l.length)) hm hj e1 b1 b2 b3 e5 e6 (u1.take _) (fun v hv => u2 v (List.mem_of_mem_take hv)) (by rw [hm1]; omega)
          rw [hm1] at q2 q3
          simp only [List.take_zero, List.nil_append, Nat.zero_add, Nat.zero_mul] at q1 q2 q3
          exact ⟨_, _, QK ht i1 (t' := t') (ty := ty) hread (by simpa using q1), g, q2, q3, .v rfl⟩
      · simp at h
    · simp at h
  · rename_i e j lo hi' sz' r hu hr
    split at h
    · rename_i i lt sz l hi hj
      split at h
      · rename_i hc
        obtain ⟨rfl, c1, c2, rfl⟩ := hc
        obtain ⟨rfl, rfl⟩ := Prod.mk.inj (Option.some.inj h)
        obtain ⟨info, z, d, i1, i2, i3, i4, i5, i6, i7, i8, i9⟩ := (hT.ti e i hi).ok
        have ht := hT.slice t e hu
        obtain ⟨xa, xc, rfl, hxc, hxr⟩ := yC hm hx hr
        obtain ⟨us, u1, u2, u3⟩ := wS (P := P) (c := xc) hxr
        have hread := u3 w rfl (min r.length (hi' - lo)) (Nat.min_le_left _ _) r.length
        rw [← i2] at hread
        have hm1 : (r.take (min r.length (hi' - lo))).length = min r.length (hi' - lo) := by simp
        cases hs with
        | vw0 =>
          rename_i c a
          have hz : min r.length (lo - lo) = 0 := by simp
          rw [hz] at hread ⊢
          have e : (l.take lo ++ r.take 0 ++ l.drop (lo + 0)) = l := by simp
          rw [e, KY hj]
          have hcells : zd (us.take 0) = [] := by simp [zd]
          rw [hcells] at hread
          have := QK (P := P) ht i1 (t' := t') (ty := ty) (w' := w) (base := a) (dl := 0) (dc := c) (n := r.length) (xa := xa) (xc := xc) (cells := #[]) (by simpa using hread) (by cases a <;> rfl)
          exact ⟨_, w, by simpa using this, Res.same hm (.v rfl)⟩
        | vw hg a1 a2 a3 =>
          rcases hm.objs _ _ hj with ⟨rfl, hn⟩ | ⟨b, cap, vs, e1, e2, e3, e4, e5, e6⟩
          · rw [hn] at hg; cases hg
          · rw [e1] at hg
            cases hg
            obtain ⟨q1, q2, q3⟩ := WQ (P := P) (lo := lo) (r := r.take (min r.length (hi' - lo))) (us := us.take (min r.length (hi' - lo))) hm hj e1 e2 e3 e4 e5 e6 (u1.take _) (fun v hv => u2 v (List.mem_of_mem_take hv)) (by rw [hm1]; omega)
            rw [hm1] at q2 q3
            exact ⟨_, _, QK ht i1 (t' := t') (ty := ty) hread (by simpa using q1), g, q2, q3, .v rfl⟩
      · simp at h
    · simp at h
  · simp at h
theorem Y0 {w : World} {B : Nat → Prop} {g : Nat → Gh} : ∀ {l : List SV} {vs : List Value} {bs : List UInt8}, zU w B g l vs → bytesOf l = some bs →
    ∃ ns : List Int, vs = ns.map (Value.int .u8) ∧ bs = ns.map fun n => UInt8.ofNat n.toNat := by
  intro l
  induction l with
  | nil =>
    intro vs bs h hb
    have := h.1
    simp only [bytesOf, Option.some.injEq] at hb
    subst hb
    cases vs with
    | nil => exact ⟨[], rfl, rfl⟩
    | cons => simp at this
  | cons x l ih =>
    intro vs bs h hb
    obtain ⟨v, vs', rfl, hv, hl⟩ := h.uncons
    unfold bytesOf at hb
    split at hb
    · simp_all
    · rename_i n xs e
      cases e
      obtain rfl := wE hv
      split at hb
      · rename_i r hr
        obtain rfl := Option.some.inj hb
        obtain ⟨ns, rfl, rfl⟩ := ih hl hr
        exact ⟨n :: ns, rfl, rfl⟩
      · simp at hb
    · simp at hb
theorem qaH (ns : List Int) : ∀ (s : ByteArray), ns.foldl (fun r n => r.push (UInt8.ofNat n.toNat)) s = ⟨(s.data.toList ++ ns.map fun n => UInt8.ofNat n.toNat).toArray⟩ := by
  induction ns with
  | nil => intro s; simp
  | cons n ns ih =>
    intro s
    rw [List.foldl_cons, ih]
    simp [ByteArray.push]
theorem xG (w : World) (e : Nat) (s : ByteArray) :
    ∃ cap, s.size ≤ cap ∧ ∃ w', (Conv.stringToBytes e s).run P w = .ok (.slice (some ⟨w.heap.size, 0, none⟩) s.size cap) w' ∧ z6 w w' ∧ w'.heap.size = w.heap.size + 1 ∧ (∀ b, b < w.heap.size → w'.heap[b]? = w.heap[b]?) ∧
      w'.heap[w.heap.size]? = some (.cells (s.data.map (fun b => Value.int .u8 b.toNat) ++ Array.replicate (cap - s.size) (.int .u8 0)) e
        ((s.data.map (fun b => Value.int .u8 b.toNat) ++ Array.replicate (cap - s.size) (Value.int .u8 0)).size, (s.data.map (fun b => Value.int .u8 b.toNat) ++ Array.replicate (cap - s.size) (Value.int .u8 0)).size + 1)) := by
  refine ⟨grownCap w s.size 0 e, by unfold grownCap; simp only [Question.cut]; omega, ?_⟩
  refine ⟨(w.drew.alloc (.cells (s.data.map (fun b => Value.int .u8 b.toNat) ++ Array.replicate (grownCap w s.size 0 e - s.size) (.int .u8 0)) e)).freeze
    ⟨w.heap.size, (s.data.map (fun b => Value.int .u8 b.toNat) ++ Array.replicate (grownCap w s.size 0 e - s.size) (Value.int .u8 0)).size, none⟩ 1, ?_, ⟨rfl, rfl, rfl⟩, ?_, ?_, ?_⟩
  · have hsh : (w.drew.alloc (.cells (s.data.map (fun b => Value.int .u8 b.toNat) ++ Array.replicate (grownCap w s.size 0 e - s.size) (.int .u8 0)) e)).shape? w.heap.size =
        some (e, (s.data.map (fun b => Value.int .u8 b.toNat) ++ Array.replicate (grownCap w s.size 0 e - s.size) (Value.int .u8 0)).size) := by
      have := yt w.drew (.cells (s.data.map (fun b => Value.int .u8 b.toNat) ++ Array.replicate (grownCap w s.size 0 e - s.size) (.int .u8 0)) e)
      simp only [World.size_drew] at this
      simp only [World.shape?, this]
    simp only [grownCap] at hsh ⊢
    simp [Conv.stringToBytes, Question.forced, newRow, markStringish, hsh]
  · simp [World.freeze, -World.alloc_eq]
  · intro b hb
    simp only [World.freeze, Nat.one_ne_zero, if_false, Array.getElem?_modify]
    rw [if_neg (by omega)]
    exact kQ w.drew _ b hb
  · have := yt w.drew (.cells (s.data.map (fun b => Value.int .u8 b.toNat) ++ Array.replicate (grownCap w s.size 0 e - s.size) (.int .u8 0)) e)
    simp only [World.size_drew] at this
    simp only [World.freeze, Nat.one_ne_zero, if_false, Array.getElem?_modify, if_true, this]
    rfl
theorem qf1 (hT : TabOk P T) {fr : Fr} {os os1 : List SO} {g : Nat → Gh} {w : World} (hm : Mem fr os g w) {src dst : Nat} {x y : SV} {xv : Value}
    (hx : RepV w (Bk fr os g w) g x xv) (h : jf T os src dst x = some (y, os1)) :
    ∃ v w', (convert src dst xv).run P w = .ok v w' ∧ Res fr os g w os1 y v w' := by
  unfold jf at h
  split at h
  · rename_i k k' kk n hu hu'
    obtain ⟨rfl, rfl⟩ := Prod.mk.inj (Option.some.inj h)
    obtain rfl := wE hx
    exact ⟨_, w, by simp [convert, run_underlying (hT.int src _ hu), run_underlying (hT.int dst _ hu'), Conv.intToInt], Res.same hm (.v rfl)⟩
  · rename_i e hu hu'
    split at h
    · rename_i l he hl
      split at h
      · rename_i bs hbs
        obtain ⟨rfl, rfl⟩ := Prod.mk.inj (Option.some.inj h)
        obtain ⟨xa, xc, rfl, hxc, hxr⟩ := yC hm hx hl
        refine ⟨.string ⟨bs.toArray⟩, w, ?_, Res.same hm (.v rfl)⟩
        rw [run_convert_bytes_string w src dst e xa _ _ (hT.slice src e hu) (hT.int e _ he) (hT.str dst hu')]
        cases xa with
        | none =>
          rcases hxr with rfl | ⟨b, o, vs, h1, _⟩
          · simp only [bytesOf, Option.some.injEq] at hbs
            subst hbs
            rfl
          · simp at h1
        | some a =>
          have hload : ∃ ns : List Int, (loadCells a l.length).run P w = .ok (ns.map (Value.int .u8)).toArray w ∧ bs = ns.map fun n => UInt8.ofNat n.toNat := by
            rcases hxr with rfl | ⟨b, o, vs, h1, h2, h3, h4⟩
            · simp only [bytesOf, Option.some.injEq] at hbs
              subst hbs
              exact ⟨[], rfl, rfl⟩
            · cases h1
              obtain ⟨ns, rfl, rfl⟩ := Y0 h2 hbs
              refine ⟨ns, ?_, rfl⟩
              have hf : zd (ns.map (Value.int .u8)) = ns.map (Value.int .u8) := by
                clear h2 h3 h4 hbs
                induction ns with
                | nil => rfl
                | cons n ns ih => simp only [zd, List.map_cons, List.flatMap_cons] at ih ⊢; rw [ih (by first | exact trivial | simp_all)]; rfl
              have := run_loadCells_list (P := P) w ⟨b, o, none⟩ (ns.map (Value.int .u8)) (fun j v hj => by rw [Addr.add_lit]; rw [hf] at h4; exact h4 j v hj)
              rw [h2.1]
              exact this
          obtain ⟨ns, hl', rfl⟩ := hload
          rw [run_bytesToString w a _ _ ns hl', qaH]
          simp
      · simp at h
    · simp at h
  · rename_i e s hu hu'
    split at h
    · rename_i he
      obtain ⟨rfl, rfl⟩ := Prod.mk.inj (Option.some.inj h)
      obtain rfl := wE hx
      obtain ⟨cap, hcap, w', hrun, hso, hsz, hold, hnew⟩ := xG (P := P) w e s
      have hl : zU w (Bk fr os g w) G0 (s.data.toList.map Qn) (s.data.toList.map fun b => Value.int .u8 b.toNat) :=
        ⟨by simp, fun i x v h1 h2 => by
          rw [List.getElem?_map] at h1 h2
          obtain ⟨b, hb, rfl⟩ := Option.map_eq_some_iff.1 h1
          rw [hb] at h2
          obtain rfl := Option.some.inj h2
          exact .v rfl⟩
      have hel : ∀ v : Value, v ∈ (s.data.toList.map fun b => Value.int .u8 b.toNat) → jT 1 v := fun v hv => by
        obtain ⟨b, _, rfl⟩ := List.mem_map.1 hv
        exact ⟨rfl, fun c hc => by simp [Value.cells] at hc; subst hc; rfl⟩
      have hf : zd (s.data.toList.map fun b => Value.int .u8 b.toNat) = s.data.toList.map fun b => Value.int .u8 b.toNat := by
        generalize s.data.toList = q
        induction q with
        | nil => rfl
        | cons n ns ih => simp only [zd, List.map_cons, List.flatMap_cons] at ih ⊢; rw [ih]; rfl
      have hx0 : ∀ c, (Gh.blk w.heap.size 1 (s.data.toList.map Qn).length cap).block? = some c → w.heap.size ≤ c ∧ c < w'.heap.size := fun c hc => by
        simp only [Gh.block?, Option.some.injEq] at hc
        subst hc
        exact ⟨Nat.le_refl _, by omega⟩
      have hn : upd g os.length (.blk w.heap.size 1 (s.data.toList.map Qn).length cap) os.length = .blk w.heap.size 1 (s.data.toList.map Qn).length cap := by unfold upd; rw [if_pos rfl]
      have hg := (jj hm hso (.arr false 1 (s.data.toList.map Qn)) _ (by omega) hold hx0).grow
      have hss : s.size = s.data.toList.length := by rw [Array.length_toList]; rfl
      refine ⟨_, w', by simp only [convert, Sem.run_bind, run_underlying (hT.str src hu), run_underlying (hT.slice dst e hu'), run_underlying (hT.int e _ he), Result.andThen_ok]; exact hrun, _, QI hm hso _ _ (by omega) hold hx0 ?_, hg, ?_⟩
      · refine .inr ⟨w.heap.size, cap, s.data.toList.map fun b => Value.int .u8 b.toNat, hn, by rw [List.length_map, ← hss]; exact hcap, hl.mono hg.sub hg.same (fun _ h => absurd rfl h), hel, ?_, ?_⟩
        · rw [hf]
          intro k v hk
          simp only [World.cell?, hnew, Nat.zero_add]
          simp only [Option.isSome_none, Bool.false_eq_true, if_false]
          rw [Array.getElem?_append_left (by have := q6 hk; simpa using this)]
          simpa using hk
        · refine ⟨_, _, _, hnew, ?_, fun o ho hc => ?_⟩
          · rw [Array.size_append, Array.size_map, Array.size_replicate]
            show cap * 1 ≤ s.size + (cap - s.size)
            omega
          · have h1 := hc.1
            exact absurd ho (Nat.not_lt.2 h1)
      · have := fun W => RepV.osl (w := W) (B := Bk fr (os ++ [.arr false 1 (s.data.toList.map Qn)]) (upd g os.length (.blk w.heap.size 1 (s.data.toList.map Qn).length cap)) W) hn
        have h2 := this w'
        rw [List.length_map, ← hss] at h2
        simpa [List.length_map, ← hss] using h2
    · simp at h
  · rename_i s hu hu'
    obtain ⟨rfl, rfl⟩ := Prod.mk.inj (Option.some.inj h)
    obtain rfl := wE hx
    exact ⟨_, w, by simp [convert, run_underlying (hT.str src hu), run_underlying (hT.str dst hu')], Res.same hm (.v rfl)⟩
  · simp at h
end Go.Proofs.Ytfjbclgbpdlkgaa
