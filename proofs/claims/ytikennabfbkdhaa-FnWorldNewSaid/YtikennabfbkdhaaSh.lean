/- The evaluator S and what it says of functions: Sg, Sh. -/
import Derived.Test.YtikennabfbkdhaaSf
import Derived.Laws.Tables
import Derived.Laws.IdiomCopy
/- The evaluator S: how memory and the objects may change. -/
namespace Go.Proofs.Ytikennabfbkdhaa
open Go
set_option linter.unusedVariables false
set_option linter.unusedSimpArgs false
def upd (g : Nat → Gh) (j : Nat) (x : Gh) : Nat → Gh := fun i => if i = j then x else g i
structure Chg (fr : Fr) (os : List SO) (g : Nat → Gh) (w : World) (os' : List SO) (g' : Nat → Gh) (w' : World) (W : Nat → Prop) : Prop where
  size : w.heap.size ≤ w'.heap.size
  same : ∀ b, b < w.heap.size → ¬ W b → w'.heap[b]? = w.heap[b]?
  only : ∀ b, W b → live os g b
  ext : ∀ j, g j ≠ .no → g' j = g j
  live : ∀ b, live os' g' b → (live os g b ∨ w.heap.size ≤ b) ∧ b < w'.heap.size
  out : SameOut w w'
theorem Chg.grow {fr : Fr} {os os' : List SO} {g g' : Nat → Gh} {w w' : World} {W : Nat → Prop} (h : Chg fr os g w os' g' w' W) : Grow fr os g w os' g' w' where
  sub b hb := ⟨Nat.lt_of_lt_of_le hb.1 h.size, hb.2.1, fun hl => by
    rcases (h.live b hl).1 with hl' | hl'
    · exact hb.2.2 hl'
    · have := hb.1; omega⟩
  same b hb := h.same b hb.1 fun hw => hb.2.2 (h.only b hw)
  ext := h.ext
theorem Chg.mem {fr : Fr} {os os' : List SO} {g g' : Nat → Gh} {w w' : World} {W : Nat → Prop} (h : Chg fr os g w os' g' w' W) (hm : Mem fr os g w)
    (objs : ∀ j o, os'[j]? = some o → (os[j]? = some o ∧ ∀ b, o.isLive = true → (g j).has b → ¬ W b) ∨ ObjOK w' (Bk fr os' g' w') g' j o)
    (fresh : ∀ j, os'.length ≤ j → g' j = .no)
    (inj : ∀ i j oi oj b, os'[i]? = some oi → os'[j]? = some oj → oi.isLive = true → oj.isLive = true → (g' i).has b → (g' j).has b → i = j)
    (mine : ∀ j sz l b, os'[j]? = some (.arr false sz l) → (g' j).has b → fr.N ≤ b) : Mem fr os' g' w' where
  objs j o hj := by
    rcases objs j o hj with ⟨h1, h2⟩ | h1
    · have hg := h.grow
      refine (hm.objs j o h1).mono hg.sub hg.same hg.ext fun b hl hb => ?_
      exact h.same b (hm.own b ⟨j, o, h1, hl, hb⟩).1 (h2 b hl hb)
    · exact h1
  fresh := fresh
  inj := inj
  own b hb := ⟨(h.live b hb).2, fun hN => by
    rcases (h.live b hb).1 with hl | hl
    · exact (hm.own b hl).2 hN
    · have := hm.size; omega⟩
  mine := mine
  frame b hN hL := by
    have hb : b < w.heap.size := Nat.lt_of_lt_of_le hN hm.size
    rw [h.same b hb fun hw => hL ((hm.own b (h.only b hw)).2 hN)]
    exact hm.frame b hN hL
  size := Nat.le_trans hm.size h.size
  out := hm.out.trans h.out
theorem getElem?_snoc {α : Type} (l : List α) (x y : α) (j : Nat) (h : (l ++ [x])[j]? = some y) : (j < l.length ∧ l[j]? = some y) ∨ (j = l.length ∧ y = x) := by
  rcases Nat.lt_trichotomy j l.length with h' | h' | h'
  · exact .inl ⟨h', by rwa [List.getElem?_append_left h'] at h⟩
  · subst h'; simp at h; exact .inr ⟨rfl, h.symm⟩
  · rw [List.getElem?_append_right (by omega)] at h
    have : j - l.length ≠ 0 := by omega
    cases hk : j - l.length with
    | zero => omega
    | succ k => simp [hk] at h
theorem lt_of_getElem? {α : Type} {l : List α} {i : Nat} {x : α} (h : l[i]? = some x) : i < l.length := by
  rcases Nat.lt_or_ge i l.length with h' | h'
  · exact h'
  · simp [List.getElem?_eq_none h'] at h
def Res (fr : Fr) (os : List SO) (g : Nat → Gh) (w : World) (os' : List SO) (x : SV) (v : Value) (w' : World) : Prop :=
  ∃ g', Mem fr os' g' w' ∧ Grow fr os g w os' g' w' ∧ RepV w' (Bk fr os' g' w') g' x v
theorem Res.same {fr : Fr} {os : List SO} {g : Nat → Gh} {w : World} {x : SV} {v : Value} (hm : Mem fr os g w) (h : RepV w (Bk fr os g w) g x v) : Res fr os g w os x v w :=
  ⟨g, hm, Grow.refl _ _ _ _, h⟩
theorem push_chg {fr : Fr} {os : List SO} {g : Nat → Gh} {w w' : World} (hm : Mem fr os g w) (so : SameOut w w') (o : SO) (x : Gh) (hs : w.heap.size ≤ w'.heap.size)
    (hw : ∀ b, b < w.heap.size → w'.heap[b]? = w.heap[b]?) (hx : ∀ b, x.has b → w.heap.size ≤ b ∧ b < w'.heap.size) :
    Chg fr os g w (os ++ [o]) (upd g os.length x) w' (fun _ => False) where
  out := so
  size := hs
  same b hb _ := hw b hb
  only b hb := hb.elim
  ext j hj := by
    unfold upd
    split
    · rename_i e; subst e; exact absurd (hm.fresh _ (Nat.le_refl _)) hj
    · rfl
  live b hb := by
    obtain ⟨j, o', hj, hl, hb⟩ := hb
    rcases getElem?_snoc _ _ _ _ hj with ⟨h1, h2⟩ | ⟨rfl, rfl⟩
    · have hg : upd g os.length x j = g j := by unfold upd; rw [if_neg (by omega)]
      rw [hg] at hb
      have : live os g b := ⟨j, o', h2, hl, hb⟩
      exact ⟨.inl this, Nat.lt_of_lt_of_le (hm.own b this).1 hs⟩
    · have hg : upd g os.length x os.length = x := by unfold upd; rw [if_pos rfl]
      rw [hg] at hb
      exact ⟨.inr (hx b hb).1, (hx b hb).2⟩
theorem push_mem {fr : Fr} {os : List SO} {g : Nat → Gh} {w w' : World} (hm : Mem fr os g w) (so : SameOut w w') (o : SO) (x : Gh) (hs : w.heap.size ≤ w'.heap.size)
    (hw : ∀ b, b < w.heap.size → w'.heap[b]? = w.heap[b]?) (hx : ∀ b, x.has b → w.heap.size ≤ b ∧ b < w'.heap.size)
    (ho : ObjOK w' (Bk fr (os ++ [o]) (upd g os.length x) w') (upd g os.length x) os.length o) : Mem fr (os ++ [o]) (upd g os.length x) w' := by
  have hold : ∀ j, j < os.length → upd g os.length x j = g j := fun j hj => by unfold upd; rw [if_neg (by omega)]
  have hnew : upd g os.length x os.length = x := by unfold upd; rw [if_pos rfl]
  have hlt : ∀ {i : Nat} {oi : SO} {b : Nat}, os[i]? = some oi → oi.isLive = true → (g i).has b → b < w.heap.size := fun h1 h2 h3 => (hm.own _ ⟨_, _, h1, h2, h3⟩).1
  refine (push_chg hm so o x hs hw hx).mem hm ?_ ?_ ?_ ?_
  · intro j o' hj
    rcases getElem?_snoc _ _ _ _ hj with ⟨h1, h2⟩ | ⟨rfl, rfl⟩
    · exact .inl ⟨h2, fun _ _ _ h => h⟩
    · exact .inr ho
  · intro j hj
    simp at hj
    unfold upd
    rw [if_neg (by omega)]
    exact hm.fresh j (by omega)
  · intro i j oi oj b hi hj li lj bi bj
    rcases getElem?_snoc _ _ _ _ hi with ⟨i1, i2⟩ | ⟨rfl, rfl⟩ <;> rcases getElem?_snoc _ _ _ _ hj with ⟨j1, j2⟩ | ⟨rfl, rfl⟩
    · rw [hold i i1] at bi; rw [hold j j1] at bj; exact hm.inj i j oi oj b i2 j2 li lj bi bj
    · rw [hold i i1] at bi; rw [hnew] at bj; have := hlt i2 li bi; have := (hx b bj).1; omega
    · rw [hnew] at bi; rw [hold j j1] at bj; have := hlt j2 lj bj; have := (hx b bi).1; omega
    · rfl
  · intro j sz l b hj hb
    rcases getElem?_snoc _ _ _ _ hj with ⟨j1, j2⟩ | ⟨rfl, _⟩
    · rw [hold j j1] at hb; exact hm.mine j sz l b j2 hb
    · rw [hnew] at hb; exact Nat.le_trans hm.size (hx b hb).1
theorem out_alloc (w : World) (o : Obj) : SameOut w (w.alloc o) := ⟨rfl, rfl, rfl⟩
theorem out_drew (w : World) (o : Obj) : SameOut w (w.drew.alloc o) := ⟨rfl, rfl, rfl⟩
theorem heap_alloc_lt (w : World) (o : Obj) (b : Nat) (h : b < w.heap.size) : (w.alloc o).heap[b]? = w.heap[b]? := by
  show (w.heap.push o)[b]? = w.heap[b]?
  rw [Array.getElem?_push, if_neg (Nat.ne_of_lt h)]
theorem heap_alloc_new (w : World) (o : Obj) : (w.alloc o).heap[w.heap.size]? = some o := by
  show (w.heap.push o)[w.heap.size]? = some o
  rw [Array.getElem?_push, if_pos rfl]
theorem cells_alloc_new (w : World) (cs : Array Value) (t : Nat) : CellsAt (w.alloc (.cells cs t)) w.heap.size 0 cs.toList := by
  intro k v hk
  rw [World.cell?_alloc_new, Nat.zero_add]
  simpa using hk
theorem room_alloc_new (w : World) (cs : Array Value) (t n : Nat) (h : n ≤ cs.size) {sz : Nat} : Room (w.alloc (.cells cs t)) w.heap.size n sz :=
  ⟨cs, t, (0, 0), heap_alloc_new w _, h, fun o ho hc => by omega, fun _ hc => by omega⟩
theorem push_nil {fr : Fr} {os : List SO} {g : Nat → Gh} {w : World} (hm : Mem fr os g w) (sz : Nat) :
    Mem fr (os ++ [.arr false sz []]) (upd g os.length .nil) w ∧ Grow fr os g w (os ++ [.arr false sz []]) (upd g os.length .nil) w ∧
    (upd g os.length .nil) os.length = .nil := by
  have hx : ∀ b, Gh.nil.has b → w.heap.size ≤ b ∧ b < w.heap.size := fun b h => by simp [Gh.has] at h
  have hn : (upd g os.length .nil) os.length = .nil := by unfold upd; rw [if_pos rfl]
  refine ⟨push_mem hm ⟨rfl, rfl, rfl⟩ _ _ (Nat.le_refl _) (fun _ _ => rfl) hx ?_, (push_chg hm ⟨rfl, rfl, rfl⟩ _ _ (Nat.le_refl _) (fun _ _ => rfl) hx).grow, hn⟩
  exact .inl ⟨rfl, hn⟩
theorem push_box {fr : Fr} {os : List SO} {g : Nat → Gh} {w : World} (hm : Mem fr os g w) {l : List SV} {vs : List Value} (hl : RepL w (Bk fr os g w) g l vs) (h1 : ∀ v : Value, v ∈ vs → v.oneCell' = true) (t : Nat) :
    Res fr os g w (os ++ [.box l]) (.ptr os.length 0) (.pointer (some ⟨w.heap.size, 0, none⟩)) (w.alloc (.cells vs.toArray t)) := by
  have hx : ∀ b, (Gh.bx w.heap.size).has b → w.heap.size ≤ b ∧ b < (w.alloc (.cells vs.toArray t)).heap.size := fun b h => by simp [Gh.has] at h; simp [h]
  have hn : (upd g os.length (.bx w.heap.size)) os.length = .bx w.heap.size := by unfold upd; rw [if_pos rfl]
  have hs : w.heap.size ≤ (w.alloc (.cells vs.toArray t)).heap.size := by simp
  have hg := (push_chg hm (out_alloc w _) (.box l) _ hs (heap_alloc_lt w (.cells vs.toArray t)) hx).grow
  refine ⟨_, push_mem hm (out_alloc w _) _ _ hs (heap_alloc_lt w _) hx ?_, hg, .ptr hn⟩
  refine ⟨w.heap.size, vs, hn, hl.mono hg.sub hg.same hg.ext, h1, by simpa using cells_alloc_new w vs.toArray t, room_alloc_new w _ t _ (by simp)⟩
theorem push_arr {fr : Fr} {os : List SO} {g : Nat → Gh} {w : World} (hm : Mem fr os g w) {l : List SV} {vs junk : List Value} {sz cap : Nat} (hl : RepL w (Bk fr os g w) G0 l vs)
    (h1 : ∀ v : Value, v ∈ vs → ElOK sz v) (hc : l.length ≤ cap) (hj : (flatV vs ++ junk).length = cap * sz) (t : Nat) :
    Res fr os g w (os ++ [.arr false sz l]) (.osl os.length) (.slice (some ⟨w.heap.size, 0, none⟩) l.length cap) (w.alloc (.cells (flatV vs ++ junk).toArray t)) := by
  have hx : ∀ b, (Gh.blk w.heap.size sz l.length cap).has b → w.heap.size ≤ b ∧ b < (w.alloc (.cells (flatV vs ++ junk).toArray t)).heap.size := fun b h => by simp [Gh.has] at h; simp [h]
  have hn : (upd g os.length (.blk w.heap.size sz l.length cap)) os.length = .blk w.heap.size sz l.length cap := by unfold upd; rw [if_pos rfl]
  have hs : w.heap.size ≤ (w.alloc (.cells (flatV vs ++ junk).toArray t)).heap.size := by simp
  have hg := (push_chg hm (out_alloc w _) (.arr false sz l) _ hs (heap_alloc_lt w (.cells (flatV vs ++ junk).toArray t)) hx).grow
  refine ⟨_, push_mem hm (out_alloc w _) _ _ hs (heap_alloc_lt w _) hx ?_, hg, .osl hn⟩
  refine .inr ⟨w.heap.size, cap, vs, hn, hc, hl.mono hg.sub hg.same (fun j hj => absurd rfl hj), h1, ?_, room_alloc_new w _ t _ (by simp [← hj])⟩
  have := (cells_alloc_new w (flatV vs ++ junk).toArray t).take (flatV vs).length
  simpa using this
end Go.Proofs.Ytikennabfbkdhaa

/- The evaluator S: new variables, structs that are built, stores. -/
namespace Go.Proofs.Ytikennabfbkdhaa
open Go
set_option linter.unusedVariables false
set_option linter.unusedSimpArgs false
variable {P : Program} {T : Tab}
theorem evP_none {env : Env} {a : Act} {x : Operand} (h : evP env x = none) : a.eval x = .slice none 0 0 := by
  unfold evP at h
  split at h
  · rfl
  · simp at h
theorem evP_some {env : Env} {x : Operand} {y : SV} (h : evP env x = some y) : ev env x = y := by
  unfold evP at h
  split at h
  · simp at h
  · exact Option.some.inj h
theorem evN_rep {fr : Fr} {os os1 : List SO} {g : Nat → Gh} {w : World} (hm : Mem fr os g w) {env : Env} {a : Act} (hs : Slots w (Bk fr os g w) g env a.tmps) {ty : Nat} {x : Operand} {y : SV}
    (h : evN T ty os (evP env x) = some (y, os1)) : Res fr os g w os1 y (a.eval x) w := by
  unfold evN at h
  split at h
  · rename_i hx
    split at h
    · rename_i e hu
      split at h
      · rename_i i hi
        obtain ⟨rfl, rfl⟩ := Prod.mk.inj (Option.some.inj h)
        obtain ⟨h1, h2, h3⟩ := push_nil hm i.size
        rw [evP_none hx]
        exact ⟨_, h1, h2, .osl0 h3⟩
      · simp at h
    · simp at h
  · rename_i z hx
    obtain ⟨rfl, rfl⟩ := Prod.mk.inj (Option.some.inj h)
    rw [← evP_some hx]
    exact Res.same hm (ev_rep hs x)
theorem zk_scalar {z : ZK} (h : ∀ sz, z ≠ .sl sz) : scalar z.val = true := by
  cases z <;> first | rfl | (exact absurd rfl (h _))
theorem zeroS_rep {fr : Fr} {w : World} : ∀ (zs : List ZK) {os : List SO} {g : Nat → Gh}, Mem fr os g w →
    ∃ g', Mem fr (zeroS zs os).2 g' w ∧ Grow fr os g w (zeroS zs os).2 g' w ∧ RepL w (Bk fr (zeroS zs os).2 g' w) g' (zeroS zs os).1 (zs.map ZK.val) := by
  intro zs
  induction zs with
  | nil => intro os g hm; exact ⟨g, hm, Grow.refl _ _ _ _, RepL.nil⟩
  | cons z zs ih =>
    intro os g hm
    by_cases hz : ∃ sz, z = .sl sz
    · obtain ⟨sz, rfl⟩ := hz
      obtain ⟨h1, h2, h3⟩ := push_nil hm sz
      obtain ⟨g', m, gr, r⟩ := ih h1
      refine ⟨g', m, h2.trans gr, ?_⟩
      simp only [zeroS, List.map_cons]
      refine RepL.cons (.osl0 ?_) r
      rw [gr.ext _ (by rw [h3]; simp)]; exact h3
    · have hz' : ∀ sz, z ≠ .sl sz := fun sz e => hz ⟨sz, e⟩
      obtain ⟨g', m, gr, r⟩ := ih hm
      have e : zeroS (z :: zs) os = (.v z.val :: (zeroS zs os).1, (zeroS zs os).2) := by
        cases z <;> first | rfl | exact absurd rfl (hz' _)
      rw [e]
      exact ⟨g', m, gr, RepL.cons (.v (zk_scalar hz')) r⟩
theorem zk_one (z : ZK) : z.val.oneCell' = true := by cases z <;> rfl
theorem alloc_rep (hT : TabOk P T) {fr : Fr} {os os1 : List SO} {g : Nat → Gh} {w : World} (hm : Mem fr os g w) {t : Nat} {y : SV}
    (h : allocS T os t = some (y, os1)) : ∃ v w', (Instr.alloc t true (.tuple #[])).run P w = .ok v w' ∧ Res fr os g w os1 y v w' := by
  unfold allocS at h
  split at h
  · rename_i i hi
    obtain ⟨info, z, d, i1, i2, i3, i4, i5, i6, i7, i8, i9⟩ := (hT.ti t i hi).ok
    obtain ⟨g', m, gr, r⟩ := zeroS_rep (fr := fr) (w := w) i.zero hm
    obtain ⟨rfl, rfl⟩ := Prod.mk.inj (Option.some.inj h)
    obtain ⟨g2, m2, gr2, r2⟩ := push_box m r (fun v hv => by obtain ⟨z, _, rfl⟩ := List.mem_map.1 hv; exact zk_one z) t
    refine ⟨_, _, ?_, g2, m2, gr.trans gr2, r2⟩
    rw [← i5]
    simp [Instr.alloc, run_zero i1 i4, newVar, newRow]
  · simp at h
theorem box_rep (hT : TabOk P T) {fr : Fr} {os os1 : List SO} {g : Nat → Gh} {w : World} (hm : Mem fr os g w) {env : Env} {a : Act} (hs : Slots w (Bk fr os g w) g env a.tmps) {t : Nat} {x : Operand} {y : SV}
    (h : boxS T os t (evP env x) = some (y, os1)) : ∃ v w', (Instr.box t (a.eval x)).run P w = .ok v w' ∧ Res fr os g w os1 y v w' := by
  unfold boxS at h
  split at h
  · rename_i i z osz hi hn
    split at h
    · rename_i hc
      obtain ⟨rfl, rfl⟩ := Prod.mk.inj (Option.some.inj h)
      obtain ⟨g1, m1, gr1, r1⟩ := evN_rep hm hs hn
      have hd : z ≠ .dead := by
        intro e; subst e; have := hc.2; simp [SV.cells, okCell] at this
      have hl := r1.cells hd
      obtain ⟨g2, m2, gr2, r2⟩ := push_box m1 hl (fun v hv => by
        obtain ⟨k, hk, rfl⟩ := List.mem_iff_getElem.1 hv
        have hk' : k < z.cells.length := by rw [hl.1]; exact hk
        exact okCell_one (hl.2 k z.cells[k] _ (by simp [hk']) (by simp [hk])) (List.all_eq_true.1 hc.2 _ (List.getElem_mem hk'))) t
      refine ⟨_, _, ?_, g2, m2, gr1.trans gr2, r2⟩
      simp [Instr.box, newVar, newRow]
    · simp at h
  · simp at h
def PartsRep (w : World) (B : Nat → Prop) (g : Nat → Gh) : List (Nat × SV) → List (Nat × Value) → Prop
  | [], [] => True
  | p :: ps, q :: qs => p.1 = q.1 ∧ RepV w B g p.2 q.2 ∧ PartsRep w B g ps qs
  | _, _ => False
theorem PartsRep.grow {fr : Fr} {os os' : List SO} {g g' : Nat → Gh} {w w' : World} (hg : Grow fr os g w os' g' w') : ∀ {ps : List (Nat × SV)} {qs : List (Nat × Value)},
    PartsRep w (Bk fr os g w) g ps qs → PartsRep w' (Bk fr os' g' w') g' ps qs
  | [], [], _ => trivial
  | p :: ps, q :: qs, h => ⟨h.1, h.2.1.grow hg, PartsRep.grow hg h.2.2⟩
  | [], _ :: _, h => h.elim
  | _ :: _, [], h => h.elim
theorem partsN_rep {fr : Fr} {w : World} {fs : List (Nat × Nat)} {env : Env} {a : Act} : ∀ (ps : List (Nat × Operand)) {os os1 : List SO} {g : Nat → Gh} {r : List (Nat × SV)}, Mem fr os g w →
    Slots w (Bk fr os g w) g env a.tmps → partsN T fs (ps.map fun p => (p.1, evP env p.2)) os = some (r, os1) →
    ∃ g', Mem fr os1 g' w ∧ Grow fr os g w os1 g' w ∧ PartsRep w (Bk fr os1 g' w) g' r (ps.map fun p => (p.1, a.eval p.2)) ∧
      ∀ p, p ∈ r → ∃ off t i, fs[p.1]? = some (off, t) ∧ T.ti t = some i ∧ p.2.cells.length = i.size := by
  intro ps
  induction ps with
  | nil =>
    intro os os1 g r hm hs h
    simp only [partsN, List.map_nil] at h
    obtain ⟨rfl, rfl⟩ := Prod.mk.inj (Option.some.inj h)
    exact ⟨g, hm, Grow.refl _ _ _ _, trivial, fun p hp => by simp at hp⟩
  | cons p ps ih =>
    intro os os1 g r hm hs h
    simp only [partsN, List.map_cons] at h
    split at h
    · rename_i off t hf
      split at h
      · rename_i i y os2 hi hn
        split at h
        · rename_i hz
          split at h
          · rename_i r' os3 hr
            obtain ⟨rfl, rfl⟩ := Prod.mk.inj (Option.some.inj h)
            obtain ⟨g1, m1, gr1, r1⟩ := evN_rep hm hs hn
            obtain ⟨g2, m2, gr2, r2, r3⟩ := ih m1 (hs.grow gr1) hr
            refine ⟨g2, m2, gr1.trans gr2, ⟨rfl, r1.grow gr2, r2⟩, fun q hq => ?_⟩
            rcases List.mem_cons.1 hq with rfl | hq
            · exact ⟨off, t, i, hf, hi, hz⟩
            · exact r3 q hq
          · simp at h
        · simp at h
      · simp at h
    · simp at h
theorem foldl_set (cs : List Value) : ∀ (off : Nat) (arr : Array Value) (k : Nat), off + k + cs.length ≤ arr.size →
    ((cs.zipIdx k).foldl (fun a p => a.setIfInBounds (off + p.2) p.1) arr).toList = arr.toList.take (off + k) ++ cs ++ arr.toList.drop (off + k + cs.length) := by
  induction cs with
  | nil => intro off arr k h; simp
  | cons c cs ih =>
    intro off arr k h
    simp only [List.zipIdx_cons, List.foldl_cons, List.length_cons] at h ⊢
    rw [ih off _ (k + 1) (by simp; omega)]
    have hlt : off + k < arr.toList.length := by simp; omega
    simp only [Array.toList_setIfInBounds]
    rw [show off + (k + 1) = (off + k) + 1 by omega, List.take_succ_eq_append_getElem (by simpa using hlt), List.take_set, List.getElem_set_self, List.drop_set_of_lt (by omega)]
    rw [List.set_eq_of_length_le (by simp; omega)]
    simp [Nat.add_assoc, Nat.add_comm 1]
theorem fill_step (place : Nat → Option (Nat × Nat)) (cells : Array Value) (i off : Nat) (v : Value) (rest : List (Nat × Value)) (hp : place i = some (off, v.cells.size)) (h : off + v.cells.size ≤ cells.size) :
    Instr.fill place cells ((i, v) :: rest) = Instr.fill place (cells.toList.take off ++ v.cells.toList ++ cells.toList.drop (off + v.cells.size)).toArray rest := by
  rw [Instr.fill, hp]
  simp only [ne_eq, not_true_eq_false, decide_false, Bool.false_or]
  rw [if_neg (by simp; omega)]
  congr 1
  apply Array.ext'
  have := foldl_set v.cells.toList off cells 0 (by simpa using h)
  simp only [Nat.add_zero] at this
  rw [← Array.foldl_toList, Array.toList_zipIdx]
  rw [this]
  simp
theorem setParts_rep {w : World} {B : Nat → Prop} {g : Nat → Gh} {fs : List (Nat × Nat)} (place : Nat → Option (Nat × Nat))
    (hp : ∀ (f off t : Nat) (i : TI), fs[f]? = some (off, t) → T.ti t = some i → place f = some (off, i.size)) : ∀ (ps : List (Nat × SV)) (qs : List (Nat × Value)) (cs cs' : List SV) (vs : List Value),
    PartsRep w B g ps qs → (∀ p, p ∈ ps → ∃ off t i, fs[p.1]? = some (off, t) ∧ T.ti t = some i ∧ p.2.cells.length = i.size) → RepL w B g cs vs → (∀ v : Value, v ∈ vs → v.oneCell' = true) →
    setParts fs cs ps = some cs' → ∃ vs', Instr.fill place vs.toArray qs = some vs'.toArray ∧ RepL w B g cs' vs' ∧ (∀ v : Value, v ∈ vs' → v.oneCell' = true) := by
  intro ps
  induction ps with
  | nil =>
    intro qs cs cs' vs h1 h2 h3 h4 h
    cases qs with
    | nil =>
      simp only [setParts] at h
      obtain rfl := Option.some.inj h
      exact ⟨vs, rfl, h3, h4⟩
    | cons => exact h1.elim
  | cons p ps ih =>
    intro qs cs cs' vs h1 h2 h3 h4 h
    cases qs with
    | nil => exact h1.elim
    | cons q qs =>
      obtain ⟨f, x⟩ := p
      obtain ⟨f', v⟩ := q
      obtain ⟨e1, e2, e3⟩ := h1
      simp only at e1 e2
      subst e1
      obtain ⟨off, t, i, a1, a2, a3⟩ := h2 (f, x) (by simp)
      simp only at a1 a3
      simp only [setParts, a1] at h
      split at h
      · rename_i hc
        have hd : x ≠ .dead := by intro e; subst e; have := hc.2; simp [SV.cells, okCell] at this
        have hl := e2.cells hd
        have hsz : v.cells.size = x.cells.length := by rw [hl.1]; simp
        have hone : ∀ u : Value, u ∈ v.cells.toList → u.oneCell' = true := fun u hu => by
          obtain ⟨k, hk, rfl⟩ := List.mem_iff_getElem.1 hu
          have hk' : k < x.cells.length := by rw [hl.1]; exact hk
          exact okCell_one (hl.2 k x.cells[k] _ (by simp [hk']) (by simp [hk])) (List.all_eq_true.1 hc.2 _ (List.getElem_mem hk'))
        have hle : off + v.cells.size ≤ vs.toArray.size := by rw [hsz]; simp [← h3.1]; exact hc.1
        rw [fill_step place _ f off v qs (by rw [hp f off t i a1 a2, hsz, a3]) hle]
        refine ih qs (splice cs off x.cells) cs' _ e3 (fun p hp' => h2 p (by simp [hp'])) ?_ ?_ h
        · simp only [splice, hsz]
          exact ((h3.take off).append hl).append (h3.drop _)
        · intro u hu
          simp only [List.mem_append] at hu
          rcases hu with (hu | hu) | hu
          · exact h4 u (List.mem_of_mem_take hu)
          · exact hone u hu
          · exact h4 u (List.mem_of_mem_drop hu)
      · simp at h
theorem mapM_places {T : Tab} : ∀ (fs : List Field), (∀ f, f ∈ fs → (P.info? f.type).isSome = true) →
    ∃ places, fs.mapM (fun f => (P.info? f.type).map fun i => (f.offset, i.size)) = some places ∧
      ∀ (k : Nat) (f : Field) (info : TypeInfo), fs[k]? = some f → P.info? f.type = some info → places[k]? = some (f.offset, info.size) := by
  intro fs
  induction fs with
  | nil => intro _; exact ⟨[], rfl, fun k f info h => by simp at h⟩
  | cons f fs ih =>
    intro h
    obtain ⟨pl, h1, h2⟩ := ih (fun x hx => h x (by simp [hx]))
    obtain ⟨info, hi⟩ := Option.isSome_iff_exists.1 (h f (by simp))
    refine ⟨(f.offset, info.size) :: pl, by simp [List.mapM_cons, hi, h1], fun k f' info' hk hi' => ?_⟩
    cases k with
    | zero => simp at hk; subst hk; rw [hi] at hi'; cases hi'; rfl
    | succ k => simpa using h2 k f' info' (by simpa using hk) hi'
theorem build_rep (hT : TabOk P T) {fr : Fr} {os os1 : List SO} {g : Nat → Gh} {w : World} (hm : Mem fr os g w) {env : Env} {a : Act} (hs : Slots w (Bk fr os g w) g env a.tmps) {t : Nat} {ps : Array (Nat × Operand)} {y : SV}
    (h : buildS T os t (ps.toList.map fun p => (p.1, evP env p.2)) = some (y, os1)) :
    ∃ v, (Instr.build t (ps.map fun (i, x) => (i, a.eval x))).run P w = .ok v w ∧ Res fr os g w os1 y v w := by
  unfold buildS at h
  split at h
  · rename_i u i hu hi
    split at h
    · rename_i fs hf
      split at h
      · rename_i r os2 hr
        simp only at h
        split at h
        · rename_i cs hcs
          obtain ⟨rfl, rfl⟩ := Prod.mk.inj (Option.some.inj h)
          obtain ⟨info, z, d, i1, i2, i3, i4, i5, i6, i7, i8, i9⟩ := (hT.ti t i hi).ok
          obtain ⟨fields, f1, f2, f3⟩ := hT.struct t u fs hu hf
          obtain ⟨g1, m1, gr1, r1, r2⟩ := partsN_rep ps.toList hm hs hr
          obtain ⟨g2, m2, gr2, z2⟩ := zeroS_rep (fr := fr) (w := w) i.zero m1
          obtain ⟨pl, p1, p2⟩ := mapM_places (P := P) (T := T) fields.toList f3
          have hplace : ∀ (f off t : Nat) (i : TI), fs[f]? = some (off, t) → T.ti t = some i → (pl.toArray[·]?) f = some (off, i.size) := by
            intro f off t' i' hx hi'
            rw [← f2, List.getElem?_map] at hx
            obtain ⟨fd, h3, h4⟩ := Option.map_eq_some_iff.1 hx
            obtain ⟨info', z', d', j1, j2, j3, j4, j5, j6, j7, j8, j9⟩ := (hT.ti t' i' hi').ok
            obtain ⟨e1, e2⟩ := Prod.mk.inj h4
            have := p2 f fd info' h3 (by rw [e2]; exact j1)
            simp only [List.getElem?_toArray]
            rw [this, e1, j2]
          obtain ⟨vs', v1, v2, v3⟩ := setParts_rep (T := T) (pl.toArray[·]?) hplace r _ _ cs (i.zero.map ZK.val) (r1.grow gr2) r2 z2 (fun v hv => by obtain ⟨z, _, rfl⟩ := List.mem_map.1 hv; exact zk_one z) hcs
          refine ⟨.agg vs'.toArray, run_build w t _ _ ?_, g2, m2, gr1.trans gr2, .ag v2.1 v2.2 v3⟩
          simp only [Program.built, i1, f1, i4, p1]
          rw [show z.cells = (i.zero.map ZK.val).toArray by rw [← i5]]
          simpa using v1
        · simp at h
      · simp at h
    · simp at h
  · simp at h
theorem heap_setCell_ne (w : World) (a : Addr) (v : Value) (b : Nat) (h : a.block ≠ b) : (w.setCell a v).heap[b]? = w.heap[b]? := by
  simp only [World.setCell, Array.getElem?_modify]
  rw [if_neg h]
theorem heap_setCells_ne (b c : Nat) (h : b ≠ c) : ∀ (vs : List Value) (o : Nat) (w : World), (w.setCells b o vs).heap[c]? = w.heap[c]?
  | [], _, _ => rfl
  | v :: r, o, w => by rw [World.setCells, heap_setCells_ne b c h r, heap_setCell_ne _ _ _ _ h]
theorem out_setCells (b : Nat) : ∀ (vs : List Value) (o : Nat) (w : World), SameOut w (w.setCells b o vs)
  | [], _, w => SameOut.refl w
  | v :: r, o, w => by
    rw [World.setCells]
    exact SameOut.trans (w' := w.setCell ⟨b, o, none⟩ v) ⟨rfl, rfl, rfl⟩ (out_setCells b r (o + 1) _)
theorem size_setCells (b : Nat) : ∀ (vs : List Value) (o : Nat) (w : World), (w.setCells b o vs).heap.size = w.heap.size
  | [], _, _ => rfl
  | v :: r, o, w => by rw [World.setCells, size_setCells b r]; simp
theorem heap_setCells (b : Nat) : ∀ (vs : List Value) (o : Nat) (w : World) {cs : Array Value} {t : Nat} {fz : Nat × Nat}, w.heap[b]? = some (.cells cs t fz) →
    ∃ cs', (w.setCells b o vs).heap[b]? = some (.cells cs' t fz) ∧ cs'.size = cs.size
  | [], _, _, cs, _, _, h => ⟨cs, h, rfl⟩
  | v :: r, o, w, cs, t, fz, h => by
    have : (w.setCell ⟨b, o, none⟩ v).heap[b]? = some (.cells (cs.setIfInBounds o v) t fz) := by
      simp only [World.setCell, Array.getElem?_modify, if_true, h]
      rfl
    obtain ⟨cs', h1, h2⟩ := heap_setCells b r (o + 1) _ this
    exact ⟨cs', by rw [World.setCells]; exact h1, by simpa using h2⟩
theorem room_cell {w : World} {b n sz : Nat} (h : Room w b n sz) {o : Nat} (ho : o < n) : (w.cell? ⟨b, o, none⟩).isSome = true ∧ w.frozen? ⟨b, o, none⟩ = false := by
  obtain ⟨cs, t, fz, h1, h2, h3⟩ := h
  refine ⟨by simp [World.cell?, h1]; omega, ?_⟩
  have := h3.1 o (by omega)
  obtain ⟨lo, hi⟩ := fz
  simp only [World.frozen?, h1]
  simpa using this
theorem room_setCells {w : World} {b n sz : Nat} (h : Room w b n sz) (o : Nat) (vs : List Value) : Room (w.setCells b o vs) b n sz := by
  obtain ⟨cs, t, fz, h1, h2, h3⟩ := h
  obtain ⟨cs', h4, h5⟩ := heap_setCells b vs o w h1
  exact ⟨cs', t, fz, h4, by omega, by rw [h5]; exact h3⟩
theorem run_stores {w : World} {b n o s0 : Nat} {vs : List Value} (h : Room w b n s0) (ho : o + vs.length ≤ n) (h1 : ∀ v : Value, v ∈ vs → v.oneCell' = true) :
    (storeCells ⟨b, o, none⟩ vs).run P w = .ok () (w.setCells b o vs) := by
  have := run_storeCells_cells (P := P) b o vs 0 w (fun j hj => (room_cell h (by omega)).1) (fun j hj => (room_cell h (by omega)).2) h1
  simpa using this
theorem cells_setCells {w : World} {b n o s0 : Nat} {vs cs : List Value} (h : Room w b n s0) (hc : CellsAt w b 0 cs) (ho : o ≤ cs.length) (hn : o + vs.length ≤ n) :
    CellsAt (w.setCells b o vs) b 0 (cs.take o ++ vs ++ cs.drop (o + vs.length)) := by
  intro k v hk
  rw [Nat.zero_add]
  have lt : (cs.take o).length = o := by simp [ho]
  rcases Nat.lt_or_ge k o with h1 | h1
  · rw [World.cell?_setCells_out b vs o w _ (fun _ _ => .inl h1)]
    rw [List.append_assoc, List.getElem?_append_left (by omega), List.getElem?_take, if_pos h1] at hk
    have := hc k v hk
    rwa [Nat.zero_add] at this
  · rcases Nat.lt_or_ge k (o + vs.length) with h2 | h2
    · have := World.cell?_setCells_in b vs o w (fun j hj => (room_cell h (by omega)).1) (k - o) (by omega)
      rw [show o + (k - o) = k by omega] at this
      rw [this]
      rw [List.append_assoc, List.getElem?_append_right (by omega), List.getElem?_append_left (by omega), lt] at hk
      rw [List.getElem?_eq_getElem (by omega)] at hk
      exact hk
    · rw [World.cell?_setCells_out b vs o w _ (fun _ _ => .inr h2)]
      rw [List.getElem?_append_right (by simp; omega), List.getElem?_drop] at hk
      have e : o + vs.length + (k - (cs.take o ++ vs).length) = k := by simp; omega
      rw [e] at hk
      have := hc k v hk
      rwa [Nat.zero_add] at this
theorem set_chg {fr : Fr} {os : List SO} {g : Nat → Gh} {w w' : World} (hm : Mem fr os g w) (so : SameOut w w') {j : Nat} {o o' : SO} {b : Nat} (hj : os[j]? = some o) (ho : o.isLive = true) (hb : (g j).has b) (ho' : o'.isLive = true)
    (hs : w'.heap.size = w.heap.size) (hw : ∀ c, c ≠ b → w'.heap[c]? = w.heap[c]?) : Chg fr os g w (os.set j o') g w' (fun c => c = b) where
  out := so
  size := by omega
  same c hc hne := hw c hne
  only c hc := ⟨j, o, hj, ho, by rw [hc]; exact hb⟩
  ext _ _ := rfl
  live c hc := by
    obtain ⟨k, x, hk, hl, hx⟩ := hc
    rw [List.getElem?_set] at hk
    split at hk
    · rename_i e
      subst e
      have : live os g c := ⟨j, o, hj, ho, hx⟩
      exact ⟨.inl this, by rw [hs]; exact (hm.own c this).1⟩
    · have : live os g c := ⟨k, x, hk, hl, hx⟩
      exact ⟨.inl this, by rw [hs]; exact (hm.own c this).1⟩
theorem set_mem {fr : Fr} {os : List SO} {g : Nat → Gh} {w w' : World} (hm : Mem fr os g w) (so : SameOut w w') {j : Nat} {o o' : SO} {b : Nat} (hj : os[j]? = some o) (ho : o.isLive = true) (hb : (g j).has b) (ho' : o'.isLive = true)
    (hmine : ∀ sz l, o' = .arr false sz l → ∃ sz' l', o = .arr false sz' l') (hs : w'.heap.size = w.heap.size) (hw : ∀ c, c ≠ b → w'.heap[c]? = w.heap[c]?)
    (hok : ObjOK w' (Bk fr (os.set j o') g w') g j o') : Mem fr (os.set j o') g w' := by
  have hjl := lt_of_getElem? hj
  have back : ∀ {k : Nat} {x : SO}, (os.set j o')[k]? = some x → (k = j ∧ x = o') ∨ (k ≠ j ∧ os[k]? = some x) := by
    intro k x hk
    rw [List.getElem?_set] at hk
    split at hk
    · rename_i e; subst e; first | exact .inl ⟨rfl, (Option.some.inj hk).symm⟩ | (rw [if_pos hjl] at hk; exact .inl ⟨rfl, (Option.some.inj hk).symm⟩)
    · rename_i e; exact .inr ⟨fun h => e h.symm, hk⟩
  refine (set_chg hm so hj ho hb ho' hs hw).mem hm ?_ ?_ ?_ ?_
  · intro k x hk
    rcases back hk with ⟨rfl, rfl⟩ | ⟨hne, hk⟩
    · exact .inr hok
    · exact .inl ⟨hk, fun c hl hc e => by subst e; exact hne (hm.inj k j x o c hk hj hl ho hc hb)⟩
  · intro k hk; exact hm.fresh k (by simpa using hk)
  · intro i k oi ok c hi hk li lk bi bk
    have lift : ∀ {k : Nat} {x : SO}, (os.set j o')[k]? = some x → x.isLive = true → ∃ y, os[k]? = some y ∧ y.isLive = true := by
      intro k x hk hl
      rcases back hk with ⟨rfl, rfl⟩ | ⟨_, hk⟩
      · exact ⟨o, hj, ho⟩
      · exact ⟨x, hk, hl⟩
    obtain ⟨y, hy, hyl⟩ := lift hi li
    obtain ⟨z, hz, hzl⟩ := lift hk lk
    exact hm.inj i k y z c hy hz hyl hzl bi bk
  · intro k sz l c hk hc
    rcases back hk with ⟨rfl, e⟩ | ⟨_, hk⟩
    · obtain ⟨sz', l', rfl⟩ := hmine sz l e.symm
      exact hm.mine k sz' l' c hj hc
    · exact hm.mine k sz l c hk hc
end Go.Proofs.Ytikennabfbkdhaa
