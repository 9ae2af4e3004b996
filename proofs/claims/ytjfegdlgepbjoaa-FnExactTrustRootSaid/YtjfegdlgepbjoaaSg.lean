/- The evaluator S: how memory and the objects may change. -/
import Derived.Test.YtjfegdlgepbjoaaSf
namespace Go.Proofs.Ytjfegdlgepbjoaa
open Go
set_option linter.unusedVariables false
set_option linter.unusedSimpArgs false

def upd (g : Nat → Gh) (j : Nat) (x : Gh) : Nat → Gh := fun i => if i = j then x else g i

/-- One step: W: the blocks that are written. -/
structure Chg (fr : Fr) (os : List SO) (g : Nat → Gh) (w : World) (os' : List SO) (g' : Nat → Gh) (w' : World) (W : Nat → Prop) : Prop where
  size : w.heap.size ≤ w'.heap.size
  same : ∀ b, b < w.heap.size → ¬ W b → w'.heap[b]? = w.heap[b]?
  only : ∀ b, W b → live os g b
  ext : ∀ j, g j ≠ .no → g' j = g j
  live : ∀ b, live os' g' b → (live os g b ∨ w.heap.size ≤ b) ∧ b < w'.heap.size
  out : SameOut w w'

theorem Chg.grow {fr : Fr} {os os' : List SO} {g g' : Nat → Gh} {w w' : World} {W : Nat → Prop} (h : Chg fr os g w os' g' w' W) : Grow fr os g w os' g' w' where
  sub b hb := ⟨Nat.lt_of_lt_of_le hb.1 h.size, hb.2.1, fun hl => by
    rcases (h.live b hl).1 with hl' | hl'
    · exact hb.2.2 hl'
    · have := hb.1; omega⟩
  same b hb := h.same b hb.1 fun hw => hb.2.2 (h.only b hw)
  ext := h.ext

theorem Chg.mem {fr : Fr} {os os' : List SO} {g g' : Nat → Gh} {w w' : World} {W : Nat → Prop} (h : Chg fr os g w os' g' w' W) (hm : Mem fr os g w)
    (objs : ∀ j o, os'[j]? = some o → (os[j]? = some o ∧ ∀ b, o.isLive = true → (g j).block? = some b → ¬ W b) ∨ ObjOK w' (Bk fr os' g' w') g' j o)
    (fresh : ∀ j, os'.length ≤ j → g' j = .no)
    (inj : ∀ i j oi oj b, os'[i]? = some oi → os'[j]? = some oj → oi.isLive = true → oj.isLive = true → (g' i).block? = some b → (g' j).block? = some b → i = j)
    (mine : ∀ j sz l b, os'[j]? = some (.arr false sz l) → (g' j).block? = some b → fr.N ≤ b) : Mem fr os' g' w' where
  objs j o hj := by
    rcases objs j o hj with ⟨h1, h2⟩ | h1
    · have hg := h.grow
      refine (hm.objs j o h1).mono hg.sub hg.same hg.ext fun b hl hb => ?_
      exact h.same b (hm.own b ⟨j, o, h1, hl, hb⟩).1 (h2 b hl hb)
    · exact h1
  fresh := fresh
  inj := inj
  own b hb := ⟨(h.live b hb).2, fun hN => by
    rcases (h.live b hb).1 with hl | hl
    · exact (hm.own b hl).2 hN
    · have := hm.size; omega⟩
  mine := mine
  frame b hN hL := by
    have hb : b < w.heap.size := Nat.lt_of_lt_of_le hN hm.size
    rw [h.same b hb fun hw => hL ((hm.own b (h.only b hw)).2 hN)]
    exact hm.frame b hN hL
  size := Nat.le_trans hm.size h.size
  out := hm.out.trans h.out

theorem getElem?_snoc {α : Type} (l : List α) (x y : α) (j : Nat) (h : (l ++ [x])[j]? = some y) : (j < l.length ∧ l[j]? = some y) ∨ (j = l.length ∧ y = x) := by
  rcases Nat.lt_trichotomy j l.length with h' | h' | h'
  · exact .inl ⟨h', by rwa [List.getElem?_append_left h'] at h⟩
  · subst h'; simp at h; exact .inr ⟨rfl, h.symm⟩
  · rw [List.getElem?_append_right (by omega)] at h
    have : j - l.length ≠ 0 := by omega
    cases hk : j - l.length with
    | zero => omega
    | succ k => simp [hk] at h

theorem lt_of_getElem? {α : Type} {l : List α} {i : Nat} {x : α} (h : l[i]? = some x) : i < l.length := by
  rcases Nat.lt_or_ge i l.length with h' | h'
  · exact h'
  · simp [List.getElem?_eq_none h'] at h

/-- What an operation leaves. -/
def Res (fr : Fr) (os : List SO) (g : Nat → Gh) (w : World) (os' : List SO) (x : SV) (v : Value) (w' : World) : Prop :=
  ∃ g', Mem fr os' g' w' ∧ Grow fr os g w os' g' w' ∧ RepV w' (Bk fr os' g' w') g' x v

theorem Res.same {fr : Fr} {os : List SO} {g : Nat → Gh} {w : World} {x : SV} {v : Value} (hm : Mem fr os g w) (h : RepV w (Bk fr os g w) g x v) : Res fr os g w os x v w :=
  ⟨g, hm, Grow.refl _ _ _ _, h⟩

/-- A new object, in a new block or in none. -/
theorem push_chg {fr : Fr} {os : List SO} {g : Nat → Gh} {w w' : World} (hm : Mem fr os g w) (so : SameOut w w') (o : SO) (x : Gh) (hs : w.heap.size ≤ w'.heap.size)
    (hw : ∀ b, b < w.heap.size → w'.heap[b]? = w.heap[b]?) (hx : ∀ b, x.block? = some b → w.heap.size ≤ b ∧ b < w'.heap.size) :
    Chg fr os g w (os ++ [o]) (upd g os.length x) w' (fun _ => False) where
  out := so
  size := hs
  same b hb _ := hw b hb
  only b hb := hb.elim
  ext j hj := by
    unfold upd
    split
    · rename_i e; subst e; exact absurd (hm.fresh _ (Nat.le_refl _)) hj
    · rfl
  live b hb := by
    obtain ⟨j, o', hj, hl, hb⟩ := hb
    rcases getElem?_snoc _ _ _ _ hj with ⟨h1, h2⟩ | ⟨rfl, rfl⟩
    · have hg : upd g os.length x j = g j := by unfold upd; rw [if_neg (by omega)]
      rw [hg] at hb
      have : live os g b := ⟨j, o', h2, hl, hb⟩
      exact ⟨.inl this, Nat.lt_of_lt_of_le (hm.own b this).1 hs⟩
    · have hg : upd g os.length x os.length = x := by unfold upd; rw [if_pos rfl]
      rw [hg] at hb
      exact ⟨.inr (hx b hb).1, (hx b hb).2⟩

theorem push_mem {fr : Fr} {os : List SO} {g : Nat → Gh} {w w' : World} (hm : Mem fr os g w) (so : SameOut w w') (o : SO) (x : Gh) (hs : w.heap.size ≤ w'.heap.size)
    (hw : ∀ b, b < w.heap.size → w'.heap[b]? = w.heap[b]?) (hx : ∀ b, x.block? = some b → w.heap.size ≤ b ∧ b < w'.heap.size)
    (ho : ObjOK w' (Bk fr (os ++ [o]) (upd g os.length x) w') (upd g os.length x) os.length o) : Mem fr (os ++ [o]) (upd g os.length x) w' := by
  have hold : ∀ j, j < os.length → upd g os.length x j = g j := fun j hj => by unfold upd; rw [if_neg (by omega)]
  have hnew : upd g os.length x os.length = x := by unfold upd; rw [if_pos rfl]
  have hlt : ∀ {i : Nat} {oi : SO} {b : Nat}, os[i]? = some oi → oi.isLive = true → (g i).block? = some b → b < w.heap.size := fun h1 h2 h3 => (hm.own _ ⟨_, _, h1, h2, h3⟩).1
  refine (push_chg hm so o x hs hw hx).mem hm ?_ ?_ ?_ ?_
  · intro j o' hj
    rcases getElem?_snoc _ _ _ _ hj with ⟨h1, h2⟩ | ⟨rfl, rfl⟩
    · exact .inl ⟨h2, fun _ _ _ h => h⟩
    · exact .inr ho
  · intro j hj
    simp at hj
    unfold upd
    rw [if_neg (by omega)]
    exact hm.fresh j (by omega)
  · intro i j oi oj b hi hj li lj bi bj
    rcases getElem?_snoc _ _ _ _ hi with ⟨i1, i2⟩ | ⟨rfl, rfl⟩ <;> rcases getElem?_snoc _ _ _ _ hj with ⟨j1, j2⟩ | ⟨rfl, rfl⟩
    · rw [hold i i1] at bi; rw [hold j j1] at bj; exact hm.inj i j oi oj b i2 j2 li lj bi bj
    · rw [hold i i1] at bi; rw [hnew] at bj; have := hlt i2 li bi; have := (hx b bj).1; omega
    · rw [hnew] at bi; rw [hold j j1] at bj; have := hlt j2 lj bj; have := (hx b bi).1; omega
    · rfl
  · intro j sz l b hj hb
    rcases getElem?_snoc _ _ _ _ hj with ⟨j1, j2⟩ | ⟨rfl, _⟩
    · rw [hold j j1] at hb; exact hm.mine j sz l b j2 hb
    · rw [hnew] at hb; exact Nat.le_trans hm.size (hx b hb).1

theorem out_alloc (w : World) (o : Obj) : SameOut w (w.alloc o) := ⟨rfl, rfl, rfl⟩

theorem out_drew (w : World) (o : Obj) : SameOut w (w.drew.alloc o) := ⟨rfl, rfl, rfl⟩

theorem heap_alloc_lt (w : World) (o : Obj) (b : Nat) (h : b < w.heap.size) : (w.alloc o).heap[b]? = w.heap[b]? := by
  show (w.heap.push o)[b]? = w.heap[b]?
  rw [Array.getElem?_push, if_neg (Nat.ne_of_lt h)]

theorem heap_alloc_new (w : World) (o : Obj) : (w.alloc o).heap[w.heap.size]? = some o := by
  show (w.heap.push o)[w.heap.size]? = some o
  rw [Array.getElem?_push, if_pos rfl]

theorem cells_alloc_new (w : World) (cs : Array Value) (t : Nat) : CellsAt (w.alloc (.cells cs t)) w.heap.size 0 cs.toList := by
  intro k v hk
  rw [World.cell?_alloc_new, Nat.zero_add]
  simpa using hk

theorem room_alloc_new (w : World) (cs : Array Value) (t n : Nat) (h : n ≤ cs.size) : Room (w.alloc (.cells cs t)) w.heap.size n :=
  ⟨cs, t, (0, 0), heap_alloc_new w _, h, fun o ho hc => by omega⟩

/-- An empty array, behind the nil slice. -/
theorem push_nil {fr : Fr} {os : List SO} {g : Nat → Gh} {w : World} (hm : Mem fr os g w) (sz : Nat) :
    Mem fr (os ++ [.arr false sz []]) (upd g os.length .nil) w ∧ Grow fr os g w (os ++ [.arr false sz []]) (upd g os.length .nil) w ∧
    (upd g os.length .nil) os.length = .nil := by
  have hx : ∀ b, Gh.nil.block? = some b → w.heap.size ≤ b ∧ b < w.heap.size := fun b h => by simp [Gh.block?] at h
  have hn : (upd g os.length .nil) os.length = .nil := by unfold upd; rw [if_pos rfl]
  refine ⟨push_mem hm ⟨rfl, rfl, rfl⟩ _ _ (Nat.le_refl _) (fun _ _ => rfl) hx ?_, (push_chg hm ⟨rfl, rfl, rfl⟩ _ _ (Nat.le_refl _) (fun _ _ => rfl) hx).grow, hn⟩
  exact .inl ⟨rfl, hn⟩

/-- A variable in new memory. -/
theorem push_box {fr : Fr} {os : List SO} {g : Nat → Gh} {w : World} (hm : Mem fr os g w) {l : List SV} {vs : List Value} (hl : RepL w (Bk fr os g w) g l vs) (h1 : ∀ v : Value, v ∈ vs → v.oneCell' = true) (t : Nat) :
    Res fr os g w (os ++ [.box l]) (.ptr os.length 0) (.pointer (some ⟨w.heap.size, 0, none⟩)) (w.alloc (.cells vs.toArray t)) := by
  have hx : ∀ b, (Gh.bx w.heap.size).block? = some b → w.heap.size ≤ b ∧ b < (w.alloc (.cells vs.toArray t)).heap.size := fun b h => by simp [Gh.block?] at h; simp [h]
  have hn : (upd g os.length (.bx w.heap.size)) os.length = .bx w.heap.size := by unfold upd; rw [if_pos rfl]
  have hs : w.heap.size ≤ (w.alloc (.cells vs.toArray t)).heap.size := by simp
  have hg := (push_chg hm (out_alloc w _) (.box l) _ hs (heap_alloc_lt w (.cells vs.toArray t)) hx).grow
  refine ⟨_, push_mem hm (out_alloc w _) _ _ hs (heap_alloc_lt w _) hx ?_, hg, .ptr hn⟩
  refine ⟨w.heap.size, vs, hn, hl.mono hg.sub hg.same hg.ext, h1, by simpa using cells_alloc_new w vs.toArray t, room_alloc_new w _ t _ (by simp)⟩

/-- An array in new memory. -/
theorem push_arr {fr : Fr} {os : List SO} {g : Nat → Gh} {w : World} (hm : Mem fr os g w) {l : List SV} {vs junk : List Value} {sz cap : Nat} (hl : RepL w (Bk fr os g w) G0 l vs)
    (h1 : ∀ v : Value, v ∈ vs → ElOK sz v) (hc : l.length ≤ cap) (hj : (flatV vs ++ junk).length = cap * sz) (t : Nat) :
    Res fr os g w (os ++ [.arr false sz l]) (.osl os.length) (.slice (some ⟨w.heap.size, 0, none⟩) l.length cap) (w.alloc (.cells (flatV vs ++ junk).toArray t)) := by
  have hx : ∀ b, (Gh.blk w.heap.size sz l.length cap).block? = some b → w.heap.size ≤ b ∧ b < (w.alloc (.cells (flatV vs ++ junk).toArray t)).heap.size := fun b h => by simp [Gh.block?] at h; simp [h]
  have hn : (upd g os.length (.blk w.heap.size sz l.length cap)) os.length = .blk w.heap.size sz l.length cap := by unfold upd; rw [if_pos rfl]
  have hs : w.heap.size ≤ (w.alloc (.cells (flatV vs ++ junk).toArray t)).heap.size := by simp
  have hg := (push_chg hm (out_alloc w _) (.arr false sz l) _ hs (heap_alloc_lt w (.cells (flatV vs ++ junk).toArray t)) hx).grow
  refine ⟨_, push_mem hm (out_alloc w _) _ _ hs (heap_alloc_lt w _) hx ?_, hg, .osl hn⟩
  refine .inr ⟨w.heap.size, cap, vs, hn, hc, hl.mono hg.sub hg.same (fun j hj => absurd rfl hj), h1, ?_, room_alloc_new w _ t _ (by simp [← hj])⟩
  have := (cells_alloc_new w (flatV vs ++ junk).toArray t).take (flatV vs).length
  simpa using this

end Go.Proofs.Ytjfegdlgepbjoaa
