/- The evaluator S and what it says of functions: Sf, Sg, Sh, Si, Sj, Sk. -/
import Derived.Test.YtlnenahbffkbiaaSe
import Derived.Laws.Tables
import Derived.Laws.IdiomCopy
import Derived.Laws.AppendOwn
/- The evaluator S: arithmetic, comparisons, conversions that make nothing. -/
namespace Go.Proofs.Ytlnenahbffkbiaa
open Go
set_option linter.unusedVariables false
set_option linter.unusedSimpArgs false
variable {P : Program} {T : Tab}
theorem v_rep {w : World} {B : Nat → Prop} {g : Nat → Gh} {x v : Value} (h : RepV w B g (.v x) v) : v = x := by cases h; rfl
theorem run_add {w : World} {t : Nat} {k : IntKind} {a b : Int} : (binOp .add t (.int k a) (.int k b)).run P w = .ok (.int k (k.wrap (a + b))) w := by
  rw [binOp_add]; simp [Op.intArith]
theorem bin_rep (hT : TabOk P T) {w : World} {B : Nat → Prop} {g : Nat → Gh} {op : BinOp} {t : Nat} {x y r : SV} {xv yv : Value} {xo yo : Operand}
    (hx : RepV w B g x xv) (hy : RepV w B g y yv) (h : binS T op t x y = some r) :
    ∃ v, (do eqGuard op t xo yo xv yv; binOp op t xv yv : Sem Value).run P w = .ok v w ∧ RepV w B g r v := by
  unfold binS at h
  split at h
  · rename_i k a k' b
    obtain rfl := v_rep hx
    obtain rfl := v_rep hy
    have key : ∀ op, (op = .shl → False) → (op = .shr → False) → (if k = k' then intBin op k a b else none) = some r →
        ∃ v, (do eqGuard op t xo yo (.int k a) (.int k' b); binOp op t (.int k a) (.int k' b) : Sem Value).run P w = .ok v w ∧ RepV w B g r v := by
      intro op _ _ h
      split at h
      · rename_i hk
        subst hk
        cases op <;> simp only [intBin] at h <;> first
          | (simp at h; done)
          | (split at h <;> first
              | (simp at h; done)
              | (rename_i hb; obtain rfl := Option.some.inj h; exact ⟨_, by simp [eqGuard_at_int, binOp, Op.intDiv, hb], .v rfl⟩))
          | (obtain rfl := Option.some.inj h; exact ⟨_, by simp [eqGuard_at_int, binOp, Op.intArith, Op.intCmp, Op.intBits], .v rfl⟩)
      · simp at h
    split at h
    · simp at h
    · split at h
      · simp at h
      · rename_i hb
        obtain rfl := Option.some.inj h
        exact ⟨_, by simp [eqGuard_at_int, binOp, Op.shift, hb], .v rfl⟩
    · rename_i h1 h2
      exact key op h1 h2 h
  · rename_i a b
    obtain rfl := v_rep hx
    obtain rfl := v_rep hy
    unfold strBin at h
    split at h
    · split at h
      · simp at h
      · rename_i hl
        obtain rfl := Option.some.inj h
        refine ⟨.string (a ++ b), ?_, .v rfl⟩
        simp only [eqGuard_add, binOp, Op.stringOp, Sem.run_bind, Sem.run_pure, Result.andThen_ok]
        rw [if_neg hl]; rfl
    · obtain rfl := Option.some.inj h
      exact ⟨_, by simp [eqGuard_at_string, binOp, Op.stringOp], .v rfl⟩
    · obtain rfl := Option.some.inj h
      exact ⟨_, by simp [eqGuard_at_string, binOp, Op.stringOp], .v rfl⟩
    · simp at h
  · rename_i a b
    obtain rfl := v_rep hx
    obtain rfl := v_rep hy
    split at h
    · rename_i hu
      obtain rfl := Option.some.inj h
      exact ⟨_, by simp [eqGuard_at_bool, run_eql_bool _ _ _ _ (hT.bool t hu)], .v rfl⟩
    · rename_i hu
      obtain rfl := Option.some.inj h
      exact ⟨_, by simp [eqGuard_at_bool, run_neq_bool _ _ _ _ (hT.bool t hu)], .v rfl⟩
    · simp at h
  · rename_i a b
    cases hx with
    | ag a1 a2 a3 =>
      rename_i va
      cases hy with
      | ag b1 b2 b3 =>
        rename_i vb
        have conv : ∀ (a b : List SV) (va vb : List Value) (r : Bool), RepL w B g a va → RepL w B g b vb → sameInts a b = some r → intsEq va vb = some r := by
          intro a
          induction a with
          | nil =>
            intro b va vb r ha hb h
            cases b with
            | nil =>
              have := ha.1; have := hb.1
              cases va <;> simp at *
              cases vb <;> simp at *
              simpa [sameInts, intsEq] using h
            | cons => simp [sameInts] at h
          | cons x a ih =>
            intro b va vb r ha hb h
            cases b with
            | nil => cases x <;> simp [sameInts] at h
            | cons y b =>
              obtain ⟨u, va', rfl, hu, ha'⟩ := ha.uncons
              obtain ⟨u', vb', rfl, hu', hb'⟩ := hb.uncons
              unfold sameInts at h
              split at h
              · simp_all
              · rename_i k p xs k' q ys e1 e2
                cases e1; cases e2
                obtain rfl := v_rep hu
                obtain rfl := v_rep hu'
                split at h
                · rename_i hk
                  subst hk
                  split at h
                  · rename_i r' hr'
                    have := ih b va' vb' r' ha' hb' hr'
                    simpa [intsEq, this] using h
                  · simp at h
                · simp at h
              · simp at h
        split at h
        · rename_i fs i hu hi
          obtain ⟨e1, e2⟩ := hT.eqs t fs i hu hi
          split at h
          · rename_i hz
            split at h
            · rename_i r' hr'
              obtain rfl := Option.some.inj h
              have := e2 va vb r' w (conv a b va vb r' ⟨a1, a2⟩ ⟨b1, b2⟩ hr') (by rw [← a1]; exact hz)
              exact ⟨.bool r', by simp [eqGuard, e1, binOp, this], .v rfl⟩
            · simp at h
          · simp at h
        · rename_i fs i hu hi
          obtain ⟨e1, e2⟩ := hT.eqs t fs i hu hi
          split at h
          · rename_i hz
            split at h
            · rename_i r' hr'
              obtain rfl := Option.some.inj h
              have := e2 va vb r' w (conv a b va vb r' ⟨a1, a2⟩ ⟨b1, b2⟩ hr') (by rw [← a1]; exact hz)
              exact ⟨.bool (!r'), by simp [eqGuard, e1, binOp, this], .v rfl⟩
            · simp at h
          · simp at h
        · simp at h
  · simp at h
theorem un_rep {w : World} {B : Nat → Prop} {g : Nat → Gh} {op : UnOp} {x r : SV} {xv : Value} (hx : RepV w B g x xv) (h : unS op x = some r) :
    ∃ v, (Op.unary op xv).run P w = .ok v w ∧ RepV w B g r v := by
  unfold unS at h
  split at h
  · obtain rfl := Option.some.inj h; obtain rfl := v_rep hx; exact ⟨_, rfl, .v rfl⟩
  · obtain rfl := Option.some.inj h; obtain rfl := v_rep hx; exact ⟨_, rfl, .v rfl⟩
  · simp at h
theorem elems_rep {fr : Fr} {os : List SO} {g : Nat → Gh} {w : World} (hm : Mem fr os g w) {x : SV} {xv : Value} {sz : Nat} {l : List SV}
    (hx : RepV w (Bk fr os g w) g x xv) (h : elems os x = some (sz, l)) :
    ∃ a c, xv = .slice a l.length c ∧ l.length ≤ c ∧ (l = [] ∨ ∃ b o vs, a = some ⟨b, o, none⟩ ∧ RepL w (Bk fr os g w) G0 l vs ∧ (∀ v : Value, v ∈ vs → ElOK sz v) ∧ CellsAt w b o (flatV vs)) := by
  have part : ∀ {l : List SV} {vs : List Value} {b : Nat} {lo hi : Nat}, RepL w (Bk fr os g w) G0 l vs → (∀ v : Value, v ∈ vs → ElOK sz v) → CellsAt w b 0 (flatV vs) →
      RepL w (Bk fr os g w) G0 ((l.take hi).drop lo) ((vs.take hi).drop lo) ∧ (∀ v : Value, v ∈ (vs.take hi).drop lo → ElOK sz v) ∧ CellsAt w b (lo * sz) (flatV ((vs.take hi).drop lo)) := by
    intro l vs b lo hi h1 h2 h3
    refine ⟨(h1.take hi).drop lo, fun v hv => h2 v (List.mem_of_mem_take (List.mem_of_mem_drop hv)), ?_⟩
    have := (h3.take (hi * sz)).drop (lo * sz)
    rw [flatV_take h2, flatV_drop (fun v hv => h2 v (List.mem_of_mem_take hv))] at this
    simpa using this
  unfold elems at h
  split at h
  · obtain ⟨rfl, rfl⟩ := Prod.mk.inj (Option.some.inj h)
    cases hx with
    | sl0 => exact ⟨_, _, rfl, Nat.zero_le _, .inl rfl⟩
    | sl h1 h2 h3 h4 h5 h6 => exact ⟨_, _, rfl, h6, .inr ⟨_, _, _, rfl, ⟨h1, h2⟩, h3, h4⟩⟩
  · rename_i j
    split at h
    · rename_i lt sz' l' hj
      obtain ⟨rfl, rfl⟩ := Prod.mk.inj (Option.some.inj h)
      rcases hm.objs _ _ hj with ⟨rfl, hn⟩ | ⟨b, cap, vs, e1, e2, e3, e4, e5, e6⟩
      · cases hx with
        | osl0 => exact ⟨_, _, rfl, Nat.le_refl _, .inl rfl⟩
        | osl hg => rw [hn] at hg; cases hg
      · cases hx with
        | osl0 hg => rw [e1] at hg; cases hg
        | osl hg => rw [e1] at hg; cases hg; exact ⟨_, _, rfl, e2, .inr ⟨_, _, _, rfl, e3, e4, e5⟩⟩
    · rename_i sz' l' hj
      obtain ⟨rfl, rfl⟩ := Prod.mk.inj (Option.some.inj h)
      rcases hm.objs _ _ hj with ⟨rfl, hn⟩ | ⟨b, cap, vs, e1, e2, e3, e4, e5, e6⟩
      · cases hx with
        | osl0 => exact ⟨_, _, rfl, Nat.le_refl _, .inl rfl⟩
        | osl hg => rw [hn] at hg; cases hg
      · cases hx with
        | osl0 hg => rw [e1] at hg; cases hg
        | osl hg => rw [e1] at hg; cases hg; exact ⟨_, _, rfl, e2, .inr ⟨_, _, _, rfl, e4, e5, e6⟩⟩
    · simp at h
  · rename_i j lo hi
    split at h
    · rename_i lt sz' l' hj
      split at h
      · rename_i hc
        obtain ⟨rfl, rfl⟩ := Prod.mk.inj (Option.some.inj h)
        have hlen : ((l'.take hi).drop lo).length = hi - lo := by simp; omega
        rw [hlen]
        cases hx with
        | vw0 => exact ⟨_, _, by rw [Nat.sub_self], by omega, .inl (by rw [← List.length_eq_zero_iff, hlen]; omega)⟩
        | vw hg a1 a2 a3 =>
          rcases hm.objs _ _ hj with ⟨rfl, hn⟩ | ⟨b, cap, vs, e1, e2, e3, e4, e5, e6⟩
          · rw [hn] at hg; cases hg
          · rw [e1] at hg
            cases hg
            obtain ⟨p1, p2, p3⟩ := part (lo := lo) (hi := hi) e3 e4 e5
            exact ⟨_, _, rfl, a3, .inr ⟨_, _, _, rfl, p1, p2, p3⟩⟩
      · simp at h
    · rename_i sz' l' hj
      split at h
      · rename_i hc
        obtain ⟨rfl, rfl⟩ := Prod.mk.inj (Option.some.inj h)
        have hlen : ((l'.take hi).drop lo).length = hi - lo := by simp; omega
        rw [hlen]
        cases hx with
        | vw0 => exact ⟨_, _, by rw [Nat.sub_self], by omega, .inl (by rw [← List.length_eq_zero_iff, hlen]; omega)⟩
        | vw hg a1 a2 a3 =>
          rcases hm.objs _ _ hj with ⟨rfl, hn⟩ | ⟨b, cap, vs, e1, e2, e3, e4, e5, e6⟩
          · rw [hn] at hg; cases hg
          · rw [e1] at hg
            cases hg
            obtain ⟨p1, p2, p3⟩ := part (lo := lo) (hi := hi) e4 e5 e6
            exact ⟨_, _, rfl, a3, .inr ⟨_, _, _, rfl, p1, p2, p3⟩⟩
      · simp at h
    · simp at h
  · simp at h
end Go.Proofs.Ytlnenahbffkbiaa

/- The evaluator S: how memory and the objects may change. -/
namespace Go.Proofs.Ytlnenahbffkbiaa
open Go
set_option linter.unusedVariables false
set_option linter.unusedSimpArgs false
def upd (g : Nat → Gh) (j : Nat) (x : Gh) : Nat → Gh := fun i => if i = j then x else g i
structure Chg (fr : Fr) (os : List SO) (g : Nat → Gh) (w : World) (os' : List SO) (g' : Nat → Gh) (w' : World) (W : Nat → Prop) : Prop where
  size : w.heap.size ≤ w'.heap.size
  same : ∀ b, b < w.heap.size → ¬ W b → w'.heap[b]? = w.heap[b]?
  only : ∀ b, W b → live os g b
  ext : ∀ j, g j ≠ .no → g' j = g j
  live : ∀ b, live os' g' b → (live os g b ∨ w.heap.size ≤ b) ∧ b < w'.heap.size
  out : SameOut w w'
theorem Chg.grow {fr : Fr} {os os' : List SO} {g g' : Nat → Gh} {w w' : World} {W : Nat → Prop} (h : Chg fr os g w os' g' w' W) : Grow fr os g w os' g' w' where
  sub b hb := ⟨Nat.lt_of_lt_of_le hb.1 h.size, hb.2.1, fun hl => by
    rcases (h.live b hl).1 with hl' | hl'
    · exact hb.2.2 hl'
    · have := hb.1; omega⟩
  same b hb := h.same b hb.1 fun hw => hb.2.2 (h.only b hw)
  ext := h.ext
theorem Chg.mem {fr : Fr} {os os' : List SO} {g g' : Nat → Gh} {w w' : World} {W : Nat → Prop} (h : Chg fr os g w os' g' w' W) (hm : Mem fr os g w)
    (objs : ∀ j o, os'[j]? = some o → (os[j]? = some o ∧ ∀ b, o.isLive = true → (g j).block? = some b → ¬ W b) ∨ ObjOK w' (Bk fr os' g' w') g' j o)
    (fresh : ∀ j, os'.length ≤ j → g' j = .no)
    (inj : ∀ i j oi oj b, os'[i]? = some oi → os'[j]? = some oj → oi.isLive = true → oj.isLive = true → (g' i).block? = some b → (g' j).block? = some b → i = j)
    (mine : ∀ j sz l b, os'[j]? = some (.arr false sz l) → (g' j).block? = some b → fr.N ≤ b) : Mem fr os' g' w' where
  objs j o hj := by
    rcases objs j o hj with ⟨h1, h2⟩ | h1
    · have hg := h.grow
      refine (hm.objs j o h1).mono hg.sub hg.same hg.ext fun b hl hb => ?_
      exact h.same b (hm.own b ⟨j, o, h1, hl, hb⟩).1 (h2 b hl hb)
    · exact h1
  fresh := fresh
  inj := inj
  own b hb := ⟨(h.live b hb).2, fun hN => by
    rcases (h.live b hb).1 with hl | hl
    · exact (hm.own b hl).2 hN
    · have := hm.size; omega⟩
  mine := mine
  frame b hN hL := by
    have hb : b < w.heap.size := Nat.lt_of_lt_of_le hN hm.size
    rw [h.same b hb fun hw => hL ((hm.own b (h.only b hw)).2 hN)]
    exact hm.frame b hN hL
  size := Nat.le_trans hm.size h.size
  out := hm.out.trans h.out
theorem getElem?_snoc {α : Type} (l : List α) (x y : α) (j : Nat) (h : (l ++ [x])[j]? = some y) : (j < l.length ∧ l[j]? = some y) ∨ (j = l.length ∧ y = x) := by
  rcases Nat.lt_trichotomy j l.length with h' | h' | h'
  · exact .inl ⟨h', by rwa [List.getElem?_append_left h'] at h⟩
  · subst h'; simp at h; exact .inr ⟨rfl, h.symm⟩
  · rw [List.getElem?_append_right (by omega)] at h
    have : j - l.length ≠ 0 := by omega
    cases hk : j - l.length with
    | zero => omega
    | succ k => simp [hk] at h
theorem lt_of_getElem? {α : Type} {l : List α} {i : Nat} {x : α} (h : l[i]? = some x) : i < l.length := by
  rcases Nat.lt_or_ge i l.length with h' | h'
  · exact h'
  · simp [List.getElem?_eq_none h'] at h
def Res (fr : Fr) (os : List SO) (g : Nat → Gh) (w : World) (os' : List SO) (x : SV) (v : Value) (w' : World) : Prop :=
  ∃ g', Mem fr os' g' w' ∧ Grow fr os g w os' g' w' ∧ RepV w' (Bk fr os' g' w') g' x v
theorem Res.same {fr : Fr} {os : List SO} {g : Nat → Gh} {w : World} {x : SV} {v : Value} (hm : Mem fr os g w) (h : RepV w (Bk fr os g w) g x v) : Res fr os g w os x v w :=
  ⟨g, hm, Grow.refl _ _ _ _, h⟩
theorem push_chg {fr : Fr} {os : List SO} {g : Nat → Gh} {w w' : World} (hm : Mem fr os g w) (so : SameOut w w') (o : SO) (x : Gh) (hs : w.heap.size ≤ w'.heap.size)
    (hw : ∀ b, b < w.heap.size → w'.heap[b]? = w.heap[b]?) (hx : ∀ b, x.block? = some b → w.heap.size ≤ b ∧ b < w'.heap.size) :
    Chg fr os g w (os ++ [o]) (upd g os.length x) w' (fun _ => False) where
  out := so
  size := hs
  same b hb _ := hw b hb
  only b hb := hb.elim
  ext j hj := by
    unfold upd
    split
    · rename_i e; subst e; exact absurd (hm.fresh _ (Nat.le_refl _)) hj
    · rfl
  live b hb := by
    obtain ⟨j, o', hj, hl, hb⟩ := hb
    rcases getElem?_snoc _ _ _ _ hj with ⟨h1, h2⟩ | ⟨rfl, rfl⟩
    · have hg : upd g os.length x j = g j := by unfold upd; rw [if_neg (by omega)]
      rw [hg] at hb
      have : live os g b := ⟨j, o', h2, hl, hb⟩
      exact ⟨.inl this, Nat.lt_of_lt_of_le (hm.own b this).1 hs⟩
    · have hg : upd g os.length x os.length = x := by unfold upd; rw [if_pos rfl]
      rw [hg] at hb
      exact ⟨.inr (hx b hb).1, (hx b hb).2⟩
theorem push_mem {fr : Fr} {os : List SO} {g : Nat → Gh} {w w' : World} (hm : Mem fr os g w) (so : SameOut w w') (o : SO) (x : Gh) (hs : w.heap.size ≤ w'.heap.size)
    (hw : ∀ b, b < w.heap.size → w'.heap[b]? = w.heap[b]?) (hx : ∀ b, x.block? = some b → w.heap.size ≤ b ∧ b < w'.heap.size)
    (ho : ObjOK w' (Bk fr (os ++ [o]) (upd g os.length x) w') (upd g os.length x) os.length o) : Mem fr (os ++ [o]) (upd g os.length x) w' := by
  have hold : ∀ j, j < os.length → upd g os.length x j = g j := fun j hj => by unfold upd; rw [if_neg (by omega)]
  have hnew : upd g os.length x os.length = x := by unfold upd; rw [if_pos rfl]
  have hlt : ∀ {i : Nat} {oi : SO} {b : Nat}, os[i]? = some oi → oi.isLive = true → (g i).block? = some b → b < w.heap.size := fun h1 h2 h3 => (hm.own _ ⟨_, _, h1, h2, h3⟩).1
  refine (push_chg hm so o x hs hw hx).mem hm ?_ ?_ ?_ ?_
  · intro j o' hj
    rcases getElem?_snoc _ _ _ _ hj with ⟨h1, h2⟩ | ⟨rfl, rfl⟩
    · exact .inl ⟨h2, fun _ _ _ h => h⟩
    · exact .inr ho
  · intro j hj
    simp at hj
    unfold upd
    rw [if_neg (by omega)]
    exact hm.fresh j (by omega)
  · intro i j oi oj b hi hj li lj bi bj
    rcases getElem?_snoc _ _ _ _ hi with ⟨i1, i2⟩ | ⟨rfl, rfl⟩ <;> rcases getElem?_snoc _ _ _ _ hj with ⟨j1, j2⟩ | ⟨rfl, rfl⟩
    · rw [hold i i1] at bi; rw [hold j j1] at bj; exact hm.inj i j oi oj b i2 j2 li lj bi bj
    · rw [hold i i1] at bi; rw [hnew] at bj; have := hlt i2 li bi; have := (hx b bj).1; omega
    · rw [hnew] at bi; rw [hold j j1] at bj; have := hlt j2 lj bj; have := (hx b bi).1; omega
    · rfl
  · intro j sz l b hj hb
    rcases getElem?_snoc _ _ _ _ hj with ⟨j1, j2⟩ | ⟨rfl, _⟩
    · rw [hold j j1] at hb; exact hm.mine j sz l b j2 hb
    · rw [hnew] at hb; exact Nat.le_trans hm.size (hx b hb).1
theorem out_alloc (w : World) (o : Obj) : SameOut w (w.alloc o) := ⟨rfl, rfl, rfl⟩
theorem out_drew (w : World) (o : Obj) : SameOut w (w.drew.alloc o) := ⟨rfl, rfl, rfl⟩
theorem heap_alloc_lt (w : World) (o : Obj) (b : Nat) (h : b < w.heap.size) : (w.alloc o).heap[b]? = w.heap[b]? := by
  show (w.heap.push o)[b]? = w.heap[b]?
  rw [Array.getElem?_push, if_neg (Nat.ne_of_lt h)]
theorem heap_alloc_new (w : World) (o : Obj) : (w.alloc o).heap[w.heap.size]? = some o := by
  show (w.heap.push o)[w.heap.size]? = some o
  rw [Array.getElem?_push, if_pos rfl]
theorem cells_alloc_new (w : World) (cs : Array Value) (t : Nat) : CellsAt (w.alloc (.cells cs t)) w.heap.size 0 cs.toList := by
  intro k v hk
  rw [World.cell?_alloc_new, Nat.zero_add]
  simpa using hk
theorem room_alloc_new (w : World) (cs : Array Value) (t n : Nat) (h : n ≤ cs.size) {sz : Nat} : Room (w.alloc (.cells cs t)) w.heap.size n sz :=
  ⟨cs, t, (0, 0), heap_alloc_new w _, h, fun o ho hc => by omega, fun _ hc => by omega⟩
theorem push_nil {fr : Fr} {os : List SO} {g : Nat → Gh} {w : World} (hm : Mem fr os g w) (sz : Nat) :
    Mem fr (os ++ [.arr false sz []]) (upd g os.length .nil) w ∧ Grow fr os g w (os ++ [.arr false sz []]) (upd g os.length .nil) w ∧
    (upd g os.length .nil) os.length = .nil := by
  have hx : ∀ b, Gh.nil.block? = some b → w.heap.size ≤ b ∧ b < w.heap.size := fun b h => by simp [Gh.block?] at h
  have hn : (upd g os.length .nil) os.length = .nil := by unfold upd; rw [if_pos rfl]
  refine ⟨push_mem hm ⟨rfl, rfl, rfl⟩ _ _ (Nat.le_refl _) (fun _ _ => rfl) hx ?_, (push_chg hm ⟨rfl, rfl, rfl⟩ _ _ (Nat.le_refl _) (fun _ _ => rfl) hx).grow, hn⟩
  exact .inl ⟨rfl, hn⟩
theorem push_box {fr : Fr} {os : List SO} {g : Nat → Gh} {w : World} (hm : Mem fr os g w) {l : List SV} {vs : List Value} (hl : RepL w (Bk fr os g w) g l vs) (h1 : ∀ v : Value, v ∈ vs → v.oneCell' = true) (t : Nat) :
    Res fr os g w (os ++ [.box l]) (.ptr os.length 0) (.pointer (some ⟨w.heap.size, 0, none⟩)) (w.alloc (.cells vs.toArray t)) := by
  have hx : ∀ b, (Gh.bx w.heap.size).block? = some b → w.heap.size ≤ b ∧ b < (w.alloc (.cells vs.toArray t)).heap.size := fun b h => by simp [Gh.block?] at h; simp [h]
  have hn : (upd g os.length (.bx w.heap.size)) os.length = .bx w.heap.size := by unfold upd; rw [if_pos rfl]
  have hs : w.heap.size ≤ (w.alloc (.cells vs.toArray t)).heap.size := by simp
  have hg := (push_chg hm (out_alloc w _) (.box l) _ hs (heap_alloc_lt w (.cells vs.toArray t)) hx).grow
  refine ⟨_, push_mem hm (out_alloc w _) _ _ hs (heap_alloc_lt w _) hx ?_, hg, .ptr hn⟩
  refine ⟨w.heap.size, vs, hn, hl.mono hg.sub hg.same hg.ext, h1, by simpa using cells_alloc_new w vs.toArray t, room_alloc_new w _ t _ (by simp)⟩
theorem push_arr {fr : Fr} {os : List SO} {g : Nat → Gh} {w : World} (hm : Mem fr os g w) {l : List SV} {vs junk : List Value} {sz cap : Nat} (hl : RepL w (Bk fr os g w) G0 l vs)
    (h1 : ∀ v : Value, v ∈ vs → ElOK sz v) (hc : l.length ≤ cap) (hj : (flatV vs ++ junk).length = cap * sz) (t : Nat) :
    Res fr os g w (os ++ [.arr false sz l]) (.osl os.length) (.slice (some ⟨w.heap.size, 0, none⟩) l.length cap) (w.alloc (.cells (flatV vs ++ junk).toArray t)) := by
  have hx : ∀ b, (Gh.blk w.heap.size sz l.length cap).block? = some b → w.heap.size ≤ b ∧ b < (w.alloc (.cells (flatV vs ++ junk).toArray t)).heap.size := fun b h => by simp [Gh.block?] at h; simp [h]
  have hn : (upd g os.length (.blk w.heap.size sz l.length cap)) os.length = .blk w.heap.size sz l.length cap := by unfold upd; rw [if_pos rfl]
  have hs : w.heap.size ≤ (w.alloc (.cells (flatV vs ++ junk).toArray t)).heap.size := by simp
  have hg := (push_chg hm (out_alloc w _) (.arr false sz l) _ hs (heap_alloc_lt w (.cells (flatV vs ++ junk).toArray t)) hx).grow
  refine ⟨_, push_mem hm (out_alloc w _) _ _ hs (heap_alloc_lt w _) hx ?_, hg, .osl hn⟩
  refine .inr ⟨w.heap.size, cap, vs, hn, hc, hl.mono hg.sub hg.same (fun j hj => absurd rfl hj), h1, ?_, room_alloc_new w _ t _ (by simp [← hj])⟩
  have := (cells_alloc_new w (flatV vs ++ junk).toArray t).take (flatV vs).length
  simpa using this
end Go.Proofs.Ytlnenahbffkbiaa

/- The evaluator S: new variables, structs that are built, stores. -/
namespace Go.Proofs.Ytlnenahbffkbiaa
open Go
set_option linter.unusedVariables false
set_option linter.unusedSimpArgs false
variable {P : Program} {T : Tab}
theorem evP_none {env : Env} {a : Act} {x : Operand} (h : evP env x = none) : a.eval x = .slice none 0 0 := by
  unfold evP at h
  split at h
  · rfl
  · simp at h
theorem evP_some {env : Env} {x : Operand} {y : SV} (h : evP env x = some y) : ev env x = y := by
  unfold evP at h
  split at h
  · simp at h
  · exact Option.some.inj h
theorem evN_rep {fr : Fr} {os os1 : List SO} {g : Nat → Gh} {w : World} (hm : Mem fr os g w) {env : Env} {a : Act} (hs : Slots w (Bk fr os g w) g env a.tmps) {ty : Nat} {x : Operand} {y : SV}
    (h : evN T ty os (evP env x) = some (y, os1)) : Res fr os g w os1 y (a.eval x) w := by
  unfold evN at h
  split at h
  · rename_i hx
    split at h
    · rename_i e hu
      split at h
      · rename_i i hi
        obtain ⟨rfl, rfl⟩ := Prod.mk.inj (Option.some.inj h)
        obtain ⟨h1, h2, h3⟩ := push_nil hm i.size
        rw [evP_none hx]
        exact ⟨_, h1, h2, .osl0 h3⟩
      · simp at h
    · simp at h
  · rename_i z hx
    obtain ⟨rfl, rfl⟩ := Prod.mk.inj (Option.some.inj h)
    rw [← evP_some hx]
    exact Res.same hm (ev_rep hs x)
theorem zk_scalar {z : ZK} (h : ∀ sz, z ≠ .sl sz) : scalar z.val = true := by
  cases z <;> first | rfl | (exact absurd rfl (h _))
theorem zeroS_rep {fr : Fr} {w : World} : ∀ (zs : List ZK) {os : List SO} {g : Nat → Gh}, Mem fr os g w →
    ∃ g', Mem fr (zeroS zs os).2 g' w ∧ Grow fr os g w (zeroS zs os).2 g' w ∧ RepL w (Bk fr (zeroS zs os).2 g' w) g' (zeroS zs os).1 (zs.map ZK.val) := by
  intro zs
  induction zs with
  | nil => intro os g hm; exact ⟨g, hm, Grow.refl _ _ _ _, RepL.nil⟩
  | cons z zs ih =>
    intro os g hm
    by_cases hz : ∃ sz, z = .sl sz
    · obtain ⟨sz, rfl⟩ := hz
      obtain ⟨h1, h2, h3⟩ := push_nil hm sz
      obtain ⟨g', m, gr, r⟩ := ih h1
      refine ⟨g', m, h2.trans gr, ?_⟩
      simp only [zeroS, List.map_cons]
      refine RepL.cons (.osl0 ?_) r
      rw [gr.ext _ (by rw [h3]; simp)]; exact h3
    · have hz' : ∀ sz, z ≠ .sl sz := fun sz e => hz ⟨sz, e⟩
      obtain ⟨g', m, gr, r⟩ := ih hm
      have e : zeroS (z :: zs) os = (.v z.val :: (zeroS zs os).1, (zeroS zs os).2) := by
        cases z <;> first | rfl | exact absurd rfl (hz' _)
      rw [e]
      exact ⟨g', m, gr, RepL.cons (.v (zk_scalar hz')) r⟩
theorem zk_one (z : ZK) : z.val.oneCell' = true := by cases z <;> rfl
theorem alloc_rep (hT : TabOk P T) {fr : Fr} {os os1 : List SO} {g : Nat → Gh} {w : World} (hm : Mem fr os g w) {t : Nat} {y : SV}
    (h : allocS T os t = some (y, os1)) : ∃ v w', (Instr.alloc t true (.tuple #[])).run P w = .ok v w' ∧ Res fr os g w os1 y v w' := by
  unfold allocS at h
  split at h
  · rename_i i hi
    obtain ⟨info, z, d, i1, i2, i3, i4, i5, i6, i7, i8, i9⟩ := (hT.ti t i hi).ok
    obtain ⟨g', m, gr, r⟩ := zeroS_rep (fr := fr) (w := w) i.zero hm
    obtain ⟨rfl, rfl⟩ := Prod.mk.inj (Option.some.inj h)
    obtain ⟨g2, m2, gr2, r2⟩ := push_box m r (fun v hv => by obtain ⟨z, _, rfl⟩ := List.mem_map.1 hv; exact zk_one z) t
    refine ⟨_, _, ?_, g2, m2, gr.trans gr2, r2⟩
    rw [← i5]
    simp [Instr.alloc, run_zero i1 i4, newVar, newRow]
  · simp at h
theorem box_rep (hT : TabOk P T) {fr : Fr} {os os1 : List SO} {g : Nat → Gh} {w : World} (hm : Mem fr os g w) {env : Env} {a : Act} (hs : Slots w (Bk fr os g w) g env a.tmps) {t : Nat} {x : Operand} {y : SV}
    (h : boxS T os t (evP env x) = some (y, os1)) : ∃ v w', (Instr.box t (a.eval x)).run P w = .ok v w' ∧ Res fr os g w os1 y v w' := by
  unfold boxS at h
  split at h
  · rename_i i z osz hi hn
    split at h
    · rename_i hc
      obtain ⟨rfl, rfl⟩ := Prod.mk.inj (Option.some.inj h)
      obtain ⟨g1, m1, gr1, r1⟩ := evN_rep hm hs hn
      have hd : z ≠ .dead := by
        intro e; subst e; have := hc.2; simp [SV.cells, okCell] at this
      have hl := r1.cells hd
      obtain ⟨g2, m2, gr2, r2⟩ := push_box m1 hl (fun v hv => by
        obtain ⟨k, hk, rfl⟩ := List.mem_iff_getElem.1 hv
        have hk' : k < z.cells.length := by rw [hl.1]; exact hk
        exact okCell_one (hl.2 k z.cells[k] _ (by simp [hk']) (by simp [hk])) (List.all_eq_true.1 hc.2 _ (List.getElem_mem hk'))) t
      refine ⟨_, _, ?_, g2, m2, gr1.trans gr2, r2⟩
      simp [Instr.box, newVar, newRow]
    · simp at h
  · simp at h
def PartsRep (w : World) (B : Nat → Prop) (g : Nat → Gh) : List (Nat × SV) → List (Nat × Value) → Prop
  | [], [] => True
  | p :: ps, q :: qs => p.1 = q.1 ∧ RepV w B g p.2 q.2 ∧ PartsRep w B g ps qs
  | _, _ => False
theorem PartsRep.grow {fr : Fr} {os os' : List SO} {g g' : Nat → Gh} {w w' : World} (hg : Grow fr os g w os' g' w') : ∀ {ps : List (Nat × SV)} {qs : List (Nat × Value)},
    PartsRep w (Bk fr os g w) g ps qs → PartsRep w' (Bk fr os' g' w') g' ps qs
  | [], [], _ => trivial
  | p :: ps, q :: qs, h => ⟨h.1, h.2.1.grow hg, PartsRep.grow hg h.2.2⟩
  | [], _ :: _, h => h.elim
  | _ :: _, [], h => h.elim
theorem partsN_rep {fr : Fr} {w : World} {fs : List (Nat × Nat)} {env : Env} {a : Act} : ∀ (ps : List (Nat × Operand)) {os os1 : List SO} {g : Nat → Gh} {r : List (Nat × SV)}, Mem fr os g w →
    Slots w (Bk fr os g w) g env a.tmps → partsN T fs (ps.map fun p => (p.1, evP env p.2)) os = some (r, os1) →
    ∃ g', Mem fr os1 g' w ∧ Grow fr os g w os1 g' w ∧ PartsRep w (Bk fr os1 g' w) g' r (ps.map fun p => (p.1, a.eval p.2)) ∧
      ∀ p, p ∈ r → ∃ off t i, fs[p.1]? = some (off, t) ∧ T.ti t = some i ∧ p.2.cells.length = i.size := by
  intro ps
  induction ps with
  | nil =>
    intro os os1 g r hm hs h
    simp only [partsN, List.map_nil] at h
    obtain ⟨rfl, rfl⟩ := Prod.mk.inj (Option.some.inj h)
    exact ⟨g, hm, Grow.refl _ _ _ _, trivial, fun p hp => by simp at hp⟩
  | cons p ps ih =>
    intro os os1 g r hm hs h
    simp only [partsN, List.map_cons] at h
    split at h
    · rename_i off t hf
      split at h
      · rename_i i y os2 hi hn
        split at h
        · rename_i hz
          split at h
          · rename_i r' os3 hr
            obtain ⟨rfl, rfl⟩ := Prod.mk.inj (Option.some.inj h)
            obtain ⟨g1, m1, gr1, r1⟩ := evN_rep hm hs hn
            obtain ⟨g2, m2, gr2, r2, r3⟩ := ih m1 (hs.grow gr1) hr
            refine ⟨g2, m2, gr1.trans gr2, ⟨rfl, r1.grow gr2, r2⟩, fun q hq => ?_⟩
            rcases List.mem_cons.1 hq with rfl | hq
            · exact ⟨off, t, i, hf, hi, hz⟩
            · exact r3 q hq
          · simp at h
        · simp at h
      · simp at h
    · simp at h
theorem foldl_set (cs : List Value) : ∀ (off : Nat) (arr : Array Value) (k : Nat), off + k + cs.length ≤ arr.size →
    ((cs.zipIdx k).foldl (fun a p => a.setIfInBounds (off + p.2) p.1) arr).toList = arr.toList.take (off + k) ++ cs ++ arr.toList.drop (off + k + cs.length) := by
  induction cs with
  | nil => intro off arr k h; simp
  | cons c cs ih =>
    intro off arr k h
    simp only [List.zipIdx_cons, List.foldl_cons, List.length_cons] at h ⊢
    rw [ih off _ (k + 1) (by simp; omega)]
    have hlt : off + k < arr.toList.length := by simp; omega
    simp only [Array.toList_setIfInBounds]
    rw [show off + (k + 1) = (off + k) + 1 by omega, List.take_succ_eq_append_getElem (by simpa using hlt), List.take_set, List.getElem_set_self, List.drop_set_of_lt (by omega)]
    rw [List.set_eq_of_length_le (by simp; omega)]
    simp [Nat.add_assoc, Nat.add_comm 1]
theorem fill_step (place : Nat → Option (Nat × Nat)) (cells : Array Value) (i off : Nat) (v : Value) (rest : List (Nat × Value)) (hp : place i = some (off, v.cells.size)) (h : off + v.cells.size ≤ cells.size) :
    Instr.fill place cells ((i, v) :: rest) = Instr.fill place (cells.toList.take off ++ v.cells.toList ++ cells.toList.drop (off + v.cells.size)).toArray rest := by
  rw [Instr.fill, hp]
  simp only [ne_eq, not_true_eq_false, decide_false, Bool.false_or]
  rw [if_neg (by simp; omega)]
  congr 1
  apply Array.ext'
  have := foldl_set v.cells.toList off cells 0 (by simpa using h)
  simp only [Nat.add_zero] at this
  rw [← Array.foldl_toList, Array.toList_zipIdx]
  rw [this]
  simp
theorem setParts_rep {w : World} {B : Nat → Prop} {g : Nat → Gh} {fs : List (Nat × Nat)} (place : Nat → Option (Nat × Nat))
    (hp : ∀ (f off t : Nat) (i : TI), fs[f]? = some (off, t) → T.ti t = some i → place f = some (off, i.size)) : ∀ (ps : List (Nat × SV)) (qs : List (Nat × Value)) (cs cs' : List SV) (vs : List Value),
    PartsRep w B g ps qs → (∀ p, p ∈ ps → ∃ off t i, fs[p.1]? = some (off, t) ∧ T.ti t = some i ∧ p.2.cells.length = i.size) → RepL w B g cs vs → (∀ v : Value, v ∈ vs → v.oneCell' = true) →
    setParts fs cs ps = some cs' → ∃ vs', Instr.fill place vs.toArray qs = some vs'.toArray ∧ RepL w B g cs' vs' ∧ (∀ v : Value, v ∈ vs' → v.oneCell' = true) := by
  intro ps
  induction ps with
  | nil =>
    intro qs cs cs' vs h1 h2 h3 h4 h
    cases qs with
    | nil =>
      simp only [setParts] at h
      obtain rfl := Option.some.inj h
      exact ⟨vs, rfl, h3, h4⟩
    | cons => exact h1.elim
  | cons p ps ih =>
    intro qs cs cs' vs h1 h2 h3 h4 h
    cases qs with
    | nil => exact h1.elim
    | cons q qs =>
      obtain ⟨f, x⟩ := p
      obtain ⟨f', v⟩ := q
      obtain ⟨e1, e2, e3⟩ := h1
      simp only at e1 e2
      subst e1
      obtain ⟨off, t, i, a1, a2, a3⟩ := h2 (f, x) (by simp)
      simp only at a1 a3
      simp only [setParts, a1] at h
      split at h
      · rename_i hc
        have hd : x ≠ .dead := by intro e; subst e; have := hc.2; simp [SV.cells, okCell] at this
        have hl := e2.cells hd
        have hsz : v.cells.size = x.cells.length := by rw [hl.1]; simp
        have hone : ∀ u : Value, u ∈ v.cells.toList → u.oneCell' = true := fun u hu => by
          obtain ⟨k, hk, rfl⟩ := List.mem_iff_getElem.1 hu
          have hk' : k < x.cells.length := by rw [hl.1]; exact hk
          exact okCell_one (hl.2 k x.cells[k] _ (by simp [hk']) (by simp [hk])) (List.all_eq_true.1 hc.2 _ (List.getElem_mem hk'))
        have hle : off + v.cells.size ≤ vs.toArray.size := by rw [hsz]; simp [← h3.1]; exact hc.1
        rw [fill_step place _ f off v qs (by rw [hp f off t i a1 a2, hsz, a3]) hle]
        refine ih qs (splice cs off x.cells) cs' _ e3 (fun p hp' => h2 p (by simp [hp'])) ?_ ?_ h
        · simp only [splice, hsz]
          exact ((h3.take off).append hl).append (h3.drop _)
        · intro u hu
          simp only [List.mem_append] at hu
          rcases hu with (hu | hu) | hu
          · exact h4 u (List.mem_of_mem_take hu)
          · exact hone u hu
          · exact h4 u (List.mem_of_mem_drop hu)
      · simp at h
theorem mapM_places {T : Tab} : ∀ (fs : List Field), (∀ f, f ∈ fs → (P.info? f.type).isSome = true) →
    ∃ places, fs.mapM (fun f => (P.info? f.type).map fun i => (f.offset, i.size)) = some places ∧
      ∀ (k : Nat) (f : Field) (info : TypeInfo), fs[k]? = some f → P.info? f.type = some info → places[k]? = some (f.offset, info.size) := by
  intro fs
  induction fs with
  | nil => intro _; exact ⟨[], rfl, fun k f info h => by simp at h⟩
  | cons f fs ih =>
    intro h
    obtain ⟨pl, h1, h2⟩ := ih (fun x hx => h x (by simp [hx]))
    obtain ⟨info, hi⟩ := Option.isSome_iff_exists.1 (h f (by simp))
    refine ⟨(f.offset, info.size) :: pl, by simp [List.mapM_cons, hi, h1], fun k f' info' hk hi' => ?_⟩
    cases k with
    | zero => simp at hk; subst hk; rw [hi] at hi'; cases hi'; rfl
    | succ k => simpa using h2 k f' info' (by simpa using hk) hi'
theorem build_rep (hT : TabOk P T) {fr : Fr} {os os1 : List SO} {g : Nat → Gh} {w : World} (hm : Mem fr os g w) {env : Env} {a : Act} (hs : Slots w (Bk fr os g w) g env a.tmps) {t : Nat} {ps : Array (Nat × Operand)} {y : SV}
    (h : buildS T os t (ps.toList.map fun p => (p.1, evP env p.2)) = some (y, os1)) :
    ∃ v, (Instr.build t (ps.map fun (i, x) => (i, a.eval x))).run P w = .ok v w ∧ Res fr os g w os1 y v w := by
  unfold buildS at h
  split at h
  · rename_i u i hu hi
    split at h
    · rename_i fs hf
      split at h
      · rename_i r os2 hr
        simp only at h
        split at h
        · rename_i cs hcs
          obtain ⟨rfl, rfl⟩ := Prod.mk.inj (Option.some.inj h)
          obtain ⟨info, z, d, i1, i2, i3, i4, i5, i6, i7, i8, i9⟩ := (hT.ti t i hi).ok
          obtain ⟨fields, f1, f2, f3⟩ := hT.struct t u fs hu hf
          obtain ⟨g1, m1, gr1, r1, r2⟩ := partsN_rep ps.toList hm hs hr
          obtain ⟨g2, m2, gr2, z2⟩ := zeroS_rep (fr := fr) (w := w) i.zero m1
          obtain ⟨pl, p1, p2⟩ := mapM_places (P := P) (T := T) fields.toList f3
          have hplace : ∀ (f off t : Nat) (i : TI), fs[f]? = some (off, t) → T.ti t = some i → (pl.toArray[·]?) f = some (off, i.size) := by
            intro f off t' i' hx hi'
            rw [← f2, List.getElem?_map] at hx
            obtain ⟨fd, h3, h4⟩ := Option.map_eq_some_iff.1 hx
            obtain ⟨info', z', d', j1, j2, j3, j4, j5, j6, j7, j8, j9⟩ := (hT.ti t' i' hi').ok
            obtain ⟨e1, e2⟩ := Prod.mk.inj h4
            have := p2 f fd info' h3 (by rw [e2]; exact j1)
            simp only [List.getElem?_toArray]
            rw [this, e1, j2]
          obtain ⟨vs', v1, v2, v3⟩ := setParts_rep (T := T) (pl.toArray[·]?) hplace r _ _ cs (i.zero.map ZK.val) (r1.grow gr2) r2 z2 (fun v hv => by obtain ⟨z, _, rfl⟩ := List.mem_map.1 hv; exact zk_one z) hcs
          refine ⟨.agg vs'.toArray, run_build w t _ _ ?_, g2, m2, gr1.trans gr2, .ag v2.1 v2.2 v3⟩
          simp only [Program.built, i1, f1, i4, p1]
          rw [show z.cells = (i.zero.map ZK.val).toArray by rw [← i5]]
          simpa using v1
        · simp at h
      · simp at h
    · simp at h
  · simp at h
theorem heap_setCell_ne (w : World) (a : Addr) (v : Value) (b : Nat) (h : a.block ≠ b) : (w.setCell a v).heap[b]? = w.heap[b]? := by
  simp only [World.setCell, Array.getElem?_modify]
  rw [if_neg h]
theorem heap_setCells_ne (b c : Nat) (h : b ≠ c) : ∀ (vs : List Value) (o : Nat) (w : World), (w.setCells b o vs).heap[c]? = w.heap[c]?
  | [], _, _ => rfl
  | v :: r, o, w => by rw [World.setCells, heap_setCells_ne b c h r, heap_setCell_ne _ _ _ _ h]
theorem out_setCells (b : Nat) : ∀ (vs : List Value) (o : Nat) (w : World), SameOut w (w.setCells b o vs)
  | [], _, w => SameOut.refl w
  | v :: r, o, w => by
    rw [World.setCells]
    exact SameOut.trans (w' := w.setCell ⟨b, o, none⟩ v) ⟨rfl, rfl, rfl⟩ (out_setCells b r (o + 1) _)
theorem size_setCells (b : Nat) : ∀ (vs : List Value) (o : Nat) (w : World), (w.setCells b o vs).heap.size = w.heap.size
  | [], _, _ => rfl
  | v :: r, o, w => by rw [World.setCells, size_setCells b r]; simp
theorem heap_setCells (b : Nat) : ∀ (vs : List Value) (o : Nat) (w : World) {cs : Array Value} {t : Nat} {fz : Nat × Nat}, w.heap[b]? = some (.cells cs t fz) →
    ∃ cs', (w.setCells b o vs).heap[b]? = some (.cells cs' t fz) ∧ cs'.size = cs.size
  | [], _, _, cs, _, _, h => ⟨cs, h, rfl⟩
  | v :: r, o, w, cs, t, fz, h => by
    have : (w.setCell ⟨b, o, none⟩ v).heap[b]? = some (.cells (cs.setIfInBounds o v) t fz) := by
      simp only [World.setCell, Array.getElem?_modify, if_true, h]
      rfl
    obtain ⟨cs', h1, h2⟩ := heap_setCells b r (o + 1) _ this
    exact ⟨cs', by rw [World.setCells]; exact h1, by simpa using h2⟩
theorem room_cell {w : World} {b n sz : Nat} (h : Room w b n sz) {o : Nat} (ho : o < n) : (w.cell? ⟨b, o, none⟩).isSome = true ∧ w.frozen? ⟨b, o, none⟩ = false := by
  obtain ⟨cs, t, fz, h1, h2, h3⟩ := h
  refine ⟨by simp [World.cell?, h1]; omega, ?_⟩
  have := h3.1 o (by omega)
  obtain ⟨lo, hi⟩ := fz
  simp only [World.frozen?, h1]
  simpa using this
theorem room_setCells {w : World} {b n sz : Nat} (h : Room w b n sz) (o : Nat) (vs : List Value) : Room (w.setCells b o vs) b n sz := by
  obtain ⟨cs, t, fz, h1, h2, h3⟩ := h
  obtain ⟨cs', h4, h5⟩ := heap_setCells b vs o w h1
  exact ⟨cs', t, fz, h4, by omega, by rw [h5]; exact h3⟩
theorem run_stores {w : World} {b n o s0 : Nat} {vs : List Value} (h : Room w b n s0) (ho : o + vs.length ≤ n) (h1 : ∀ v : Value, v ∈ vs → v.oneCell' = true) :
    (storeCells ⟨b, o, none⟩ vs).run P w = .ok () (w.setCells b o vs) := by
  have := run_storeCells_cells (P := P) b o vs 0 w (fun j hj => (room_cell h (by omega)).1) (fun j hj => (room_cell h (by omega)).2) h1
  simpa using this
theorem cells_setCells {w : World} {b n o s0 : Nat} {vs cs : List Value} (h : Room w b n s0) (hc : CellsAt w b 0 cs) (ho : o ≤ cs.length) (hn : o + vs.length ≤ n) :
    CellsAt (w.setCells b o vs) b 0 (cs.take o ++ vs ++ cs.drop (o + vs.length)) := by
  intro k v hk
  rw [Nat.zero_add]
  have lt : (cs.take o).length = o := by simp [ho]
  rcases Nat.lt_or_ge k o with h1 | h1
  · rw [World.cell?_setCells_out b vs o w _ (fun _ _ => .inl h1)]
    rw [List.append_assoc, List.getElem?_append_left (by omega), List.getElem?_take, if_pos h1] at hk
    have := hc k v hk
    rwa [Nat.zero_add] at this
  · rcases Nat.lt_or_ge k (o + vs.length) with h2 | h2
    · have := World.cell?_setCells_in b vs o w (fun j hj => (room_cell h (by omega)).1) (k - o) (by omega)
      rw [show o + (k - o) = k by omega] at this
      rw [this]
      rw [List.append_assoc, List.getElem?_append_right (by omega), List.getElem?_append_left (by omega), lt] at hk
      rw [List.getElem?_eq_getElem (by omega)] at hk
      exact hk
    · rw [World.cell?_setCells_out b vs o w _ (fun _ _ => .inr h2)]
      rw [List.getElem?_append_right (by simp; omega), List.getElem?_drop] at hk
      have e : o + vs.length + (k - (cs.take o ++ vs).length) = k := by simp; omega
      rw [e] at hk
      have := hc k v hk
      rwa [Nat.zero_add] at this
theorem set_chg {fr : Fr} {os : List SO} {g : Nat → Gh} {w w' : World} (hm : Mem fr os g w) (so : SameOut w w') {j : Nat} {o o' : SO} {b : Nat} (hj : os[j]? = some o) (ho : o.isLive = true) (hb : (g j).block? = some b) (ho' : o'.isLive = true)
    (hs : w'.heap.size = w.heap.size) (hw : ∀ c, c ≠ b → w'.heap[c]? = w.heap[c]?) : Chg fr os g w (os.set j o') g w' (fun c => c = b) where
  out := so
  size := by omega
  same c hc hne := hw c hne
  only c hc := ⟨j, o, hj, ho, by rw [hc]; exact hb⟩
  ext _ _ := rfl
  live c hc := by
    obtain ⟨k, x, hk, hl, hx⟩ := hc
    rw [List.getElem?_set] at hk
    split at hk
    · rename_i e
      subst e
      have : live os g c := ⟨j, o, hj, ho, hx⟩
      exact ⟨.inl this, by rw [hs]; exact (hm.own c this).1⟩
    · have : live os g c := ⟨k, x, hk, hl, hx⟩
      exact ⟨.inl this, by rw [hs]; exact (hm.own c this).1⟩
theorem set_mem {fr : Fr} {os : List SO} {g : Nat → Gh} {w w' : World} (hm : Mem fr os g w) (so : SameOut w w') {j : Nat} {o o' : SO} {b : Nat} (hj : os[j]? = some o) (ho : o.isLive = true) (hb : (g j).block? = some b) (ho' : o'.isLive = true)
    (hmine : ∀ sz l, o' = .arr false sz l → ∃ sz' l', o = .arr false sz' l') (hs : w'.heap.size = w.heap.size) (hw : ∀ c, c ≠ b → w'.heap[c]? = w.heap[c]?)
    (hok : ObjOK w' (Bk fr (os.set j o') g w') g j o') : Mem fr (os.set j o') g w' := by
  have hjl := lt_of_getElem? hj
  have back : ∀ {k : Nat} {x : SO}, (os.set j o')[k]? = some x → (k = j ∧ x = o') ∨ (k ≠ j ∧ os[k]? = some x) := by
    intro k x hk
    rw [List.getElem?_set] at hk
    split at hk
    · rename_i e; subst e; first | exact .inl ⟨rfl, (Option.some.inj hk).symm⟩ | (rw [if_pos hjl] at hk; exact .inl ⟨rfl, (Option.some.inj hk).symm⟩)
    · rename_i e; exact .inr ⟨fun h => e h.symm, hk⟩
  refine (set_chg hm so hj ho hb ho' hs hw).mem hm ?_ ?_ ?_ ?_
  · intro k x hk
    rcases back hk with ⟨rfl, rfl⟩ | ⟨hne, hk⟩
    · exact .inr hok
    · exact .inl ⟨hk, fun c hl hc e => by subst e; exact hne (hm.inj k j x o c hk hj hl ho hc hb)⟩
  · intro k hk; exact hm.fresh k (by simpa using hk)
  · intro i k oi ok c hi hk li lk bi bk
    have lift : ∀ {k : Nat} {x : SO}, (os.set j o')[k]? = some x → x.isLive = true → ∃ y, os[k]? = some y ∧ y.isLive = true := by
      intro k x hk hl
      rcases back hk with ⟨rfl, rfl⟩ | ⟨_, hk⟩
      · exact ⟨o, hj, ho⟩
      · exact ⟨x, hk, hl⟩
    obtain ⟨y, hy, hyl⟩ := lift hi li
    obtain ⟨z, hz, hzl⟩ := lift hk lk
    exact hm.inj i k y z c hy hz hyl hzl bi bk
  · intro k sz l c hk hc
    rcases back hk with ⟨rfl, e⟩ | ⟨_, hk⟩
    · obtain ⟨sz', l', rfl⟩ := hmine sz l e.symm
      exact hm.mine k sz' l' c hj hc
    · exact hm.mine k sz l c hk hc
end Go.Proofs.Ytlnenahbffkbiaa

/- The evaluator S: what is handed on is read from then on; stores; slice literals. -/
namespace Go.Proofs.Ytlnenahbffkbiaa
open Go
set_option linter.unusedVariables false
set_option linter.unusedSimpArgs false
variable {P : Program} {T : Tab}
theorem freeze_chg {fr : Fr} {os : List SO} {g : Nat → Gh} {w : World} (hm : Mem fr os g w) {j sz : Nat} {l : List SV} (hj : os[j]? = some (.arr false sz l)) :
    Chg fr os g w (os.set j (.frz sz l)) g w (fun _ => False) where
  out := SameOut.refl _
  size := Nat.le_refl _
  same _ _ _ := rfl
  only _ h := h.elim
  ext _ _ := rfl
  live c hc := by
    obtain ⟨k, x, hk, hl, hx⟩ := hc
    rw [List.getElem?_set] at hk
    split at hk
    · rename_i e
      subst e
      split at hk
      · obtain rfl := Option.some.inj hk; simp [SO.isLive] at hl
      · simp at hk
    · have : live os g c := ⟨k, x, hk, hl, hx⟩
      exact ⟨.inl this, (hm.own c this).1⟩
theorem freeze_mem {fr : Fr} {os : List SO} {g : Nat → Gh} {w : World} (hm : Mem fr os g w) {j sz : Nat} {l : List SV} (hj : os[j]? = some (.arr false sz l)) :
    Mem fr (os.set j (.frz sz l)) g w := by
  have hjl := lt_of_getElem? hj
  have hg := (freeze_chg hm hj).grow
  have back : ∀ {k : Nat} {x : SO}, (os.set j (.frz sz l))[k]? = some x → (k = j ∧ x = .frz sz l) ∨ (k ≠ j ∧ os[k]? = some x) := by
    intro k x hk
    rw [List.getElem?_set] at hk
    split at hk
    · rename_i e; subst e; first | exact .inl ⟨rfl, (Option.some.inj hk).symm⟩ | (rw [if_pos hjl] at hk; exact .inl ⟨rfl, (Option.some.inj hk).symm⟩)
    · rename_i e; exact .inr ⟨fun h => e h.symm, hk⟩
  refine (freeze_chg hm hj).mem hm ?_ ?_ ?_ ?_
  · intro k x hk
    rcases back hk with ⟨rfl, rfl⟩ | ⟨_, hk⟩
    · refine .inr ?_
      rcases hm.objs _ _ hj with ⟨rfl, hn⟩ | ⟨b, cap, vs, e1, e2, e3, e4, e5, e6⟩
      · exact .inl ⟨rfl, hn⟩
      · have hlive : live os g b := ⟨k, _, hj, rfl, by rw [e1]; rfl⟩
        refine .inr ⟨b, cap, vs, e1, e2, ⟨(hm.own b hlive).1, fun h => ?_, ?_⟩, e3.mono hg.sub hg.same (fun j hj => absurd rfl hj), e4, e5⟩
        · have := hm.mine k sz l b hj (by rw [e1]; rfl); omega
        · rintro ⟨i, o, hi, hl, hb⟩
          rcases back hi with ⟨rfl, rfl⟩ | ⟨hne, hi⟩
          · simp [SO.isLive] at hl
          · exact hne (hm.inj i k o _ b hi hj hl rfl hb (by rw [e1]; rfl))
    · exact .inl ⟨hk, fun _ _ _ h => h⟩
  · intro k hk; exact hm.fresh k (by simpa using hk)
  · intro i k oi ok c hi hk li lk bi bk
    rcases back hi with ⟨rfl, rfl⟩ | ⟨_, hi⟩
    · simp [SO.isLive] at li
    · rcases back hk with ⟨rfl, rfl⟩ | ⟨_, hk⟩
      · simp [SO.isLive] at lk
      · exact hm.inj i k oi ok c hi hk li lk bi bk
  · intro k sz' l' c hk hc
    rcases back hk with ⟨rfl, e⟩ | ⟨_, hk⟩
    · cases e
    · exact hm.mine k sz' l' c hk hc
theorem frz_rep {fr : Fr} {os : List SO} {g : Nat → Gh} {w : World} (hm : Mem fr os g w) {j sz : Nat} {l : List SV} {v : Value} (hj : os[j]? = some (.frz sz l))
    (h : RepV w (Bk fr os g w) g (.osl j) v) : ∀ g', RepV w (Bk fr os g w) g' (.sl sz l) v := by
  intro g'
  rcases hm.objs _ _ hj with ⟨rfl, hn⟩ | ⟨b, cap, vs, e1, e2, e3, e4, e5, e6⟩
  · cases h with
    | osl0 => exact .sl0
    | osl hg => rw [hn] at hg; cases hg
  · cases h with
    | osl0 hg => rw [e1] at hg; cases hg
    | osl hg => rw [e1] at hg; cases hg; exact .sl e4.1 e4.2 e5 e6 e3 e2
theorem vw_rep {fr : Fr} {os : List SO} {g : Nat → Gh} {w : World} (hm : Mem fr os g w) {j sz lo hi : Nat} {l : List SV} {v : Value} (hj : os[j]? = some (.frz sz l)) (hl : lo ≤ hi) (hh : hi ≤ l.length)
    (h : RepV w (Bk fr os g w) g (.vw j lo hi) v) : ∀ g', RepV w (Bk fr os g w) g' (.sl sz ((l.take hi).drop lo)) v := by
  intro g'
  cases h with
  | vw0 => rw [List.drop_eq_nil_of_le (by simp; omega)]; exact .sl0
  | vw hg a1 a2 a3 =>
    by_cases e : lo = hi
    · subst e
      rw [Nat.sub_self, List.drop_eq_nil_of_le (by simp; omega)]
      exact .sl0
    rcases hm.objs _ _ hj with ⟨rfl, hn⟩ | ⟨b, cap, vs, e1, e2, e3, e4, e5, e6⟩
    · rw [hn] at hg; cases hg
    · rw [e1] at hg; cases hg
      have e7 : hi - lo = ((l.take hi).drop lo).length := by simp; omega
      have h1 := e4.1
      rw [e7]
      refine .sl (vs := (vs.take hi).drop lo) (sz := sz) (by simp [h1]) ?_ ?_ ?_ e3 (by simp; omega)
      · exact (RepL.drop (RepL.take ⟨e4.1, e4.2⟩ hi) lo).2
      · intro v hv; exact e5 v (List.mem_of_mem_take (List.mem_of_mem_drop hv))
      · have := (e6.take (hi * sz)).drop (lo * sz)
        rw [flatV_take e5, flatV_drop (fun v hv => e5 v (List.mem_of_mem_take hv)), Nat.zero_add] at this
        exact this
theorem pureCell_rep {fr : Fr} {os os1 : List SO} {g : Nat → Gh} {w : World} (hm : Mem fr os g w) {x y : SV} {v : Value} (hx : RepV w (Bk fr os g w) g x v)
    (h : pureCell os x = some (y, os1)) : Mem fr os1 g w ∧ Grow fr os g w os1 g w ∧ RepV w (Bk fr os1 g w) G0 y v ∧ v.oneCell' = true := by
  unfold pureCell at h
  split at h
  · obtain ⟨rfl, rfl⟩ := Prod.mk.inj (Option.some.inj h)
    cases hx with
    | v hs => exact ⟨hm, Grow.refl _ _ _ _, .v hs, scalar_one hs⟩
  · obtain ⟨rfl, rfl⟩ := Prod.mk.inj (Option.some.inj h)
    cases hx with
    | sl0 => exact ⟨hm, Grow.refl _ _ _ _, .sl0, rfl⟩
    | sl h1 h2 h3 h4 h5 h6 => exact ⟨hm, Grow.refl _ _ _ _, .sl h1 h2 h3 h4 h5 h6, rfl⟩
  · rename_i j
    split at h
    · rename_i sz l hj
      obtain ⟨rfl, rfl⟩ := Prod.mk.inj (Option.some.inj h)
      have hm' := freeze_mem hm hj
      have hg := (freeze_chg hm hj).grow
      have hj' : (os.set j (.frz sz l))[j]? = some (.frz sz l) := by rw [List.getElem?_set, if_pos rfl, if_pos (lt_of_getElem? hj)]
      exact ⟨hm', hg, frz_rep hm' hj' (hx.grow hg) _, okCell_one hx rfl⟩
    · rename_i sz l hj
      obtain ⟨rfl, rfl⟩ := Prod.mk.inj (Option.some.inj h)
      exact ⟨hm, Grow.refl _ _ _ _, frz_rep hm hj hx _, okCell_one hx rfl⟩
    · simp at h
  · rename_i j lo hi
    have hone : v.oneCell' = true := by cases hx <;> rfl
    split at h
    · rename_i sz l hj
      split at h
      · rename_i hb
        obtain ⟨rfl, rfl⟩ := Prod.mk.inj (Option.some.inj h)
        have hm' := freeze_mem hm hj
        have hg := (freeze_chg hm hj).grow
        have hj' : (os.set j (.frz sz l))[j]? = some (.frz sz l) := by rw [List.getElem?_set, if_pos rfl, if_pos (lt_of_getElem? hj)]
        exact ⟨hm', hg, vw_rep hm' hj' hb.1 hb.2 (hx.grow hg) _, hone⟩
      · simp at h
    · rename_i sz l hj
      split at h
      · rename_i hb
        obtain ⟨rfl, rfl⟩ := Prod.mk.inj (Option.some.inj h)
        exact ⟨hm, Grow.refl _ _ _ _, vw_rep hm hj hb.1 hb.2 hx _, hone⟩
      · simp at h
    · simp at h
  · simp at h
theorem deVw_rep {fr : Fr} {os os1 : List SO} {g : Nat → Gh} {w : World} (hm : Mem fr os g w) {x y : SV} {v : Value} (hx : RepV w (Bk fr os g w) g x v)
    (h : deVw os x = some (y, os1)) : Mem fr os1 g w ∧ Grow fr os g w os1 g w ∧ RepV w (Bk fr os1 g w) g y v := by
  unfold deVw at h
  split at h
  · obtain ⟨m, gr, r, -⟩ := pureCell_rep hm hx h
    exact ⟨m, gr, r.mono (fun _ h => h) (fun _ _ => rfl) g (fun _ h => absurd rfl h)⟩
  · obtain ⟨rfl, rfl⟩ := Prod.mk.inj (Option.some.inj h)
    exact ⟨hm, Grow.refl _ _ _ _, hx⟩
theorem pureCells_rep {fr : Fr} {w : World} {g : Nat → Gh} : ∀ (xs : List SV) {os os1 : List SO} {ys : List SV} {vs : List Value}, Mem fr os g w → RepL w (Bk fr os g w) g xs vs →
    pureCells xs os = some (ys, os1) → Mem fr os1 g w ∧ Grow fr os g w os1 g w ∧ RepL w (Bk fr os1 g w) G0 ys vs ∧ ∀ v : Value, v ∈ vs → v.oneCell' = true := by
  intro xs
  induction xs with
  | nil =>
    intro os os1 ys vs hm hl h
    simp only [pureCells] at h
    obtain ⟨rfl, rfl⟩ := Prod.mk.inj (Option.some.inj h)
    have := hl.1
    cases vs with
    | nil => exact ⟨hm, Grow.refl _ _ _ _, RepL.nil, fun v hv => by simp at hv⟩
    | cons => simp at this
  | cons x xs ih =>
    intro os os1 ys vs hm hl h
    obtain ⟨v, vs', rfl, hv, hl'⟩ := hl.uncons
    simp only [pureCells] at h
    split at h
    · rename_i y os2 hy
      split at h
      · rename_i ys' os3 hys
        obtain ⟨rfl, rfl⟩ := Prod.mk.inj (Option.some.inj h)
        obtain ⟨m1, g1, r1, o1⟩ := pureCell_rep hm hv hy
        obtain ⟨m2, g2, r2, o2⟩ := ih m1 (hl'.mono g1.sub g1.same g1.ext) hys
        refine ⟨m2, g1.trans g2, RepL.cons (r1.mono g2.sub g2.same G0 (fun _ h => absurd rfl h)) r2, fun u hu => ?_⟩
        rcases List.mem_cons.1 hu with rfl | hu
        · exact o1
        · exact o2 u hu
      · simp at h
    · simp at h
theorem one_cells {v : Value} (h : v.oneCell' = true) : v.cells = #[v] := by
  cases v <;> first | rfl | simp [Value.oneCell'] at h
theorem pureS_rep {fr : Fr} {os os1 : List SO} {g : Nat → Gh} {w : World} (hm : Mem fr os g w) {x y : SV} {v : Value} (hx : RepV w (Bk fr os g w) g x v)
    (h : pureS os x = some (y, os1)) : Mem fr os1 g w ∧ Grow fr os g w os1 g w ∧ RepV w (Bk fr os1 g w) G0 y v ∧ ElOK y.cells.length v := by
  unfold pureS at h
  split at h
  · rename_i l
    split at h
    · rename_i ys os2 hys
      obtain ⟨rfl, rfl⟩ := Prod.mk.inj (Option.some.inj h)
      cases hx with
      | ag h1 h2 h3 =>
        obtain ⟨m, g1, r, o⟩ := pureCells_rep l hm ⟨h1, h2⟩ hys
        exact ⟨m, g1, .ag r.1 r.2 o, by simpa [SV.cells, Value.cells] using r.1.symm, by simpa [Value.cells] using o⟩
    · simp at h
  · obtain ⟨m, g1, r, o⟩ := pureCell_rep hm hx h
    have hd : y ≠ .dead := by
     intro e
     subst e
     unfold pureCell at h
     split at h <;> first
      | (obtain ⟨e, _⟩ := Prod.mk.inj (Option.some.inj h); cases e; done)
      | (split at h <;> first | (obtain ⟨e, _⟩ := Prod.mk.inj (Option.some.inj h); cases e; done) | (split at h <;> first | (obtain ⟨e, _⟩ := Prod.mk.inj (Option.some.inj h); cases e; done) | (simp at h; done)) | (simp at h; done))
      | (simp at h; done)
    exact ⟨m, g1, r, (r.size hd).symm, fun c hc => by rw [one_cells o] at hc; simp at hc; subst hc; exact o⟩
theorem pureL_rep {fr : Fr} {w : World} {g : Nat → Gh} : ∀ (xs : List SV) {os os1 : List SO} {ys : List SV} {vs : List Value}, Mem fr os g w → RepL w (Bk fr os g w) g xs vs →
    pureL xs os = some (ys, os1) → Mem fr os1 g w ∧ Grow fr os g w os1 g w ∧ RepL w (Bk fr os1 g w) G0 ys vs ∧
      ∀ (i : Nat) (y : SV) (v : Value), ys[i]? = some y → vs[i]? = some v → ElOK y.cells.length v := by
  intro xs
  induction xs with
  | nil =>
    intro os os1 ys vs hm hl h
    simp only [pureL] at h
    obtain ⟨rfl, rfl⟩ := Prod.mk.inj (Option.some.inj h)
    have := hl.1
    cases vs with
    | nil => exact ⟨hm, Grow.refl _ _ _ _, RepL.nil, fun i y v hv => by simp at hv⟩
    | cons => simp at this
  | cons x xs ih =>
    intro os os1 ys vs hm hl h
    obtain ⟨v, vs', rfl, hv, hl'⟩ := hl.uncons
    simp only [pureL] at h
    split at h
    · rename_i y os2 hy
      split at h
      · rename_i ys' os3 hys
        obtain ⟨rfl, rfl⟩ := Prod.mk.inj (Option.some.inj h)
        obtain ⟨m1, g1, r1, o1⟩ := pureS_rep hm hv hy
        obtain ⟨m2, g2, r2, o2⟩ := ih m1 (hl'.mono g1.sub g1.same g1.ext) hys
        refine ⟨m2, g1.trans g2, RepL.cons (r1.mono g2.sub g2.same G0 (fun _ h => absurd rfl h)) r2, fun i z u hz hu => ?_⟩
        cases i with
        | zero => simp at hz hu; subst hz; subst hu; exact o1
        | succ i => exact o2 i z u (by simpa using hz) (by simpa using hu)
      · simp at h
    · simp at h
theorem run_storeVar {t : Nat} {i : TI} (hi : TiOk P t i) {w : World} {b n o s0 : Nat} {v : Value} (h : Room w b n s0) (hs : v.cells.size = i.size) (ho : o + v.cells.size ≤ n)
    (h1 : ∀ u : Value, u ∈ v.cells.toList → u.oneCell' = true) : (Instr.storeAt t (.pointer (some ⟨b, o, none⟩)) v).run P w = .ok () (w.setCells b o v.cells.toList) := by
  obtain ⟨info, z, d, i1, i2, i3, i4, i5, i6, i7, i8, i9⟩ := hi.ok
  have := run_stores (P := P) (vs := v.cells.toList) h (by simpa using ho) h1
  simp [Instr.storeAt, Instr.sureAddr, storeVar, run_size i1, i2, hs, this]
theorem flatV_set {vs : List Value} {sz n off : Nat} {u u' : Value} {cs : List Value} (h : ∀ v : Value, v ∈ vs → ElOK sz v) (hu : vs[n]? = some u)
    (hc : u'.cells.toList = u.cells.toList.take off ++ cs ++ u.cells.toList.drop (off + cs.length)) (ho : off + cs.length ≤ sz) :
    flatV (vs.set n u') = (flatV vs).take (n * sz + off) ++ cs ++ (flatV vs).drop (n * sz + off + cs.length) := by
  have hn := lt_of_getElem? hu
  have hus : u.cells.toList.length = sz := by simpa using (h u (List.mem_of_getElem? hu)).1
  have e1 : vs = vs.take n ++ u :: vs.drop (n + 1) := by
    have : u = vs[n] := by rw [List.getElem?_eq_getElem hn] at hu; exact (Option.some.inj hu).symm
    rw [this, ← List.drop_eq_getElem_cons hn, List.take_append_drop]
  have hA : (flatV (vs.take n)).length = n * sz := by
    rw [flatV_length (fun v hv => h v (List.mem_of_mem_take hv)), List.length_take, Nat.min_eq_left (by omega)]
  have e2 : flatV vs = flatV (vs.take n) ++ (u.cells.toList ++ flatV (vs.drop (n + 1))) := by
    conv => lhs; rw [e1]
    simp [flatV]
  have e3 : flatV (vs.set n u') = flatV (vs.take n) ++ (u'.cells.toList ++ flatV (vs.drop (n + 1))) := by
    rw [List.set_eq_take_append_cons_drop, if_pos hn]
    simp [flatV]
  rw [e3, e2, hc]
  generalize flatV (vs.take n) = A at *
  generalize flatV (vs.drop (n + 1)) = D at *
  generalize u.cells.toList = U at *
  clear e1 e2 e3 hc hu h
  rw [List.take_append, List.drop_append, hA, List.take_of_length_le (show A.length ≤ n * sz + off by omega), show n * sz + off - n * sz = off by omega,
    List.take_append_of_le_length (show off ≤ U.length by omega), List.drop_eq_nil_of_le (show A.length ≤ n * sz + off + cs.length by omega),
    show n * sz + off + cs.length - n * sz = off + cs.length by omega, List.drop_append_of_le_length (show off + cs.length ≤ U.length by omega)]
  simp [List.append_assoc]
theorem setElem_rep {w : World} {B : Nat → Prop} {y : SV} {u : Value} {ys : List SV} {cs : List Value} {off : Nat} (hy : RepV w B G0 y u) (hd : y ≠ .dead) (hr : RepL w B G0 ys cs)
    (ho : ∀ c : Value, c ∈ cs → c.oneCell' = true) (hl : off + cs.length ≤ y.cells.length) (hp : 0 < cs.length) :
    ∃ u', RepV w B G0 (setElem y off ys) u' ∧ u'.cells.toList = u.cells.toList.take off ++ cs ++ u.cells.toList.drop (off + cs.length) := by
  by_cases ha : ∃ ly, y = .ag ly
  · obtain ⟨ly, rfl⟩ := ha
    cases hy with
    | ag a1 a2 a3 =>
      rename_i uv
      have hrl : RepL w B G0 ly uv := ⟨a1, a2⟩
      refine ⟨.agg (uv.take off ++ cs ++ uv.drop (off + cs.length)).toArray, ?_, by simp [Value.cells]⟩
      have h1 : setElem (.ag ly) off ys = .ag (splice ly off ys) := rfl
      rw [h1]
      have h2 : RepL w B G0 (splice ly off ys) (uv.take off ++ cs ++ uv.drop (off + cs.length)) := by
        simp only [splice, hr.1]
        exact ((hrl.take off).append hr).append (hrl.drop _)
      refine .ag h2.1 h2.2 fun z hz => ?_
      simp only [List.mem_append] at hz
      rcases hz with (hz | hz) | hz
      · exact a3 z (List.mem_of_mem_take hz)
      · exact ho z hz
      · exact a3 z (List.mem_of_mem_drop hz)
  · have hyc : y.cells = [y] := by
      cases y <;> first | rfl | exact absurd ⟨_, rfl⟩ ha
    have hs := hy.size hd
    rw [hyc] at hs hl
    simp at hs hl
    obtain rfl : off = 0 := by omega
    obtain ⟨c, rfl⟩ : ∃ c, cs = [c] := by
      match cs, hp, hl with
      | [c], _, _ => exact ⟨c, rfl⟩
    obtain ⟨z, rfl⟩ : ∃ z, ys = [z] := by
      have := hr.1
      match ys, this with
      | [z], _ => exact ⟨z, rfl⟩
    have e : setElem y 0 [z] = z := by
      cases y <;> first | rfl | exact absurd ⟨_, rfl⟩ ha
    rw [e]
    refine ⟨c, hr.2 0 z c rfl rfl, ?_⟩
    rw [one_cells (ho c (by simp))]
    have : u.cells.toList.length = 1 := by simp [← hs]
    rw [List.drop_eq_nil_of_le (by simp; omega)]
    rfl
theorem store_rep (hT : TabOk P T) {fr : Fr} {os os1 : List SO} {g : Nat → Gh} {w : World} (hm : Mem fr os g w) {t : Nat} {p x : SV} {pv xv : Value}
    (hp : RepV w (Bk fr os g w) g p pv) (hx : RepV w (Bk fr os g w) g x xv) (h : storeS T os t p x = some os1) :
    ∃ w', (Instr.storeAt t pv xv).run P w = .ok () w' ∧ Mem fr os1 g w' ∧ Grow fr os g w os1 g w' := by
  unfold storeS at h
  split at h
  · rename_i i hi
    have hti := hT.ti t i hi
    split at h
    · rename_i hsz
      split at h
      · rename_i j off
        split at h
        · rename_i l hj
          split at h
          · rename_i hc
            obtain rfl := Option.some.inj h
            have hd : x ≠ .dead := by intro e; subst e; have := hc.2; simp [SV.cells, okCell] at this
            have hxl := hx.cells hd
            have hxs : xv.cells.size = i.size := by rw [← hsz, hx.size hd]
            have hone : ∀ u : Value, u ∈ xv.cells.toList → u.oneCell' = true := fun u hu => by
              obtain ⟨k, hk, rfl⟩ := List.mem_iff_getElem.1 hu
              have hk' : k < x.cells.length := by rw [hxl.1]; exact hk
              exact okCell_one (hxl.2 k x.cells[k] _ (by simp [hk']) (by simp [hk])) (List.all_eq_true.1 hc.2 _ (List.getElem_mem hk'))
            obtain ⟨b, vs, e1, e2, e3, e4, e5⟩ := hm.objs _ _ hj
            cases hp with
            | ptr hp =>
              rw [e1] at hp
              cases hp
              have hle : off + xv.cells.size ≤ vs.length := by rw [hxs, ← e2.1]; exact hc.1
              have hb : (g j).block? = some b := by rw [e1]; rfl
              have hs := size_setCells b xv.cells.toList off w
              have hw := fun c (hc : c ≠ b) => heap_setCells_ne b c (fun e => hc e.symm) xv.cells.toList off w
              have hg := (set_chg hm (out_setCells _ _ _ _) hj rfl hb (o' := .box (splice l off x.cells)) rfl hs hw).grow
              refine ⟨_, run_storeVar hti e5 hxs hle hone, set_mem hm (out_setCells _ _ _ _) hj rfl hb rfl (fun sz l e => by cases e) hs hw ?_, hg⟩
              refine ⟨b, vs.take off ++ xv.cells.toList ++ vs.drop (off + xv.cells.toList.length), e1, ?_, ?_, ?_, ?_⟩
              · have key : RepL w (Bk fr os g w) g (splice l off x.cells) (vs.take off ++ xv.cells.toList ++ vs.drop (off + xv.cells.toList.length)) := by
                  have hl := hxl.1
                  simp only [splice]
                  rw [hl]
                  exact ((e2.take off).append hxl).append (e2.drop _)
                exact key.mono hg.sub hg.same hg.ext
              · intro u hu
                simp only [List.mem_append] at hu
                rcases hu with (hu | hu) | hu
                · exact e3 u (List.mem_of_mem_take hu)
                · exact hone u hu
                · exact e3 u (List.mem_of_mem_drop hu)
              · exact cells_setCells e5 e4 (by omega) (by simpa using hle)
              · have : (vs.take off ++ xv.cells.toList ++ vs.drop (off + xv.cells.toList.length)).length = vs.length := by simp; omega
                rw [this]; exact room_setCells e5 _ _
          · simp at h
        · simp at h
      · rename_i j n off
        split at h
        · rename_i ys os2 hys
          split at h
          · rename_i lt sz l hj
            split at h
            · rename_i y hy
              split at h
              · rename_i yc hyc
                obtain ⟨hyd, rfl⟩ := dcells_eq hyc
                split at h
                · rename_i hle
                  obtain rfl := Option.some.inj h
                  have hd : x ≠ .dead := by intro e; subst e; simp [SV.cells, pureCells, pureCell] at hys
                  have hxl := hx.cells hd
                  have hxs : xv.cells.size = i.size := by rw [← hsz, hx.size hd]
                  obtain ⟨m1, g1, r1, o1⟩ := pureCells_rep _ hm hxl hys
                  rcases m1.objs _ _ hj with ⟨rfl, hn⟩ | ⟨b, cap, vs, e1, e2, e3, e4, e5, e6⟩
                  · simp at hy
                  · cases hp with
                    | ap hp =>
                      rw [e1] at hp
                      cases hp
                      obtain ⟨u, hu, hyu⟩ := e3.get hy
                      have hn := lt_of_getElem? hu
                      have husz := (e4 u (List.mem_of_getElem? hu)).1
                      have hu1 := (e4 u (List.mem_of_getElem? hu)).2
                      have hxlen : xv.cells.toList.length = i.size := by simpa using hxs
                      have hys' : y.cells.length = sz := by rw [hyu.size hyd]; exact husz
                      obtain ⟨u', q1, q2⟩ := setElem_rep hyu hyd r1 o1 (by rw [hxlen]; exact hle.1) (by rw [hxlen]; exact hle.2)
                      have q3 : off + xv.cells.toList.length ≤ sz := by rw [hxlen, ← hys']; exact hle.1
                      have hlen := flatV_length e4
                      have hmul : (n + 1) * sz ≤ vs.length * sz := Nat.mul_le_mul_right _ hn
                      have hmul2 : vs.length * sz ≤ cap * sz := Nat.mul_le_mul_right _ (by rw [← e3.1]; exact e2)
                      rw [Nat.succ_mul] at hmul
                      have hb : (g j).block? = some b := by rw [e1]; rfl
                      have hs := size_setCells b xv.cells.toList (n * sz + off) w
                      have hw := fun c (hc : c ≠ b) => heap_setCells_ne b c (fun e => hc e.symm) xv.cells.toList (n * sz + off) w
                      have hg := (set_chg m1 (out_setCells _ _ _ _) hj rfl hb (o' := .arr lt sz (l.set n (setElem y off ys))) rfl hs hw).grow
                      have hu'sz : u'.cells.size = sz := by
                        have : u'.cells.toList.length = u.cells.toList.length := by
                          rw [q2]
                          have : u.cells.toList.length = sz := by simpa using husz
                          simp; omega
                        simp at this; omega
                      refine ⟨_, run_storeVar hti e6 hxs (by rw [show xv.cells.size = xv.cells.toList.length by simp]; omega) o1, set_mem m1 (out_setCells _ _ _ _) hj rfl hb rfl (fun sz' l' e => ?_) hs hw ?_, g1.trans hg⟩
                      · cases e; exact ⟨_, _, rfl⟩
                      · refine .inr ⟨b, cap, vs.set n u', by simpa using e1, by simpa using e2, ?_, ?_, ?_, room_setCells e6 _ _⟩
                        · refine ⟨by simp [e3.1], fun k z c hz hc => ?_⟩
                          rw [List.getElem?_set] at hz hc
                          split at hz
                          · rename_i e
                            subst e
                            have h1 : n < l.length := lt_of_getElem? hy
                            first
                              | (rw [if_pos h1] at hz; rw [if_pos rfl, if_pos hn] at hc; obtain rfl := Option.some.inj hz; obtain rfl := Option.some.inj hc; exact q1.mono hg.sub hg.same G0 (fun _ h => absurd rfl h))
                              | (rw [if_pos rfl] at hc; obtain rfl := Option.some.inj hz; obtain rfl := Option.some.inj hc; exact q1.mono hg.sub hg.same G0 (fun _ h => absurd rfl h))
                          · rename_i e
                            rw [if_neg e] at hc
                            exact (e3.2 k z c hz hc).mono hg.sub hg.same G0 (fun _ h => absurd rfl h)
                        · intro v hv
                          rcases List.mem_or_eq_of_mem_set hv with hv | rfl
                          · exact e4 v hv
                          · refine ⟨hu'sz, fun c hc => ?_⟩
                            rw [q2] at hc
                            simp only [List.mem_append] at hc
                            rcases hc with (hc | hc) | hc
                            · exact hu1 c (List.mem_of_mem_take hc)
                            · exact o1 c hc
                            · exact hu1 c (List.mem_of_mem_drop hc)
                        · rw [flatV_set e4 hu q2 q3]
                          exact cells_setCells e6 e5 (by omega) (by omega)
                · simp at h
              · simp at h
            · simp at h
          · simp at h
        · simp at h
      · simp at h
    · simp at h
  · simp at h
end Go.Proofs.Ytlnenahbffkbiaa

/- The evaluator S: slice literals, make, append, copy. -/
namespace Go.Proofs.Ytlnenahbffkbiaa
open Go
set_option linter.unusedVariables false
set_option linter.unusedSimpArgs false
variable {P : Program} {T : Tab}
theorem fill_dense (sz : Nat) : ∀ (qs : List (Nat × Value)) (done : List Value) (rest : List Value) (n : Nat), qs.map (·.1) = List.range' done.length n → (∀ q, q ∈ qs → ElOK sz q.2) → (∀ v : Value, v ∈ done → ElOK sz v) →
    rest.length = qs.length * sz → Instr.fill (fun i => some (i * sz, sz)) (flatV done ++ rest).toArray qs = some (flatV (done ++ qs.map (·.2))).toArray := by
  intro qs
  induction qs with
  | nil =>
    intro done rest n h1 h2 h3 h4
    obtain rfl : rest = [] := by simpa using h4
    simp [Instr.fill]
  | cons q qs ih =>
    intro done rest n h1 h2 h3 h4
    obtain ⟨k, v⟩ := q
    have hv : v.cells.size = sz := (h2 (k, v) (by simp)).1
    cases n with
    | zero => simp at h1
    | succ n =>
      rw [List.range'_succ] at h1
      simp only [List.map_cons, List.cons.injEq] at h1
      obtain ⟨hk, h1⟩ := h1
      subst hk
      have hdl := flatV_length h3
      simp only [List.length_cons, Nat.succ_mul] at h4
      rw [fill_step _ _ done.length (done.length * sz) v qs (by rw [hv]) (by simp [hdl, hv]; omega)]
      have e : ((flatV done ++ rest).toArray.toList.take (done.length * sz) ++ v.cells.toList ++ (flatV done ++ rest).toArray.toList.drop (done.length * sz + v.cells.size)) =
          flatV (done ++ [v]) ++ rest.drop sz := by
        simp only [flatV_append]
        rw [List.take_left' hdl, hv, ← List.drop_drop, List.drop_left' hdl]
        simp [flatV]
      rw [e]
      have := ih (done ++ [v]) (rest.drop sz) n (by simpa using h1) (fun q hq => h2 q (by simp [hq])) (fun u hu => by
        rcases List.mem_append.1 hu with hu | hu
        · exact h3 u hu
        · simp at hu; subst hu; exact h2 (done.length, u) (by simp)) (by simp; omega)
      rw [this]
      simp
theorem buildSlice_rep (hT : TabOk P T) {fr : Fr} {os os1 : List SO} {g : Nat → Gh} {w : World} (hm : Mem fr os g w) {env : Env} {a : Act} (hs : Slots w (Bk fr os g w) g env a.tmps) {t n : Nat} {ps : Array (Nat × Operand)} {y : SV}
    (h : buildSliceS T os t n (ps.toList.map fun p => (p.1, ev env p.2)) = some (y, os1)) :
    ∃ v w', (Instr.buildSlice t n (ps.map fun (i, x) => (i, a.eval x))).run P w = .ok v w' ∧ Res fr os g w os1 y v w' := by
  unfold buildSliceS at h
  split at h
  · rename_i e hu
    split at h
    · rename_i i hi
      split at h
      · rename_i hc
        split at h
        · rename_i l os2 hl
          split at h
          · rename_i hall
            obtain ⟨rfl, rfl⟩ := Prod.mk.inj (Option.some.inj h)
            obtain ⟨info, z, d, i1, i2, i3, i4, i5, i6, i7, i8, i9⟩ := (hT.ti e i hi).ok
            have ht := hT.slice t e hu
            have hrl : RepL w (Bk fr os g w) g ((ps.toList.map fun p => (p.1, ev env p.2)).map (·.2)) (ps.toList.map fun p => a.eval p.2) := by
              simp only [List.map_map]
              refine ⟨by simp, fun k x v hx hv => ?_⟩
              rw [List.getElem?_map] at hx hv
              obtain ⟨p, hp, rfl⟩ := Option.map_eq_some_iff.1 hx
              rw [hp] at hv
              obtain rfl := Option.some.inj hv
              exact ev_rep hs p.2
            obtain ⟨m1, g1, r1, r2⟩ := pureL_rep _ hm hrl hl
            have hn : ps.toList.length = n := by
              have := congrArg List.length hc.1
              simpa using this
            have hll : l.length = n := by rw [r1.1]; simpa using hn
            have hsz : ∀ v : Value, v ∈ ps.toList.map (fun p => a.eval p.2) → ElOK i.size v := by
              intro v hv
              obtain ⟨k, hk, rfl⟩ := List.mem_iff_getElem.1 hv
              have hk' : k < l.length := by rw [r1.1]; exact hk
              have := List.all_eq_true.1 hall _ (List.getElem_mem hk')
              have h2 := r2 k l[k] _ (List.getElem?_eq_getElem hk') (List.getElem?_eq_getElem hk)
              rw [show l[k].cells.length = i.size by simpa using this] at h2
              exact h2
            obtain ⟨g2, m2, gr2, rr⟩ := push_arr m1 (l := l) (junk := []) (sz := i.size) (cap := n) r1 hsz (by omega) (by simp [flatV_length hsz]; rw [show ps.size = n by simpa using hn]) e
            simp only [List.append_nil, hll] at rr gr2 m2
            refine ⟨_, _, ?_, g2, m2, g1.trans gr2, rr⟩
            have hfill : ∀ Z : Array Value, Instr.fill (fun j => some (j * i.size, i.size)) ((Array.range (n * i.size)).map (fun j => Z[j % Z.size]!)) (ps.map fun (i, x) => (i, a.eval x)).toList =
                some (flatV (ps.toList.map fun p => a.eval p.2)).toArray := by
              intro Z
              have := fill_dense i.size (ps.toList.map fun p => (p.1, a.eval p.2)) [] ((Array.range (n * i.size)).map (fun j => Z[j % Z.size]!)).toList n
                (by simp only [List.length_nil, List.map_map]; rw [← List.range_eq_range', ← hc.1]; simp) (fun q hq => hsz q.2 (by
                  obtain ⟨p, hp, rfl⟩ := List.mem_map.1 hq
                  exact List.mem_map.2 ⟨p, hp, rfl⟩)) (fun v hv => by simp at hv) (by simp; rw [show ps.size = n by simpa using hn])
              simp only [flatV, List.flatMap_nil, List.nil_append, Array.toArray_toList, List.map_map] at this
              rw [Array.toList_map]
              exact this
            have hle : ¬ (n * i.size > 2 ^ 24) := by omega
            by_cases h0 : n * i.size = 0
            · have hf := hfill #[]
              rw [h0, Array.toList_map] at hf
              simp only [Instr.buildSlice, Sem.run_bind, run_underlying ht, Result.andThen_ok, run_size i1, i2, h0, if_true, Sem.run_pure, newRow, run_newObj, Array.toList_map]
              rw [if_neg (by omega)]
              simp only [Sem.run_bind, Sem.run_pure, Result.andThen_ok]
              rw [hf]
              rfl
            · have hf := hfill z.cells
              rw [Array.toList_map] at hf
              simp only [Instr.buildSlice, Sem.run_bind, run_underlying ht, Result.andThen_ok, run_size i1, i2, h0, if_false, run_zero i1 i4, Sem.run_pure, newRow, run_newObj, Array.toList_map]
              rw [if_neg hle]
              simp only [Sem.run_bind, Sem.run_pure, Result.andThen_ok, run_zero i1 i4]
              rw [hf]
              rfl
          · simp at h
        · simp at h
      · simp at h
    · simp at h
  · simp at h
theorem made_flat (z : Value) (c : Nat) (hz : 0 < z.cells.size) : (madeCells z.cells (c * z.cells.size)).toList = flatV (List.replicate c z) := by
  induction c with
  | zero => simp [madeCells, flatV]
  | succ c ih =>
    simp only [madeCells, Array.toList_map, Array.toList_range] at ih ⊢
    rw [Nat.succ_mul, List.range_add, List.map_append, ih, List.replicate_succ']
    simp only [flatV_append, List.map_map]
    congr 1
    simp only [flatV, List.flatMap_cons, List.flatMap_nil, List.append_nil]
    apply List.ext_getElem
    · simp
    · intro k h1 h2
      have hk : k < z.cells.size := by simpa using h1
      simp [Nat.mul_comm c, Nat.mod_eq_of_lt hk, hk]
theorem zeroP_rep {w : World} {B : Nat → Prop} : ∀ (zs : List ZK), RepL w B G0 (zeroP zs) (zs.map ZK.val) := by
  intro zs
  induction zs with
  | nil => exact RepL.nil
  | cons z zs ih =>
    by_cases hz : ∃ sz, z = .sl sz
    · obtain ⟨sz, rfl⟩ := hz
      exact RepL.cons .sl0 ih
    · have hz' : ∀ sz, z ≠ .sl sz := fun sz e => hz ⟨sz, e⟩
      have e : zeroP (z :: zs) = .v z.val :: zeroP zs := by
        cases z <;> first | rfl | exact absurd rfl (hz' _)
      rw [e]
      exact RepL.cons (.v (zk_scalar hz')) ih
theorem rep_replicate {w : World} {B : Nat → Prop} {g : Nat → Gh} {x : SV} {v : Value} (h : RepV w B g x v) (n : Nat) : RepL w B g (List.replicate n x) (List.replicate n v) := by
  refine ⟨by simp, fun i y c hy hc => ?_⟩
  have h1 := List.mem_of_getElem? hy
  have h2 := List.mem_of_getElem? hc
  rw [List.eq_of_mem_replicate h1, List.eq_of_mem_replicate h2]
  exact h
theorem make_rep (hT : TabOk P T) {fr : Fr} {os os1 : List SO} {g : Nat → Gh} {w : World} (hm : Mem fr os g w) {t : Nat} {n c y : SV} {nv cv : Value}
    (hn : RepV w (Bk fr os g w) g n nv) (hc : RepV w (Bk fr os g w) g c cv) (h : makeS T os t n c = some (y, os1)) :
    ∃ v w', (Instr.makeSlice t nv cv).run P w = .ok v w' ∧ Res fr os g w os1 y v w' := by
  unfold makeS at h
  split at h
  · rename_i e k n k' c hu
    obtain rfl := v_rep hn
    obtain rfl := v_rep hc
    split at h
    · rename_i i hi
      split at h
      · rename_i hcond
        obtain ⟨c1, c2, c3, c4⟩ := hcond
        split at h
        · rename_i zS hz
          obtain ⟨rfl, rfl⟩ := Prod.mk.inj (Option.some.inj h)
          obtain ⟨info, z, d, i1, i2, i3, i4, i5, i6, i7, i8, i9⟩ := (hT.ti e i hi).ok
          have ht := hT.slice t e hu
          obtain ⟨p1, p2⟩ := pack_rep hz (zeroP_rep (w := w) (B := Bk fr os g w) i.zero)
          have hzc : z.cells.size = i.size := by
            have : z.cells.toList.length = i.size := by rw [i5]; simpa using i9
            simpa using this
          have hzr : RepV w (Bk fr os g w) G0 zS z := by
            cases ha : i.agg with
            | true =>
              have := p1 ha
              obtain ⟨cs, rfl⟩ := i8.1 ha
              rw [← i5] at this
              simpa [Value.cells] using this
            | false =>
              obtain ⟨v, hv, hr⟩ := p2 ha
              rw [← i5, one_cells (i8.2 ha)] at hv
              simp at hv
              rw [hv]; exact hr
          have hz1 : ∀ c, c ∈ z.cells.toList → c.oneCell' = true := fun c hc => by rw [i5] at hc; obtain ⟨q, _, rfl⟩ := List.mem_map.1 hc; exact zk_one q
          have hlenz : (List.replicate n.toNat zS).length = n.toNat := by simp
          have hpos : c.toNat = n.toNat + (c.toNat - n.toNat) := by omega
          have hflat : (madeCells z.cells (c.toNat * i.size)).toList = flatV (List.replicate n.toNat z) ++ (madeCells z.cells (c.toNat * i.size)).toList.drop (n.toNat * i.size) := by
            by_cases h0 : 0 < z.cells.size
            · rw [← hzc, made_flat z c.toNat h0, hpos, ← List.replicate_append_replicate, flatV_append]
              have : (flatV (List.replicate n.toNat z)).length = n.toNat * z.cells.size := by
                rw [flatV_length (sz := z.cells.size) (fun v hv => by rw [List.eq_of_mem_replicate hv]; exact ⟨rfl, hz1⟩), List.length_replicate]
              rw [List.drop_left' this]
            · have e0 : i.size = 0 := by omega
              have e1 : z.cells = #[] := by
                have : z.cells.size = 0 := by omega
                exact Array.eq_empty_of_size_eq_zero this
              have e2 : flatV (List.replicate n.toNat z) = [] := by
                rw [← List.length_eq_zero_iff, flatV_length (sz := 0) (fun v hv => by rw [List.eq_of_mem_replicate hv]; exact ⟨by rw [e1]; rfl, hz1⟩)]; simp
              rw [e0, e2]; simp
          obtain ⟨g2, m2, gr2, rr⟩ := push_arr hm (l := List.replicate n.toNat zS) (junk := (madeCells z.cells (c.toNat * i.size)).toList.drop (n.toNat * i.size)) (sz := i.size) (cap := c.toNat) (rep_replicate hzr n.toNat)
            (fun v hv => by rw [List.eq_of_mem_replicate hv]; exact ⟨hzc, hz1⟩) (by simp; omega) (by rw [← hflat]; simp [size_madeCells]) e
          rw [← hflat, Array.toArray_toList] at rr gr2 m2
          rw [hlenz] at rr
          refine ⟨_, _, run_make w t e info z ht i1 i4 k k' n c c1 c2 (by rw [i3]; omega) (by omega), g2, ?_, ?_, ?_⟩
          all_goals (rw [i2]; first | exact m2 | exact gr2 | exact rr)
        · simp at h
      · simp at h
    · simp at h
  · simp at h
end Go.Proofs.Ytlnenahbffkbiaa

/- The evaluator S: append and copy. -/
namespace Go.Proofs.Ytlnenahbffkbiaa
open Go
set_option linter.unusedVariables false
set_option linter.unusedSimpArgs false
variable {P : Program} {T : Tab}
theorem move_chg {fr : Fr} {os : List SO} {g : Nat → Gh} {w w' : World} (hm : Mem fr os g w) (so : SameOut w w') {j : Nat} {lt : Bool} {sz : Nat} {l : List SV} (hj : os[j]? = some (.arr lt sz l)) (o : SO) (x : Gh) (hs : w.heap.size ≤ w'.heap.size)
    (hw : ∀ c, c < w.heap.size → (g j).block? ≠ some c → w'.heap[c]? = w.heap[c]?) (hx : ∀ c, x.block? = some c → ((g j).block? = some c ∨ w.heap.size ≤ c) ∧ c < w'.heap.size) :
    Chg fr os g w (os.set j .dead ++ [o]) (upd g os.length x) w' (fun c => (g j).block? = some c) where
  out := so
  size := hs
  same c hc hne := hw c hc hne
  only c hc := ⟨j, _, hj, rfl, hc⟩
  ext k hk := by
    unfold upd
    split
    · rename_i e; subst e; exact absurd (hm.fresh _ (Nat.le_refl _)) hk
    · rfl
  live c hc := by
    obtain ⟨k, o', hk, hl, hb⟩ := hc
    rcases getElem?_snoc _ _ _ _ hk with ⟨h1, h2⟩ | ⟨rfl, rfl⟩
    · have hg : upd g os.length x k = g k := by unfold upd; rw [if_neg (by simp at h1; omega)]
      rw [hg] at hb
      rw [List.getElem?_set] at h2
      split at h2
      · rename_i e
        subst e
        have : o' = .dead := by
          first
            | exact (Option.some.inj h2).symm
            | (split at h2 <;> first | exact (Option.some.inj h2).symm | simp at h2)
        subst this
        simp [SO.isLive] at hl
      · have : live os g c := ⟨k, o', h2, hl, hb⟩
        exact ⟨.inl this, Nat.lt_of_lt_of_le (hm.own c this).1 hs⟩
    · have hg : upd g os.length x (os.set j .dead).length = x := by unfold upd; rw [if_pos (by simp)]
      rw [hg] at hb
      obtain ⟨h1, h2⟩ := hx c hb
      exact ⟨h1.imp (fun h => ⟨j, _, hj, rfl, h⟩) id, h2⟩
theorem move_mem {fr : Fr} {os : List SO} {g : Nat → Gh} {w w' : World} (hm : Mem fr os g w) (so : SameOut w w') {j : Nat} {lt : Bool} {sz sz' : Nat} {l l' : List SV} (hj : os[j]? = some (.arr lt sz l)) (x : Gh) (hs : w.heap.size ≤ w'.heap.size)
    (hw : ∀ c, c < w.heap.size → (g j).block? ≠ some c → w'.heap[c]? = w.heap[c]?) (hx : ∀ c, x.block? = some c → ((g j).block? = some c ∨ w.heap.size ≤ c) ∧ c < w'.heap.size)
    (hok : ObjOK w' (Bk fr (os.set j .dead ++ [.arr lt sz' l']) (upd g os.length x) w') (upd g os.length x) os.length (.arr lt sz' l')) :
    Mem fr (os.set j .dead ++ [.arr lt sz' l']) (upd g os.length x) w' := by
  have hjl := lt_of_getElem? hj
  have hold : ∀ k, k < os.length → upd g os.length x k = g k := fun k hk => by unfold upd; rw [if_neg (by omega)]
  have hnew : upd g os.length x os.length = x := by unfold upd; rw [if_pos rfl]
  have back : ∀ {k : Nat} {o : SO}, (os.set j .dead ++ [.arr lt sz' l'])[k]? = some o → (k = j ∧ o = .dead) ∨ (k ≠ j ∧ k < os.length ∧ os[k]? = some o) ∨ (k = os.length ∧ o = .arr lt sz' l') := by
    intro k o hk
    rcases getElem?_snoc _ _ _ _ hk with ⟨h1, h2⟩ | ⟨h1, h2⟩
    · rw [List.getElem?_set] at h2
      split at h2
      · rename_i e
        subst e
        refine .inl ⟨rfl, ?_⟩
        first
          | exact (Option.some.inj h2).symm
          | (split at h2 <;> first | exact (Option.some.inj h2).symm | simp at h2)
      · rename_i e
        exact .inr (.inl ⟨fun h => e h.symm, by simpa using h1, h2⟩)
    · exact .inr (.inr ⟨by simpa using h1, h2⟩)
  have hlt : ∀ {i : Nat} {oi : SO} {b : Nat}, os[i]? = some oi → oi.isLive = true → (g i).block? = some b → b < w.heap.size := fun h1 h2 h3 => (hm.own _ ⟨_, _, h1, h2, h3⟩).1
  refine (move_chg hm so hj _ x hs hw hx).mem hm ?_ ?_ ?_ ?_
  · intro k o hk
    rcases back hk with ⟨rfl, rfl⟩ | ⟨h1, h2, h3⟩ | ⟨rfl, rfl⟩
    · exact .inr trivial
    · exact .inl ⟨h3, fun c hl hc e => h1 (hm.inj k j o _ c h3 hj hl rfl hc e)⟩
    · exact .inr hok
  · intro k hk
    simp at hk
    unfold upd
    rw [if_neg (by omega)]
    exact hm.fresh k (by omega)
  · intro i k oi ok c hi hk li lk bi bk
    rcases back hi with ⟨rfl, rfl⟩ | ⟨i1, i2, i3⟩ | ⟨rfl, rfl⟩
    · simp [SO.isLive] at li
    · rcases back hk with ⟨rfl, rfl⟩ | ⟨k1, k2, k3⟩ | ⟨rfl, rfl⟩
      · simp [SO.isLive] at lk
      · rw [hold i i2] at bi; rw [hold k k2] at bk; exact hm.inj i k oi ok c i3 k3 li lk bi bk
      · rw [hold i i2] at bi; rw [hnew] at bk
        rcases (hx c bk).1 with h | h
        · exact absurd (hm.inj i j oi _ c i3 hj li rfl bi h) i1
        · have := hlt i3 li bi; omega
    · rcases back hk with ⟨rfl, rfl⟩ | ⟨k1, k2, k3⟩ | ⟨rfl, rfl⟩
      · simp [SO.isLive] at lk
      · rw [hnew] at bi; rw [hold k k2] at bk
        rcases (hx c bi).1 with h | h
        · exact absurd (hm.inj k j ok _ c k3 hj lk rfl bk h) k1
        · have := hlt k3 lk bk; omega
      · rfl
  · intro k sz'' l'' c hk hc
    rcases back hk with ⟨rfl, e⟩ | ⟨k1, k2, k3⟩ | ⟨rfl, e⟩
    · cases e
    · rw [hold k k2] at hc; exact hm.mine k sz'' l'' c k3 hc
    · cases e
      rw [hnew] at hc
      rcases (hx c hc).1 with h | h
      · exact hm.mine j sz l c hj h
      · exact Nat.le_trans hm.size h
theorem firstCells_of {w : World} {B : Nat → Prop} {l : List SV} {sz : Nat} {a : Option Addr} {c : Nat}
    (h : l = [] ∨ ∃ b o vs, a = some ⟨b, o, none⟩ ∧ RepL w B G0 l vs ∧ (∀ v : Value, v ∈ vs → ElOK sz v) ∧ CellsAt w b o (flatV vs)) :
    ∃ vs, RepL w B G0 l vs ∧ (∀ v : Value, v ∈ vs → ElOK sz v) ∧ ∀ w' : World, w'.heap = w.heap → ∀ n, n ≤ l.length → ∀ len,
      (Builtin.firstCells sz n (.slice a len c)).run P w' = .ok (flatV (vs.take n)).toArray w' := by
  rcases h with rfl | ⟨b, o, vs, rfl, h1, h2, h3⟩
  · refine ⟨[], RepL.nil, fun v hv => by simp at hv, fun w' hw n hn len => ?_⟩
    obtain rfl : n = 0 := by simpa using hn
    cases a <;> simp [Builtin.firstCells, loadCells, loadCellsFrom, flatV]
  · refine ⟨vs, h1, h2, fun w' hw n hn len => ?_⟩
    have hlen : (flatV (vs.take n)).length = n * sz := by
      rw [flatV_length (fun v hv => h2 v (List.mem_of_mem_take hv)), List.length_take, Nat.min_eq_left (by rw [← h1.1]; exact hn)]
    refine run_firstCells_some w' sz n ⟨b, o, none⟩ len c _ hlen fun k v hk => ?_
    rw [Addr.add_lit, cell?_heap (show w'.heap[b]? = w.heap[b]? by rw [hw])]
    have := h3.take (n * sz)
    rw [flatV_take h2] at this
    exact this k v hk
theorem run_append_in {t t' ty e e' : Nat} {info : TypeInfo} (ht : P.underlying t = some (.slice e)) (ht' : P.underlying t' = some (.slice e')) (hi : P.info? e = some info) {w w' : World} {base xa : Option Addr} {sLen sCap n xc : Nat}
    (hfit : sLen + n ≤ sCap) {new : Array Value} (hx : (Builtin.firstCells info.size n (.slice xa n xc)).run P w = .ok new w)
    (hst : match base with | some a => (storeCells (a.add (sLen * info.size)) new.toList).run P w = .ok () w' | none => w' = w) :
    (Builtin.append_ #[t, t'] ty #[.slice base sLen sCap, .slice xa n xc]).run P w = .ok (.slice base (sLen + n) sCap) w' := by
  cases base with
  | none =>
    simp only at hst
    subst hst
    simp [Builtin.append_, run_underlying ht, run_underlying ht', run_size hi, Builtin.lenOf, hfit, hx]
  | some a =>
    simp only at hst
    simp [Builtin.append_, run_underlying ht, run_underlying ht', run_size hi, Builtin.lenOf, hfit, hx, hst]
theorem run_append_new {t t' ty e e' : Nat} {info : TypeInfo} {z : Value} (ht : P.underlying t = some (.slice e)) (ht' : P.underlying t' = some (.slice e')) (hi : P.info? e = some info) (hz : info.zero = some z) {w : World} {base xa : Option Addr} {sLen sCap n xc : Nat}
    (hfit : ¬ sLen + n ≤ sCap) (hb : 0 < info.bytes) (hl : info.bytes * (sLen + n) ≤ 2 ^ 47) {old new : Array Value} (hx : (Builtin.firstCells info.size n (.slice xa n xc)).run P w.drew = .ok new w.drew)
    (hs : (Builtin.firstCells info.size sLen (.slice base sLen sCap)).run P w.drew = .ok old w.drew) :
    ∃ cap, sLen + n ≤ cap ∧ (Builtin.append_ #[t, t'] ty #[.slice base sLen sCap, .slice xa n xc]).run P w =
      .ok (.slice (some ⟨w.heap.size, 0, none⟩) (sLen + n) cap) (w.drew.alloc (.cells (old ++ new ++ Builtin.zeroCells z.cells (cap - (sLen + n))) e)) := by
  have h1 : sLen + n ≤ info.bytes * (sLen + n) := Nat.le_mul_of_pos_left _ hb
  have h2 := nextslicecap_le (need := sLen + n) (old := sCap) (by omega)
  have h3 : Builtin.nextslicecap (sLen + n) sCap * info.bytes ≤ 2 ^ 48 := by
    have := Nat.mul_le_mul_right info.bytes h2
    rw [Nat.mul_assoc, Nat.mul_comm (sLen + n)] at this
    omega
  have e1 : ¬ ((((sLen + n : Nat) : Int)) > IntKind.i64.max ∧ (False ∨ info.bytes = 0)) := by simp; omega
  have e2 : ¬ (Builtin.nextslicecap (sLen + n) sCap * info.bytes > 2 ^ 48) := by omega
  refine ⟨grownCap w (sLen + n) sCap e, by unfold grownCap; simp only [Question.cut]; omega, ?_⟩
  have e3 : ¬ (281474976710656 < Builtin.nextslicecap (sLen + n) sCap * info.bytes) := by omega
  have e4 : ¬ info.bytes = 0 := by omega
  simp [Builtin.append_, run_underlying ht, run_underlying ht', run_size hi, run_info hi, Builtin.lenOf, hfit, e3, e4, Question.forced, hx, hs, run_zero hi hz, newRow, grownCap, -Array.append_assoc]
theorem append_rep (hT : TabOk P T) {fr : Fr} {os os1 : List SO} {g : Nat → Gh} {w : World} (hm : Mem fr os g w) {t t' ty : Nat} {s x y : SV} {sv xv : Value}
    (hs : RepV w (Bk fr os g w) g s sv) (hx : RepV w (Bk fr os g w) g x xv) (h : appendS T os t t' s x = some (y, os1)) :
    ∃ v w', (Builtin.append_ #[t, t'] ty #[sv, xv]).run P w = .ok v w' ∧ Res fr os g w os1 y v w' := by
  unfold appendS at h
  split at h
  · rename_i e e' j hu hu'
    split at h
    · rename_i i lt sz l sz' r hi hj hr
      split at h
      · rename_i hc
        obtain ⟨rfl, rfl, c3, c4⟩ := hc
        obtain ⟨rfl, rfl⟩ := Prod.mk.inj (Option.some.inj h)
        obtain ⟨info, z, d, i1, i2, i3, i4, i5, i6, i7, i8, i9⟩ := (hT.ti e i hi).ok
        have ht := hT.slice t e hu
        have ht' := hT.slice t' e' hu'
        have hzc : z.cells.size = i.size := by
          have : z.cells.toList.length = i.size := by rw [i5]; simpa using i9
          simpa using this
        obtain ⟨xa, xc, rfl, hxc, hxr⟩ := elems_rep hm hx hr
        obtain ⟨us, u1, u2, u3⟩ := firstCells_of (P := P) (c := xc) hxr
        have hus : us.take r.length = us := List.take_of_length_le (by rw [u1.1]; exact Nat.le_refl _)
        have hbase : ∃ base cap vs, sv = .slice base l.length cap ∧ l.length ≤ cap ∧ RepL w (Bk fr os g w) G0 l vs ∧ (∀ v : Value, v ∈ vs → ElOK i.size v) ∧
            ((base = none ∧ l = [] ∧ cap = 0 ∧ g j = .nil) ∨ ∃ b, base = some ⟨b, 0, none⟩ ∧ g j = .blk b i.size l.length cap ∧ CellsAt w b 0 (flatV vs) ∧ Room w b (cap * i.size) i.size) := by
          rcases hm.objs _ _ hj with ⟨rfl, hn⟩ | ⟨b, cap, vs, e1, e2, e3, e4, e5, e6⟩
          · cases hs with
            | osl0 => exact ⟨none, 0, [], rfl, Nat.le_refl _, RepL.nil, fun v hv => by simp at hv, .inl ⟨rfl, rfl, rfl, hn⟩⟩
            | osl hg => rw [hn] at hg; cases hg
          · cases hs with
            | osl0 hg => rw [e1] at hg; cases hg
            | osl hg => rw [e1] at hg; cases hg; exact ⟨_, _, vs, rfl, e2, e3, e4, .inr ⟨b, rfl, e1, e5, e6⟩⟩
        obtain ⟨base, cap, vs, rfl, b1, b2, b3, b4⟩ := hbase
        have hlv : vs.length = l.length := b2.1.symm
        have hallsz : ∀ v : Value, v ∈ vs ++ us → ElOK i.size v := fun v hv => by
          rcases List.mem_append.1 hv with hv | hv
          · exact b3 v hv
          · exact u2 v hv
        by_cases hfit : l.length + r.length ≤ cap
        · -- there is room
          rcases b4 with ⟨rfl, rfl, rfl, hn⟩ | ⟨b, rfl, e1, e5, e6⟩
          · have hr0 : r = [] := by rw [← List.length_eq_zero_iff]; simpa using hfit
            subst hr0
            have hx0 : ∀ c, Gh.nil.block? = some c → ((g j).block? = some c ∨ w.heap.size ≤ c) ∧ c < w.heap.size := fun c hc => by simp [Gh.block?] at hc
            have hnew : upd g os.length .nil os.length = .nil := by unfold upd; rw [if_pos rfl]
            have hg := (move_chg hm (SameOut.refl _) hj (.arr lt i.size ([] ++ [])) .nil (Nat.le_refl _) (fun _ _ _ => rfl) hx0).grow
            have hrun := run_append_in (P := P) (ty := ty) ht ht' i1 (w := w) (w' := w) (base := none) (sLen := 0) (sCap := 0) (xc := xc) hfit (by rw [i2]; exact u3 w rfl _ (Nat.le_refl _) _) rfl
            exact ⟨_, _, hrun, _, move_mem hm (SameOut.refl _) hj .nil (Nat.le_refl _) (fun _ _ _ => rfl) hx0 (.inl ⟨rfl, hnew⟩), hg, .osl0 hnew⟩
          · have hrun := run_append_in (P := P) (ty := ty) ht ht' i1 (w := w) (w' := w.setCells b (l.length * i.size) (flatV us)) (base := some ⟨b, 0, none⟩) (sLen := l.length) (sCap := cap) (xc := xc) hfit (by rw [i2]; exact u3 w rfl _ (Nat.le_refl _) _)
              (by
                simp only [i2, Addr.add_lit, Nat.zero_add, hus]
                refine run_stores e6 ?_ ?_
                · rw [flatV_length u2, ← u1.1, ← Nat.add_mul]; exact Nat.mul_le_mul_right _ hfit
                · intro v hv; obtain ⟨u, hu, hv⟩ := List.mem_flatMap.1 hv; exact (u2 u hu).2 v hv)
            have hs' := size_setCells b (flatV us) (l.length * i.size) w
            have hblk : (g j).block? = some b := by rw [e1]; rfl
            have hw : ∀ c, c < w.heap.size → (g j).block? ≠ some c → (w.setCells b (l.length * i.size) (flatV us)).heap[c]? = w.heap[c]? := fun c _ hc => heap_setCells_ne b c (fun e => hc (by rw [hblk, e])) _ _ _
            have hlive : live os g b := ⟨j, _, hj, rfl, hblk⟩
            have hx0 : ∀ c, (Gh.blk b i.size (l ++ r).length cap).block? = some c → ((g j).block? = some c ∨ w.heap.size ≤ c) ∧ c < (w.setCells b (l.length * i.size) (flatV us)).heap.size := fun c hc => by
              simp only [Gh.block?, Option.some.injEq] at hc
              subst hc
              exact ⟨.inl hblk, by rw [hs']; exact (hm.own b hlive).1⟩
            have hnew : upd g os.length (.blk b i.size (l ++ r).length cap) os.length = .blk b i.size (l ++ r).length cap := by unfold upd; rw [if_pos rfl]
            have hg := (move_chg hm (out_setCells _ _ _ _) hj (.arr lt i.size (l ++ r)) _ (by omega) hw hx0).grow
            refine ⟨_, _, hrun, _, move_mem hm (out_setCells _ _ _ _) hj _ (by omega) hw hx0 (.inr ⟨b, cap, vs ++ us, hnew, by simpa using hfit, ?_, hallsz, ?_, room_setCells e6 _ _⟩), hg, ?_⟩
            · exact (b2.append u1).mono hg.sub hg.same (fun _ h => absurd rfl h)
            · have hlen : (flatV vs).length = l.length * i.size := by rw [flatV_length b3, hlv]
              have := cells_setCells (o := l.length * i.size) (vs := flatV us) e6 e5 (by omega) (by rw [flatV_length u2, ← u1.1, ← Nat.add_mul]; exact Nat.mul_le_mul_right _ hfit)
              rw [List.take_of_length_le (by omega), List.drop_eq_nil_of_le (by omega), List.append_nil, ← flatV_append] at this
              exact this
            · have := RepV.osl (w := w.setCells b (l.length * i.size) (flatV us)) (B := Bk fr (os.set j .dead ++ [.arr lt i.size (l ++ r)]) (upd g os.length (.blk b i.size (l ++ r).length cap)) (w.setCells b (l.length * i.size) (flatV us))) hnew
              simpa using this
        · -- a new array
          have hvs : ∀ w' : World, w'.heap = w.heap → (Builtin.firstCells i.size l.length (.slice base l.length cap)).run P w' = .ok (flatV vs).toArray w' := by
            intro w' hw'
            obtain ⟨vs', p1, p2, p3⟩ := firstCells_of (P := P) (w := w) (B := Bk fr os g w) (l := l) (sz := i.size) (a := base) (c := cap) (by
              rcases b4 with ⟨rfl, rfl, rfl, hn⟩ | ⟨b, rfl, e1, e5, e6⟩
              · exact .inl rfl
              · exact .inr ⟨b, 0, vs, rfl, b2, b3, e5⟩)
            rcases b4 with ⟨rfl, rfl, rfl, hn⟩ | ⟨b, rfl, e1, e5, e6⟩
            · have : vs = [] := by rw [← List.length_eq_zero_iff]; simpa using hlv
              subst this
              simp [Builtin.firstCells, flatV]
            · have hlen : (flatV vs).length = l.length * i.size := by rw [flatV_length b3, hlv]
              refine run_firstCells_some w' i.size l.length ⟨b, 0, none⟩ _ _ _ hlen fun k v hk => ?_
              rw [Addr.add_lit, cell?_heap (show w'.heap[b]? = w.heap[b]? by rw [hw'])]
              exact e5 k v hk
          obtain ⟨cap', hcap, hrun⟩ := run_append_new (P := P) (ty := ty) ht ht' i1 i4 (w := w) (base := base) (xa := xa) (sLen := l.length) (sCap := cap) (n := r.length) (xc := xc) hfit (by rw [i3]; exact c4) (by rw [i3]; exact c3)
            (by rw [i2]; exact u3 w.drew rfl _ (Nat.le_refl _) _) (by rw [i2]; exact hvs w.drew rfl)
          rw [hus] at hrun
          have hnew : upd g os.length (.blk w.heap.size i.size (l ++ r).length cap') os.length = .blk w.heap.size i.size (l ++ r).length cap' := by unfold upd; rw [if_pos rfl]
          have hx0 : ∀ (o : Obj), ∀ c, (Gh.blk w.heap.size i.size (l ++ r).length cap').block? = some c → ((g j).block? = some c ∨ w.heap.size ≤ c) ∧ c < (w.drew.alloc o).heap.size := fun o c hc => by
            simp only [Gh.block?, Option.some.injEq] at hc
            subst hc
            exact ⟨.inr (Nat.le_refl _), by simp⟩
          have hs' : ∀ (o : Obj), w.heap.size ≤ (w.drew.alloc o).heap.size := fun o => by simp
          have hw : ∀ (o : Obj), ∀ c, c < w.heap.size → (g j).block? ≠ some c → (w.drew.alloc o).heap[c]? = w.heap[c]? := fun o c hc _ => heap_alloc_lt w.drew o c hc
          have hg := fun o => (move_chg hm (out_drew w o) hj (.arr lt i.size (l ++ r)) _ (hs' o) (hw o) (hx0 o)).grow
          refine ⟨_, _, hrun, _, move_mem hm (out_drew w _) hj _ (hs' _) (hw _) (hx0 _) (.inr ⟨w.heap.size, cap', vs ++ us, hnew, by simpa using hcap, ?_, hallsz, ?_, ?_⟩), hg _, ?_⟩
          · exact (b2.append u1).mono (hg _).sub (hg _).same (fun _ h => absurd rfl h)
          · have := (cells_alloc_new w.drew ((flatV vs).toArray ++ (flatV us).toArray ++ Builtin.zeroCells z.cells (cap' - (l.length + r.length))) e).take (flatV (vs ++ us)).length
            simp only [World.size_drew, Array.toList_append, flatV_append] at this ⊢
            rw [List.take_left'] at this
            · exact this
            · simp
          · refine room_alloc_new w.drew _ e _ ?_
            have h1 : (flatV vs).length = l.length * i.size := by rw [flatV_length b3, hlv]
            have h2 : (flatV us).length = r.length * i.size := by rw [flatV_length u2, u1.1]
            simp only [Array.size_append, List.size_toArray, h1, h2, size_zeroCells, hzc]
            rw [← Nat.add_mul, ← Nat.add_mul]
            exact Nat.mul_le_mul_right _ (by omega)
          · have := fun W => RepV.osl (w := W) (B := Bk fr (os.set j .dead ++ [.arr lt i.size (l ++ r)]) (upd g os.length (.blk w.heap.size i.size (l ++ r).length cap')) W) hnew
            simpa using this _
      · simp at h
    · simp at h
  · simp at h
end Go.Proofs.Ytlnenahbffkbiaa
