/- The evaluator S: append and copy. -/
import Derived.Test.YtjfegdlgepbjoaaSj
import Derived.Laws.AppendOwn
namespace Go.Proofs.Ytjfegdlgepbjoaa
open Go
set_option linter.unusedVariables false
set_option linter.unusedSimpArgs false
variable {P : Program} {T : Tab}

/-- An array of the frame's own goes on under another name. -/
theorem move_chg {fr : Fr} {os : List SO} {g : Nat → Gh} {w w' : World} (hm : Mem fr os g w) (so : SameOut w w') {j : Nat} {lt : Bool} {sz : Nat} {l : List SV} (hj : os[j]? = some (.arr lt sz l)) (o : SO) (x : Gh) (hs : w.heap.size ≤ w'.heap.size)
    (hw : ∀ c, c < w.heap.size → (g j).block? ≠ some c → w'.heap[c]? = w.heap[c]?) (hx : ∀ c, x.block? = some c → ((g j).block? = some c ∨ w.heap.size ≤ c) ∧ c < w'.heap.size) :
    Chg fr os g w (os.set j .dead ++ [o]) (upd g os.length x) w' (fun c => (g j).block? = some c) where
  out := so
  size := hs
  same c hc hne := hw c hc hne
  only c hc := ⟨j, _, hj, rfl, hc⟩
  ext k hk := by
    unfold upd
    split
    · rename_i e; subst e; exact absurd (hm.fresh _ (Nat.le_refl _)) hk
    · rfl
  live c hc := by
    obtain ⟨k, o', hk, hl, hb⟩ := hc
    rcases getElem?_snoc _ _ _ _ hk with ⟨h1, h2⟩ | ⟨rfl, rfl⟩
    · have hg : upd g os.length x k = g k := by unfold upd; rw [if_neg (by simp at h1; omega)]
      rw [hg] at hb
      rw [List.getElem?_set] at h2
      split at h2
      · rename_i e
        subst e
        have : o' = .dead := by
          first
            | exact (Option.some.inj h2).symm
            | (split at h2 <;> first | exact (Option.some.inj h2).symm | simp at h2)
        subst this
        simp [SO.isLive] at hl
      · have : live os g c := ⟨k, o', h2, hl, hb⟩
        exact ⟨.inl this, Nat.lt_of_lt_of_le (hm.own c this).1 hs⟩
    · have hg : upd g os.length x (os.set j .dead).length = x := by unfold upd; rw [if_pos (by simp)]
      rw [hg] at hb
      obtain ⟨h1, h2⟩ := hx c hb
      exact ⟨h1.imp (fun h => ⟨j, _, hj, rfl, h⟩) id, h2⟩

theorem move_mem {fr : Fr} {os : List SO} {g : Nat → Gh} {w w' : World} (hm : Mem fr os g w) (so : SameOut w w') {j : Nat} {lt : Bool} {sz sz' : Nat} {l l' : List SV} (hj : os[j]? = some (.arr lt sz l)) (x : Gh) (hs : w.heap.size ≤ w'.heap.size)
    (hw : ∀ c, c < w.heap.size → (g j).block? ≠ some c → w'.heap[c]? = w.heap[c]?) (hx : ∀ c, x.block? = some c → ((g j).block? = some c ∨ w.heap.size ≤ c) ∧ c < w'.heap.size)
    (hok : ObjOK w' (Bk fr (os.set j .dead ++ [.arr lt sz' l']) (upd g os.length x) w') (upd g os.length x) os.length (.arr lt sz' l')) :
    Mem fr (os.set j .dead ++ [.arr lt sz' l']) (upd g os.length x) w' := by
  have hjl := lt_of_getElem? hj
  have hold : ∀ k, k < os.length → upd g os.length x k = g k := fun k hk => by unfold upd; rw [if_neg (by omega)]
  have hnew : upd g os.length x os.length = x := by unfold upd; rw [if_pos rfl]
  have back : ∀ {k : Nat} {o : SO}, (os.set j .dead ++ [.arr lt sz' l'])[k]? = some o → (k = j ∧ o = .dead) ∨ (k ≠ j ∧ k < os.length ∧ os[k]? = some o) ∨ (k = os.length ∧ o = .arr lt sz' l') := by
    intro k o hk
    rcases getElem?_snoc _ _ _ _ hk with ⟨h1, h2⟩ | ⟨h1, h2⟩
    · rw [List.getElem?_set] at h2
      split at h2
      · rename_i e
        subst e
        refine .inl ⟨rfl, ?_⟩
        first
          | exact (Option.some.inj h2).symm
          | (split at h2 <;> first | exact (Option.some.inj h2).symm | simp at h2)
      · rename_i e
        exact .inr (.inl ⟨fun h => e h.symm, by simpa using h1, h2⟩)
    · exact .inr (.inr ⟨by simpa using h1, h2⟩)
  have hlt : ∀ {i : Nat} {oi : SO} {b : Nat}, os[i]? = some oi → oi.isLive = true → (g i).block? = some b → b < w.heap.size := fun h1 h2 h3 => (hm.own _ ⟨_, _, h1, h2, h3⟩).1
  refine (move_chg hm so hj _ x hs hw hx).mem hm ?_ ?_ ?_ ?_
  · intro k o hk
    rcases back hk with ⟨rfl, rfl⟩ | ⟨h1, h2, h3⟩ | ⟨rfl, rfl⟩
    · exact .inr trivial
    · exact .inl ⟨h3, fun c hl hc e => h1 (hm.inj k j o _ c h3 hj hl rfl hc e)⟩
    · exact .inr hok
  · intro k hk
    simp at hk
    unfold upd
    rw [if_neg (by omega)]
    exact hm.fresh k (by omega)
  · intro i k oi ok c hi hk li lk bi bk
    rcases back hi with ⟨rfl, rfl⟩ | ⟨i1, i2, i3⟩ | ⟨rfl, rfl⟩
    · simp [SO.isLive] at li
    · rcases back hk with ⟨rfl, rfl⟩ | ⟨k1, k2, k3⟩ | ⟨rfl, rfl⟩
      · simp [SO.isLive] at lk
      · rw [hold i i2] at bi; rw [hold k k2] at bk; exact hm.inj i k oi ok c i3 k3 li lk bi bk
      · rw [hold i i2] at bi; rw [hnew] at bk
        rcases (hx c bk).1 with h | h
        · exact absurd (hm.inj i j oi _ c i3 hj li rfl bi h) i1
        · have := hlt i3 li bi; omega
    · rcases back hk with ⟨rfl, rfl⟩ | ⟨k1, k2, k3⟩ | ⟨rfl, rfl⟩
      · simp [SO.isLive] at lk
      · rw [hnew] at bi; rw [hold k k2] at bk
        rcases (hx c bi).1 with h | h
        · exact absurd (hm.inj k j ok _ c k3 hj lk rfl bk h) k1
        · have := hlt k3 lk bk; omega
      · rfl
  · intro k sz'' l'' c hk hc
    rcases back hk with ⟨rfl, e⟩ | ⟨k1, k2, k3⟩ | ⟨rfl, e⟩
    · cases e
    · rw [hold k k2] at hc; exact hm.mine k sz'' l'' c k3 hc
    · cases e
      rw [hnew] at hc
      rcases (hx c hc).1 with h | h
      · exact hm.mine j sz l c hj h
      · exact Nat.le_trans hm.size h

theorem firstCells_of {w : World} {B : Nat → Prop} {l : List SV} {sz : Nat} {a : Option Addr} {c : Nat}
    (h : l = [] ∨ ∃ b o vs, a = some ⟨b, o, none⟩ ∧ RepL w B G0 l vs ∧ (∀ v : Value, v ∈ vs → ElOK sz v) ∧ CellsAt w b o (flatV vs)) :
    ∃ vs, RepL w B G0 l vs ∧ (∀ v : Value, v ∈ vs → ElOK sz v) ∧ ∀ w' : World, w'.heap = w.heap → ∀ n, n ≤ l.length → ∀ len,
      (Builtin.firstCells sz n (.slice a len c)).run P w' = .ok (flatV (vs.take n)).toArray w' := by
  rcases h with rfl | ⟨b, o, vs, rfl, h1, h2, h3⟩
  · refine ⟨[], RepL.nil, fun v hv => by simp at hv, fun w' hw n hn len => ?_⟩
    obtain rfl : n = 0 := by simpa using hn
    cases a <;> simp [Builtin.firstCells, loadCells, loadCellsFrom, flatV]
  · refine ⟨vs, h1, h2, fun w' hw n hn len => ?_⟩
    have hlen : (flatV (vs.take n)).length = n * sz := by
      rw [flatV_length (fun v hv => h2 v (List.mem_of_mem_take hv)), List.length_take, Nat.min_eq_left (by rw [← h1.1]; exact hn)]
    refine run_firstCells_some w' sz n ⟨b, o, none⟩ len c _ hlen fun k v hk => ?_
    rw [Addr.add_lit, cell?_heap (show w'.heap[b]? = w.heap[b]? by rw [hw])]
    have := h3.take (n * sz)
    rw [flatV_take h2] at this
    exact this k v hk

theorem run_append_in {t t' ty e e' : Nat} {info : TypeInfo} (ht : P.underlying t = some (.slice e)) (ht' : P.underlying t' = some (.slice e')) (hi : P.info? e = some info) {w w' : World} {base xa : Option Addr} {sLen sCap n xc : Nat}
    (hfit : sLen + n ≤ sCap) {new : Array Value} (hx : (Builtin.firstCells info.size n (.slice xa n xc)).run P w = .ok new w)
    (hst : match base with | some a => (storeCells (a.add (sLen * info.size)) new.toList).run P w = .ok () w' | none => w' = w) :
    (Builtin.append_ #[t, t'] ty #[.slice base sLen sCap, .slice xa n xc]).run P w = .ok (.slice base (sLen + n) sCap) w' := by
  cases base with
  | none =>
    simp only at hst
    subst hst
    simp [Builtin.append_, run_underlying ht, run_underlying ht', run_size hi, Builtin.lenOf, hfit, hx]
  | some a =>
    simp only at hst
    simp [Builtin.append_, run_underlying ht, run_underlying ht', run_size hi, Builtin.lenOf, hfit, hx, hst]

theorem run_append_new {t t' ty e e' : Nat} {info : TypeInfo} {z : Value} (ht : P.underlying t = some (.slice e)) (ht' : P.underlying t' = some (.slice e')) (hi : P.info? e = some info) (hz : info.zero = some z) {w : World} {base xa : Option Addr} {sLen sCap n xc : Nat}
    (hfit : ¬ sLen + n ≤ sCap) (hb : 0 < info.bytes) (hl : info.bytes * (sLen + n) ≤ 2 ^ 47) {old new : Array Value} (hx : (Builtin.firstCells info.size n (.slice xa n xc)).run P w.drew = .ok new w.drew)
    (hs : (Builtin.firstCells info.size sLen (.slice base sLen sCap)).run P w.drew = .ok old w.drew) :
    ∃ cap, sLen + n ≤ cap ∧ (Builtin.append_ #[t, t'] ty #[.slice base sLen sCap, .slice xa n xc]).run P w =
      .ok (.slice (some ⟨w.heap.size, 0, none⟩) (sLen + n) cap) (w.drew.alloc (.cells (old ++ new ++ Builtin.zeroCells z.cells (cap - (sLen + n))) e)) := by
  have h1 : sLen + n ≤ info.bytes * (sLen + n) := Nat.le_mul_of_pos_left _ hb
  have h2 := nextslicecap_le (need := sLen + n) (old := sCap) (by omega)
  have h3 : Builtin.nextslicecap (sLen + n) sCap * info.bytes ≤ 2 ^ 48 := by
    have := Nat.mul_le_mul_right info.bytes h2
    rw [Nat.mul_assoc, Nat.mul_comm (sLen + n)] at this
    omega
  have e1 : ¬ ((((sLen + n : Nat) : Int)) > IntKind.i64.max ∧ (False ∨ info.bytes = 0)) := by simp; omega
  have e2 : ¬ (Builtin.nextslicecap (sLen + n) sCap * info.bytes > 2 ^ 48) := by omega
  refine ⟨grownCap w (sLen + n) sCap e, by unfold grownCap; simp only [Question.cut]; omega, ?_⟩
  have e3 : ¬ (281474976710656 < Builtin.nextslicecap (sLen + n) sCap * info.bytes) := by omega
  have e4 : ¬ info.bytes = 0 := by omega
  simp [Builtin.append_, run_underlying ht, run_underlying ht', run_size hi, run_info hi, Builtin.lenOf, hfit, e3, e4, Question.forced, hx, hs, run_zero hi hz, newRow, grownCap, -Array.append_assoc]

theorem append_rep (hT : TabOk P T) {fr : Fr} {os os1 : List SO} {g : Nat → Gh} {w : World} (hm : Mem fr os g w) {t t' ty : Nat} {s x y : SV} {sv xv : Value}
    (hs : RepV w (Bk fr os g w) g s sv) (hx : RepV w (Bk fr os g w) g x xv) (h : appendS T os t t' s x = some (y, os1)) :
    ∃ v w', (Builtin.append_ #[t, t'] ty #[sv, xv]).run P w = .ok v w' ∧ Res fr os g w os1 y v w' := by
  unfold appendS at h
  split at h
  · rename_i e e' j hu hu'
    split at h
    · rename_i i lt sz l sz' r hi hj hr
      split at h
      · rename_i hc
        obtain ⟨rfl, rfl, c3, c4⟩ := hc
        obtain ⟨rfl, rfl⟩ := Prod.mk.inj (Option.some.inj h)
        obtain ⟨info, z, d, i1, i2, i3, i4, i5, i6, i7, i8, i9⟩ := (hT.ti e i hi).ok
        have ht := hT.slice t e hu
        have ht' := hT.slice t' e' hu'
        have hzc : z.cells.size = i.size := by
          have : z.cells.toList.length = i.size := by rw [i5]; simpa using i9
          simpa using this
        obtain ⟨xa, xc, rfl, hxc, hxr⟩ := elems_rep hm hx hr
        obtain ⟨us, u1, u2, u3⟩ := firstCells_of (P := P) (c := xc) hxr
        have hus : us.take r.length = us := List.take_of_length_le (by rw [u1.1]; exact Nat.le_refl _)
        -- the array that goes on
        have hbase : ∃ base cap vs, sv = .slice base l.length cap ∧ l.length ≤ cap ∧ RepL w (Bk fr os g w) G0 l vs ∧ (∀ v : Value, v ∈ vs → ElOK i.size v) ∧
            ((base = none ∧ l = [] ∧ cap = 0 ∧ g j = .nil) ∨ ∃ b, base = some ⟨b, 0, none⟩ ∧ g j = .blk b i.size l.length cap ∧ CellsAt w b 0 (flatV vs) ∧ Room w b (cap * i.size)) := by
          rcases hm.objs _ _ hj with ⟨rfl, hn⟩ | ⟨b, cap, vs, e1, e2, e3, e4, e5, e6⟩
          · cases hs with
            | osl0 => exact ⟨none, 0, [], rfl, Nat.le_refl _, RepL.nil, fun v hv => by simp at hv, .inl ⟨rfl, rfl, rfl, hn⟩⟩
            | osl hg => rw [hn] at hg; cases hg
          · cases hs with
            | osl0 hg => rw [e1] at hg; cases hg
            | osl hg => rw [e1] at hg; cases hg; exact ⟨_, _, vs, rfl, e2, e3, e4, .inr ⟨b, rfl, e1, e5, e6⟩⟩
        obtain ⟨base, cap, vs, rfl, b1, b2, b3, b4⟩ := hbase
        have hlv : vs.length = l.length := b2.1.symm
        have hallsz : ∀ v : Value, v ∈ vs ++ us → ElOK i.size v := fun v hv => by
          rcases List.mem_append.1 hv with hv | hv
          · exact b3 v hv
          · exact u2 v hv
        by_cases hfit : l.length + r.length ≤ cap
        · -- there is room
          rcases b4 with ⟨rfl, rfl, rfl, hn⟩ | ⟨b, rfl, e1, e5, e6⟩
          · have hr0 : r = [] := by rw [← List.length_eq_zero_iff]; simpa using hfit
            subst hr0
            have hx0 : ∀ c, Gh.nil.block? = some c → ((g j).block? = some c ∨ w.heap.size ≤ c) ∧ c < w.heap.size := fun c hc => by simp [Gh.block?] at hc
            have hnew : upd g os.length .nil os.length = .nil := by unfold upd; rw [if_pos rfl]
            have hg := (move_chg hm (SameOut.refl _) hj (.arr lt i.size ([] ++ [])) .nil (Nat.le_refl _) (fun _ _ _ => rfl) hx0).grow
            have hrun := run_append_in (P := P) (ty := ty) ht ht' i1 (w := w) (w' := w) (base := none) (sLen := 0) (sCap := 0) (xc := xc) hfit (by rw [i2]; exact u3 w rfl _ (Nat.le_refl _) _) rfl
            exact ⟨_, _, hrun, _, move_mem hm (SameOut.refl _) hj .nil (Nat.le_refl _) (fun _ _ _ => rfl) hx0 (.inl ⟨rfl, hnew⟩), hg, .osl0 hnew⟩
          · have hrun := run_append_in (P := P) (ty := ty) ht ht' i1 (w := w) (w' := w.setCells b (l.length * i.size) (flatV us)) (base := some ⟨b, 0, none⟩) (sLen := l.length) (sCap := cap) (xc := xc) hfit (by rw [i2]; exact u3 w rfl _ (Nat.le_refl _) _)
              (by
                simp only [i2, Addr.add_lit, Nat.zero_add, hus]
                refine run_stores e6 ?_ ?_
                · rw [flatV_length u2, ← u1.1, ← Nat.add_mul]; exact Nat.mul_le_mul_right _ hfit
                · intro v hv; obtain ⟨u, hu, hv⟩ := List.mem_flatMap.1 hv; exact (u2 u hu).2 v hv)
            have hs' := size_setCells b (flatV us) (l.length * i.size) w
            have hblk : (g j).block? = some b := by rw [e1]; rfl
            have hw : ∀ c, c < w.heap.size → (g j).block? ≠ some c → (w.setCells b (l.length * i.size) (flatV us)).heap[c]? = w.heap[c]? := fun c _ hc => heap_setCells_ne b c (fun e => hc (by rw [hblk, e])) _ _ _
            have hlive : live os g b := ⟨j, _, hj, rfl, hblk⟩
            have hx0 : ∀ c, (Gh.blk b i.size (l ++ r).length cap).block? = some c → ((g j).block? = some c ∨ w.heap.size ≤ c) ∧ c < (w.setCells b (l.length * i.size) (flatV us)).heap.size := fun c hc => by
              simp only [Gh.block?, Option.some.injEq] at hc
              subst hc
              exact ⟨.inl hblk, by rw [hs']; exact (hm.own b hlive).1⟩
            have hnew : upd g os.length (.blk b i.size (l ++ r).length cap) os.length = .blk b i.size (l ++ r).length cap := by unfold upd; rw [if_pos rfl]
            have hg := (move_chg hm (out_setCells _ _ _ _) hj (.arr lt i.size (l ++ r)) _ (by omega) hw hx0).grow
            refine ⟨_, _, hrun, _, move_mem hm (out_setCells _ _ _ _) hj _ (by omega) hw hx0 (.inr ⟨b, cap, vs ++ us, hnew, by simpa using hfit, ?_, hallsz, ?_, room_setCells e6 _ _⟩), hg, ?_⟩
            · exact (b2.append u1).mono hg.sub hg.same (fun _ h => absurd rfl h)
            · have hlen : (flatV vs).length = l.length * i.size := by rw [flatV_length b3, hlv]
              have := cells_setCells (o := l.length * i.size) (vs := flatV us) e6 e5 (by omega) (by rw [flatV_length u2, ← u1.1, ← Nat.add_mul]; exact Nat.mul_le_mul_right _ hfit)
              rw [List.take_of_length_le (by omega), List.drop_eq_nil_of_le (by omega), List.append_nil, ← flatV_append] at this
              exact this
            · have := RepV.osl (w := w.setCells b (l.length * i.size) (flatV us)) (B := Bk fr (os.set j .dead ++ [.arr lt i.size (l ++ r)]) (upd g os.length (.blk b i.size (l ++ r).length cap)) (w.setCells b (l.length * i.size) (flatV us))) hnew
              simpa using this
        · -- a new array
          have hvs : ∀ w' : World, w'.heap = w.heap → (Builtin.firstCells i.size l.length (.slice base l.length cap)).run P w' = .ok (flatV vs).toArray w' := by
            intro w' hw'
            obtain ⟨vs', p1, p2, p3⟩ := firstCells_of (P := P) (w := w) (B := Bk fr os g w) (l := l) (sz := i.size) (a := base) (c := cap) (by
              rcases b4 with ⟨rfl, rfl, rfl, hn⟩ | ⟨b, rfl, e1, e5, e6⟩
              · exact .inl rfl
              · exact .inr ⟨b, 0, vs, rfl, b2, b3, e5⟩)
            rcases b4 with ⟨rfl, rfl, rfl, hn⟩ | ⟨b, rfl, e1, e5, e6⟩
            · have : vs = [] := by rw [← List.length_eq_zero_iff]; simpa using hlv
              subst this
              simp [Builtin.firstCells, flatV]
            · have hlen : (flatV vs).length = l.length * i.size := by rw [flatV_length b3, hlv]
              refine run_firstCells_some w' i.size l.length ⟨b, 0, none⟩ _ _ _ hlen fun k v hk => ?_
              rw [Addr.add_lit, cell?_heap (show w'.heap[b]? = w.heap[b]? by rw [hw'])]
              exact e5 k v hk
          obtain ⟨cap', hcap, hrun⟩ := run_append_new (P := P) (ty := ty) ht ht' i1 i4 (w := w) (base := base) (xa := xa) (sLen := l.length) (sCap := cap) (n := r.length) (xc := xc) hfit (by rw [i3]; exact c4) (by rw [i3]; exact c3)
            (by rw [i2]; exact u3 w.drew rfl _ (Nat.le_refl _) _) (by rw [i2]; exact hvs w.drew rfl)
          rw [hus] at hrun
          have hnew : upd g os.length (.blk w.heap.size i.size (l ++ r).length cap') os.length = .blk w.heap.size i.size (l ++ r).length cap' := by unfold upd; rw [if_pos rfl]
          have hx0 : ∀ (o : Obj), ∀ c, (Gh.blk w.heap.size i.size (l ++ r).length cap').block? = some c → ((g j).block? = some c ∨ w.heap.size ≤ c) ∧ c < (w.drew.alloc o).heap.size := fun o c hc => by
            simp only [Gh.block?, Option.some.injEq] at hc
            subst hc
            exact ⟨.inr (Nat.le_refl _), by simp⟩
          have hs' : ∀ (o : Obj), w.heap.size ≤ (w.drew.alloc o).heap.size := fun o => by simp
          have hw : ∀ (o : Obj), ∀ c, c < w.heap.size → (g j).block? ≠ some c → (w.drew.alloc o).heap[c]? = w.heap[c]? := fun o c hc _ => heap_alloc_lt w.drew o c hc
          have hg := fun o => (move_chg hm (out_drew w o) hj (.arr lt i.size (l ++ r)) _ (hs' o) (hw o) (hx0 o)).grow
          refine ⟨_, _, hrun, _, move_mem hm (out_drew w _) hj _ (hs' _) (hw _) (hx0 _) (.inr ⟨w.heap.size, cap', vs ++ us, hnew, by simpa using hcap, ?_, hallsz, ?_, ?_⟩), hg _, ?_⟩
          · exact (b2.append u1).mono (hg _).sub (hg _).same (fun _ h => absurd rfl h)
          · have := (cells_alloc_new w.drew ((flatV vs).toArray ++ (flatV us).toArray ++ Builtin.zeroCells z.cells (cap' - (l.length + r.length))) e).take (flatV (vs ++ us)).length
            simp only [World.size_drew, Array.toList_append, flatV_append] at this ⊢
            rw [List.take_left'] at this
            · exact this
            · simp
          · refine room_alloc_new w.drew _ e _ ?_
            have h1 : (flatV vs).length = l.length * i.size := by rw [flatV_length b3, hlv]
            have h2 : (flatV us).length = r.length * i.size := by rw [flatV_length u2, u1.1]
            simp only [Array.size_append, List.size_toArray, h1, h2, size_zeroCells, hzc]
            rw [← Nat.add_mul, ← Nat.add_mul]
            exact Nat.mul_le_mul_right _ (by omega)
          · have := fun W => RepV.osl (w := W) (B := Bk fr (os.set j .dead ++ [.arr lt i.size (l ++ r)]) (upd g os.length (.blk w.heap.size i.size (l ++ r).length cap')) W) hnew
            simpa using this _
      · simp at h
    · simp at h
  · simp at h

end Go.Proofs.Ytjfegdlgepbjoaa
