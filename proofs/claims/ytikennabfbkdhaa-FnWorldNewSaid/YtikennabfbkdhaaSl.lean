/- The evaluator S and what it says of functions: Sk, Sl. -/
import Derived.Test.YtikennabfbkdhaaSj
import Derived.Laws.AppendOwn
import Derived.Laws.BytesString
/- The evaluator S: append and copy. -/
namespace Go.Proofs.Ytikennabfbkdhaa
open Go
set_option linter.unusedVariables false
set_option linter.unusedSimpArgs false
variable {P : Program} {T : Tab}
theorem move_chg {fr : Fr} {os : List SO} {g : Nat → Gh} {w w' : World} (hm : Mem fr os g w) (so : SameOut w w') {j : Nat} {lt : Bool} {sz : Nat} {l : List SV} (hj : os[j]? = some (.arr lt sz l)) (o : SO) (x : Gh) (hs : w.heap.size ≤ w'.heap.size)
    (hw : ∀ c, c < w.heap.size → ¬ (g j).has c → w'.heap[c]? = w.heap[c]?) (hx : ∀ c, x.has c → ((g j).has c ∨ w.heap.size ≤ c) ∧ c < w'.heap.size) :
    Chg fr os g w (os.set j .dead ++ [o]) (upd g os.length x) w' (fun c => (g j).has c) where
  out := so
  size := hs
  same c hc hne := hw c hc hne
  only c hc := ⟨j, _, hj, rfl, hc⟩
  ext k hk := by
    unfold upd
    split
    · rename_i e; subst e; exact absurd (hm.fresh _ (Nat.le_refl _)) hk
    · rfl
  live c hc := by
    obtain ⟨k, o', hk, hl, hb⟩ := hc
    rcases getElem?_snoc _ _ _ _ hk with ⟨h1, h2⟩ | ⟨rfl, rfl⟩
    · have hg : upd g os.length x k = g k := by unfold upd; rw [if_neg (by simp at h1; omega)]
      rw [hg] at hb
      rw [List.getElem?_set] at h2
      split at h2
      · rename_i e
        subst e
        have : o' = .dead := by
          first
            | exact (Option.some.inj h2).symm
            | (split at h2 <;> first | exact (Option.some.inj h2).symm | simp at h2)
        subst this
        simp [SO.isLive] at hl
      · have : live os g c := ⟨k, o', h2, hl, hb⟩
        exact ⟨.inl this, Nat.lt_of_lt_of_le (hm.own c this).1 hs⟩
    · have hg : upd g os.length x (os.set j .dead).length = x := by unfold upd; rw [if_pos (by simp)]
      rw [hg] at hb
      obtain ⟨h1, h2⟩ := hx c hb
      exact ⟨h1.imp (fun h => ⟨j, _, hj, rfl, h⟩) id, h2⟩
theorem move_mem {fr : Fr} {os : List SO} {g : Nat → Gh} {w w' : World} (hm : Mem fr os g w) (so : SameOut w w') {j : Nat} {lt : Bool} {sz sz' : Nat} {l l' : List SV} (hj : os[j]? = some (.arr lt sz l)) (x : Gh) (hs : w.heap.size ≤ w'.heap.size)
    (hw : ∀ c, c < w.heap.size → ¬ (g j).has c → w'.heap[c]? = w.heap[c]?) (hx : ∀ c, x.has c → ((g j).has c ∨ w.heap.size ≤ c) ∧ c < w'.heap.size)
    (hok : ObjOK w' (Bk fr (os.set j .dead ++ [.arr lt sz' l']) (upd g os.length x) w') (upd g os.length x) os.length (.arr lt sz' l')) :
    Mem fr (os.set j .dead ++ [.arr lt sz' l']) (upd g os.length x) w' := by
  have hjl := lt_of_getElem? hj
  have hold : ∀ k, k < os.length → upd g os.length x k = g k := fun k hk => by unfold upd; rw [if_neg (by omega)]
  have hnew : upd g os.length x os.length = x := by unfold upd; rw [if_pos rfl]
  have back : ∀ {k : Nat} {o : SO}, (os.set j .dead ++ [.arr lt sz' l'])[k]? = some o → (k = j ∧ o = .dead) ∨ (k ≠ j ∧ k < os.length ∧ os[k]? = some o) ∨ (k = os.length ∧ o = .arr lt sz' l') := by
    intro k o hk
    rcases getElem?_snoc _ _ _ _ hk with ⟨h1, h2⟩ | ⟨h1, h2⟩
    · rw [List.getElem?_set] at h2
      split at h2
      · rename_i e
        subst e
        refine .inl ⟨rfl, ?_⟩
        first
          | exact (Option.some.inj h2).symm
          | (split at h2 <;> first | exact (Option.some.inj h2).symm | simp at h2)
      · rename_i e
        exact .inr (.inl ⟨fun h => e h.symm, by simpa using h1, h2⟩)
    · exact .inr (.inr ⟨by simpa using h1, h2⟩)
  have hlt : ∀ {i : Nat} {oi : SO} {b : Nat}, os[i]? = some oi → oi.isLive = true → (g i).has b → b < w.heap.size := fun h1 h2 h3 => (hm.own _ ⟨_, _, h1, h2, h3⟩).1
  refine (move_chg hm so hj _ x hs hw hx).mem hm ?_ ?_ ?_ ?_
  · intro k o hk
    rcases back hk with ⟨rfl, rfl⟩ | ⟨h1, h2, h3⟩ | ⟨rfl, rfl⟩
    · exact .inr trivial
    · exact .inl ⟨h3, fun c hl hc e => h1 (hm.inj k j o _ c h3 hj hl rfl hc e)⟩
    · exact .inr hok
  · intro k hk
    simp at hk
    unfold upd
    rw [if_neg (by omega)]
    exact hm.fresh k (by omega)
  · intro i k oi ok c hi hk li lk bi bk
    rcases back hi with ⟨rfl, rfl⟩ | ⟨i1, i2, i3⟩ | ⟨rfl, rfl⟩
    · simp [SO.isLive] at li
    · rcases back hk with ⟨rfl, rfl⟩ | ⟨k1, k2, k3⟩ | ⟨rfl, rfl⟩
      · simp [SO.isLive] at lk
      · rw [hold i i2] at bi; rw [hold k k2] at bk; exact hm.inj i k oi ok c i3 k3 li lk bi bk
      · rw [hold i i2] at bi; rw [hnew] at bk
        rcases (hx c bk).1 with h | h
        · exact absurd (hm.inj i j oi _ c i3 hj li rfl bi h) i1
        · have := hlt i3 li bi; omega
    · rcases back hk with ⟨rfl, rfl⟩ | ⟨k1, k2, k3⟩ | ⟨rfl, rfl⟩
      · simp [SO.isLive] at lk
      · rw [hnew] at bi; rw [hold k k2] at bk
        rcases (hx c bi).1 with h | h
        · exact absurd (hm.inj k j ok _ c k3 hj lk rfl bk h) k1
        · have := hlt k3 lk bk; omega
      · rfl
  · intro k sz'' l'' c hk hc
    rcases back hk with ⟨rfl, e⟩ | ⟨k1, k2, k3⟩ | ⟨rfl, e⟩
    · cases e
    · rw [hold k k2] at hc; exact hm.mine k sz'' l'' c k3 hc
    · cases e
      rw [hnew] at hc
      rcases (hx c hc).1 with h | h
      · exact hm.mine j sz l c hj h
      · exact Nat.le_trans hm.size h
theorem firstCells_of {w : World} {B : Nat → Prop} {l : List SV} {sz : Nat} {a : Option Addr} {c : Nat}
    (h : l = [] ∨ ∃ b o vs, a = some ⟨b, o, none⟩ ∧ RepL w B G0 l vs ∧ (∀ v : Value, v ∈ vs → ElOK sz v) ∧ CellsAt w b o (flatV vs)) :
    ∃ vs, RepL w B G0 l vs ∧ (∀ v : Value, v ∈ vs → ElOK sz v) ∧ ∀ w' : World, w'.heap = w.heap → ∀ n, n ≤ l.length → ∀ len,
      (Builtin.firstCells sz n (.slice a len c)).run P w' = .ok (flatV (vs.take n)).toArray w' := by
  rcases h with rfl | ⟨b, o, vs, rfl, h1, h2, h3⟩
  · refine ⟨[], RepL.nil, fun v hv => by simp at hv, fun w' hw n hn len => ?_⟩
    obtain rfl : n = 0 := by simpa using hn
    cases a <;> simp [Builtin.firstCells, loadCells, loadCellsFrom, flatV]
  · refine ⟨vs, h1, h2, fun w' hw n hn len => ?_⟩
    have hlen : (flatV (vs.take n)).length = n * sz := by
      rw [flatV_length (fun v hv => h2 v (List.mem_of_mem_take hv)), List.length_take, Nat.min_eq_left (by rw [← h1.1]; exact hn)]
    refine run_firstCells_some w' sz n ⟨b, o, none⟩ len c _ hlen fun k v hk => ?_
    rw [Addr.add_lit, cell?_heap (show w'.heap[b]? = w.heap[b]? by rw [hw])]
    have := h3.take (n * sz)
    rw [flatV_take h2] at this
    exact this k v hk
theorem run_append_in {t t' ty e e' : Nat} {info : TypeInfo} (ht : P.underlying t = some (.slice e)) (ht' : P.underlying t' = some (.slice e')) (hi : P.info? e = some info) {w w' : World} {base xa : Option Addr} {sLen sCap n xc : Nat}
    (hfit : sLen + n ≤ sCap) {new : Array Value} (hx : (Builtin.firstCells info.size n (.slice xa n xc)).run P w = .ok new w)
    (hst : match base with | some a => (storeCells (a.add (sLen * info.size)) new.toList).run P w = .ok () w' | none => w' = w) :
    (Builtin.append_ #[t, t'] ty #[.slice base sLen sCap, .slice xa n xc]).run P w = .ok (.slice base (sLen + n) sCap) w' := by
  cases base with
  | none =>
    simp only at hst
    subst hst
    simp [Builtin.append_, run_underlying ht, run_underlying ht', run_size hi, Builtin.lenOf, hfit, hx]
  | some a =>
    simp only at hst
    simp [Builtin.append_, run_underlying ht, run_underlying ht', run_size hi, Builtin.lenOf, hfit, hx, hst]
theorem run_append_new {t t' ty e e' : Nat} {info : TypeInfo} {z : Value} (ht : P.underlying t = some (.slice e)) (ht' : P.underlying t' = some (.slice e')) (hi : P.info? e = some info) (hz : info.zero = some z) {w : World} {base xa : Option Addr} {sLen sCap n xc : Nat}
    (hfit : ¬ sLen + n ≤ sCap) (hb : 0 < info.bytes) (hl : info.bytes * (sLen + n) ≤ 2 ^ 47) {old new : Array Value} (hx : (Builtin.firstCells info.size n (.slice xa n xc)).run P w.drew = .ok new w.drew)
    (hs : (Builtin.firstCells info.size sLen (.slice base sLen sCap)).run P w.drew = .ok old w.drew) :
    ∃ cap, sLen + n ≤ cap ∧ (Builtin.append_ #[t, t'] ty #[.slice base sLen sCap, .slice xa n xc]).run P w =
      .ok (.slice (some ⟨w.heap.size, 0, none⟩) (sLen + n) cap) (w.drew.alloc (.cells (old ++ new ++ Builtin.zeroCells z.cells (cap - (sLen + n))) e)) := by
  have h1 : sLen + n ≤ info.bytes * (sLen + n) := Nat.le_mul_of_pos_left _ hb
  have h2 := nextslicecap_le (need := sLen + n) (old := sCap) (by omega)
  have h3 : Builtin.nextslicecap (sLen + n) sCap * info.bytes ≤ 2 ^ 48 := by
    have := Nat.mul_le_mul_right info.bytes h2
    rw [Nat.mul_assoc, Nat.mul_comm (sLen + n)] at this
    omega
  have e1 : ¬ ((((sLen + n : Nat) : Int)) > IntKind.i64.max ∧ (False ∨ info.bytes = 0)) := by simp; omega
  have e2 : ¬ (Builtin.nextslicecap (sLen + n) sCap * info.bytes > 2 ^ 48) := by omega
  refine ⟨grownCap w (sLen + n) sCap e, by unfold grownCap; simp only [Question.cut]; omega, ?_⟩
  have e3 : ¬ (281474976710656 < Builtin.nextslicecap (sLen + n) sCap * info.bytes) := by omega
  have e4 : ¬ info.bytes = 0 := by omega
  simp [Builtin.append_, run_underlying ht, run_underlying ht', run_size hi, run_info hi, Builtin.lenOf, hfit, e3, e4, Question.forced, hx, hs, run_zero hi hz, newRow, grownCap, -Array.append_assoc]
theorem append_rep (hT : TabOk P T) {fr : Fr} {os os1 : List SO} {g : Nat → Gh} {w : World} (hm : Mem fr os g w) {t t' ty : Nat} {s x y : SV} {sv xv : Value}
    (hs : RepV w (Bk fr os g w) g s sv) (hx : RepV w (Bk fr os g w) g x xv) (h : appendS T os t t' s x = some (y, os1)) :
    ∃ v w', (Builtin.append_ #[t, t'] ty #[sv, xv]).run P w = .ok v w' ∧ Res fr os g w os1 y v w' := by
  unfold appendS at h
  split at h
  · rename_i e e' j hu hu'
    split at h
    · rename_i i lt sz l sz' r hi hj hr
      split at h
      · rename_i hc
        obtain ⟨rfl, rfl, c3, c4⟩ := hc
        obtain ⟨rfl, rfl⟩ := Prod.mk.inj (Option.some.inj h)
        obtain ⟨info, z, d, i1, i2, i3, i4, i5, i6, i7, i8, i9⟩ := (hT.ti e i hi).ok
        have ht := hT.slice t e hu
        have ht' := hT.slice t' e' hu'
        have hzc : z.cells.size = i.size := by
          have : z.cells.toList.length = i.size := by rw [i5]; simpa using i9
          simpa using this
        obtain ⟨xa, xc, rfl, hxc, hxr⟩ := elems_rep hm hx hr
        obtain ⟨us, u1, u2, u3⟩ := firstCells_of (P := P) (c := xc) hxr
        have hus : us.take r.length = us := List.take_of_length_le (by rw [u1.1]; exact Nat.le_refl _)
        have hbase : ∃ base cap vs, sv = .slice base l.length cap ∧ l.length ≤ cap ∧ RepL w (Bk fr os g w) G0 l vs ∧ (∀ v : Value, v ∈ vs → ElOK i.size v) ∧
            ((base = none ∧ l = [] ∧ cap = 0 ∧ g j = .nil) ∨ ∃ b, base = some ⟨b, 0, none⟩ ∧ g j = .blk b i.size l.length cap ∧ CellsAt w b 0 (flatV vs) ∧ Room w b (cap * i.size) i.size) := by
          rcases hm.objs _ _ hj with ⟨rfl, hn⟩ | ⟨b, cap, vs, e1, e2, e3, e4, e5, e6⟩
          · cases hs with
            | osl0 => exact ⟨none, 0, [], rfl, Nat.le_refl _, RepL.nil, fun v hv => by simp at hv, .inl ⟨rfl, rfl, rfl, hn⟩⟩
            | osln hq9 => exfalso; first | (rw [hn] at hq9; cases hq9) | (rw [e1] at hq9; cases hq9) | (rw [hg] at hq9; cases hq9) | (rw [h1] at hq9; cases hq9) | (simp_all; done)
            | osl hg => rw [hn] at hg; cases hg
          · cases hs with
            | osl0 hg => rw [e1] at hg; cases hg
            | osln hq9 => exfalso; first | (rw [hn] at hq9; cases hq9) | (rw [e1] at hq9; cases hq9) | (rw [hg] at hq9; cases hq9) | (rw [h1] at hq9; cases hq9) | (simp_all; done)
            | osl hg => rw [e1] at hg; cases hg; exact ⟨_, _, vs, rfl, e2, e3, e4, .inr ⟨b, rfl, e1, e5, e6⟩⟩
        obtain ⟨base, cap, vs, rfl, b1, b2, b3, b4⟩ := hbase
        have hlv : vs.length = l.length := b2.1.symm
        have hallsz : ∀ v : Value, v ∈ vs ++ us → ElOK i.size v := fun v hv => by
          rcases List.mem_append.1 hv with hv | hv
          · exact b3 v hv
          · exact u2 v hv
        by_cases hfit : l.length + r.length ≤ cap
        · -- there is room
          rcases b4 with ⟨rfl, rfl, rfl, hn⟩ | ⟨b, rfl, e1, e5, e6⟩
          · have hr0 : r = [] := by rw [← List.length_eq_zero_iff]; simpa using hfit
            subst hr0
            have hx0 : ∀ c, Gh.nil.has c → ((g j).has c ∨ w.heap.size ≤ c) ∧ c < w.heap.size := fun c hc => by simp [Gh.has] at hc
            have hnew : upd g os.length .nil os.length = .nil := by unfold upd; rw [if_pos rfl]
            have hg := (move_chg hm (SameOut.refl _) hj (.arr lt i.size ([] ++ [])) .nil (Nat.le_refl _) (fun _ _ _ => rfl) hx0).grow
            have hrun := run_append_in (P := P) (ty := ty) ht ht' i1 (w := w) (w' := w) (base := none) (sLen := 0) (sCap := 0) (xc := xc) hfit (by rw [i2]; exact u3 w rfl _ (Nat.le_refl _) _) rfl
            exact ⟨_, _, hrun, _, move_mem hm (SameOut.refl _) hj .nil (Nat.le_refl _) (fun _ _ _ => rfl) hx0 (.inl ⟨rfl, hnew⟩), hg, .osl0 hnew⟩
          · have hrun := run_append_in (P := P) (ty := ty) ht ht' i1 (w := w) (w' := w.setCells b (l.length * i.size) (flatV us)) (base := some ⟨b, 0, none⟩) (sLen := l.length) (sCap := cap) (xc := xc) hfit (by rw [i2]; exact u3 w rfl _ (Nat.le_refl _) _)
              (by
                simp only [i2, Addr.add_lit, Nat.zero_add, hus]
                refine run_stores e6 ?_ ?_
                · rw [flatV_length u2, ← u1.1, ← Nat.add_mul]; exact Nat.mul_le_mul_right _ hfit
                · intro v hv; obtain ⟨u, hu, hv⟩ := List.mem_flatMap.1 hv; exact (u2 u hu).2 v hv)
            have hs' := size_setCells b (flatV us) (l.length * i.size) w
            have hblk : (g j).has b := by rw [e1]; rfl
            have hw : ∀ c, c < w.heap.size → ¬ (g j).has c → (w.setCells b (l.length * i.size) (flatV us)).heap[c]? = w.heap[c]? := fun c _ hc => heap_setCells_ne b c (fun e => hc (by rw [← e]; exact hblk)) _ _ _
            have hlive : live os g b := ⟨j, _, hj, rfl, hblk⟩
            have hx0 : ∀ c, (Gh.blk b i.size (l ++ r).length cap).has c → ((g j).has c ∨ w.heap.size ≤ c) ∧ c < (w.setCells b (l.length * i.size) (flatV us)).heap.size := fun c hc => by
              simp only [Gh.has] at hc
              subst hc
              exact ⟨.inl hblk, by rw [hs']; exact (hm.own b hlive).1⟩
            have hnew : upd g os.length (.blk b i.size (l ++ r).length cap) os.length = .blk b i.size (l ++ r).length cap := by unfold upd; rw [if_pos rfl]
            have hg := (move_chg hm (out_setCells _ _ _ _) hj (.arr lt i.size (l ++ r)) _ (by omega) hw hx0).grow
            refine ⟨_, _, hrun, _, move_mem hm (out_setCells _ _ _ _) hj _ (by omega) hw hx0 (.inr ⟨b, cap, vs ++ us, hnew, by simpa using hfit, ?_, hallsz, ?_, room_setCells e6 _ _⟩), hg, ?_⟩
            · exact (b2.append u1).mono hg.sub hg.same (fun _ h => absurd rfl h)
            · have hlen : (flatV vs).length = l.length * i.size := by rw [flatV_length b3, hlv]
              have := cells_setCells (o := l.length * i.size) (vs := flatV us) e6 e5 (by omega) (by rw [flatV_length u2, ← u1.1, ← Nat.add_mul]; exact Nat.mul_le_mul_right _ hfit)
              rw [List.take_of_length_le (by omega), List.drop_eq_nil_of_le (by omega), List.append_nil, ← flatV_append] at this
              exact this
            · have := RepV.osl (w := w.setCells b (l.length * i.size) (flatV us)) (B := Bk fr (os.set j .dead ++ [.arr lt i.size (l ++ r)]) (upd g os.length (.blk b i.size (l ++ r).length cap)) (w.setCells b (l.length * i.size) (flatV us))) hnew
              simpa using this
        · -- a new array
          have hvs : ∀ w' : World, w'.heap = w.heap → (Builtin.firstCells i.size l.length (.slice base l.length cap)).run P w' = .ok (flatV vs).toArray w' := by
            intro w' hw'
            obtain ⟨vs', p1, p2, p3⟩ := firstCells_of (P := P) (w := w) (B := Bk fr os g w) (l := l) (sz := i.size) (a := base) (c := cap) (by
              rcases b4 with ⟨rfl, rfl, rfl, hn⟩ | ⟨b, rfl, e1, e5, e6⟩
              · exact .inl rfl
              · exact .inr ⟨b, 0, vs, rfl, b2, b3, e5⟩)
            rcases b4 with ⟨rfl, rfl, rfl, hn⟩ | ⟨b, rfl, e1, e5, e6⟩
            · have : vs = [] := by rw [← List.length_eq_zero_iff]; simpa using hlv
              subst this
              simp [Builtin.firstCells, flatV]
            · have hlen : (flatV vs).length = l.length * i.size := by rw [flatV_length b3, hlv]
              refine run_firstCells_some w' i.size l.length ⟨b, 0, none⟩ _ _ _ hlen fun k v hk => ?_
              rw [Addr.add_lit, cell?_heap (show w'.heap[b]? = w.heap[b]? by rw [hw'])]
              exact e5 k v hk
          obtain ⟨cap', hcap, hrun⟩ := run_append_new (P := P) (ty := ty) ht ht' i1 i4 (w := w) (base := base) (xa := xa) (sLen := l.length) (sCap := cap) (n := r.length) (xc := xc) hfit (by rw [i3]; exact c4) (by rw [i3]; exact c3)
            (by rw [i2]; exact u3 w.drew rfl _ (Nat.le_refl _) _) (by rw [i2]; exact hvs w.drew rfl)
          rw [hus] at hrun
          have hnew : upd g os.length (.blk w.heap.size i.size (l ++ r).length cap') os.length = .blk w.heap.size i.size (l ++ r).length cap' := by unfold upd; rw [if_pos rfl]
          have hx0 : ∀ (o : Obj), ∀ c, (Gh.blk w.heap.size i.size (l ++ r).length cap').has c → ((g j).has c ∨ w.heap.size ≤ c) ∧ c < (w.drew.alloc o).heap.size := fun o c hc => by
            simp only [Gh.has] at hc
            subst hc
            exact ⟨.inr (Nat.le_refl _), by simp⟩
          have hs' : ∀ (o : Obj), w.heap.size ≤ (w.drew.alloc o).heap.size := fun o => by simp
          have hw : ∀ (o : Obj), ∀ c, c < w.heap.size → ¬ (g j).has c → (w.drew.alloc o).heap[c]? = w.heap[c]? := fun o c hc _ => heap_alloc_lt w.drew o c hc
          have hg := fun o => (move_chg hm (out_drew w o) hj (.arr lt i.size (l ++ r)) _ (hs' o) (hw o) (hx0 o)).grow
          refine ⟨_, _, hrun, _, move_mem hm (out_drew w _) hj _ (hs' _) (hw _) (hx0 _) (.inr ⟨w.heap.size, cap', vs ++ us, hnew, by simpa using hcap, ?_, hallsz, ?_, ?_⟩), hg _, ?_⟩
          · exact (b2.append u1).mono (hg _).sub (hg _).same (fun _ h => absurd rfl h)
          · have := (cells_alloc_new w.drew ((flatV vs).toArray ++ (flatV us).toArray ++ Builtin.zeroCells z.cells (cap' - (l.length + r.length))) e).take (flatV (vs ++ us)).length
            simp only [World.size_drew, Array.toList_append, flatV_append] at this ⊢
            rw [List.take_left'] at this
            · exact this
            · simp
          · refine room_alloc_new w.drew _ e _ ?_
            have h1 : (flatV vs).length = l.length * i.size := by rw [flatV_length b3, hlv]
            have h2 : (flatV us).length = r.length * i.size := by rw [flatV_length u2, u1.1]
            simp only [Array.size_append, List.size_toArray, h1, h2, size_zeroCells, hzc]
            rw [← Nat.add_mul, ← Nat.add_mul]
            exact Nat.mul_le_mul_right _ (by omega)
          · have := fun W => RepV.osl (w := W) (B := Bk fr (os.set j .dead ++ [.arr lt i.size (l ++ r)]) (upd g os.length (.blk w.heap.size i.size (l ++ r).length cap')) W) hnew
            simpa using this _
      · simp at h
    · simp at h
  · simp at h
end Go.Proofs.Ytikennabfbkdhaa

/- The evaluator S: copy and conversions. -/
namespace Go.Proofs.Ytikennabfbkdhaa
open Go
set_option linter.unusedVariables false
set_option linter.unusedSimpArgs false
variable {P : Program} {T : Tab}
theorem arr_rep {fr : Fr} {os : List SO} {g : Nat → Gh} {w : World} (hm : Mem fr os g w) {j sz : Nat} {lt : Bool} {l : List SV} {sv : Value} (hj : os[j]? = some (.arr lt sz l))
    (hs : RepV w (Bk fr os g w) g (.osl j) sv) :
    ∃ base cap vs, sv = .slice base l.length cap ∧ l.length ≤ cap ∧ RepL w (Bk fr os g w) G0 l vs ∧ (∀ v : Value, v ∈ vs → ElOK sz v) ∧
      ((base = none ∧ l = [] ∧ cap = 0 ∧ g j = .nil) ∨ ∃ b, base = some ⟨b, 0, none⟩ ∧ g j = .blk b sz l.length cap ∧ CellsAt w b 0 (flatV vs) ∧ Room w b (cap * sz) sz) := by
  rcases hm.objs _ _ hj with ⟨rfl, hn⟩ | ⟨b, cap, vs, e1, e2, e3, e4, e5, e6⟩
  · cases hs with
    | osl0 => exact ⟨none, 0, [], rfl, Nat.le_refl _, RepL.nil, fun v hv => by simp at hv, .inl ⟨rfl, rfl, rfl, hn⟩⟩
    | osln hq9 => exfalso; first | (rw [hn] at hq9; cases hq9) | (rw [e1] at hq9; cases hq9) | (rw [hg] at hq9; cases hq9) | (rw [h1] at hq9; cases hq9) | (simp_all; done)
    | osl hg => rw [hn] at hg; cases hg
  · cases hs with
    | osl0 hg => rw [e1] at hg; cases hg
    | osln hq9 => exfalso; first | (rw [hn] at hq9; cases hq9) | (rw [e1] at hq9; cases hq9) | (rw [hg] at hq9; cases hq9) | (rw [h1] at hq9; cases hq9) | (simp_all; done)
    | osl hg => rw [e1] at hg; cases hg; exact ⟨_, _, vs, rfl, e2, e3, e4, .inr ⟨b, rfl, e1, e5, e6⟩⟩
theorem set_same {os : List SO} {j : Nat} {o : SO} (h : os[j]? = some o) : os.set j o = os := by
  apply List.ext_getElem?
  intro k
  rw [List.getElem?_set]
  split
  · rename_i e
    subst e
    first
      | exact h.symm
      | (rw [if_pos (lt_of_getElem? h)]; exact h.symm)
  · rfl
theorem overwrite {fr : Fr} {os : List SO} {g : Nat → Gh} {w : World} (hm : Mem fr os g w) {j sz : Nat} {lt : Bool} {l r : List SV} {vs us : List Value} {b cap lo : Nat} (hj : os[j]? = some (.arr lt sz l))
    (e1 : g j = .blk b sz l.length cap) (e2 : l.length ≤ cap) (e3 : RepL w (Bk fr os g w) G0 l vs) (e4 : ∀ v : Value, v ∈ vs → ElOK sz v) (e5 : CellsAt w b 0 (flatV vs)) (e6 : Room w b (cap * sz) sz)
    (hr : RepL w (Bk fr os g w) G0 r us) (hu : ∀ v : Value, v ∈ us → ElOK sz v) (hle : lo + r.length ≤ l.length) :
    (storeCells ⟨b, lo * sz, none⟩ (flatV us)).run P w = .ok () (w.setCells b (lo * sz) (flatV us)) ∧
    Mem fr (os.set j (.arr lt sz (l.take lo ++ r ++ l.drop (lo + r.length)))) g (w.setCells b (lo * sz) (flatV us)) ∧
    Grow fr os g w (os.set j (.arr lt sz (l.take lo ++ r ++ l.drop (lo + r.length)))) g (w.setCells b (lo * sz) (flatV us)) := by
  have hul : (flatV us).length = r.length * sz := by rw [flatV_length hu, hr.1]
  have hvl : (flatV vs).length = l.length * sz := by rw [flatV_length e4, e3.1]
  have hmul : (lo + r.length) * sz ≤ l.length * sz := Nat.mul_le_mul_right _ hle
  have hmul2 : l.length * sz ≤ cap * sz := Nat.mul_le_mul_right _ e2
  rw [Nat.add_mul] at hmul
  have hb : (g j).has b := by rw [e1]; rfl
  have hs := size_setCells b (flatV us) (lo * sz) w
  have hw := fun c (hc : c ≠ b) => heap_setCells_ne b c (fun e => hc e.symm) (flatV us) (lo * sz) w
  have hg := (set_chg hm (out_setCells _ _ _ _) hj rfl hb (o' := .arr lt sz (l.take lo ++ r ++ l.drop (lo + r.length))) rfl hs hw).grow
  refine ⟨run_stores e6 (by omega) (fun v hv => by obtain ⟨u, hu', hv⟩ := List.mem_flatMap.1 hv; exact (hu u hu').2 v hv), set_mem hm (out_setCells _ _ _ _) hj rfl hb rfl (fun sz' l' e => by cases e; exact ⟨_, _, rfl⟩) hs hw ?_, hg⟩
  have hlen : (l.take lo ++ r ++ l.drop (lo + r.length)).length = l.length := by simp; omega
  refine .inr ⟨b, cap, vs.take lo ++ us ++ vs.drop (lo + us.length), by rw [hlen]; exact e1, by rw [hlen]; exact e2, ?_, ?_, ?_, room_setCells e6 _ _⟩
  · have := ((e3.take lo).append hr).append (e3.drop (lo + r.length))
    rw [← hr.1]
    exact this.mono hg.sub hg.same (fun _ h => absurd rfl h)
  · intro v hv
    simp only [List.mem_append] at hv
    rcases hv with (hv | hv) | hv
    · exact e4 v (List.mem_of_mem_take hv)
    · exact hu v hv
    · exact e4 v (List.mem_of_mem_drop hv)
  · have := cells_setCells (o := lo * sz) (vs := flatV us) e6 e5 (by omega) (by omega)
    rw [hul, ← Nat.add_mul, flatV_take e4, flatV_drop e4] at this
    rw [flatV_append, flatV_append, ← hr.1]
    exact this
theorem run_copy {t t' e ty : Nat} {info : TypeInfo} (ht : P.underlying t = some (.slice e)) (hi : P.info? e = some info) {w w' : World} {base xa : Option Addr} {dl dc n xc : Nat} {cells : Array Value}
    (hx : (Builtin.firstCells info.size (min n dl) (.slice xa n xc)).run P w = .ok cells w) (hst : match base with | some a => (storeCells a cells.toList).run P w = .ok () w' | none => w' = w) :
    (Builtin.copy_ #[t, t'] ty #[.slice base dl dc, .slice xa n xc]).run P w = .ok (.int .i64 ((min n dl : Nat) : Int)) w' := by
  cases base with
  | none =>
    simp only at hst
    subst hst
    simp [Builtin.copy_, run_underlying ht, run_size hi, Builtin.lenOf, hx, goInt]
  | some a =>
    simp only at hst
    simp [Builtin.copy_, run_underlying ht, run_size hi, Builtin.lenOf, hx, hst, goInt]
theorem copy_rep (hT : TabOk P T) {fr : Fr} {os os1 : List SO} {g : Nat → Gh} {w : World} (hm : Mem fr os g w) {t t' ty : Nat} {s x y : SV} {sv xv : Value}
    (hs : RepV w (Bk fr os g w) g s sv) (hx : RepV w (Bk fr os g w) g x xv) (h : copyS T os t s x = some (y, os1)) :
    ∃ v w', (Builtin.copy_ #[t, t'] ty #[sv, xv]).run P w = .ok v w' ∧ Res fr os g w os1 y v w' := by
  unfold copyS at h
  split at h
  · rename_i e j sz' r hu hr
    split at h
    · rename_i i lt sz l hi hj
      split at h
      · rename_i hc
        obtain ⟨rfl, rfl⟩ := hc
        obtain ⟨rfl, rfl⟩ := Prod.mk.inj (Option.some.inj h)
        obtain ⟨info, z, d, i1, i2, i3, i4, i5, i6, i7, i8, i9⟩ := (hT.ti e i hi).ok
        have ht := hT.slice t e hu
        obtain ⟨xa, xc, rfl, hxc, hxr⟩ := elems_rep hm hx hr
        obtain ⟨us, u1, u2, u3⟩ := firstCells_of (P := P) (c := xc) hxr
        obtain ⟨base, cap, vs, rfl, b1, b2, b3, b4⟩ := arr_rep hm hj hs
        have hread := u3 w rfl (min r.length l.length) (Nat.min_le_left _ _) r.length
        rw [← i2] at hread
        rcases b4 with ⟨rfl, rfl, rfl, hn⟩ | ⟨b, rfl, e1, e5, e6⟩
        · refine ⟨_, w, run_copy ht i1 (t' := t') (ty := ty) (w' := w) (dl := 0) (by simpa using hread) rfl, ?_⟩
          have e : (r.take (min r.length ([] : List SV).length) ++ ([] : List SV).drop (min r.length ([] : List SV).length)) = [] := by simp
          rw [e, set_same hj]
          exact Res.same hm (.v rfl)
        · have hm1 : (r.take (min r.length l.length)).length = min r.length l.length := by simp
          obtain ⟨q1, q2, q3⟩ := overwrite (P := P) (lo := 0) (r := r.take (min r.length l.length)) (us := us.take (min r.length l.length)) hm hj e1 b1 b2 b3 e5 e6 (u1.take _) (fun v hv => u2 v (List.mem_of_mem_take hv)) (by rw [hm1]; omega)
          rw [hm1] at q2 q3
          simp only [List.take_zero, List.nil_append, Nat.zero_add, Nat.zero_mul] at q1 q2 q3
          exact ⟨_, _, run_copy ht i1 (t' := t') (ty := ty) hread (by simpa using q1), g, q2, q3, .v rfl⟩
      · simp at h
    · simp at h
  · rename_i e j lo hi' sz' r hu hr
    split at h
    · rename_i i lt sz l hi hj
      split at h
      · rename_i hc
        obtain ⟨rfl, c1, c2, rfl⟩ := hc
        obtain ⟨rfl, rfl⟩ := Prod.mk.inj (Option.some.inj h)
        obtain ⟨info, z, d, i1, i2, i3, i4, i5, i6, i7, i8, i9⟩ := (hT.ti e i hi).ok
        have ht := hT.slice t e hu
        obtain ⟨xa, xc, rfl, hxc, hxr⟩ := elems_rep hm hx hr
        obtain ⟨us, u1, u2, u3⟩ := firstCells_of (P := P) (c := xc) hxr
        have hread := u3 w rfl (min r.length (hi' - lo)) (Nat.min_le_left _ _) r.length
        rw [← i2] at hread
        have hm1 : (r.take (min r.length (hi' - lo))).length = min r.length (hi' - lo) := by simp
        cases hs with
        | vw0 =>
          rename_i c a
          have hz : min r.length (lo - lo) = 0 := by simp
          rw [hz] at hread ⊢
          have e : (l.take lo ++ r.take 0 ++ l.drop (lo + 0)) = l := by simp
          rw [e, set_same hj]
          have hcells : flatV (us.take 0) = [] := by simp [flatV]
          rw [hcells] at hread
          have := run_copy (P := P) ht i1 (t' := t') (ty := ty) (w' := w) (base := a) (dl := 0) (dc := c) (n := r.length) (xa := xa) (xc := xc) (cells := #[]) (by simpa using hread) (by cases a <;> rfl)
          exact ⟨_, w, by simpa using this, Res.same hm (.v rfl)⟩
        | vw hg a1 a2 a3 =>
          rcases hm.objs _ _ hj with ⟨rfl, hn⟩ | ⟨b, cap, vs, e1, e2, e3, e4, e5, e6⟩
          · rw [hn] at hg; cases hg
          · rw [e1] at hg
            cases hg
            obtain ⟨q1, q2, q3⟩ := overwrite (P := P) (lo := lo) (r := r.take (min r.length (hi' - lo))) (us := us.take (min r.length (hi' - lo))) hm hj e1 e2 e3 e4 e5 e6 (u1.take _) (fun v hv => u2 v (List.mem_of_mem_take hv)) (by rw [hm1]; omega)
            rw [hm1] at q2 q3
            exact ⟨_, _, run_copy ht i1 (t' := t') (ty := ty) hread (by simpa using q1), g, q2, q3, .v rfl⟩
      · simp at h
    · simp at h
  · simp at h
theorem bytesOf_rep {w : World} {B : Nat → Prop} {g : Nat → Gh} : ∀ {l : List SV} {vs : List Value} {bs : List UInt8}, RepL w B g l vs → bytesOf l = some bs →
    ∃ ns : List Int, vs = ns.map (Value.int .u8) ∧ bs = ns.map fun n => UInt8.ofNat n.toNat := by
  intro l
  induction l with
  | nil =>
    intro vs bs h hb
    have := h.1
    simp only [bytesOf, Option.some.injEq] at hb
    subst hb
    cases vs with
    | nil => exact ⟨[], rfl, rfl⟩
    | cons => simp at this
  | cons x l ih =>
    intro vs bs h hb
    obtain ⟨v, vs', rfl, hv, hl⟩ := h.uncons
    unfold bytesOf at hb
    split at hb
    · simp_all
    · rename_i n xs e
      cases e
      obtain rfl := v_rep hv
      split at hb
      · rename_i r hr
        obtain rfl := Option.some.inj hb
        obtain ⟨ns, rfl, rfl⟩ := ih hl hr
        exact ⟨n :: ns, rfl, rfl⟩
      · simp at hb
    · simp at hb
theorem foldl_push (ns : List Int) : ∀ (s : ByteArray), ns.foldl (fun r n => r.push (UInt8.ofNat n.toNat)) s = ⟨(s.data.toList ++ ns.map fun n => UInt8.ofNat n.toNat).toArray⟩ := by
  induction ns with
  | nil => intro s; simp
  | cons n ns ih =>
    intro s
    rw [List.foldl_cons, ih]
    simp [ByteArray.push]
theorem run_stringToBytes_of (w : World) (e : Nat) (s : ByteArray) :
    ∃ cap, s.size ≤ cap ∧ ∃ w', (Conv.stringToBytes e s).run P w = .ok (.slice (some ⟨w.heap.size, 0, none⟩) s.size cap) w' ∧ SameOut w w' ∧ w'.heap.size = w.heap.size + 1 ∧ (∀ b, b < w.heap.size → w'.heap[b]? = w.heap[b]?) ∧
      w'.heap[w.heap.size]? = some (.cells (s.data.map (fun b => Value.int .u8 b.toNat) ++ Array.replicate (cap - s.size) (.int .u8 0)) e
        ((s.data.map (fun b => Value.int .u8 b.toNat) ++ Array.replicate (cap - s.size) (Value.int .u8 0)).size, (s.data.map (fun b => Value.int .u8 b.toNat) ++ Array.replicate (cap - s.size) (Value.int .u8 0)).size + 1)) := by
  refine ⟨grownCap w s.size 0 e, by unfold grownCap; simp only [Question.cut]; omega, ?_⟩
  refine ⟨(w.drew.alloc (.cells (s.data.map (fun b => Value.int .u8 b.toNat) ++ Array.replicate (grownCap w s.size 0 e - s.size) (.int .u8 0)) e)).freeze
    ⟨w.heap.size, (s.data.map (fun b => Value.int .u8 b.toNat) ++ Array.replicate (grownCap w s.size 0 e - s.size) (Value.int .u8 0)).size, none⟩ 1, ?_, ⟨rfl, rfl, rfl⟩, ?_, ?_, ?_⟩
  · have hsh : (w.drew.alloc (.cells (s.data.map (fun b => Value.int .u8 b.toNat) ++ Array.replicate (grownCap w s.size 0 e - s.size) (.int .u8 0)) e)).shape? w.heap.size =
        some (e, (s.data.map (fun b => Value.int .u8 b.toNat) ++ Array.replicate (grownCap w s.size 0 e - s.size) (Value.int .u8 0)).size) := by
      have := heap_alloc_new w.drew (.cells (s.data.map (fun b => Value.int .u8 b.toNat) ++ Array.replicate (grownCap w s.size 0 e - s.size) (.int .u8 0)) e)
      simp only [World.size_drew] at this
      simp only [World.shape?, this]
    simp only [grownCap] at hsh ⊢
    simp [Conv.stringToBytes, Question.forced, newRow, markStringish, hsh]
  · simp [World.freeze, -World.alloc_eq]
  · intro b hb
    simp only [World.freeze, Nat.one_ne_zero, if_false, Array.getElem?_modify]
    rw [if_neg (by omega)]
    exact heap_alloc_lt w.drew _ b hb
  · have := heap_alloc_new w.drew (.cells (s.data.map (fun b => Value.int .u8 b.toNat) ++ Array.replicate (grownCap w s.size 0 e - s.size) (.int .u8 0)) e)
    simp only [World.size_drew] at this
    simp only [World.freeze, Nat.one_ne_zero, if_false, Array.getElem?_modify, if_true, this]
    rfl
theorem conv_rep (hT : TabOk P T) {fr : Fr} {os os1 : List SO} {g : Nat → Gh} {w : World} (hm : Mem fr os g w) {src dst : Nat} {x y : SV} {xv : Value}
    (hx : RepV w (Bk fr os g w) g x xv) (h : convS T os src dst x = some (y, os1)) :
    ∃ v w', (convert src dst xv).run P w = .ok v w' ∧ Res fr os g w os1 y v w' := by
  unfold convS at h
  split at h
  · rename_i k k' kk n hu hu'
    obtain ⟨rfl, rfl⟩ := Prod.mk.inj (Option.some.inj h)
    obtain rfl := v_rep hx
    exact ⟨_, w, by simp [convert, run_underlying (hT.int src _ hu), run_underlying (hT.int dst _ hu'), Conv.intToInt], Res.same hm (.v rfl)⟩
  · rename_i e hu hu'
    split at h
    · rename_i l he hl
      split at h
      · rename_i bs hbs
        obtain ⟨rfl, rfl⟩ := Prod.mk.inj (Option.some.inj h)
        obtain ⟨xa, xc, rfl, hxc, hxr⟩ := elems_rep hm hx hl
        refine ⟨.string ⟨bs.toArray⟩, w, ?_, Res.same hm (.v rfl)⟩
        rw [run_convert_bytes_string w src dst e xa _ _ (hT.slice src e hu) (hT.int e _ he) (hT.str dst hu')]
        cases xa with
        | none =>
          rcases hxr with rfl | ⟨b, o, vs, h1, _⟩
          · simp only [bytesOf, Option.some.injEq] at hbs
            subst hbs
            rfl
          · simp at h1
        | some a =>
          have hload : ∃ ns : List Int, (loadCells a l.length).run P w = .ok (ns.map (Value.int .u8)).toArray w ∧ bs = ns.map fun n => UInt8.ofNat n.toNat := by
            rcases hxr with rfl | ⟨b, o, vs, h1, h2, h3, h4⟩
            · simp only [bytesOf, Option.some.injEq] at hbs
              subst hbs
              exact ⟨[], rfl, rfl⟩
            · cases h1
              obtain ⟨ns, rfl, rfl⟩ := bytesOf_rep h2 hbs
              refine ⟨ns, ?_, rfl⟩
              have hf : flatV (ns.map (Value.int .u8)) = ns.map (Value.int .u8) := by
                clear h2 h3 h4 hbs
                induction ns with
                | nil => rfl
                | cons n ns ih => simp only [flatV, List.map_cons, List.flatMap_cons] at ih ⊢; rw [ih (by first | exact trivial | simp_all)]; rfl
              have := run_loadCells_list (P := P) w ⟨b, o, none⟩ (ns.map (Value.int .u8)) (fun j v hj => by rw [Addr.add_lit]; rw [hf] at h4; exact h4 j v hj)
              rw [h2.1]
              exact this
          obtain ⟨ns, hl', rfl⟩ := hload
          rw [run_bytesToString w a _ _ ns hl', foldl_push]
          simp
      · simp at h
    · simp at h
  · rename_i e s hu hu'
    split at h
    · rename_i he
      obtain ⟨rfl, rfl⟩ := Prod.mk.inj (Option.some.inj h)
      obtain rfl := v_rep hx
      obtain ⟨cap, hcap, w', hrun, hso, hsz, hold, hnew⟩ := run_stringToBytes_of (P := P) w e s
      have hl : RepL w (Bk fr os g w) G0 (s.data.toList.map byteSV) (s.data.toList.map fun b => Value.int .u8 b.toNat) :=
        ⟨by simp, fun i x v h1 h2 => by
          rw [List.getElem?_map] at h1 h2
          obtain ⟨b, hb, rfl⟩ := Option.map_eq_some_iff.1 h1
          rw [hb] at h2
          obtain rfl := Option.some.inj h2
          exact .v rfl⟩
      have hel : ∀ v : Value, v ∈ (s.data.toList.map fun b => Value.int .u8 b.toNat) → ElOK 1 v := fun v hv => by
        obtain ⟨b, _, rfl⟩ := List.mem_map.1 hv
        exact ⟨rfl, fun c hc => by simp [Value.cells] at hc; subst hc; rfl⟩
      have hf : flatV (s.data.toList.map fun b => Value.int .u8 b.toNat) = s.data.toList.map fun b => Value.int .u8 b.toNat := by
        generalize s.data.toList = q
        induction q with
        | nil => rfl
        | cons n ns ih => simp only [flatV, List.map_cons, List.flatMap_cons] at ih ⊢; rw [ih]; rfl
      have hx0 : ∀ c, (Gh.blk w.heap.size 1 (s.data.toList.map byteSV).length cap).has c → w.heap.size ≤ c ∧ c < w'.heap.size := fun c hc => by
        simp only [Gh.has] at hc
        subst hc
        exact ⟨Nat.le_refl _, by omega⟩
      have hn : upd g os.length (.blk w.heap.size 1 (s.data.toList.map byteSV).length cap) os.length = .blk w.heap.size 1 (s.data.toList.map byteSV).length cap := by unfold upd; rw [if_pos rfl]
      have hg := (push_chg hm hso (.arr false 1 (s.data.toList.map byteSV)) _ (by omega) hold hx0).grow
      have hss : s.size = s.data.toList.length := by rw [Array.length_toList]; rfl
      refine ⟨_, w', by simp only [convert, Sem.run_bind, run_underlying (hT.str src hu), run_underlying (hT.slice dst e hu'), run_underlying (hT.int e _ he), Result.andThen_ok]; exact hrun, _, push_mem hm hso _ _ (by omega) hold hx0 ?_, hg, ?_⟩
      · refine .inr ⟨w.heap.size, cap, s.data.toList.map fun b => Value.int .u8 b.toNat, hn, by rw [List.length_map, ← hss]; exact hcap, hl.mono hg.sub hg.same (fun _ h => absurd rfl h), hel, ?_, ?_⟩
        · rw [hf]
          intro k v hk
          simp only [World.cell?, hnew, Nat.zero_add]
          simp only [Option.isSome_none, Bool.false_eq_true, if_false]
          rw [Array.getElem?_append_left (by have := lt_of_getElem? hk; simpa using this)]
          simpa using hk
        · refine ⟨_, _, _, hnew, ?_, fun o ho hc => ?_, fun h => absurd rfl h⟩
          · rw [Array.size_append, Array.size_map, Array.size_replicate]
            show cap * 1 ≤ s.size + (cap - s.size)
            omega
          · have h1 := hc.1
            exact absurd ho (Nat.not_lt.2 h1)
      · have := fun W => RepV.osl (w := W) (B := Bk fr (os ++ [.arr false 1 (s.data.toList.map byteSV)]) (upd g os.length (.blk w.heap.size 1 (s.data.toList.map byteSV).length cap)) W) hn
        have h2 := this w'
        rw [List.length_map, ← hss] at h2
        simpa [List.length_map, ← hss] using h2
    · simp at h
  · rename_i s hu hu'
    obtain ⟨rfl, rfl⟩ := Prod.mk.inj (Option.some.inj h)
    obtain rfl := v_rep hx
    exact ⟨_, w, by simp [convert, run_underlying (hT.str src hu), run_underlying (hT.str dst hu')], Res.same hm (.v rfl)⟩
  · simp at h
end Go.Proofs.Ytikennabfbkdhaa
