/- The evaluator S and what it says of functions: Sj, Sk, Sl, Sm, Sn, So. -/
import Derived.Test.YtebaiioejagfoaaGreatDoorSi
import Derived.Laws.AppendOwn
import Derived.Laws.BytesString
/- The evaluator S: slice literals, make, append, copy. -/
namespace Go.Proofs.YtebaiioejagfoaaGreatDoor
open Go
set_option linter.unusedVariables false
set_option linter.unusedSimpArgs false
variable {P : Program} {T : Tab}
theorem fill_dense (sz : Nat) : ∀ (qs : List (Nat × Value)) (done : List Value) (rest : List Value) (n : Nat), qs.map (·.1) = List.range' done.length n → (∀ q, q ∈ qs → ElOK sz q.2) → (∀ v : Value, v ∈ done → ElOK sz v) →
    rest.length = qs.length * sz → Instr.fill (fun i => some (i * sz, sz)) (flatV done ++ rest).toArray qs = some (flatV (done ++ qs.map (·.2))).toArray := by
  intro qs
  induction qs with
  | nil =>
    intro done rest n h1 h2 h3 h4
    obtain rfl : rest = [] := by simpa using h4
    simp [Instr.fill]
  | cons q qs ih =>
    intro done rest n h1 h2 h3 h4
    obtain ⟨k, v⟩ := q
    have hv : v.cells.size = sz := (h2 (k, v) (by simp)).1
    cases n with
    | zero => simp at h1
    | succ n =>
      rw [List.range'_succ] at h1
      simp only [List.map_cons, List.cons.injEq] at h1
      obtain ⟨hk, h1⟩ := h1
      subst hk
      have hdl := flatV_length h3
      simp only [List.length_cons, Nat.succ_mul] at h4
      rw [fill_step _ _ done.length (done.length * sz) v qs (by rw [hv]) (by simp [hdl, hv]; omega)]
      have e : ((flatV done ++ rest).toArray.toList.take (done.length * sz) ++ v.cells.toList ++ (flatV done ++ rest).toArray.toList.drop (done.length * sz + v.cells.size)) =
          flatV (done ++ [v]) ++ rest.drop sz := by
        simp only [flatV_append]
        rw [List.take_left' hdl, hv, ← List.drop_drop, List.drop_left' hdl]
        simp [flatV]
      rw [e]
      have := ih (done ++ [v]) (rest.drop sz) n (by simpa using h1) (fun q hq => h2 q (by simp [hq])) (fun u hu => by
        rcases List.mem_append.1 hu with hu | hu
        · exact h3 u hu
        · simp at hu; subst hu; exact h2 (done.length, u) (by simp)) (by simp; omega)
      rw [this]
      simp
theorem buildSlice_rep (hT : TabOk P T) {fr : Fr} {os os1 : List SO} {g : Nat → Gh} {w : World} (hm : Mem fr os g w) {env : Env} {a : Act} (hs : Slots w (Bk fr os g w) g env a.tmps) {t n : Nat} {ps : Array (Nat × Operand)} {y : SV}
    (h : buildSliceS T os t n (ps.toList.map fun p => (p.1, ev env p.2)) = some (y, os1)) :
    ∃ v w', (Instr.buildSlice t n (ps.map fun (i, x) => (i, a.eval x))).run P w = .ok v w' ∧ Res fr os g w os1 y v w' := by
  unfold buildSliceS at h
  split at h
  · rename_i e hu
    split at h
    · rename_i i hi
      split at h
      · rename_i hc
        split at h
        · rename_i l os2 hl
          split at h
          · rename_i hall
            obtain ⟨rfl, rfl⟩ := Prod.mk.inj (Option.some.inj h)
            obtain ⟨info, z, d, i1, i2, i3, i4, i5, i6, i7, i8, i9⟩ := (hT.ti e i hi).ok
            have ht := hT.slice t e hu
            have hrl : RepL w (Bk fr os g w) g ((ps.toList.map fun p => (p.1, ev env p.2)).map (·.2)) (ps.toList.map fun p => a.eval p.2) := by
              simp only [List.map_map]
              refine ⟨by simp, fun k x v hx hv => ?_⟩
              rw [List.getElem?_map] at hx hv
              obtain ⟨p, hp, rfl⟩ := Option.map_eq_some_iff.1 hx
              rw [hp] at hv
              obtain rfl := Option.some.inj hv
              exact ev_rep hs p.2
            obtain ⟨m1, g1, r1, r2⟩ := pureL_rep _ hm hrl hl
            have hn : ps.toList.length = n := by
              have := congrArg List.length hc.1
              simpa using this
            have hll : l.length = n := by rw [r1.1]; simpa using hn
            have hsz : ∀ v : Value, v ∈ ps.toList.map (fun p => a.eval p.2) → ElOK i.size v := by
              intro v hv
              obtain ⟨k, hk, rfl⟩ := List.mem_iff_getElem.1 hv
              have hk' : k < l.length := by rw [r1.1]; exact hk
              have := List.all_eq_true.1 hall _ (List.getElem_mem hk')
              have h2 := r2 k l[k] _ (List.getElem?_eq_getElem hk') (List.getElem?_eq_getElem hk)
              rw [show l[k].cells.length = i.size by simpa using this] at h2
              exact h2
            obtain ⟨g2, m2, gr2, rr⟩ := push_arr m1 (l := l) (junk := []) (sz := i.size) (cap := n) r1 hsz (by omega) (by simp [flatV_length hsz]; rw [show ps.size = n by simpa using hn]) e
            simp only [List.append_nil, hll] at rr gr2 m2
            refine ⟨_, _, ?_, g2, m2, g1.trans gr2, rr⟩
            have hfill : ∀ Z : Array Value, Instr.fill (fun j => some (j * i.size, i.size)) ((Array.range (n * i.size)).map (fun j => Z[j % Z.size]!)) (ps.map fun (i, x) => (i, a.eval x)).toList =
                some (flatV (ps.toList.map fun p => a.eval p.2)).toArray := by
              intro Z
              have := fill_dense i.size (ps.toList.map fun p => (p.1, a.eval p.2)) [] ((Array.range (n * i.size)).map (fun j => Z[j % Z.size]!)).toList n
                (by simp only [List.length_nil, List.map_map]; rw [← List.range_eq_range', ← hc.1]; simp) (fun q hq => hsz q.2 (by
                  obtain ⟨p, hp, rfl⟩ := List.mem_map.1 hq
                  exact List.mem_map.2 ⟨p, hp, rfl⟩)) (fun v hv => by simp at hv) (by simp; rw [show ps.size = n by simpa using hn])
              simp only [flatV, List.flatMap_nil, List.nil_append, Array.toArray_toList, List.map_map] at this
              rw [Array.toList_map]
              exact this
            have hle : ¬ (n * i.size > 2 ^ 24) := by omega
            by_cases h0 : n * i.size = 0
            · have hf := hfill #[]
              rw [h0, Array.toList_map] at hf
              simp only [Instr.buildSlice, Sem.run_bind, run_underlying ht, Result.andThen_ok, run_size i1, i2, h0, if_true, Sem.run_pure, newRow, run_newObj, Array.toList_map]
              rw [if_neg (by omega)]
              simp only [Sem.run_bind, Sem.run_pure, Result.andThen_ok]
              rw [hf]
              rfl
            · have hf := hfill z.cells
              rw [Array.toList_map] at hf
              simp only [Instr.buildSlice, Sem.run_bind, run_underlying ht, Result.andThen_ok, run_size i1, i2, h0, if_false, run_zero i1 i4, Sem.run_pure, newRow, run_newObj, Array.toList_map]
              rw [if_neg hle]
              simp only [Sem.run_bind, Sem.run_pure, Result.andThen_ok, run_zero i1 i4]
              rw [hf]
              rfl
          · simp at h
        · simp at h
      · simp at h
    · simp at h
  · simp at h
theorem made_flat (z : Value) (c : Nat) (hz : 0 < z.cells.size) : (madeCells z.cells (c * z.cells.size)).toList = flatV (List.replicate c z) := by
  induction c with
  | zero => simp [madeCells, flatV]
  | succ c ih =>
    simp only [madeCells, Array.toList_map, Array.toList_range] at ih ⊢
    rw [Nat.succ_mul, List.range_add, List.map_append, ih, List.replicate_succ']
    simp only [flatV_append, List.map_map]
    congr 1
    simp only [flatV, List.flatMap_cons, List.flatMap_nil, List.append_nil]
    apply List.ext_getElem
    · simp
    · intro k h1 h2
      have hk : k < z.cells.size := by simpa using h1
      simp [Nat.mul_comm c, Nat.mod_eq_of_lt hk, hk]
theorem zeroP_rep {w : World} {B : Nat → Prop} : ∀ (zs : List ZK), RepL w B G0 (zeroP zs) (zs.map ZK.val) := by
  intro zs
  induction zs with
  | nil => exact RepL.nil
  | cons z zs ih =>
    by_cases hz : ∃ sz, z = .sl sz
    · obtain ⟨sz, rfl⟩ := hz
      exact RepL.cons .sl0 ih
    · have hz' : ∀ sz, z ≠ .sl sz := fun sz e => hz ⟨sz, e⟩
      have e : zeroP (z :: zs) = .v z.val :: zeroP zs := by
        cases z <;> first | rfl | exact absurd rfl (hz' _)
      rw [e]
      exact RepL.cons (.v (zk_scalar hz')) ih
theorem rep_replicate {w : World} {B : Nat → Prop} {g : Nat → Gh} {x : SV} {v : Value} (h : RepV w B g x v) (n : Nat) : RepL w B g (List.replicate n x) (List.replicate n v) := by
  refine ⟨by simp, fun i y c hy hc => ?_⟩
  have h1 := List.mem_of_getElem? hy
  have h2 := List.mem_of_getElem? hc
  rw [List.eq_of_mem_replicate h1, List.eq_of_mem_replicate h2]
  exact h
theorem make_rep (hT : TabOk P T) {fr : Fr} {os os1 : List SO} {g : Nat → Gh} {w : World} (hm : Mem fr os g w) {t : Nat} {n c y : SV} {nv cv : Value}
    (hn : RepV w (Bk fr os g w) g n nv) (hc : RepV w (Bk fr os g w) g c cv) (h : makeS T os t n c = some (y, os1)) :
    ∃ v w', (Instr.makeSlice t nv cv).run P w = .ok v w' ∧ Res fr os g w os1 y v w' := by
  unfold makeS at h
  split at h
  · rename_i e k n k' c hu
    obtain rfl := v_rep hn
    obtain rfl := v_rep hc
    split at h
    · rename_i i hi
      split at h
      · rename_i hcond
        obtain ⟨c1, c2, c3, c4⟩ := hcond
        split at h
        · rename_i zS hz
          obtain ⟨rfl, rfl⟩ := Prod.mk.inj (Option.some.inj h)
          obtain ⟨info, z, d, i1, i2, i3, i4, i5, i6, i7, i8, i9⟩ := (hT.ti e i hi).ok
          have ht := hT.slice t e hu
          obtain ⟨p1, p2⟩ := pack_rep hz (zeroP_rep (w := w) (B := Bk fr os g w) i.zero)
          have hzc : z.cells.size = i.size := by
            have : z.cells.toList.length = i.size := by rw [i5]; simpa using i9
            simpa using this
          have hzr : RepV w (Bk fr os g w) G0 zS z := by
            cases ha : i.agg with
            | true =>
              have := p1 ha
              obtain ⟨cs, rfl⟩ := i8.1 ha
              rw [← i5] at this
              simpa [Value.cells] using this
            | false =>
              obtain ⟨v, hv, hr⟩ := p2 ha
              rw [← i5, one_cells (i8.2 ha)] at hv
              simp at hv
              rw [hv]; exact hr
          have hz1 : ∀ c, c ∈ z.cells.toList → c.oneCell' = true := fun c hc => by rw [i5] at hc; obtain ⟨q, _, rfl⟩ := List.mem_map.1 hc; exact zk_one q
          have hlenz : (List.replicate n.toNat zS).length = n.toNat := by simp
          have hpos : c.toNat = n.toNat + (c.toNat - n.toNat) := by omega
          have hflat : (madeCells z.cells (c.toNat * i.size)).toList = flatV (List.replicate n.toNat z) ++ (madeCells z.cells (c.toNat * i.size)).toList.drop (n.toNat * i.size) := by
            by_cases h0 : 0 < z.cells.size
            · rw [← hzc, made_flat z c.toNat h0, hpos, ← List.replicate_append_replicate, flatV_append]
              have : (flatV (List.replicate n.toNat z)).length = n.toNat * z.cells.size := by
                rw [flatV_length (sz := z.cells.size) (fun v hv => by rw [List.eq_of_mem_replicate hv]; exact ⟨rfl, hz1⟩), List.length_replicate]
              rw [List.drop_left' this]
            · have e0 : i.size = 0 := by omega
              have e1 : z.cells = #[] := by
                have : z.cells.size = 0 := by omega
                exact Array.eq_empty_of_size_eq_zero this
              have e2 : flatV (List.replicate n.toNat z) = [] := by
                rw [← List.length_eq_zero_iff, flatV_length (sz := 0) (fun v hv => by rw [List.eq_of_mem_replicate hv]; exact ⟨by rw [e1]; rfl, hz1⟩)]; simp
              rw [e0, e2]; simp
          obtain ⟨g2, m2, gr2, rr⟩ := push_arr hm (l := List.replicate n.toNat zS) (junk := (madeCells z.cells (c.toNat * i.size)).toList.drop (n.toNat * i.size)) (sz := i.size) (cap := c.toNat) (rep_replicate hzr n.toNat)
            (fun v hv => by rw [List.eq_of_mem_replicate hv]; exact ⟨hzc, hz1⟩) (by simp; omega) (by rw [← hflat]; simp [size_madeCells]) e
          rw [← hflat, Array.toArray_toList] at rr gr2 m2
          rw [hlenz] at rr
          refine ⟨_, _, run_make w t e info z ht i1 i4 k k' n c c1 c2 (by rw [i3]; omega) (by omega), g2, ?_, ?_, ?_⟩
          all_goals (rw [i2]; first | exact m2 | exact gr2 | exact rr)
        · simp at h
      · simp at h
    · simp at h
  · simp at h
end Go.Proofs.YtebaiioejagfoaaGreatDoor

/- The evaluator S: append and copy. -/
namespace Go.Proofs.YtebaiioejagfoaaGreatDoor
open Go
set_option linter.unusedVariables false
set_option linter.unusedSimpArgs false
variable {P : Program} {T : Tab}
theorem move_chg {fr : Fr} {os : List SO} {g : Nat → Gh} {w w' : World} (hm : Mem fr os g w) (so : SameOut w w') {j : Nat} {lt : Bool} {sz : Nat} {l : List SV} (hj : os[j]? = some (.arr lt sz l)) (o : SO) (x : Gh) (hs : w.heap.size ≤ w'.heap.size)
    (hw : ∀ c, c < w.heap.size → ¬ (g j).has c → w'.heap[c]? = w.heap[c]?) (hx : ∀ c, x.has c → ((g j).has c ∨ w.heap.size ≤ c) ∧ c < w'.heap.size) :
    Chg fr os g w (os.set j .dead ++ [o]) (upd g os.length x) w' (fun c => (g j).has c) where
  out := so
  size := hs
  same c hc hne := hw c hc hne
  only c hc := ⟨j, _, hj, rfl, hc⟩
  ext k hk := by
    unfold upd
    split
    · rename_i e; subst e; exact absurd (hm.fresh _ (Nat.le_refl _)) hk
    · rfl
  live c hc := by
    obtain ⟨k, o', hk, hl, hb⟩ := hc
    rcases getElem?_snoc _ _ _ _ hk with ⟨h1, h2⟩ | ⟨rfl, rfl⟩
    · have hg : upd g os.length x k = g k := by unfold upd; rw [if_neg (by simp at h1; omega)]
      rw [hg] at hb
      rw [List.getElem?_set] at h2
      split at h2
      · rename_i e
        subst e
        have : o' = .dead := by
          first
            | exact (Option.some.inj h2).symm
            | (split at h2 <;> first | exact (Option.some.inj h2).symm | simp at h2)
        subst this
        simp [SO.isLive] at hl
      · have : live os g c := ⟨k, o', h2, hl, hb⟩
        exact ⟨.inl this, Nat.lt_of_lt_of_le (hm.own c this).1 hs⟩
    · have hg : upd g os.length x (os.set j .dead).length = x := by unfold upd; rw [if_pos (by simp)]
      rw [hg] at hb
      obtain ⟨h1, h2⟩ := hx c hb
      exact ⟨h1.imp (fun h => ⟨j, _, hj, rfl, h⟩) id, h2⟩
theorem move_mem {fr : Fr} {os : List SO} {g : Nat → Gh} {w w' : World} (hm : Mem fr os g w) (so : SameOut w w') {j : Nat} {lt : Bool} {sz sz' : Nat} {l l' : List SV} (hj : os[j]? = some (.arr lt sz l)) (x : Gh) (hs : w.heap.size ≤ w'.heap.size)
    (hw : ∀ c, c < w.heap.size → ¬ (g j).has c → w'.heap[c]? = w.heap[c]?) (hx : ∀ c, x.has c → ((g j).has c ∨ w.heap.size ≤ c) ∧ c < w'.heap.size)
    (hok : ObjOK w' (Bk fr (os.set j .dead ++ [.arr lt sz' l']) (upd g os.length x) w') (upd g os.length x) os.length (.arr lt sz' l')) :
    Mem fr (os.set j .dead ++ [.arr lt sz' l']) (upd g os.length x) w' := by
  have hjl := lt_of_getElem? hj
  have hold : ∀ k, k < os.length → upd g os.length x k = g k := fun k hk => by unfold upd; rw [if_neg (by omega)]
  have hnew : upd g os.length x os.length = x := by unfold upd; rw [if_pos rfl]
  have back : ∀ {k : Nat} {o : SO}, (os.set j .dead ++ [.arr lt sz' l'])[k]? = some o → (k = j ∧ o = .dead) ∨ (k ≠ j ∧ k < os.length ∧ os[k]? = some o) ∨ (k = os.length ∧ o = .arr lt sz' l') := by
    intro k o hk
    rcases getElem?_snoc _ _ _ _ hk with ⟨h1, h2⟩ | ⟨h1, h2⟩
    · rw [List.getElem?_set] at h2
      split at h2
      · rename_i e
        subst e
        refine .inl ⟨rfl, ?_⟩
        first
          | exact (Option.some.inj h2).symm
          | (split at h2 <;> first | exact (Option.some.inj h2).symm | simp at h2)
      · rename_i e
        exact .inr (.inl ⟨fun h => e h.symm, by simpa using h1, h2⟩)
    · exact .inr (.inr ⟨by simpa using h1, h2⟩)
  have hlt : ∀ {i : Nat} {oi : SO} {b : Nat}, os[i]? = some oi → oi.isLive = true → (g i).has b → b < w.heap.size := fun h1 h2 h3 => (hm.own _ ⟨_, _, h1, h2, h3⟩).1
  refine (move_chg hm so hj _ x hs hw hx).mem hm ?_ ?_ ?_ ?_
  · intro k o hk
    rcases back hk with ⟨rfl, rfl⟩ | ⟨h1, h2, h3⟩ | ⟨rfl, rfl⟩
    · exact .inr trivial
    · exact .inl ⟨h3, fun c hl hc e => h1 (hm.inj k j o _ c h3 hj hl rfl hc e)⟩
    · exact .inr hok
  · intro k hk
    simp at hk
    unfold upd
    rw [if_neg (by omega)]
    exact hm.fresh k (by omega)
  · intro i k oi ok c hi hk li lk bi bk
    rcases back hi with ⟨rfl, rfl⟩ | ⟨i1, i2, i3⟩ | ⟨rfl, rfl⟩
    · simp [SO.isLive] at li
    · rcases back hk with ⟨rfl, rfl⟩ | ⟨k1, k2, k3⟩ | ⟨rfl, rfl⟩
      · simp [SO.isLive] at lk
      · rw [hold i i2] at bi; rw [hold k k2] at bk; exact hm.inj i k oi ok c i3 k3 li lk bi bk
      · rw [hold i i2] at bi; rw [hnew] at bk
        rcases (hx c bk).1 with h | h
        · exact absurd (hm.inj i j oi _ c i3 hj li rfl bi h) i1
        · have := hlt i3 li bi; omega
    · rcases back hk with ⟨rfl, rfl⟩ | ⟨k1, k2, k3⟩ | ⟨rfl, rfl⟩
      · simp [SO.isLive] at lk
      · rw [hnew] at bi; rw [hold k k2] at bk
        rcases (hx c bi).1 with h | h
        · exact absurd (hm.inj k j ok _ c k3 hj lk rfl bk h) k1
        · have := hlt k3 lk bk; omega
      · rfl
  · intro k sz'' l'' c hk hc
    rcases back hk with ⟨rfl, e⟩ | ⟨k1, k2, k3⟩ | ⟨rfl, e⟩
    · cases e
    · rw [hold k k2] at hc; exact hm.mine k sz'' l'' c k3 hc
    · cases e
      rw [hnew] at hc
      rcases (hx c hc).1 with h | h
      · exact hm.mine j sz l c hj h
      · exact Nat.le_trans hm.size h
theorem firstCells_of {w : World} {B : Nat → Prop} {l : List SV} {sz : Nat} {a : Option Addr} {c : Nat}
    (h : l = [] ∨ ∃ b o vs, a = some ⟨b, o, none⟩ ∧ RepL w B G0 l vs ∧ (∀ v : Value, v ∈ vs → ElOK sz v) ∧ CellsAt w b o (flatV vs)) :
    ∃ vs, RepL w B G0 l vs ∧ (∀ v : Value, v ∈ vs → ElOK sz v) ∧ ∀ w' : World, w'.heap = w.heap → ∀ n, n ≤ l.length → ∀ len,
      (Builtin.firstCells sz n (.slice a len c)).run P w' = .ok (flatV (vs.take n)).toArray w' := by
  rcases h with rfl | ⟨b, o, vs, rfl, h1, h2, h3⟩
  · refine ⟨[], RepL.nil, fun v hv => by simp at hv, fun w' hw n hn len => ?_⟩
    obtain rfl : n = 0 := by simpa using hn
    cases a <;> simp [Builtin.firstCells, loadCells, loadCellsFrom, flatV]
  · refine ⟨vs, h1, h2, fun w' hw n hn len => ?_⟩
    have hlen : (flatV (vs.take n)).length = n * sz := by
      rw [flatV_length (fun v hv => h2 v (List.mem_of_mem_take hv)), List.length_take, Nat.min_eq_left (by rw [← h1.1]; exact hn)]
    refine run_firstCells_some w' sz n ⟨b, o, none⟩ len c _ hlen fun k v hk => ?_
    rw [Addr.add_lit, cell?_heap (show w'.heap[b]? = w.heap[b]? by rw [hw])]
    have := h3.take (n * sz)
    rw [flatV_take h2] at this
    exact this k v hk
theorem run_append_in {t t' ty e e' : Nat} {info : TypeInfo} (ht : P.underlying t = some (.slice e)) (ht' : P.underlying t' = some (.slice e')) (hi : P.info? e = some info) {w w' : World} {base xa : Option Addr} {sLen sCap n xc : Nat}
    (hfit : sLen + n ≤ sCap) {new : Array Value} (hx : (Builtin.firstCells info.size n (.slice xa n xc)).run P w = .ok new w)
    (hst : match base with | some a => (storeCells (a.add (sLen * info.size)) new.toList).run P w = .ok () w' | none => w' = w) :
    (Builtin.append_ #[t, t'] ty #[.slice base sLen sCap, .slice xa n xc]).run P w = .ok (.slice base (sLen + n) sCap) w' := by
  cases base with
  | none =>
    simp only at hst
    subst hst
    simp [Builtin.append_, run_underlying ht, run_underlying ht', run_size hi, Builtin.lenOf, hfit, hx]
  | some a =>
    simp only at hst
    simp [Builtin.append_, run_underlying ht, run_underlying ht', run_size hi, Builtin.lenOf, hfit, hx, hst]
theorem run_append_new {t t' ty e e' : Nat} {info : TypeInfo} {z : Value} (ht : P.underlying t = some (.slice e)) (ht' : P.underlying t' = some (.slice e')) (hi : P.info? e = some info) (hz : info.zero = some z) {w : World} {base xa : Option Addr} {sLen sCap n xc : Nat}
    (hfit : ¬ sLen + n ≤ sCap) (hb : 0 < info.bytes) (hl : info.bytes * (sLen + n) ≤ 2 ^ 47) {old new : Array Value} (hx : (Builtin.firstCells info.size n (.slice xa n xc)).run P w.drew = .ok new w.drew)
    (hs : (Builtin.firstCells info.size sLen (.slice base sLen sCap)).run P w.drew = .ok old w.drew) :
    ∃ cap, sLen + n ≤ cap ∧ (Builtin.append_ #[t, t'] ty #[.slice base sLen sCap, .slice xa n xc]).run P w =
      .ok (.slice (some ⟨w.heap.size, 0, none⟩) (sLen + n) cap) (w.drew.alloc (.cells (old ++ new ++ Builtin.zeroCells z.cells (cap - (sLen + n))) e)) := by
  have h1 : sLen + n ≤ info.bytes * (sLen + n) := Nat.le_mul_of_pos_left _ hb
  have h2 := nextslicecap_le (need := sLen + n) (old := sCap) (by omega)
  have h3 : Builtin.nextslicecap (sLen + n) sCap * info.bytes ≤ 2 ^ 48 := by
    have := Nat.mul_le_mul_right info.bytes h2
    rw [Nat.mul_assoc, Nat.mul_comm (sLen + n)] at this
    omega
  have e1 : ¬ ((((sLen + n : Nat) : Int)) > IntKind.i64.max ∧ (False ∨ info.bytes = 0)) := by simp; omega
  have e2 : ¬ (Builtin.nextslicecap (sLen + n) sCap * info.bytes > 2 ^ 48) := by omega
  refine ⟨grownCap w (sLen + n) sCap e, by unfold grownCap; simp only [Question.cut]; omega, ?_⟩
  have e3 : ¬ (281474976710656 < Builtin.nextslicecap (sLen + n) sCap * info.bytes) := by omega
  have e4 : ¬ info.bytes = 0 := by omega
  simp [Builtin.append_, run_underlying ht, run_underlying ht', run_size hi, run_info hi, Builtin.lenOf, hfit, e3, e4, Question.forced, hx, hs, run_zero hi hz, newRow, grownCap, -Array.append_assoc]
theorem append_rep (hT : TabOk P T) {fr : Fr} {os os1 : List SO} {g : Nat → Gh} {w : World} (hm : Mem fr os g w) {t t' ty : Nat} {s x y : SV} {sv xv : Value}
    (hs : RepV w (Bk fr os g w) g s sv) (hx : RepV w (Bk fr os g w) g x xv) (h : appendS T os t t' s x = some (y, os1)) :
    ∃ v w', (Builtin.append_ #[t, t'] ty #[sv, xv]).run P w = .ok v w' ∧ Res fr os g w os1 y v w' := by
  unfold appendS at h
  split at h
  · rename_i e e' j hu hu'
    split at h
    · rename_i i lt sz l sz' r hi hj hr
      split at h
      · rename_i hc
        obtain ⟨rfl, rfl, c3, c4⟩ := hc
        obtain ⟨rfl, rfl⟩ := Prod.mk.inj (Option.some.inj h)
        obtain ⟨info, z, d, i1, i2, i3, i4, i5, i6, i7, i8, i9⟩ := (hT.ti e i hi).ok
        have ht := hT.slice t e hu
        have ht' := hT.slice t' e' hu'
        have hzc : z.cells.size = i.size := by
          have : z.cells.toList.length = i.size := by rw [i5]; simpa using i9
          simpa using this
        obtain ⟨xa, xc, rfl, hxc, hxr⟩ := elems_rep hm hx hr
        obtain ⟨us, u1, u2, u3⟩ := firstCells_of (P := P) (c := xc) hxr
        have hus : us.take r.length = us := List.take_of_length_le (by rw [u1.1]; exact Nat.le_refl _)
        have hbase : ∃ base cap vs, sv = .slice base l.length cap ∧ l.length ≤ cap ∧ RepL w (Bk fr os g w) G0 l vs ∧ (∀ v : Value, v ∈ vs → ElOK i.size v) ∧
            ((base = none ∧ l = [] ∧ cap = 0 ∧ g j = .nil) ∨ ∃ b, base = some ⟨b, 0, none⟩ ∧ g j = .blk b i.size l.length cap ∧ CellsAt w b 0 (flatV vs) ∧ Room w b (cap * i.size) i.size) := by
          rcases hm.objs _ _ hj with ⟨rfl, hn⟩ | ⟨b, cap, vs, e1, e2, e3, e4, e5, e6⟩
          · cases hs with
            | osl0 => exact ⟨none, 0, [], rfl, Nat.le_refl _, RepL.nil, fun v hv => by simp at hv, .inl ⟨rfl, rfl, rfl, hn⟩⟩
            | osln hq9 => exfalso; first | (rw [hn] at hq9; cases hq9) | (rw [e1] at hq9; cases hq9) | (rw [hg] at hq9; cases hq9) | (rw [h1] at hq9; cases hq9) | (simp_all; done)
            | osl hg => rw [hn] at hg; cases hg
          · cases hs with
            | osl0 hg => rw [e1] at hg; cases hg
            | osln hq9 => exfalso; first | (rw [hn] at hq9; cases hq9) | (rw [e1] at hq9; cases hq9) | (rw [hg] at hq9; cases hq9) | (rw [h1] at hq9; cases hq9) | (simp_all; done)
            | osl hg => rw [e1] at hg; cases hg; exact ⟨_, _, vs, rfl, e2, e3, e4, .inr ⟨b, rfl, e1, e5, e6⟩⟩
        obtain ⟨base, cap, vs, rfl, b1, b2, b3, b4⟩ := hbase
        have hlv : vs.length = l.length := b2.1.symm
        have hallsz : ∀ v : Value, v ∈ vs ++ us → ElOK i.size v := fun v hv => by
          rcases List.mem_append.1 hv with hv | hv
          · exact b3 v hv
          · exact u2 v hv
        by_cases hfit : l.length + r.length ≤ cap
        · -- there is room
          rcases b4 with ⟨rfl, rfl, rfl, hn⟩ | ⟨b, rfl, e1, e5, e6⟩
          · have hr0 : r = [] := by rw [← List.length_eq_zero_iff]; simpa using hfit
            subst hr0
            have hx0 : ∀ c, Gh.nil.has c → ((g j).has c ∨ w.heap.size ≤ c) ∧ c < w.heap.size := fun c hc => by simp [Gh.has] at hc
            have hnew : upd g os.length .nil os.length = .nil := by unfold upd; rw [if_pos rfl]
            have hg := (move_chg hm (SameOut.refl _) hj (.arr lt i.size ([] ++ [])) .nil (Nat.le_refl _) (fun _ _ _ => rfl) hx0).grow
            have hrun := run_append_in (P := P) (ty := ty) ht ht' i1 (w := w) (w' := w) (base := none) (sLen := 0) (sCap := 0) (xc := xc) hfit (by rw [i2]; exact u3 w rfl _ (Nat.le_refl _) _) rfl
            exact ⟨_, _, hrun, _, move_mem hm (SameOut.refl _) hj .nil (Nat.le_refl _) (fun _ _ _ => rfl) hx0 (.inl ⟨rfl, hnew⟩), hg, .osl0 hnew⟩
          · have hrun := run_append_in (P := P) (ty := ty) ht ht' i1 (w := w) (w' := w.setCells b (l.length * i.size) (flatV us)) (base := some ⟨b, 0, none⟩) (sLen := l.length) (sCap := cap) (xc := xc) hfit (by rw [i2]; exact u3 w rfl _ (Nat.le_refl _) _)
              (by
                simp only [i2, Addr.add_lit, Nat.zero_add, hus]
                refine run_stores e6 ?_ ?_
                · rw [flatV_length u2, ← u1.1, ← Nat.add_mul]; exact Nat.mul_le_mul_right _ hfit
                · intro v hv; obtain ⟨u, hu, hv⟩ := List.mem_flatMap.1 hv; exact (u2 u hu).2 v hv)
            have hs' := size_setCells b (flatV us) (l.length * i.size) w
            have hblk : (g j).has b := by rw [e1]; rfl
            have hw : ∀ c, c < w.heap.size → ¬ (g j).has c → (w.setCells b (l.length * i.size) (flatV us)).heap[c]? = w.heap[c]? := fun c _ hc => heap_setCells_ne b c (fun e => hc (by rw [← e]; exact hblk)) _ _ _
            have hlive : live os g b := ⟨j, _, hj, rfl, hblk⟩
            have hx0 : ∀ c, (Gh.blk b i.size (l ++ r).length cap).has c → ((g j).has c ∨ w.heap.size ≤ c) ∧ c < (w.setCells b (l.length * i.size) (flatV us)).heap.size := fun c hc => by
              simp only [Gh.has] at hc
              subst hc
              exact ⟨.inl hblk, by rw [hs']; exact (hm.own b hlive).1⟩
            have hnew : upd g os.length (.blk b i.size (l ++ r).length cap) os.length = .blk b i.size (l ++ r).length cap := by unfold upd; rw [if_pos rfl]
            have hg := (move_chg hm (out_setCells _ _ _ _) hj (.arr lt i.size (l ++ r)) _ (by omega) hw hx0).grow
            refine ⟨_, _, hrun, _, move_mem hm (out_setCells _ _ _ _) hj _ (by omega) hw hx0 (.inr ⟨b, cap, vs ++ us, hnew, by simpa using hfit, ?_, hallsz, ?_, room_setCells e6 _ _⟩), hg, ?_⟩
            · exact (b2.append u1).mono hg.sub hg.same (fun _ h => absurd rfl h)
            · have hlen : (flatV vs).length = l.length * i.size := by rw [flatV_length b3, hlv]
              have := cells_setCells (o := l.length * i.size) (vs := flatV us) e6 e5 (by omega) (by rw [flatV_length u2, ← u1.1, ← Nat.add_mul]; exact Nat.mul_le_mul_right _ hfit)
              rw [List.take_of_length_le (by omega), List.drop_eq_nil_of_le (by omega), List.append_nil, ← flatV_append] at this
              exact this
            · have := RepV.osl (w := w.setCells b (l.length * i.size) (flatV us)) (B := Bk fr (os.set j .dead ++ [.arr lt i.size (l ++ r)]) (upd g os.length (.blk b i.size (l ++ r).length cap)) (w.setCells b (l.length * i.size) (flatV us))) hnew
              simpa using this
        · -- a new array
          have hvs : ∀ w' : World, w'.heap = w.heap → (Builtin.firstCells i.size l.length (.slice base l.length cap)).run P w' = .ok (flatV vs).toArray w' := by
            intro w' hw'
            obtain ⟨vs', p1, p2, p3⟩ := firstCells_of (P := P) (w := w) (B := Bk fr os g w) (l := l) (sz := i.size) (a := base) (c := cap) (by
              rcases b4 with ⟨rfl, rfl, rfl, hn⟩ | ⟨b, rfl, e1, e5, e6⟩
              · exact .inl rfl
              · exact .inr ⟨b, 0, vs, rfl, b2, b3, e5⟩)
            rcases b4 with ⟨rfl, rfl, rfl, hn⟩ | ⟨b, rfl, e1, e5, e6⟩
            · have : vs = [] := by rw [← List.length_eq_zero_iff]; simpa using hlv
              subst this
              simp [Builtin.firstCells, flatV]
            · have hlen : (flatV vs).length = l.length * i.size := by rw [flatV_length b3, hlv]
              refine run_firstCells_some w' i.size l.length ⟨b, 0, none⟩ _ _ _ hlen fun k v hk => ?_
              rw [Addr.add_lit, cell?_heap (show w'.heap[b]? = w.heap[b]? by rw [hw'])]
              exact e5 k v hk
          obtain ⟨cap', hcap, hrun⟩ := run_append_new (P := P) (ty := ty) ht ht' i1 i4 (w := w) (base := base) (xa := xa) (sLen := l.length) (sCap := cap) (n := r.length) (xc := xc) hfit (by rw [i3]; exact c4) (by rw [i3]; exact c3)
            (by rw [i2]; exact u3 w.drew rfl _ (Nat.le_refl _) _) (by rw [i2]; exact hvs w.drew rfl)
          rw [hus] at hrun
          have hnew : upd g os.length (.blk w.heap.size i.size (l ++ r).length cap') os.length = .blk w.heap.size i.size (l ++ r).length cap' := by unfold upd; rw [if_pos rfl]
          have hx0 : ∀ (o : Obj), ∀ c, (Gh.blk w.heap.size i.size (l ++ r).length cap').has c → ((g j).has c ∨ w.heap.size ≤ c) ∧ c < (w.drew.alloc o).heap.size := fun o c hc => by
            simp only [Gh.has] at hc
            subst hc
            exact ⟨.inr (Nat.le_refl _), by simp⟩
          have hs' : ∀ (o : Obj), w.heap.size ≤ (w.drew.alloc o).heap.size := fun o => by simp
          have hw : ∀ (o : Obj), ∀ c, c < w.heap.size → ¬ (g j).has c → (w.drew.alloc o).heap[c]? = w.heap[c]? := fun o c hc _ => heap_alloc_lt w.drew o c hc
          have hg := fun o => (move_chg hm (out_drew w o) hj (.arr lt i.size (l ++ r)) _ (hs' o) (hw o) (hx0 o)).grow
          refine ⟨_, _, hrun, _, move_mem hm (out_drew w _) hj _ (hs' _) (hw _) (hx0 _) (.inr ⟨w.heap.size, cap', vs ++ us, hnew, by simpa using hcap, ?_, hallsz, ?_, ?_⟩), hg _, ?_⟩
          · exact (b2.append u1).mono (hg _).sub (hg _).same (fun _ h => absurd rfl h)
          · have := (cells_alloc_new w.drew ((flatV vs).toArray ++ (flatV us).toArray ++ Builtin.zeroCells z.cells (cap' - (l.length + r.length))) e).take (flatV (vs ++ us)).length
            simp only [World.size_drew, Array.toList_append, flatV_append] at this ⊢
            rw [List.take_left'] at this
            · exact this
            · simp
          · refine room_alloc_new w.drew _ e _ ?_
            have h1 : (flatV vs).length = l.length * i.size := by rw [flatV_length b3, hlv]
            have h2 : (flatV us).length = r.length * i.size := by rw [flatV_length u2, u1.1]
            simp only [Array.size_append, List.size_toArray, h1, h2, size_zeroCells, hzc]
            rw [← Nat.add_mul, ← Nat.add_mul]
            exact Nat.mul_le_mul_right _ (by omega)
          · have := fun W => RepV.osl (w := W) (B := Bk fr (os.set j .dead ++ [.arr lt i.size (l ++ r)]) (upd g os.length (.blk w.heap.size i.size (l ++ r).length cap')) W) hnew
            simpa using this _
      · simp at h
    · simp at h
  · simp at h
end Go.Proofs.YtebaiioejagfoaaGreatDoor

/- The evaluator S: copy and conversions. -/
namespace Go.Proofs.YtebaiioejagfoaaGreatDoor
open Go
set_option linter.unusedVariables false
set_option linter.unusedSimpArgs false
variable {P : Program} {T : Tab}
theorem arr_rep {fr : Fr} {os : List SO} {g : Nat → Gh} {w : World} (hm : Mem fr os g w) {j sz : Nat} {lt : Bool} {l : List SV} {sv : Value} (hj : os[j]? = some (.arr lt sz l))
    (hs : RepV w (Bk fr os g w) g (.osl j) sv) :
    ∃ base cap vs, sv = .slice base l.length cap ∧ l.length ≤ cap ∧ RepL w (Bk fr os g w) G0 l vs ∧ (∀ v : Value, v ∈ vs → ElOK sz v) ∧
      ((base = none ∧ l = [] ∧ cap = 0 ∧ g j = .nil) ∨ ∃ b, base = some ⟨b, 0, none⟩ ∧ g j = .blk b sz l.length cap ∧ CellsAt w b 0 (flatV vs) ∧ Room w b (cap * sz) sz) := by
  rcases hm.objs _ _ hj with ⟨rfl, hn⟩ | ⟨b, cap, vs, e1, e2, e3, e4, e5, e6⟩
  · cases hs with
    | osl0 => exact ⟨none, 0, [], rfl, Nat.le_refl _, RepL.nil, fun v hv => by simp at hv, .inl ⟨rfl, rfl, rfl, hn⟩⟩
    | osln hq9 => exfalso; first | (rw [hn] at hq9; cases hq9) | (rw [e1] at hq9; cases hq9) | (rw [hg] at hq9; cases hq9) | (rw [h1] at hq9; cases hq9) | (simp_all; done)
    | osl hg => rw [hn] at hg; cases hg
  · cases hs with
    | osl0 hg => rw [e1] at hg; cases hg
    | osln hq9 => exfalso; first | (rw [hn] at hq9; cases hq9) | (rw [e1] at hq9; cases hq9) | (rw [hg] at hq9; cases hq9) | (rw [h1] at hq9; cases hq9) | (simp_all; done)
    | osl hg => rw [e1] at hg; cases hg; exact ⟨_, _, vs, rfl, e2, e3, e4, .inr ⟨b, rfl, e1, e5, e6⟩⟩
theorem set_same {os : List SO} {j : Nat} {o : SO} (h : os[j]? = some o) : os.set j o = os := by
  apply List.ext_getElem?
  intro k
  rw [List.getElem?_set]
  split
  · rename_i e
    subst e
    first
      | exact h.symm
      | (rw [if_pos (lt_of_getElem? h)]; exact h.symm)
  · rfl
theorem overwrite {fr : Fr} {os : List SO} {g : Nat → Gh} {w : World} (hm : Mem fr os g w) {j sz : Nat} {lt : Bool} {l r : List SV} {vs us : List Value} {b cap lo : Nat} (hj : os[j]? = some (.arr lt sz l))
    (e1 : g j = .blk b sz l.length cap) (e2 : l.length ≤ cap) (e3 : RepL w (Bk fr os g w) G0 l vs) (e4 : ∀ v : Value, v ∈ vs → ElOK sz v) (e5 : CellsAt w b 0 (flatV vs)) (e6 : Room w b (cap * sz) sz)
    (hr : RepL w (Bk fr os g w) G0 r us) (hu : ∀ v : Value, v ∈ us → ElOK sz v) (hle : lo + r.length ≤ l.length) :
    (storeCells ⟨b, lo * sz, none⟩ (flatV us)).run P w = .ok () (w.setCells b (lo * sz) (flatV us)) ∧
    Mem fr (os.set j (.arr lt sz (l.take lo ++ r ++ l.drop (lo + r.length)))) g (w.setCells b (lo * sz) (flatV us)) ∧
    Grow fr os g w (os.set j (.arr lt sz (l.take lo ++ r ++ l.drop (lo + r.length)))) g (w.setCells b (lo * sz) (flatV us)) := by
  have hul : (flatV us).length = r.length * sz := by rw [flatV_length hu, hr.1]
  have hvl : (flatV vs).length = l.length * sz := by rw [flatV_length e4, e3.1]
  have hmul : (lo + r.length) * sz ≤ l.length * sz := Nat.mul_le_mul_right _ hle
  have hmul2 : l.length * sz ≤ cap * sz := Nat.mul_le_mul_right _ e2
  rw [Nat.add_mul] at hmul
  have hb : (g j).has b := by rw [e1]; rfl
  have hs := size_setCells b (flatV us) (lo * sz) w
  have hw := fun c (hc : c ≠ b) => heap_setCells_ne b c (fun e => hc e.symm) (flatV us) (lo * sz) w
  have hg := (set_chg hm (out_setCells _ _ _ _) hj rfl hb (o' := .arr lt sz (l.take lo ++ r ++ l.drop (lo + r.length))) rfl hs hw).grow
  refine ⟨run_stores e6 (by omega) (fun v hv => by obtain ⟨u, hu', hv⟩ := List.mem_flatMap.1 hv; exact (hu u hu').2 v hv), set_mem hm (out_setCells _ _ _ _) hj rfl hb rfl (fun sz' l' e => by cases e; exact ⟨_, _, rfl⟩) hs hw ?_, hg⟩
  have hlen : (l.take lo ++ r ++ l.drop (lo + r.length)).length = l.length := by simp; omega
  refine .inr ⟨b, cap, vs.take lo ++ us ++ vs.drop (lo + us.length), by rw [hlen]; exact e1, by rw [hlen]; exact e2, ?_, ?_, ?_, room_setCells e6 _ _⟩
  · have := ((e3.take lo).append hr).append (e3.drop (lo + r.length))
    rw [← hr.1]
    exact this.mono hg.sub hg.same (fun _ h => absurd rfl h)
  · intro v hv
    simp only [List.mem_append] at hv
    rcases hv with (hv | hv) | hv
    · exact e4 v (List.mem_of_mem_take hv)
    · exact hu v hv
    · exact e4 v (List.mem_of_mem_drop hv)
  · have := cells_setCells (o := lo * sz) (vs := flatV us) e6 e5 (by omega) (by omega)
    rw [hul, ← Nat.add_mul, flatV_take e4, flatV_drop e4] at this
    rw [flatV_append, flatV_append, ← hr.1]
    exact this
theorem run_copy {t t' e ty : Nat} {info : TypeInfo} (ht : P.underlying t = some (.slice e)) (hi : P.info? e = some info) {w w' : World} {base xa : Option Addr} {dl dc n xc : Nat} {cells : Array Value}
    (hx : (Builtin.firstCells info.size (min n dl) (.slice xa n xc)).run P w = .ok cells w) (hst : match base with | some a => (storeCells a cells.toList).run P w = .ok () w' | none => w' = w) :
    (Builtin.copy_ #[t, t'] ty #[.slice base dl dc, .slice xa n xc]).run P w = .ok (.int .i64 ((min n dl : Nat) : Int)) w' := by
  cases base with
  | none =>
    simp only at hst
    subst hst
    simp [Builtin.copy_, run_underlying ht, run_size hi, Builtin.lenOf, hx, goInt]
  | some a =>
    simp only at hst
    simp [Builtin.copy_, run_underlying ht, run_size hi, Builtin.lenOf, hx, hst, goInt]
theorem copy_rep (hT : TabOk P T) {fr : Fr} {os os1 : List SO} {g : Nat → Gh} {w : World} (hm : Mem fr os g w) {t t' ty : Nat} {s x y : SV} {sv xv : Value}
    (hs : RepV w (Bk fr os g w) g s sv) (hx : RepV w (Bk fr os g w) g x xv) (h : copyS T os t s x = some (y, os1)) :
    ∃ v w', (Builtin.copy_ #[t, t'] ty #[sv, xv]).run P w = .ok v w' ∧ Res fr os g w os1 y v w' := by
  unfold copyS at h
  split at h
  · rename_i e j sz' r hu hr
    split at h
    · rename_i i lt sz l hi hj
      split at h
      · rename_i hc
        obtain ⟨rfl, rfl⟩ := hc
        obtain ⟨rfl, rfl⟩ := Prod.mk.inj (Option.some.inj h)
        obtain ⟨info, z, d, i1, i2, i3, i4, i5, i6, i7, i8, i9⟩ := (hT.ti e i hi).ok
        have ht := hT.slice t e hu
        obtain ⟨xa, xc, rfl, hxc, hxr⟩ := elems_rep hm hx hr
        obtain ⟨us, u1, u2, u3⟩ := firstCells_of (P := P) (c := xc) hxr
        obtain ⟨base, cap, vs, rfl, b1, b2, b3, b4⟩ := arr_rep hm hj hs
        have hread := u3 w rfl (min r.length l.length) (Nat.min_le_left _ _) r.length
        rw [← i2] at hread
        rcases b4 with ⟨rfl, rfl, rfl, hn⟩ | ⟨b, rfl, e1, e5, e6⟩
        · refine ⟨_, w, run_copy ht i1 (t' := t') (ty := ty) (w' := w) (dl := 0) (by simpa using hread) rfl, ?_⟩
          have e : (r.take (min r.length ([] : List SV).length) ++ ([] : List SV).drop (min r.length ([] : List SV).length)) = [] := by simp
          rw [e, set_same hj]
          exact Res.same hm (.v rfl)
        · have hm1 : (r.take (min r.length l.length)).length = min r.length l.length := by simp
          obtain ⟨q1, q2, q3⟩ := overwrite (P := P) (lo := 0) (r := r.take (min r.length l.length)) (us := us.take (min r.length l.length)) hm hj e1 b1 b2 b3 e5 e6 (u1.take _) (fun v hv => u2 v (List.mem_of_mem_take hv)) (by rw [hm1]; omega)
          rw [hm1] at q2 q3
          simp only [List.take_zero, List.nil_append, Nat.zero_add, Nat.zero_mul] at q1 q2 q3
          exact ⟨_, _, run_copy ht i1 (t' := t') (ty := ty) hread (by simpa using q1), g, q2, q3, .v rfl⟩
      · simp at h
    · simp at h
  · rename_i e j lo hi' sz' r hu hr
    split at h
    · rename_i i lt sz l hi hj
      split at h
      · rename_i hc
        obtain ⟨rfl, c1, c2, rfl⟩ := hc
        obtain ⟨rfl, rfl⟩ := Prod.mk.inj (Option.some.inj h)
        obtain ⟨info, z, d, i1, i2, i3, i4, i5, i6, i7, i8, i9⟩ := (hT.ti e i hi).ok
        have ht := hT.slice t e hu
        obtain ⟨xa, xc, rfl, hxc, hxr⟩ := elems_rep hm hx hr
        obtain ⟨us, u1, u2, u3⟩ := firstCells_of (P := P) (c := xc) hxr
        have hread := u3 w rfl (min r.length (hi' - lo)) (Nat.min_le_left _ _) r.length
        rw [← i2] at hread
        have hm1 : (r.take (min r.length (hi' - lo))).length = min r.length (hi' - lo) := by simp
        cases hs with
        | vw0 =>
          rename_i c a
          have hz : min r.length (lo - lo) = 0 := by simp
          rw [hz] at hread ⊢
          have e : (l.take lo ++ r.take 0 ++ l.drop (lo + 0)) = l := by simp
          rw [e, set_same hj]
          have hcells : flatV (us.take 0) = [] := by simp [flatV]
          rw [hcells] at hread
          have := run_copy (P := P) ht i1 (t' := t') (ty := ty) (w' := w) (base := a) (dl := 0) (dc := c) (n := r.length) (xa := xa) (xc := xc) (cells := #[]) (by simpa using hread) (by cases a <;> rfl)
          exact ⟨_, w, by simpa using this, Res.same hm (.v rfl)⟩
        | vw hg a1 a2 a3 =>
          rcases hm.objs _ _ hj with ⟨rfl, hn⟩ | ⟨b, cap, vs, e1, e2, e3, e4, e5, e6⟩
          · rw [hn] at hg; cases hg
          · rw [e1] at hg
            cases hg
            obtain ⟨q1, q2, q3⟩ := overwrite (P := P) (lo := lo) (r := r.take (min r.length (hi' - lo))) (us := us.take (min r.length (hi' - lo))) hm hj e1 e2 e3 e4 e5 e6 (u1.take _) (fun v hv => u2 v (List.mem_of_mem_take hv)) (by rw [hm1]; omega)
            rw [hm1] at q2 q3
            exact ⟨_, _, run_copy ht i1 (t' := t') (ty := ty) hread (by simpa using q1), g, q2, q3, .v rfl⟩
      · simp at h
    · simp at h
  · simp at h
theorem bytesOf_rep {w : World} {B : Nat → Prop} {g : Nat → Gh} : ∀ {l : List SV} {vs : List Value} {bs : List UInt8}, RepL w B g l vs → bytesOf l = some bs →
    ∃ ns : List Int, vs = ns.map (Value.int .u8) ∧ bs = ns.map fun n => UInt8.ofNat n.toNat := by
  intro l
  induction l with
  | nil =>
    intro vs bs h hb
    have := h.1
    simp only [bytesOf, Option.some.injEq] at hb
    subst hb
    cases vs with
    | nil => exact ⟨[], rfl, rfl⟩
    | cons => simp at this
  | cons x l ih =>
    intro vs bs h hb
    obtain ⟨v, vs', rfl, hv, hl⟩ := h.uncons
    unfold bytesOf at hb
    split at hb
    · simp_all
    · rename_i n xs e
      cases e
      obtain rfl := v_rep hv
      split at hb
      · rename_i r hr
        obtain rfl := Option.some.inj hb
        obtain ⟨ns, rfl, rfl⟩ := ih hl hr
        exact ⟨n :: ns, rfl, rfl⟩
      · simp at hb
    · simp at hb
theorem foldl_push (ns : List Int) : ∀ (s : ByteArray), ns.foldl (fun r n => r.push (UInt8.ofNat n.toNat)) s = ⟨(s.data.toList ++ ns.map fun n => UInt8.ofNat n.toNat).toArray⟩ := by
  induction ns with
  | nil => intro s; simp
  | cons n ns ih =>
    intro s
    rw [List.foldl_cons, ih]
    simp [ByteArray.push]
theorem run_stringToBytes_of (w : World) (e : Nat) (s : ByteArray) :
    ∃ cap, s.size ≤ cap ∧ ∃ w', (Conv.stringToBytes e s).run P w = .ok (.slice (some ⟨w.heap.size, 0, none⟩) s.size cap) w' ∧ SameOut w w' ∧ w'.heap.size = w.heap.size + 1 ∧ (∀ b, b < w.heap.size → w'.heap[b]? = w.heap[b]?) ∧
      w'.heap[w.heap.size]? = some (.cells (s.data.map (fun b => Value.int .u8 b.toNat) ++ Array.replicate (cap - s.size) (.int .u8 0)) e
        ((s.data.map (fun b => Value.int .u8 b.toNat) ++ Array.replicate (cap - s.size) (Value.int .u8 0)).size, (s.data.map (fun b => Value.int .u8 b.toNat) ++ Array.replicate (cap - s.size) (Value.int .u8 0)).size + 1)) := by
  refine ⟨grownCap w s.size 0 e, by unfold grownCap; simp only [Question.cut]; omega, ?_⟩
  refine ⟨(w.drew.alloc (.cells (s.data.map (fun b => Value.int .u8 b.toNat) ++ Array.replicate (grownCap w s.size 0 e - s.size) (.int .u8 0)) e)).freeze
    ⟨w.heap.size, (s.data.map (fun b => Value.int .u8 b.toNat) ++ Array.replicate (grownCap w s.size 0 e - s.size) (Value.int .u8 0)).size, none⟩ 1, ?_, ⟨rfl, rfl, rfl⟩, ?_, ?_, ?_⟩
  · have hsh : (w.drew.alloc (.cells (s.data.map (fun b => Value.int .u8 b.toNat) ++ Array.replicate (grownCap w s.size 0 e - s.size) (.int .u8 0)) e)).shape? w.heap.size =
        some (e, (s.data.map (fun b => Value.int .u8 b.toNat) ++ Array.replicate (grownCap w s.size 0 e - s.size) (Value.int .u8 0)).size) := by
      have := heap_alloc_new w.drew (.cells (s.data.map (fun b => Value.int .u8 b.toNat) ++ Array.replicate (grownCap w s.size 0 e - s.size) (.int .u8 0)) e)
      simp only [World.size_drew] at this
      simp only [World.shape?, this]
    simp only [grownCap] at hsh ⊢
    simp [Conv.stringToBytes, Question.forced, newRow, markStringish, hsh]
  · simp [World.freeze, -World.alloc_eq]
  · intro b hb
    simp only [World.freeze, Nat.one_ne_zero, if_false, Array.getElem?_modify]
    rw [if_neg (by omega)]
    exact heap_alloc_lt w.drew _ b hb
  · have := heap_alloc_new w.drew (.cells (s.data.map (fun b => Value.int .u8 b.toNat) ++ Array.replicate (grownCap w s.size 0 e - s.size) (.int .u8 0)) e)
    simp only [World.size_drew] at this
    simp only [World.freeze, Nat.one_ne_zero, if_false, Array.getElem?_modify, if_true, this]
    rfl
theorem conv_rep (hT : TabOk P T) {fr : Fr} {os os1 : List SO} {g : Nat → Gh} {w : World} (hm : Mem fr os g w) {src dst : Nat} {x y : SV} {xv : Value}
    (hx : RepV w (Bk fr os g w) g x xv) (h : convS T os src dst x = some (y, os1)) :
    ∃ v w', (convert src dst xv).run P w = .ok v w' ∧ Res fr os g w os1 y v w' := by
  unfold convS at h
  split at h
  · rename_i k k' kk n hu hu'
    obtain ⟨rfl, rfl⟩ := Prod.mk.inj (Option.some.inj h)
    obtain rfl := v_rep hx
    exact ⟨_, w, by simp [convert, run_underlying (hT.int src _ hu), run_underlying (hT.int dst _ hu'), Conv.intToInt], Res.same hm (.v rfl)⟩
  · rename_i e hu hu'
    split at h
    · rename_i l he hl
      split at h
      · rename_i bs hbs
        obtain ⟨rfl, rfl⟩ := Prod.mk.inj (Option.some.inj h)
        obtain ⟨xa, xc, rfl, hxc, hxr⟩ := elems_rep hm hx hl
        refine ⟨.string ⟨bs.toArray⟩, w, ?_, Res.same hm (.v rfl)⟩
        rw [run_convert_bytes_string w src dst e xa _ _ (hT.slice src e hu) (hT.int e _ he) (hT.str dst hu')]
        cases xa with
        | none =>
          rcases hxr with rfl | ⟨b, o, vs, h1, _⟩
          · simp only [bytesOf, Option.some.injEq] at hbs
            subst hbs
            rfl
          · simp at h1
        | some a =>
          have hload : ∃ ns : List Int, (loadCells a l.length).run P w = .ok (ns.map (Value.int .u8)).toArray w ∧ bs = ns.map fun n => UInt8.ofNat n.toNat := by
            rcases hxr with rfl | ⟨b, o, vs, h1, h2, h3, h4⟩
            · simp only [bytesOf, Option.some.injEq] at hbs
              subst hbs
              exact ⟨[], rfl, rfl⟩
            · cases h1
              obtain ⟨ns, rfl, rfl⟩ := bytesOf_rep h2 hbs
              refine ⟨ns, ?_, rfl⟩
              have hf : flatV (ns.map (Value.int .u8)) = ns.map (Value.int .u8) := by
                clear h2 h3 h4 hbs
                induction ns with
                | nil => rfl
                | cons n ns ih => simp only [flatV, List.map_cons, List.flatMap_cons] at ih ⊢; rw [ih (by first | exact trivial | simp_all)]; rfl
              have := run_loadCells_list (P := P) w ⟨b, o, none⟩ (ns.map (Value.int .u8)) (fun j v hj => by rw [Addr.add_lit]; rw [hf] at h4; exact h4 j v hj)
              rw [h2.1]
              exact this
          obtain ⟨ns, hl', rfl⟩ := hload
          rw [run_bytesToString w a _ _ ns hl', foldl_push]
          simp
      · simp at h
    · simp at h
  · rename_i e s hu hu'
    split at h
    · rename_i he
      obtain ⟨rfl, rfl⟩ := Prod.mk.inj (Option.some.inj h)
      obtain rfl := v_rep hx
      obtain ⟨cap, hcap, w', hrun, hso, hsz, hold, hnew⟩ := run_stringToBytes_of (P := P) w e s
      have hl : RepL w (Bk fr os g w) G0 (s.data.toList.map byteSV) (s.data.toList.map fun b => Value.int .u8 b.toNat) :=
        ⟨by simp, fun i x v h1 h2 => by
          rw [List.getElem?_map] at h1 h2
          obtain ⟨b, hb, rfl⟩ := Option.map_eq_some_iff.1 h1
          rw [hb] at h2
          obtain rfl := Option.some.inj h2
          exact .v rfl⟩
      have hel : ∀ v : Value, v ∈ (s.data.toList.map fun b => Value.int .u8 b.toNat) → ElOK 1 v := fun v hv => by
        obtain ⟨b, _, rfl⟩ := List.mem_map.1 hv
        exact ⟨rfl, fun c hc => by simp [Value.cells] at hc; subst hc; rfl⟩
      have hf : flatV (s.data.toList.map fun b => Value.int .u8 b.toNat) = s.data.toList.map fun b => Value.int .u8 b.toNat := by
        generalize s.data.toList = q
        induction q with
        | nil => rfl
        | cons n ns ih => simp only [flatV, List.map_cons, List.flatMap_cons] at ih ⊢; rw [ih]; rfl
      have hx0 : ∀ c, (Gh.blk w.heap.size 1 (s.data.toList.map byteSV).length cap).has c → w.heap.size ≤ c ∧ c < w'.heap.size := fun c hc => by
        simp only [Gh.has] at hc
        subst hc
        exact ⟨Nat.le_refl _, by omega⟩
      have hn : upd g os.length (.blk w.heap.size 1 (s.data.toList.map byteSV).length cap) os.length = .blk w.heap.size 1 (s.data.toList.map byteSV).length cap := by unfold upd; rw [if_pos rfl]
      have hg := (push_chg hm hso (.arr false 1 (s.data.toList.map byteSV)) _ (by omega) hold hx0).grow
      have hss : s.size = s.data.toList.length := by rw [Array.length_toList]; rfl
      refine ⟨_, w', by simp only [convert, Sem.run_bind, run_underlying (hT.str src hu), run_underlying (hT.slice dst e hu'), run_underlying (hT.int e _ he), Result.andThen_ok]; exact hrun, _, push_mem hm hso _ _ (by omega) hold hx0 ?_, hg, ?_⟩
      · refine .inr ⟨w.heap.size, cap, s.data.toList.map fun b => Value.int .u8 b.toNat, hn, by rw [List.length_map, ← hss]; exact hcap, hl.mono hg.sub hg.same (fun _ h => absurd rfl h), hel, ?_, ?_⟩
        · rw [hf]
          intro k v hk
          simp only [World.cell?, hnew, Nat.zero_add]
          simp only [Option.isSome_none, Bool.false_eq_true, if_false]
          rw [Array.getElem?_append_left (by have := lt_of_getElem? hk; simpa using this)]
          simpa using hk
        · refine ⟨_, _, _, hnew, ?_, fun o ho hc => ?_, fun h => absurd rfl h⟩
          · rw [Array.size_append, Array.size_map, Array.size_replicate]
            show cap * 1 ≤ s.size + (cap - s.size)
            omega
          · have h1 := hc.1
            exact absurd ho (Nat.not_lt.2 h1)
      · have := fun W => RepV.osl (w := W) (B := Bk fr (os ++ [.arr false 1 (s.data.toList.map byteSV)]) (upd g os.length (.blk w.heap.size 1 (s.data.toList.map byteSV).length cap)) W) hn
        have h2 := this w'
        rw [List.length_map, ← hss] at h2
        simpa [List.length_map, ← hss] using h2
    · simp at h
  · rename_i s hu hu'
    obtain ⟨rfl, rfl⟩ := Prod.mk.inj (Option.some.inj h)
    obtain rfl := v_rep hx
    exact ⟨_, w, by simp [convert, run_underlying (hT.str src hu), run_underlying (hT.str dst hu')], Res.same hm (.v rfl)⟩
  · simp at h
end Go.Proofs.YtebaiioejagfoaaGreatDoor

/- The evaluator S: every operation but a call of a function is sound. -/
namespace Go.Proofs.YtebaiioejagfoaaGreatDoor
open Go
set_option linter.unusedVariables false
set_option linter.unusedSimpArgs false
variable {P : Program} {T : Tab}
def OpOK (P : Program) (fr : Fr) (os : List SO) (g : Nat → Gh) (w : World) (os' : List SO) (x : SV) (o : Oper) (a : Act) : Prop :=
  ∀ next Q, (∀ v w', Res fr os g w os' x v w' → next (a.put o.dst v) w') → o.wp P a w next Q
theorem value_ok {fr : Fr} {os os' : List SO} {g : Nat → Gh} {w w' : World} {x : SV} {v : Value} {o : Oper} {a : Act} (h : (execOp a.eval o).run P w = .ok (.value v) w')
    (hr : Res fr os g w os' x v w') : OpOK P fr os g w os' x o a := by
  intro next Q hn
  unfold Oper.wp
  rw [h]
  exact hn v w' hr
theorem skip_ok {fr : Fr} {os os' : List SO} {g : Nat → Gh} {w w' : World} {o : Oper} {a : Act} (h : (execOp a.eval o).run P w = .ok .skip w')
    (hr : Res fr os g w os' .undef undef w') : OpOK P fr os g w os' .undef o a := by
  intro next Q hn
  unfold Oper.wp
  rw [h]
  exact hn undef w' hr
theorem ret1_eq {x : Option SV} {os os' : List SO} {y : SV} (h : ret1 x os = some (y, os')) : x = some y ∧ os' = os := by
  unfold ret1 at h
  split at h
  · obtain ⟨rfl, rfl⟩ := Prod.mk.inj (Option.some.inj h); exact ⟨rfl, rfl⟩
  · simp at h
theorem pick_rep {w : World} {B : Nat → Prop} {g : Nat → Gh} {c a b r : SV} {cv av bv : Value} (hc : RepV w B g c cv) (ha : RepV w B g a av) (hb : RepV w B g b bv) (h : pickS c a b = some r) :
    ∃ t, cv = .bool t ∧ RepV w B g r (if t then av else bv) := by
  unfold pickS at h
  split at h
  · rename_i t
    obtain rfl := Option.some.inj h
    obtain rfl := v_rep hc
    refine ⟨t, rfl, ?_⟩
    cases t
    · exact hb
    · exact ha
  · simp at h
theorem nil_rep {w : World} {B : Nat → Prop} {g : Nat → Gh} {x r : SV} {v : Value} (hx : RepV w B g x v) (h : nilS x = some r) : (∃ a, v = .pointer (some a)) ∧ RepV w B g r v := by
  unfold nilS at h
  split at h
  · obtain rfl := Option.some.inj h
    cases hx with | ptr hp => exact ⟨⟨_, rfl⟩, .ptr hp⟩
  · obtain rfl := Option.some.inj h
    cases hx with | ap hp => exact ⟨⟨_, rfl⟩, .ap hp⟩
  · obtain rfl := Option.some.inj h
    cases hx with | el h1 h2 h3 => exact ⟨⟨_, rfl⟩, .el h1 h2 h3⟩
  · simp at h
theorem extract_rep {w : World} {B : Nat → Prop} {g : Nat → Gh} {x r : SV} {v : Value} {i : Nat} (hx : RepV w B g x v) (h : extractS x i = some r) :
    ∃ u, (Instr.extract v i).run P w = .ok u w ∧ RepV w B g r u := by
  unfold extractS at h
  split at h
  · cases hx with
    | tup h1 h2 =>
      obtain ⟨u, hu, hr⟩ := RepL.get ⟨h1, h2⟩ h
      exact ⟨u, by simp [Instr.extract, hu], hr⟩
  · simp at h
theorem len_rep (hT : TabOk P T) {fr : Fr} {os : List SO} {g : Nat → Gh} {w : World} (hm : Mem fr os g w) {t ty : Nat} {x : SV} {xv : Value} {n : Nat} (hx : RepV w (Bk fr os g w) g x xv)
    (h : lenS T t os x = some n) : (Builtin.len_ #[t] ty #[xv]).run P w = .ok (.int .i64 (n : Int)) w := by
  unfold lenS at h
  split at h
  · rename_i hu
    split at h
    · rename_i s
      obtain rfl := Option.some.inj h
      obtain rfl := v_rep hx
      simp [Builtin.len_, run_underlying (hT.str t hu), goInt]
    · simp at h
  · rename_i e hu
    have fin : ∀ a c (m : Nat), xv = .slice a m c → (Builtin.len_ #[t] ty #[xv]).run P w = .ok (.int .i64 (m : Int)) w := by
      intro a c m e
      subst e
      simp [Builtin.len_, run_underlying (hT.slice t _ hu), goInt]
    split at h
    · rename_i j lo hi
      split at h
      · rename_i p hp
        obtain rfl := Option.some.inj h
        cases hx with
        | vw0 => exact fin _ _ _ (by rw [Nat.sub_self])
        | vw _ _ _ _ => exact fin _ _ _ rfl
      · simp at h
    · split at h
      · rename_i p hp
        obtain rfl := Option.some.inj h
        obtain ⟨sz, l⟩ := p
        obtain ⟨a, c, e, _⟩ := elems_rep hm hx hp
        exact fin a c _ e
      · simp at h
  · simp at h
theorem min_rep {w : World} {B : Nat → Prop} {g : Nat → Gh} {x y r : SV} {xv yv : Value} {ts : Array TypeId} {ty : Nat} (hx : RepV w B g x xv) (hy : RepV w B g y yv) (h : minS x y = some r) :
    ∃ v, (Builtin.min_ ts ty #[xv, yv]).run P w = .ok v w ∧ RepV w B g r v := by
  unfold minS at h
  split at h
  · obtain rfl := Option.some.inj h
    obtain rfl := v_rep hx
    obtain rfl := v_rep hy
    exact ⟨_, run_min_int2 w _ _ _ _ _ _, .v rfl⟩
  · simp at h
theorem max_rep {w : World} {B : Nat → Prop} {g : Nat → Gh} {x y r : SV} {xv yv : Value} {ts : Array TypeId} {ty : Nat} (hx : RepV w B g x xv) (hy : RepV w B g y yv) (h : maxS x y = some r) :
    ∃ v, (Builtin.max_ ts ty #[xv, yv]).run P w = .ok v w ∧ RepV w B g r v := by
  unfold maxS at h
  split at h
  · obtain rfl := Option.some.inj h
    obtain rfl := v_rep hx
    obtain rfl := v_rep hy
    refine ⟨_, run_max_int2 w _ _ _ _ _ _, ?_⟩
    exact .v rfl
  · simp at h
theorem builtin_rep (hT : TabOk P T) {c : Cx} (hc : c.T = T) {fr : Fr} {os os1 : List SO} {g : Nat → Gh} {w : World} (hm : Mem fr os g w) {b : Builtin} {ts : Array TypeId} {ty : Nat} {cs : Array Bool} {xs : List SV} {vs : List Value} {y : SV}
    (hx : RepL w (Bk fr os g w) g xs vs) (h : builtinS c os b ts.toList xs = some (y, os1)) (hts : ts.size = xs.length) :
    ∃ v w', (builtin b ts ty cs vs.toArray).run P w = .ok (.value v) w' ∧ Res fr os g w os1 y v w' := by
  subst hc
  unfold builtinS at h
  split at h
  · obtain ⟨xv, vs', rfl, h1, h2⟩ := hx.uncons
    obtain rfl : vs' = [] := by have := h2.1; cases vs' <;> simp at this ⊢
    obtain ⟨t, rfl⟩ : ∃ t, ts = #[t] := by
      obtain ⟨l⟩ := ts
      match l, hts with | [t], _ => exact ⟨t, rfl⟩
    unfold lenO at h
    split at h
    · rename_i n hn
      obtain ⟨rfl, rfl⟩ := Prod.mk.inj (Option.some.inj h)
      have hl : (Builtin.len_ #[t] ty #[xv]).run P w = .ok (.int .i64 (n : Int)) w := len_rep hT hm h1 hn
      exact ⟨_, w, by simp [builtin, hl], Res.same hm (.v rfl)⟩
    · simp at h
  · obtain ⟨sv, vs', rfl, h1, h2⟩ := hx.uncons
    obtain ⟨xv, vs', rfl, h3, h4⟩ := h2.uncons
    obtain rfl : vs' = [] := by have := h4.1; cases vs' <;> simp at this ⊢
    obtain ⟨t, t', rfl⟩ : ∃ t t', ts = #[t, t'] := by
      obtain ⟨l⟩ := ts
      match l, hts with | [t, t'], _ => exact ⟨t, t', rfl⟩
    obtain ⟨v, w', hr, hres⟩ := append_rep (ty := ty) hT hm h1 h3 h
    have hl : (Builtin.append_ #[t, t'] ty #[sv, xv]).run P w = .ok v w' := hr
    exact ⟨v, w', by simp [builtin, hl], hres⟩
  · obtain ⟨sv, vs', rfl, h1, h2⟩ := hx.uncons
    obtain ⟨xv, vs', rfl, h3, h4⟩ := h2.uncons
    obtain rfl : vs' = [] := by have := h4.1; cases vs' <;> simp at this ⊢
    obtain ⟨t, t', rfl⟩ : ∃ t t', ts = #[t, t'] := by
      obtain ⟨l⟩ := ts
      match l, hts with | [t, t'], _ => exact ⟨t, t', rfl⟩
    obtain ⟨v, w', hr, hres⟩ := copy_rep (t' := t') (ty := ty) hT hm h1 h3 h
    have hl : (Builtin.copy_ #[t, t'] ty #[sv, xv]).run P w = .ok v w' := hr
    exact ⟨v, w', by simp [builtin, hl], hres⟩
  · obtain ⟨sv, vs', rfl, h1, h2⟩ := hx.uncons
    obtain ⟨xv, vs', rfl, h3, h4⟩ := h2.uncons
    obtain rfl : vs' = [] := by have := h4.1; cases vs' <;> simp at this ⊢
    obtain ⟨h5, rfl⟩ := ret1_eq h
    obtain ⟨v, hr, hrep⟩ := min_rep (P := P) (ts := ts) (ty := ty) h1 h3 h5
    exact ⟨v, w, by simp [builtin, hr], Res.same hm hrep⟩
  · obtain ⟨sv, vs', rfl, h1, h2⟩ := hx.uncons
    obtain ⟨xv, vs', rfl, h3, h4⟩ := h2.uncons
    obtain rfl : vs' = [] := by have := h4.1; cases vs' <;> simp at this ⊢
    obtain ⟨h5, rfl⟩ := ret1_eq h
    obtain ⟨v, hr, hrep⟩ := max_rep (P := P) (ts := ts) (ty := ty) h1 h3 h5
    exact ⟨v, w, by simp [builtin, hr], Res.same hm hrep⟩
  · simp at h
theorem map_rep {w : World} {B : Nat → Prop} {g : Nat → Gh} {env : Env} {a : Act} (hs : Slots w B g env a.tmps) (l : List Operand) : RepL w B g (l.map (ev env)) (l.map a.eval) :=
  ⟨by simp, fun i x v h1 h2 => by
    rw [List.getElem?_map] at h1 h2
    obtain ⟨b, hb, rfl⟩ := Option.map_eq_some_iff.1 h1
    rw [hb] at h2
    obtain rfl := Option.some.inj h2
    exact ev_rep hs b⟩
def CallOK (P : Program) (c : Cx) : Prop :=
  ∀ (fr : Fr) (os os1 : List SO) (g : Nat → Gh) (w : World) (env : Env) (a : Act) (o : Oper) (f : Operand) (args : Array Operand) (ts : Array TypeId) (y : SV), Mem fr os g w → Slots w (Bk fr os g w) g env a.tmps →
    o.op = .call { callee := .value f, args := args, argTypes := ts } → ts.size = args.size → calleeS c os (ev env f) ((args.toList.zip ts.toList).map (argO c.T env)) = some (y, os1) → OpOK P fr os g w os1 y o a
theorem op_rep {c : Cx} (hT : TabOk P c.T) (hK : CallOK P c) {fr : Fr} {os os1 : List SO} {g : Nat → Gh} {w : World} (hm : Mem fr os g w) {env : Env} {a : Act} (hs : Slots w (Bk fr os g w) g env a.tmps) {o : Oper} {y : SV}
    (h : opS c env os o = some (y, os1)) : OpOK P fr os g w os1 y o a := by
  unfold opS at h
  split at h
  · rename_i x ho
    exact value_ok (by simp [execOp, ho]) (evN_rep hm hs h)
  · rename_i x ho
    exact value_ok (by simp [execOp, ho]) (evN_rep hm hs h)
  · rename_i b x z ho
    obtain ⟨h1, rfl⟩ := ret1_eq h
    obtain ⟨t, e, hr⟩ := pick_rep (ev_rep hs b) (ev_rep hs x) (ev_rep hs z) h1
    refine value_ok (v := if t then a.eval x else a.eval z) ?_ (Res.same hm hr)
    simp [execOp, ho, e, asBool]
  · rename_i t ho
    obtain ⟨v, w', hr, hres⟩ := alloc_rep hT hm h
    exact value_ok (by simp [execOp, ho, hr]) hres
  · rename_i t x ho
    obtain ⟨v, w', hr, hres⟩ := box_rep hT hm hs h
    exact value_ok (by simp [execOp, ho, hr]) hres
  · rename_i t ps ho
    obtain ⟨v, hr, hres⟩ := build_rep hT hm hs h
    refine value_ok (v := v) ?_ hres
    simp only [execOp, ho, Sem.run_bind]
    rw [hr]; rfl
  · rename_i t n ps ho
    obtain ⟨v, w', hr, hres⟩ := buildSlice_rep hT hm hs h
    refine value_ok (v := v) ?_ hres
    simp only [execOp, ho, Sem.run_bind]
    rw [hr]; rfl
  · rename_i t x ho
    obtain ⟨h1, rfl⟩ := ret1_eq h
    obtain ⟨v, hr, hrep⟩ := load_rep hT hm (ev_rep hs x) h1
    exact value_ok (by simp [execOp, ho, hr]) (Res.same hm hrep)
  · rename_i t p x ho
    unfold storeO at h
    split at h
    · rename_i z os2 hz
      split at h
      · rename_i z' os2' hd
        split at h
        · rename_i os3 h3
          obtain ⟨rfl, rfl⟩ := Prod.mk.inj (Option.some.inj h)
          obtain ⟨g1, m1, gr1, r1⟩ := evN_rep hm hs hz
          obtain ⟨m1', gr1', r1'⟩ := deVw_rep m1 r1 hd
          obtain ⟨w', hr, m2, gr2⟩ := store_rep hT m1' ((ev_rep hs p).grow (gr1.trans gr1')) r1' h3
          exact skip_ok (by simp [execOp, ho, hr]) ⟨g1, m2, (gr1.trans gr1').trans gr2, .undef⟩
        · simp at h
      · simp at h
    · simp at h
  · rename_i x ho
    obtain ⟨h1, rfl⟩ := ret1_eq h
    obtain ⟨⟨p, e⟩, hrep⟩ := nil_rep (ev_rep hs x) h1
    exact value_ok (v := a.eval x) (by simp [execOp, ho, e]) (Res.same hm hrep)
  · rename_i op t x z zt ho
    obtain ⟨h1, rfl⟩ := ret1_eq h
    obtain ⟨v, hr, hrep⟩ := bin_rep (P := P) (xo := x) (yo := z) hT (ev_rep hs x) (ev_rep hs z) h1
    refine value_ok (v := v) ?_ (Res.same hm hrep)
    simp only [execOp, ho, Sem.run_bind]
    simp only [Sem.run_bind] at hr
    rw [hr]; rfl
  · rename_i op t x ho
    obtain ⟨h1, rfl⟩ := ret1_eq h
    obtain ⟨v, hr, hrep⟩ := un_rep (P := P) (ev_rep hs x) h1
    exact value_ok (by simp [execOp, ho, hr]) (Res.same hm hrep)
  · rename_i s d x ho
    obtain ⟨v, w', hr, hres⟩ := conv_rep hT hm (ev_rep hs x) h
    exact value_ok (by simp [execOp, ho, hr]) hres
  · rename_i t n k ho
    obtain ⟨v, w', hr, hres⟩ := make_rep hT hm (ev_rep hs n) (ev_rep hs k) h
    exact value_ok (by simp [execOp, ho, hr]) hres
  · rename_i t x lo hi ho
    obtain ⟨h1, rfl⟩ := ret1_eq h
    obtain ⟨v, hr, hrep⟩ := slice_rep (lov := lo.map a.eval) (hiv := hi.map a.eval) hT hm (ev_rep hs x) (fun e => by cases hi <;> simp at e ⊢) (fun z e => by
      cases hi with
      | none => simp at e
      | some q => simp at e; subst e; exact ⟨_, rfl, ev_rep hs q⟩) (fun e => by cases lo <;> simp at e ⊢) (fun z e => by
      cases lo with
      | none => simp at e
      | some q => simp at e; subst e; exact ⟨_, rfl, ev_rep hs q⟩) h1
    exact value_ok (by simp [execOp, ho, hr]) (Res.same hm hrep)
  · rename_i t x hi m ho
    obtain ⟨h1, rfl⟩ := ret1_eq h
    obtain ⟨v, hr, hrep⟩ := slice3_rep hT (ev_rep hs x) (ev_rep hs hi) (ev_rep hs m) h1
    exact value_ok (by simp [execOp, ho, hr]) (Res.same hm hrep)
  · rename_i t x f ho
    obtain ⟨h1, rfl⟩ := ret1_eq h
    obtain ⟨v, hr, hrep⟩ := fieldAddr_rep hT (ev_rep hs x) h1
    exact value_ok (by simp [execOp, ho, hr]) (Res.same hm hrep)
  · rename_i t x f ho
    obtain ⟨h1, rfl⟩ := ret1_eq h
    obtain ⟨v, hr, hrep⟩ := field_rep hT (ev_rep hs x) h1
    exact value_ok (by simp [execOp, ho, hr]) (Res.same hm hrep)
  · rename_i t x i ho
    obtain ⟨h1, rfl⟩ := ret1_eq h
    obtain ⟨v, hr, hrep⟩ := indexAddr_rep hT hm (ev_rep hs x) (ev_rep hs i) h1
    exact value_ok (by simp [execOp, ho, hr]) (Res.same hm hrep)
  · rename_i t x i ho
    obtain ⟨h1, rfl⟩ := ret1_eq h
    obtain ⟨v, hr, hrep⟩ := index_rep hT (ev_rep hs x) (ev_rep hs i) h1
    exact value_ok (by simp [execOp, ho, hr]) (Res.same hm hrep)
  · rename_i x i ho
    obtain ⟨h1, rfl⟩ := ret1_eq h
    obtain ⟨v, hr, hrep⟩ := extract_rep (P := P) (ev_rep hs x) h1
    exact value_ok (by simp [execOp, ho, hr]) (Res.same hm hrep)
  · rename_i f fs caps ho
    split at h
    · rename_i hf
      obtain ⟨rfl, rfl⟩ := Prod.mk.inj (Option.some.inj h)
      have e : fs = #[] := by cases fs; simp at hf; simp [hf]
      subst e
      refine value_ok (v := .func (.func f) #[] (caps.toList.map a.eval).toArray) ?_ (Res.same hm ?_)
      · simp [execOp, ho, Instr.makeFunc]
        rw [← Array.toList_map, Array.toArray_toList]
      · have := map_rep hs caps.toList
        exact .fn this.1 this.2
    · simp at h
  · rename_i b args ts ho
    split at h
    · rename_i hsz
      obtain ⟨v, w', hr, hres⟩ := builtin_rep (P := P) (ty := o.type) (cs := args.map fun | .const _ => true | _ => false) hT rfl hm (map_rep hs args.toList) h (by simpa using hsz)
      refine value_ok (v := v) ?_ hres
      have e : (args.toList.map a.eval).toArray = args.map a.eval := by rw [← Array.toList_map, Array.toArray_toList]
      rw [e] at hr
      simp only [execOp, ho, resolve, Sem.run_bind, Sem.run_pure, Result.andThen_ok, invoke]
      exact hr
    · simp at h
  · rename_i f args ts ho
    split at h
    · rename_i hsz
      exact hK fr os os1 g w env a o f args ts y hm hs ho hsz h
    · simp at h
  · simp at h
end Go.Proofs.YtebaiioejagfoaaGreatDoor

/- The evaluator S: code is sound, where its operations are. -/
namespace Go.Proofs.YtebaiioejagfoaaGreatDoor
open Go
set_option linter.unusedVariables false
set_option linter.unusedSimpArgs false
variable {P : Program} {T : Tab}
def Inv (fr : Fr) (g0 : Nat → Gh) (nl nt : Nat) (env : Env) (os : List SO) (a : Act) (w : World) : Prop :=
  ∃ g, Mem fr os g w ∧ Slots w (Bk fr os g w) g env a.tmps ∧ nt ≤ a.tmps.size ∧ a.defers = [] ∧ nl ≤ os.length ∧ ∀ j, j < nl → g0 j ≠ .no → g j = g0 j
def PostK (fr : Fr) (g0 : Nat → Gh) (nl nt : Nat) (k : Kt) (out : SV × List SO) (e : Exit) (a : Act) (w : World) : Prop :=
  ∃ env os, Inv fr g0 nl nt env os a w ∧
    match e with
    | .normal => k.n env os = some out
    | .exit id => k.x id env os = some out
    | .ret => k.r env os = some out
    | _ => False
theorem look_kill (env : Env) (t : Nat) : ∀ (al : List Nat), look t (killS al env) = look t env ∨ look t (killS al env) = .dead := by
  intro al
  induction al with
  | nil => exact .inr rfl
  | cons x xs ih =>
    simp only [killS, look]
    split
    · rename_i h
      rw [Nat.eq_of_beq_eq_true h]
      exact .inl rfl
    · exact ih
theorem slots_kill {w : World} {B : Nat → Prop} {g : Nat → Gh} {env : Env} {tmps : Array Value} (h : Slots w B g env tmps) (al : List Nat) : Slots w B g (killS al env) tmps := by
  intro t
  rcases look_kill env t al with e | e
  · rw [e]; exact h t
  · rw [e]; exact .dead
theorem inv_kill {fr : Fr} {g0 : Nat → Gh} {nl nt : Nat} {env : Env} {os : List SO} {a : Act} {w : World} (h : Inv fr g0 nl nt env os a w) (al : Option (List Nat)) : Inv fr g0 nl nt (killO al env) os a w := by
  obtain ⟨g, h1, h2, h3⟩ := h
  cases al with
  | none => exact ⟨g, h1, h2, h3⟩
  | some l => exact ⟨g, h1, slots_kill h2 l, h3⟩
theorem slots_put {w : World} {B : Nat → Prop} {g : Nat → Gh} {env : Env} {a : Act} {d : Option Nat} {x : SV} {v : Value} (h : Slots w B g env a.tmps) (hx : RepV w B g x v) (hd : okDst a.tmps.size d = true) :
    Slots w B g (put env d x) (a.put d v).tmps := by
  cases d with
  | none => exact h
  | some t =>
    intro s
    have hlt : t < a.tmps.size := by
      unfold okDst at hd
      simp only [Nat.blt_eq] at hd
      exact hd
    simp only [put, look, Act.put]
    split
    · rename_i e
      obtain rfl := Nat.eq_of_beq_eq_true e
      have : (a.tmps.setIfInBounds s v).getD s undef = v := by simp [Array.getD, hlt]
      rw [this]; exact hx
    · rename_i e
      have hne : t ≠ s := fun e' => by subst e'; rw [Nat.beq_refl] at e; cases e
      have : (a.tmps.setIfInBounds t v).getD s undef = a.tmps.getD s undef := by
        simp [Array.getElem?_setIfInBounds_ne hne]
      rw [this]; exact h s
theorem put_size (a : Act) (d : Option Nat) (v : Value) : (a.put d v).tmps.size = a.tmps.size := by
  cases d <;> simp [Act.put]
theorem put_defers (a : Act) (d : Option Nat) (v : Value) : (a.put d v).defers = a.defers := by
  cases d <;> rfl
theorem okDst_le {n m : Nat} {d : Option Nat} (h : okDst n d = true) (hn : n ≤ m) : okDst m d = true := by
  cases d with
  | none => rfl
  | some t =>
    simp only [okDst, Nat.blt_eq] at h ⊢
    omega
theorem inv_put {fr : Fr} {g0 g : Nat → Gh} {nl nt : Nat} {env : Env} {os os' : List SO} {a : Act} {w w' : World} {d : Option Nat} {x : SV} {v : Value} (hm : Mem fr os g w) (hs : Slots w (Bk fr os g w) g env a.tmps) (ht : nt ≤ a.tmps.size) (hdf : a.defers = [])
    (hl : nl ≤ os.length) (h0 : ∀ j, j < nl → g0 j ≠ .no → g j = g0 j) (hd : okDst nt d = true) (hr : Res fr os g w os' x v w') (hos : os.length ≤ os'.length) :
    Inv fr g0 nl nt (put env d x) os' (a.put d v) w' := by
  obtain ⟨g', m, gr, r⟩ := hr
  refine ⟨g', m, slots_put (hs.grow gr) r (okDst_le hd ht), by rw [put_size]; exact ht, by rw [put_defers]; exact hdf, by omega, fun j hj hn => ?_⟩
  rw [gr.ext j (by rw [h0 j hj hn]; exact hn), h0 j hj hn]
theorem rep_bool {w : World} {B : Nat → Prop} {g : Nat → Gh} {x : SV} {b : Bool} (h : RepV w B g x (.bool b)) (hd : x ≠ .dead) : x = .v (.bool b) := by
  cases h with
  | v h => rfl
  | dead => exact absurd rfl hd
theorem yielded_of {w : World} {B : Nat → Prop} {g : Nat → Gh} {env : Env} {a : Act} {ops : Array Oper} (hs : Slots w B g env a.tmps) (j : Nat) (hd : guardV ops.toList env j ≠ .dead) :
    (∀ b, guardV ops.toList env j = .v (.bool b) → yielded ops a.tmps j = some b) ∧ ((∀ b, guardV ops.toList env j ≠ .v (.bool b)) → yielded ops a.tmps j = none) := by
  unfold guardV at hd ⊢
  unfold yielded
  rw [Array.getElem?_toList] at hd ⊢
  cases ho : ops[j]? with
  | none => simp
  | some o =>
    simp only [ho] at hd ⊢
    cases hdst : o.dst with
    | none => simp [hdst]
    | some t =>
      simp only [hdst] at hd
      have hr := hs t
      simp only [hdst, Option.bind_some]
      refine ⟨fun b hb => ?_, fun hb => ?_⟩
      · rw [hb] at hr
        have hv := v_rep hr
        cases ht : a.tmps[t]? with
        | none => simp [Array.getD_eq_getD_getElem?, ht, undef] at hv
        | some v => simp [Array.getD_eq_getD_getElem?, ht] at hv; simp [ht, hv]
      · cases ht : a.tmps[t]? with
        | none => simp
        | some v =>
          cases v with
          | bool b =>
            have : a.tmps.getD t undef = .bool b := by simp [Array.getD_eq_getD_getElem?, ht]
            rw [this] at hr
            exact absurd (rep_bool hr hd) (hb b)
          | _ => rfl
theorem evN_len {ty : Nat} {os os' : List SO} {x : Option SV} {y : SV} (h : evN T ty os x = some (y, os')) : os.length ≤ os'.length := by
  unfold evN at h
  split at h
  · split at h
    · split at h
      · obtain ⟨_, rfl⟩ := Prod.mk.inj (Option.some.inj h); simp
      · simp at h
    · simp at h
  · obtain ⟨_, rfl⟩ := Prod.mk.inj (Option.some.inj h); exact Nat.le_refl _
def OpsOK (P : Program) (c : Cx) : Prop :=
  ∀ (fr : Fr) (os os1 : List SO) (g : Nat → Gh) (w : World) (env : Env) (a : Act) (o : Oper) (y : SV), Mem fr os g w → Slots w (Bk fr os g w) g env a.tmps → opS c env os o = some (y, os1) →
    OpOK P fr os g w os1 y o a ∧ os.length ≤ os1.length
theorem silent_op {c : Cx} {env : Env} {os : List SO} {o : Oper} {x : SV} (h : silent env o = some x) : o.guard = none ∧ opS c env os o = some (x, os) := by
  unfold silent at h
  split at h
  · simp at h
  · rename_i hg
    refine ⟨hg, ?_⟩
    split at h
    · rename_i y ho; simp only [opS, ho, h]; rfl
    · rename_i y ho; simp only [opS, ho, h]; rfl
    · rename_i f fs caps ho
      simp only [opS, ho]
      split at h
      · rename_i hf; obtain rfl := Option.some.inj h; first | rfl | (simp only [hf]) | (rw [hf])
      · simp at h
    · simp at h
theorem ops_sound {c : Cx} (hO : OpsOK P c) {fr : Fr} {g0 : Nat → Gh} {nl nt : Nat} {k : Kt} {out : SV × List SO} {ops : Array Oper} : ∀ (rest : List Oper) (i : Nat) (env : Env) (os : List SO) (a : Act) (w : World),
    ops.toList.drop i = rest → Inv fr g0 nl nt env os a w → runOps c nt ops.toList rest env os k.n = some out →
    wpOps P ops (PostK fr g0 nl nt k out) (List.range' i rest.length) a w := by
  intro rest
  induction rest with
  | nil =>
    intro i env os a w hd hi h
    exact ⟨env, os, hi, h⟩
  | cons o rest ih =>
    intro i env os a w hd hi h
    have hoi : ops[i]? = some o := by
      have := congrArg List.head? hd
      simpa [List.head?_drop] using this
    have hd' : ops.toList.drop (i + 1) = rest := by
      rw [← List.drop_drop, hd]; rfl
    rw [List.length_cons, List.range'_succ]
    simp only [wpOps, hoi]
    simp only [runOps] at h
    split at h
    · simp at h
    · rename_i hdst
      obtain ⟨g, m, hs, ht, hdf, hl, h0⟩ := hi
      have step : ∀ (x : SV) (os1 : List SO), opS c env os o = some (x, os1) → runOps c nt ops.toList rest (put env o.dst x) os1 k.n = some out →
          o.wp P a w (wpOps P ops (PostK fr g0 nl nt k out) (List.range' (i + 1) rest.length)) (PostK fr g0 nl nt k out) := by
        intro x os1 hx hk
        obtain ⟨hok, hle⟩ := hO fr os os1 g w env a o x m hs hx
        refine hok _ _ fun v w' hres => ?_
        exact ih (i + 1) _ _ _ _ hd' (inv_put m hs ht hdf hl h0 hdst hres hle) hk
      split at h
      · rename_i x hx
        obtain ⟨hg, hop⟩ := silent_op (c := c) (os := os) hx
        have hw : Region.wanted o (yielded ops a.tmps) = true := by simp [Region.wanted, hg]
        rw [if_pos hw]
        exact .inl (step x os hop h)
      · rename_i hx
        obtain ⟨r, hr, hk⟩ := Option.bind_eq_some_iff.1 h
        obtain ⟨x, os1⟩ := r
        unfold op1 at hr
        split at hr
        · rename_i hg
          have hw : Region.wanted o (yielded ops a.tmps) = true := by simp [Region.wanted, hg]
          rw [if_pos hw]
          exact .inl (step x os1 hr hk)
        · rename_i j want hg
          unfold gd at hr
          split at hr
          · rename_i b hb
            have hy := (yielded_of (ops := ops) hs j (by rw [hb]; simp)).1 b hb
            split at hr
            · rename_i e
              have hw : Region.wanted o (yielded ops a.tmps) = true := by simp [Region.wanted, hg, hy, e]
              rw [if_pos hw]
              exact .inl (step x os1 hr hk)
            · rename_i e
              obtain ⟨rfl, rfl⟩ := Prod.mk.inj (Option.some.inj hr)
              have hw : ¬ Region.wanted o (yielded ops a.tmps) = true := by simp [Region.wanted, hg, hy, e]
              rw [if_neg hw]
              exact ih (i + 1) _ _ _ _ hd' (inv_put m hs ht hdf hl h0 hdst (Res.same m .undef) (Nat.le_refl _)) hk
          · simp at hr
          · rename_i hnb hnd
            obtain ⟨rfl, rfl⟩ := Prod.mk.inj (Option.some.inj hr)
            have hy := (yielded_of (ops := ops) hs j (fun e => hnd e)).2 (fun b e => hnb b e)
            have hw : ¬ Region.wanted o (yielded ops a.tmps) = true := by simp [Region.wanted, hg, hy]
            rw [if_neg hw]
            exact ih (i + 1) _ _ _ _ hd' (inv_put m hs ht hdf hl h0 hdst (Res.same m .undef) (Nat.le_refl _)) hk
def DrawOK (P : Program) (c : Cx) : Prop :=
  ∀ (fr : Fr) (g0 : Nat → Gh) (nl nt : Nat) (k : Kt) (out : SV × List SO) (d : Option DT) (ops : Array Oper) (env : Env) (os : List SO) (a : Act) (w : World) (t : Nat),
    Inv fr g0 nl nt env os a w → runDraw c nt d ops.toList env os k.n = some out →
    wpOps P ops (PostK fr g0 nl nt k out) (Region.schedule (P.follows .mixedOrders) ops t) a w
theorem inv_drawn {fr : Fr} {g0 : Nat → Gh} {nl nt : Nat} {env : Env} {os : List SO} {a : Act} {w : World} (h : Inv fr g0 nl nt env os a w) : Inv fr g0 nl nt env os a { w with drawn := w.drawn + 1 } := by
  obtain ⟨g, m, hs, rest⟩ := h
  have hB : ∀ b, Bk fr os g w b → Bk fr os g { w with drawn := w.drawn + 1 } b := fun b hb => hb
  have hS : ∀ b, Bk fr os g w b → ({ w with drawn := w.drawn + 1 } : World).heap[b]? = w.heap[b]? := fun _ _ => rfl
  refine ⟨g, ?_, fun t => (hs t).mono hB hS g (fun _ _ => rfl), rest⟩
  exact { objs := fun j o hj => (m.objs j o hj).mono hB hS (fun _ _ => rfl) (fun _ _ _ => rfl), fresh := m.fresh, inj := m.inj, own := m.own, mine := m.mine, frame := m.frame, size := m.size, out := m.out }
def GcOK (P : Program) : Prop :=
  ∀ (fr : Fr) (g0 : Nat → Gh) (nl nt : Nat) (env : Env) (os : List SO) (a : Act) (w : World), Inv fr g0 nl nt env os a w →
    ∀ keep, gcK nl env os = some keep → Inv fr g0 nl nt (renE (place keep) env) (gcO keep os) a w
theorem wp_loop_fuel {c : Code} {Q : Exit → Act → World → Prop} (I : Nat → Act → World → Prop) (h0 : ∀ a w, ¬ I 0 a w) (round : ∀ n a w, I (n + 1) a w → c.wp P (Exit.then (I n) Q) a w) {n : Nat} {a : Act} {w : World}
    (h : I n a w) : (Code.loop c).wp P Q a w := by
  intro b k cs
  have key : ∀ n a w, I n a w → ∃ e a' w', Q e a' w' ∧ Arrives P (lone (b.at a (.code c :: .inLoop c :: k)) cs w) b k cs e a' w' := by
    intro n
    induction n with
    | zero => intro a w h; exact absurd h (h0 a w)
    | succ n ih =>
      intro a w h
      obtain ⟨e, a₁, w₁, hq, harr⟩ := round n a w h b (.inLoop c :: k) cs
      cases e with
      | normal =>
        obtain ⟨e₂, a₂, w₂, hq₂, harr₂⟩ := ih a₁ w₁ hq
        exact ⟨e₂, a₂, w₂, hq₂, .of_steps (Steps.trans harr (.one step_inLoop)) harr₂⟩
      | exit id => exact ⟨_, a₁, w₁, hq, .pass (x := .inLoop c) rfl (fun _ _ => .inl (by simp)) harr⟩
      | goto l => exact ⟨_, a₁, w₁, hq, .pass (x := .inLoop c) rfl (fun _ _ => .inl (by simp)) harr⟩
      | ret => exact ⟨_, a₁, w₁, hq, .pass (x := .inLoop c) rfl (fun _ _ => .inl (by simp)) harr⟩
      | panic ch => exact ⟨_, a₁, w₁, hq, .pass (x := .inLoop c) rfl (fun _ _ => .inl (by simp)) harr⟩
      | outgrown => exact ⟨_, a₁, w₁, hq, .pass (x := .inLoop c) rfl (fun _ _ => .inl (by simp)) harr⟩
  obtain ⟨e, a', w', hq, harr⟩ := key n a w h
  exact ⟨e, a', w', hq, .of_steps (.one step_loop) harr⟩
theorem exec_sound {c : Cx} (hO : OpsOK P c) (hD : DrawOK P c) (hG : GcOK P) {fr : Fr} {g0 : Nat → Gh} {N nl : Nat} {fi : FnI} {out : SV × List SO} : ∀ (cd : Code) (env : Env) (os : List SO) (k : Kt) (a : Act) (w : World),
    Inv fr g0 nl fi.nt env os a w → exec c N nl fi cd env os k = some out → cd.wp P (PostK fr g0 nl fi.nt k out) a w := by
  intro cd
  induction cd with
  | skip => intro env os k a w hi h; exact wp_skip ⟨env, os, hi, h⟩
  | region id ops draw =>
    intro env os k a w hi h
    cases draw with
    | false =>
      simp only [exec] at h
      refine wp_region ?_
      have := ops_sound hO (k := k) ops.toList 0 env os a w rfl hi h
      rw [List.range_eq_range', ← Array.length_toList]
      exact this
    | true =>
      simp only [exec] at h
      refine wp_region_draw fun t => ?_
      exact hD fr g0 nl fi.nt k out (fi.dt _) ops env os a _ t (inv_drawn hi) h
  | seq x y ihx ihy =>
    intro env os k a w hi h
    simp only [exec] at h
    refine wp_seq (wp_mono (ihx env os _ a w hi h) fun e a' w' hq => ?_)
    obtain ⟨env', os', hi', hk⟩ := hq
    cases e with
    | normal => exact ihy _ _ _ _ _ (inv_kill hi' _) hk
    | exit id => exact ⟨env', os', hi', hk⟩
    | ret => exact ⟨env', os', hi', hk⟩
    | goto l => exact hk.elim
    | panic ch => exact hk.elim
    | outgrown => exact hk.elim
  | cond b x y ihx ihy =>
    intro env os k a w hi h
    simp only [exec] at h
    unfold condS at h
    split at h
    · rename_i t ht
      obtain ⟨g, m, hs, rest⟩ := hi
      have he : a.eval b = .bool t := by have := ev_rep hs b; rw [ht] at this; exact v_rep this
      refine wp_cond he ?_
      cases t with
      | true => exact ihx env os k a w ⟨g, m, hs, rest⟩ h
      | false => exact ihy env os k a w ⟨g, m, hs, rest⟩ h
    · simp at h
  | block id b ih =>
    intro env os k a w hi h
    simp only [exec] at h
    refine wp_block (wp_mono (ih env os _ a w hi h) fun e a' w' hq => ?_)
    obtain ⟨env', os', hi', hk⟩ := hq
    cases e with
    | normal => exact ⟨env', os', hi', hk⟩
    | exit id' =>
      simp only [kBlock] at hk
      simp only [Exit.inBlock]
      split
      · rename_i e
        rw [if_pos e] at hk
        exact ⟨env', os', hi', hk⟩
      · rename_i e
        rw [if_neg e] at hk
        exact ⟨env', os', hi', hk⟩
    | ret => exact ⟨env', os', hi', hk⟩
    | goto l => exact hk.elim
    | panic ch => exact hk.elim
    | outgrown => exact hk.elim
  | loop b ih =>
    intro env os k a w hi h
    simp only [exec] at h
    let F : Env → List SO → (Env → List SO → Out) → Out := fun env os nx => exec c N nl fi b env os (kLoop nx k)
    refine wp_loop_fuel (fun n a w => ∃ env os, Inv fr g0 nl fi.nt env os a w ∧ loopS nl (fi.lp (firstRegion b)) F n env os = some out) ?_ ?_ (n := N) ⟨_, _, inv_kill hi (some (fi.lp (firstRegion b)).alive), h⟩
    · rintro a w ⟨env, os, _, h⟩
      simp [loopS] at h
    · rintro n a w ⟨env, os, hi, h⟩
      have fin : ∀ env os, Inv fr g0 nl fi.nt env os a w → F env os (fun env os => loopS nl (fi.lp (firstRegion b)) F n (killS (fi.lp (firstRegion b)).alive env) os) = some out →
          b.wp P (Exit.then (fun a w => ∃ env os, Inv fr g0 nl fi.nt env os a w ∧ loopS nl (fi.lp (firstRegion b)) F n env os = some out) (PostK fr g0 nl fi.nt k out)) a w := by
        intro env os hi h
        refine wp_mono (ih env os _ a w hi h) fun e a' w' hq => ?_
        obtain ⟨env', os', hi', hk⟩ := hq
        cases e with
        | normal => exact ⟨_, _, inv_kill hi' (some (fi.lp (firstRegion b)).alive), hk⟩
        | exit id => exact ⟨env', os', hi', hk⟩
        | ret => exact ⟨env', os', hi', hk⟩
        | goto l => exact hk.elim
        | panic ch => exact hk.elim
        | outgrown => exact hk.elim
      simp only [loopS] at h
      split at h
      · obtain ⟨keep, hkp, h⟩ := Option.bind_eq_some_iff.1 h
        exact fin _ _ (hG fr g0 nl fi.nt env os a w hi keep hkp) h
      · exact fin _ _ hi h
  | exit i => intro env os k a w hi h; exact wp_exit ⟨env, os, hi, h⟩
  | ret => intro env os k a w hi h; exact wp_ret ⟨env, os, hi, h⟩
  | label l => intro env os k a w hi h; simp [exec] at h
  | goto l => intro env os k a w hi h; simp [exec] at h
  | refuse s => intro env os k a w hi h; simp [exec] at h
  | scope b _ => intro env os k a w hi h; simp [exec] at h
  | rangeFunc f ps x y _ _ => intro env os k a w hi h; simp [exec] at h
end Go.Proofs.YtebaiioejagfoaaGreatDoor

/- The evaluator S: other names for the objects. -/
namespace Go.Proofs.YtebaiioejagfoaaGreatDoor
open Go
set_option linter.unusedVariables false
set_option linter.unusedSimpArgs false
variable {P : Program} {T : Tab}
theorem ren0_rep {w : World} {B B' : Nat → Prop} {g g' : Nat → Gh} {ρ : Nat → Option Nat} (hB : ∀ b, B b → B' b) (hρ : ∀ j i, ρ j = some i → g' i = g j) {x : SV} {v : Value} (h : RepV w B g x v) : RepV w B' g' (ren0 ρ x) v := by
  cases h with
  | v h => exact .v h
  | undef => exact .undef
  | dead => exact .dead
  | sl0 => exact .sl0
  | sl h1 h2 h3 h4 h5 h6 => exact .sl h1 (fun i x v a b => (h2 i x v a b).mono hB (fun _ _ => rfl) G0 (fun _ h => absurd rfl h)) h3 h4 (hB _ h5) h6
  | ag h1 h2 h3 => exact .dead
  | tup h1 h2 => exact .dead
  | osl0 h => rename_i j; simp only [ren0]; split
              · rename_i i hi; exact .osl0 (by rw [hρ j i hi]; exact h)
              · exact .dead
  | osl h => rename_i j _ _ _ _; simp only [ren0]; split
             · rename_i i hi; exact .osl (by rw [hρ j i hi]; exact h)
             · exact .dead
  | osln h => rename_i j _ _ _ _ _; simp only [ren0]; split
              · rename_i i hi; exact .osln (by rw [hρ j i hi]; exact h)
              · exact .dead
  | vw0 => simp only [ren0]; split
           · exact .vw0
           · exact .dead
  | vw h a b c => rename_i j _ _ _ _ _ _ _; simp only [ren0]; split
                  · rename_i i hi; exact .vw (by rw [hρ j i hi]; exact h) a b c
                  · exact .dead
  | ptr h => rename_i j _ _; simp only [ren0]; split
             · rename_i i hi; exact .ptr (by rw [hρ j i hi]; exact h)
             · exact .dead
  | ap h => rename_i j _ _ _ _ _ _; simp only [ren0]; split
            · rename_i i hi; exact .ap (by rw [hρ j i hi]; exact h)
            · exact .dead
  | el h1 h2 h3 => exact .el (h1.mono hB (fun _ _ => rfl) G0 (fun _ h => absurd rfl h)) h2 (hB _ h3)
  | fn h1 h2 => exact .dead
theorem map_ren {w : World} {B B' : Nat → Prop} {g g' : Nat → Gh} {f : SV → SV} (hf : ∀ x v, RepV w B g x v → RepV w B' g' (f x) v) {l : List SV} {vs : List Value} (h : RepL w B g l vs) : RepL w B' g' (l.map f) vs :=
  ⟨by simp [h.1], fun i x v h1 h2 => by
    rw [List.getElem?_map] at h1
    obtain ⟨y, hy, rfl⟩ := Option.map_eq_some_iff.1 h1
    exact hf y v (h.2 i y v hy h2)⟩
theorem ren1_rep {w : World} {B B' : Nat → Prop} {g g' : Nat → Gh} {ρ : Nat → Option Nat} (hB : ∀ b, B b → B' b) (hρ : ∀ j i, ρ j = some i → g' i = g j) {x : SV} {v : Value} (h : RepV w B g x v) : RepV w B' g' (ren1 ρ x) v := by
  by_cases hx : ∃ f caps, x = .fn f caps
  · obtain ⟨f, caps, rfl⟩ := hx
    cases h with
    | fn h1 h2 =>
      have := map_ren (f := ren0 ρ) (fun x v => ren0_rep hB hρ) ⟨h1, h2⟩
      exact .fn this.1 this.2
  · have e : ren1 ρ x = ren0 ρ x := by
      cases x <;> first | rfl | exact absurd ⟨_, _, rfl⟩ hx
    rw [e]; exact ren0_rep hB hρ h
theorem ren2_rep {w : World} {B B' : Nat → Prop} {g g' : Nat → Gh} {ρ : Nat → Option Nat} (hB : ∀ b, B b → B' b) (hρ : ∀ j i, ρ j = some i → g' i = g j) {x : SV} {v : Value} (h : RepV w B g x v) : RepV w B' g' (ren2 ρ x) v := by
  by_cases hx : ∃ l, x = .ag l
  · obtain ⟨l, rfl⟩ := hx
    cases h with
    | ag h1 h2 h3 =>
      have := map_ren (f := ren1 ρ) (fun x v => ren1_rep hB hρ) ⟨h1, h2⟩
      exact .ag this.1 this.2 h3
  · have e : ren2 ρ x = ren1 ρ x := by
      cases x <;> first | rfl | exact absurd ⟨_, rfl⟩ hx
    rw [e]; exact ren1_rep hB hρ h
theorem ren3_rep {w : World} {B B' : Nat → Prop} {g g' : Nat → Gh} {ρ : Nat → Option Nat} (hB : ∀ b, B b → B' b) (hρ : ∀ j i, ρ j = some i → g' i = g j) {x : SV} {v : Value} (h : RepV w B g x v) : RepV w B' g' (ren3 ρ x) v := by
  by_cases hx : ∃ l, x = .tup l
  · obtain ⟨l, rfl⟩ := hx
    cases h with
    | tup h1 h2 =>
      have := map_ren (f := ren2 ρ) (fun x v => ren2_rep hB hρ) ⟨h1, h2⟩
      exact .tup this.1 this.2
  · have e : ren3 ρ x = ren2 ρ x := by
      cases x <;> first | rfl | exact absurd ⟨_, rfl⟩ hx
    rw [e]; exact ren2_rep hB hρ h
theorem place_get : ∀ {keep : List Nat} {j i : Nat}, place keep j = some i → keep[i]? = some j
  | [], _, _, h => by simp [place] at h
  | k :: ks, j, i, h => by
    simp only [place] at h
    split at h
    · rename_i e; subst e; obtain rfl := Option.some.inj h; rfl
    · split at h
      · rename_i i' hi'; obtain rfl := Option.some.inj h; simpa using place_get hi'
      · simp at h
theorem nodup_get : ∀ {keep : List Nat}, nodupB keep = true → ∀ {i k j : Nat}, keep[i]? = some j → keep[k]? = some j → i = k
  | [], _, i, _, _, h, _ => by simp at h
  | x :: xs, hn, i, k, j, hi, hk => by
    simp only [nodupB, Bool.and_eq_true, Bool.not_eq_true'] at hn
    cases i with
    | zero =>
      cases k with
      | zero => rfl
      | succ k =>
        simp at hi hk
        subst hi
        have := List.mem_of_getElem? hk
        have h2 : xs.contains x = true := by simpa using this
        rw [h2] at hn; simp at hn
    | succ i =>
      cases k with
      | zero =>
        simp at hi hk
        subst hk
        have := List.mem_of_getElem? hi
        have h2 : xs.contains x = true := by simpa using this
        rw [h2] at hn; simp at hn
      | succ k =>
        have := nodup_get hn.2 (i := i) (k := k) (j := j) (by simpa using hi) (by simpa using hk)
        omega
theorem okKeep_of {nl : Nat} {l keep : List Nat} (h : okKeep nl l = some keep) : nodupB keep = true ∧ nl ≤ keep.length ∧ ∀ j, j < nl → keep[j]? = some j := by
  unfold okKeep at h
  split at h
  · rename_i hc
    obtain rfl := Option.some.inj h
    simp only [Bool.and_eq_true, beq_iff_eq] at hc
    have hl := congrArg List.length hc.1
    simp at hl
    refine ⟨hc.2, by omega, fun j hj => ?_⟩
    have := congrArg (fun l => l[j]?) hc.1
    simp only [List.getElem?_take, if_pos hj, List.getElem?_range hj] at this
    exact this
  · simp at h
def gk (g : Nat → Gh) (keep : List Nat) (i : Nat) : Gh := match keep[i]? with | some j => g j | none => .no
theorem gk_place {g : Nat → Gh} {keep : List Nat} : ∀ j i, place keep j = some i → gk g keep i = g j := fun j i h => by
  unfold gk; rw [place_get h]
theorem getD_some {os : List SO} {j : Nat} {o : SO} (h : os.getD j .dead = o) (ho : o ≠ .dead) : os[j]? = some o := by
  rw [List.getD_eq_getElem?_getD] at h
  cases hj : os[j]? with
  | none => rw [hj] at h; exact absurd h.symm ho
  | some x => rw [hj] at h; simp at h; rw [h]
theorem ren_live {ρ : Nat → Option Nat} (o : SO) : (o.ren ρ).isLive = o.isLive := by cases o <;> rfl
theorem gcO_get {keep : List Nat} {os : List SO} {i : Nat} {o : SO} (h : (gcO keep os)[i]? = some o) : ∃ j, keep[i]? = some j ∧ o = (os.getD j .dead).ren (place keep) := by
  unfold gcO at h
  rw [List.getElem?_map] at h
  obtain ⟨j, hj, rfl⟩ := Option.map_eq_some_iff.1 h
  exact ⟨j, hj, rfl⟩
theorem gc_live {os : List SO} {g : Nat → Gh} {keep : List Nat} {i : Nat} {o : SO} {b : Nat} (h : (gcO keep os)[i]? = some o) (hl : o.isLive = true) (hb : (gk g keep i).has b) :
    ∃ j o', keep[i]? = some j ∧ os[j]? = some o' ∧ o = o'.ren (place keep) ∧ o'.isLive = true ∧ (g j).has b := by
  obtain ⟨j, hj, rfl⟩ := gcO_get h
  rw [ren_live] at hl
  have hd : os.getD j .dead ≠ .dead := fun e => by rw [e] at hl; cases hl
  refine ⟨j, _, hj, getD_some rfl hd, rfl, hl, ?_⟩
  unfold gk at hb
  rw [hj] at hb
  exact hb
theorem ObjOK.ren {w : World} {B B' : Nat → Prop} {g g' : Nat → Gh} {ρ : Nat → Option Nat} (hB : ∀ b, B b → B' b) (hρ : ∀ j i, ρ j = some i → g' i = g j) {j i : Nat} {o : SO} (h : ObjOK w B g j o) (hi : g' i = g j) : ObjOK w B' g' i (o.ren ρ) := by
  cases o with
  | dead => trivial
  | frz sz l =>
    rcases h with ⟨a, b⟩ | ⟨b, cap, vs, h1, h2, h3, h4, h5, h6⟩
    · exact .inl ⟨a, by rw [hi]; exact b⟩
    · exact .inr ⟨b, cap, vs, by rw [hi]; exact h1, h2, hB _ h3, h4.mono hB (fun _ _ => rfl) (fun _ h => absurd rfl h), h5, h6⟩
  | arr lt sz l =>
    rcases h with ⟨a, b⟩ | ⟨b, cap, vs, h1, h2, h3, h4, h5, h6⟩
    · exact .inl ⟨a, by rw [hi]; exact b⟩
    · exact .inr ⟨b, cap, vs, by rw [hi]; exact h1, h2, h3.mono hB (fun _ _ => rfl) (fun _ h => absurd rfl h), h4, h5, h6⟩
  | nst lt sz l =>
    rcases h with ⟨a, b⟩ | ⟨b, cap, vs, ins, h1, h2⟩
    · exact .inl ⟨a, by rw [hi]; exact b⟩
    · exact .inr ⟨b, cap, vs, ins, by rw [hi]; exact h1, h2⟩
  | box l =>
    obtain ⟨b, vs, h1, h2, h3, h4, h5⟩ := h
    exact ⟨b, vs, by rw [hi]; exact h1, map_ren (fun x v => ren1_rep hB hρ) h2, h3, h4, h5⟩
theorem gc_sub {fr : Fr} {os : List SO} {g : Nat → Gh} {w : World} (keep : List Nat) : ∀ b, Bk fr os g w b → Bk fr (gcO keep os) (gk g keep) w b := fun b hb =>
  ⟨hb.1, hb.2.1, fun ⟨i, o, hi, hl, hbl⟩ => by
    obtain ⟨j, o', hj, ho, _, hl', hb'⟩ := gc_live hi hl hbl
    exact hb.2.2 ⟨j, o', ho, hl', hb'⟩⟩
theorem gc_mem {fr : Fr} {os : List SO} {g : Nat → Gh} {w : World} (hm : Mem fr os g w) {keep : List Nat} (hn : nodupB keep = true) : Mem fr (gcO keep os) (gk g keep) w where
  objs i o hi := by
    obtain ⟨j, hj, rfl⟩ := gcO_get hi
    by_cases hd : os.getD j .dead = .dead
    · rw [hd]; trivial
    · exact (hm.objs j _ (getD_some rfl hd)).ren (gc_sub keep) gk_place (by unfold gk; rw [hj])
  fresh i hi := by
    unfold gk
    rw [List.getElem?_eq_none (by simpa [gcO] using hi)]
  inj i k oi ok b hi hk li lk bi bk := by
    obtain ⟨j, o', hj, ho, _, hl, hb⟩ := gc_live hi li bi
    obtain ⟨j', o'', hj', ho', _, hl', hb'⟩ := gc_live hk lk bk
    have := hm.inj j j' o' o'' b ho ho' hl hl' hb hb'
    subst this
    exact nodup_get hn hj hj'
  own b := by
    rintro ⟨i, o, hi, hl, hb⟩
    obtain ⟨j, o', hj, ho, _, hl', hb'⟩ := gc_live hi hl hb
    exact hm.own b ⟨j, o', ho, hl', hb'⟩
  mine i sz l b hi hb := by
    obtain ⟨j, o', hj, ho, e, hl', hb'⟩ := gc_live hi rfl hb
    cases o' with
    | arr lt sz' l' => cases e; exact hm.mine j _ _ b ho hb'
    | _ => cases e
  frame := hm.frame
  size := hm.size
  out := hm.out
theorem look_ren (ρ : Nat → Option Nat) (t : Nat) : ∀ (env : Env), look t (renE ρ env) = ren3 ρ (look t env) := by
  intro env
  induction env with
  | nil => rfl
  | cons p ps ih =>
    simp only [renE, look]
    split
    · rfl
    · exact ih
theorem gc_ok : GcOK P := by
  intro fr g0 nl nt env os a w hi keep hk
  obtain ⟨g, m, hs, ht, hd, hl, h0⟩ := hi
  obtain ⟨k1, k2, k3⟩ := okKeep_of hk
  refine ⟨gk g keep, gc_mem m k1, fun t => ?_, ht, hd, by simpa [gcO] using k2, fun j hj hn => ?_⟩
  · rw [look_ren]
    exact ren3_rep (gc_sub keep) gk_place (hs t)
  · unfold gk; rw [k3 j hj]; exact h0 j hj hn
end Go.Proofs.YtebaiioejagfoaaGreatDoor
