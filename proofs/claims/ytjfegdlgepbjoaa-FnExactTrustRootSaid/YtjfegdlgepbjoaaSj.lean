/- The evaluator S: slice literals, make, append, copy. -/
import Derived.Test.YtjfegdlgepbjoaaSi
namespace Go.Proofs.Ytjfegdlgepbjoaa
open Go
set_option linter.unusedVariables false
set_option linter.unusedSimpArgs false
variable {P : Program} {T : Tab}

theorem fill_dense (sz : Nat) : ∀ (qs : List (Nat × Value)) (done : List Value) (rest : List Value) (n : Nat), qs.map (·.1) = List.range' done.length n → (∀ q, q ∈ qs → ElOK sz q.2) → (∀ v : Value, v ∈ done → ElOK sz v) →
    rest.length = qs.length * sz → Instr.fill (fun i => some (i * sz, sz)) (flatV done ++ rest).toArray qs = some (flatV (done ++ qs.map (·.2))).toArray := by
  intro qs
  induction qs with
  | nil =>
    intro done rest n h1 h2 h3 h4
    obtain rfl : rest = [] := by simpa using h4
    simp [Instr.fill]
  | cons q qs ih =>
    intro done rest n h1 h2 h3 h4
    obtain ⟨k, v⟩ := q
    have hv : v.cells.size = sz := (h2 (k, v) (by simp)).1
    cases n with
    | zero => simp at h1
    | succ n =>
      rw [List.range'_succ] at h1
      simp only [List.map_cons, List.cons.injEq] at h1
      obtain ⟨hk, h1⟩ := h1
      subst hk
      have hdl := flatV_length h3
      simp only [List.length_cons, Nat.succ_mul] at h4
      rw [fill_step _ _ done.length (done.length * sz) v qs (by rw [hv]) (by simp [hdl, hv]; omega)]
      have e : ((flatV done ++ rest).toArray.toList.take (done.length * sz) ++ v.cells.toList ++ (flatV done ++ rest).toArray.toList.drop (done.length * sz + v.cells.size)) =
          flatV (done ++ [v]) ++ rest.drop sz := by
        simp only [flatV_append]
        rw [List.take_left' hdl, hv, ← List.drop_drop, List.drop_left' hdl]
        simp [flatV]
      rw [e]
      have := ih (done ++ [v]) (rest.drop sz) n (by simpa using h1) (fun q hq => h2 q (by simp [hq])) (fun u hu => by
        rcases List.mem_append.1 hu with hu | hu
        · exact h3 u hu
        · simp at hu; subst hu; exact h2 (done.length, u) (by simp)) (by simp; omega)
      rw [this]
      simp

theorem buildSlice_rep (hT : TabOk P T) {fr : Fr} {os os1 : List SO} {g : Nat → Gh} {w : World} (hm : Mem fr os g w) {env : Env} {a : Act} (hs : Slots w (Bk fr os g w) g env a.tmps) {t n : Nat} {ps : Array (Nat × Operand)} {y : SV}
    (h : buildSliceS T os t n (ps.toList.map fun p => (p.1, ev env p.2)) = some (y, os1)) :
    ∃ v w', (Instr.buildSlice t n (ps.map fun (i, x) => (i, a.eval x))).run P w = .ok v w' ∧ Res fr os g w os1 y v w' := by
  unfold buildSliceS at h
  split at h
  · rename_i e hu
    split at h
    · rename_i i hi
      split at h
      · rename_i hc
        split at h
        · rename_i l os2 hl
          split at h
          · rename_i hall
            obtain ⟨rfl, rfl⟩ := Prod.mk.inj (Option.some.inj h)
            obtain ⟨info, z, d, i1, i2, i3, i4, i5, i6, i7, i8, i9⟩ := (hT.ti e i hi).ok
            have ht := hT.slice t e hu
            have hrl : RepL w (Bk fr os g w) g ((ps.toList.map fun p => (p.1, ev env p.2)).map (·.2)) (ps.toList.map fun p => a.eval p.2) := by
              simp only [List.map_map]
              refine ⟨by simp, fun k x v hx hv => ?_⟩
              rw [List.getElem?_map] at hx hv
              obtain ⟨p, hp, rfl⟩ := Option.map_eq_some_iff.1 hx
              rw [hp] at hv
              obtain rfl := Option.some.inj hv
              exact ev_rep hs p.2
            obtain ⟨m1, g1, r1, r2⟩ := pureL_rep _ hm hrl hl
            have hn : ps.toList.length = n := by
              have := congrArg List.length hc.1
              simpa using this
            have hll : l.length = n := by rw [r1.1]; simpa using hn
            have hsz : ∀ v : Value, v ∈ ps.toList.map (fun p => a.eval p.2) → ElOK i.size v := by
              intro v hv
              obtain ⟨k, hk, rfl⟩ := List.mem_iff_getElem.1 hv
              have hk' : k < l.length := by rw [r1.1]; exact hk
              have := List.all_eq_true.1 hall _ (List.getElem_mem hk')
              have h2 := r2 k l[k] _ (List.getElem?_eq_getElem hk') (List.getElem?_eq_getElem hk)
              rw [show l[k].cells.length = i.size by simpa using this] at h2
              exact h2
            obtain ⟨g2, m2, gr2, rr⟩ := push_arr m1 (l := l) (junk := []) (sz := i.size) (cap := n) r1 hsz (by omega) (by simp [flatV_length hsz]; rw [show ps.size = n by simpa using hn]) e
            simp only [List.append_nil, hll] at rr gr2 m2
            refine ⟨_, _, ?_, g2, m2, g1.trans gr2, rr⟩
            have hfill : ∀ Z : Array Value, Instr.fill (fun j => some (j * i.size, i.size)) ((Array.range (n * i.size)).map (fun j => Z[j % Z.size]!)) (ps.map fun (i, x) => (i, a.eval x)).toList =
                some (flatV (ps.toList.map fun p => a.eval p.2)).toArray := by
              intro Z
              have := fill_dense i.size (ps.toList.map fun p => (p.1, a.eval p.2)) [] ((Array.range (n * i.size)).map (fun j => Z[j % Z.size]!)).toList n
                (by simp only [List.length_nil, List.map_map]; rw [← List.range_eq_range', ← hc.1]; simp) (fun q hq => hsz q.2 (by
                  obtain ⟨p, hp, rfl⟩ := List.mem_map.1 hq
                  exact List.mem_map.2 ⟨p, hp, rfl⟩)) (fun v hv => by simp at hv) (by simp; rw [show ps.size = n by simpa using hn])
              simp only [flatV, List.flatMap_nil, List.nil_append, Array.toArray_toList, List.map_map] at this
              rw [Array.toList_map]
              exact this
            have hle : ¬ (n * i.size > 2 ^ 24) := by omega
            by_cases h0 : n * i.size = 0
            · have hf := hfill #[]
              rw [h0, Array.toList_map] at hf
              simp only [Instr.buildSlice, Sem.run_bind, run_underlying ht, Result.andThen_ok, run_size i1, i2, h0, if_true, Sem.run_pure, newRow, run_newObj, Array.toList_map]
              rw [if_neg (by omega)]
              simp only [Sem.run_bind, Sem.run_pure, Result.andThen_ok]
              rw [hf]
              rfl
            · have hf := hfill z.cells
              rw [Array.toList_map] at hf
              simp only [Instr.buildSlice, Sem.run_bind, run_underlying ht, Result.andThen_ok, run_size i1, i2, h0, if_false, run_zero i1 i4, Sem.run_pure, newRow, run_newObj, Array.toList_map]
              rw [if_neg hle]
              simp only [Sem.run_bind, Sem.run_pure, Result.andThen_ok, run_zero i1 i4]
              rw [hf]
              rfl
          · simp at h
        · simp at h
      · simp at h
    · simp at h
  · simp at h

theorem made_flat (z : Value) (c : Nat) (hz : 0 < z.cells.size) : (madeCells z.cells (c * z.cells.size)).toList = flatV (List.replicate c z) := by
  induction c with
  | zero => simp [madeCells, flatV]
  | succ c ih =>
    simp only [madeCells, Array.toList_map, Array.toList_range] at ih ⊢
    rw [Nat.succ_mul, List.range_add, List.map_append, ih, List.replicate_succ']
    simp only [flatV_append, List.map_map]
    congr 1
    simp only [flatV, List.flatMap_cons, List.flatMap_nil, List.append_nil]
    apply List.ext_getElem
    · simp
    · intro k h1 h2
      have hk : k < z.cells.size := by simpa using h1
      simp [Nat.mul_comm c, Nat.mod_eq_of_lt hk, hk]

theorem zeroP_rep {w : World} {B : Nat → Prop} : ∀ (zs : List ZK), RepL w B G0 (zeroP zs) (zs.map ZK.val) := by
  intro zs
  induction zs with
  | nil => exact RepL.nil
  | cons z zs ih =>
    by_cases hz : ∃ sz, z = .sl sz
    · obtain ⟨sz, rfl⟩ := hz
      exact RepL.cons .sl0 ih
    · have hz' : ∀ sz, z ≠ .sl sz := fun sz e => hz ⟨sz, e⟩
      have e : zeroP (z :: zs) = .v z.val :: zeroP zs := by
        cases z <;> first | rfl | exact absurd rfl (hz' _)
      rw [e]
      exact RepL.cons (.v (zk_scalar hz')) ih

theorem rep_replicate {w : World} {B : Nat → Prop} {g : Nat → Gh} {x : SV} {v : Value} (h : RepV w B g x v) (n : Nat) : RepL w B g (List.replicate n x) (List.replicate n v) := by
  refine ⟨by simp, fun i y c hy hc => ?_⟩
  have h1 := List.mem_of_getElem? hy
  have h2 := List.mem_of_getElem? hc
  rw [List.eq_of_mem_replicate h1, List.eq_of_mem_replicate h2]
  exact h

theorem make_rep (hT : TabOk P T) {fr : Fr} {os os1 : List SO} {g : Nat → Gh} {w : World} (hm : Mem fr os g w) {t : Nat} {n c y : SV} {nv cv : Value}
    (hn : RepV w (Bk fr os g w) g n nv) (hc : RepV w (Bk fr os g w) g c cv) (h : makeS T os t n c = some (y, os1)) :
    ∃ v w', (Instr.makeSlice t nv cv).run P w = .ok v w' ∧ Res fr os g w os1 y v w' := by
  unfold makeS at h
  split at h
  · rename_i e k n k' c hu
    obtain rfl := v_rep hn
    obtain rfl := v_rep hc
    split at h
    · rename_i i hi
      split at h
      · rename_i hcond
        obtain ⟨c1, c2, c3, c4⟩ := hcond
        split at h
        · rename_i zS hz
          obtain ⟨rfl, rfl⟩ := Prod.mk.inj (Option.some.inj h)
          obtain ⟨info, z, d, i1, i2, i3, i4, i5, i6, i7, i8, i9⟩ := (hT.ti e i hi).ok
          have ht := hT.slice t e hu
          obtain ⟨p1, p2⟩ := pack_rep hz (zeroP_rep (w := w) (B := Bk fr os g w) i.zero)
          have hzc : z.cells.size = i.size := by
            have : z.cells.toList.length = i.size := by rw [i5]; simpa using i9
            simpa using this
          have hzr : RepV w (Bk fr os g w) G0 zS z := by
            cases ha : i.agg with
            | true =>
              have := p1 ha
              obtain ⟨cs, rfl⟩ := i8.1 ha
              rw [← i5] at this
              simpa [Value.cells] using this
            | false =>
              obtain ⟨v, hv, hr⟩ := p2 ha
              rw [← i5, one_cells (i8.2 ha)] at hv
              simp at hv
              rw [hv]; exact hr
          have hz1 : ∀ c, c ∈ z.cells.toList → c.oneCell' = true := fun c hc => by rw [i5] at hc; obtain ⟨q, _, rfl⟩ := List.mem_map.1 hc; exact zk_one q
          have hlenz : (List.replicate n.toNat zS).length = n.toNat := by simp
          have hpos : c.toNat = n.toNat + (c.toNat - n.toNat) := by omega
          have hflat : (madeCells z.cells (c.toNat * i.size)).toList = flatV (List.replicate n.toNat z) ++ (madeCells z.cells (c.toNat * i.size)).toList.drop (n.toNat * i.size) := by
            by_cases h0 : 0 < z.cells.size
            · rw [← hzc, made_flat z c.toNat h0, hpos, ← List.replicate_append_replicate, flatV_append]
              have : (flatV (List.replicate n.toNat z)).length = n.toNat * z.cells.size := by
                rw [flatV_length (sz := z.cells.size) (fun v hv => by rw [List.eq_of_mem_replicate hv]; exact ⟨rfl, hz1⟩), List.length_replicate]
              rw [List.drop_left' this]
            · have e0 : i.size = 0 := by omega
              have e1 : z.cells = #[] := by
                have : z.cells.size = 0 := by omega
                exact Array.eq_empty_of_size_eq_zero this
              have e2 : flatV (List.replicate n.toNat z) = [] := by
                rw [← List.length_eq_zero_iff, flatV_length (sz := 0) (fun v hv => by rw [List.eq_of_mem_replicate hv]; exact ⟨by rw [e1]; rfl, hz1⟩)]; simp
              rw [e0, e2]; simp
          obtain ⟨g2, m2, gr2, rr⟩ := push_arr hm (l := List.replicate n.toNat zS) (junk := (madeCells z.cells (c.toNat * i.size)).toList.drop (n.toNat * i.size)) (sz := i.size) (cap := c.toNat) (rep_replicate hzr n.toNat)
            (fun v hv => by rw [List.eq_of_mem_replicate hv]; exact ⟨hzc, hz1⟩) (by simp; omega) (by rw [← hflat]; simp [size_madeCells]) e
          rw [← hflat, Array.toArray_toList] at rr gr2 m2
          rw [hlenz] at rr
          refine ⟨_, _, run_make w t e info z ht i1 i4 k k' n c c1 c2 (by rw [i3]; omega) (by omega), g2, ?_, ?_, ?_⟩
          all_goals (rw [i2]; first | exact m2 | exact gr2 | exact rr)
        · simp at h
      · simp at h
    · simp at h
  · simp at h

end Go.Proofs.Ytjfegdlgepbjoaa
