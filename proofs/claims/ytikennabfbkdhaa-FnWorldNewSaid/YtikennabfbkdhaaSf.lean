/- The evaluator S and what it says of functions: Se, Sf. -/
import Derived.Test.YtikennabfbkdhaaSd
/- The evaluator S: operations that only read are sound. -/
namespace Go.Proofs.Ytikennabfbkdhaa
open Go
set_option linter.unusedVariables false
set_option linter.unusedSimpArgs false
variable {P : Program} {T : Tab}
theorem cst_rep {w : World} {B : Nat → Prop} {g : Nat → Gh} (v : Value) : RepV w B g (cst v) v := by
  unfold cst
  split
  · exact .sl0
  · split
    · rename_i h; exact .v h
    · exact .dead
theorem ev_rep {w : World} {B : Nat → Prop} {g : Nat → Gh} {env : Env} {a : Act} (hs : Slots w B g env a.tmps) (x : Operand) : RepV w B g (ev env x) (a.eval x) := by
  cases x with
  | tmp t => exact hs t
  | const v => exact cst_rep v
  | func f => exact RepV.fn (caps := []) (vs := []) rfl (fun i x v h => by simp at h)
  | global n => exact .dead
theorem add_rep {w : World} {B : Nat → Prop} {g : Nat → Gh} {p q : SV} {pv : Value} {n : Nat} (hp : RepV w B g p pv) (h : addS p n = some q) :
    ∃ b o, pv = .pointer (some ⟨b, o, none⟩) ∧ RepV w B g q (.pointer (some ⟨b, o + n, none⟩)) := by
  cases p <;> simp only [addS] at h <;> try (simp at h; done)
  · obtain rfl := Option.some.inj h
    cases hp with
    | ptr hp => exact ⟨_, _, rfl, .ptr hp⟩
  · obtain rfl := Option.some.inj h
    cases hp with
    | ap hp => exact ⟨_, _, rfl, by rw [Nat.add_assoc]; exact .ap hp⟩
  · obtain rfl := Option.some.inj h
    cases hp with
    | el h1 h2 h3 => exact ⟨_, _, rfl, by rw [Nat.add_assoc]; exact .el h1 h2 h3⟩
theorem fields_at (hT : TabOk P T) {s f off t : Nat} {u : UK} {fs : List (Nat × Nat)} (hu : T.und s = some u) (hf : u.fields = some fs) (hx : fs[f]? = some (off, t)) :
    ∃ (fields : Array Field) (fd : Field), P.underlying s = some (.struct fields) ∧ fields[f]? = some fd ∧ fd.offset = off ∧ fd.type = t := by
  obtain ⟨fields, h1, h2, _⟩ := hT.struct s u fs hu hf
  rw [← h2, List.getElem?_map] at hx
  obtain ⟨fd, h3, h4⟩ := Option.map_eq_some_iff.1 hx
  refine ⟨fields, fd, h1, by simpa using h3, ?_, ?_⟩ <;> (injection h4)
theorem fieldAddr_rep (hT : TabOk P T) {w : World} {B : Nat → Prop} {g : Nat → Gh} {s f : Nat} {p x : SV} {pv : Value}
    (hp : RepV w B g p pv) (h : fieldAddrS T s p f = some x) : ∃ v, (Instr.fieldAt s pv f).run P w = .ok v w ∧ RepV w B g x v := by
  unfold fieldAddrS at h
  split at h
  · rename_i u hu
    split at h
    · rename_i fs hf
      split at h
      · rename_i off t hx
        split at h
        · rename_i i hi
          split at h
          · simp at h
          · rename_i hz
            obtain ⟨fields, fd, h1, h2, h3, h4⟩ := fields_at hT hu hf hx
            obtain ⟨info, z, d, i1, i2, i3, i4, i5, i6, i7, i8, i9⟩ := (hT.ti t i hi).ok
            obtain ⟨b, o, rfl, hr⟩ := add_rep hp h
            refine ⟨_, ?_, hr⟩
            have i1' : P.info? fd.type = some info := by rw [h4]; exact i1
            have hz' : ¬ info.size = 0 := by rw [i2]; exact hz
            simp [Instr.fieldAt, run_underlying h1, h2, Instr.sureAddr, fieldPlace, run_size i1', hz', Addr.add_lit, h3]
        · simp at h
      · simp at h
    · simp at h
  · simp at h
theorem run_part_agg {t : Nat} {i : TI} (hi : TiOk P t i) (w : World) (vs : List Value) (off : Nat) :
    (i.agg = true → (part t vs.toArray off).run P w = .ok (.agg ((vs.drop off).take i.size).toArray) w) ∧
    (∀ v, i.agg = false → vs[off]? = some v → (part t vs.toArray off).run P w = .ok v w) := by
  obtain ⟨info, z, d, i1, i2, i3, i4, i5, i6, i7, i8, i9⟩ := hi.ok
  refine ⟨fun ha => ?_, fun v ha hv => ?_⟩
  · simp only [part, Sem.run_bind, run_agg i6, i7, ha, Result.andThen_ok, if_true, run_size i1, Sem.run_pure]
    congr 2
    rw [i2]
    apply Array.ext'
    simp [List.take_drop, Nat.add_comm]
  · simp only [part, Sem.run_bind, run_agg i6, i7, ha, Result.andThen_ok, Bool.false_eq_true, if_false]
    simp [hv]
theorem field_rep (hT : TabOk P T) {w : World} {B : Nat → Prop} {g : Nat → Gh} {s f : Nat} {p x : SV} {pv : Value}
    (hp : RepV w B g p pv) (h : fieldS T s p f = some x) : ∃ v, (Instr.field s pv f).run P w = .ok v w ∧ RepV w B g x v := by
  unfold fieldS at h
  split at h
  · rename_i u hu
    split at h
    · rename_i fs hf
      split at h
      · rename_i off t hx
        split at h
        · rename_i i l hi
          split at h
          · rename_i hle
            obtain ⟨fields, fd, h1, h2, h3, h4⟩ := fields_at hT hu hf hx
            have hti := hT.ti t i hi
            cases hp with
            | ag a1 a2 a3 =>
              rename_i vs
              have hr : RepL w B g ((l.drop off).take i.size) ((vs.drop off).take i.size) := (RepL.drop ⟨a1, a2⟩ off).take i.size
              obtain ⟨q1, q2⟩ := run_part_agg (P := P) hti w vs off
              obtain ⟨p1, p2⟩ := pack_rep h hr
              cases ha : i.agg with
              | true => exact ⟨_, by simp [Instr.field, run_underlying h1, h2, asAgg, h3, h4, q1 ha], p1 ha⟩
              | false =>
                obtain ⟨v, hv, hv'⟩ := p2 ha
                refine ⟨v, ?_, hv'⟩
                have hv2 : vs[off]? = some v := by
                  rw [List.getElem?_take] at hv
                  split at hv
                  · rw [List.getElem?_drop] at hv; simpa using hv
                  · simp at hv
                have := q2 v ha hv2
                simp [Instr.field, run_underlying h1, h2, asAgg, h3, h4, this]
          · simp at h
        · simp at h
      · simp at h
    · simp at h
  · simp at h
theorem int_rep {w : World} {B : Nat → Prop} {g : Nat → Gh} {v : Value} {k : IntKind} {n : Int} (h : RepV w B g (.v (.int k n)) v) : v = .int k n := by
  cases h; rfl
theorem G0_any {w : World} {B : Nat → Prop} {g : Nat → Gh} {x : SV} {v : Value} (h : RepV w B G0 x v) : RepV w B g x v :=
  h.mono (fun _ h => h) (fun _ _ => rfl) g (fun j hj => absurd rfl hj)
theorem run_indexAt_of {t e : Nat} {info : TypeInfo} (ht : P.underlying t = some (.slice e)) (he : P.info? e = some info) (w : World) (b o len c : Nat) (k : IntKind) (n : Int)
    (h0 : 0 ≤ n) (h1 : n < (len : Int)) :
    (Instr.indexAt t (.slice (some ⟨b, o, none⟩) len c) (.int k n)).run P w = .ok (.pointer (some ⟨b, o + n.toNat * info.size, none⟩)) w := by
  simp [Instr.indexAt, asIntOf, run_underlying ht, h0, h1, run_size he, Addr.add_lit]
theorem elS_rep {w : World} {B : Nat → Prop} {l : List SV} {vs : List Value} {sz b o : Nat} (h1 : l.length = vs.length) (h2 : ∀ (i : Nat) (x : SV) (v : Value), l[i]? = some x → vs[i]? = some v → RepV w B G0 x v)
    (h3 : ∀ v : Value, v ∈ vs → ElOK sz v) (h4 : CellsAt w b o (flatV vs)) (h5 : B b) {i : Nat} {x : SV} (h : elS l i = some x) {g : Nat → Gh} :
    RepV w B g x (.pointer (some ⟨b, o + i * sz, none⟩)) ∧ i < l.length := by
  unfold elS at h
  split at h
  · rename_i y hy
    obtain rfl := Option.some.inj h
    obtain ⟨u, hu, hr⟩ := RepL.get ⟨h1, h2⟩ hy
    have := RepV.el (g := g) (k := 0) hr (flatV_elem h3 hu h4) h5
    refine ⟨by simpa using this, ?_⟩
    rcases Nat.lt_or_ge i l.length with h' | h'
    · exact h'
    · simp [List.getElem?_eq_none h'] at hy
  · simp at h
theorem indexAddr_rep (hT : TabOk P T) {fr : Fr} {os : List SO} {g : Nat → Gh} {w : World} (hm : Mem fr os g w) {t : Nat} {x i r : SV} {xv iv : Value}
    (hx : RepV w (Bk fr os g w) g x xv) (hi : RepV w (Bk fr os g w) g i iv) (h : indexAddrS T os t x i = some r) :
    ∃ v, (Instr.indexAt t xv iv).run P w = .ok v w ∧ RepV w (Bk fr os g w) g r v := by
  unfold indexAddrS at h
  split at h
  · rename_i k n
    obtain rfl := int_rep hi
    split at h
    · rename_i e hu
      have ht := hT.slice t e hu
      split at h
      · rename_i q hq
        obtain ⟨info, z, d, i1, i2, i3, i4, i5, i6, i7, i8, i9⟩ := (hT.ti e q hq).ok
        split at h
        · rename_i sz l
          split at h
          · rename_i h0
            obtain ⟨h0, rfl⟩ := h0
            cases hx with
            | sl0 => simp [elS] at h
            | sl h1 h2 h3 h4 h5 h6 =>
              obtain ⟨hr, hlt⟩ := elS_rep h1 h2 h3 h4 h5 h (g := g)
              exact ⟨_, run_indexAt_of ht i1 w _ _ _ _ k n h0 (by omega), by rw [i2]; exact hr⟩
          · simp at h
        · rename_i j
          split at h
          · rename_i lt sz l hj
            split at h
            · rename_i hc
              obtain ⟨h0, h1, rfl⟩ := hc
              obtain rfl := Option.some.inj h
              rcases hm.objs _ _ hj with ⟨rfl, _⟩ | ⟨b, cap, vs, e1, e2, e3, e4, e5, e6⟩
              · simp at h1; omega
              · cases hx with
                | osl0 hg => rw [e1] at hg; cases hg
                | osln hq9 => exfalso; first | (rw [hn] at hq9; cases hq9) | (rw [e1] at hq9; cases hq9) | (rw [hg] at hq9; cases hq9) | (rw [h1] at hq9; cases hq9) | (simp_all; done)
                | osl hg =>
                  rw [e1] at hg
                  cases hg
                  refine ⟨_, run_indexAt_of ht i1 w _ _ _ _ k n h0 h1, ?_⟩
                  rw [i2, Nat.zero_add]
                  simpa using RepV.ap (w := w) (B := Bk fr os g w) (i := n.toNat) (o := 0) e1
            · simp at h
          · rename_i sz l hj
            split at h
            · rename_i h0
              obtain ⟨h0, rfl⟩ := h0
              rcases hm.objs _ _ hj with ⟨rfl, _⟩ | ⟨b, cap, vs, e1, e2, e3, e4, e5, e6⟩
              · simp [elS] at h
              · cases hx with
                | osl0 hg => rw [e1] at hg; cases hg
                | osln hq9 => exfalso; first | (rw [hn] at hq9; cases hq9) | (rw [e1] at hq9; cases hq9) | (rw [hg] at hq9; cases hq9) | (rw [h1] at hq9; cases hq9) | (simp_all; done)
                | osl hg =>
                  rw [e1] at hg
                  cases hg
                  obtain ⟨hr, hlt⟩ := elS_rep e4.1 e4.2 e5 e6 e3 h (g := g)
                  exact ⟨_, run_indexAt_of ht i1 w _ _ _ _ k n h0 (by omega), by rw [i2]; exact hr⟩
            · simp at h
          · simp at h
        · rename_i j lo hi'
          split at h
          · rename_i lt sz l hj
            split at h
            · rename_i hc
              obtain ⟨h0, h1, h2, h3, rfl⟩ := hc
              obtain rfl := Option.some.inj h
              cases hx with
              | vw0 => simp at h1; omega
              | vw hg a1 a2 a3 =>
                rcases hm.objs _ _ hj with ⟨rfl, hn⟩ | ⟨b, cap, vs, e1, e2, e3, e4, e5, e6⟩
                · rw [hn] at hg; cases hg
                · rw [e1] at hg
                  cases hg
                  refine ⟨_, run_indexAt_of ht i1 w _ _ _ _ k n h0 h1, ?_⟩
                  rw [i2, ← Nat.add_mul]
                  simpa using RepV.ap (w := w) (B := Bk fr os g w) (i := lo + n.toNat) (o := 0) e1
            · simp at h
          · simp at h
        · simp at h
      · simp at h
    · rename_i kk e hu
      have ht := hT.array t kk e hu
      split at h
      · rename_i q hq
        obtain ⟨info, z, d, i1, i2, i3, i4, i5, i6, i7, i8, i9⟩ := (hT.ti e q hq).ok
        split at h
        · rename_i hc
          obtain ⟨b, o, rfl, hr⟩ := add_rep hx h
          refine ⟨_, ?_, hr⟩
          simp [Instr.indexAt, asIntOf, run_underlying ht, Instr.sureAddr, hc.1, hc.2, run_size i1, Addr.add_lit, i2]
        · simp at h
      · simp at h
    · simp at h
  · simp at h
theorem index_rep (hT : TabOk P T) {w : World} {B : Nat → Prop} {g : Nat → Gh} {t : Nat} {x i r : SV} {xv iv : Value}
    (hx : RepV w B g x xv) (hi : RepV w B g i iv) (h : indexS T t x i = some r) :
    ∃ v, (Instr.index t xv iv).run P w = .ok v w ∧ RepV w B g r v := by
  unfold indexS at h
  split at h
  · rename_i s k n hu
    obtain rfl := int_rep hi
    cases hx
    split at h
    · rename_i h0
      split at h
      · rename_i b hb
        obtain rfl := Option.some.inj h
        exact ⟨.int .u8 b.toNat, by simp [Instr.index, asIntOf, run_underlying (hT.str t hu), h0, hb], .v rfl⟩
      · simp at h
    · simp at h
  · simp at h
theorem bound_of {w : World} {B : Nat → Prop} {g : Nat → Gh} {n d : Nat} {x : Option SV} {v : Option Value} {r : Nat} (h : boundS n d x = some r)
    (hn : x = none → v = none) (hs : ∀ y, x = some y → ∃ u, v = some u ∧ RepV w B g y u) :
    (v = none ∧ r = d) ∨ ∃ k i, v = some (.int k i) ∧ 0 ≤ i ∧ i ≤ (n : Int) ∧ r = i.toNat := by
  unfold boundS at h
  split at h
  · exact .inl ⟨hn rfl, (Option.some.inj h).symm⟩
  · rename_i k i
    split at h
    · rename_i hc
      obtain ⟨u, rfl, hu⟩ := hs _ rfl
      exact .inr ⟨k, i, by rw [int_rep hu], hc.1, hc.2, (Option.some.inj h).symm⟩
    · simp at h
  · simp at h
theorem run_sliceBound_of {w : World} (k : IntKind) (i : Int) (y : Nat) (code : BoundsCode) (h0 : 0 ≤ i) (h1 : i ≤ (y : Int)) :
    (Instr.sliceBound (.int k i) y code).run P w = .ok i.toNat w := by
  simp [Instr.sliceBound, asIntOf, h0, h1]
theorem run_sliceBounds_of {w : World} {B : Nat → Prop} {g : Nat → Gh} {isSlice : Bool} {len cap : Nat} {lo hi : Option SV} {lov hiv : Option Value} {l h : Nat} (hc : len ≤ cap)
    (hh : boundS len len hi = some h) (hl : boundS h 0 lo = some l) (hin : hi = none → hiv = none) (his : ∀ y, hi = some y → ∃ u, hiv = some u ∧ RepV w B g y u)
    (lon : lo = none → lov = none) (los : ∀ y, lo = some y → ∃ u, lov = some u ∧ RepV w B g y u) :
    (Instr.sliceBounds isSlice len cap lov hiv none).run P w = .ok (l, h, cap) w ∧ l ≤ h ∧ h ≤ len := by
  rcases bound_of hh hin his with ⟨rfl, rfl⟩ | ⟨k, i, rfl, i0, i1, rfl⟩
  · rcases bound_of hl lon los with ⟨rfl, rfl⟩ | ⟨k', i', rfl, j0, j1, rfl⟩
    · exact ⟨by simp [Instr.sliceBounds], by omega, by omega⟩
    · exact ⟨by simp [Instr.sliceBounds, run_sliceBound_of k' i' _ _ j0 j1], by omega, by omega⟩
  · rcases bound_of hl lon los with ⟨rfl, rfl⟩ | ⟨k', i', rfl, j0, j1, rfl⟩
    · exact ⟨by simp [Instr.sliceBounds, run_sliceBound_of k i _ _ i0 (show i ≤ (cap : Int) by omega)], by omega, by omega⟩
    · exact ⟨by simp [Instr.sliceBounds, run_sliceBound_of k i _ _ i0 (show i ≤ (cap : Int) by omega), run_sliceBound_of k' i' _ _ j0 j1], by omega, by omega⟩
theorem sl_part {w : World} {B : Nat → Prop} {l : List SV} {vs : List Value} {sz b o c : Nat} (h1 : l.length = vs.length) (h2 : ∀ (i : Nat) (x : SV) (v : Value), l[i]? = some x → vs[i]? = some v → RepV w B G0 x v)
    (h3 : ∀ v : Value, v ∈ vs → ElOK sz v) (h4 : CellsAt w b o (flatV vs)) (h5 : B b) (h6 : l.length ≤ c) {lo hi : Nat} (hl : lo ≤ hi) (hh : hi ≤ l.length) {g : Nat → Gh} :
    RepV w B g (.sl sz ((l.take hi).drop lo)) (.slice (if c = lo then some ⟨b, o, none⟩ else some ⟨b, o + lo * sz, none⟩) (hi - lo) (c - lo)) := by
  by_cases e : lo = hi
  · subst e
    rw [Nat.sub_self, List.drop_eq_nil_of_le (by simp; omega)]
    exact .sl0
  · have hlt : lo < hi := by omega
    rw [if_neg (by omega)]
    have e2 : hi - lo = ((l.take hi).drop lo).length := by simp; omega
    rw [e2]
    refine .sl (vs := (vs.take hi).drop lo) (sz := sz) (by simp [h1]) ?_ ?_ ?_ h5 (by simp; omega)
    · exact (RepL.drop (RepL.take ⟨h1, h2⟩ hi) lo).2
    · intro v hv; exact h3 v (List.mem_of_mem_take (List.mem_of_mem_drop hv))
    · have := (h4.take (hi * sz)).drop (lo * sz)
      rw [flatV_take h3, flatV_drop (fun v hv => h3 v (List.mem_of_mem_take hv))] at this
      exact this
theorem run_slice_of {t e : Nat} {info : TypeInfo} (ht : P.underlying t = some (.slice e)) (he : P.info? e = some info) {w : World} {a : Option Addr} {n c l h : Nat} {lov hiv : Option Value}
    (hb : (Instr.sliceBounds true n c lov hiv none).run P w = .ok (l, h, c) w) :
    (Instr.sliceAt t (.slice a n c) lov hiv none).run P w = .ok (.slice (if c = l then a else a.map (·.add (l * info.size))) (h - l) (c - l)) w := by
  simp [Instr.sliceAt, run_underlying ht, Instr.slice, hb, run_size he]
theorem slice_rep (hT : TabOk P T) {fr : Fr} {os : List SO} {g : Nat → Gh} {w : World} (hm : Mem fr os g w) {t : Nat} {x r : SV} {xv : Value} {lo hi : Option SV} {lov hiv : Option Value}
    (hx : RepV w (Bk fr os g w) g x xv) (hin : hi = none → hiv = none) (his : ∀ y, hi = some y → ∃ u, hiv = some u ∧ RepV w (Bk fr os g w) g y u)
    (lon : lo = none → lov = none) (los : ∀ y, lo = some y → ∃ u, lov = some u ∧ RepV w (Bk fr os g w) g y u) (h : sliceS T os t x lo hi = some r) :
    ∃ v, (Instr.sliceAt t xv lov hiv none).run P w = .ok v w ∧ RepV w (Bk fr os g w) g r v := by
  unfold sliceS at h
  split at h
  · rename_i hu
    have ht := hT.str t hu
    split at h
    · rename_i s
      cases hx
      split at h
      · rename_i hh hhe
        split at h
        · rename_i ll hle
          obtain rfl := Option.some.inj h
          obtain ⟨h1, h2, h3⟩ := run_sliceBounds_of (P := P) (w := w) (isSlice := false) (Nat.le_refl s.size) hhe hle hin his lon los
          exact ⟨.string (s.extract ll hh), by simp [Instr.sliceAt, run_underlying ht, Instr.slice, h1], .v rfl⟩
        · simp at h
      · simp at h
    · simp at h
  · rename_i e hu
    have ht := hT.slice t e hu
    split at h
    · rename_i q hq
      obtain ⟨info, z, d, i1, i2, i3, i4, i5, i6, i7, i8, i9⟩ := (hT.ti e q hq).ok
      split at h
      · rename_i j
        split at h
        · rename_i lt sz l hj
          split at h
          · rename_i hh hhe
            split at h
            · rename_i ll hle
              split at h
              · rename_i hsz
                subst hsz
                obtain rfl := Option.some.inj h
                rcases hm.objs _ _ hj with ⟨rfl, hn⟩ | ⟨b, cap, vs, e1, e2, e3, e4, e5, e6⟩
                · cases hx with
                  | osl0 _ =>
                    obtain ⟨h1, h2, h3⟩ := run_sliceBounds_of (P := P) (w := w) (isSlice := true) (Nat.le_refl 0) hhe hle hin his lon los
                    have : hh = 0 := by simpa using h3
                    subst this
                    obtain rfl : ll = 0 := by omega
                    exact ⟨_, run_slice_of ht i1 h1, by simpa using RepV.vw0⟩
                  | osln hq9 => exfalso; first | (rw [hn] at hq9; cases hq9) | (rw [e1] at hq9; cases hq9) | (rw [hg] at hq9; cases hq9) | (rw [h1] at hq9; cases hq9) | (simp_all; done)
                  | osl hg => rw [hn] at hg; cases hg
                · cases hx with
                  | osl0 hg => rw [e1] at hg; cases hg
                  | osln hq9 => exfalso; first | (rw [hn] at hq9; cases hq9) | (rw [e1] at hq9; cases hq9) | (rw [hg] at hq9; cases hq9) | (rw [h1] at hq9; cases hq9) | (simp_all; done)
                  | osl hg =>
                    rw [e1] at hg
                    cases hg
                    obtain ⟨h1, h2, h3⟩ := run_sliceBounds_of (P := P) (w := w) (isSlice := true) e2 hhe hle hin his lon los
                    refine ⟨_, run_slice_of ht i1 h1, ?_⟩
                    by_cases hlc : cap = ll
                    · obtain rfl : hh = ll := by omega
                      rw [Nat.sub_self]; exact .vw0
                    · rw [if_neg hlc, i2]
                      simp only [Option.map_some, Addr.add_lit, Nat.zero_add]
                      exact .vw e1 h2 h3 (by omega)
              · simp at h
            · simp at h
          · simp at h
        · rename_i sz l hj
          split at h
          · rename_i hh hhe
            split at h
            · rename_i ll hle
              split at h
              · rename_i hsz
                subst hsz
                obtain rfl := Option.some.inj h
                rcases hm.objs _ _ hj with ⟨rfl, hn⟩ | ⟨b, cap, vs, e1, e2, e3, e4, e5, e6⟩
                · cases hx with
                  | osl0 _ =>
                    obtain ⟨h1, h2, h3⟩ := run_sliceBounds_of (P := P) (w := w) (isSlice := true) (Nat.le_refl 0) hhe hle hin his lon los
                    have : hh = 0 := by simpa using h3
                    subst this
                    obtain rfl : ll = 0 := by omega
                    exact ⟨_, run_slice_of ht i1 h1, by simpa using RepV.sl0⟩
                  | osln hq9 => exfalso; first | (rw [hn] at hq9; cases hq9) | (rw [e1] at hq9; cases hq9) | (rw [hg] at hq9; cases hq9) | (rw [h1] at hq9; cases hq9) | (simp_all; done)
                  | osl hg => rw [hn] at hg; cases hg
                · cases hx with
                  | osl0 hg => rw [e1] at hg; cases hg
                  | osln hq9 => exfalso; first | (rw [hn] at hq9; cases hq9) | (rw [e1] at hq9; cases hq9) | (rw [hg] at hq9; cases hq9) | (rw [h1] at hq9; cases hq9) | (simp_all; done)
                  | osl hg =>
                    rw [e1] at hg
                    cases hg
                    obtain ⟨h1, h2, h3⟩ := run_sliceBounds_of (P := P) (w := w) (isSlice := true) e2 hhe hle hin his lon los
                    refine ⟨_, run_slice_of ht i1 h1, ?_⟩
                    have := sl_part e4.1 e4.2 e5 e6 e3 e2 h2 h3 (g := g)
                    simpa [i2, Addr.add_lit] using this
              · simp at h
            · simp at h
          · simp at h
        · simp at h
      · rename_i sz l
        split at h
        · rename_i hh hhe
          split at h
          · rename_i ll hle
            split at h
            · rename_i hsz
              subst hsz
              obtain rfl := Option.some.inj h
              cases hx with
              | sl0 =>
                rename_i a c
                obtain ⟨h1, h2, h3⟩ := run_sliceBounds_of (P := P) (w := w) (isSlice := true) (Nat.zero_le c) hhe hle hin his lon los
                have : hh = 0 := by simpa using h3
                subst this
                obtain rfl : ll = 0 := by omega
                exact ⟨_, run_slice_of ht i1 h1, by simpa using RepV.sl0⟩
              | sl b1 b2 b3 b4 b5 b6 =>
                obtain ⟨h1, h2, h3⟩ := run_sliceBounds_of (P := P) (w := w) (isSlice := true) b6 hhe hle hin his lon los
                refine ⟨_, run_slice_of ht i1 h1, ?_⟩
                have := sl_part b1 b2 b3 b4 b5 b6 h2 h3 (g := g)
                simpa [i2, Addr.add_lit] using this
            · simp at h
          · simp at h
        · simp at h
      · simp at h
    · simp at h
  · simp at h
theorem slice3_rep (hT : TabOk P T) {w : World} {B : Nat → Prop} {g : Nat → Gh} {t : Nat} {x hi m r : SV} {xv hv mv : Value} (hx : RepV w B g x xv) (hh : RepV w B g hi hv) (hm : RepV w B g m mv) (h : slice3S T t x hi m = some r) :
    ∃ v, (Instr.sliceAt t xv none (some hv) (some mv)).run P w = .ok v w ∧ RepV w B g r v := by
  unfold slice3S at h
  split at h
  · rename_i e hu
    have ht := hT.slice t e hu
    split at h
    · rename_i q hq
      obtain ⟨info, z, d, i1, i2, i3, i4, i5, i6, i7, i8, i9⟩ := (hT.ti e q hq).ok
      split at h
      · rename_i sz l k1 n1 k2 n2
        split at h
        · rename_i hc
          obtain ⟨rfl, rfl⟩ := hc
          obtain rfl := Option.some.inj h
          rw [int_rep hh, int_rep hm]
          have run : ∀ (a : Option Addr) (c : Nat), l.length ≤ c → (Instr.sliceAt t (.slice a l.length c) none (some (.int k1 (l.length : Int))) (some (.int k2 (l.length : Int)))).run P w = .ok (.slice (if l.length = 0 then a else a.map (·.add (0 * info.size))) (l.length - 0) (l.length - 0)) w := fun a c hc => by
            have b1 := run_sliceBound_of (P := P) (w := w) k2 (l.length : Int) c .slice3Acap (by omega) (by omega)
            have b2 := run_sliceBound_of (P := P) (w := w) k1 (l.length : Int) l.length .slice3B (by omega) (by omega)
            rw [Int.toNat_natCast] at b1 b2
            simp [Instr.sliceAt, run_underlying ht, Instr.slice, Instr.sliceBounds, b1, b2, run_size i1]
          have hadd : ∀ (b o : Nat), (if l.length = 0 then (some (⟨b, o, none⟩ : Addr)) else (some (⟨b, o, none⟩ : Addr)).map (·.add (0 * info.size))) = some ⟨b, o, none⟩ := fun b o => by
            split
            · rfl
            · simp [Addr.add_lit]
          cases hx with
          | sl0 => exact ⟨_, run _ _ (Nat.zero_le _), .sl0⟩
          | sl h1 h2 h3 h4 h5 h6 =>
            refine ⟨_, run _ _ h6, ?_⟩
            rw [hadd, Nat.sub_zero]
            exact .sl h1 h2 h3 h4 h5 (Nat.le_refl _)
        · simp at h
      · simp at h
    · simp at h
  · simp at h
end Go.Proofs.Ytikennabfbkdhaa

/- The evaluator S: arithmetic, comparisons, conversions that make nothing. -/
namespace Go.Proofs.Ytikennabfbkdhaa
open Go
set_option linter.unusedVariables false
set_option linter.unusedSimpArgs false
variable {P : Program} {T : Tab}
theorem v_rep {w : World} {B : Nat → Prop} {g : Nat → Gh} {x v : Value} (h : RepV w B g (.v x) v) : v = x := by cases h; rfl
theorem run_add {w : World} {t : Nat} {k : IntKind} {a b : Int} : (binOp .add t (.int k a) (.int k b)).run P w = .ok (.int k (k.wrap (a + b))) w := by
  rw [binOp_add]; simp [Op.intArith]
theorem bin_rep (hT : TabOk P T) {w : World} {B : Nat → Prop} {g : Nat → Gh} {op : BinOp} {t : Nat} {x y r : SV} {xv yv : Value} {xo yo : Operand}
    (hx : RepV w B g x xv) (hy : RepV w B g y yv) (h : binS T op t x y = some r) :
    ∃ v, (do eqGuard op t xo yo xv yv; binOp op t xv yv : Sem Value).run P w = .ok v w ∧ RepV w B g r v := by
  unfold binS at h
  split at h
  · rename_i k a k' b
    obtain rfl := v_rep hx
    obtain rfl := v_rep hy
    have key : ∀ op, (op = .shl → False) → (op = .shr → False) → (if k = k' then intBin op k a b else none) = some r →
        ∃ v, (do eqGuard op t xo yo (.int k a) (.int k' b); binOp op t (.int k a) (.int k' b) : Sem Value).run P w = .ok v w ∧ RepV w B g r v := by
      intro op _ _ h
      split at h
      · rename_i hk
        subst hk
        cases op <;> simp only [intBin] at h <;> first
          | (simp at h; done)
          | (split at h <;> first
              | (simp at h; done)
              | (rename_i hb; obtain rfl := Option.some.inj h; exact ⟨_, by simp [eqGuard_at_int, binOp, Op.intDiv, hb], .v rfl⟩))
          | (obtain rfl := Option.some.inj h; exact ⟨_, by simp [eqGuard_at_int, binOp, Op.intArith, Op.intCmp, Op.intBits], .v rfl⟩)
      · simp at h
    split at h
    · simp at h
    · split at h
      · simp at h
      · rename_i hb
        obtain rfl := Option.some.inj h
        exact ⟨_, by simp [eqGuard_at_int, binOp, Op.shift, hb], .v rfl⟩
    · rename_i h1 h2
      exact key op h1 h2 h
  · rename_i a b
    obtain rfl := v_rep hx
    obtain rfl := v_rep hy
    unfold strBin at h
    split at h
    · split at h
      · simp at h
      · rename_i hl
        obtain rfl := Option.some.inj h
        refine ⟨.string (a ++ b), ?_, .v rfl⟩
        simp only [eqGuard_add, binOp, Op.stringOp, Sem.run_bind, Sem.run_pure, Result.andThen_ok]
        rw [if_neg hl]; rfl
    · obtain rfl := Option.some.inj h
      exact ⟨_, by simp [eqGuard_at_string, binOp, Op.stringOp], .v rfl⟩
    · obtain rfl := Option.some.inj h
      exact ⟨_, by simp [eqGuard_at_string, binOp, Op.stringOp], .v rfl⟩
    · simp at h
  · rename_i a b
    obtain rfl := v_rep hx
    obtain rfl := v_rep hy
    split at h
    · rename_i hu
      obtain rfl := Option.some.inj h
      exact ⟨_, by simp [eqGuard_at_bool, run_eql_bool _ _ _ _ (hT.bool t hu)], .v rfl⟩
    · rename_i hu
      obtain rfl := Option.some.inj h
      exact ⟨_, by simp [eqGuard_at_bool, run_neq_bool _ _ _ _ (hT.bool t hu)], .v rfl⟩
    · simp at h
  · rename_i a b
    cases hx with
    | ag a1 a2 a3 =>
      rename_i va
      cases hy with
      | ag b1 b2 b3 =>
        rename_i vb
        have conv : ∀ (a b : List SV) (va vb : List Value) (r : Bool), RepL w B g a va → RepL w B g b vb → sameInts a b = some r → intsEq va vb = some r := by
          intro a
          induction a with
          | nil =>
            intro b va vb r ha hb h
            cases b with
            | nil =>
              have := ha.1; have := hb.1
              cases va <;> simp at *
              cases vb <;> simp at *
              simpa [sameInts, intsEq] using h
            | cons => simp [sameInts] at h
          | cons x a ih =>
            intro b va vb r ha hb h
            cases b with
            | nil => cases x <;> simp [sameInts] at h
            | cons y b =>
              obtain ⟨u, va', rfl, hu, ha'⟩ := ha.uncons
              obtain ⟨u', vb', rfl, hu', hb'⟩ := hb.uncons
              unfold sameInts at h
              split at h
              · simp_all
              · rename_i k p xs k' q ys e1 e2
                cases e1; cases e2
                obtain rfl := v_rep hu
                obtain rfl := v_rep hu'
                split at h
                · rename_i hk
                  subst hk
                  split at h
                  · rename_i r' hr'
                    have := ih b va' vb' r' ha' hb' hr'
                    simpa [intsEq, this] using h
                  · simp at h
                · simp at h
              · simp at h
        split at h
        · rename_i fs i hu hi
          obtain ⟨e1, e2⟩ := hT.eqs t fs i hu hi
          split at h
          · rename_i hz
            split at h
            · rename_i r' hr'
              obtain rfl := Option.some.inj h
              have := e2 va vb r' w (conv a b va vb r' ⟨a1, a2⟩ ⟨b1, b2⟩ hr') (by rw [← a1]; exact hz)
              exact ⟨.bool r', by simp [eqGuard, e1, binOp, this], .v rfl⟩
            · simp at h
          · simp at h
        · rename_i fs i hu hi
          obtain ⟨e1, e2⟩ := hT.eqs t fs i hu hi
          split at h
          · rename_i hz
            split at h
            · rename_i r' hr'
              obtain rfl := Option.some.inj h
              have := e2 va vb r' w (conv a b va vb r' ⟨a1, a2⟩ ⟨b1, b2⟩ hr') (by rw [← a1]; exact hz)
              exact ⟨.bool (!r'), by simp [eqGuard, e1, binOp, this], .v rfl⟩
            · simp at h
          · simp at h
        · simp at h
  · simp at h
theorem un_rep {w : World} {B : Nat → Prop} {g : Nat → Gh} {op : UnOp} {x r : SV} {xv : Value} (hx : RepV w B g x xv) (h : unS op x = some r) :
    ∃ v, (Op.unary op xv).run P w = .ok v w ∧ RepV w B g r v := by
  unfold unS at h
  split at h
  · obtain rfl := Option.some.inj h; obtain rfl := v_rep hx; exact ⟨_, rfl, .v rfl⟩
  · obtain rfl := Option.some.inj h; obtain rfl := v_rep hx; exact ⟨_, rfl, .v rfl⟩
  · simp at h
theorem elems_rep {fr : Fr} {os : List SO} {g : Nat → Gh} {w : World} (hm : Mem fr os g w) {x : SV} {xv : Value} {sz : Nat} {l : List SV}
    (hx : RepV w (Bk fr os g w) g x xv) (h : elems os x = some (sz, l)) :
    ∃ a c, xv = .slice a l.length c ∧ l.length ≤ c ∧ (l = [] ∨ ∃ b o vs, a = some ⟨b, o, none⟩ ∧ RepL w (Bk fr os g w) G0 l vs ∧ (∀ v : Value, v ∈ vs → ElOK sz v) ∧ CellsAt w b o (flatV vs)) := by
  have part : ∀ {l : List SV} {vs : List Value} {b : Nat} {lo hi : Nat}, RepL w (Bk fr os g w) G0 l vs → (∀ v : Value, v ∈ vs → ElOK sz v) → CellsAt w b 0 (flatV vs) →
      RepL w (Bk fr os g w) G0 ((l.take hi).drop lo) ((vs.take hi).drop lo) ∧ (∀ v : Value, v ∈ (vs.take hi).drop lo → ElOK sz v) ∧ CellsAt w b (lo * sz) (flatV ((vs.take hi).drop lo)) := by
    intro l vs b lo hi h1 h2 h3
    refine ⟨(h1.take hi).drop lo, fun v hv => h2 v (List.mem_of_mem_take (List.mem_of_mem_drop hv)), ?_⟩
    have := (h3.take (hi * sz)).drop (lo * sz)
    rw [flatV_take h2, flatV_drop (fun v hv => h2 v (List.mem_of_mem_take hv))] at this
    simpa using this
  unfold elems at h
  split at h
  · obtain ⟨rfl, rfl⟩ := Prod.mk.inj (Option.some.inj h)
    cases hx with
    | sl0 => exact ⟨_, _, rfl, Nat.zero_le _, .inl rfl⟩
    | sl h1 h2 h3 h4 h5 h6 => exact ⟨_, _, rfl, h6, .inr ⟨_, _, _, rfl, ⟨h1, h2⟩, h3, h4⟩⟩
  · rename_i j
    split at h
    · rename_i lt sz' l' hj
      obtain ⟨rfl, rfl⟩ := Prod.mk.inj (Option.some.inj h)
      rcases hm.objs _ _ hj with ⟨rfl, hn⟩ | ⟨b, cap, vs, e1, e2, e3, e4, e5, e6⟩
      · cases hx with
        | osl0 => exact ⟨_, _, rfl, Nat.le_refl _, .inl rfl⟩
        | osln hq9 => exfalso; first | (rw [hn] at hq9; cases hq9) | (rw [e1] at hq9; cases hq9) | (rw [hg] at hq9; cases hq9) | (rw [h1] at hq9; cases hq9) | (simp_all; done)
        | osl hg => rw [hn] at hg; cases hg
      · cases hx with
        | osl0 hg => rw [e1] at hg; cases hg
        | osln hq9 => exfalso; first | (rw [hn] at hq9; cases hq9) | (rw [e1] at hq9; cases hq9) | (rw [hg] at hq9; cases hq9) | (rw [h1] at hq9; cases hq9) | (simp_all; done)
        | osl hg => rw [e1] at hg; cases hg; exact ⟨_, _, rfl, e2, .inr ⟨_, _, _, rfl, e3, e4, e5⟩⟩
    · rename_i sz' l' hj
      obtain ⟨rfl, rfl⟩ := Prod.mk.inj (Option.some.inj h)
      rcases hm.objs _ _ hj with ⟨rfl, hn⟩ | ⟨b, cap, vs, e1, e2, e3, e4, e5, e6⟩
      · cases hx with
        | osl0 => exact ⟨_, _, rfl, Nat.le_refl _, .inl rfl⟩
        | osln hq9 => exfalso; first | (rw [hn] at hq9; cases hq9) | (rw [e1] at hq9; cases hq9) | (rw [hg] at hq9; cases hq9) | (rw [h1] at hq9; cases hq9) | (simp_all; done)
        | osl hg => rw [hn] at hg; cases hg
      · cases hx with
        | osl0 hg => rw [e1] at hg; cases hg
        | osln hq9 => exfalso; first | (rw [hn] at hq9; cases hq9) | (rw [e1] at hq9; cases hq9) | (rw [hg] at hq9; cases hq9) | (rw [h1] at hq9; cases hq9) | (simp_all; done)
        | osl hg => rw [e1] at hg; cases hg; exact ⟨_, _, rfl, e2, .inr ⟨_, _, _, rfl, e4, e5, e6⟩⟩
    · simp at h
  · rename_i j lo hi
    split at h
    · rename_i lt sz' l' hj
      split at h
      · rename_i hc
        obtain ⟨rfl, rfl⟩ := Prod.mk.inj (Option.some.inj h)
        have hlen : ((l'.take hi).drop lo).length = hi - lo := by simp; omega
        rw [hlen]
        cases hx with
        | vw0 => exact ⟨_, _, by rw [Nat.sub_self], by omega, .inl (by rw [← List.length_eq_zero_iff, hlen]; omega)⟩
        | vw hg a1 a2 a3 =>
          rcases hm.objs _ _ hj with ⟨rfl, hn⟩ | ⟨b, cap, vs, e1, e2, e3, e4, e5, e6⟩
          · rw [hn] at hg; cases hg
          · rw [e1] at hg
            cases hg
            obtain ⟨p1, p2, p3⟩ := part (lo := lo) (hi := hi) e3 e4 e5
            exact ⟨_, _, rfl, a3, .inr ⟨_, _, _, rfl, p1, p2, p3⟩⟩
      · simp at h
    · rename_i sz' l' hj
      split at h
      · rename_i hc
        obtain ⟨rfl, rfl⟩ := Prod.mk.inj (Option.some.inj h)
        have hlen : ((l'.take hi).drop lo).length = hi - lo := by simp; omega
        rw [hlen]
        cases hx with
        | vw0 => exact ⟨_, _, by rw [Nat.sub_self], by omega, .inl (by rw [← List.length_eq_zero_iff, hlen]; omega)⟩
        | vw hg a1 a2 a3 =>
          rcases hm.objs _ _ hj with ⟨rfl, hn⟩ | ⟨b, cap, vs, e1, e2, e3, e4, e5, e6⟩
          · rw [hn] at hg; cases hg
          · rw [e1] at hg
            cases hg
            obtain ⟨p1, p2, p3⟩ := part (lo := lo) (hi := hi) e4 e5 e6
            exact ⟨_, _, rfl, a3, .inr ⟨_, _, _, rfl, p1, p2, p3⟩⟩
      · simp at h
    · simp at h
  · simp at h
end Go.Proofs.Ytikennabfbkdhaa
