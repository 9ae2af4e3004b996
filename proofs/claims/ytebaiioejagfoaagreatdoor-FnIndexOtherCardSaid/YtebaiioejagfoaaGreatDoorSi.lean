/- The evaluator S and what it says of functions: Se, Sf, Sg, Sh, Si. -/
import Derived.Test.YtebaiioejagfoaaGreatDoorSd
import Derived.Laws.Tables
import Derived.Laws.IdiomCopy
/- The evaluator S: operations that only read are sound. -/
namespace Go.Proofs.YtebaiioejagfoaaGreatDoor
open Go
set_option linter.unusedVariables false
set_option linter.unusedSimpArgs false
variable {P : Program} {T : Tab}
theorem cst_rep {w : World} {B : Nat → Prop} {g : Nat → Gh} (v : Value) : RepV w B g (cst v) v := by
  unfold cst
  split
  · exact .sl0
  · split
    · rename_i h; exact .v h
    · exact .dead
theorem ev_rep {w : World} {B : Nat → Prop} {g : Nat → Gh} {env : Env} {a : Act} (hs : Slots w B g env a.tmps) (x : Operand) : RepV w B g (ev env x) (a.eval x) := by
  cases x with
  | tmp t => exact hs t
  | const v => exact cst_rep v
  | func f => exact RepV.fn (caps := []) (vs := []) rfl (fun i x v h => by simp at h)
  | global n => exact .dead
theorem add_rep {w : World} {B : Nat → Prop} {g : Nat → Gh} {p q : SV} {pv : Value} {n : Nat} (hp : RepV w B g p pv) (h : addS p n = some q) :
    ∃ b o, pv = .pointer (some ⟨b, o, none⟩) ∧ RepV w B g q (.pointer (some ⟨b, o + n, none⟩)) := by
  cases p <;> simp only [addS] at h <;> try (simp at h; done)
  · obtain rfl := Option.some.inj h
    cases hp with
    | ptr hp => exact ⟨_, _, rfl, .ptr hp⟩
  · obtain rfl := Option.some.inj h
    cases hp with
    | ap hp => exact ⟨_, _, rfl, by rw [Nat.add_assoc]; exact .ap hp⟩
  · obtain rfl := Option.some.inj h
    cases hp with
    | el h1 h2 h3 => exact ⟨_, _, rfl, by rw [Nat.add_assoc]; exact .el h1 h2 h3⟩
theorem fields_at (hT : TabOk P T) {s f off t : Nat} {u : UK} {fs : List (Nat × Nat)} (hu : T.und s = some u) (hf : u.fields = some fs) (hx : fs[f]? = some (off, t)) :
    ∃ (fields : Array Field) (fd : Field), P.underlying s = some (.struct fields) ∧ fields[f]? = some fd ∧ fd.offset = off ∧ fd.type = t := by
  obtain ⟨fields, h1, h2, _⟩ := hT.struct s u fs hu hf
  rw [← h2, List.getElem?_map] at hx
  obtain ⟨fd, h3, h4⟩ := Option.map_eq_some_iff.1 hx
  refine ⟨fields, fd, h1, by simpa using h3, ?_, ?_⟩ <;> (injection h4)
theorem fieldAddr_rep (hT : TabOk P T) {w : World} {B : Nat → Prop} {g : Nat → Gh} {s f : Nat} {p x : SV} {pv : Value}
    (hp : RepV w B g p pv) (h : fieldAddrS T s p f = some x) : ∃ v, (Instr.fieldAt s pv f).run P w = .ok v w ∧ RepV w B g x v := by
  unfold fieldAddrS at h
  split at h
  · rename_i u hu
    split at h
    · rename_i fs hf
      split at h
      · rename_i off t hx
        split at h
        · rename_i i hi
          split at h
          · simp at h
          · rename_i hz
            obtain ⟨fields, fd, h1, h2, h3, h4⟩ := fields_at hT hu hf hx
            obtain ⟨info, z, d, i1, i2, i3, i4, i5, i6, i7, i8, i9⟩ := (hT.ti t i hi).ok
            obtain ⟨b, o, rfl, hr⟩ := add_rep hp h
            refine ⟨_, ?_, hr⟩
            have i1' : P.info? fd.type = some info := by rw [h4]; exact i1
            have hz' : ¬ info.size = 0 := by rw [i2]; exact hz
            simp [Instr.fieldAt, run_underlying h1, h2, Instr.sureAddr, fieldPlace, run_size i1', hz', Addr.add_lit, h3]
        · simp at h
      · simp at h
    · simp at h
  · simp at h
theorem run_part_agg {t : Nat} {i : TI} (hi : TiOk P t i) (w : World) (vs : List Value) (off : Nat) :
    (i.agg = true → (part t vs.toArray off).run P w = .ok (.agg ((vs.drop off).take i.size).toArray) w) ∧
    (∀ v, i.agg = false → vs[off]? = some v → (part t vs.toArray off).run P w = .ok v w) := by
  obtain ⟨info, z, d, i1, i2, i3, i4, i5, i6, i7, i8, i9⟩ := hi.ok
  refine ⟨fun ha => ?_, fun v ha hv => ?_⟩
  · simp only [part, Sem.run_bind, run_agg i6, i7, ha, Result.andThen_ok, if_true, run_size i1, Sem.run_pure]
    congr 2
    rw [i2]
    apply Array.ext'
    simp [List.take_drop, Nat.add_comm]
  · simp only [part, Sem.run_bind, run_agg i6, i7, ha, Result.andThen_ok, Bool.false_eq_true, if_false]
    simp [hv]
theorem field_rep (hT : TabOk P T) {w : World} {B : Nat → Prop} {g : Nat → Gh} {s f : Nat} {p x : SV} {pv : Value}
    (hp : RepV w B g p pv) (h : fieldS T s p f = some x) : ∃ v, (Instr.field s pv f).run P w = .ok v w ∧ RepV w B g x v := by
  unfold fieldS at h
  split at h
  · rename_i u hu
    split at h
    · rename_i fs hf
      split at h
      · rename_i off t hx
        split at h
        · rename_i i l hi
          split at h
          · rename_i hle
            obtain ⟨fields, fd, h1, h2, h3, h4⟩ := fields_at hT hu hf hx
            have hti := hT.ti t i hi
            cases hp with
            | ag a1 a2 a3 =>
              rename_i vs
              have hr : RepL w B g ((l.drop off).take i.size) ((vs.drop off).take i.size) := (RepL.drop ⟨a1, a2⟩ off).take i.size
              obtain ⟨q1, q2⟩ := run_part_agg (P := P) hti w vs off
              obtain ⟨p1, p2⟩ := pack_rep h hr
              cases ha : i.agg with
              | true => exact ⟨_, by simp [Instr.field, run_underlying h1, h2, asAgg, h3, h4, q1 ha], p1 ha⟩
              | false =>
                obtain ⟨v, hv, hv'⟩ := p2 ha
                refine ⟨v, ?_, hv'⟩
                have hv2 : vs[off]? = some v := by
                  rw [List.getElem?_take] at hv
                  split at hv
                  · rw [List.getElem?_drop] at hv; simpa using hv
                  · simp at hv
                have := q2 v ha hv2
                simp [Instr.field, run_underlying h1, h2, asAgg, h3, h4, this]
          · simp at h
        · simp at h
      · simp at h
    · simp at h
  · simp at h
theorem int_rep {w : World} {B : Nat → Prop} {g : Nat → Gh} {v : Value} {k : IntKind} {n : Int} (h : RepV w B g (.v (.int k n)) v) : v = .int k n := by
  cases h; rfl
theorem G0_any {w : World} {B : Nat → Prop} {g : Nat → Gh} {x : SV} {v : Value} (h : RepV w B G0 x v) : RepV w B g x v :=
  h.mono (fun _ h => h) (fun _ _ => rfl) g (fun j hj => absurd rfl hj)
theorem run_indexAt_of {t e : Nat} {info : TypeInfo} (ht : P.underlying t = some (.slice e)) (he : P.info? e = some info) (w : World) (b o len c : Nat) (k : IntKind) (n : Int)
    (h0 : 0 ≤ n) (h1 : n < (len : Int)) :
    (Instr.indexAt t (.slice (some ⟨b, o, none⟩) len c) (.int k n)).run P w = .ok (.pointer (some ⟨b, o + n.toNat * info.size, none⟩)) w := by
  simp [Instr.indexAt, asIntOf, run_underlying ht, h0, h1, run_size he, Addr.add_lit]
theorem elS_rep {w : World} {B : Nat → Prop} {l : List SV} {vs : List Value} {sz b o : Nat} (h1 : l.length = vs.length) (h2 : ∀ (i : Nat) (x : SV) (v : Value), l[i]? = some x → vs[i]? = some v → RepV w B G0 x v)
    (h3 : ∀ v : Value, v ∈ vs → ElOK sz v) (h4 : CellsAt w b o (flatV vs)) (h5 : B b) {i : Nat} {x : SV} (h : elS l i = some x) {g : Nat → Gh} :
    RepV w B g x (.pointer (some ⟨b, o + i * sz, none⟩)) ∧ i < l.length := by
  unfold elS at h
  split at h
  · rename_i y hy
    obtain rfl := Option.some.inj h
    obtain ⟨u, hu, hr⟩ := RepL.get ⟨h1, h2⟩ hy
    have := RepV.el (g := g) (k := 0) hr (flatV_elem h3 hu h4) h5
    refine ⟨by simpa using this, ?_⟩
    rcases Nat.lt_or_ge i l.length with h' | h'
    · exact h'
    · simp [List.getElem?_eq_none h'] at hy
  · simp at h
theorem indexAddr_rep (hT : TabOk P T) {fr : Fr} {os : List SO} {g : Nat → Gh} {w : World} (hm : Mem fr os g w) {t : Nat} {x i r : SV} {xv iv : Value}
    (hx : RepV w (Bk fr os g w) g x xv) (hi : RepV w (Bk fr os g w) g i iv) (h : indexAddrS T os t x i = some r) :
    ∃ v, (Instr.indexAt t xv iv).run P w = .ok v w ∧ RepV w (Bk fr os g w) g r v := by
  unfold indexAddrS at h
  split at h
  · rename_i k n
    obtain rfl := int_rep hi
    split at h
    · rename_i e hu
      have ht := hT.slice t e hu
      split at h
      · rename_i q hq
        obtain ⟨info, z, d, i1, i2, i3, i4, i5, i6, i7, i8, i9⟩ := (hT.ti e q hq).ok
        split at h
        · rename_i sz l
          split at h
          · rename_i h0
            obtain ⟨h0, rfl⟩ := h0
            cases hx with
            | sl0 => simp [elS] at h
            | sl h1 h2 h3 h4 h5 h6 =>
              obtain ⟨hr, hlt⟩ := elS_rep h1 h2 h3 h4 h5 h (g := g)
              exact ⟨_, run_indexAt_of ht i1 w _ _ _ _ k n h0 (by omega), by rw [i2]; exact hr⟩
          · simp at h
        · rename_i j
          split at h
          · rename_i lt sz l hj
            split at h
            · rename_i hc
              obtain ⟨h0, h1, rfl⟩ := hc
              obtain rfl := Option.some.inj h
              rcases hm.objs _ _ hj with ⟨rfl, _⟩ | ⟨b, cap, vs, e1, e2, e3, e4, e5, e6⟩
              · simp at h1; omega
              · cases hx with
                | osl0 hg => rw [e1] at hg; cases hg
                | osln hq9 => exfalso; first | (rw [hn] at hq9; cases hq9) | (rw [e1] at hq9; cases hq9) | (rw [hg] at hq9; cases hq9) | (rw [h1] at hq9; cases hq9) | (simp_all; done)
                | osl hg =>
                  rw [e1] at hg
                  cases hg
                  refine ⟨_, run_indexAt_of ht i1 w _ _ _ _ k n h0 h1, ?_⟩
                  rw [i2, Nat.zero_add]
                  simpa using RepV.ap (w := w) (B := Bk fr os g w) (i := n.toNat) (o := 0) e1
            · simp at h
          · rename_i sz l hj
            split at h
            · rename_i h0
              obtain ⟨h0, rfl⟩ := h0
              rcases hm.objs _ _ hj with ⟨rfl, _⟩ | ⟨b, cap, vs, e1, e2, e3, e4, e5, e6⟩
              · simp [elS] at h
              · cases hx with
                | osl0 hg => rw [e1] at hg; cases hg
                | osln hq9 => exfalso; first | (rw [hn] at hq9; cases hq9) | (rw [e1] at hq9; cases hq9) | (rw [hg] at hq9; cases hq9) | (rw [h1] at hq9; cases hq9) | (simp_all; done)
                | osl hg =>
                  rw [e1] at hg
                  cases hg
                  obtain ⟨hr, hlt⟩ := elS_rep e4.1 e4.2 e5 e6 e3 h (g := g)
                  exact ⟨_, run_indexAt_of ht i1 w _ _ _ _ k n h0 (by omega), by rw [i2]; exact hr⟩
            · simp at h
          · simp at h
        · rename_i j lo hi'
          split at h
          · rename_i lt sz l hj
            split at h
            · rename_i hc
              obtain ⟨h0, h1, h2, h3, rfl⟩ := hc
              obtain rfl := Option.some.inj h
              cases hx with
              | vw0 => simp at h1; omega
              | vw hg a1 a2 a3 =>
                rcases hm.objs _ _ hj with ⟨rfl, hn⟩ | ⟨b, cap, vs, e1, e2, e3, e4, e5, e6⟩
                · rw [hn] at hg; cases hg
                · rw [e1] at hg
                  cases hg
                  refine ⟨_, run_indexAt_of ht i1 w _ _ _ _ k n h0 h1, ?_⟩
                  rw [i2, ← Nat.add_mul]
                  simpa using RepV.ap (w := w) (B := Bk fr os g w) (i := lo + n.toNat) (o := 0) e1
            · simp at h
          · simp at h
        · simp at h
      · simp at h
    · rename_i kk e hu
      have ht := hT.array t kk e hu
      split at h
      · rename_i q hq
        obtain ⟨info, z, d, i1, i2, i3, i4, i5, i6, i7, i8, i9⟩ := (hT.ti e q hq).ok
        split at h
        · rename_i hc
          obtain ⟨b, o, rfl, hr⟩ := add_rep hx h
          refine ⟨_, ?_, hr⟩
          simp [Instr.indexAt, asIntOf, run_underlying ht, Instr.sureAddr, hc.1, hc.2, run_size i1, Addr.add_lit, i2]
        · simp at h
      · simp at h
    · simp at h
  · simp at h
theorem index_rep (hT : TabOk P T) {w : World} {B : Nat → Prop} {g : Nat → Gh} {t : Nat} {x i r : SV} {xv iv : Value}
    (hx : RepV w B g x xv) (hi : RepV w B g i iv) (h : indexS T t x i = some r) :
    ∃ v, (Instr.index t xv iv).run P w = .ok v w ∧ RepV w B g r v := by
  unfold indexS at h
  split at h
  · rename_i s k n hu
    obtain rfl := int_rep hi
    cases hx
    split at h
    · rename_i h0
      split at h
      · rename_i b hb
        obtain rfl := Option.some.inj h
        exact ⟨.int .u8 b.toNat, by simp [Instr.index, asIntOf, run_underlying (hT.str t hu), h0, hb], .v rfl⟩
      · simp at h
    · simp at h
  · simp at h
theorem bound_of {w : World} {B : Nat → Prop} {g : Nat → Gh} {n d : Nat} {x : Option SV} {v : Option Value} {r : Nat} (h : boundS n d x = some r)
    (hn : x = none → v = none) (hs : ∀ y, x = some y → ∃ u, v = some u ∧ RepV w B g y u) :
    (v = none ∧ r = d) ∨ ∃ k i, v = some (.int k i) ∧ 0 ≤ i ∧ i ≤ (n : Int) ∧ r = i.toNat := by
  unfold boundS at h
  split at h
  · exact .inl ⟨hn rfl, (Option.some.inj h).symm⟩
  · rename_i k i
    split at h
    · rename_i hc
      obtain ⟨u, rfl, hu⟩ := hs _ rfl
      exact .inr ⟨k, i, by rw [int_rep hu], hc.1, hc.2, (Option.some.inj h).symm⟩
    · simp at h
  · simp at h
theorem run_sliceBound_of {w : World} (k : IntKind) (i : Int) (y : Nat) (code : BoundsCode) (h0 : 0 ≤ i) (h1 : i ≤ (y : Int)) :
    (Instr.sliceBound (.int k i) y code).run P w = .ok i.toNat w := by
  simp [Instr.sliceBound, asIntOf, h0, h1]
theorem run_sliceBounds_of {w : World} {B : Nat → Prop} {g : Nat → Gh} {isSlice : Bool} {len cap : Nat} {lo hi : Option SV} {lov hiv : Option Value} {l h : Nat} (hc : len ≤ cap)
    (hh : boundS len len hi = some h) (hl : boundS h 0 lo = some l) (hin : hi = none → hiv = none) (his : ∀ y, hi = some y → ∃ u, hiv = some u ∧ RepV w B g y u)
    (lon : lo = none → lov = none) (los : ∀ y, lo = some y → ∃ u, lov = some u ∧ RepV w B g y u) :
    (Instr.sliceBounds isSlice len cap lov hiv none).run P w = .ok (l, h, cap) w ∧ l ≤ h ∧ h ≤ len := by
  rcases bound_of hh hin his with ⟨rfl, rfl⟩ | ⟨k, i, rfl, i0, i1, rfl⟩
  · rcases bound_of hl lon los with ⟨rfl, rfl⟩ | ⟨k', i', rfl, j0, j1, rfl⟩
    · exact ⟨by simp [Instr.sliceBounds], by omega, by omega⟩
    · exact ⟨by simp [Instr.sliceBounds, run_sliceBound_of k' i' _ _ j0 j1], by omega, by omega⟩
  · rcases bound_of hl lon los with ⟨rfl, rfl⟩ | ⟨k', i', rfl, j0, j1, rfl⟩
    · exact ⟨by simp [Instr.sliceBounds, run_sliceBound_of k i _ _ i0 (show i ≤ (cap : Int) by omega)], by omega, by omega⟩
    · exact ⟨by simp [Instr.sliceBounds, run_sliceBound_of k i _ _ i0 (show i ≤ (cap : Int) by omega), run_sliceBound_of k' i' _ _ j0 j1], by omega, by omega⟩
theorem sl_part {w : World} {B : Nat → Prop} {l : List SV} {vs : List Value} {sz b o c : Nat} (h1 : l.length = vs.length) (h2 : ∀ (i : Nat) (x : SV) (v : Value), l[i]? = some x → vs[i]? = some v → RepV w B G0 x v)
    (h3 : ∀ v : Value, v ∈ vs → ElOK sz v) (h4 : CellsAt w b o (flatV vs)) (h5 : B b) (h6 : l.length ≤ c) {lo hi : Nat} (hl : lo ≤ hi) (hh : hi ≤ l.length) {g : Nat → Gh} :
    RepV w B g (.sl sz ((l.take hi).drop lo)) (.slice (if c = lo then some ⟨b, o, none⟩ else some ⟨b, o + lo * sz, none⟩) (hi - lo) (c - lo)) := by
  by_cases e : lo = hi
  · subst e
    rw [Nat.sub_self, List.drop_eq_nil_of_le (by simp; omega)]
    exact .sl0
  · have hlt : lo < hi := by omega
    rw [if_neg (by omega)]
    have e2 : hi - lo = ((l.take hi).drop lo).length := by simp; omega
    rw [e2]
    refine .sl (vs := (vs.take hi).drop lo) (sz := sz) (by simp [h1]) ?_ ?_ ?_ h5 (by simp; omega)
    · exact (RepL.drop (RepL.take ⟨h1, h2⟩ hi) lo).2
    · intro v hv; exact h3 v (List.mem_of_mem_take (List.mem_of_mem_drop hv))
    · have := (h4.take (hi * sz)).drop (lo * sz)
      rw [flatV_take h3, flatV_drop (fun v hv => h3 v (List.mem_of_mem_take hv))] at this
      exact this
theorem run_slice_of {t e : Nat} {info : TypeInfo} (ht : P.underlying t = some (.slice e)) (he : P.info? e = some info) {w : World} {a : Option Addr} {n c l h : Nat} {lov hiv : Option Value}
    (hb : (Instr.sliceBounds true n c lov hiv none).run P w = .ok (l, h, c) w) :
    (Instr.sliceAt t (.slice a n c) lov hiv none).run P w = .ok (.slice (if c = l then a else a.map (·.add (l * info.size))) (h - l) (c - l)) w := by
  simp [Instr.sliceAt, run_underlying ht, Instr.slice, hb, run_size he]
theorem slice_rep (hT : TabOk P T) {fr : Fr} {os : List SO} {g : Nat → Gh} {w : World} (hm : Mem fr os g w) {t : Nat} {x r : SV} {xv : Value} {lo hi : Option SV} {lov hiv : Option Value}
    (hx : RepV w (Bk fr os g w) g x xv) (hin : hi = none → hiv = none) (his : ∀ y, hi = some y → ∃ u, hiv = some u ∧ RepV w (Bk fr os g w) g y u)
    (lon : lo = none → lov = none) (los : ∀ y, lo = some y → ∃ u, lov = some u ∧ RepV w (Bk fr os g w) g y u) (h : sliceS T os t x lo hi = some r) :
    ∃ v, (Instr.sliceAt t xv lov hiv none).run P w = .ok v w ∧ RepV w (Bk fr os g w) g r v := by
  unfold sliceS at h
  split at h
  · rename_i hu
    have ht := hT.str t hu
    split at h
    · rename_i s
      cases hx
      split at h
      · rename_i hh hhe
        split at h
        · rename_i ll hle
          obtain rfl := Option.some.inj h
          obtain ⟨h1, h2, h3⟩ := run_sliceBounds_of (P := P) (w := w) (isSlice := false) (Nat.le_refl s.size) hhe hle hin his lon los
          exact ⟨.string (s.extract ll hh), by simp [Instr.sliceAt, run_underlying ht, Instr.slice, h1], .v rfl⟩
        · simp at h
      · simp at h
    · simp at h
  · rename_i e hu
    have ht := hT.slice t e hu
    split at h
    · rename_i q hq
      obtain ⟨info, z, d, i1, i2, i3, i4, i5, i6, i7, i8, i9⟩ := (hT.ti e q hq).ok
      split at h
      · rename_i j
        split at h
        · rename_i lt sz l hj
          split at h
          · rename_i hh hhe
            split at h
            · rename_i ll hle
              split at h
              · rename_i hsz
                subst hsz
                obtain rfl := Option.some.inj h
                rcases hm.objs _ _ hj with ⟨rfl, hn⟩ | ⟨b, cap, vs, e1, e2, e3, e4, e5, e6⟩
                · cases hx with
                  | osl0 _ =>
                    obtain ⟨h1, h2, h3⟩ := run_sliceBounds_of (P := P) (w := w) (isSlice := true) (Nat.le_refl 0) hhe hle hin his lon los
                    have : hh = 0 := by simpa using h3
                    subst this
                    obtain rfl : ll = 0 := by omega
                    exact ⟨_, run_slice_of ht i1 h1, by simpa using RepV.vw0⟩
                  | osln hq9 => exfalso; first | (rw [hn] at hq9; cases hq9) | (rw [e1] at hq9; cases hq9) | (rw [hg] at hq9; cases hq9) | (rw [h1] at hq9; cases hq9) | (simp_all; done)
                  | osl hg => rw [hn] at hg; cases hg
                · cases hx with
                  | osl0 hg => rw [e1] at hg; cases hg
                  | osln hq9 => exfalso; first | (rw [hn] at hq9; cases hq9) | (rw [e1] at hq9; cases hq9) | (rw [hg] at hq9; cases hq9) | (rw [h1] at hq9; cases hq9) | (simp_all; done)
                  | osl hg =>
                    rw [e1] at hg
                    cases hg
                    obtain ⟨h1, h2, h3⟩ := run_sliceBounds_of (P := P) (w := w) (isSlice := true) e2 hhe hle hin his lon los
                    refine ⟨_, run_slice_of ht i1 h1, ?_⟩
                    by_cases hlc : cap = ll
                    · obtain rfl : hh = ll := by omega
                      rw [Nat.sub_self]; exact .vw0
                    · rw [if_neg hlc, i2]
                      simp only [Option.map_some, Addr.add_lit, Nat.zero_add]
                      exact .vw e1 h2 h3 (by omega)
              · simp at h
            · simp at h
          · simp at h
        · rename_i sz l hj
          split at h
          · rename_i hh hhe
            split at h
            · rename_i ll hle
              split at h
              · rename_i hsz
                subst hsz
                obtain rfl := Option.some.inj h
                rcases hm.objs _ _ hj with ⟨rfl, hn⟩ | ⟨b, cap, vs, e1, e2, e3, e4, e5, e6⟩
                · cases hx with
                  | osl0 _ =>
                    obtain ⟨h1, h2, h3⟩ := run_sliceBounds_of (P := P) (w := w) (isSlice := true) (Nat.le_refl 0) hhe hle hin his lon los
                    have : hh = 0 := by simpa using h3
                    subst this
                    obtain rfl : ll = 0 := by omega
                    exact ⟨_, run_slice_of ht i1 h1, by simpa using RepV.sl0⟩
                  | osln hq9 => exfalso; first | (rw [hn] at hq9; cases hq9) | (rw [e1] at hq9; cases hq9) | (rw [hg] at hq9; cases hq9) | (rw [h1] at hq9; cases hq9) | (simp_all; done)
                  | osl hg => rw [hn] at hg; cases hg
                · cases hx with
                  | osl0 hg => rw [e1] at hg; cases hg
                  | osln hq9 => exfalso; first | (rw [hn] at hq9; cases hq9) | (rw [e1] at hq9; cases hq9) | (rw [hg] at hq9; cases hq9) | (rw [h1] at hq9; cases hq9) | (simp_all; done)
                  | osl hg =>
                    rw [e1] at hg
                    cases hg
                    obtain ⟨h1, h2, h3⟩ := run_sliceBounds_of (P := P) (w := w) (isSlice := true) e2 hhe hle hin his lon los
                    refine ⟨_, run_slice_of ht i1 h1, ?_⟩
                    have := sl_part e4.1 e4.2 e5 e6 e3 e2 h2 h3 (g := g)
                    simpa [i2, Addr.add_lit] using this
              · simp at h
            · simp at h
          · simp at h
        · simp at h
      · rename_i sz l
        split at h
        · rename_i hh hhe
          split at h
          · rename_i ll hle
            split at h
            · rename_i hsz
              subst hsz
              obtain rfl := Option.some.inj h
              cases hx with
              | sl0 =>
                rename_i a c
                obtain ⟨h1, h2, h3⟩ := run_sliceBounds_of (P := P) (w := w) (isSlice := true) (Nat.zero_le c) hhe hle hin his lon los
                have : hh = 0 := by simpa using h3
                subst this
                obtain rfl : ll = 0 := by omega
                exact ⟨_, run_slice_of ht i1 h1, by simpa using RepV.sl0⟩
              | sl b1 b2 b3 b4 b5 b6 =>
                obtain ⟨h1, h2, h3⟩ := run_sliceBounds_of (P := P) (w := w) (isSlice := true) b6 hhe hle hin his lon los
                refine ⟨_, run_slice_of ht i1 h1, ?_⟩
                have := sl_part b1 b2 b3 b4 b5 b6 h2 h3 (g := g)
                simpa [i2, Addr.add_lit] using this
            · simp at h
          · simp at h
        · simp at h
      · simp at h
    · simp at h
  · simp at h
theorem slice3_rep (hT : TabOk P T) {w : World} {B : Nat → Prop} {g : Nat → Gh} {t : Nat} {x hi m r : SV} {xv hv mv : Value} (hx : RepV w B g x xv) (hh : RepV w B g hi hv) (hm : RepV w B g m mv) (h : slice3S T t x hi m = some r) :
    ∃ v, (Instr.sliceAt t xv none (some hv) (some mv)).run P w = .ok v w ∧ RepV w B g r v := by
  unfold slice3S at h
  split at h
  · rename_i e hu
    have ht := hT.slice t e hu
    split at h
    · rename_i q hq
      obtain ⟨info, z, d, i1, i2, i3, i4, i5, i6, i7, i8, i9⟩ := (hT.ti e q hq).ok
      split at h
      · rename_i sz l k1 n1 k2 n2
        split at h
        · rename_i hc
          obtain ⟨rfl, rfl⟩ := hc
          obtain rfl := Option.some.inj h
          rw [int_rep hh, int_rep hm]
          have run : ∀ (a : Option Addr) (c : Nat), l.length ≤ c → (Instr.sliceAt t (.slice a l.length c) none (some (.int k1 (l.length : Int))) (some (.int k2 (l.length : Int)))).run P w = .ok (.slice (if l.length = 0 then a else a.map (·.add (0 * info.size))) (l.length - 0) (l.length - 0)) w := fun a c hc => by
            have b1 := run_sliceBound_of (P := P) (w := w) k2 (l.length : Int) c .slice3Acap (by omega) (by omega)
            have b2 := run_sliceBound_of (P := P) (w := w) k1 (l.length : Int) l.length .slice3B (by omega) (by omega)
            rw [Int.toNat_natCast] at b1 b2
            simp [Instr.sliceAt, run_underlying ht, Instr.slice, Instr.sliceBounds, b1, b2, run_size i1]
          have hadd : ∀ (b o : Nat), (if l.length = 0 then (some (⟨b, o, none⟩ : Addr)) else (some (⟨b, o, none⟩ : Addr)).map (·.add (0 * info.size))) = some ⟨b, o, none⟩ := fun b o => by
            split
            · rfl
            · simp [Addr.add_lit]
          cases hx with
          | sl0 => exact ⟨_, run _ _ (Nat.zero_le _), .sl0⟩
          | sl h1 h2 h3 h4 h5 h6 =>
            refine ⟨_, run _ _ h6, ?_⟩
            rw [hadd, Nat.sub_zero]
            exact .sl h1 h2 h3 h4 h5 (Nat.le_refl _)
        · simp at h
      · simp at h
    · simp at h
  · simp at h
end Go.Proofs.YtebaiioejagfoaaGreatDoor

/- The evaluator S: arithmetic, comparisons, conversions that make nothing. -/
namespace Go.Proofs.YtebaiioejagfoaaGreatDoor
open Go
set_option linter.unusedVariables false
set_option linter.unusedSimpArgs false
variable {P : Program} {T : Tab}
theorem v_rep {w : World} {B : Nat → Prop} {g : Nat → Gh} {x v : Value} (h : RepV w B g (.v x) v) : v = x := by cases h; rfl
theorem run_add {w : World} {t : Nat} {k : IntKind} {a b : Int} : (binOp .add t (.int k a) (.int k b)).run P w = .ok (.int k (k.wrap (a + b))) w := by
  rw [binOp_add]; simp [Op.intArith]
theorem bin_rep (hT : TabOk P T) {w : World} {B : Nat → Prop} {g : Nat → Gh} {op : BinOp} {t : Nat} {x y r : SV} {xv yv : Value} {xo yo : Operand}
    (hx : RepV w B g x xv) (hy : RepV w B g y yv) (h : binS T op t x y = some r) :
    ∃ v, (do eqGuard op t xo yo xv yv; binOp op t xv yv : Sem Value).run P w = .ok v w ∧ RepV w B g r v := by
  unfold binS at h
  split at h
  · rename_i k a k' b
    obtain rfl := v_rep hx
    obtain rfl := v_rep hy
    have key : ∀ op, (op = .shl → False) → (op = .shr → False) → (if k = k' then intBin op k a b else none) = some r →
        ∃ v, (do eqGuard op t xo yo (.int k a) (.int k' b); binOp op t (.int k a) (.int k' b) : Sem Value).run P w = .ok v w ∧ RepV w B g r v := by
      intro op _ _ h
      split at h
      · rename_i hk
        subst hk
        cases op <;> simp only [intBin] at h <;> first
          | (simp at h; done)
          | (split at h <;> first
              | (simp at h; done)
              | (rename_i hb; obtain rfl := Option.some.inj h; exact ⟨_, by simp [eqGuard_at_int, binOp, Op.intDiv, hb], .v rfl⟩))
          | (obtain rfl := Option.some.inj h; exact ⟨_, by simp [eqGuard_at_int, binOp, Op.intArith, Op.intCmp, Op.intBits], .v rfl⟩)
      · simp at h
    split at h
    · simp at h
    · split at h
      · simp at h
      · rename_i hb
        obtain rfl := Option.some.inj h
        exact ⟨_, by simp [eqGuard_at_int, binOp, Op.shift, hb], .v rfl⟩
    · rename_i h1 h2
      exact key op h1 h2 h
  · rename_i a b
    obtain rfl := v_rep hx
    obtain rfl := v_rep hy
    unfold strBin at h
    split at h
    · split at h
      · simp at h
      · rename_i hl
        obtain rfl := Option.some.inj h
        refine ⟨.string (a ++ b), ?_, .v rfl⟩
        simp only [eqGuard_add, binOp, Op.stringOp, Sem.run_bind, Sem.run_pure, Result.andThen_ok]
        rw [if_neg hl]; rfl
    · obtain rfl := Option.some.inj h
      exact ⟨_, by simp [eqGuard_at_string, binOp, Op.stringOp], .v rfl⟩
    · obtain rfl := Option.some.inj h
      exact ⟨_, by simp [eqGuard_at_string, binOp, Op.stringOp], .v rfl⟩
    · simp at h
  · rename_i a b
    obtain rfl := v_rep hx
    obtain rfl := v_rep hy
    split at h
    · rename_i hu
      obtain rfl := Option.some.inj h
      exact ⟨_, by simp [eqGuard_at_bool, run_eql_bool _ _ _ _ (hT.bool t hu)], .v rfl⟩
    · rename_i hu
      obtain rfl := Option.some.inj h
      exact ⟨_, by simp [eqGuard_at_bool, run_neq_bool _ _ _ _ (hT.bool t hu)], .v rfl⟩
    · simp at h
  · rename_i a b
    cases hx with
    | ag a1 a2 a3 =>
      rename_i va
      cases hy with
      | ag b1 b2 b3 =>
        rename_i vb
        have conv : ∀ (a b : List SV) (va vb : List Value) (r : Bool), RepL w B g a va → RepL w B g b vb → sameInts a b = some r → intsEq va vb = some r := by
          intro a
          induction a with
          | nil =>
            intro b va vb r ha hb h
            cases b with
            | nil =>
              have := ha.1; have := hb.1
              cases va <;> simp at *
              cases vb <;> simp at *
              simpa [sameInts, intsEq] using h
            | cons => simp [sameInts] at h
          | cons x a ih =>
            intro b va vb r ha hb h
            cases b with
            | nil => cases x <;> simp [sameInts] at h
            | cons y b =>
              obtain ⟨u, va', rfl, hu, ha'⟩ := ha.uncons
              obtain ⟨u', vb', rfl, hu', hb'⟩ := hb.uncons
              unfold sameInts at h
              split at h
              · simp_all
              · rename_i k p xs k' q ys e1 e2
                cases e1; cases e2
                obtain rfl := v_rep hu
                obtain rfl := v_rep hu'
                split at h
                · rename_i hk
                  subst hk
                  split at h
                  · rename_i r' hr'
                    have := ih b va' vb' r' ha' hb' hr'
                    simpa [intsEq, this] using h
                  · simp at h
                · simp at h
              · simp at h
        split at h
        · rename_i fs i hu hi
          obtain ⟨e1, e2⟩ := hT.eqs t fs i hu hi
          split at h
          · rename_i hz
            split at h
            · rename_i r' hr'
              obtain rfl := Option.some.inj h
              have := e2 va vb r' w (conv a b va vb r' ⟨a1, a2⟩ ⟨b1, b2⟩ hr') (by rw [← a1]; exact hz)
              exact ⟨.bool r', by simp [eqGuard, e1, binOp, this], .v rfl⟩
            · simp at h
          · simp at h
        · rename_i fs i hu hi
          obtain ⟨e1, e2⟩ := hT.eqs t fs i hu hi
          split at h
          · rename_i hz
            split at h
            · rename_i r' hr'
              obtain rfl := Option.some.inj h
              have := e2 va vb r' w (conv a b va vb r' ⟨a1, a2⟩ ⟨b1, b2⟩ hr') (by rw [← a1]; exact hz)
              exact ⟨.bool (!r'), by simp [eqGuard, e1, binOp, this], .v rfl⟩
            · simp at h
          · simp at h
        · simp at h
  · simp at h
theorem un_rep {w : World} {B : Nat → Prop} {g : Nat → Gh} {op : UnOp} {x r : SV} {xv : Value} (hx : RepV w B g x xv) (h : unS op x = some r) :
    ∃ v, (Op.unary op xv).run P w = .ok v w ∧ RepV w B g r v := by
  unfold unS at h
  split at h
  · obtain rfl := Option.some.inj h; obtain rfl := v_rep hx; exact ⟨_, rfl, .v rfl⟩
  · obtain rfl := Option.some.inj h; obtain rfl := v_rep hx; exact ⟨_, rfl, .v rfl⟩
  · simp at h
theorem elems_rep {fr : Fr} {os : List SO} {g : Nat → Gh} {w : World} (hm : Mem fr os g w) {x : SV} {xv : Value} {sz : Nat} {l : List SV}
    (hx : RepV w (Bk fr os g w) g x xv) (h : elems os x = some (sz, l)) :
    ∃ a c, xv = .slice a l.length c ∧ l.length ≤ c ∧ (l = [] ∨ ∃ b o vs, a = some ⟨b, o, none⟩ ∧ RepL w (Bk fr os g w) G0 l vs ∧ (∀ v : Value, v ∈ vs → ElOK sz v) ∧ CellsAt w b o (flatV vs)) := by
  have part : ∀ {l : List SV} {vs : List Value} {b : Nat} {lo hi : Nat}, RepL w (Bk fr os g w) G0 l vs → (∀ v : Value, v ∈ vs → ElOK sz v) → CellsAt w b 0 (flatV vs) →
      RepL w (Bk fr os g w) G0 ((l.take hi).drop lo) ((vs.take hi).drop lo) ∧ (∀ v : Value, v ∈ (vs.take hi).drop lo → ElOK sz v) ∧ CellsAt w b (lo * sz) (flatV ((vs.take hi).drop lo)) := by
    intro l vs b lo hi h1 h2 h3
    refine ⟨(h1.take hi).drop lo, fun v hv => h2 v (List.mem_of_mem_take (List.mem_of_mem_drop hv)), ?_⟩
    have := (h3.take (hi * sz)).drop (lo * sz)
    rw [flatV_take h2, flatV_drop (fun v hv => h2 v (List.mem_of_mem_take hv))] at this
    simpa using this
  unfold elems at h
  split at h
  · obtain ⟨rfl, rfl⟩ := Prod.mk.inj (Option.some.inj h)
    cases hx with
    | sl0 => exact ⟨_, _, rfl, Nat.zero_le _, .inl rfl⟩
    | sl h1 h2 h3 h4 h5 h6 => exact ⟨_, _, rfl, h6, .inr ⟨_, _, _, rfl, ⟨h1, h2⟩, h3, h4⟩⟩
  · rename_i j
    split at h
    · rename_i lt sz' l' hj
      obtain ⟨rfl, rfl⟩ := Prod.mk.inj (Option.some.inj h)
      rcases hm.objs _ _ hj with ⟨rfl, hn⟩ | ⟨b, cap, vs, e1, e2, e3, e4, e5, e6⟩
      · cases hx with
        | osl0 => exact ⟨_, _, rfl, Nat.le_refl _, .inl rfl⟩
        | osln hq9 => exfalso; first | (rw [hn] at hq9; cases hq9) | (rw [e1] at hq9; cases hq9) | (rw [hg] at hq9; cases hq9) | (rw [h1] at hq9; cases hq9) | (simp_all; done)
        | osl hg => rw [hn] at hg; cases hg
      · cases hx with
        | osl0 hg => rw [e1] at hg; cases hg
        | osln hq9 => exfalso; first | (rw [hn] at hq9; cases hq9) | (rw [e1] at hq9; cases hq9) | (rw [hg] at hq9; cases hq9) | (rw [h1] at hq9; cases hq9) | (simp_all; done)
        | osl hg => rw [e1] at hg; cases hg; exact ⟨_, _, rfl, e2, .inr ⟨_, _, _, rfl, e3, e4, e5⟩⟩
    · rename_i sz' l' hj
      obtain ⟨rfl, rfl⟩ := Prod.mk.inj (Option.some.inj h)
      rcases hm.objs _ _ hj with ⟨rfl, hn⟩ | ⟨b, cap, vs, e1, e2, e3, e4, e5, e6⟩
      · cases hx with
        | osl0 => exact ⟨_, _, rfl, Nat.le_refl _, .inl rfl⟩
        | osln hq9 => exfalso; first | (rw [hn] at hq9; cases hq9) | (rw [e1] at hq9; cases hq9) | (rw [hg] at hq9; cases hq9) | (rw [h1] at hq9; cases hq9) | (simp_all; done)
        | osl hg => rw [hn] at hg; cases hg
      · cases hx with
        | osl0 hg => rw [e1] at hg; cases hg
        | osln hq9 => exfalso; first | (rw [hn] at hq9; cases hq9) | (rw [e1] at hq9; cases hq9) | (rw [hg] at hq9; cases hq9) | (rw [h1] at hq9; cases hq9) | (simp_all; done)
        | osl hg => rw [e1] at hg; cases hg; exact ⟨_, _, rfl, e2, .inr ⟨_, _, _, rfl, e4, e5, e6⟩⟩
    · simp at h
  · rename_i j lo hi
    split at h
    · rename_i lt sz' l' hj
      split at h
      · rename_i hc
        obtain ⟨rfl, rfl⟩ := Prod.mk.inj (Option.some.inj h)
        have hlen : ((l'.take hi).drop lo).length = hi - lo := by simp; omega
        rw [hlen]
        cases hx with
        | vw0 => exact ⟨_, _, by rw [Nat.sub_self], by omega, .inl (by rw [← List.length_eq_zero_iff, hlen]; omega)⟩
        | vw hg a1 a2 a3 =>
          rcases hm.objs _ _ hj with ⟨rfl, hn⟩ | ⟨b, cap, vs, e1, e2, e3, e4, e5, e6⟩
          · rw [hn] at hg; cases hg
          · rw [e1] at hg
            cases hg
            obtain ⟨p1, p2, p3⟩ := part (lo := lo) (hi := hi) e3 e4 e5
            exact ⟨_, _, rfl, a3, .inr ⟨_, _, _, rfl, p1, p2, p3⟩⟩
      · simp at h
    · rename_i sz' l' hj
      split at h
      · rename_i hc
        obtain ⟨rfl, rfl⟩ := Prod.mk.inj (Option.some.inj h)
        have hlen : ((l'.take hi).drop lo).length = hi - lo := by simp; omega
        rw [hlen]
        cases hx with
        | vw0 => exact ⟨_, _, by rw [Nat.sub_self], by omega, .inl (by rw [← List.length_eq_zero_iff, hlen]; omega)⟩
        | vw hg a1 a2 a3 =>
          rcases hm.objs _ _ hj with ⟨rfl, hn⟩ | ⟨b, cap, vs, e1, e2, e3, e4, e5, e6⟩
          · rw [hn] at hg; cases hg
          · rw [e1] at hg
            cases hg
            obtain ⟨p1, p2, p3⟩ := part (lo := lo) (hi := hi) e4 e5 e6
            exact ⟨_, _, rfl, a3, .inr ⟨_, _, _, rfl, p1, p2, p3⟩⟩
      · simp at h
    · simp at h
  · simp at h
end Go.Proofs.YtebaiioejagfoaaGreatDoor

/- The evaluator S: how memory and the objects may change. -/
namespace Go.Proofs.YtebaiioejagfoaaGreatDoor
open Go
set_option linter.unusedVariables false
set_option linter.unusedSimpArgs false
def upd (g : Nat → Gh) (j : Nat) (x : Gh) : Nat → Gh := fun i => if i = j then x else g i
structure Chg (fr : Fr) (os : List SO) (g : Nat → Gh) (w : World) (os' : List SO) (g' : Nat → Gh) (w' : World) (W : Nat → Prop) : Prop where
  size : w.heap.size ≤ w'.heap.size
  same : ∀ b, b < w.heap.size → ¬ W b → w'.heap[b]? = w.heap[b]?
  only : ∀ b, W b → live os g b
  ext : ∀ j, g j ≠ .no → g' j = g j
  live : ∀ b, live os' g' b → (live os g b ∨ w.heap.size ≤ b) ∧ b < w'.heap.size
  out : SameOut w w'
theorem Chg.grow {fr : Fr} {os os' : List SO} {g g' : Nat → Gh} {w w' : World} {W : Nat → Prop} (h : Chg fr os g w os' g' w' W) : Grow fr os g w os' g' w' where
  sub b hb := ⟨Nat.lt_of_lt_of_le hb.1 h.size, hb.2.1, fun hl => by
    rcases (h.live b hl).1 with hl' | hl'
    · exact hb.2.2 hl'
    · have := hb.1; omega⟩
  same b hb := h.same b hb.1 fun hw => hb.2.2 (h.only b hw)
  ext := h.ext
theorem Chg.mem {fr : Fr} {os os' : List SO} {g g' : Nat → Gh} {w w' : World} {W : Nat → Prop} (h : Chg fr os g w os' g' w' W) (hm : Mem fr os g w)
    (objs : ∀ j o, os'[j]? = some o → (os[j]? = some o ∧ ∀ b, o.isLive = true → (g j).has b → ¬ W b) ∨ ObjOK w' (Bk fr os' g' w') g' j o)
    (fresh : ∀ j, os'.length ≤ j → g' j = .no)
    (inj : ∀ i j oi oj b, os'[i]? = some oi → os'[j]? = some oj → oi.isLive = true → oj.isLive = true → (g' i).has b → (g' j).has b → i = j)
    (mine : ∀ j sz l b, os'[j]? = some (.arr false sz l) → (g' j).has b → fr.N ≤ b) : Mem fr os' g' w' where
  objs j o hj := by
    rcases objs j o hj with ⟨h1, h2⟩ | h1
    · have hg := h.grow
      refine (hm.objs j o h1).mono hg.sub hg.same hg.ext fun b hl hb => ?_
      exact h.same b (hm.own b ⟨j, o, h1, hl, hb⟩).1 (h2 b hl hb)
    · exact h1
  fresh := fresh
  inj := inj
  own b hb := ⟨(h.live b hb).2, fun hN => by
    rcases (h.live b hb).1 with hl | hl
    · exact (hm.own b hl).2 hN
    · have := hm.size; omega⟩
  mine := mine
  frame b hN hL := by
    have hb : b < w.heap.size := Nat.lt_of_lt_of_le hN hm.size
    rw [h.same b hb fun hw => hL ((hm.own b (h.only b hw)).2 hN)]
    exact hm.frame b hN hL
  size := Nat.le_trans hm.size h.size
  out := hm.out.trans h.out
theorem getElem?_snoc {α : Type} (l : List α) (x y : α) (j : Nat) (h : (l ++ [x])[j]? = some y) : (j < l.length ∧ l[j]? = some y) ∨ (j = l.length ∧ y = x) := by
  rcases Nat.lt_trichotomy j l.length with h' | h' | h'
  · exact .inl ⟨h', by rwa [List.getElem?_append_left h'] at h⟩
  · subst h'; simp at h; exact .inr ⟨rfl, h.symm⟩
  · rw [List.getElem?_append_right (by omega)] at h
    have : j - l.length ≠ 0 := by omega
    cases hk : j - l.length with
    | zero => omega
    | succ k => simp [hk] at h
theorem lt_of_getElem? {α : Type} {l : List α} {i : Nat} {x : α} (h : l[i]? = some x) : i < l.length := by
  rcases Nat.lt_or_ge i l.length with h' | h'
  · exact h'
  · simp [List.getElem?_eq_none h'] at h
def Res (fr : Fr) (os : List SO) (g : Nat → Gh) (w : World) (os' : List SO) (x : SV) (v : Value) (w' : World) : Prop :=
  ∃ g', Mem fr os' g' w' ∧ Grow fr os g w os' g' w' ∧ RepV w' (Bk fr os' g' w') g' x v
theorem Res.same {fr : Fr} {os : List SO} {g : Nat → Gh} {w : World} {x : SV} {v : Value} (hm : Mem fr os g w) (h : RepV w (Bk fr os g w) g x v) : Res fr os g w os x v w :=
  ⟨g, hm, Grow.refl _ _ _ _, h⟩
theorem push_chg {fr : Fr} {os : List SO} {g : Nat → Gh} {w w' : World} (hm : Mem fr os g w) (so : SameOut w w') (o : SO) (x : Gh) (hs : w.heap.size ≤ w'.heap.size)
    (hw : ∀ b, b < w.heap.size → w'.heap[b]? = w.heap[b]?) (hx : ∀ b, x.has b → w.heap.size ≤ b ∧ b < w'.heap.size) :
    Chg fr os g w (os ++ [o]) (upd g os.length x) w' (fun _ => False) where
  out := so
  size := hs
  same b hb _ := hw b hb
  only b hb := hb.elim
  ext j hj := by
    unfold upd
    split
    · rename_i e; subst e; exact absurd (hm.fresh _ (Nat.le_refl _)) hj
    · rfl
  live b hb := by
    obtain ⟨j, o', hj, hl, hb⟩ := hb
    rcases getElem?_snoc _ _ _ _ hj with ⟨h1, h2⟩ | ⟨rfl, rfl⟩
    · have hg : upd g os.length x j = g j := by unfold upd; rw [if_neg (by omega)]
      rw [hg] at hb
      have : live os g b := ⟨j, o', h2, hl, hb⟩
      exact ⟨.inl this, Nat.lt_of_lt_of_le (hm.own b this).1 hs⟩
    · have hg : upd g os.length x os.length = x := by unfold upd; rw [if_pos rfl]
      rw [hg] at hb
      exact ⟨.inr (hx b hb).1, (hx b hb).2⟩
theorem push_mem {fr : Fr} {os : List SO} {g : Nat → Gh} {w w' : World} (hm : Mem fr os g w) (so : SameOut w w') (o : SO) (x : Gh) (hs : w.heap.size ≤ w'.heap.size)
    (hw : ∀ b, b < w.heap.size → w'.heap[b]? = w.heap[b]?) (hx : ∀ b, x.has b → w.heap.size ≤ b ∧ b < w'.heap.size)
    (ho : ObjOK w' (Bk fr (os ++ [o]) (upd g os.length x) w') (upd g os.length x) os.length o) : Mem fr (os ++ [o]) (upd g os.length x) w' := by
  have hold : ∀ j, j < os.length → upd g os.length x j = g j := fun j hj => by unfold upd; rw [if_neg (by omega)]
  have hnew : upd g os.length x os.length = x := by unfold upd; rw [if_pos rfl]
  have hlt : ∀ {i : Nat} {oi : SO} {b : Nat}, os[i]? = some oi → oi.isLive = true → (g i).has b → b < w.heap.size := fun h1 h2 h3 => (hm.own _ ⟨_, _, h1, h2, h3⟩).1
  refine (push_chg hm so o x hs hw hx).mem hm ?_ ?_ ?_ ?_
  · intro j o' hj
    rcases getElem?_snoc _ _ _ _ hj with ⟨h1, h2⟩ | ⟨rfl, rfl⟩
    · exact .inl ⟨h2, fun _ _ _ h => h⟩
    · exact .inr ho
  · intro j hj
    simp at hj
    unfold upd
    rw [if_neg (by omega)]
    exact hm.fresh j (by omega)
  · intro i j oi oj b hi hj li lj bi bj
    rcases getElem?_snoc _ _ _ _ hi with ⟨i1, i2⟩ | ⟨rfl, rfl⟩ <;> rcases getElem?_snoc _ _ _ _ hj with ⟨j1, j2⟩ | ⟨rfl, rfl⟩
    · rw [hold i i1] at bi; rw [hold j j1] at bj; exact hm.inj i j oi oj b i2 j2 li lj bi bj
    · rw [hold i i1] at bi; rw [hnew] at bj; have := hlt i2 li bi; have := (hx b bj).1; omega
    · rw [hnew] at bi; rw [hold j j1] at bj; have := hlt j2 lj bj; have := (hx b bi).1; omega
    · rfl
  · intro j sz l b hj hb
    rcases getElem?_snoc _ _ _ _ hj with ⟨j1, j2⟩ | ⟨rfl, _⟩
    · rw [hold j j1] at hb; exact hm.mine j sz l b j2 hb
    · rw [hnew] at hb; exact Nat.le_trans hm.size (hx b hb).1
theorem out_alloc (w : World) (o : Obj) : SameOut w (w.alloc o) := ⟨rfl, rfl, rfl⟩
theorem out_drew (w : World) (o : Obj) : SameOut w (w.drew.alloc o) := ⟨rfl, rfl, rfl⟩
theorem heap_alloc_lt (w : World) (o : Obj) (b : Nat) (h : b < w.heap.size) : (w.alloc o).heap[b]? = w.heap[b]? := by
  show (w.heap.push o)[b]? = w.heap[b]?
  rw [Array.getElem?_push, if_neg (Nat.ne_of_lt h)]
theorem heap_alloc_new (w : World) (o : Obj) : (w.alloc o).heap[w.heap.size]? = some o := by
  show (w.heap.push o)[w.heap.size]? = some o
  rw [Array.getElem?_push, if_pos rfl]
theorem cells_alloc_new (w : World) (cs : Array Value) (t : Nat) : CellsAt (w.alloc (.cells cs t)) w.heap.size 0 cs.toList := by
  intro k v hk
  rw [World.cell?_alloc_new, Nat.zero_add]
  simpa using hk
theorem room_alloc_new (w : World) (cs : Array Value) (t n : Nat) (h : n ≤ cs.size) {sz : Nat} : Room (w.alloc (.cells cs t)) w.heap.size n sz :=
  ⟨cs, t, (0, 0), heap_alloc_new w _, h, fun o ho hc => by omega, fun _ hc => by omega⟩
theorem push_nil {fr : Fr} {os : List SO} {g : Nat → Gh} {w : World} (hm : Mem fr os g w) (sz : Nat) :
    Mem fr (os ++ [.arr false sz []]) (upd g os.length .nil) w ∧ Grow fr os g w (os ++ [.arr false sz []]) (upd g os.length .nil) w ∧
    (upd g os.length .nil) os.length = .nil := by
  have hx : ∀ b, Gh.nil.has b → w.heap.size ≤ b ∧ b < w.heap.size := fun b h => by simp [Gh.has] at h
  have hn : (upd g os.length .nil) os.length = .nil := by unfold upd; rw [if_pos rfl]
  refine ⟨push_mem hm ⟨rfl, rfl, rfl⟩ _ _ (Nat.le_refl _) (fun _ _ => rfl) hx ?_, (push_chg hm ⟨rfl, rfl, rfl⟩ _ _ (Nat.le_refl _) (fun _ _ => rfl) hx).grow, hn⟩
  exact .inl ⟨rfl, hn⟩
theorem push_box {fr : Fr} {os : List SO} {g : Nat → Gh} {w : World} (hm : Mem fr os g w) {l : List SV} {vs : List Value} (hl : RepL w (Bk fr os g w) g l vs) (h1 : ∀ v : Value, v ∈ vs → v.oneCell' = true) (t : Nat) :
    Res fr os g w (os ++ [.box l]) (.ptr os.length 0) (.pointer (some ⟨w.heap.size, 0, none⟩)) (w.alloc (.cells vs.toArray t)) := by
  have hx : ∀ b, (Gh.bx w.heap.size).has b → w.heap.size ≤ b ∧ b < (w.alloc (.cells vs.toArray t)).heap.size := fun b h => by simp [Gh.has] at h; simp [h]
  have hn : (upd g os.length (.bx w.heap.size)) os.length = .bx w.heap.size := by unfold upd; rw [if_pos rfl]
  have hs : w.heap.size ≤ (w.alloc (.cells vs.toArray t)).heap.size := by simp
  have hg := (push_chg hm (out_alloc w _) (.box l) _ hs (heap_alloc_lt w (.cells vs.toArray t)) hx).grow
  refine ⟨_, push_mem hm (out_alloc w _) _ _ hs (heap_alloc_lt w _) hx ?_, hg, .ptr hn⟩
  refine ⟨w.heap.size, vs, hn, hl.mono hg.sub hg.same hg.ext, h1, by simpa using cells_alloc_new w vs.toArray t, room_alloc_new w _ t _ (by simp)⟩
theorem push_arr {fr : Fr} {os : List SO} {g : Nat → Gh} {w : World} (hm : Mem fr os g w) {l : List SV} {vs junk : List Value} {sz cap : Nat} (hl : RepL w (Bk fr os g w) G0 l vs)
    (h1 : ∀ v : Value, v ∈ vs → ElOK sz v) (hc : l.length ≤ cap) (hj : (flatV vs ++ junk).length = cap * sz) (t : Nat) :
    Res fr os g w (os ++ [.arr false sz l]) (.osl os.length) (.slice (some ⟨w.heap.size, 0, none⟩) l.length cap) (w.alloc (.cells (flatV vs ++ junk).toArray t)) := by
  have hx : ∀ b, (Gh.blk w.heap.size sz l.length cap).has b → w.heap.size ≤ b ∧ b < (w.alloc (.cells (flatV vs ++ junk).toArray t)).heap.size := fun b h => by simp [Gh.has] at h; simp [h]
  have hn : (upd g os.length (.blk w.heap.size sz l.length cap)) os.length = .blk w.heap.size sz l.length cap := by unfold upd; rw [if_pos rfl]
  have hs : w.heap.size ≤ (w.alloc (.cells (flatV vs ++ junk).toArray t)).heap.size := by simp
  have hg := (push_chg hm (out_alloc w _) (.arr false sz l) _ hs (heap_alloc_lt w (.cells (flatV vs ++ junk).toArray t)) hx).grow
  refine ⟨_, push_mem hm (out_alloc w _) _ _ hs (heap_alloc_lt w _) hx ?_, hg, .osl hn⟩
  refine .inr ⟨w.heap.size, cap, vs, hn, hc, hl.mono hg.sub hg.same (fun j hj => absurd rfl hj), h1, ?_, room_alloc_new w _ t _ (by simp [← hj])⟩
  have := (cells_alloc_new w (flatV vs ++ junk).toArray t).take (flatV vs).length
  simpa using this
end Go.Proofs.YtebaiioejagfoaaGreatDoor

/- The evaluator S: new variables, structs that are built, stores. -/
namespace Go.Proofs.YtebaiioejagfoaaGreatDoor
open Go
set_option linter.unusedVariables false
set_option linter.unusedSimpArgs false
variable {P : Program} {T : Tab}
theorem evP_none {env : Env} {a : Act} {x : Operand} (h : evP env x = none) : a.eval x = .slice none 0 0 := by
  unfold evP at h
  split at h
  · rfl
  · simp at h
theorem evP_some {env : Env} {x : Operand} {y : SV} (h : evP env x = some y) : ev env x = y := by
  unfold evP at h
  split at h
  · simp at h
  · exact Option.some.inj h
theorem evN_rep {fr : Fr} {os os1 : List SO} {g : Nat → Gh} {w : World} (hm : Mem fr os g w) {env : Env} {a : Act} (hs : Slots w (Bk fr os g w) g env a.tmps) {ty : Nat} {x : Operand} {y : SV}
    (h : evN T ty os (evP env x) = some (y, os1)) : Res fr os g w os1 y (a.eval x) w := by
  unfold evN at h
  split at h
  · rename_i hx
    split at h
    · rename_i e hu
      split at h
      · rename_i i hi
        obtain ⟨rfl, rfl⟩ := Prod.mk.inj (Option.some.inj h)
        obtain ⟨h1, h2, h3⟩ := push_nil hm i.size
        rw [evP_none hx]
        exact ⟨_, h1, h2, .osl0 h3⟩
      · simp at h
    · simp at h
  · rename_i z hx
    obtain ⟨rfl, rfl⟩ := Prod.mk.inj (Option.some.inj h)
    rw [← evP_some hx]
    exact Res.same hm (ev_rep hs x)
theorem zk_scalar {z : ZK} (h : ∀ sz, z ≠ .sl sz) : scalar z.val = true := by
  cases z <;> first | rfl | (exact absurd rfl (h _))
theorem zeroS_rep {fr : Fr} {w : World} : ∀ (zs : List ZK) {os : List SO} {g : Nat → Gh}, Mem fr os g w →
    ∃ g', Mem fr (zeroS zs os).2 g' w ∧ Grow fr os g w (zeroS zs os).2 g' w ∧ RepL w (Bk fr (zeroS zs os).2 g' w) g' (zeroS zs os).1 (zs.map ZK.val) := by
  intro zs
  induction zs with
  | nil => intro os g hm; exact ⟨g, hm, Grow.refl _ _ _ _, RepL.nil⟩
  | cons z zs ih =>
    intro os g hm
    by_cases hz : ∃ sz, z = .sl sz
    · obtain ⟨sz, rfl⟩ := hz
      obtain ⟨h1, h2, h3⟩ := push_nil hm sz
      obtain ⟨g', m, gr, r⟩ := ih h1
      refine ⟨g', m, h2.trans gr, ?_⟩
      simp only [zeroS, List.map_cons]
      refine RepL.cons (.osl0 ?_) r
      rw [gr.ext _ (by rw [h3]; simp)]; exact h3
    · have hz' : ∀ sz, z ≠ .sl sz := fun sz e => hz ⟨sz, e⟩
      obtain ⟨g', m, gr, r⟩ := ih hm
      have e : zeroS (z :: zs) os = (.v z.val :: (zeroS zs os).1, (zeroS zs os).2) := by
        cases z <;> first | rfl | exact absurd rfl (hz' _)
      rw [e]
      exact ⟨g', m, gr, RepL.cons (.v (zk_scalar hz')) r⟩
theorem zk_one (z : ZK) : z.val.oneCell' = true := by cases z <;> rfl
theorem alloc_rep (hT : TabOk P T) {fr : Fr} {os os1 : List SO} {g : Nat → Gh} {w : World} (hm : Mem fr os g w) {t : Nat} {y : SV}
    (h : allocS T os t = some (y, os1)) : ∃ v w', (Instr.alloc t true (.tuple #[])).run P w = .ok v w' ∧ Res fr os g w os1 y v w' := by
  unfold allocS at h
  split at h
  · rename_i i hi
    obtain ⟨info, z, d, i1, i2, i3, i4, i5, i6, i7, i8, i9⟩ := (hT.ti t i hi).ok
    obtain ⟨g', m, gr, r⟩ := zeroS_rep (fr := fr) (w := w) i.zero hm
    obtain ⟨rfl, rfl⟩ := Prod.mk.inj (Option.some.inj h)
    obtain ⟨g2, m2, gr2, r2⟩ := push_box m r (fun v hv => by obtain ⟨z, _, rfl⟩ := List.mem_map.1 hv; exact zk_one z) t
    refine ⟨_, _, ?_, g2, m2, gr.trans gr2, r2⟩
    rw [← i5]
    simp [Instr.alloc, run_zero i1 i4, newVar, newRow]
  · simp at h
theorem box_rep (hT : TabOk P T) {fr : Fr} {os os1 : List SO} {g : Nat → Gh} {w : World} (hm : Mem fr os g w) {env : Env} {a : Act} (hs : Slots w (Bk fr os g w) g env a.tmps) {t : Nat} {x : Operand} {y : SV}
    (h : boxS T os t (evP env x) = some (y, os1)) : ∃ v w', (Instr.box t (a.eval x)).run P w = .ok v w' ∧ Res fr os g w os1 y v w' := by
  unfold boxS at h
  split at h
  · rename_i i z osz hi hn
    split at h
    · rename_i hc
      obtain ⟨rfl, rfl⟩ := Prod.mk.inj (Option.some.inj h)
      obtain ⟨g1, m1, gr1, r1⟩ := evN_rep hm hs hn
      have hd : z ≠ .dead := by
        intro e; subst e; have := hc.2; simp [SV.cells, okCell] at this
      have hl := r1.cells hd
      obtain ⟨g2, m2, gr2, r2⟩ := push_box m1 hl (fun v hv => by
        obtain ⟨k, hk, rfl⟩ := List.mem_iff_getElem.1 hv
        have hk' : k < z.cells.length := by rw [hl.1]; exact hk
        exact okCell_one (hl.2 k z.cells[k] _ (by simp [hk']) (by simp [hk])) (List.all_eq_true.1 hc.2 _ (List.getElem_mem hk'))) t
      refine ⟨_, _, ?_, g2, m2, gr1.trans gr2, r2⟩
      simp [Instr.box, newVar, newRow]
    · simp at h
  · simp at h
def PartsRep (w : World) (B : Nat → Prop) (g : Nat → Gh) : List (Nat × SV) → List (Nat × Value) → Prop
  | [], [] => True
  | p :: ps, q :: qs => p.1 = q.1 ∧ RepV w B g p.2 q.2 ∧ PartsRep w B g ps qs
  | _, _ => False
theorem PartsRep.grow {fr : Fr} {os os' : List SO} {g g' : Nat → Gh} {w w' : World} (hg : Grow fr os g w os' g' w') : ∀ {ps : List (Nat × SV)} {qs : List (Nat × Value)},
    PartsRep w (Bk fr os g w) g ps qs → PartsRep w' (Bk fr os' g' w') g' ps qs
  | [], [], _ => trivial
  | p :: ps, q :: qs, h => ⟨h.1, h.2.1.grow hg, PartsRep.grow hg h.2.2⟩
  | [], _ :: _, h => h.elim
  | _ :: _, [], h => h.elim
theorem partsN_rep {fr : Fr} {w : World} {fs : List (Nat × Nat)} {env : Env} {a : Act} : ∀ (ps : List (Nat × Operand)) {os os1 : List SO} {g : Nat → Gh} {r : List (Nat × SV)}, Mem fr os g w →
    Slots w (Bk fr os g w) g env a.tmps → partsN T fs (ps.map fun p => (p.1, evP env p.2)) os = some (r, os1) →
    ∃ g', Mem fr os1 g' w ∧ Grow fr os g w os1 g' w ∧ PartsRep w (Bk fr os1 g' w) g' r (ps.map fun p => (p.1, a.eval p.2)) ∧
      ∀ p, p ∈ r → ∃ off t i, fs[p.1]? = some (off, t) ∧ T.ti t = some i ∧ p.2.cells.length = i.size := by
  intro ps
  induction ps with
  | nil =>
    intro os os1 g r hm hs h
    simp only [partsN, List.map_nil] at h
    obtain ⟨rfl, rfl⟩ := Prod.mk.inj (Option.some.inj h)
    exact ⟨g, hm, Grow.refl _ _ _ _, trivial, fun p hp => by simp at hp⟩
  | cons p ps ih =>
    intro os os1 g r hm hs h
    simp only [partsN, List.map_cons] at h
    split at h
    · rename_i off t hf
      split at h
      · rename_i i y os2 hi hn
        split at h
        · rename_i hz
          split at h
          · rename_i r' os3 hr
            obtain ⟨rfl, rfl⟩ := Prod.mk.inj (Option.some.inj h)
            obtain ⟨g1, m1, gr1, r1⟩ := evN_rep hm hs hn
            obtain ⟨g2, m2, gr2, r2, r3⟩ := ih m1 (hs.grow gr1) hr
            refine ⟨g2, m2, gr1.trans gr2, ⟨rfl, r1.grow gr2, r2⟩, fun q hq => ?_⟩
            rcases List.mem_cons.1 hq with rfl | hq
            · exact ⟨off, t, i, hf, hi, hz⟩
            · exact r3 q hq
          · simp at h
        · simp at h
      · simp at h
    · simp at h
theorem foldl_set (cs : List Value) : ∀ (off : Nat) (arr : Array Value) (k : Nat), off + k + cs.length ≤ arr.size →
    ((cs.zipIdx k).foldl (fun a p => a.setIfInBounds (off + p.2) p.1) arr).toList = arr.toList.take (off + k) ++ cs ++ arr.toList.drop (off + k + cs.length) := by
  induction cs with
  | nil => intro off arr k h; simp
  | cons c cs ih =>
    intro off arr k h
    simp only [List.zipIdx_cons, List.foldl_cons, List.length_cons] at h ⊢
    rw [ih off _ (k + 1) (by simp; omega)]
    have hlt : off + k < arr.toList.length := by simp; omega
    simp only [Array.toList_setIfInBounds]
    rw [show off + (k + 1) = (off + k) + 1 by omega, List.take_succ_eq_append_getElem (by simpa using hlt), List.take_set, List.getElem_set_self, List.drop_set_of_lt (by omega)]
    rw [List.set_eq_of_length_le (by simp; omega)]
    simp [Nat.add_assoc, Nat.add_comm 1]
theorem fill_step (place : Nat → Option (Nat × Nat)) (cells : Array Value) (i off : Nat) (v : Value) (rest : List (Nat × Value)) (hp : place i = some (off, v.cells.size)) (h : off + v.cells.size ≤ cells.size) :
    Instr.fill place cells ((i, v) :: rest) = Instr.fill place (cells.toList.take off ++ v.cells.toList ++ cells.toList.drop (off + v.cells.size)).toArray rest := by
  rw [Instr.fill, hp]
  simp only [ne_eq, not_true_eq_false, decide_false, Bool.false_or]
  rw [if_neg (by simp; omega)]
  congr 1
  apply Array.ext'
  have := foldl_set v.cells.toList off cells 0 (by simpa using h)
  simp only [Nat.add_zero] at this
  rw [← Array.foldl_toList, Array.toList_zipIdx]
  rw [this]
  simp
theorem setParts_rep {w : World} {B : Nat → Prop} {g : Nat → Gh} {fs : List (Nat × Nat)} (place : Nat → Option (Nat × Nat))
    (hp : ∀ (f off t : Nat) (i : TI), fs[f]? = some (off, t) → T.ti t = some i → place f = some (off, i.size)) : ∀ (ps : List (Nat × SV)) (qs : List (Nat × Value)) (cs cs' : List SV) (vs : List Value),
    PartsRep w B g ps qs → (∀ p, p ∈ ps → ∃ off t i, fs[p.1]? = some (off, t) ∧ T.ti t = some i ∧ p.2.cells.length = i.size) → RepL w B g cs vs → (∀ v : Value, v ∈ vs → v.oneCell' = true) →
    setParts fs cs ps = some cs' → ∃ vs', Instr.fill place vs.toArray qs = some vs'.toArray ∧ RepL w B g cs' vs' ∧ (∀ v : Value, v ∈ vs' → v.oneCell' = true) := by
  intro ps
  induction ps with
  | nil =>
    intro qs cs cs' vs h1 h2 h3 h4 h
    cases qs with
    | nil =>
      simp only [setParts] at h
      obtain rfl := Option.some.inj h
      exact ⟨vs, rfl, h3, h4⟩
    | cons => exact h1.elim
  | cons p ps ih =>
    intro qs cs cs' vs h1 h2 h3 h4 h
    cases qs with
    | nil => exact h1.elim
    | cons q qs =>
      obtain ⟨f, x⟩ := p
      obtain ⟨f', v⟩ := q
      obtain ⟨e1, e2, e3⟩ := h1
      simp only at e1 e2
      subst e1
      obtain ⟨off, t, i, a1, a2, a3⟩ := h2 (f, x) (by simp)
      simp only at a1 a3
      simp only [setParts, a1] at h
      split at h
      · rename_i hc
        have hd : x ≠ .dead := by intro e; subst e; have := hc.2; simp [SV.cells, okCell] at this
        have hl := e2.cells hd
        have hsz : v.cells.size = x.cells.length := by rw [hl.1]; simp
        have hone : ∀ u : Value, u ∈ v.cells.toList → u.oneCell' = true := fun u hu => by
          obtain ⟨k, hk, rfl⟩ := List.mem_iff_getElem.1 hu
          have hk' : k < x.cells.length := by rw [hl.1]; exact hk
          exact okCell_one (hl.2 k x.cells[k] _ (by simp [hk']) (by simp [hk])) (List.all_eq_true.1 hc.2 _ (List.getElem_mem hk'))
        have hle : off + v.cells.size ≤ vs.toArray.size := by rw [hsz]; simp [← h3.1]; exact hc.1
        rw [fill_step place _ f off v qs (by rw [hp f off t i a1 a2, hsz, a3]) hle]
        refine ih qs (splice cs off x.cells) cs' _ e3 (fun p hp' => h2 p (by simp [hp'])) ?_ ?_ h
        · simp only [splice, hsz]
          exact ((h3.take off).append hl).append (h3.drop _)
        · intro u hu
          simp only [List.mem_append] at hu
          rcases hu with (hu | hu) | hu
          · exact h4 u (List.mem_of_mem_take hu)
          · exact hone u hu
          · exact h4 u (List.mem_of_mem_drop hu)
      · simp at h
theorem mapM_places {T : Tab} : ∀ (fs : List Field), (∀ f, f ∈ fs → (P.info? f.type).isSome = true) →
    ∃ places, fs.mapM (fun f => (P.info? f.type).map fun i => (f.offset, i.size)) = some places ∧
      ∀ (k : Nat) (f : Field) (info : TypeInfo), fs[k]? = some f → P.info? f.type = some info → places[k]? = some (f.offset, info.size) := by
  intro fs
  induction fs with
  | nil => intro _; exact ⟨[], rfl, fun k f info h => by simp at h⟩
  | cons f fs ih =>
    intro h
    obtain ⟨pl, h1, h2⟩ := ih (fun x hx => h x (by simp [hx]))
    obtain ⟨info, hi⟩ := Option.isSome_iff_exists.1 (h f (by simp))
    refine ⟨(f.offset, info.size) :: pl, by simp [List.mapM_cons, hi, h1], fun k f' info' hk hi' => ?_⟩
    cases k with
    | zero => simp at hk; subst hk; rw [hi] at hi'; cases hi'; rfl
    | succ k => simpa using h2 k f' info' (by simpa using hk) hi'
theorem build_rep (hT : TabOk P T) {fr : Fr} {os os1 : List SO} {g : Nat → Gh} {w : World} (hm : Mem fr os g w) {env : Env} {a : Act} (hs : Slots w (Bk fr os g w) g env a.tmps) {t : Nat} {ps : Array (Nat × Operand)} {y : SV}
    (h : buildS T os t (ps.toList.map fun p => (p.1, evP env p.2)) = some (y, os1)) :
    ∃ v, (Instr.build t (ps.map fun (i, x) => (i, a.eval x))).run P w = .ok v w ∧ Res fr os g w os1 y v w := by
  unfold buildS at h
  split at h
  · rename_i u i hu hi
    split at h
    · rename_i fs hf
      split at h
      · rename_i r os2 hr
        simp only at h
        split at h
        · rename_i cs hcs
          obtain ⟨rfl, rfl⟩ := Prod.mk.inj (Option.some.inj h)
          obtain ⟨info, z, d, i1, i2, i3, i4, i5, i6, i7, i8, i9⟩ := (hT.ti t i hi).ok
          obtain ⟨fields, f1, f2, f3⟩ := hT.struct t u fs hu hf
          obtain ⟨g1, m1, gr1, r1, r2⟩ := partsN_rep ps.toList hm hs hr
          obtain ⟨g2, m2, gr2, z2⟩ := zeroS_rep (fr := fr) (w := w) i.zero m1
          obtain ⟨pl, p1, p2⟩ := mapM_places (P := P) (T := T) fields.toList f3
          have hplace : ∀ (f off t : Nat) (i : TI), fs[f]? = some (off, t) → T.ti t = some i → (pl.toArray[·]?) f = some (off, i.size) := by
            intro f off t' i' hx hi'
            rw [← f2, List.getElem?_map] at hx
            obtain ⟨fd, h3, h4⟩ := Option.map_eq_some_iff.1 hx
            obtain ⟨info', z', d', j1, j2, j3, j4, j5, j6, j7, j8, j9⟩ := (hT.ti t' i' hi').ok
            obtain ⟨e1, e2⟩ := Prod.mk.inj h4
            have := p2 f fd info' h3 (by rw [e2]; exact j1)
            simp only [List.getElem?_toArray]
            rw [this, e1, j2]
          obtain ⟨vs', v1, v2, v3⟩ := setParts_rep (T := T) (pl.toArray[·]?) hplace r _ _ cs (i.zero.map ZK.val) (r1.grow gr2) r2 z2 (fun v hv => by obtain ⟨z, _, rfl⟩ := List.mem_map.1 hv; exact zk_one z) hcs
          refine ⟨.agg vs'.toArray, run_build w t _ _ ?_, g2, m2, gr1.trans gr2, .ag v2.1 v2.2 v3⟩
          simp only [Program.built, i1, f1, i4, p1]
          rw [show z.cells = (i.zero.map ZK.val).toArray by rw [← i5]]
          simpa using v1
        · simp at h
      · simp at h
    · simp at h
  · simp at h
theorem heap_setCell_ne (w : World) (a : Addr) (v : Value) (b : Nat) (h : a.block ≠ b) : (w.setCell a v).heap[b]? = w.heap[b]? := by
  simp only [World.setCell, Array.getElem?_modify]
  rw [if_neg h]
theorem heap_setCells_ne (b c : Nat) (h : b ≠ c) : ∀ (vs : List Value) (o : Nat) (w : World), (w.setCells b o vs).heap[c]? = w.heap[c]?
  | [], _, _ => rfl
  | v :: r, o, w => by rw [World.setCells, heap_setCells_ne b c h r, heap_setCell_ne _ _ _ _ h]
theorem out_setCells (b : Nat) : ∀ (vs : List Value) (o : Nat) (w : World), SameOut w (w.setCells b o vs)
  | [], _, w => SameOut.refl w
  | v :: r, o, w => by
    rw [World.setCells]
    exact SameOut.trans (w' := w.setCell ⟨b, o, none⟩ v) ⟨rfl, rfl, rfl⟩ (out_setCells b r (o + 1) _)
theorem size_setCells (b : Nat) : ∀ (vs : List Value) (o : Nat) (w : World), (w.setCells b o vs).heap.size = w.heap.size
  | [], _, _ => rfl
  | v :: r, o, w => by rw [World.setCells, size_setCells b r]; simp
theorem heap_setCells (b : Nat) : ∀ (vs : List Value) (o : Nat) (w : World) {cs : Array Value} {t : Nat} {fz : Nat × Nat}, w.heap[b]? = some (.cells cs t fz) →
    ∃ cs', (w.setCells b o vs).heap[b]? = some (.cells cs' t fz) ∧ cs'.size = cs.size
  | [], _, _, cs, _, _, h => ⟨cs, h, rfl⟩
  | v :: r, o, w, cs, t, fz, h => by
    have : (w.setCell ⟨b, o, none⟩ v).heap[b]? = some (.cells (cs.setIfInBounds o v) t fz) := by
      simp only [World.setCell, Array.getElem?_modify, if_true, h]
      rfl
    obtain ⟨cs', h1, h2⟩ := heap_setCells b r (o + 1) _ this
    exact ⟨cs', by rw [World.setCells]; exact h1, by simpa using h2⟩
theorem room_cell {w : World} {b n sz : Nat} (h : Room w b n sz) {o : Nat} (ho : o < n) : (w.cell? ⟨b, o, none⟩).isSome = true ∧ w.frozen? ⟨b, o, none⟩ = false := by
  obtain ⟨cs, t, fz, h1, h2, h3⟩ := h
  refine ⟨by simp [World.cell?, h1]; omega, ?_⟩
  have := h3.1 o (by omega)
  obtain ⟨lo, hi⟩ := fz
  simp only [World.frozen?, h1]
  simpa using this
theorem room_setCells {w : World} {b n sz : Nat} (h : Room w b n sz) (o : Nat) (vs : List Value) : Room (w.setCells b o vs) b n sz := by
  obtain ⟨cs, t, fz, h1, h2, h3⟩ := h
  obtain ⟨cs', h4, h5⟩ := heap_setCells b vs o w h1
  exact ⟨cs', t, fz, h4, by omega, by rw [h5]; exact h3⟩
theorem run_stores {w : World} {b n o s0 : Nat} {vs : List Value} (h : Room w b n s0) (ho : o + vs.length ≤ n) (h1 : ∀ v : Value, v ∈ vs → v.oneCell' = true) :
    (storeCells ⟨b, o, none⟩ vs).run P w = .ok () (w.setCells b o vs) := by
  have := run_storeCells_cells (P := P) b o vs 0 w (fun j hj => (room_cell h (by omega)).1) (fun j hj => (room_cell h (by omega)).2) h1
  simpa using this
theorem cells_setCells {w : World} {b n o s0 : Nat} {vs cs : List Value} (h : Room w b n s0) (hc : CellsAt w b 0 cs) (ho : o ≤ cs.length) (hn : o + vs.length ≤ n) :
    CellsAt (w.setCells b o vs) b 0 (cs.take o ++ vs ++ cs.drop (o + vs.length)) := by
  intro k v hk
  rw [Nat.zero_add]
  have lt : (cs.take o).length = o := by simp [ho]
  rcases Nat.lt_or_ge k o with h1 | h1
  · rw [World.cell?_setCells_out b vs o w _ (fun _ _ => .inl h1)]
    rw [List.append_assoc, List.getElem?_append_left (by omega), List.getElem?_take, if_pos h1] at hk
    have := hc k v hk
    rwa [Nat.zero_add] at this
  · rcases Nat.lt_or_ge k (o + vs.length) with h2 | h2
    · have := World.cell?_setCells_in b vs o w (fun j hj => (room_cell h (by omega)).1) (k - o) (by omega)
      rw [show o + (k - o) = k by omega] at this
      rw [this]
      rw [List.append_assoc, List.getElem?_append_right (by omega), List.getElem?_append_left (by omega), lt] at hk
      rw [List.getElem?_eq_getElem (by omega)] at hk
      exact hk
    · rw [World.cell?_setCells_out b vs o w _ (fun _ _ => .inr h2)]
      rw [List.getElem?_append_right (by simp; omega), List.getElem?_drop] at hk
      have e : o + vs.length + (k - (cs.take o ++ vs).length) = k := by simp; omega
      rw [e] at hk
      have := hc k v hk
      rwa [Nat.zero_add] at this
theorem set_chg {fr : Fr} {os : List SO} {g : Nat → Gh} {w w' : World} (hm : Mem fr os g w) (so : SameOut w w') {j : Nat} {o o' : SO} {b : Nat} (hj : os[j]? = some o) (ho : o.isLive = true) (hb : (g j).has b) (ho' : o'.isLive = true)
    (hs : w'.heap.size = w.heap.size) (hw : ∀ c, c ≠ b → w'.heap[c]? = w.heap[c]?) : Chg fr os g w (os.set j o') g w' (fun c => c = b) where
  out := so
  size := by omega
  same c hc hne := hw c hne
  only c hc := ⟨j, o, hj, ho, by rw [hc]; exact hb⟩
  ext _ _ := rfl
  live c hc := by
    obtain ⟨k, x, hk, hl, hx⟩ := hc
    rw [List.getElem?_set] at hk
    split at hk
    · rename_i e
      subst e
      have : live os g c := ⟨j, o, hj, ho, hx⟩
      exact ⟨.inl this, by rw [hs]; exact (hm.own c this).1⟩
    · have : live os g c := ⟨k, x, hk, hl, hx⟩
      exact ⟨.inl this, by rw [hs]; exact (hm.own c this).1⟩
theorem set_mem {fr : Fr} {os : List SO} {g : Nat → Gh} {w w' : World} (hm : Mem fr os g w) (so : SameOut w w') {j : Nat} {o o' : SO} {b : Nat} (hj : os[j]? = some o) (ho : o.isLive = true) (hb : (g j).has b) (ho' : o'.isLive = true)
    (hmine : ∀ sz l, o' = .arr false sz l → ∃ sz' l', o = .arr false sz' l') (hs : w'.heap.size = w.heap.size) (hw : ∀ c, c ≠ b → w'.heap[c]? = w.heap[c]?)
    (hok : ObjOK w' (Bk fr (os.set j o') g w') g j o') : Mem fr (os.set j o') g w' := by
  have hjl := lt_of_getElem? hj
  have back : ∀ {k : Nat} {x : SO}, (os.set j o')[k]? = some x → (k = j ∧ x = o') ∨ (k ≠ j ∧ os[k]? = some x) := by
    intro k x hk
    rw [List.getElem?_set] at hk
    split at hk
    · rename_i e; subst e; first | exact .inl ⟨rfl, (Option.some.inj hk).symm⟩ | (rw [if_pos hjl] at hk; exact .inl ⟨rfl, (Option.some.inj hk).symm⟩)
    · rename_i e; exact .inr ⟨fun h => e h.symm, hk⟩
  refine (set_chg hm so hj ho hb ho' hs hw).mem hm ?_ ?_ ?_ ?_
  · intro k x hk
    rcases back hk with ⟨rfl, rfl⟩ | ⟨hne, hk⟩
    · exact .inr hok
    · exact .inl ⟨hk, fun c hl hc e => by subst e; exact hne (hm.inj k j x o c hk hj hl ho hc hb)⟩
  · intro k hk; exact hm.fresh k (by simpa using hk)
  · intro i k oi ok c hi hk li lk bi bk
    have lift : ∀ {k : Nat} {x : SO}, (os.set j o')[k]? = some x → x.isLive = true → ∃ y, os[k]? = some y ∧ y.isLive = true := by
      intro k x hk hl
      rcases back hk with ⟨rfl, rfl⟩ | ⟨_, hk⟩
      · exact ⟨o, hj, ho⟩
      · exact ⟨x, hk, hl⟩
    obtain ⟨y, hy, hyl⟩ := lift hi li
    obtain ⟨z, hz, hzl⟩ := lift hk lk
    exact hm.inj i k y z c hy hz hyl hzl bi bk
  · intro k sz l c hk hc
    rcases back hk with ⟨rfl, e⟩ | ⟨_, hk⟩
    · obtain ⟨sz', l', rfl⟩ := hmine sz l e.symm
      exact hm.mine k sz' l' c hj hc
    · exact hm.mine k sz l c hk hc
end Go.Proofs.YtebaiioejagfoaaGreatDoor

/- The evaluator S: what is handed on is read from then on; stores; slice literals. -/
namespace Go.Proofs.YtebaiioejagfoaaGreatDoor
open Go
set_option linter.unusedVariables false
set_option linter.unusedSimpArgs false
variable {P : Program} {T : Tab}
theorem freeze_chg {fr : Fr} {os : List SO} {g : Nat → Gh} {w : World} (hm : Mem fr os g w) {j sz : Nat} {l : List SV} (hj : os[j]? = some (.arr false sz l)) :
    Chg fr os g w (os.set j (.frz sz l)) g w (fun _ => False) where
  out := SameOut.refl _
  size := Nat.le_refl _
  same _ _ _ := rfl
  only _ h := h.elim
  ext _ _ := rfl
  live c hc := by
    obtain ⟨k, x, hk, hl, hx⟩ := hc
    rw [List.getElem?_set] at hk
    split at hk
    · rename_i e
      subst e
      split at hk
      · obtain rfl := Option.some.inj hk; simp [SO.isLive] at hl
      · simp at hk
    · have : live os g c := ⟨k, x, hk, hl, hx⟩
      exact ⟨.inl this, (hm.own c this).1⟩
theorem freeze_mem {fr : Fr} {os : List SO} {g : Nat → Gh} {w : World} (hm : Mem fr os g w) {j sz : Nat} {l : List SV} (hj : os[j]? = some (.arr false sz l)) :
    Mem fr (os.set j (.frz sz l)) g w := by
  have hjl := lt_of_getElem? hj
  have hg := (freeze_chg hm hj).grow
  have back : ∀ {k : Nat} {x : SO}, (os.set j (.frz sz l))[k]? = some x → (k = j ∧ x = .frz sz l) ∨ (k ≠ j ∧ os[k]? = some x) := by
    intro k x hk
    rw [List.getElem?_set] at hk
    split at hk
    · rename_i e; subst e; first | exact .inl ⟨rfl, (Option.some.inj hk).symm⟩ | (rw [if_pos hjl] at hk; exact .inl ⟨rfl, (Option.some.inj hk).symm⟩)
    · rename_i e; exact .inr ⟨fun h => e h.symm, hk⟩
  refine (freeze_chg hm hj).mem hm ?_ ?_ ?_ ?_
  · intro k x hk
    rcases back hk with ⟨rfl, rfl⟩ | ⟨_, hk⟩
    · refine .inr ?_
      rcases hm.objs _ _ hj with ⟨rfl, hn⟩ | ⟨b, cap, vs, e1, e2, e3, e4, e5, e6⟩
      · exact .inl ⟨rfl, hn⟩
      · have hlive : live os g b := ⟨k, _, hj, rfl, by rw [e1]; rfl⟩
        refine .inr ⟨b, cap, vs, e1, e2, ⟨(hm.own b hlive).1, fun h => ?_, ?_⟩, e3.mono hg.sub hg.same (fun j hj => absurd rfl hj), e4, e5⟩
        · have := hm.mine k sz l b hj (by rw [e1]; rfl); omega
        · rintro ⟨i, o, hi, hl, hb⟩
          rcases back hi with ⟨rfl, rfl⟩ | ⟨hne, hi⟩
          · simp [SO.isLive] at hl
          · exact hne (hm.inj i k o _ b hi hj hl rfl hb (by rw [e1]; rfl))
    · exact .inl ⟨hk, fun _ _ _ h => h⟩
  · intro k hk; exact hm.fresh k (by simpa using hk)
  · intro i k oi ok c hi hk li lk bi bk
    rcases back hi with ⟨rfl, rfl⟩ | ⟨_, hi⟩
    · simp [SO.isLive] at li
    · rcases back hk with ⟨rfl, rfl⟩ | ⟨_, hk⟩
      · simp [SO.isLive] at lk
      · exact hm.inj i k oi ok c hi hk li lk bi bk
  · intro k sz' l' c hk hc
    rcases back hk with ⟨rfl, e⟩ | ⟨_, hk⟩
    · cases e
    · exact hm.mine k sz' l' c hk hc
theorem frz_rep {fr : Fr} {os : List SO} {g : Nat → Gh} {w : World} (hm : Mem fr os g w) {j sz : Nat} {l : List SV} {v : Value} (hj : os[j]? = some (.frz sz l))
    (h : RepV w (Bk fr os g w) g (.osl j) v) : ∀ g', RepV w (Bk fr os g w) g' (.sl sz l) v := by
  intro g'
  rcases hm.objs _ _ hj with ⟨rfl, hn⟩ | ⟨b, cap, vs, e1, e2, e3, e4, e5, e6⟩
  · cases h with
    | osl0 => exact .sl0
    | osln hq9 => exfalso; first | (rw [hn] at hq9; cases hq9) | (rw [e1] at hq9; cases hq9) | (rw [hg] at hq9; cases hq9) | (rw [h1] at hq9; cases hq9) | (simp_all; done)
    | osl hg => rw [hn] at hg; cases hg
  · cases h with
    | osl0 hg => rw [e1] at hg; cases hg
    | osln hq9 => exfalso; first | (rw [hn] at hq9; cases hq9) | (rw [e1] at hq9; cases hq9) | (rw [hg] at hq9; cases hq9) | (rw [h1] at hq9; cases hq9) | (simp_all; done)
    | osl hg => rw [e1] at hg; cases hg; exact .sl e4.1 e4.2 e5 e6 e3 e2
theorem vw_rep {fr : Fr} {os : List SO} {g : Nat → Gh} {w : World} (hm : Mem fr os g w) {j sz lo hi : Nat} {l : List SV} {v : Value} (hj : os[j]? = some (.frz sz l)) (hl : lo ≤ hi) (hh : hi ≤ l.length)
    (h : RepV w (Bk fr os g w) g (.vw j lo hi) v) : ∀ g', RepV w (Bk fr os g w) g' (.sl sz ((l.take hi).drop lo)) v := by
  intro g'
  cases h with
  | vw0 => rw [List.drop_eq_nil_of_le (by simp; omega)]; exact .sl0
  | vw hg a1 a2 a3 =>
    by_cases e : lo = hi
    · subst e
      rw [Nat.sub_self, List.drop_eq_nil_of_le (by simp; omega)]
      exact .sl0
    rcases hm.objs _ _ hj with ⟨rfl, hn⟩ | ⟨b, cap, vs, e1, e2, e3, e4, e5, e6⟩
    · rw [hn] at hg; cases hg
    · rw [e1] at hg; cases hg
      have e7 : hi - lo = ((l.take hi).drop lo).length := by simp; omega
      have h1 := e4.1
      rw [e7]
      refine .sl (vs := (vs.take hi).drop lo) (sz := sz) (by simp [h1]) ?_ ?_ ?_ e3 (by simp; omega)
      · exact (RepL.drop (RepL.take ⟨e4.1, e4.2⟩ hi) lo).2
      · intro v hv; exact e5 v (List.mem_of_mem_take (List.mem_of_mem_drop hv))
      · have := (e6.take (hi * sz)).drop (lo * sz)
        rw [flatV_take e5, flatV_drop (fun v hv => e5 v (List.mem_of_mem_take hv)), Nat.zero_add] at this
        exact this
theorem pureCell_rep {fr : Fr} {os os1 : List SO} {g : Nat → Gh} {w : World} (hm : Mem fr os g w) {x y : SV} {v : Value} (hx : RepV w (Bk fr os g w) g x v)
    (h : pureCell os x = some (y, os1)) : Mem fr os1 g w ∧ Grow fr os g w os1 g w ∧ RepV w (Bk fr os1 g w) G0 y v ∧ v.oneCell' = true := by
  unfold pureCell at h
  split at h
  · obtain ⟨rfl, rfl⟩ := Prod.mk.inj (Option.some.inj h)
    cases hx with
    | v hs => exact ⟨hm, Grow.refl _ _ _ _, .v hs, scalar_one hs⟩
  · obtain ⟨rfl, rfl⟩ := Prod.mk.inj (Option.some.inj h)
    cases hx with
    | sl0 => exact ⟨hm, Grow.refl _ _ _ _, .sl0, rfl⟩
    | sl h1 h2 h3 h4 h5 h6 => exact ⟨hm, Grow.refl _ _ _ _, .sl h1 h2 h3 h4 h5 h6, rfl⟩
  · rename_i j
    split at h
    · rename_i sz l hj
      obtain ⟨rfl, rfl⟩ := Prod.mk.inj (Option.some.inj h)
      have hm' := freeze_mem hm hj
      have hg := (freeze_chg hm hj).grow
      have hj' : (os.set j (.frz sz l))[j]? = some (.frz sz l) := by rw [List.getElem?_set, if_pos rfl, if_pos (lt_of_getElem? hj)]
      exact ⟨hm', hg, frz_rep hm' hj' (hx.grow hg) _, okCell_one hx rfl⟩
    · rename_i sz l hj
      obtain ⟨rfl, rfl⟩ := Prod.mk.inj (Option.some.inj h)
      exact ⟨hm, Grow.refl _ _ _ _, frz_rep hm hj hx _, okCell_one hx rfl⟩
    · simp at h
  · rename_i j lo hi
    have hone : v.oneCell' = true := by cases hx <;> rfl
    split at h
    · rename_i sz l hj
      split at h
      · rename_i hb
        obtain ⟨rfl, rfl⟩ := Prod.mk.inj (Option.some.inj h)
        have hm' := freeze_mem hm hj
        have hg := (freeze_chg hm hj).grow
        have hj' : (os.set j (.frz sz l))[j]? = some (.frz sz l) := by rw [List.getElem?_set, if_pos rfl, if_pos (lt_of_getElem? hj)]
        exact ⟨hm', hg, vw_rep hm' hj' hb.1 hb.2 (hx.grow hg) _, hone⟩
      · simp at h
    · rename_i sz l hj
      split at h
      · rename_i hb
        obtain ⟨rfl, rfl⟩ := Prod.mk.inj (Option.some.inj h)
        exact ⟨hm, Grow.refl _ _ _ _, vw_rep hm hj hb.1 hb.2 hx _, hone⟩
      · simp at h
    · simp at h
  · simp at h
theorem deVw_rep {fr : Fr} {os os1 : List SO} {g : Nat → Gh} {w : World} (hm : Mem fr os g w) {x y : SV} {v : Value} (hx : RepV w (Bk fr os g w) g x v)
    (h : deVw os x = some (y, os1)) : Mem fr os1 g w ∧ Grow fr os g w os1 g w ∧ RepV w (Bk fr os1 g w) g y v := by
  unfold deVw at h
  split at h
  · obtain ⟨m, gr, r, -⟩ := pureCell_rep hm hx h
    exact ⟨m, gr, r.mono (fun _ h => h) (fun _ _ => rfl) g (fun _ h => absurd rfl h)⟩
  · obtain ⟨rfl, rfl⟩ := Prod.mk.inj (Option.some.inj h)
    exact ⟨hm, Grow.refl _ _ _ _, hx⟩
theorem pureCells_rep {fr : Fr} {w : World} {g : Nat → Gh} : ∀ (xs : List SV) {os os1 : List SO} {ys : List SV} {vs : List Value}, Mem fr os g w → RepL w (Bk fr os g w) g xs vs →
    pureCells xs os = some (ys, os1) → Mem fr os1 g w ∧ Grow fr os g w os1 g w ∧ RepL w (Bk fr os1 g w) G0 ys vs ∧ ∀ v : Value, v ∈ vs → v.oneCell' = true := by
  intro xs
  induction xs with
  | nil =>
    intro os os1 ys vs hm hl h
    simp only [pureCells] at h
    obtain ⟨rfl, rfl⟩ := Prod.mk.inj (Option.some.inj h)
    have := hl.1
    cases vs with
    | nil => exact ⟨hm, Grow.refl _ _ _ _, RepL.nil, fun v hv => by simp at hv⟩
    | cons => simp at this
  | cons x xs ih =>
    intro os os1 ys vs hm hl h
    obtain ⟨v, vs', rfl, hv, hl'⟩ := hl.uncons
    simp only [pureCells] at h
    split at h
    · rename_i y os2 hy
      split at h
      · rename_i ys' os3 hys
        obtain ⟨rfl, rfl⟩ := Prod.mk.inj (Option.some.inj h)
        obtain ⟨m1, g1, r1, o1⟩ := pureCell_rep hm hv hy
        obtain ⟨m2, g2, r2, o2⟩ := ih m1 (hl'.mono g1.sub g1.same g1.ext) hys
        refine ⟨m2, g1.trans g2, RepL.cons (r1.mono g2.sub g2.same G0 (fun _ h => absurd rfl h)) r2, fun u hu => ?_⟩
        rcases List.mem_cons.1 hu with rfl | hu
        · exact o1
        · exact o2 u hu
      · simp at h
    · simp at h
theorem one_cells {v : Value} (h : v.oneCell' = true) : v.cells = #[v] := by
  cases v <;> first | rfl | simp [Value.oneCell'] at h
theorem pureS_rep {fr : Fr} {os os1 : List SO} {g : Nat → Gh} {w : World} (hm : Mem fr os g w) {x y : SV} {v : Value} (hx : RepV w (Bk fr os g w) g x v)
    (h : pureS os x = some (y, os1)) : Mem fr os1 g w ∧ Grow fr os g w os1 g w ∧ RepV w (Bk fr os1 g w) G0 y v ∧ ElOK y.cells.length v := by
  unfold pureS at h
  split at h
  · rename_i l
    split at h
    · rename_i ys os2 hys
      obtain ⟨rfl, rfl⟩ := Prod.mk.inj (Option.some.inj h)
      cases hx with
      | ag h1 h2 h3 =>
        obtain ⟨m, g1, r, o⟩ := pureCells_rep l hm ⟨h1, h2⟩ hys
        exact ⟨m, g1, .ag r.1 r.2 o, by simpa [SV.cells, Value.cells] using r.1.symm, by simpa [Value.cells] using o⟩
    · simp at h
  · obtain ⟨m, g1, r, o⟩ := pureCell_rep hm hx h
    have hd : y ≠ .dead := by
     intro e
     subst e
     unfold pureCell at h
     split at h <;> first
      | (obtain ⟨e, _⟩ := Prod.mk.inj (Option.some.inj h); cases e; done)
      | (split at h <;> first | (obtain ⟨e, _⟩ := Prod.mk.inj (Option.some.inj h); cases e; done) | (split at h <;> first | (obtain ⟨e, _⟩ := Prod.mk.inj (Option.some.inj h); cases e; done) | (simp at h; done)) | (simp at h; done))
      | (simp at h; done)
    exact ⟨m, g1, r, (r.size hd).symm, fun c hc => by rw [one_cells o] at hc; simp at hc; subst hc; exact o⟩
theorem pureL_rep {fr : Fr} {w : World} {g : Nat → Gh} : ∀ (xs : List SV) {os os1 : List SO} {ys : List SV} {vs : List Value}, Mem fr os g w → RepL w (Bk fr os g w) g xs vs →
    pureL xs os = some (ys, os1) → Mem fr os1 g w ∧ Grow fr os g w os1 g w ∧ RepL w (Bk fr os1 g w) G0 ys vs ∧
      ∀ (i : Nat) (y : SV) (v : Value), ys[i]? = some y → vs[i]? = some v → ElOK y.cells.length v := by
  intro xs
  induction xs with
  | nil =>
    intro os os1 ys vs hm hl h
    simp only [pureL] at h
    obtain ⟨rfl, rfl⟩ := Prod.mk.inj (Option.some.inj h)
    have := hl.1
    cases vs with
    | nil => exact ⟨hm, Grow.refl _ _ _ _, RepL.nil, fun i y v hv => by simp at hv⟩
    | cons => simp at this
  | cons x xs ih =>
    intro os os1 ys vs hm hl h
    obtain ⟨v, vs', rfl, hv, hl'⟩ := hl.uncons
    simp only [pureL] at h
    split at h
    · rename_i y os2 hy
      split at h
      · rename_i ys' os3 hys
        obtain ⟨rfl, rfl⟩ := Prod.mk.inj (Option.some.inj h)
        obtain ⟨m1, g1, r1, o1⟩ := pureS_rep hm hv hy
        obtain ⟨m2, g2, r2, o2⟩ := ih m1 (hl'.mono g1.sub g1.same g1.ext) hys
        refine ⟨m2, g1.trans g2, RepL.cons (r1.mono g2.sub g2.same G0 (fun _ h => absurd rfl h)) r2, fun i z u hz hu => ?_⟩
        cases i with
        | zero => simp at hz hu; subst hz; subst hu; exact o1
        | succ i => exact o2 i z u (by simpa using hz) (by simpa using hu)
      · simp at h
    · simp at h
theorem run_storeVar {t : Nat} {i : TI} (hi : TiOk P t i) {w : World} {b n o s0 : Nat} {v : Value} (h : Room w b n s0) (hs : v.cells.size = i.size) (ho : o + v.cells.size ≤ n)
    (h1 : ∀ u : Value, u ∈ v.cells.toList → u.oneCell' = true) : (Instr.storeAt t (.pointer (some ⟨b, o, none⟩)) v).run P w = .ok () (w.setCells b o v.cells.toList) := by
  obtain ⟨info, z, d, i1, i2, i3, i4, i5, i6, i7, i8, i9⟩ := hi.ok
  have := run_stores (P := P) (vs := v.cells.toList) h (by simpa using ho) h1
  simp [Instr.storeAt, Instr.sureAddr, storeVar, run_size i1, i2, hs, this]
theorem flatV_set {vs : List Value} {sz n off : Nat} {u u' : Value} {cs : List Value} (h : ∀ v : Value, v ∈ vs → ElOK sz v) (hu : vs[n]? = some u)
    (hc : u'.cells.toList = u.cells.toList.take off ++ cs ++ u.cells.toList.drop (off + cs.length)) (ho : off + cs.length ≤ sz) :
    flatV (vs.set n u') = (flatV vs).take (n * sz + off) ++ cs ++ (flatV vs).drop (n * sz + off + cs.length) := by
  have hn := lt_of_getElem? hu
  have hus : u.cells.toList.length = sz := by simpa using (h u (List.mem_of_getElem? hu)).1
  have e1 : vs = vs.take n ++ u :: vs.drop (n + 1) := by
    have : u = vs[n] := by rw [List.getElem?_eq_getElem hn] at hu; exact (Option.some.inj hu).symm
    rw [this, ← List.drop_eq_getElem_cons hn, List.take_append_drop]
  have hA : (flatV (vs.take n)).length = n * sz := by
    rw [flatV_length (fun v hv => h v (List.mem_of_mem_take hv)), List.length_take, Nat.min_eq_left (by omega)]
  have e2 : flatV vs = flatV (vs.take n) ++ (u.cells.toList ++ flatV (vs.drop (n + 1))) := by
    conv => lhs; rw [e1]
    simp [flatV]
  have e3 : flatV (vs.set n u') = flatV (vs.take n) ++ (u'.cells.toList ++ flatV (vs.drop (n + 1))) := by
    rw [List.set_eq_take_append_cons_drop, if_pos hn]
    simp [flatV]
  rw [e3, e2, hc]
  generalize flatV (vs.take n) = A at *
  generalize flatV (vs.drop (n + 1)) = D at *
  generalize u.cells.toList = U at *
  clear e1 e2 e3 hc hu h
  rw [List.take_append, List.drop_append, hA, List.take_of_length_le (show A.length ≤ n * sz + off by omega), show n * sz + off - n * sz = off by omega,
    List.take_append_of_le_length (show off ≤ U.length by omega), List.drop_eq_nil_of_le (show A.length ≤ n * sz + off + cs.length by omega),
    show n * sz + off + cs.length - n * sz = off + cs.length by omega, List.drop_append_of_le_length (show off + cs.length ≤ U.length by omega)]
  simp [List.append_assoc]
theorem setElem_rep {w : World} {B : Nat → Prop} {y : SV} {u : Value} {ys : List SV} {cs : List Value} {off : Nat} (hy : RepV w B G0 y u) (hd : y ≠ .dead) (hr : RepL w B G0 ys cs)
    (ho : ∀ c : Value, c ∈ cs → c.oneCell' = true) (hl : off + cs.length ≤ y.cells.length) (hp : 0 < cs.length) :
    ∃ u', RepV w B G0 (setElem y off ys) u' ∧ u'.cells.toList = u.cells.toList.take off ++ cs ++ u.cells.toList.drop (off + cs.length) := by
  by_cases ha : ∃ ly, y = .ag ly
  · obtain ⟨ly, rfl⟩ := ha
    cases hy with
    | ag a1 a2 a3 =>
      rename_i uv
      have hrl : RepL w B G0 ly uv := ⟨a1, a2⟩
      refine ⟨.agg (uv.take off ++ cs ++ uv.drop (off + cs.length)).toArray, ?_, by simp [Value.cells]⟩
      have h1 : setElem (.ag ly) off ys = .ag (splice ly off ys) := rfl
      rw [h1]
      have h2 : RepL w B G0 (splice ly off ys) (uv.take off ++ cs ++ uv.drop (off + cs.length)) := by
        simp only [splice, hr.1]
        exact ((hrl.take off).append hr).append (hrl.drop _)
      refine .ag h2.1 h2.2 fun z hz => ?_
      simp only [List.mem_append] at hz
      rcases hz with (hz | hz) | hz
      · exact a3 z (List.mem_of_mem_take hz)
      · exact ho z hz
      · exact a3 z (List.mem_of_mem_drop hz)
  · have hyc : y.cells = [y] := by
      cases y <;> first | rfl | exact absurd ⟨_, rfl⟩ ha
    have hs := hy.size hd
    rw [hyc] at hs hl
    simp at hs hl
    obtain rfl : off = 0 := by omega
    obtain ⟨c, rfl⟩ : ∃ c, cs = [c] := by
      match cs, hp, hl with
      | [c], _, _ => exact ⟨c, rfl⟩
    obtain ⟨z, rfl⟩ : ∃ z, ys = [z] := by
      have := hr.1
      match ys, this with
      | [z], _ => exact ⟨z, rfl⟩
    have e : setElem y 0 [z] = z := by
      cases y <;> first | rfl | exact absurd ⟨_, rfl⟩ ha
    rw [e]
    refine ⟨c, hr.2 0 z c rfl rfl, ?_⟩
    rw [one_cells (ho c (by simp))]
    have : u.cells.toList.length = 1 := by simp [← hs]
    rw [List.drop_eq_nil_of_le (by simp; omega)]
    rfl
theorem store_rep (hT : TabOk P T) {fr : Fr} {os os1 : List SO} {g : Nat → Gh} {w : World} (hm : Mem fr os g w) {t : Nat} {p x : SV} {pv xv : Value}
    (hp : RepV w (Bk fr os g w) g p pv) (hx : RepV w (Bk fr os g w) g x xv) (h : storeS T os t p x = some os1) :
    ∃ w', (Instr.storeAt t pv xv).run P w = .ok () w' ∧ Mem fr os1 g w' ∧ Grow fr os g w os1 g w' := by
  unfold storeS at h
  split at h
  · rename_i i hi
    have hti := hT.ti t i hi
    split at h
    · rename_i hsz
      split at h
      · rename_i j off
        split at h
        · rename_i l hj
          split at h
          · rename_i hc
            obtain rfl := Option.some.inj h
            have hd : x ≠ .dead := by intro e; subst e; have := hc.2; simp [SV.cells, okCell] at this
            have hxl := hx.cells hd
            have hxs : xv.cells.size = i.size := by rw [← hsz, hx.size hd]
            have hone : ∀ u : Value, u ∈ xv.cells.toList → u.oneCell' = true := fun u hu => by
              obtain ⟨k, hk, rfl⟩ := List.mem_iff_getElem.1 hu
              have hk' : k < x.cells.length := by rw [hxl.1]; exact hk
              exact okCell_one (hxl.2 k x.cells[k] _ (by simp [hk']) (by simp [hk])) (List.all_eq_true.1 hc.2 _ (List.getElem_mem hk'))
            obtain ⟨b, vs, e1, e2, e3, e4, e5⟩ := hm.objs _ _ hj
            cases hp with
            | ptr hp =>
              rw [e1] at hp
              cases hp
              have hle : off + xv.cells.size ≤ vs.length := by rw [hxs, ← e2.1]; exact hc.1
              have hb : (g j).has b := by rw [e1]; rfl
              have hs := size_setCells b xv.cells.toList off w
              have hw := fun c (hc : c ≠ b) => heap_setCells_ne b c (fun e => hc e.symm) xv.cells.toList off w
              have hg := (set_chg hm (out_setCells _ _ _ _) hj rfl hb (o' := .box (splice l off x.cells)) rfl hs hw).grow
              refine ⟨_, run_storeVar hti e5 hxs hle hone, set_mem hm (out_setCells _ _ _ _) hj rfl hb rfl (fun sz l e => by cases e) hs hw ?_, hg⟩
              refine ⟨b, vs.take off ++ xv.cells.toList ++ vs.drop (off + xv.cells.toList.length), e1, ?_, ?_, ?_, ?_⟩
              · have key : RepL w (Bk fr os g w) g (splice l off x.cells) (vs.take off ++ xv.cells.toList ++ vs.drop (off + xv.cells.toList.length)) := by
                  have hl := hxl.1
                  simp only [splice]
                  rw [hl]
                  exact ((e2.take off).append hxl).append (e2.drop _)
                exact key.mono hg.sub hg.same hg.ext
              · intro u hu
                simp only [List.mem_append] at hu
                rcases hu with (hu | hu) | hu
                · exact e3 u (List.mem_of_mem_take hu)
                · exact hone u hu
                · exact e3 u (List.mem_of_mem_drop hu)
              · exact cells_setCells e5 e4 (by omega) (by simpa using hle)
              · have : (vs.take off ++ xv.cells.toList ++ vs.drop (off + xv.cells.toList.length)).length = vs.length := by simp; omega
                rw [this]; exact room_setCells e5 _ _
          · simp at h
        · simp at h
      · rename_i j n off
        split at h
        · rename_i ys os2 hys
          split at h
          · rename_i lt sz l hj
            split at h
            · rename_i y hy
              split at h
              · rename_i yc hyc
                obtain ⟨hyd, rfl⟩ := dcells_eq hyc
                split at h
                · rename_i hle
                  obtain rfl := Option.some.inj h
                  have hd : x ≠ .dead := by intro e; subst e; simp [SV.cells, pureCells, pureCell] at hys
                  have hxl := hx.cells hd
                  have hxs : xv.cells.size = i.size := by rw [← hsz, hx.size hd]
                  obtain ⟨m1, g1, r1, o1⟩ := pureCells_rep _ hm hxl hys
                  rcases m1.objs _ _ hj with ⟨rfl, hn⟩ | ⟨b, cap, vs, e1, e2, e3, e4, e5, e6⟩
                  · simp at hy
                  · cases hp with
                    | ap hp =>
                      rw [e1] at hp
                      cases hp
                      obtain ⟨u, hu, hyu⟩ := e3.get hy
                      have hn := lt_of_getElem? hu
                      have husz := (e4 u (List.mem_of_getElem? hu)).1
                      have hu1 := (e4 u (List.mem_of_getElem? hu)).2
                      have hxlen : xv.cells.toList.length = i.size := by simpa using hxs
                      have hys' : y.cells.length = sz := by rw [hyu.size hyd]; exact husz
                      obtain ⟨u', q1, q2⟩ := setElem_rep hyu hyd r1 o1 (by rw [hxlen]; exact hle.1) (by rw [hxlen]; exact hle.2)
                      have q3 : off + xv.cells.toList.length ≤ sz := by rw [hxlen, ← hys']; exact hle.1
                      have hlen := flatV_length e4
                      have hmul : (n + 1) * sz ≤ vs.length * sz := Nat.mul_le_mul_right _ hn
                      have hmul2 : vs.length * sz ≤ cap * sz := Nat.mul_le_mul_right _ (by rw [← e3.1]; exact e2)
                      rw [Nat.succ_mul] at hmul
                      have hb : (g j).has b := by rw [e1]; rfl
                      have hs := size_setCells b xv.cells.toList (n * sz + off) w
                      have hw := fun c (hc : c ≠ b) => heap_setCells_ne b c (fun e => hc e.symm) xv.cells.toList (n * sz + off) w
                      have hg := (set_chg m1 (out_setCells _ _ _ _) hj rfl hb (o' := .arr lt sz (l.set n (setElem y off ys))) rfl hs hw).grow
                      have hu'sz : u'.cells.size = sz := by
                        have : u'.cells.toList.length = u.cells.toList.length := by
                          rw [q2]
                          have : u.cells.toList.length = sz := by simpa using husz
                          simp; omega
                        simp at this; omega
                      refine ⟨_, run_storeVar hti e6 hxs (by rw [show xv.cells.size = xv.cells.toList.length by simp]; omega) o1, set_mem m1 (out_setCells _ _ _ _) hj rfl hb rfl (fun sz' l' e => ?_) hs hw ?_, g1.trans hg⟩
                      · cases e; exact ⟨_, _, rfl⟩
                      · refine .inr ⟨b, cap, vs.set n u', by simpa using e1, by simpa using e2, ?_, ?_, ?_, room_setCells e6 _ _⟩
                        · refine ⟨by simp [e3.1], fun k z c hz hc => ?_⟩
                          rw [List.getElem?_set] at hz hc
                          split at hz
                          · rename_i e
                            subst e
                            have h1 : n < l.length := lt_of_getElem? hy
                            first
                              | (rw [if_pos h1] at hz; rw [if_pos rfl, if_pos hn] at hc; obtain rfl := Option.some.inj hz; obtain rfl := Option.some.inj hc; exact q1.mono hg.sub hg.same G0 (fun _ h => absurd rfl h))
                              | (rw [if_pos rfl] at hc; obtain rfl := Option.some.inj hz; obtain rfl := Option.some.inj hc; exact q1.mono hg.sub hg.same G0 (fun _ h => absurd rfl h))
                          · rename_i e
                            rw [if_neg e] at hc
                            exact (e3.2 k z c hz hc).mono hg.sub hg.same G0 (fun _ h => absurd rfl h)
                        · intro v hv
                          rcases List.mem_or_eq_of_mem_set hv with hv | rfl
                          · exact e4 v hv
                          · refine ⟨hu'sz, fun c hc => ?_⟩
                            rw [q2] at hc
                            simp only [List.mem_append] at hc
                            rcases hc with (hc | hc) | hc
                            · exact hu1 c (List.mem_of_mem_take hc)
                            · exact o1 c hc
                            · exact hu1 c (List.mem_of_mem_drop hc)
                        · rw [flatV_set e4 hu q2 q3]
                          exact cells_setCells e6 e5 (by omega) (by omega)
                · simp at h
              · simp at h
            · simp at h
          · simp at h
        · simp at h
      · simp at h
    · simp at h
  · simp at h
end Go.Proofs.YtebaiioejagfoaaGreatDoor
