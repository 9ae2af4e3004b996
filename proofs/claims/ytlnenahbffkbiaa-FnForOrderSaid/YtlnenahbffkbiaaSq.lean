/- The evaluator S and what it says of functions: Sl, Sm, Sn, So, Sp, Sq. -/
import Derived.Test.YtlnenahbffkbiaaSk
import Derived.Laws.BytesString
/- The evaluator S: copy and conversions. -/
namespace Go.Proofs.Ytlnenahbffkbiaa
open Go
set_option linter.unusedVariables false
set_option linter.unusedSimpArgs false
variable {P : Program} {T : Tab}
theorem arr_rep {fr : Fr} {os : List SO} {g : Nat → Gh} {w : World} (hm : Mem fr os g w) {j sz : Nat} {lt : Bool} {l : List SV} {sv : Value} (hj : os[j]? = some (.arr lt sz l))
    (hs : RepV w (Bk fr os g w) g (.osl j) sv) :
    ∃ base cap vs, sv = .slice base l.length cap ∧ l.length ≤ cap ∧ RepL w (Bk fr os g w) G0 l vs ∧ (∀ v : Value, v ∈ vs → ElOK sz v) ∧
      ((base = none ∧ l = [] ∧ cap = 0 ∧ g j = .nil) ∨ ∃ b, base = some ⟨b, 0, none⟩ ∧ g j = .blk b sz l.length cap ∧ CellsAt w b 0 (flatV vs) ∧ Room w b (cap * sz) sz) := by
  rcases hm.objs _ _ hj with ⟨rfl, hn⟩ | ⟨b, cap, vs, e1, e2, e3, e4, e5, e6⟩
  · cases hs with
    | osl0 => exact ⟨none, 0, [], rfl, Nat.le_refl _, RepL.nil, fun v hv => by simp at hv, .inl ⟨rfl, rfl, rfl, hn⟩⟩
    | osl hg => rw [hn] at hg; cases hg
  · cases hs with
    | osl0 hg => rw [e1] at hg; cases hg
    | osl hg => rw [e1] at hg; cases hg; exact ⟨_, _, vs, rfl, e2, e3, e4, .inr ⟨b, rfl, e1, e5, e6⟩⟩
theorem set_same {os : List SO} {j : Nat} {o : SO} (h : os[j]? = some o) : os.set j o = os := by
  apply List.ext_getElem?
  intro k
  rw [List.getElem?_set]
  split
  · rename_i e
    subst e
    first
      | exact h.symm
      | (rw [if_pos (lt_of_getElem? h)]; exact h.symm)
  · rfl
theorem overwrite {fr : Fr} {os : List SO} {g : Nat → Gh} {w : World} (hm : Mem fr os g w) {j sz : Nat} {lt : Bool} {l r : List SV} {vs us : List Value} {b cap lo : Nat} (hj : os[j]? = some (.arr lt sz l))
    (e1 : g j = .blk b sz l.length cap) (e2 : l.length ≤ cap) (e3 : RepL w (Bk fr os g w) G0 l vs) (e4 : ∀ v : Value, v ∈ vs → ElOK sz v) (e5 : CellsAt w b 0 (flatV vs)) (e6 : Room w b (cap * sz) sz)
    (hr : RepL w (Bk fr os g w) G0 r us) (hu : ∀ v : Value, v ∈ us → ElOK sz v) (hle : lo + r.length ≤ l.length) :
    (storeCells ⟨b, lo * sz, none⟩ (flatV us)).run P w = .ok () (w.setCells b (lo * sz) (flatV us)) ∧
    Mem fr (os.set j (.arr lt sz (l.take lo ++ r ++ l.drop (lo + r.length)))) g (w.setCells b (lo * sz) (flatV us)) ∧
    Grow fr os g w (os.set j (.arr lt sz (l.take lo ++ r ++ l.drop (lo + r.length)))) g (w.setCells b (lo * sz) (flatV us)) := by
  have hul : (flatV us).length = r.length * sz := by rw [flatV_length hu, hr.1]
  have hvl : (flatV vs).length = l.length * sz := by rw [flatV_length e4, e3.1]
  have hmul : (lo + r.length) * sz ≤ l.length * sz := Nat.mul_le_mul_right _ hle
  have hmul2 : l.length * sz ≤ cap * sz := Nat.mul_le_mul_right _ e2
  rw [Nat.add_mul] at hmul
  have hb : (g j).block? = some b := by rw [e1]; rfl
  have hs := size_setCells b (flatV us) (lo * sz) w
  have hw := fun c (hc : c ≠ b) => heap_setCells_ne b c (fun e => hc e.symm) (flatV us) (lo * sz) w
  have hg := (set_chg hm (out_setCells _ _ _ _) hj rfl hb (o' := .arr lt sz (l.take lo ++ r ++ l.drop (lo + r.length))) rfl hs hw).grow
  refine ⟨run_stores e6 (by omega) (fun v hv => by obtain ⟨u, hu', hv⟩ := List.mem_flatMap.1 hv; exact (hu u hu').2 v hv), set_mem hm (out_setCells _ _ _ _) hj rfl hb rfl (fun sz' l' e => by cases e; exact ⟨_, _, rfl⟩) hs hw ?_, hg⟩
  have hlen : (l.take lo ++ r ++ l.drop (lo + r.length)).length = l.length := by simp; omega
  refine .inr ⟨b, cap, vs.take lo ++ us ++ vs.drop (lo + us.length), by rw [hlen]; exact e1, by rw [hlen]; exact e2, ?_, ?_, ?_, room_setCells e6 _ _⟩
  · have := ((e3.take lo).append hr).append (e3.drop (lo + r.length))
    rw [← hr.1]
    exact this.mono hg.sub hg.same (fun _ h => absurd rfl h)
  · intro v hv
    simp only [List.mem_append] at hv
    rcases hv with (hv | hv) | hv
    · exact e4 v (List.mem_of_mem_take hv)
    · exact hu v hv
    · exact e4 v (List.mem_of_mem_drop hv)
  · have := cells_setCells (o := lo * sz) (vs := flatV us) e6 e5 (by omega) (by omega)
    rw [hul, ← Nat.add_mul, flatV_take e4, flatV_drop e4] at this
    rw [flatV_append, flatV_append, ← hr.1]
    exact this
theorem run_copy {t t' e ty : Nat} {info : TypeInfo} (ht : P.underlying t = some (.slice e)) (hi : P.info? e = some info) {w w' : World} {base xa : Option Addr} {dl dc n xc : Nat} {cells : Array Value}
    (hx : (Builtin.firstCells info.size (min n dl) (.slice xa n xc)).run P w = .ok cells w) (hst : match base with | some a => (storeCells a cells.toList).run P w = .ok () w' | none => w' = w) :
    (Builtin.copy_ #[t, t'] ty #[.slice base dl dc, .slice xa n xc]).run P w = .ok (.int .i64 ((min n dl : Nat) : Int)) w' := by
  cases base with
  | none =>
    simp only at hst
    subst hst
    simp [Builtin.copy_, run_underlying ht, run_size hi, Builtin.lenOf, hx, goInt]
  | some a =>
    simp only at hst
    simp [Builtin.copy_, run_underlying ht, run_size hi, Builtin.lenOf, hx, hst, goInt]
theorem copy_rep (hT : TabOk P T) {fr : Fr} {os os1 : List SO} {g : Nat → Gh} {w : World} (hm : Mem fr os g w) {t t' ty : Nat} {s x y : SV} {sv xv : Value}
    (hs : RepV w (Bk fr os g w) g s sv) (hx : RepV w (Bk fr os g w) g x xv) (h : copyS T os t s x = some (y, os1)) :
    ∃ v w', (Builtin.copy_ #[t, t'] ty #[sv, xv]).run P w = .ok v w' ∧ Res fr os g w os1 y v w' := by
  unfold copyS at h
  split at h
  · rename_i e j sz' r hu hr
    split at h
    · rename_i i lt sz l hi hj
      split at h
      · rename_i hc
        obtain ⟨rfl, rfl⟩ := hc
        obtain ⟨rfl, rfl⟩ := Prod.mk.inj (Option.some.inj h)
        obtain ⟨info, z, d, i1, i2, i3, i4, i5, i6, i7, i8, i9⟩ := (hT.ti e i hi).ok
        have ht := hT.slice t e hu
        obtain ⟨xa, xc, rfl, hxc, hxr⟩ := elems_rep hm hx hr
        obtain ⟨us, u1, u2, u3⟩ := firstCells_of (P := P) (c := xc) hxr
        obtain ⟨base, cap, vs, rfl, b1, b2, b3, b4⟩ := arr_rep hm hj hs
        have hread := u3 w rfl (min r.length l.length) (Nat.min_le_left _ _) r.length
        rw [← i2] at hread
        rcases b4 with ⟨rfl, rfl, rfl, hn⟩ | ⟨b, rfl, e1, e5, e6⟩
        · refine ⟨_, w, run_copy ht i1 (t' := t') (ty := ty) (w' := w) (dl := 0) (by simpa using hread) rfl, ?_⟩
          have e : (r.take (min r.length ([] : List SV).length) ++ ([] : List SV).drop (min r.length ([] : List SV).length)) = [] := by simp
          rw [e, set_same hj]
          exact Res.same hm (.v rfl)
        · have hm1 : (r.take (min r.length l.length)).length = min r.length l.length := by simp
          obtain ⟨q1, q2, q3⟩ := overwrite (P := P) (lo := 0) (r := r.take (min r.length l.length)) (us := us.take (min r.length l.length)) hm hj e1 b1 b2 b3 e5 e6 (u1.take _) (fun v hv => u2 v (List.mem_of_mem_take hv)) (by rw [hm1]; omega)
          rw [hm1] at q2 q3
          simp only [List.take_zero, List.nil_append, Nat.zero_add, Nat.zero_mul] at q1 q2 q3
          exact ⟨_, _, run_copy ht i1 (t' := t') (ty := ty) hread (by simpa using q1), g, q2, q3, .v rfl⟩
      · simp at h
    · simp at h
  · rename_i e j lo hi' sz' r hu hr
    split at h
    · rename_i i lt sz l hi hj
      split at h
      · rename_i hc
        obtain ⟨rfl, c1, c2, rfl⟩ := hc
        obtain ⟨rfl, rfl⟩ := Prod.mk.inj (Option.some.inj h)
        obtain ⟨info, z, d, i1, i2, i3, i4, i5, i6, i7, i8, i9⟩ := (hT.ti e i hi).ok
        have ht := hT.slice t e hu
        obtain ⟨xa, xc, rfl, hxc, hxr⟩ := elems_rep hm hx hr
        obtain ⟨us, u1, u2, u3⟩ := firstCells_of (P := P) (c := xc) hxr
        have hread := u3 w rfl (min r.length (hi' - lo)) (Nat.min_le_left _ _) r.length
        rw [← i2] at hread
        have hm1 : (r.take (min r.length (hi' - lo))).length = min r.length (hi' - lo) := by simp
        cases hs with
        | vw0 =>
          rename_i c a
          have hz : min r.length (lo - lo) = 0 := by simp
          rw [hz] at hread ⊢
          have e : (l.take lo ++ r.take 0 ++ l.drop (lo + 0)) = l := by simp
          rw [e, set_same hj]
          have hcells : flatV (us.take 0) = [] := by simp [flatV]
          rw [hcells] at hread
          have := run_copy (P := P) ht i1 (t' := t') (ty := ty) (w' := w) (base := a) (dl := 0) (dc := c) (n := r.length) (xa := xa) (xc := xc) (cells := #[]) (by simpa using hread) (by cases a <;> rfl)
          exact ⟨_, w, by simpa using this, Res.same hm (.v rfl)⟩
        | vw hg a1 a2 a3 =>
          rcases hm.objs _ _ hj with ⟨rfl, hn⟩ | ⟨b, cap, vs, e1, e2, e3, e4, e5, e6⟩
          · rw [hn] at hg; cases hg
          · rw [e1] at hg
            cases hg
            obtain ⟨q1, q2, q3⟩ := overwrite (P := P) (lo := lo) (r := r.take (min r.length (hi' - lo))) (us := us.take (min r.length (hi' - lo))) hm hj e1 e2 e3 e4 e5 e6 (u1.take _) (fun v hv => u2 v (List.mem_of_mem_take hv)) (by rw [hm1]; omega)
            rw [hm1] at q2 q3
            exact ⟨_, _, run_copy ht i1 (t' := t') (ty := ty) hread (by simpa using q1), g, q2, q3, .v rfl⟩
      · simp at h
    · simp at h
  · simp at h
theorem bytesOf_rep {w : World} {B : Nat → Prop} {g : Nat → Gh} : ∀ {l : List SV} {vs : List Value} {bs : List UInt8}, RepL w B g l vs → bytesOf l = some bs →
    ∃ ns : List Int, vs = ns.map (Value.int .u8) ∧ bs = ns.map fun n => UInt8.ofNat n.toNat := by
  intro l
  induction l with
  | nil =>
    intro vs bs h hb
    have := h.1
    simp only [bytesOf, Option.some.injEq] at hb
    subst hb
    cases vs with
    | nil => exact ⟨[], rfl, rfl⟩
    | cons => simp at this
  | cons x l ih =>
    intro vs bs h hb
    obtain ⟨v, vs', rfl, hv, hl⟩ := h.uncons
    unfold bytesOf at hb
    split at hb
    · simp_all
    · rename_i n xs e
      cases e
      obtain rfl := v_rep hv
      split at hb
      · rename_i r hr
        obtain rfl := Option.some.inj hb
        obtain ⟨ns, rfl, rfl⟩ := ih hl hr
        exact ⟨n :: ns, rfl, rfl⟩
      · simp at hb
    · simp at hb
theorem foldl_push (ns : List Int) : ∀ (s : ByteArray), ns.foldl (fun r n => r.push (UInt8.ofNat n.toNat)) s = ⟨(s.data.toList ++ ns.map fun n => UInt8.ofNat n.toNat).toArray⟩ := by
  induction ns with
  | nil => intro s; simp
  | cons n ns ih =>
    intro s
    rw [List.foldl_cons, ih]
    simp [ByteArray.push]
theorem run_stringToBytes_of (w : World) (e : Nat) (s : ByteArray) :
    ∃ cap, s.size ≤ cap ∧ ∃ w', (Conv.stringToBytes e s).run P w = .ok (.slice (some ⟨w.heap.size, 0, none⟩) s.size cap) w' ∧ SameOut w w' ∧ w'.heap.size = w.heap.size + 1 ∧ (∀ b, b < w.heap.size → w'.heap[b]? = w.heap[b]?) ∧
      w'.heap[w.heap.size]? = some (.cells (s.data.map (fun b => Value.int .u8 b.toNat) ++ Array.replicate (cap - s.size) (.int .u8 0)) e
        ((s.data.map (fun b => Value.int .u8 b.toNat) ++ Array.replicate (cap - s.size) (Value.int .u8 0)).size, (s.data.map (fun b => Value.int .u8 b.toNat) ++ Array.replicate (cap - s.size) (Value.int .u8 0)).size + 1)) := by
  refine ⟨grownCap w s.size 0 e, by unfold grownCap; simp only [Question.cut]; omega, ?_⟩
  refine ⟨(w.drew.alloc (.cells (s.data.map (fun b => Value.int .u8 b.toNat) ++ Array.replicate (grownCap w s.size 0 e - s.size) (.int .u8 0)) e)).freeze
    ⟨w.heap.size, (s.data.map (fun b => Value.int .u8 b.toNat) ++ Array.replicate (grownCap w s.size 0 e - s.size) (Value.int .u8 0)).size, none⟩ 1, ?_, ⟨rfl, rfl, rfl⟩, ?_, ?_, ?_⟩
  · have hsh : (w.drew.alloc (.cells (s.data.map (fun b => Value.int .u8 b.toNat) ++ Array.replicate (grownCap w s.size 0 e - s.size) (.int .u8 0)) e)).shape? w.heap.size =
        some (e, (s.data.map (fun b => Value.int .u8 b.toNat) ++ Array.replicate (grownCap w s.size 0 e - s.size) (Value.int .u8 0)).size) := by
      have := heap_alloc_new w.drew (.cells (s.data.map (fun b => Value.int .u8 b.toNat) ++ Array.replicate (grownCap w s.size 0 e - s.size) (.int .u8 0)) e)
      simp only [World.size_drew] at this
      simp only [World.shape?, this]
    simp only [grownCap] at hsh ⊢
    simp [Conv.stringToBytes, Question.forced, newRow, markStringish, hsh]
  · simp [World.freeze, -World.alloc_eq]
  · intro b hb
    simp only [World.freeze, Nat.one_ne_zero, if_false, Array.getElem?_modify]
    rw [if_neg (by omega)]
    exact heap_alloc_lt w.drew _ b hb
  · have := heap_alloc_new w.drew (.cells (s.data.map (fun b => Value.int .u8 b.toNat) ++ Array.replicate (grownCap w s.size 0 e - s.size) (.int .u8 0)) e)
    simp only [World.size_drew] at this
    simp only [World.freeze, Nat.one_ne_zero, if_false, Array.getElem?_modify, if_true, this]
    rfl
theorem conv_rep (hT : TabOk P T) {fr : Fr} {os os1 : List SO} {g : Nat → Gh} {w : World} (hm : Mem fr os g w) {src dst : Nat} {x y : SV} {xv : Value}
    (hx : RepV w (Bk fr os g w) g x xv) (h : convS T os src dst x = some (y, os1)) :
    ∃ v w', (convert src dst xv).run P w = .ok v w' ∧ Res fr os g w os1 y v w' := by
  unfold convS at h
  split at h
  · rename_i k k' kk n hu hu'
    obtain ⟨rfl, rfl⟩ := Prod.mk.inj (Option.some.inj h)
    obtain rfl := v_rep hx
    exact ⟨_, w, by simp [convert, run_underlying (hT.int src _ hu), run_underlying (hT.int dst _ hu'), Conv.intToInt], Res.same hm (.v rfl)⟩
  · rename_i e hu hu'
    split at h
    · rename_i l he hl
      split at h
      · rename_i bs hbs
        obtain ⟨rfl, rfl⟩ := Prod.mk.inj (Option.some.inj h)
        obtain ⟨xa, xc, rfl, hxc, hxr⟩ := elems_rep hm hx hl
        refine ⟨.string ⟨bs.toArray⟩, w, ?_, Res.same hm (.v rfl)⟩
        rw [run_convert_bytes_string w src dst e xa _ _ (hT.slice src e hu) (hT.int e _ he) (hT.str dst hu')]
        cases xa with
        | none =>
          rcases hxr with rfl | ⟨b, o, vs, h1, _⟩
          · simp only [bytesOf, Option.some.injEq] at hbs
            subst hbs
            rfl
          · simp at h1
        | some a =>
          have hload : ∃ ns : List Int, (loadCells a l.length).run P w = .ok (ns.map (Value.int .u8)).toArray w ∧ bs = ns.map fun n => UInt8.ofNat n.toNat := by
            rcases hxr with rfl | ⟨b, o, vs, h1, h2, h3, h4⟩
            · simp only [bytesOf, Option.some.injEq] at hbs
              subst hbs
              exact ⟨[], rfl, rfl⟩
            · cases h1
              obtain ⟨ns, rfl, rfl⟩ := bytesOf_rep h2 hbs
              refine ⟨ns, ?_, rfl⟩
              have hf : flatV (ns.map (Value.int .u8)) = ns.map (Value.int .u8) := by
                clear h2 h3 h4 hbs
                induction ns with
                | nil => rfl
                | cons n ns ih => simp only [flatV, List.map_cons, List.flatMap_cons] at ih ⊢; rw [ih (by first | exact trivial | simp_all)]; rfl
              have := run_loadCells_list (P := P) w ⟨b, o, none⟩ (ns.map (Value.int .u8)) (fun j v hj => by rw [Addr.add_lit]; rw [hf] at h4; exact h4 j v hj)
              rw [h2.1]
              exact this
          obtain ⟨ns, hl', rfl⟩ := hload
          rw [run_bytesToString w a _ _ ns hl', foldl_push]
          simp
      · simp at h
    · simp at h
  · rename_i e s hu hu'
    split at h
    · rename_i he
      obtain ⟨rfl, rfl⟩ := Prod.mk.inj (Option.some.inj h)
      obtain rfl := v_rep hx
      obtain ⟨cap, hcap, w', hrun, hso, hsz, hold, hnew⟩ := run_stringToBytes_of (P := P) w e s
      have hl : RepL w (Bk fr os g w) G0 (s.data.toList.map byteSV) (s.data.toList.map fun b => Value.int .u8 b.toNat) :=
        ⟨by simp, fun i x v h1 h2 => by
          rw [List.getElem?_map] at h1 h2
          obtain ⟨b, hb, rfl⟩ := Option.map_eq_some_iff.1 h1
          rw [hb] at h2
          obtain rfl := Option.some.inj h2
          exact .v rfl⟩
      have hel : ∀ v : Value, v ∈ (s.data.toList.map fun b => Value.int .u8 b.toNat) → ElOK 1 v := fun v hv => by
        obtain ⟨b, _, rfl⟩ := List.mem_map.1 hv
        exact ⟨rfl, fun c hc => by simp [Value.cells] at hc; subst hc; rfl⟩
      have hf : flatV (s.data.toList.map fun b => Value.int .u8 b.toNat) = s.data.toList.map fun b => Value.int .u8 b.toNat := by
        generalize s.data.toList = q
        induction q with
        | nil => rfl
        | cons n ns ih => simp only [flatV, List.map_cons, List.flatMap_cons] at ih ⊢; rw [ih]; rfl
      have hx0 : ∀ c, (Gh.blk w.heap.size 1 (s.data.toList.map byteSV).length cap).block? = some c → w.heap.size ≤ c ∧ c < w'.heap.size := fun c hc => by
        simp only [Gh.block?, Option.some.injEq] at hc
        subst hc
        exact ⟨Nat.le_refl _, by omega⟩
      have hn : upd g os.length (.blk w.heap.size 1 (s.data.toList.map byteSV).length cap) os.length = .blk w.heap.size 1 (s.data.toList.map byteSV).length cap := by unfold upd; rw [if_pos rfl]
      have hg := (push_chg hm hso (.arr false 1 (s.data.toList.map byteSV)) _ (by omega) hold hx0).grow
      have hss : s.size = s.data.toList.length := by rw [Array.length_toList]; rfl
      refine ⟨_, w', by simp only [convert, Sem.run_bind, run_underlying (hT.str src hu), run_underlying (hT.slice dst e hu'), run_underlying (hT.int e _ he), Result.andThen_ok]; exact hrun, _, push_mem hm hso _ _ (by omega) hold hx0 ?_, hg, ?_⟩
      · refine .inr ⟨w.heap.size, cap, s.data.toList.map fun b => Value.int .u8 b.toNat, hn, by rw [List.length_map, ← hss]; exact hcap, hl.mono hg.sub hg.same (fun _ h => absurd rfl h), hel, ?_, ?_⟩
        · rw [hf]
          intro k v hk
          simp only [World.cell?, hnew, Nat.zero_add]
          simp only [Option.isSome_none, Bool.false_eq_true, if_false]
          rw [Array.getElem?_append_left (by have := lt_of_getElem? hk; simpa using this)]
          simpa using hk
        · refine ⟨_, _, _, hnew, ?_, fun o ho hc => ?_, fun h => absurd rfl h⟩
          · rw [Array.size_append, Array.size_map, Array.size_replicate]
            show cap * 1 ≤ s.size + (cap - s.size)
            omega
          · have h1 := hc.1
            exact absurd ho (Nat.not_lt.2 h1)
      · have := fun W => RepV.osl (w := W) (B := Bk fr (os ++ [.arr false 1 (s.data.toList.map byteSV)]) (upd g os.length (.blk w.heap.size 1 (s.data.toList.map byteSV).length cap)) W) hn
        have h2 := this w'
        rw [List.length_map, ← hss] at h2
        simpa [List.length_map, ← hss] using h2
    · simp at h
  · rename_i s hu hu'
    obtain ⟨rfl, rfl⟩ := Prod.mk.inj (Option.some.inj h)
    obtain rfl := v_rep hx
    exact ⟨_, w, by simp [convert, run_underlying (hT.str src hu), run_underlying (hT.str dst hu')], Res.same hm (.v rfl)⟩
  · simp at h
end Go.Proofs.Ytlnenahbffkbiaa

/- The evaluator S: every operation but a call of a function is sound. -/
namespace Go.Proofs.Ytlnenahbffkbiaa
open Go
set_option linter.unusedVariables false
set_option linter.unusedSimpArgs false
variable {P : Program} {T : Tab}
def OpOK (P : Program) (fr : Fr) (os : List SO) (g : Nat → Gh) (w : World) (os' : List SO) (x : SV) (o : Oper) (a : Act) : Prop :=
  ∀ next Q, (∀ v w', Res fr os g w os' x v w' → next (a.put o.dst v) w') → o.wp P a w next Q
theorem value_ok {fr : Fr} {os os' : List SO} {g : Nat → Gh} {w w' : World} {x : SV} {v : Value} {o : Oper} {a : Act} (h : (execOp a.eval o).run P w = .ok (.value v) w')
    (hr : Res fr os g w os' x v w') : OpOK P fr os g w os' x o a := by
  intro next Q hn
  unfold Oper.wp
  rw [h]
  exact hn v w' hr
theorem skip_ok {fr : Fr} {os os' : List SO} {g : Nat → Gh} {w w' : World} {o : Oper} {a : Act} (h : (execOp a.eval o).run P w = .ok .skip w')
    (hr : Res fr os g w os' .undef undef w') : OpOK P fr os g w os' .undef o a := by
  intro next Q hn
  unfold Oper.wp
  rw [h]
  exact hn undef w' hr
theorem ret1_eq {x : Option SV} {os os' : List SO} {y : SV} (h : ret1 x os = some (y, os')) : x = some y ∧ os' = os := by
  unfold ret1 at h
  split at h
  · obtain ⟨rfl, rfl⟩ := Prod.mk.inj (Option.some.inj h); exact ⟨rfl, rfl⟩
  · simp at h
theorem pick_rep {w : World} {B : Nat → Prop} {g : Nat → Gh} {c a b r : SV} {cv av bv : Value} (hc : RepV w B g c cv) (ha : RepV w B g a av) (hb : RepV w B g b bv) (h : pickS c a b = some r) :
    ∃ t, cv = .bool t ∧ RepV w B g r (if t then av else bv) := by
  unfold pickS at h
  split at h
  · rename_i t
    obtain rfl := Option.some.inj h
    obtain rfl := v_rep hc
    refine ⟨t, rfl, ?_⟩
    cases t
    · exact hb
    · exact ha
  · simp at h
theorem nil_rep {w : World} {B : Nat → Prop} {g : Nat → Gh} {x r : SV} {v : Value} (hx : RepV w B g x v) (h : nilS x = some r) : (∃ a, v = .pointer (some a)) ∧ RepV w B g r v := by
  unfold nilS at h
  split at h
  · obtain rfl := Option.some.inj h
    cases hx with | ptr hp => exact ⟨⟨_, rfl⟩, .ptr hp⟩
  · obtain rfl := Option.some.inj h
    cases hx with | ap hp => exact ⟨⟨_, rfl⟩, .ap hp⟩
  · obtain rfl := Option.some.inj h
    cases hx with | el h1 h2 h3 => exact ⟨⟨_, rfl⟩, .el h1 h2 h3⟩
  · simp at h
theorem extract_rep {w : World} {B : Nat → Prop} {g : Nat → Gh} {x r : SV} {v : Value} {i : Nat} (hx : RepV w B g x v) (h : extractS x i = some r) :
    ∃ u, (Instr.extract v i).run P w = .ok u w ∧ RepV w B g r u := by
  unfold extractS at h
  split at h
  · cases hx with
    | tup h1 h2 =>
      obtain ⟨u, hu, hr⟩ := RepL.get ⟨h1, h2⟩ h
      exact ⟨u, by simp [Instr.extract, hu], hr⟩
  · simp at h
theorem len_rep (hT : TabOk P T) {fr : Fr} {os : List SO} {g : Nat → Gh} {w : World} (hm : Mem fr os g w) {t ty : Nat} {x : SV} {xv : Value} {n : Nat} (hx : RepV w (Bk fr os g w) g x xv)
    (h : lenS T t os x = some n) : (Builtin.len_ #[t] ty #[xv]).run P w = .ok (.int .i64 (n : Int)) w := by
  unfold lenS at h
  split at h
  · rename_i hu
    split at h
    · rename_i s
      obtain rfl := Option.some.inj h
      obtain rfl := v_rep hx
      simp [Builtin.len_, run_underlying (hT.str t hu), goInt]
    · simp at h
  · rename_i e hu
    have fin : ∀ a c (m : Nat), xv = .slice a m c → (Builtin.len_ #[t] ty #[xv]).run P w = .ok (.int .i64 (m : Int)) w := by
      intro a c m e
      subst e
      simp [Builtin.len_, run_underlying (hT.slice t _ hu), goInt]
    split at h
    · rename_i j lo hi
      split at h
      · rename_i p hp
        obtain rfl := Option.some.inj h
        cases hx with
        | vw0 => exact fin _ _ _ (by rw [Nat.sub_self])
        | vw _ _ _ _ => exact fin _ _ _ rfl
      · simp at h
    · split at h
      · rename_i p hp
        obtain rfl := Option.some.inj h
        obtain ⟨sz, l⟩ := p
        obtain ⟨a, c, e, _⟩ := elems_rep hm hx hp
        exact fin a c _ e
      · simp at h
  · simp at h
theorem min_rep {w : World} {B : Nat → Prop} {g : Nat → Gh} {x y r : SV} {xv yv : Value} {ts : Array TypeId} {ty : Nat} (hx : RepV w B g x xv) (hy : RepV w B g y yv) (h : minS x y = some r) :
    ∃ v, (Builtin.min_ ts ty #[xv, yv]).run P w = .ok v w ∧ RepV w B g r v := by
  unfold minS at h
  split at h
  · obtain rfl := Option.some.inj h
    obtain rfl := v_rep hx
    obtain rfl := v_rep hy
    exact ⟨_, run_min_int2 w _ _ _ _ _ _, .v rfl⟩
  · simp at h
theorem max_rep {w : World} {B : Nat → Prop} {g : Nat → Gh} {x y r : SV} {xv yv : Value} {ts : Array TypeId} {ty : Nat} (hx : RepV w B g x xv) (hy : RepV w B g y yv) (h : maxS x y = some r) :
    ∃ v, (Builtin.max_ ts ty #[xv, yv]).run P w = .ok v w ∧ RepV w B g r v := by
  unfold maxS at h
  split at h
  · obtain rfl := Option.some.inj h
    obtain rfl := v_rep hx
    obtain rfl := v_rep hy
    refine ⟨_, run_max_int2 w _ _ _ _ _ _, ?_⟩
    exact .v rfl
  · simp at h
theorem builtin_rep (hT : TabOk P T) {c : Cx} (hc : c.T = T) {fr : Fr} {os os1 : List SO} {g : Nat → Gh} {w : World} (hm : Mem fr os g w) {b : Builtin} {ts : Array TypeId} {ty : Nat} {cs : Array Bool} {xs : List SV} {vs : List Value} {y : SV}
    (hx : RepL w (Bk fr os g w) g xs vs) (h : builtinS c os b ts.toList xs = some (y, os1)) (hts : ts.size = xs.length) :
    ∃ v w', (builtin b ts ty cs vs.toArray).run P w = .ok (.value v) w' ∧ Res fr os g w os1 y v w' := by
  subst hc
  unfold builtinS at h
  split at h
  · obtain ⟨xv, vs', rfl, h1, h2⟩ := hx.uncons
    obtain rfl : vs' = [] := by have := h2.1; cases vs' <;> simp at this ⊢
    obtain ⟨t, rfl⟩ : ∃ t, ts = #[t] := by
      obtain ⟨l⟩ := ts
      match l, hts with | [t], _ => exact ⟨t, rfl⟩
    unfold lenO at h
    split at h
    · rename_i n hn
      obtain ⟨rfl, rfl⟩ := Prod.mk.inj (Option.some.inj h)
      have hl : (Builtin.len_ #[t] ty #[xv]).run P w = .ok (.int .i64 (n : Int)) w := len_rep hT hm h1 hn
      exact ⟨_, w, by simp [builtin, hl], Res.same hm (.v rfl)⟩
    · simp at h
  · obtain ⟨sv, vs', rfl, h1, h2⟩ := hx.uncons
    obtain ⟨xv, vs', rfl, h3, h4⟩ := h2.uncons
    obtain rfl : vs' = [] := by have := h4.1; cases vs' <;> simp at this ⊢
    obtain ⟨t, t', rfl⟩ : ∃ t t', ts = #[t, t'] := by
      obtain ⟨l⟩ := ts
      match l, hts with | [t, t'], _ => exact ⟨t, t', rfl⟩
    obtain ⟨v, w', hr, hres⟩ := append_rep (ty := ty) hT hm h1 h3 h
    have hl : (Builtin.append_ #[t, t'] ty #[sv, xv]).run P w = .ok v w' := hr
    exact ⟨v, w', by simp [builtin, hl], hres⟩
  · obtain ⟨sv, vs', rfl, h1, h2⟩ := hx.uncons
    obtain ⟨xv, vs', rfl, h3, h4⟩ := h2.uncons
    obtain rfl : vs' = [] := by have := h4.1; cases vs' <;> simp at this ⊢
    obtain ⟨t, t', rfl⟩ : ∃ t t', ts = #[t, t'] := by
      obtain ⟨l⟩ := ts
      match l, hts with | [t, t'], _ => exact ⟨t, t', rfl⟩
    obtain ⟨v, w', hr, hres⟩ := copy_rep (t' := t') (ty := ty) hT hm h1 h3 h
    have hl : (Builtin.copy_ #[t, t'] ty #[sv, xv]).run P w = .ok v w' := hr
    exact ⟨v, w', by simp [builtin, hl], hres⟩
  · obtain ⟨sv, vs', rfl, h1, h2⟩ := hx.uncons
    obtain ⟨xv, vs', rfl, h3, h4⟩ := h2.uncons
    obtain rfl : vs' = [] := by have := h4.1; cases vs' <;> simp at this ⊢
    obtain ⟨h5, rfl⟩ := ret1_eq h
    obtain ⟨v, hr, hrep⟩ := min_rep (P := P) (ts := ts) (ty := ty) h1 h3 h5
    exact ⟨v, w, by simp [builtin, hr], Res.same hm hrep⟩
  · obtain ⟨sv, vs', rfl, h1, h2⟩ := hx.uncons
    obtain ⟨xv, vs', rfl, h3, h4⟩ := h2.uncons
    obtain rfl : vs' = [] := by have := h4.1; cases vs' <;> simp at this ⊢
    obtain ⟨h5, rfl⟩ := ret1_eq h
    obtain ⟨v, hr, hrep⟩ := max_rep (P := P) (ts := ts) (ty := ty) h1 h3 h5
    exact ⟨v, w, by simp [builtin, hr], Res.same hm hrep⟩
  · simp at h
theorem map_rep {w : World} {B : Nat → Prop} {g : Nat → Gh} {env : Env} {a : Act} (hs : Slots w B g env a.tmps) (l : List Operand) : RepL w B g (l.map (ev env)) (l.map a.eval) :=
  ⟨by simp, fun i x v h1 h2 => by
    rw [List.getElem?_map] at h1 h2
    obtain ⟨b, hb, rfl⟩ := Option.map_eq_some_iff.1 h1
    rw [hb] at h2
    obtain rfl := Option.some.inj h2
    exact ev_rep hs b⟩
def CallOK (P : Program) (c : Cx) : Prop :=
  ∀ (fr : Fr) (os os1 : List SO) (g : Nat → Gh) (w : World) (env : Env) (a : Act) (o : Oper) (f : Operand) (args : Array Operand) (ts : Array TypeId) (y : SV), Mem fr os g w → Slots w (Bk fr os g w) g env a.tmps →
    o.op = .call { callee := .value f, args := args, argTypes := ts } → ts.size = args.size → calleeS c os (ev env f) ((args.toList.zip ts.toList).map (argO c.T env)) = some (y, os1) → OpOK P fr os g w os1 y o a
theorem op_rep {c : Cx} (hT : TabOk P c.T) (hK : CallOK P c) {fr : Fr} {os os1 : List SO} {g : Nat → Gh} {w : World} (hm : Mem fr os g w) {env : Env} {a : Act} (hs : Slots w (Bk fr os g w) g env a.tmps) {o : Oper} {y : SV}
    (h : opS c env os o = some (y, os1)) : OpOK P fr os g w os1 y o a := by
  unfold opS at h
  split at h
  · rename_i x ho
    exact value_ok (by simp [execOp, ho]) (evN_rep hm hs h)
  · rename_i x ho
    exact value_ok (by simp [execOp, ho]) (evN_rep hm hs h)
  · rename_i b x z ho
    obtain ⟨h1, rfl⟩ := ret1_eq h
    obtain ⟨t, e, hr⟩ := pick_rep (ev_rep hs b) (ev_rep hs x) (ev_rep hs z) h1
    refine value_ok (v := if t then a.eval x else a.eval z) ?_ (Res.same hm hr)
    simp [execOp, ho, e, asBool]
  · rename_i t ho
    obtain ⟨v, w', hr, hres⟩ := alloc_rep hT hm h
    exact value_ok (by simp [execOp, ho, hr]) hres
  · rename_i t x ho
    obtain ⟨v, w', hr, hres⟩ := box_rep hT hm hs h
    exact value_ok (by simp [execOp, ho, hr]) hres
  · rename_i t ps ho
    obtain ⟨v, hr, hres⟩ := build_rep hT hm hs h
    refine value_ok (v := v) ?_ hres
    simp only [execOp, ho, Sem.run_bind]
    rw [hr]; rfl
  · rename_i t n ps ho
    obtain ⟨v, w', hr, hres⟩ := buildSlice_rep hT hm hs h
    refine value_ok (v := v) ?_ hres
    simp only [execOp, ho, Sem.run_bind]
    rw [hr]; rfl
  · rename_i t x ho
    obtain ⟨h1, rfl⟩ := ret1_eq h
    obtain ⟨v, hr, hrep⟩ := load_rep hT hm (ev_rep hs x) h1
    exact value_ok (by simp [execOp, ho, hr]) (Res.same hm hrep)
  · rename_i t p x ho
    unfold storeO at h
    split at h
    · rename_i z os2 hz
      split at h
      · rename_i z' os2' hd
        split at h
        · rename_i os3 h3
          obtain ⟨rfl, rfl⟩ := Prod.mk.inj (Option.some.inj h)
          obtain ⟨g1, m1, gr1, r1⟩ := evN_rep hm hs hz
          obtain ⟨m1', gr1', r1'⟩ := deVw_rep m1 r1 hd
          obtain ⟨w', hr, m2, gr2⟩ := store_rep hT m1' ((ev_rep hs p).grow (gr1.trans gr1')) r1' h3
          exact skip_ok (by simp [execOp, ho, hr]) ⟨g1, m2, (gr1.trans gr1').trans gr2, .undef⟩
        · simp at h
      · simp at h
    · simp at h
  · rename_i x ho
    obtain ⟨h1, rfl⟩ := ret1_eq h
    obtain ⟨⟨p, e⟩, hrep⟩ := nil_rep (ev_rep hs x) h1
    exact value_ok (v := a.eval x) (by simp [execOp, ho, e]) (Res.same hm hrep)
  · rename_i op t x z zt ho
    obtain ⟨h1, rfl⟩ := ret1_eq h
    obtain ⟨v, hr, hrep⟩ := bin_rep (P := P) (xo := x) (yo := z) hT (ev_rep hs x) (ev_rep hs z) h1
    refine value_ok (v := v) ?_ (Res.same hm hrep)
    simp only [execOp, ho, Sem.run_bind]
    simp only [Sem.run_bind] at hr
    rw [hr]; rfl
  · rename_i op t x ho
    obtain ⟨h1, rfl⟩ := ret1_eq h
    obtain ⟨v, hr, hrep⟩ := un_rep (P := P) (ev_rep hs x) h1
    exact value_ok (by simp [execOp, ho, hr]) (Res.same hm hrep)
  · rename_i s d x ho
    obtain ⟨v, w', hr, hres⟩ := conv_rep hT hm (ev_rep hs x) h
    exact value_ok (by simp [execOp, ho, hr]) hres
  · rename_i t n k ho
    obtain ⟨v, w', hr, hres⟩ := make_rep hT hm (ev_rep hs n) (ev_rep hs k) h
    exact value_ok (by simp [execOp, ho, hr]) hres
  · rename_i t x lo hi ho
    obtain ⟨h1, rfl⟩ := ret1_eq h
    obtain ⟨v, hr, hrep⟩ := slice_rep (lov := lo.map a.eval) (hiv := hi.map a.eval) hT hm (ev_rep hs x) (fun e => by cases hi <;> simp at e ⊢) (fun z e => by
      cases hi with
      | none => simp at e
      | some q => simp at e; subst e; exact ⟨_, rfl, ev_rep hs q⟩) (fun e => by cases lo <;> simp at e ⊢) (fun z e => by
      cases lo with
      | none => simp at e
      | some q => simp at e; subst e; exact ⟨_, rfl, ev_rep hs q⟩) h1
    exact value_ok (by simp [execOp, ho, hr]) (Res.same hm hrep)
  · rename_i t x hi m ho
    obtain ⟨h1, rfl⟩ := ret1_eq h
    obtain ⟨v, hr, hrep⟩ := slice3_rep hT (ev_rep hs x) (ev_rep hs hi) (ev_rep hs m) h1
    exact value_ok (by simp [execOp, ho, hr]) (Res.same hm hrep)
  · rename_i t x f ho
    obtain ⟨h1, rfl⟩ := ret1_eq h
    obtain ⟨v, hr, hrep⟩ := fieldAddr_rep hT (ev_rep hs x) h1
    exact value_ok (by simp [execOp, ho, hr]) (Res.same hm hrep)
  · rename_i t x f ho
    obtain ⟨h1, rfl⟩ := ret1_eq h
    obtain ⟨v, hr, hrep⟩ := field_rep hT (ev_rep hs x) h1
    exact value_ok (by simp [execOp, ho, hr]) (Res.same hm hrep)
  · rename_i t x i ho
    obtain ⟨h1, rfl⟩ := ret1_eq h
    obtain ⟨v, hr, hrep⟩ := indexAddr_rep hT hm (ev_rep hs x) (ev_rep hs i) h1
    exact value_ok (by simp [execOp, ho, hr]) (Res.same hm hrep)
  · rename_i t x i ho
    obtain ⟨h1, rfl⟩ := ret1_eq h
    obtain ⟨v, hr, hrep⟩ := index_rep hT (ev_rep hs x) (ev_rep hs i) h1
    exact value_ok (by simp [execOp, ho, hr]) (Res.same hm hrep)
  · rename_i x i ho
    obtain ⟨h1, rfl⟩ := ret1_eq h
    obtain ⟨v, hr, hrep⟩ := extract_rep (P := P) (ev_rep hs x) h1
    exact value_ok (by simp [execOp, ho, hr]) (Res.same hm hrep)
  · rename_i f fs caps ho
    split at h
    · rename_i hf
      obtain ⟨rfl, rfl⟩ := Prod.mk.inj (Option.some.inj h)
      have e : fs = #[] := by cases fs; simp at hf; simp [hf]
      subst e
      refine value_ok (v := .func (.func f) #[] (caps.toList.map a.eval).toArray) ?_ (Res.same hm ?_)
      · simp [execOp, ho, Instr.makeFunc]
        rw [← Array.toList_map, Array.toArray_toList]
      · have := map_rep hs caps.toList
        exact .fn this.1 this.2
    · simp at h
  · rename_i b args ts ho
    split at h
    · rename_i hsz
      obtain ⟨v, w', hr, hres⟩ := builtin_rep (P := P) (ty := o.type) (cs := args.map fun | .const _ => true | _ => false) hT rfl hm (map_rep hs args.toList) h (by simpa using hsz)
      refine value_ok (v := v) ?_ hres
      have e : (args.toList.map a.eval).toArray = args.map a.eval := by rw [← Array.toList_map, Array.toArray_toList]
      rw [e] at hr
      simp only [execOp, ho, resolve, Sem.run_bind, Sem.run_pure, Result.andThen_ok, invoke]
      exact hr
    · simp at h
  · rename_i f args ts ho
    split at h
    · rename_i hsz
      exact hK fr os os1 g w env a o f args ts y hm hs ho hsz h
    · simp at h
  · simp at h
end Go.Proofs.Ytlnenahbffkbiaa

/- The evaluator S: code is sound, where its operations are. -/
namespace Go.Proofs.Ytlnenahbffkbiaa
open Go
set_option linter.unusedVariables false
set_option linter.unusedSimpArgs false
variable {P : Program} {T : Tab}
def Inv (fr : Fr) (g0 : Nat → Gh) (nl nt : Nat) (env : Env) (os : List SO) (a : Act) (w : World) : Prop :=
  ∃ g, Mem fr os g w ∧ Slots w (Bk fr os g w) g env a.tmps ∧ nt ≤ a.tmps.size ∧ a.defers = [] ∧ nl ≤ os.length ∧ ∀ j, j < nl → g0 j ≠ .no → g j = g0 j
def PostK (fr : Fr) (g0 : Nat → Gh) (nl nt : Nat) (k : Kt) (out : SV × List SO) (e : Exit) (a : Act) (w : World) : Prop :=
  ∃ env os, Inv fr g0 nl nt env os a w ∧
    match e with
    | .normal => k.n env os = some out
    | .exit id => k.x id env os = some out
    | .ret => k.r env os = some out
    | _ => False
theorem look_kill (env : Env) (t : Nat) : ∀ (al : List Nat), look t (killS al env) = look t env ∨ look t (killS al env) = .dead := by
  intro al
  induction al with
  | nil => exact .inr rfl
  | cons x xs ih =>
    simp only [killS, look]
    split
    · rename_i h
      rw [Nat.eq_of_beq_eq_true h]
      exact .inl rfl
    · exact ih
theorem slots_kill {w : World} {B : Nat → Prop} {g : Nat → Gh} {env : Env} {tmps : Array Value} (h : Slots w B g env tmps) (al : List Nat) : Slots w B g (killS al env) tmps := by
  intro t
  rcases look_kill env t al with e | e
  · rw [e]; exact h t
  · rw [e]; exact .dead
theorem inv_kill {fr : Fr} {g0 : Nat → Gh} {nl nt : Nat} {env : Env} {os : List SO} {a : Act} {w : World} (h : Inv fr g0 nl nt env os a w) (al : Option (List Nat)) : Inv fr g0 nl nt (killO al env) os a w := by
  obtain ⟨g, h1, h2, h3⟩ := h
  cases al with
  | none => exact ⟨g, h1, h2, h3⟩
  | some l => exact ⟨g, h1, slots_kill h2 l, h3⟩
theorem slots_put {w : World} {B : Nat → Prop} {g : Nat → Gh} {env : Env} {a : Act} {d : Option Nat} {x : SV} {v : Value} (h : Slots w B g env a.tmps) (hx : RepV w B g x v) (hd : okDst a.tmps.size d = true) :
    Slots w B g (put env d x) (a.put d v).tmps := by
  cases d with
  | none => exact h
  | some t =>
    intro s
    have hlt : t < a.tmps.size := by
      unfold okDst at hd
      simp only [Nat.blt_eq] at hd
      exact hd
    simp only [put, look, Act.put]
    split
    · rename_i e
      obtain rfl := Nat.eq_of_beq_eq_true e
      have : (a.tmps.setIfInBounds s v).getD s undef = v := by simp [Array.getD, hlt]
      rw [this]; exact hx
    · rename_i e
      have hne : t ≠ s := fun e' => by subst e'; rw [Nat.beq_refl] at e; cases e
      have : (a.tmps.setIfInBounds t v).getD s undef = a.tmps.getD s undef := by
        simp [Array.getElem?_setIfInBounds_ne hne]
      rw [this]; exact h s
theorem put_size (a : Act) (d : Option Nat) (v : Value) : (a.put d v).tmps.size = a.tmps.size := by
  cases d <;> simp [Act.put]
theorem put_defers (a : Act) (d : Option Nat) (v : Value) : (a.put d v).defers = a.defers := by
  cases d <;> rfl
theorem okDst_le {n m : Nat} {d : Option Nat} (h : okDst n d = true) (hn : n ≤ m) : okDst m d = true := by
  cases d with
  | none => rfl
  | some t =>
    simp only [okDst, Nat.blt_eq] at h ⊢
    omega
theorem inv_put {fr : Fr} {g0 g : Nat → Gh} {nl nt : Nat} {env : Env} {os os' : List SO} {a : Act} {w w' : World} {d : Option Nat} {x : SV} {v : Value} (hm : Mem fr os g w) (hs : Slots w (Bk fr os g w) g env a.tmps) (ht : nt ≤ a.tmps.size) (hdf : a.defers = [])
    (hl : nl ≤ os.length) (h0 : ∀ j, j < nl → g0 j ≠ .no → g j = g0 j) (hd : okDst nt d = true) (hr : Res fr os g w os' x v w') (hos : os.length ≤ os'.length) :
    Inv fr g0 nl nt (put env d x) os' (a.put d v) w' := by
  obtain ⟨g', m, gr, r⟩ := hr
  refine ⟨g', m, slots_put (hs.grow gr) r (okDst_le hd ht), by rw [put_size]; exact ht, by rw [put_defers]; exact hdf, by omega, fun j hj hn => ?_⟩
  rw [gr.ext j (by rw [h0 j hj hn]; exact hn), h0 j hj hn]
theorem rep_bool {w : World} {B : Nat → Prop} {g : Nat → Gh} {x : SV} {b : Bool} (h : RepV w B g x (.bool b)) (hd : x ≠ .dead) : x = .v (.bool b) := by
  cases h with
  | v h => rfl
  | dead => exact absurd rfl hd
theorem yielded_of {w : World} {B : Nat → Prop} {g : Nat → Gh} {env : Env} {a : Act} {ops : Array Oper} (hs : Slots w B g env a.tmps) (j : Nat) (hd : guardV ops.toList env j ≠ .dead) :
    (∀ b, guardV ops.toList env j = .v (.bool b) → yielded ops a.tmps j = some b) ∧ ((∀ b, guardV ops.toList env j ≠ .v (.bool b)) → yielded ops a.tmps j = none) := by
  unfold guardV at hd ⊢
  unfold yielded
  rw [Array.getElem?_toList] at hd ⊢
  cases ho : ops[j]? with
  | none => simp
  | some o =>
    simp only [ho] at hd ⊢
    cases hdst : o.dst with
    | none => simp [hdst]
    | some t =>
      simp only [hdst] at hd
      have hr := hs t
      simp only [hdst, Option.bind_some]
      refine ⟨fun b hb => ?_, fun hb => ?_⟩
      · rw [hb] at hr
        have hv := v_rep hr
        cases ht : a.tmps[t]? with
        | none => simp [Array.getD_eq_getD_getElem?, ht, undef] at hv
        | some v => simp [Array.getD_eq_getD_getElem?, ht] at hv; simp [ht, hv]
      · cases ht : a.tmps[t]? with
        | none => simp
        | some v =>
          cases v with
          | bool b =>
            have : a.tmps.getD t undef = .bool b := by simp [Array.getD_eq_getD_getElem?, ht]
            rw [this] at hr
            exact absurd (rep_bool hr hd) (hb b)
          | _ => rfl
theorem evN_len {ty : Nat} {os os' : List SO} {x : Option SV} {y : SV} (h : evN T ty os x = some (y, os')) : os.length ≤ os'.length := by
  unfold evN at h
  split at h
  · split at h
    · split at h
      · obtain ⟨_, rfl⟩ := Prod.mk.inj (Option.some.inj h); simp
      · simp at h
    · simp at h
  · obtain ⟨_, rfl⟩ := Prod.mk.inj (Option.some.inj h); exact Nat.le_refl _
def OpsOK (P : Program) (c : Cx) : Prop :=
  ∀ (fr : Fr) (os os1 : List SO) (g : Nat → Gh) (w : World) (env : Env) (a : Act) (o : Oper) (y : SV), Mem fr os g w → Slots w (Bk fr os g w) g env a.tmps → opS c env os o = some (y, os1) →
    OpOK P fr os g w os1 y o a ∧ os.length ≤ os1.length
theorem silent_op {c : Cx} {env : Env} {os : List SO} {o : Oper} {x : SV} (h : silent env o = some x) : o.guard = none ∧ opS c env os o = some (x, os) := by
  unfold silent at h
  split at h
  · simp at h
  · rename_i hg
    refine ⟨hg, ?_⟩
    split at h
    · rename_i y ho; simp only [opS, ho, h]; rfl
    · rename_i y ho; simp only [opS, ho, h]; rfl
    · rename_i f fs caps ho
      simp only [opS, ho]
      split at h
      · rename_i hf; obtain rfl := Option.some.inj h; first | rfl | (simp only [hf]) | (rw [hf])
      · simp at h
    · simp at h
theorem ops_sound {c : Cx} (hO : OpsOK P c) {fr : Fr} {g0 : Nat → Gh} {nl nt : Nat} {k : Kt} {out : SV × List SO} {ops : Array Oper} : ∀ (rest : List Oper) (i : Nat) (env : Env) (os : List SO) (a : Act) (w : World),
    ops.toList.drop i = rest → Inv fr g0 nl nt env os a w → runOps c nt ops.toList rest env os k.n = some out →
    wpOps P ops (PostK fr g0 nl nt k out) (List.range' i rest.length) a w := by
  intro rest
  induction rest with
  | nil =>
    intro i env os a w hd hi h
    exact ⟨env, os, hi, h⟩
  | cons o rest ih =>
    intro i env os a w hd hi h
    have hoi : ops[i]? = some o := by
      have := congrArg List.head? hd
      simpa [List.head?_drop] using this
    have hd' : ops.toList.drop (i + 1) = rest := by
      rw [← List.drop_drop, hd]; rfl
    rw [List.length_cons, List.range'_succ]
    simp only [wpOps, hoi]
    simp only [runOps] at h
    split at h
    · simp at h
    · rename_i hdst
      obtain ⟨g, m, hs, ht, hdf, hl, h0⟩ := hi
      have step : ∀ (x : SV) (os1 : List SO), opS c env os o = some (x, os1) → runOps c nt ops.toList rest (put env o.dst x) os1 k.n = some out →
          o.wp P a w (wpOps P ops (PostK fr g0 nl nt k out) (List.range' (i + 1) rest.length)) (PostK fr g0 nl nt k out) := by
        intro x os1 hx hk
        obtain ⟨hok, hle⟩ := hO fr os os1 g w env a o x m hs hx
        refine hok _ _ fun v w' hres => ?_
        exact ih (i + 1) _ _ _ _ hd' (inv_put m hs ht hdf hl h0 hdst hres hle) hk
      split at h
      · rename_i x hx
        obtain ⟨hg, hop⟩ := silent_op (c := c) (os := os) hx
        have hw : Region.wanted o (yielded ops a.tmps) = true := by simp [Region.wanted, hg]
        rw [if_pos hw]
        exact .inl (step x os hop h)
      · rename_i hx
        obtain ⟨r, hr, hk⟩ := Option.bind_eq_some_iff.1 h
        obtain ⟨x, os1⟩ := r
        unfold op1 at hr
        split at hr
        · rename_i hg
          have hw : Region.wanted o (yielded ops a.tmps) = true := by simp [Region.wanted, hg]
          rw [if_pos hw]
          exact .inl (step x os1 hr hk)
        · rename_i j want hg
          unfold gd at hr
          split at hr
          · rename_i b hb
            have hy := (yielded_of (ops := ops) hs j (by rw [hb]; simp)).1 b hb
            split at hr
            · rename_i e
              have hw : Region.wanted o (yielded ops a.tmps) = true := by simp [Region.wanted, hg, hy, e]
              rw [if_pos hw]
              exact .inl (step x os1 hr hk)
            · rename_i e
              obtain ⟨rfl, rfl⟩ := Prod.mk.inj (Option.some.inj hr)
              have hw : ¬ Region.wanted o (yielded ops a.tmps) = true := by simp [Region.wanted, hg, hy, e]
              rw [if_neg hw]
              exact ih (i + 1) _ _ _ _ hd' (inv_put m hs ht hdf hl h0 hdst (Res.same m .undef) (Nat.le_refl _)) hk
          · simp at hr
          · rename_i hnb hnd
            obtain ⟨rfl, rfl⟩ := Prod.mk.inj (Option.some.inj hr)
            have hy := (yielded_of (ops := ops) hs j (fun e => hnd e)).2 (fun b e => hnb b e)
            have hw : ¬ Region.wanted o (yielded ops a.tmps) = true := by simp [Region.wanted, hg, hy]
            rw [if_neg hw]
            exact ih (i + 1) _ _ _ _ hd' (inv_put m hs ht hdf hl h0 hdst (Res.same m .undef) (Nat.le_refl _)) hk
def DrawOK (P : Program) (c : Cx) : Prop :=
  ∀ (fr : Fr) (g0 : Nat → Gh) (nl nt : Nat) (k : Kt) (out : SV × List SO) (d : Option DT) (ops : Array Oper) (env : Env) (os : List SO) (a : Act) (w : World) (t : Nat),
    Inv fr g0 nl nt env os a w → runDraw c nt d ops.toList env os k.n = some out →
    wpOps P ops (PostK fr g0 nl nt k out) (Region.schedule (P.follows .mixedOrders) ops t) a w
theorem inv_drawn {fr : Fr} {g0 : Nat → Gh} {nl nt : Nat} {env : Env} {os : List SO} {a : Act} {w : World} (h : Inv fr g0 nl nt env os a w) : Inv fr g0 nl nt env os a { w with drawn := w.drawn + 1 } := by
  obtain ⟨g, m, hs, rest⟩ := h
  have hB : ∀ b, Bk fr os g w b → Bk fr os g { w with drawn := w.drawn + 1 } b := fun b hb => hb
  have hS : ∀ b, Bk fr os g w b → ({ w with drawn := w.drawn + 1 } : World).heap[b]? = w.heap[b]? := fun _ _ => rfl
  refine ⟨g, ?_, fun t => (hs t).mono hB hS g (fun _ _ => rfl), rest⟩
  exact { objs := fun j o hj => (m.objs j o hj).mono hB hS (fun _ _ => rfl) (fun _ _ _ => rfl), fresh := m.fresh, inj := m.inj, own := m.own, mine := m.mine, frame := m.frame, size := m.size, out := m.out }
def GcOK (P : Program) : Prop :=
  ∀ (fr : Fr) (g0 : Nat → Gh) (nl nt : Nat) (env : Env) (os : List SO) (a : Act) (w : World), Inv fr g0 nl nt env os a w →
    ∀ keep, gcK nl env os = some keep → Inv fr g0 nl nt (renE (place keep) env) (gcO keep os) a w
theorem wp_loop_fuel {c : Code} {Q : Exit → Act → World → Prop} (I : Nat → Act → World → Prop) (h0 : ∀ a w, ¬ I 0 a w) (round : ∀ n a w, I (n + 1) a w → c.wp P (Exit.then (I n) Q) a w) {n : Nat} {a : Act} {w : World}
    (h : I n a w) : (Code.loop c).wp P Q a w := by
  intro b k cs
  have key : ∀ n a w, I n a w → ∃ e a' w', Q e a' w' ∧ Arrives P (lone (b.at a (.code c :: .inLoop c :: k)) cs w) b k cs e a' w' := by
    intro n
    induction n with
    | zero => intro a w h; exact absurd h (h0 a w)
    | succ n ih =>
      intro a w h
      obtain ⟨e, a₁, w₁, hq, harr⟩ := round n a w h b (.inLoop c :: k) cs
      cases e with
      | normal =>
        obtain ⟨e₂, a₂, w₂, hq₂, harr₂⟩ := ih a₁ w₁ hq
        exact ⟨e₂, a₂, w₂, hq₂, .of_steps (Steps.trans harr (.one step_inLoop)) harr₂⟩
      | exit id => exact ⟨_, a₁, w₁, hq, .pass (x := .inLoop c) rfl (fun _ _ => .inl (by simp)) harr⟩
      | goto l => exact ⟨_, a₁, w₁, hq, .pass (x := .inLoop c) rfl (fun _ _ => .inl (by simp)) harr⟩
      | ret => exact ⟨_, a₁, w₁, hq, .pass (x := .inLoop c) rfl (fun _ _ => .inl (by simp)) harr⟩
      | panic ch => exact ⟨_, a₁, w₁, hq, .pass (x := .inLoop c) rfl (fun _ _ => .inl (by simp)) harr⟩
      | outgrown => exact ⟨_, a₁, w₁, hq, .pass (x := .inLoop c) rfl (fun _ _ => .inl (by simp)) harr⟩
  obtain ⟨e, a', w', hq, harr⟩ := key n a w h
  exact ⟨e, a', w', hq, .of_steps (.one step_loop) harr⟩
theorem exec_sound {c : Cx} (hO : OpsOK P c) (hD : DrawOK P c) (hG : GcOK P) {fr : Fr} {g0 : Nat → Gh} {N nl : Nat} {fi : FnI} {out : SV × List SO} : ∀ (cd : Code) (env : Env) (os : List SO) (k : Kt) (a : Act) (w : World),
    Inv fr g0 nl fi.nt env os a w → exec c N nl fi cd env os k = some out → cd.wp P (PostK fr g0 nl fi.nt k out) a w := by
  intro cd
  induction cd with
  | skip => intro env os k a w hi h; exact wp_skip ⟨env, os, hi, h⟩
  | region id ops draw =>
    intro env os k a w hi h
    cases draw with
    | false =>
      simp only [exec] at h
      refine wp_region ?_
      have := ops_sound hO (k := k) ops.toList 0 env os a w rfl hi h
      rw [List.range_eq_range', ← Array.length_toList]
      exact this
    | true =>
      simp only [exec] at h
      refine wp_region_draw fun t => ?_
      exact hD fr g0 nl fi.nt k out (fi.dt _) ops env os a _ t (inv_drawn hi) h
  | seq x y ihx ihy =>
    intro env os k a w hi h
    simp only [exec] at h
    refine wp_seq (wp_mono (ihx env os _ a w hi h) fun e a' w' hq => ?_)
    obtain ⟨env', os', hi', hk⟩ := hq
    cases e with
    | normal => exact ihy _ _ _ _ _ (inv_kill hi' _) hk
    | exit id => exact ⟨env', os', hi', hk⟩
    | ret => exact ⟨env', os', hi', hk⟩
    | goto l => exact hk.elim
    | panic ch => exact hk.elim
    | outgrown => exact hk.elim
  | cond b x y ihx ihy =>
    intro env os k a w hi h
    simp only [exec] at h
    unfold condS at h
    split at h
    · rename_i t ht
      obtain ⟨g, m, hs, rest⟩ := hi
      have he : a.eval b = .bool t := by have := ev_rep hs b; rw [ht] at this; exact v_rep this
      refine wp_cond he ?_
      cases t with
      | true => exact ihx env os k a w ⟨g, m, hs, rest⟩ h
      | false => exact ihy env os k a w ⟨g, m, hs, rest⟩ h
    · simp at h
  | block id b ih =>
    intro env os k a w hi h
    simp only [exec] at h
    refine wp_block (wp_mono (ih env os _ a w hi h) fun e a' w' hq => ?_)
    obtain ⟨env', os', hi', hk⟩ := hq
    cases e with
    | normal => exact ⟨env', os', hi', hk⟩
    | exit id' =>
      simp only [kBlock] at hk
      simp only [Exit.inBlock]
      split
      · rename_i e
        rw [if_pos e] at hk
        exact ⟨env', os', hi', hk⟩
      · rename_i e
        rw [if_neg e] at hk
        exact ⟨env', os', hi', hk⟩
    | ret => exact ⟨env', os', hi', hk⟩
    | goto l => exact hk.elim
    | panic ch => exact hk.elim
    | outgrown => exact hk.elim
  | loop b ih =>
    intro env os k a w hi h
    simp only [exec] at h
    let F : Env → List SO → (Env → List SO → Out) → Out := fun env os nx => exec c N nl fi b env os (kLoop nx k)
    refine wp_loop_fuel (fun n a w => ∃ env os, Inv fr g0 nl fi.nt env os a w ∧ loopS nl (fi.lp (firstRegion b)) F n env os = some out) ?_ ?_ (n := N) ⟨_, _, inv_kill hi (some (fi.lp (firstRegion b)).alive), h⟩
    · rintro a w ⟨env, os, _, h⟩
      simp [loopS] at h
    · rintro n a w ⟨env, os, hi, h⟩
      have fin : ∀ env os, Inv fr g0 nl fi.nt env os a w → F env os (fun env os => loopS nl (fi.lp (firstRegion b)) F n (killS (fi.lp (firstRegion b)).alive env) os) = some out →
          b.wp P (Exit.then (fun a w => ∃ env os, Inv fr g0 nl fi.nt env os a w ∧ loopS nl (fi.lp (firstRegion b)) F n env os = some out) (PostK fr g0 nl fi.nt k out)) a w := by
        intro env os hi h
        refine wp_mono (ih env os _ a w hi h) fun e a' w' hq => ?_
        obtain ⟨env', os', hi', hk⟩ := hq
        cases e with
        | normal => exact ⟨_, _, inv_kill hi' (some (fi.lp (firstRegion b)).alive), hk⟩
        | exit id => exact ⟨env', os', hi', hk⟩
        | ret => exact ⟨env', os', hi', hk⟩
        | goto l => exact hk.elim
        | panic ch => exact hk.elim
        | outgrown => exact hk.elim
      simp only [loopS] at h
      split at h
      · obtain ⟨keep, hkp, h⟩ := Option.bind_eq_some_iff.1 h
        exact fin _ _ (hG fr g0 nl fi.nt env os a w hi keep hkp) h
      · exact fin _ _ hi h
  | exit i => intro env os k a w hi h; exact wp_exit ⟨env, os, hi, h⟩
  | ret => intro env os k a w hi h; exact wp_ret ⟨env, os, hi, h⟩
  | label l => intro env os k a w hi h; simp [exec] at h
  | goto l => intro env os k a w hi h; simp [exec] at h
  | refuse s => intro env os k a w hi h; simp [exec] at h
  | scope b _ => intro env os k a w hi h; simp [exec] at h
  | rangeFunc f ps x y _ _ => intro env os k a w hi h; simp [exec] at h
end Go.Proofs.Ytlnenahbffkbiaa

/- The evaluator S: other names for the objects. -/
namespace Go.Proofs.Ytlnenahbffkbiaa
open Go
set_option linter.unusedVariables false
set_option linter.unusedSimpArgs false
variable {P : Program} {T : Tab}
theorem ren0_rep {w : World} {B B' : Nat → Prop} {g g' : Nat → Gh} {ρ : Nat → Option Nat} (hB : ∀ b, B b → B' b) (hρ : ∀ j i, ρ j = some i → g' i = g j) {x : SV} {v : Value} (h : RepV w B g x v) : RepV w B' g' (ren0 ρ x) v := by
  cases h with
  | v h => exact .v h
  | undef => exact .undef
  | dead => exact .dead
  | sl0 => exact .sl0
  | sl h1 h2 h3 h4 h5 h6 => exact .sl h1 (fun i x v a b => (h2 i x v a b).mono hB (fun _ _ => rfl) G0 (fun _ h => absurd rfl h)) h3 h4 (hB _ h5) h6
  | ag h1 h2 h3 => exact .dead
  | tup h1 h2 => exact .dead
  | osl0 h => rename_i j; simp only [ren0]; split
              · rename_i i hi; exact .osl0 (by rw [hρ j i hi]; exact h)
              · exact .dead
  | osl h => rename_i j _ _ _ _; simp only [ren0]; split
             · rename_i i hi; exact .osl (by rw [hρ j i hi]; exact h)
             · exact .dead
  | vw0 => simp only [ren0]; split
           · exact .vw0
           · exact .dead
  | vw h a b c => rename_i j _ _ _ _ _ _ _; simp only [ren0]; split
                  · rename_i i hi; exact .vw (by rw [hρ j i hi]; exact h) a b c
                  · exact .dead
  | ptr h => rename_i j _ _; simp only [ren0]; split
             · rename_i i hi; exact .ptr (by rw [hρ j i hi]; exact h)
             · exact .dead
  | ap h => rename_i j _ _ _ _ _ _; simp only [ren0]; split
            · rename_i i hi; exact .ap (by rw [hρ j i hi]; exact h)
            · exact .dead
  | el h1 h2 h3 => exact .el (h1.mono hB (fun _ _ => rfl) G0 (fun _ h => absurd rfl h)) h2 (hB _ h3)
  | fn h1 h2 => exact .dead
theorem map_ren {w : World} {B B' : Nat → Prop} {g g' : Nat → Gh} {f : SV → SV} (hf : ∀ x v, RepV w B g x v → RepV w B' g' (f x) v) {l : List SV} {vs : List Value} (h : RepL w B g l vs) : RepL w B' g' (l.map f) vs :=
  ⟨by simp [h.1], fun i x v h1 h2 => by
    rw [List.getElem?_map] at h1
    obtain ⟨y, hy, rfl⟩ := Option.map_eq_some_iff.1 h1
    exact hf y v (h.2 i y v hy h2)⟩
theorem ren1_rep {w : World} {B B' : Nat → Prop} {g g' : Nat → Gh} {ρ : Nat → Option Nat} (hB : ∀ b, B b → B' b) (hρ : ∀ j i, ρ j = some i → g' i = g j) {x : SV} {v : Value} (h : RepV w B g x v) : RepV w B' g' (ren1 ρ x) v := by
  by_cases hx : ∃ f caps, x = .fn f caps
  · obtain ⟨f, caps, rfl⟩ := hx
    cases h with
    | fn h1 h2 =>
      have := map_ren (f := ren0 ρ) (fun x v => ren0_rep hB hρ) ⟨h1, h2⟩
      exact .fn this.1 this.2
  · have e : ren1 ρ x = ren0 ρ x := by
      cases x <;> first | rfl | exact absurd ⟨_, _, rfl⟩ hx
    rw [e]; exact ren0_rep hB hρ h
theorem ren2_rep {w : World} {B B' : Nat → Prop} {g g' : Nat → Gh} {ρ : Nat → Option Nat} (hB : ∀ b, B b → B' b) (hρ : ∀ j i, ρ j = some i → g' i = g j) {x : SV} {v : Value} (h : RepV w B g x v) : RepV w B' g' (ren2 ρ x) v := by
  by_cases hx : ∃ l, x = .ag l
  · obtain ⟨l, rfl⟩ := hx
    cases h with
    | ag h1 h2 h3 =>
      have := map_ren (f := ren1 ρ) (fun x v => ren1_rep hB hρ) ⟨h1, h2⟩
      exact .ag this.1 this.2 h3
  · have e : ren2 ρ x = ren1 ρ x := by
      cases x <;> first | rfl | exact absurd ⟨_, rfl⟩ hx
    rw [e]; exact ren1_rep hB hρ h
theorem ren3_rep {w : World} {B B' : Nat → Prop} {g g' : Nat → Gh} {ρ : Nat → Option Nat} (hB : ∀ b, B b → B' b) (hρ : ∀ j i, ρ j = some i → g' i = g j) {x : SV} {v : Value} (h : RepV w B g x v) : RepV w B' g' (ren3 ρ x) v := by
  by_cases hx : ∃ l, x = .tup l
  · obtain ⟨l, rfl⟩ := hx
    cases h with
    | tup h1 h2 =>
      have := map_ren (f := ren2 ρ) (fun x v => ren2_rep hB hρ) ⟨h1, h2⟩
      exact .tup this.1 this.2
  · have e : ren3 ρ x = ren2 ρ x := by
      cases x <;> first | rfl | exact absurd ⟨_, rfl⟩ hx
    rw [e]; exact ren2_rep hB hρ h
theorem place_get : ∀ {keep : List Nat} {j i : Nat}, place keep j = some i → keep[i]? = some j
  | [], _, _, h => by simp [place] at h
  | k :: ks, j, i, h => by
    simp only [place] at h
    split at h
    · rename_i e; subst e; obtain rfl := Option.some.inj h; rfl
    · split at h
      · rename_i i' hi'; obtain rfl := Option.some.inj h; simpa using place_get hi'
      · simp at h
theorem nodup_get : ∀ {keep : List Nat}, nodupB keep = true → ∀ {i k j : Nat}, keep[i]? = some j → keep[k]? = some j → i = k
  | [], _, i, _, _, h, _ => by simp at h
  | x :: xs, hn, i, k, j, hi, hk => by
    simp only [nodupB, Bool.and_eq_true, Bool.not_eq_true'] at hn
    cases i with
    | zero =>
      cases k with
      | zero => rfl
      | succ k =>
        simp at hi hk
        subst hi
        have := List.mem_of_getElem? hk
        have h2 : xs.contains x = true := by simpa using this
        rw [h2] at hn; simp at hn
    | succ i =>
      cases k with
      | zero =>
        simp at hi hk
        subst hk
        have := List.mem_of_getElem? hi
        have h2 : xs.contains x = true := by simpa using this
        rw [h2] at hn; simp at hn
      | succ k =>
        have := nodup_get hn.2 (i := i) (k := k) (j := j) (by simpa using hi) (by simpa using hk)
        omega
theorem okKeep_of {nl : Nat} {l keep : List Nat} (h : okKeep nl l = some keep) : nodupB keep = true ∧ nl ≤ keep.length ∧ ∀ j, j < nl → keep[j]? = some j := by
  unfold okKeep at h
  split at h
  · rename_i hc
    obtain rfl := Option.some.inj h
    simp only [Bool.and_eq_true, beq_iff_eq] at hc
    have hl := congrArg List.length hc.1
    simp at hl
    refine ⟨hc.2, by omega, fun j hj => ?_⟩
    have := congrArg (fun l => l[j]?) hc.1
    simp only [List.getElem?_take, if_pos hj, List.getElem?_range hj] at this
    exact this
  · simp at h
def gk (g : Nat → Gh) (keep : List Nat) (i : Nat) : Gh := match keep[i]? with | some j => g j | none => .no
theorem gk_place {g : Nat → Gh} {keep : List Nat} : ∀ j i, place keep j = some i → gk g keep i = g j := fun j i h => by
  unfold gk; rw [place_get h]
theorem getD_some {os : List SO} {j : Nat} {o : SO} (h : os.getD j .dead = o) (ho : o ≠ .dead) : os[j]? = some o := by
  rw [List.getD_eq_getElem?_getD] at h
  cases hj : os[j]? with
  | none => rw [hj] at h; exact absurd h.symm ho
  | some x => rw [hj] at h; simp at h; rw [h]
theorem ren_live {ρ : Nat → Option Nat} (o : SO) : (o.ren ρ).isLive = o.isLive := by cases o <;> rfl
theorem gcO_get {keep : List Nat} {os : List SO} {i : Nat} {o : SO} (h : (gcO keep os)[i]? = some o) : ∃ j, keep[i]? = some j ∧ o = (os.getD j .dead).ren (place keep) := by
  unfold gcO at h
  rw [List.getElem?_map] at h
  obtain ⟨j, hj, rfl⟩ := Option.map_eq_some_iff.1 h
  exact ⟨j, hj, rfl⟩
theorem gc_live {os : List SO} {g : Nat → Gh} {keep : List Nat} {i : Nat} {o : SO} {b : Nat} (h : (gcO keep os)[i]? = some o) (hl : o.isLive = true) (hb : (gk g keep i).block? = some b) :
    ∃ j o', keep[i]? = some j ∧ os[j]? = some o' ∧ o = o'.ren (place keep) ∧ o'.isLive = true ∧ (g j).block? = some b := by
  obtain ⟨j, hj, rfl⟩ := gcO_get h
  rw [ren_live] at hl
  have hd : os.getD j .dead ≠ .dead := fun e => by rw [e] at hl; cases hl
  refine ⟨j, _, hj, getD_some rfl hd, rfl, hl, ?_⟩
  unfold gk at hb
  rw [hj] at hb
  exact hb
theorem ObjOK.ren {w : World} {B B' : Nat → Prop} {g g' : Nat → Gh} {ρ : Nat → Option Nat} (hB : ∀ b, B b → B' b) (hρ : ∀ j i, ρ j = some i → g' i = g j) {j i : Nat} {o : SO} (h : ObjOK w B g j o) (hi : g' i = g j) : ObjOK w B' g' i (o.ren ρ) := by
  cases o with
  | dead => trivial
  | frz sz l =>
    rcases h with ⟨a, b⟩ | ⟨b, cap, vs, h1, h2, h3, h4, h5, h6⟩
    · exact .inl ⟨a, by rw [hi]; exact b⟩
    · exact .inr ⟨b, cap, vs, by rw [hi]; exact h1, h2, hB _ h3, h4.mono hB (fun _ _ => rfl) (fun _ h => absurd rfl h), h5, h6⟩
  | arr lt sz l =>
    rcases h with ⟨a, b⟩ | ⟨b, cap, vs, h1, h2, h3, h4, h5, h6⟩
    · exact .inl ⟨a, by rw [hi]; exact b⟩
    · exact .inr ⟨b, cap, vs, by rw [hi]; exact h1, h2, h3.mono hB (fun _ _ => rfl) (fun _ h => absurd rfl h), h4, h5, h6⟩
  | box l =>
    obtain ⟨b, vs, h1, h2, h3, h4, h5⟩ := h
    exact ⟨b, vs, by rw [hi]; exact h1, map_ren (fun x v => ren1_rep hB hρ) h2, h3, h4, h5⟩
theorem gc_sub {fr : Fr} {os : List SO} {g : Nat → Gh} {w : World} (keep : List Nat) : ∀ b, Bk fr os g w b → Bk fr (gcO keep os) (gk g keep) w b := fun b hb =>
  ⟨hb.1, hb.2.1, fun ⟨i, o, hi, hl, hbl⟩ => by
    obtain ⟨j, o', hj, ho, _, hl', hb'⟩ := gc_live hi hl hbl
    exact hb.2.2 ⟨j, o', ho, hl', hb'⟩⟩
theorem gc_mem {fr : Fr} {os : List SO} {g : Nat → Gh} {w : World} (hm : Mem fr os g w) {keep : List Nat} (hn : nodupB keep = true) : Mem fr (gcO keep os) (gk g keep) w where
  objs i o hi := by
    obtain ⟨j, hj, rfl⟩ := gcO_get hi
    by_cases hd : os.getD j .dead = .dead
    · rw [hd]; trivial
    · exact (hm.objs j _ (getD_some rfl hd)).ren (gc_sub keep) gk_place (by unfold gk; rw [hj])
  fresh i hi := by
    unfold gk
    rw [List.getElem?_eq_none (by simpa [gcO] using hi)]
  inj i k oi ok b hi hk li lk bi bk := by
    obtain ⟨j, o', hj, ho, _, hl, hb⟩ := gc_live hi li bi
    obtain ⟨j', o'', hj', ho', _, hl', hb'⟩ := gc_live hk lk bk
    have := hm.inj j j' o' o'' b ho ho' hl hl' hb hb'
    subst this
    exact nodup_get hn hj hj'
  own b := by
    rintro ⟨i, o, hi, hl, hb⟩
    obtain ⟨j, o', hj, ho, _, hl', hb'⟩ := gc_live hi hl hb
    exact hm.own b ⟨j, o', ho, hl', hb'⟩
  mine i sz l b hi hb := by
    obtain ⟨j, o', hj, ho, e, hl', hb'⟩ := gc_live hi rfl hb
    cases o' with
    | arr lt sz' l' => cases e; exact hm.mine j _ _ b ho hb'
    | _ => cases e
  frame := hm.frame
  size := hm.size
  out := hm.out
theorem look_ren (ρ : Nat → Option Nat) (t : Nat) : ∀ (env : Env), look t (renE ρ env) = ren3 ρ (look t env) := by
  intro env
  induction env with
  | nil => rfl
  | cons p ps ih =>
    simp only [renE, look]
    split
    · rfl
    · exact ih
theorem gc_ok : GcOK P := by
  intro fr g0 nl nt env os a w hi keep hk
  obtain ⟨g, m, hs, ht, hd, hl, h0⟩ := hi
  obtain ⟨k1, k2, k3⟩ := okKeep_of hk
  refine ⟨gk g keep, gc_mem m k1, fun t => ?_, ht, hd, by simpa [gcO] using k2, fun j hj hn => ?_⟩
  · rw [look_ren]
    exact ren3_rep (gc_sub keep) gk_place (hs t)
  · unfold gk; rw [k3 j hj]; exact h0 j hj hn
end Go.Proofs.Ytlnenahbffkbiaa

/- The evaluator S: what is lent to a callee, and what comes back. -/
namespace Go.Proofs.Ytlnenahbffkbiaa
open Go
set_option linter.unusedVariables false
set_option linter.unusedSimpArgs false
variable {P : Program} {T : Tab}
def lent (keep : List Nat) (os : List SO) : List SO := (gcO keep os).map SO.lend
theorem lend_live (o : SO) : o.lend.isLive = o.isLive := by cases o <;> rfl
theorem lent_get {keep : List Nat} {os : List SO} {i : Nat} {o : SO} (h : (lent keep os)[i]? = some o) : ∃ j, keep[i]? = some j ∧ o = ((os.getD j .dead).ren (place keep)).lend := by
  unfold lent at h
  rw [List.getElem?_map] at h
  obtain ⟨o', ho, rfl⟩ := Option.map_eq_some_iff.1 h
  obtain ⟨j, hj, rfl⟩ := gcO_get ho
  exact ⟨j, hj, rfl⟩
theorem lent_live {os : List SO} {g : Nat → Gh} {keep : List Nat} {i : Nat} {o : SO} {b : Nat} (h : (lent keep os)[i]? = some o) (hl : o.isLive = true) (hb : (gk g keep i).block? = some b) :
    ∃ j o', keep[i]? = some j ∧ os[j]? = some o' ∧ o'.isLive = true ∧ (g j).block? = some b := by
  obtain ⟨j, hj, rfl⟩ := lent_get h
  rw [lend_live, ren_live] at hl
  have hd : os.getD j .dead ≠ .dead := fun e => by rw [e] at hl; cases hl
  refine ⟨j, _, hj, getD_some rfl hd, hl, ?_⟩
  unfold gk at hb
  rw [hj] at hb
  exact hb
def frC (w : World) (A : Nat → Prop) (keep : List Nat) (os : List SO) (g : Nat → Gh) : Fr :=
  { N := w.heap.size, A := A, L := fun b => live (lent keep os) (gk g keep) b, w0 := w }
theorem lent_sub {fr : Fr} {os : List SO} {g : Nat → Gh} {w : World} {keep : List Nat} {A : Nat → Prop} (hA : ∀ b, Bk fr os g w b → A b) :
    ∀ b, Bk fr os g w b → Bk (frC w A keep os g) (lent keep os) (gk g keep) w b := fun b hb =>
  ⟨hb.1, fun _ => hA b hb, fun ⟨i, o, hi, hl, hbl⟩ => by
    obtain ⟨j, o', hj, ho, hl', hb'⟩ := lent_live hi hl hbl
    exact hb.2.2 ⟨j, o', ho, hl', hb'⟩⟩
theorem ObjOK.lend {w : World} {B : Nat → Prop} {g : Nat → Gh} {j : Nat} {o : SO} (h : ObjOK w B g j o) : ObjOK w B g j o.lend := by
  cases o <;> exact h
theorem lent_mem {fr : Fr} {os : List SO} {g : Nat → Gh} {w : World} (hm : Mem fr os g w) {keep : List Nat} (hn : nodupB keep = true) {A : Nat → Prop} (hA : ∀ b, Bk fr os g w b → A b) :
    Mem (frC w A keep os g) (lent keep os) (gk g keep) w where
  objs i o hi := by
    obtain ⟨j, hj, rfl⟩ := lent_get hi
    by_cases hd : os.getD j .dead = .dead
    · rw [hd]; trivial
    · exact ((hm.objs j _ (getD_some rfl hd)).ren (lent_sub hA) gk_place (by unfold gk; rw [hj])).lend
  fresh i hi := by
    unfold gk
    rw [List.getElem?_eq_none (by simpa [lent, gcO] using hi)]
  inj i k oi ok b hi hk li lk bi bk := by
    obtain ⟨j, o', hj, ho, hl, hb⟩ := lent_live hi li bi
    obtain ⟨j', o'', hj', ho', hl', hb'⟩ := lent_live hk lk bk
    have := hm.inj j j' o' o'' b ho ho' hl hl' hb hb'
    subst this
    exact nodup_get hn hj hj'
  own b hb := by
    refine ⟨?_, fun _ => hb⟩
    obtain ⟨i, o, hi, hl, hbl⟩ := hb
    obtain ⟨j, o', hj, ho, hl', hb'⟩ := lent_live hi hl hbl
    exact (hm.own b ⟨j, o', ho, hl', hb'⟩).1
  mine i sz l b hi hb := by
    obtain ⟨j, hj, e⟩ := lent_get hi
    cases h : (os.getD j .dead).ren (place keep) <;> rw [h] at e <;> cases e
  frame b _ _ := rfl
  size := Nat.le_refl _
  out := SameOut.refl _
theorem place_none : ∀ {keep : List Nat} {j : Nat}, place keep j = none → ∀ i : Nat, keep[i]? ≠ some j
  | [], _, _, i, h => by simp at h
  | k :: ks, j, hp, i, h => by
    simp only [place] at hp
    split at hp
    · simp at hp
    · rename_i hne
      split at hp
      · simp at hp
      · rename_i hq
        cases i with
        | zero => simp at h; exact hne h
        | succ i => exact place_none hq i (by simpa using h)
theorem snap_rep {fr : Fr} {os : List SO} {g : Nat → Gh} {w : World} (hm : Mem fr os g w) {keep : List Nat} {A : Nat → Prop} (hA : ∀ b, Bk fr os g w b → A b) {x : SV} {v : Value} {j sz : Nat} {l : List SV}
    (hx : RepV w (Bk fr os g w) g x v) (he : elems os x = some (sz, l)) (hj : x = .osl j ∨ ∃ lo hi, x = .vw j lo hi) (hk : ∀ i : Nat, keep[i]? ≠ some j) (hs : ∀ lt sz l b, os[j]? = some (.arr lt sz l) → (g j).block? = some b → A b) :
    RepV w (Bk (frC w A keep os g) (lent keep os) (gk g keep) w) (gk g keep) (.sl sz l) v := by
  have hBk : ∀ lt sz l b, os[j]? = some (.arr lt sz l) → (g j).block? = some b → Bk (frC w A keep os g) (lent keep os) (gk g keep) w b := by
    intro lt sz l b h1 h2
    refine ⟨(hm.own b ⟨j, _, h1, rfl, h2⟩).1, fun _ => hs lt sz l b h1 h2, ?_⟩
    rintro ⟨i, o, hi, hl, hb⟩
    obtain ⟨j', o', hj', ho', hl', hb'⟩ := lent_live hi hl hb
    have := hm.inj j' j o' _ b ho' h1 hl' rfl hb' h2
    subst this
    exact hk i hj'
  obtain ⟨a, c, rfl, hlc, hr⟩ := elems_rep hm hx he
  rcases hr with rfl | ⟨b, o, vs, rfl, h1, h2, h3⟩
  · exact .sl0
  · by_cases hl0 : l = []
    · subst hl0; exact .sl0
    have hb : Bk (frC w A keep os g) (lent keep os) (gk g keep) w b := by
      have hcase : ∀ sz' n cap, g j = .blk b sz' n cap → Bk (frC w A keep os g) (lent keep os) (gk g keep) w b := by
        intro sz' n cap hg
        unfold elems at he
        have hget : ∃ q, os[j]? = some q ∧ ((∃ lt l', q = .arr lt sz l') ∨ ∃ l', q = .frz sz l') := by
          rcases hj with rfl | ⟨lo, hi, rfl⟩
          · simp only at he
            split at he
            · rename_i lt sz' l' hq; obtain ⟨rfl, rfl⟩ := Prod.mk.inj (Option.some.inj he); exact ⟨_, hq, .inl ⟨_, _, rfl⟩⟩
            · rename_i sz' l' hq; obtain ⟨rfl, rfl⟩ := Prod.mk.inj (Option.some.inj he); exact ⟨_, hq, .inr ⟨_, rfl⟩⟩
            · simp at he
          · simp only at he
            split at he
            · rename_i lt sz' l' hq
              split at he
              · obtain ⟨rfl, rfl⟩ := Prod.mk.inj (Option.some.inj he); exact ⟨_, hq, .inl ⟨_, _, rfl⟩⟩
              · simp at he
            · rename_i sz' l' hq
              split at he
              · obtain ⟨rfl, rfl⟩ := Prod.mk.inj (Option.some.inj he); exact ⟨_, hq, .inr ⟨_, rfl⟩⟩
              · simp at he
            · simp at he
        obtain ⟨q, hq, hq'⟩ := hget
        rcases hq' with ⟨lt, l', rfl⟩ | ⟨l', rfl⟩
        · exact hBk lt sz l' b hq (by rw [hg]; rfl)
        · rcases hm.objs _ _ hq with ⟨_, hn⟩ | ⟨b', cap', vs', e1, e2, e3, _⟩
          · rw [hg] at hn; cases hn
          · rw [hg] at e1; cases e1; exact lent_sub hA b e3
      rcases hj with rfl | ⟨lo, hi, rfl⟩
      · cases hx with
        | osl hg => exact hcase _ _ _ hg
      · generalize hv : (Value.slice (some ⟨b, o, none⟩) l.length c) = vv at hx
        cases hx with
        | vw0 =>
          injection hv with h1 h2 h3
          have hz : l.length = 0 := h2
          exact absurd (List.length_eq_zero_iff.1 hz) hl0
        | vw hg _ _ _ =>
          injection hv with h1 h2 h3
          injection h1 with h1
          injection h1 with h1 _ _
          subst h1
          exact hcase _ _ _ hg
    have := h1.mono (lent_sub (keep := keep) hA) (fun _ _ => rfl) (g' := G0) (fun _ h => absurd rfl h)
    exact .sl this.1 this.2 h2 h3 hb hlc
theorem argCell_rep {fr : Fr} {os : List SO} {g : Nat → Gh} {w : World} (hm : Mem fr os g w) {keep : List Nat} {A : Nat → Prop} (hA : ∀ b, Bk fr os g w b → A b) {x y : SV} {v : Value}
    (hx : RepV w (Bk fr os g w) g x v) (h : argCell os keep x = some y) (hs : ∀ j, (x = .osl j ∨ ∃ lo hi, x = .vw j lo hi) → (∀ i : Nat, keep[i]? ≠ some j) → ∀ lt sz l b, os[j]? = some (.arr lt sz l) → (g j).block? = some b → A b) :
    RepV w (Bk (frC w A keep os g) (lent keep os) (gk g keep) w) (gk g keep) y v := by
  have hsub := lent_sub (keep := keep) hA
  unfold argCell at h
  split at h
  · obtain rfl := Option.some.inj h; cases hx with | v hv => exact .v hv
  · obtain rfl := Option.some.inj h; exact ren0_rep (x := .sl _ _) hsub gk_place hx
  · obtain rfl := Option.some.inj h; exact ren0_rep (x := .el _ _) hsub gk_place hx
  · rename_i j o
    split at h
    · rename_i i hi
      obtain rfl := Option.some.inj h
      cases hx with | ptr hp => exact .ptr (by rw [gk_place j i hi]; exact hp)
    · simp at h
  · rename_i j i o
    split at h
    · rename_i k hk
      obtain rfl := Option.some.inj h
      cases hx with | ap hp => exact .ap (by rw [gk_place j k hk]; exact hp)
    · simp at h
  · rename_i f caps
    obtain rfl := Option.some.inj h
    exact ren1_rep (x := .fn f caps) hsub gk_place hx
  · rename_i j
    split at h
    · rename_i i hi
      obtain rfl := Option.some.inj h
      cases hx with
      | osl0 hp => exact .osl0 (by rw [gk_place j i hi]; exact hp)
      | osl hp => exact .osl (by rw [gk_place j i hi]; exact hp)
    · rename_i hi
      split at h
      · rename_i p hp
        obtain rfl := Option.some.inj h
        exact snap_rep hm hA hx hp (.inl rfl) (place_none hi) (hs j (.inl rfl) (place_none hi))
      · simp at h
  · rename_i j lo hh
    split at h
    · simp at h
    · rename_i hi
      split at h
      · rename_i p hp
        obtain rfl := Option.some.inj h
        exact snap_rep hm hA hx hp (.inr ⟨lo, hh, rfl⟩) (place_none hi) (hs j (.inr ⟨lo, hh, rfl⟩) (place_none hi))
      · simp at h
  · simp at h
theorem argCells_rep {fr : Fr} {os : List SO} {g : Nat → Gh} {w : World} (hm : Mem fr os g w) {keep : List Nat} {A : Nat → Prop} (hA : ∀ b, Bk fr os g w b → A b) : ∀ (xs : List SV) {ys : List SV} {vs : List Value},
    RepL w (Bk fr os g w) g xs vs → argCells os keep xs = some ys →
    (∀ x, x ∈ xs → ∀ j, (x = .osl j ∨ ∃ lo hi, x = .vw j lo hi) → (∀ i : Nat, keep[i]? ≠ some j) → ∀ lt sz l b, os[j]? = some (.arr lt sz l) → (g j).block? = some b → A b) →
    RepL w (Bk (frC w A keep os g) (lent keep os) (gk g keep) w) (gk g keep) ys vs := by
  intro xs
  induction xs with
  | nil =>
    intro ys vs hl h hs
    simp only [argCells, Option.some.injEq] at h
    subst h
    have := hl.1
    cases vs with
    | nil => exact RepL.nil
    | cons => simp at this
  | cons x xs ih =>
    intro ys vs hl h hs
    obtain ⟨v, vs', rfl, hv, hl'⟩ := hl.uncons
    simp only [argCells] at h
    split at h
    · rename_i y ys' hy hys
      obtain rfl := Option.some.inj h
      exact RepL.cons (argCell_rep hm hA hv hy (hs x (by simp))) (ih hl' hys fun z hz => hs z (by simp [hz]))
    · simp at h
theorem argV_rep {fr : Fr} {os : List SO} {g : Nat → Gh} {w : World} (hm : Mem fr os g w) {keep : List Nat} {A : Nat → Prop} (hA : ∀ b, Bk fr os g w b → A b) {x y : SV} {v : Value}
    (hx : RepV w (Bk fr os g w) g x v) (h : argV os keep x = some y) (hs : ∀ z, z ∈ x.cells → ∀ j, (z = .osl j ∨ ∃ lo hi, z = .vw j lo hi) → (∀ i : Nat, keep[i]? ≠ some j) → ∀ lt sz l b, os[j]? = some (.arr lt sz l) → (g j).block? = some b → A b) :
    RepV w (Bk (frC w A keep os g) (lent keep os) (gk g keep) w) (gk g keep) y v := by
  unfold argV at h
  split at h
  · rename_i l
    split at h
    · rename_i ys hys
      obtain rfl := Option.some.inj h
      cases hx with
      | ag h1 h2 h3 =>
        have := argCells_rep hm hA l ⟨h1, h2⟩ hys hs
        exact .ag this.1 this.2 h3
    · simp at h
  · rename_i hna
    have e : x.cells = [x] := by cases x <;> first | rfl | exact absurd rfl (hna _)
    exact argCell_rep hm hA hx h (hs x (by rw [e]; simp))
theorem argVs_rep {fr : Fr} {os : List SO} {g : Nat → Gh} {w : World} (hm : Mem fr os g w) {keep : List Nat} {A : Nat → Prop} (hA : ∀ b, Bk fr os g w b → A b) : ∀ (xs : List SV) {ys : List SV} {vs : List Value},
    RepL w (Bk fr os g w) g xs vs → argVs os keep xs = some ys →
    (∀ x, x ∈ xs → ∀ z, z ∈ x.cells → ∀ j, (z = .osl j ∨ ∃ lo hi, z = .vw j lo hi) → (∀ i : Nat, keep[i]? ≠ some j) → ∀ lt sz l b, os[j]? = some (.arr lt sz l) → (g j).block? = some b → A b) →
    RepL w (Bk (frC w A keep os g) (lent keep os) (gk g keep) w) (gk g keep) ys vs := by
  intro xs
  induction xs with
  | nil =>
    intro ys vs hl h hs
    simp only [argVs, Option.some.injEq] at h
    subst h
    have := hl.1
    cases vs with
    | nil => exact RepL.nil
    | cons => simp at this
  | cons x xs ih =>
    intro ys vs hl h hs
    obtain ⟨v, vs', rfl, hv, hl'⟩ := hl.uncons
    simp only [argVs] at h
    split at h
    · rename_i y ys' hy hys
      obtain rfl := Option.some.inj h
      exact RepL.cons (argV_rep hm hA hv hy (hs x (by simp))) (ih hl' hys fun z hz => hs z (by simp [hz]))
    · simp at h
end Go.Proofs.Ytlnenahbffkbiaa

/- The evaluator S: behind a call. -/
namespace Go.Proofs.Ytlnenahbffkbiaa
open Go
set_option linter.unusedVariables false
set_option linter.unusedSimpArgs false
variable {P : Program} {T : Tab}
theorem flat1 {w : World} {B B' : Nat → Prop} {g : Nat → Gh} {x : SV} {v : Value} (h : RepV w B g x v) (hx : hasSl1 x = false) : RepV w B' g x v := by
  cases h <;> simp [hasSl1] at hx
  · exact .v (by assumption)
  · exact .dead
  · exact .osl0 (by assumption)
  · exact .osl (by assumption)
  · exact .ptr (by assumption)
  · rename_i f caps vs h1 h2
    cases caps with
    | nil =>
      obtain rfl : vs = [] := by cases vs <;> simp at h1 ⊢
      exact RepV.fn (caps := []) (vs := []) rfl (fun i x v h => by simp at h)
    | cons => simp [hasSl1] at hx
theorem flatL {w : World} {B B' : Nat → Prop} {g : Nat → Gh} {l : List SV} {vs : List Value} (h : RepL w B g l vs) (hx : l.any hasSl1 = false) : RepL w B' g l vs :=
  ⟨h.1, fun i x v h1 h2 => flat1 (h.2 i x v h1 h2) (by
    have := List.any_eq_false.1 hx x (List.mem_of_getElem? h1)
    simpa using this)⟩
theorem flat2 {w : World} {B B' : Nat → Prop} {g : Nat → Gh} {x : SV} {v : Value} (h : RepV w B g x v) (hx : x.cells.any hasSl1 = false) : RepV w B' g x v := by
  by_cases ha : ∃ l, x = .ag l
  · obtain ⟨l, rfl⟩ := ha
    cases h with
    | ag h1 h2 h3 =>
      have := flatL (B' := B') ⟨h1, h2⟩ hx
      exact .ag this.1 this.2 h3
  · have e : x.cells = [x] := by cases x <;> first | rfl | exact absurd ⟨_, rfl⟩ ha
    rw [e] at hx
    exact flat1 h (by simpa using hx)
theorem flat3 {w : World} {B B' : Nat → Prop} {g : Nat → Gh} {x : SV} {v : Value} (h : RepV w B g x v) (hx : hasSl3 x = false) : RepV w B' g x v := by
  by_cases ha : ∃ l, x = .tup l
  · obtain ⟨l, rfl⟩ := ha
    cases h with
    | tup h1 h2 =>
      refine .tup h1 fun i x v hx' hv => flat2 (h2 i x v hx' hv) ?_
      have := List.any_eq_false.1 hx x (List.mem_of_getElem? hx')
      simpa using this
  · have e : hasSl3 x = x.cells.any hasSl1 := by cases x <;> first | rfl | exact absurd ⟨_, rfl⟩ ha
    rw [e] at hx
    exact flat2 h hx
theorem flatE {w : World} {B B' : Nat → Prop} {g : Nat → Gh} {x : SV} {v : Value} (h : RepV w B g x v) (hx : flatSV x = true) : RepV w B' g x v := by
  refine flat2 h ?_
  rw [List.any_eq_false]
  intro y hy
  have := List.all_eq_true.1 hx y hy
  cases y <;> simp_all [hasSl1]
theorem ObjOK.flat {w : World} {B B' : Nat → Prop} {g : Nat → Gh} {j : Nat} {o : SO} (h : ObjOK w B g j o) (hf : o.hasSl = false) : ObjOK w B' g j o := by
  cases o with
  | dead => trivial
  | frz sz l => simp [SO.hasSl] at hf
  | arr lt sz l =>
    rcases h with h | ⟨b, cap, vs, h1, h2, h3, h4⟩
    · exact .inl h
    · refine .inr ⟨b, cap, vs, h1, h2, ⟨h3.1, fun i x v hx hv => flatE (h3.2 i x v hx hv) ?_⟩, h4⟩
      simp only [SO.hasSl, Bool.not_eq_false'] at hf
      exact List.all_eq_true.1 hf x (List.mem_of_getElem? hx)
  | box l =>
    obtain ⟨b, vs, h1, h2, h3⟩ := h
    exact ⟨b, vs, h1, flatL h2 hf, h3⟩
def Kin (o o0 : SO) : Prop := (∀ b sz l, o0 = .arr b sz l → o = .dead ∨ ∃ b' l', o = .arr b' sz l') ∧ ∀ l, o0 = .box l → ∃ l', o = .box l'
def mix (β : Nat → Option Nat) (o o0 : SO) : SO :=
  match o, o0 with
  | .arr _ sz l, .arr b _ _ => .arr b sz l
  | .box l, .box _ => .box (l.map (ren1 β))
  | .dead, .arr _ _ _ => .dead
  | _, o0 => o0
def SameL (o o0 : SO) : Prop := o.isLive = o0.isLive ∨ o = .dead ∧ ∃ b sz l, o0 = .arr b sz l
theorem giveBack_of (β : Nat → Option Nat) : ∀ (keep : List Nat) (los os os1 : List SO), nodupB keep = true → giveBack β keep los os = some os1 →
    os1.length = os.length ∧ (∀ j, (∀ i : Nat, keep[i]? ≠ some j) → os1[j]? = os[j]?) ∧
    ∀ (i j : Nat), keep[i]? = some j → ∃ o o0, los[i]? = some o ∧ os[j]? = some o0 ∧ os1[j]? = some (mix β o o0) ∧ SameL o o0 ∧ o0.there = true ∧
      Kin o o0 ∧ (∀ sz l, o = .frz sz l → ∃ sz' l', o0 = .frz sz' l') := by
  intro keep
  induction keep with
  | nil =>
    intro los os os1 _ h
    simp only [giveBack, Option.some.injEq] at h
    subst h
    exact ⟨rfl, fun _ _ => rfl, fun i j h => by simp at h⟩
  | cons j js ih =>
    intro los os os1 hn h
    simp only [nodupB, Bool.and_eq_true, Bool.not_eq_true'] at hn
    obtain ⟨hn1, hn2⟩ := hn
    have hnot : ∀ i : Nat, js[i]? ≠ some j := fun i h => by
      have : js.contains j = true := by simpa using List.mem_of_getElem? h
      rw [this] at hn1; cases hn1
    cases los with
    | nil => simp [giveBack] at h
    | cons o los =>
      simp only [giveBack] at h
      have core : ∀ (o0 x : SO), os[j]? = some o0 → giveBack β js los (os.set j x) = some os1 → x = mix β o o0 → SameL o o0 → o0.there = true →
          Kin o o0 → (∀ sz l, o = .frz sz l → ∃ sz' l', o0 = .frz sz' l') →
          os1.length = os.length ∧ (∀ k, (∀ i : Nat, (j :: js)[i]? ≠ some k) → os1[k]? = os[k]?) ∧
          ∀ (i k : Nat), (j :: js)[i]? = some k → ∃ o' o0', (o :: los)[i]? = some o' ∧ os[k]? = some o0' ∧ os1[k]? = some (mix β o' o0') ∧ SameL o' o0' ∧ o0'.there = true ∧
            Kin o' o0' ∧ (∀ sz l, o' = .frz sz l → ∃ sz' l', o0' = .frz sz' l') := by
        intro o0 x hj hg hx hl ht hz hf
        obtain ⟨h1, h2, h3⟩ := ih los _ os1 hn2 hg
        have hset : ∀ k, k ≠ j → (os.set j x)[k]? = os[k]? := fun k hk => by rw [List.getElem?_set, if_neg (fun e => hk e.symm)]
        refine ⟨by simpa using h1, fun k hk => ?_, fun i k hi => ?_⟩
        · have hkj : k ≠ j := fun e => by subst e; exact hk 0 rfl
          rw [h2 k (fun i hi => hk (i + 1) (by simpa using hi)), hset k hkj]
        · cases i with
          | zero =>
            simp at hi
            subst hi
            refine ⟨o, o0, rfl, hj, ?_, hl, ht, hz, hf⟩
            rw [h2 j hnot, ← hx, List.getElem?_set, if_pos rfl]
            first | rfl | rw [if_pos (lt_of_getElem? hj)]
          | succ i =>
            have hi' : js[i]? = some k := by simpa using hi
            have hkj : k ≠ j := fun e => by subst e; exact hnot i hi'
            obtain ⟨o', o0', a1, a2, a3⟩ := h3 i k hi'
            exact ⟨o', o0', by simpa using a1, by rw [← hset k hkj]; exact a2, a3⟩
      split at h
      · rename_i bb sz l b sz' l' hj
        split at h
        · rename_i e
          subst e
          exact core _ _ hj h rfl (.inl rfl) rfl ⟨(fun b sz l e => by cases e; exact .inr ⟨_, _, rfl⟩), fun l e => by cases e⟩ (fun sz l e => by cases e)
        · simp at h
      · rename_i l l' hj
        exact core _ _ hj h rfl (.inl rfl) rfl ⟨(fun b sz l e => by cases e), fun l e => by cases e; exact ⟨_, rfl⟩⟩ (fun sz l e => by cases e)
      · rename_i sz l sz' l' hj
        exact core _ (.frz sz' l') hj (by rw [set_same hj]; exact h) rfl (.inl rfl) rfl ⟨(fun b sz l e => by cases e), fun l e => by cases e⟩ (fun sz l e => ⟨_, _, rfl⟩)
      · rename_i b sz l hj
        exact core _ .dead hj h rfl (.inr ⟨rfl, _, _, _, rfl⟩) rfl ⟨(fun b sz l e => .inl rfl), fun l e => by cases e⟩ (fun sz l e => by cases e)
      · simp at h
theorem freeze_of {fr : Fr} {g : Nat → Gh} {w : World} : ∀ (js : List Nat) {os os1 : List SO}, Mem fr os g w → freeze js os = some os1 →
    Mem fr os1 g w ∧ Grow fr os g w os1 g w ∧ os1.length = os.length ∧ (∀ j, j ∉ js → os1[j]? = os[j]?) ∧ ∀ j, j ∈ js → ∃ sz l, os1[j]? = some (.frz sz l) := by
  intro js
  induction js with
  | nil =>
    intro os os1 hm h
    simp only [freeze, Option.some.injEq] at h
    subst h
    exact ⟨hm, Grow.refl _ _ _ _, rfl, fun _ _ => rfl, fun j h => by simp at h⟩
  | cons j js ih =>
    intro os os1 hm h
    simp only [freeze] at h
    split at h
    · rename_i sz l hj
      have hm1 := freeze_mem hm hj
      obtain ⟨a1, a2, a3, a4, a5⟩ := ih hm1 h
      refine ⟨a1, (freeze_chg hm hj).grow.trans a2, by simpa using a3, fun k hk => ?_, fun k hk => ?_⟩
      · simp at hk
        rw [a4 k hk.2, List.getElem?_set, if_neg (fun e => hk.1 e.symm)]
      · by_cases hjs : k ∈ js
        · exact a5 k hjs
        · have : k = j := by simpa [hjs] using hk
          subst this
          refine ⟨sz, l, ?_⟩
          rw [a4 k hjs, List.getElem?_set, if_pos rfl]
          first | rfl | rw [if_pos (lt_of_getElem? hj)]
    · rename_i sz l hj
      obtain ⟨a1, a2, a3, a4, a5⟩ := ih hm h
      refine ⟨a1, a2, a3, fun k hk => a4 k (fun hh => hk (by simp [hh])), fun k hk => ?_⟩
      by_cases hjs : k ∈ js
      · exact a5 k hjs
      · have : k = j := by simpa [hjs] using hk
        subst this
        exact ⟨sz, l, by rw [a4 k hjs]; exact hj⟩
    · simp at h
def gB (g g' : Nat → Gh) (n m : Nat) (j : Nat) : Gh := if j < n then g j else g' (m + (j - n))
theorem back_mem {fr : Fr} {os os0 os1 los : List SO} {g g' : Nat → Gh} {w w' : World} {keep : List Nat} {A : Nat → Prop} (hm : Mem fr os g w) (hn : nodupB keep = true)
    (hm0 : Mem fr os0 g w) (hlen : os0.length = os.length) (hsame : ∀ i j : Nat, keep[i]? = some j → os0[j]? = os[j]?) (hth : (gcO keep os).all SO.there = true)
    (hmc : Mem (frC w A keep os g) los g' w') (hg' : ∀ i, i < keep.length → gk g keep i ≠ .no → g' i = gk g keep i) (hll : keep.length ≤ los.length)
    (hb : giveBack (backName keep os.length) keep los os0 = some os1)
    (hsl : (∀ b, b < w.heap.size → A b → (b < fr.N → fr.A b) ∧ ¬ live os0 g b) ∨ los.any SO.hasSl = false) :
    Mem fr (os1 ++ (los.drop keep.length).map (fun o => (o.ren (backName keep os.length)).back (anyLent os keep))) (gB g g' os.length keep.length) w' ∧
    Grow fr os0 g w (os1 ++ (los.drop keep.length).map (fun o => (o.ren (backName keep os.length)).back (anyLent os keep))) (gB g g' os.length keep.length) w' ∧
    (∀ x v, RepV w' (Bk (frC w A keep os g) los g' w') g' x v → ((∀ b, b < w.heap.size → A b → (b < fr.N → fr.A b) ∧ ¬ live os0 g b) ∨ hasSl3 x = false) →
      RepV w' (Bk fr (os1 ++ (los.drop keep.length).map (fun o => (o.ren (backName keep os.length)).back (anyLent os keep))) (gB g g' os.length keep.length) w') (gB g g' os.length keep.length) (ren3 (backName keep os.length) x) v) := by
  obtain ⟨b1, b2, b3⟩ := giveBack_of _ keep los os0 os1 hn hb
  have hthere : ∀ i j : Nat, keep[i]? = some j → j < os.length ∧ ∃ o, os[j]? = some o ∧ o.there = true := by
    intro i j hi
    have hgo : (gcO keep os)[i]? = some ((os.getD j .dead).ren (place keep)) := by unfold gcO; rw [List.getElem?_map, hi]; rfl
    have := List.all_eq_true.1 hth _ (List.mem_of_getElem? hgo)
    have hd : os.getD j .dead ≠ .dead := fun e => by rw [e] at this; cases this
    have hj := getD_some rfl hd
    refine ⟨lt_of_getElem? hj, _, hj, ?_⟩
    cases h : os.getD j .dead <;> rw [h] at this <;> first | rfl | exact absurd h hd
  have hgne : ∀ i j : Nat, keep[i]? = some j → g j ≠ .no := by
    intro i j hi
    obtain ⟨_, o, ho, ht⟩ := hthere i j hi
    have hok := hm.objs j o ho
    cases o with
    | dead => cases ht
    | frz sz l => rcases hok with ⟨_, h⟩ | ⟨b, cap, vs, h, _⟩ <;> rw [h] <;> simp
    | arr lt sz l => rcases hok with ⟨_, h⟩ | ⟨b, cap, vs, h, _⟩ <;> rw [h] <;> simp
    | box l => obtain ⟨b, vs, h, _⟩ := hok; rw [h]; simp
  have hgk : ∀ i j : Nat, keep[i]? = some j → g' i = g j := by
    intro i j hi
    have e : gk g keep i = g j := by unfold gk; rw [hi]
    rw [hg' i (lt_of_getElem? hi) (by rw [e]; exact hgne i j hi), e]
  have hG1 : ∀ j, j < os.length → gB g g' os.length keep.length j = g j := fun j hj => by unfold gB; rw [if_pos hj]
  have hG2 : ∀ k, gB g g' os.length keep.length (os.length + k) = g' (keep.length + k) := fun k => by unfold gB; rw [if_neg (by omega)]; congr 1; omega
  have hGβ : ∀ i j, backName keep os.length i = some j → gB g g' os.length keep.length j = g' i := by
    intro i j h
    unfold backName at h
    split at h
    · rename_i hi
      rw [hG1 j (hthere i j h).1, hgk i j h]
    · rename_i hi
      obtain rfl := Option.some.inj h
      rw [hG2]; congr 1; omega
  have hlen1 : os1.length = os.length := by rw [b1, hlen]
  have src : ∀ (k : Nat) (o : SO), (os1 ++ (los.drop keep.length).map (fun o => (o.ren (backName keep os.length)).back (anyLent os keep)))[k]? = some o →
      (k < os.length ∧ (∀ i : Nat, keep[i]? ≠ some k) ∧ os0[k]? = some o) ∨
      (∃ (i : Nat) (o' o0 : SO), keep[i]? = some k ∧ los[i]? = some o' ∧ os0[k]? = some o0 ∧ o = mix (backName keep os.length) o' o0 ∧ SameL o' o0 ∧ o0.there = true ∧ Kin o' o0 ∧ (∀ sz l, o' = .frz sz l → ∃ sz' l', o0 = .frz sz' l')) ∨
      (∃ (q : Nat) (o' : SO), k = os.length + q ∧ los[keep.length + q]? = some o' ∧ o = (o'.ren (backName keep os.length)).back (anyLent os keep) ∧ True) := by
    intro k o hk
    rcases Nat.lt_or_ge k os1.length with h | h
    · rw [List.getElem?_append_left h] at hk
      by_cases hin : ∃ i : Nat, keep[i]? = some k
      · obtain ⟨i, hi⟩ := hin
        obtain ⟨o', o0, a1, a2, a3, a4, a5, a6, a7⟩ := b3 i k hi
        rw [a3] at hk
        exact .inr (.inl ⟨i, o', o0, hi, a1, a2, (Option.some.inj hk).symm, a4, a5, a6, a7⟩)
      · have hin' : ∀ i : Nat, keep[i]? ≠ some k := fun i hi => hin ⟨i, hi⟩
        rw [b2 k hin'] at hk
        exact .inl ⟨by omega, hin', hk⟩
    · rw [List.getElem?_append_right h, List.getElem?_map] at hk
      obtain ⟨o', ho', rfl⟩ := Option.map_eq_some_iff.1 hk
      rw [List.getElem?_drop] at ho'
      exact .inr (.inr ⟨k - os1.length, o', by omega, ho', rfl, trivial⟩)
  have hLlive : ∀ b, live (lent keep os) (gk g keep) b → ∃ (i j : Nat) (o : SO), keep[i]? = some j ∧ os0[j]? = some o ∧ o.isLive = true ∧ (g j).block? = some b := by
    rintro b ⟨i, o, hi, hl, hbl⟩
    obtain ⟨j, o', hj, ho, hl', hb'⟩ := lent_live hi hl hbl
    exact ⟨i, j, o', hj, by rw [hsame i j hj]; exact ho, hl', hb'⟩
  have hold : ∀ (k : Nat) (o : SO) (b : Nat), (∀ i : Nat, keep[i]? ≠ some k) → os0[k]? = some o → o.isLive = true → (g k).block? = some b → ¬ live (lent keep os) (gk g keep) b := by
    intro k o b hk ho hl hbl hL
    obtain ⟨i, j, o', hi, ho', hl', hb'⟩ := hLlive b hL
    have := hm0.inj j k o' o b ho' ho hl' hl hb' hbl
    subst this
    exact hk i hi
  have hLl0 : ∀ b, live (lent keep os) (gk g keep) b → live os0 g b := fun b hL => by
    obtain ⟨i, j, o, hi, ho, hl, hbl⟩ := hLlive b hL
    exact ⟨j, o, ho, hl, hbl⟩
  have hNs : fr.N ≤ w.heap.size := hm.size
  have hwsz : w.heap.size ≤ w'.heap.size := hmc.size
  have hwsame : ∀ b, b < w.heap.size → ¬ live (lent keep os) (gk g keep) b → w'.heap[b]? = w.heap[b]? := fun b h1 h2 => hmc.frame b h1 h2
  have mixA : ∀ (β : Nat → Option Nat) (o o0 : SO), SameL o o0 → (mix β o o0).isLive = true → o.isLive = true := by
    intro β o o0 h h2
    rcases h with h | ⟨rfl, b, sz, l, rfl⟩
    · cases o <;> cases o0 <;> first | rfl | (simp [mix, SO.isLive] at h h2 ⊢)
    · simp [mix, SO.isLive] at h2
  have mixB : ∀ (β : Nat → Option Nat) (o o0 : SO), SameL o o0 → (mix β o o0).isLive = true → o0.isLive = true := by
    intro β o o0 h h2
    rcases h with h | ⟨rfl, b, sz, l, rfl⟩
    · cases o <;> cases o0 <;> first | rfl | (simp [mix, SO.isLive] at h h2 ⊢)
    · simp [mix, SO.isLive] at h2
  have ren_live : ∀ (β : Nat → Option Nat) (o : SO), ((o.ren β).back (anyLent os keep)).isLive = o.isLive := fun β o => by cases o <;> rfl
  have back_ok : ∀ {w : World} {B : Nat → Prop} {g : Nat → Gh} {j : Nat} {o : SO} {tr : Bool}, ObjOK w B g j o → ObjOK w B g j (o.back tr) := by
    intro w B g j o tr h
    cases o <;> exact h
  have nlive : ∀ b, live (os1 ++ (los.drop keep.length).map (fun o => (o.ren (backName keep os.length)).back (anyLent os keep))) (gB g g' os.length keep.length) b →
      (∃ (k : Nat) (o : SO), (∀ i : Nat, keep[i]? ≠ some k) ∧ os0[k]? = some o ∧ o.isLive = true ∧ (g k).block? = some b) ∨ live los g' b := by
    rintro b ⟨k, o, hk, hl, hbl⟩
    rcases src k o hk with ⟨s1, s2, s3⟩ | ⟨i, o', o0, s1, s2, s3, rfl, s5, s6, s7⟩ | ⟨q, o', rfl, s2, rfl, s4⟩
    · rw [hG1 k s1] at hbl; exact .inl ⟨k, o, s2, s3, hl, hbl⟩
    · have hl := mixA _ _ _ s5 hl
      rw [hG1 k (hthere i k s1).1, ← hgk i k s1] at hbl
      exact .inr ⟨i, o', s2, hl, hbl⟩
    · rw [ren_live] at hl; rw [hG2] at hbl; exact .inr ⟨_, o', s2, hl, hbl⟩
  have cown : ∀ b, live los g' b → b < w'.heap.size ∧ (b < w.heap.size → live (lent keep os) (gk g keep) b) := fun b hb => hmc.own b hb
  have hsub : ∀ b, Bk fr os0 g w b → Bk fr (os1 ++ (los.drop keep.length).map (fun o => (o.ren (backName keep os.length)).back (anyLent os keep))) (gB g g' os.length keep.length) w' b := by
    intro b hb
    refine ⟨Nat.lt_of_lt_of_le hb.1 hwsz, hb.2.1, fun hl => ?_⟩
    rcases nlive b hl with ⟨k, o, h1, h2, h3, h4⟩ | h
    · exact hb.2.2 ⟨k, o, h2, h3, h4⟩
    · exact hb.2.2 (hLl0 b ((cown b h).2 hb.1))
  have hsm : ∀ b, Bk fr os0 g w b → w'.heap[b]? = w.heap[b]? := fun b hb => hwsame b hb.1 fun hL => hb.2.2 (hLl0 b hL)
  have hext : ∀ j, g j ≠ .no → gB g g' os.length keep.length j = g j := fun j hj => hG1 j (by
    rcases Nat.lt_or_ge j os.length with h | h
    · exact h
    · exact absurd (hm.fresh j h) hj)
  have hgrow : Grow fr os0 g w (os1 ++ (los.drop keep.length).map (fun o => (o.ren (backName keep os.length)).back (anyLent os keep))) (gB g g' os.length keep.length) w' := ⟨hsub, hsm, hext⟩
  have hBn : (∀ b, b < w.heap.size → A b → (b < fr.N → fr.A b) ∧ ¬ live os0 g b) → ∀ b, Bk (frC w A keep os g) los g' w' b → Bk fr (os1 ++ (los.drop keep.length).map (fun o => (o.ren (backName keep os.length)).back (anyLent os keep))) (gB g g' os.length keep.length) w' b := by
    intro hA b hb
    refine ⟨hb.1, fun h => ?_, fun hl => ?_⟩
    · exact (hA b (Nat.lt_of_lt_of_le h hNs) (hb.2.1 (Nat.lt_of_lt_of_le h hNs))).1 h
    · rcases nlive b hl with ⟨k, o, h1, h2, h3, h4⟩ | h
      · have hlt := (hm0.own b ⟨k, o, h2, h3, h4⟩).1
        exact (hA b hlt (hb.2.1 hlt)).2 ⟨k, o, h2, h3, h4⟩
      · exact hb.2.2 h
  have tr : ∀ (i j : Nat) (o : SO), los[i]? = some o → gB g g' os.length keep.length j = g' i → ObjOK w' (Bk fr (os1 ++ (los.drop keep.length).map (fun o => (o.ren (backName keep os.length)).back (anyLent os keep))) (gB g g' os.length keep.length) w') (gB g g' os.length keep.length) j (o.ren (backName keep os.length)) := by
    intro i j o ho hj
    rcases hsl with hA | hf
    · exact (hmc.objs i o ho).ren (hBn hA) hGβ hj
    · have : o.hasSl = false := by
        have := List.any_eq_false.1 hf o (List.mem_of_getElem? ho)
        simpa using this
      exact ((hmc.objs i o ho).flat (B' := Bk fr (os1 ++ (los.drop keep.length).map (fun o => (o.ren (backName keep os.length)).back (anyLent os keep))) (gB g g' os.length keep.length) w') this).ren (fun _ h => h) hGβ hj
  refine ⟨?_, hgrow, fun x v hx hsx => ?_⟩
  · refine { objs := ?_, fresh := ?_, inj := ?_, own := ?_, mine := ?_, frame := ?_, size := Nat.le_trans hNs hwsz, out := hm.out.trans hmc.out }
    · intro k o hk
      rcases src k o hk with ⟨s1, s2, s3⟩ | ⟨i, o', o0, s1, s2, s3, rfl, s5, s6, s7, s8⟩ | ⟨q, o', rfl, s2, rfl, s4⟩
      · refine (hm0.objs k o s3).mono hsub hsm hext fun b hl hbl => ?_
        exact hwsame b (hm0.own b ⟨k, o, s3, hl, hbl⟩).1 (hold k o b s2 s3 hl hbl)
      · have hkl := (hthere i k s1).1
        have := tr i k o' s2 (by rw [hG1 k hkl, hgk i k s1])
        cases o0 with
        | dead => cases s6
        | box l0 =>
          obtain ⟨l', rfl⟩ := s7.2 _ rfl
          exact this
        | arr b0 sz0 l0 =>
          rcases s7.1 _ _ _ rfl with rfl | ⟨b', l', rfl⟩
          · exact trivial
          · exact this
        | frz sz0 l0 =>
          have e : mix (backName keep os.length) o' (.frz sz0 l0) = .frz sz0 l0 := by cases o' <;> rfl
          rw [e]
          exact (hm0.objs k _ s3).mono hsub hsm hext fun b hl _ => by cases hl
      · exact back_ok (tr _ _ o' s2 (hG2 q))
    · intro k hk
      simp at hk
      have : k = os.length + (k - os.length) := by omega
      rw [this, hG2]
      exact hmc.fresh _ (by omega)
    · intro i k oi ok b hi hk li lk bi bk
      rcases src i oi hi with ⟨s1, s2, s3⟩ | ⟨i', o', o0, s1, s2, s3, rfl, s5, s6⟩ | ⟨q, o', rfl, s2, rfl, s4⟩ <;>
      rcases src k ok hk with ⟨t1, t2, t3⟩ | ⟨k', p', p0, t1, t2, t3, rfl, t5, t6⟩ | ⟨q', p', rfl, t2, rfl, t4⟩
      · rw [hG1 i s1] at bi; rw [hG1 k t1] at bk; exact hm0.inj i k oi ok b s3 t3 li lk bi bk
      · rw [hG1 i s1] at bi
        rw [hG1 k (hthere k' k t1).1] at bk
        have lk := mixB _ _ _ t5 lk
        exact hm0.inj i k oi p0 b s3 t3 li lk bi bk
      · rw [hG1 i s1] at bi; rw [hG2] at bk; rw [ren_live] at lk
        have hlt := (hm0.own b ⟨i, oi, s3, li, bi⟩).1
        exact absurd ((cown b ⟨_, p', t2, lk, bk⟩).2 hlt) (hold i oi b s2 s3 li bi)
      · rw [hG1 k t1] at bk
        rw [hG1 i (hthere i' i s1).1] at bi
        have li := mixB _ _ _ s5 li
        exact hm0.inj i k o0 ok b s3 t3 li lk bi bk
      · rw [hG1 i (hthere i' i s1).1] at bi
        have li := mixB _ _ _ s5 li
        rw [hG1 k (hthere k' k t1).1] at bk
        have lk := mixB _ _ _ t5 lk
        exact hm0.inj i k o0 p0 b s3 t3 li lk bi bk
      · rw [hG1 i (hthere i' i s1).1, ← hgk i' i s1] at bi
        have li := mixA _ _ _ s5 li
        rw [hG2] at bk; rw [ren_live] at lk
        have := hmc.inj i' _ o' p' b s2 t2 li lk bi bk
        have := lt_of_getElem? s1
        omega
      · rw [hG1 k t1] at bk; rw [hG2] at bi; rw [ren_live] at li
        have hlt := (hm0.own b ⟨k, ok, t3, lk, bk⟩).1
        exact absurd ((cown b ⟨_, o', s2, li, bi⟩).2 hlt) (hold k ok b t2 t3 lk bk)
      · rw [hG1 k (hthere k' k t1).1, ← hgk k' k t1] at bk
        have lk := mixA _ _ _ t5 lk
        rw [hG2] at bi; rw [ren_live] at li
        have := hmc.inj _ k' o' p' b s2 t2 li lk bi bk
        have := lt_of_getElem? t1
        omega
      · rw [hG2] at bi bk; rw [ren_live] at li lk
        have := hmc.inj _ _ o' p' b s2 t2 li lk bi bk
        omega
    · intro b hl
      rcases nlive b hl with ⟨k, o, h1, h2, h3, h4⟩ | h
      · have := hm0.own b ⟨k, o, h2, h3, h4⟩
        exact ⟨Nat.lt_of_lt_of_le this.1 hwsz, this.2⟩
      · obtain ⟨c1, c2⟩ := cown b h
        refine ⟨c1, fun hN => ?_⟩
        exact (hm0.own b (hLl0 b (c2 (Nat.lt_of_lt_of_le hN hNs)))).2 hN
    · intro k sz l b hk hbl
      rcases src k _ hk with ⟨s1, s2, s3⟩ | ⟨i, o', o0, s1, s2, s3, e, s5, s6, s7, s8⟩ | ⟨q, o', rfl, s2, e, s4⟩
      · rw [hG1 k s1] at hbl; exact hm0.mine k sz l b s3 hbl
      · rw [hG1 k (hthere i k s1).1] at hbl
        cases o0 with
        | arr b0 sz0 l0 =>
          rcases s7.1 _ _ _ rfl with rfl | ⟨b', l', rfl⟩
          · cases e
          · cases e
            exact hm0.mine k sz l0 b s3 hbl
        | dead => cases s6
        | box l0 => cases o' <;> cases e
        | frz sz0 l0 => cases o' <;> cases e
      · rw [hG2] at hbl
        cases o' with
        | arr b0 sz0 l0 =>
          simp only [SO.ren, SO.back, SO.arr.injEq] at e
          obtain ⟨e1, rfl, rfl⟩ := e
          cases b0 with
          | false => exact Nat.le_trans hNs (hmc.mine _ _ _ b s2 hbl)
          | true =>
            have htr : anyLent os keep = false := by simpa using e1.symm
            rcases Nat.lt_or_ge b w.heap.size with hlt | hge
            · obtain ⟨i0, j0, o1, k1, k2, k3, k4⟩ := hLlive b ((cown b ⟨_, _, s2, rfl, hbl⟩).2 hlt)
              obtain ⟨o', o0, a1, a2, a3, a4, a5, a6, a7⟩ := b3 i0 j0 k1
              obtain rfl : o1 = o0 := by rw [a2] at k2; exact (Option.some.inj k2).symm
              rcases a4 with a4 | ⟨rfl, b9, sz9, l9, rfl⟩
              · have hi := hmc.inj i0 _ o' _ b a1 s2 (by rw [a4]; exact k3) rfl (by rw [hgk i0 j0 k1]; exact k4) hbl
                have := lt_of_getElem? k1
                omega
              · have h9 : b9 = false := by
                  unfold anyLent at htr
                  rw [List.any_eq_false] at htr
                  have h8 := htr j0 (List.mem_of_getElem? k1)
                  rw [← hsame i0 j0 k1, k2] at h8
                  simpa using h8
                subst h9
                exact hm0.mine j0 sz9 l9 b k2 k4
            · exact Nat.le_trans hNs hge
        | _ => cases e
    · intro b hN hL
      have hb : b < w.heap.size := Nat.lt_of_lt_of_le hN hNs
      rw [hwsame b hb fun h => hL ((hm0.own b (hLl0 b h)).2 hN)]
      exact hm.frame b hN hL
  · rcases hsx with hA | hf
    · exact ren3_rep (hBn hA) hGβ hx
    · exact ren3_rep (fun _ h => h) hGβ (flat3 (B' := Bk fr (os1 ++ (los.drop keep.length).map (fun o => (o.ren (backName keep os.length)).back (anyLent os keep))) (gB g g' os.length keep.length) w') hx hf)
end Go.Proofs.Ytlnenahbffkbiaa
