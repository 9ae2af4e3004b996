/- From data to S's values: arguments of whatever plain kind (whole numbers, truth values, slices, structs). -/
import Derived.Test.YtjfegdlgepbjoaaTb
import Derived.ChangeArms
import Derived.DataReads
import Derived.WideShapes
namespace Go.Proofs.Ytjfegdlgepbjoaa
open Go Go.RowKit
set_option linter.unusedVariables false
set_option linter.unusedSimpArgs false
section
variable {H : Type} {enc : TypeId × Value → H} {P : Program} {w : World} {B : Nat → Prop} {sp : Nat → Bool} {hd : Bool}

/-- What the cells of a type hold, opened. -/
def COpen (enc : TypeId × Value → H) (P : Program) (w : World) (B : Nat → Prop) (sp : Nat → Bool) (hd : Bool) (e : TypeId) {α : Type} (okp : α → Prop) (g : α → List SV) : Prop :=
  ∀ (fuel : Nat) (cs : List Value) (y : DataW H × List MemPlace), DataW.trod enc P w 0 sp hd fuel e cs = some y → ∃ a, okp a ∧ RepL w B G0 (g a) cs ∧ ∀ c, c ∈ cs → c.oneCell' = true
theorem COpen.map {e : TypeId} {α β : Type} {okp : α → Prop} {g : α → List SV} (h : COpen enc P w B sp hd e okp g) (okq : β → Prop) (g' : β → List SV) (φ : α → β) (h1 : ∀ a, g' (φ a) = g a) (h2 : ∀ a, okp a → okq (φ a)) : COpen enc P w B sp hd e okq g' := by
  intro fuel cs y hy
  obtain ⟨a, ha, hr, hc⟩ := h fuel cs y hy
  exact ⟨φ a, h2 a ha, by rw [h1]; exact hr, hc⟩
theorem copen_int {e : TypeId} (he : P.underlying e = some (.int .i64)) : COpen enc P w B sp hd e (fun _ : Int => True) (fun n => [iI n]) := by
  intro fuel cs y hy
  obtain ⟨n, rfl, -, -⟩ := DataW.trod_int he hy
  exact ⟨n, trivial, RepL.cons (.v rfl) RepL.nil, fun c hc => by rw [List.mem_singleton.1 hc]; rfl⟩
theorem copen_bool {e : TypeId} (he : P.underlying e = some .bool) : COpen enc P w B sp hd e (fun _ : Bool => True) (fun b => [bB b]) := by
  intro fuel cs y hy
  obtain ⟨n, rfl, -⟩ := DataW.trod_bool he hy
  exact ⟨n, trivial, RepL.cons (.v rfl) RepL.nil, fun c hc => by rw [List.mem_singleton.1 hc]; rfl⟩
theorem repL_append {g : Nat → Gh} {l m : List SV} {vs us : List Value} (h : RepL w B g l vs) (h' : RepL w B g m us) : RepL w B g (l ++ m) (vs ++ us) := by
  refine ⟨by rw [List.length_append, List.length_append, h.1, h'.1], fun i x v hx hv => ?_⟩
  by_cases hi : i < l.length
  · rw [List.getElem?_append_left hi] at hx
    rw [List.getElem?_append_left (by rw [← h.1]; exact hi)] at hv
    exact h.2 i x v hx hv
  · rw [List.getElem?_append_right (by omega)] at hx
    rw [List.getElem?_append_right (by rw [← h.1]; omega), ← h.1] at hv
    exact h'.2 _ x v hx hv

theorem copen_s2 {t : TypeId} {f0 f1 : Field} {α β : Type} {p0 : α → Prop} {p1 : β → Prop} {g0 : α → List SV} {g1 : β → List SV} {k0 k1 : Nat} (ht : P.underlying t = some (.struct #[f0, f1])) (hc : P.cellsOf t = k0 + k1)
    (o0 : f0.offset = 0) (o1 : f1.offset = k0) (c0 : P.cellsOf f0.type = k0) (c1 : P.cellsOf f1.type = k1) (h0 : COpen enc P w B sp hd f0.type p0 g0) (h1 : COpen enc P w B sp hd f1.type p1 g1) :
    COpen enc P w B sp hd t (fun a : α × β => p0 a.1 ∧ p1 a.2) (fun a => g0 a.1 ++ g1 a.2) := by
  intro fuel cs y hy
  obtain ⟨xs, n, -, -, hl, hx, hf⟩ := DataW.trod_struct ht hy
  rw [hc] at hl
  have hx' : xs.length = 2 := hx
  have a0 := hf 0 f0 rfl
  have a1 := hf 1 f1 rfl
  rw [o0, c0, List.drop_zero] at a0
  rw [o1, c1] at a1
  obtain ⟨a, q0, r0, s0⟩ := h0 _ _ _ (a0.trans (List.getElem?_eq_getElem (by omega)))
  obtain ⟨b, q1, r1, s1⟩ := h1 _ _ _ (a1.trans (List.getElem?_eq_getElem (by omega)))
  have e : cs = cs.take k0 ++ (cs.drop k0).take k1 := by
    rw [← List.take_add, List.take_of_length_le (by omega)]
  refine ⟨(a, b), ⟨q0, q1⟩, ?_, fun c hc' => ?_⟩
  · rw [e]; exact repL_append r0 r1
  · rw [e] at hc'
    rcases List.mem_append.1 hc' with h | h
    · exact s0 c h
    · exact s1 c h
theorem copen_s3 {t : TypeId} {f0 f1 f2 : Field} {α β γ : Type} {p0 : α → Prop} {p1 : β → Prop} {p2 : γ → Prop} {g0 : α → List SV} {g1 : β → List SV} {g2 : γ → List SV} {k0 k1 k2 : Nat} (ht : P.underlying t = some (.struct #[f0, f1, f2])) (hc : P.cellsOf t = k0 + k1 + k2)
    (o0 : f0.offset = 0) (o1 : f1.offset = k0) (o2 : f2.offset = k0 + k1) (c0 : P.cellsOf f0.type = k0) (c1 : P.cellsOf f1.type = k1) (c2 : P.cellsOf f2.type = k2)
    (h0 : COpen enc P w B sp hd f0.type p0 g0) (h1 : COpen enc P w B sp hd f1.type p1 g1) (h2 : COpen enc P w B sp hd f2.type p2 g2) :
    COpen enc P w B sp hd t (fun a : α × β × γ => p0 a.1 ∧ p1 a.2.1 ∧ p2 a.2.2) (fun a => g0 a.1 ++ g1 a.2.1 ++ g2 a.2.2) := by
  intro fuel cs y hy
  obtain ⟨xs, n, -, -, hl, hx, hf⟩ := DataW.trod_struct ht hy
  rw [hc] at hl
  have hx' : xs.length = 3 := hx
  have a0 := hf 0 f0 rfl
  have a1 := hf 1 f1 rfl
  have a2 := hf 2 f2 rfl
  rw [o0, c0, List.drop_zero] at a0
  rw [o1, c1] at a1
  rw [o2, c2] at a2
  obtain ⟨a, q0, r0, s0⟩ := h0 _ _ _ (a0.trans (List.getElem?_eq_getElem (by omega)))
  obtain ⟨b, q1, r1, s1⟩ := h1 _ _ _ (a1.trans (List.getElem?_eq_getElem (by omega)))
  obtain ⟨c, q2, r2, s2⟩ := h2 _ _ _ (a2.trans (List.getElem?_eq_getElem (by omega)))
  have e : cs = cs.take k0 ++ (cs.drop k0).take k1 ++ (cs.drop (k0 + k1)).take k2 := by
    rw [← List.take_add, ← List.take_add, List.take_of_length_le (by omega)]
  refine ⟨(a, b, c), ⟨q0, q1, q2⟩, ?_, fun c hc' => ?_⟩
  · rw [e]; exact repL_append (repL_append r0 r1) r2
  · rw [e] at hc'
    rcases List.mem_append.1 hc' with h | h
    · rcases List.mem_append.1 h with h | h
      · exact s0 c h
      · exact s1 c h
    · exact s2 c h
theorem copen_s4 {t : TypeId} {f0 f1 f2 f3 : Field} {α β γ δ : Type} {p0 : α → Prop} {p1 : β → Prop} {p2 : γ → Prop} {p3 : δ → Prop} {g0 : α → List SV} {g1 : β → List SV} {g2 : γ → List SV} {g3 : δ → List SV} {k0 k1 k2 k3 : Nat} (ht : P.underlying t = some (.struct #[f0, f1, f2, f3])) (hc : P.cellsOf t = k0 + k1 + k2 + k3)
    (o0 : f0.offset = 0) (o1 : f1.offset = k0) (o2 : f2.offset = k0 + k1) (o3 : f3.offset = k0 + k1 + k2) (c0 : P.cellsOf f0.type = k0) (c1 : P.cellsOf f1.type = k1) (c2 : P.cellsOf f2.type = k2) (c3 : P.cellsOf f3.type = k3)
    (h0 : COpen enc P w B sp hd f0.type p0 g0) (h1 : COpen enc P w B sp hd f1.type p1 g1) (h2 : COpen enc P w B sp hd f2.type p2 g2) (h3 : COpen enc P w B sp hd f3.type p3 g3) :
    COpen enc P w B sp hd t (fun a : α × β × γ × δ => p0 a.1 ∧ p1 a.2.1 ∧ p2 a.2.2.1 ∧ p3 a.2.2.2) (fun a => g0 a.1 ++ g1 a.2.1 ++ g2 a.2.2.1 ++ g3 a.2.2.2) := by
  intro fuel cs y hy
  obtain ⟨xs, n, -, -, hl, hx, hf⟩ := DataW.trod_struct ht hy
  rw [hc] at hl
  have hx' : xs.length = 4 := hx
  have a0 := hf 0 f0 rfl
  have a1 := hf 1 f1 rfl
  have a2 := hf 2 f2 rfl
  have a3 := hf 3 f3 rfl
  rw [o0, c0, List.drop_zero] at a0
  rw [o1, c1] at a1
  rw [o2, c2] at a2
  rw [o3, c3] at a3
  obtain ⟨a, q0, r0, s0⟩ := h0 _ _ _ (a0.trans (List.getElem?_eq_getElem (by omega)))
  obtain ⟨b, q1, r1, s1⟩ := h1 _ _ _ (a1.trans (List.getElem?_eq_getElem (by omega)))
  obtain ⟨c, q2, r2, s2⟩ := h2 _ _ _ (a2.trans (List.getElem?_eq_getElem (by omega)))
  obtain ⟨d, q3, r3, s3⟩ := h3 _ _ _ (a3.trans (List.getElem?_eq_getElem (by omega)))
  have e : cs = cs.take k0 ++ (cs.drop k0).take k1 ++ (cs.drop (k0 + k1)).take k2 ++ (cs.drop (k0 + k1 + k2)).take k3 := by
    rw [← List.take_add, ← List.take_add, ← List.take_add, List.take_of_length_le (by omega)]
  refine ⟨(a, b, c, d), ⟨q0, q1, q2, q3⟩, ?_, fun c hc' => ?_⟩
  · rw [e]; exact repL_append (repL_append (repL_append r0 r1) r2) r3
  · rw [e] at hc'
    rcases List.mem_append.1 hc' with h | h
    · rcases List.mem_append.1 h with h | h
      · rcases List.mem_append.1 h with h | h
        · exact s0 c h
        · exact s1 c h
      · exact s2 c h
    · exact s3 c h

theorem choose_list {α : Type} {n : Nat} {R : Nat → α → Prop} (h : ∀ i, i < n → ∃ a, R i a) : ∃ l : List α, l.length = n ∧ ∀ (i : Nat) (a : α), l[i]? = some a → R i a := by
  induction n with
  | zero => exact ⟨[], rfl, fun i a h => by simp at h⟩
  | succ n ih =>
    obtain ⟨l, hl, hr⟩ := ih fun i hi => h i (by omega)
    obtain ⟨a, ha⟩ := h n (by omega)
    refine ⟨l ++ [a], by rw [List.length_append, hl]; rfl, fun i b hb => ?_⟩
    by_cases hi : i < l.length
    · rw [List.getElem?_append_left hi] at hb; exact hr i b hb
    · rw [List.getElem?_append_right (by omega)] at hb
      by_cases e : i - l.length = 0
      · rw [e] at hb
        obtain rfl := Option.some.inj hb
        rw [show i = n by omega]; exact ha
      · rw [List.getElem?_eq_none (by simp; omega)] at hb; cases hb
theorem cells_rows {b : Nat} {k : Nat} : ∀ {vs : List Value} {o : Nat}, (∀ (i : Nat) (v : Value), vs[i]? = some v → CellsAt w b (o + i * k) v.cells.toList) → (∀ v : Value, v ∈ vs → v.cells.size = k) → CellsAt w b o (flatV vs)
  | [], o, _, _ => fun q v h => by simp [flatV] at h
  | v :: vs, o, h, hk => by
    have h0 := h 0 v rfl
    rw [Nat.zero_mul, Nat.add_zero] at h0
    have h1 := cells_rows (vs := vs) (o := o + k) (fun i u hu => by
      have := h (i + 1) u hu
      rwa [Nat.add_mul, Nat.one_mul, show o + (i * k + k) = o + k + i * k by omega] at this) fun u hu => hk u (List.mem_cons_of_mem _ hu)
    have : flatV (v :: vs) = v.cells.toList ++ flatV vs := by simp [flatV]
    rw [this]
    refine CellsAt.append h0 ?_
    rw [Array.length_toList, hk v (by simp)]; exact h1

/-- How an element's cells are one value. -/
def ElemOf (w : World) (B : Nat → Prop) {α : Type} (g : α → List SV) (f : α → SV) : Prop := ∀ (a : α) (cs : List Value), RepL w B G0 (g a) cs → (∀ c, c ∈ cs → c.oneCell' = true) → ∃ v : Value, v.cells.toList = cs ∧ RepV w B G0 (f a) v
theorem elem_agg {α : Type} {g : α → List SV} : ElemOf w B g (fun a => .ag (g a)) := fun a cs h hc => ⟨.agg cs.toArray, by simp [Value.cells], .ag h.1 h.2 hc⟩
theorem elem_int : ElemOf w B (fun n : Int => [iI n]) iI := fun n cs h hc => by
  match cs, h with
  | [c], h =>
    have h1 := h.2 0 _ c rfl rfl
    have e := v_rep h1
    subst e
    exact ⟨_, rfl, .v rfl⟩

theorem copen_slice {t e : TypeId} {α : Type} {okp : α → Prop} {g : α → List SV} {f : α → SV} {k : Nat} (ht : P.underlying t = some (.slice e)) (hk : P.cellsOf e = k) (hk0 : Nat.blt 0 k = true) (ho : COpen enc P w B sp hd e okp g) (hf : ElemOf w B g f) (hB : ∀ b, b < w.heap.size → B b) :
    COpen enc P w B sp hd t (fun l : List α => l.length ≤ maxLen ∧ ∀ a, a ∈ l → okp a) (fun l => [.sl k (l.map f)]) := by
  intro fuel cs y hy
  simp only [Nat.blt_eq] at hk0
  rcases DataW.trod_slice ht hy with ⟨rfl, -⟩ | ⟨a, len, cap, elems, rest, n, -, rfl, -, -, hlc, hcm, hel, hget, -, -⟩
  · exact ⟨[], ⟨by simp [maxLen], fun a h => by cases h⟩, RepL.cons .sl0 RepL.nil, fun c hc => by rw [List.mem_singleton.1 hc]; rfl⟩
  · rw [hk] at hget
    have h1 : ∀ i, i < len → ∃ q : α × Value, okp q.1 ∧ RepV w B G0 (f q.1) q.2 ∧ q.2.cells.size = k ∧ (∀ c, c ∈ q.2.cells.toList → c.oneCell' = true) ∧ ∀ j, j < k → w.cell? ((a.add (i * k)).add j) = q.2.cells.toList[j]? := fun i hi => by
      have h2 := hget i hi
      rw [List.getElem?_eq_getElem (by omega), Option.bind_eq_some_iff] at h2
      obtain ⟨ds, h3, h4⟩ := h2
      obtain ⟨-, h5, h6⟩ := World.cells?_some h3
      obtain ⟨x, h7, h8, h9⟩ := ho _ _ _ h4
      obtain ⟨v, h10, h11⟩ := hf x ds h8 h9
      exact ⟨(x, v), h7, h11, by rw [← Array.length_toList, h10, h5], by rw [h10]; exact h9, fun j hj => by rw [h10]; exact h6 j hj⟩
    obtain ⟨l, hl, hr⟩ := choose_list h1
    refine ⟨l.map (·.1), ⟨by rw [List.length_map, hl]; omega, fun x hx => ?_⟩, RepL.cons ?_ RepL.nil, fun c hc => by rw [List.mem_singleton.1 hc]; rfl⟩
    · obtain ⟨q, hq, rfl⟩ := List.mem_map.1 hx
      obtain ⟨i, hi⟩ := List.getElem?_of_mem hq
      exact (hr i q hi).1
    · cases len with
      | zero =>
        obtain rfl : l = [] := List.length_eq_zero_iff.1 hl
        exact .sl0
      | succ len =>
        obtain ⟨q0, hq0⟩ : ∃ q, l[0]? = some q := ⟨_, List.getElem?_eq_getElem (by omega)⟩
        have hc0 := (hr 0 q0 hq0).2.2.2.2 0 hk0
        have hs0 := (hr 0 q0 hq0).2.2.1
        rw [List.getElem?_eq_getElem (by rw [Array.length_toList, hs0]; exact hk0)] at hc0
        have hsp : a.spot = none ∧ a.block < w.heap.size := by
          simp only [Addr.add, Nat.zero_mul, if_true, World.cell?] at hc0
          split at hc0
          · rename_i c t fz hcc
            refine ⟨?_, (Array.getElem?_eq_some_iff.1 hcc).1⟩
            cases hs : a.spot with
            | none => rfl
            | some s => rw [hs] at hc0; simp at hc0
          · cases hc0
        obtain ⟨b, o, spt⟩ := a
        obtain ⟨rfl, hb⟩ := hsp
        have key : RepV w B G0 (.sl k ((l.map (·.1)).map f)) (.slice (some ⟨b, o, none⟩) ((l.map (·.1)).map f).length cap) := by
          refine .sl (vs := l.map (·.2)) (by simp) (fun i x v hx hv => ?_) (fun v hv => ?_) ?_ (hB b hb) (by simp [hl]; exact hlc)
          · rw [List.getElem?_map] at hv
            obtain ⟨q, hq, rfl⟩ := Option.map_eq_some_iff.1 hv
            rw [List.map_map, List.getElem?_map, hq] at hx
            obtain rfl := Option.some.inj hx
            exact (hr i q hq).2.1
          · obtain ⟨q, hq, rfl⟩ := List.mem_map.1 hv
            obtain ⟨i, hi⟩ := List.getElem?_of_mem hq
            exact ⟨(hr i q hi).2.2.1, (hr i q hi).2.2.2.1⟩
          · refine cells_rows (k := k) (fun i v hv => ?_) fun v hv => ?_
            · rw [List.getElem?_map] at hv
              obtain ⟨q, hq, rfl⟩ := Option.map_eq_some_iff.1 hv
              intro j u hu
              have hj : j < q.2.cells.toList.length := (List.getElem?_eq_some_iff.1 hu).1
              rw [Array.length_toList, (hr i q hq).2.2.1] at hj
              have h2 := (hr i q hq).2.2.2.2 j hj
              rw [hu] at h2
              rw [← h2]
              congr 1
              simp only [Addr.add]
              split <;> split <;> simp_all <;> omega
            · obtain ⟨q, hq, rfl⟩ := List.mem_map.1 hv
              obtain ⟨i, hi⟩ := List.getElem?_of_mem hq
              exact (hr i q hi).2.2.1
        rw [List.length_map, List.length_map, hl] at key
        exact key

/-- The blocks that a law's arguments may lead to: all that were there. -/
abbrev B0 (w : World) : Nat → Prop := Bk ⟨w.heap.size, fun _ => True, fun _ => False, w⟩ [] G0 w
theorem B0_all (b : Nat) (hb : b < w.heap.size) : B0 w b := ⟨hb, fun _ => trivial, fun ⟨j, o, hj, _⟩ => by simp at hj⟩
/-- An argument that is a struct. -/
theorem arg_agg {t : TypeId} {α : Type} {okp : α → Prop} {g : α → List SV} {cs : Array Value} {d : DataW H} {ps : List MemPlace} (h : COpen enc P w B sp hd t okp g) (ht : DataW.Trod enc P w 0 sp hd t (.agg cs) d ps) : ∃ a, okp a ∧ RepV w B G0 (.ag (g a)) (.agg cs) := by
  obtain ⟨fuel, hf⟩ := ht
  obtain ⟨a, ha, hr, hc⟩ := h fuel _ _ hf
  refine ⟨a, ha, ?_⟩
  have := RepV.ag (w := w) (B := B) (g := G0) hr.1 hr.2 hc
  simpa [Value.cells] using this
/-- An argument of one cell. -/
theorem arg_one {t : TypeId} {α : Type} {okp : α → Prop} {f : α → SV} {v : Value} {d : DataW H} {ps : List MemPlace} (h : COpen enc P w B sp hd t okp fun a => [f a]) (ht : DataW.Trod enc P w 0 sp hd t v d ps) (hv : v.cells.toList = [v]) : ∃ a, okp a ∧ RepV w B G0 (f a) v := by
  obtain ⟨fuel, hf⟩ := ht
  rw [hv] at hf
  obtain ⟨a, ha, hr, hc⟩ := h fuel _ _ hf
  exact ⟨a, ha, hr.2 0 _ _ rfl rfl⟩
end

/-- A law's own question about arguments of whatever kind: S says yes. -/
theorem law_args {P : Program} {p : Prg} (hp : PrgOK P p) {k n : Nat} {xs : List SV} {vs : List Value} {los : List SO} {w : World} (hrep : RepL w (B0 w) G0 xs vs) (h : callF p n k xs [] = some (.v (.bool true), los)) :
    Calls P k vs.toArray w fun e w' => e = .returned (.bool true) ∧ Below w.heap.size w w' := by
  obtain ⟨-, hc⟩ := callF_ok hp n k _ [] los _ h
  refine (hc (fun _ => True) (fun _ => False) G0 vs w (fun b hb => by obtain ⟨j, o, hj, _⟩ := hb; simp at hj) (mem_none w _ _) hrep).mono ?_
  rintro e w' ⟨v, g', rfl, m, -, hv, -⟩
  obtain rfl := v_rep hv
  exact ⟨rfl, m.out.1, m.out.2.1, m.out.2.2, m.size, fun b hb => m.frame b hb (fun h => h)⟩

end Go.Proofs.Ytjfegdlgepbjoaa
