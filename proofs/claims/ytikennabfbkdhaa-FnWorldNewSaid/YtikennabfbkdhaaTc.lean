/- The evaluator S and what it says of functions: Tb, Tc. -/
import Derived.Test.YtikennabfbkdhaaTe
import Derived.Test.YtikennabfbkdhaaTd
import Derived.Below
import Derived.WalkKit
import Derived.SizedLaws
import Derived.ChangeSlices
import Derived.Laws.Cover3
/- The evaluator S: from S's answer to what is asked of a law that takes bytes. -/
namespace Go.Proofs.Ytikennabfbkdhaa
open Go Go.RowKit
set_option linter.unusedVariables false
set_option linter.unusedSimpArgs false
variable {P : Program}
def IsRow (k : IntKind) (w : World) (a : Option Addr) (len cap : Nat) (zs : List Int) : Prop :=
  (a = none ∧ len = 0 ∧ cap = 0 ∧ zs = []) ∨
  ∃ x, a = some x ∧ len ≤ cap ∧ cap ≤ maxLen ∧ zs.length = cap ∧ (∀ i, i < zs.length → w.cell? (x.add i) = some (.int k (zs.getD i 0))) ∧ ∀ n ∈ zs, (Lit.int k n).wf = true
theorem mem_none (w : World) (A L : Nat → Prop) : Mem ⟨w.heap.size, A, L, w⟩ [] G0 w where
  objs j o h := by simp at h
  fresh _ _ := rfl
  inj i j oi oj b h := by simp at h
  own b h := by obtain ⟨j, o, h, _⟩ := h; simp at h
  mine j sz l b h := by simp at h
  frame _ _ _ := rfl
  size := Nat.le_refl _
  out := SameOut.refl _
theorem flat_ints : ∀ (l : List Int), flatV (l.map fun x => Value.int .u8 x) = l.map fun x => Value.int .u8 x
  | [] => rfl
  | x :: l => by
    have := flat_ints l
    simp only [flatV, List.map_cons, List.flatMap_cons] at this ⊢
    rw [this]; rfl
theorem row_rep {w : World} {B : Nat → Prop} {g : Nat → Gh} {a : Option Addr} {len cap : Nat} {zs : List Int} (h : IsRow .u8 w a len cap zs) (hB : ∀ b, b < w.heap.size → B b) :
    RepV w B g (.sl 1 ((zs.take len).map bI)) (.slice a len cap) := by
  rcases h with ⟨rfl, rfl, rfl, rfl⟩ | ⟨x, rfl, h1, h2, h3, h4, h5⟩
  · exact .sl0
  · cases len with
    | zero => exact .sl0
    | succ len =>
      have h0 := h4 0 (by omega)
      have hsp : x.spot = none ∧ x.block < w.heap.size := by
        simp only [Addr.add, if_true, World.cell?] at h0
        split at h0
        · rename_i c t fz hc
          refine ⟨?_, ?_⟩
          · cases hs : x.spot with
            | none => rfl
            | some s => rw [hs] at h0; simp at h0
          · exact (Array.getElem?_eq_some_iff.1 hc).1
        · cases h0
      obtain ⟨b, o, sp⟩ := x
      obtain ⟨rfl, hb⟩ := hsp
      have hlen : ((zs.take (len + 1)).map bI).length = len + 1 := by simp; omega
      have key : RepV w B g (.sl 1 ((zs.take (len + 1)).map bI)) (.slice (some ⟨b, o, none⟩) ((zs.take (len + 1)).map bI).length cap) := by
        refine .sl (vs := (zs.take (len + 1)).map fun x => Value.int .u8 x) (by simp) (fun i x v hx hv => ?_) (fun v hv => ?_) ?_ (hB b hb) (by rw [hlen]; exact h1)
        · rw [List.getElem?_map] at hx hv
          obtain ⟨y, hy, rfl⟩ := Option.map_eq_some_iff.1 hx
          rw [hy] at hv
          obtain rfl := Option.some.inj hv
          exact .v rfl
        · obtain ⟨y, _, rfl⟩ := List.mem_map.1 hv
          exact ⟨rfl, fun c hc => by simp [Value.cells] at hc; subst hc; rfl⟩
        · rw [flat_ints]
          intro k v hk
          rw [List.getElem?_map] at hk
          obtain ⟨y, hy, rfl⟩ := Option.map_eq_some_iff.1 hk
          rw [List.getElem?_take] at hy
          split at hy
          · have hkl := lt_of_getElem? hy
            have := h4 k hkl
            rw [List.getD_eq_getElem?_getD, hy] at this
            rw [show (some y).getD 0 = y from rfl] at this
            rw [← this]
            congr 1
            simp only [Addr.add]
            split
            · rename_i e; subst e; rfl
            · rfl
          · cases hy
      rw [hlen] at key
      exact key
theorem law_bytes {p : Prg} (hp : PrgOK P p) {k n : Nat} {a : Option Addr} {len cap : Nat} {zs : List Int} {los : List SO} {w : World} (hrow : IsRow .u8 w a len cap zs)
    (h : callF p n k [.sl 1 ((zs.take len).map bI)] [] = some (.v (.bool true), los)) :
    Calls P k #[.slice a len cap] w fun e w' => e = .returned (.bool true) ∧ Below w.heap.size w w' := by
  obtain ⟨-, hc⟩ := callF_ok hp n k _ [] los _ h
  have hB : ∀ b, b < w.heap.size → Bk ⟨w.heap.size, fun _ => True, fun _ => False, w⟩ [] G0 w b := fun b hb => ⟨hb, fun _ => trivial, fun ⟨j, o, hj, _⟩ => by simp at hj⟩
  refine (hc (fun _ => True) (fun _ => False) G0 [.slice a len cap] w (fun b hb => by obtain ⟨j, o, hj, _⟩ := hb; simp at hj) (mem_none w _ _) (RepL.cons (row_rep hrow hB) RepL.nil)).mono ?_
  rintro e w' ⟨v, g', rfl, m, -, hv, -⟩
  obtain rfl := v_rep hv
  exact ⟨rfl, m.out.1, m.out.2.1, m.out.2.2, m.size, fun b hb => m.frame b hb (fun h => h)⟩
section
open Go.ChangeShapes Go.WideShapes
theorem sized_ints {H : Type} {enc : TypeId × Value → H} {P : Program} {W : World} {base : Nat} {spare : Nat → Bool} {held : Bool} {t e : TypeId} {k : IntKind} {a : Option Addr} {len cap : Nat} {d : DataW H} {ps : List MemPlace} {ts : List TypeId} {ds : List (DataW H)} {j : Nat}
    (hsz : (DataW.weightsEach P ts ds).all (· ≤ reachBytes) = true) (ht : ts[j]? = some t) (hd : ds[j]? = some d) (hu : P.underlying t = some (.slice e)) (he : P.underlying e = some (.int k)) (hc : P.cellsOf e = 1) {B : Nat} (hB : P.bytesOf e = B)
    (h : DataW.Trod enc P W base spare held t (.slice a len cap) d ps) : len * B ≤ 140737488351232 := by
  obtain ⟨fuel, hf⟩ := h
  rcases open_ints hu he hc hf with ⟨hcs, _⟩ | ⟨x, l, c, zs, hcs, _, hl, _, hz, hx, _, _⟩
  · simp [Value.cells] at hcs
    obtain ⟨rfl, rfl, rfl⟩ := hcs
    simp
  · simp [Value.cells] at hcs
    obtain ⟨rfl, rfl, rfl⟩ := hcs
    obtain ⟨hx, _⟩ := Prod.mk.inj hx
    subst hx
    have z := sized_slice hsz ht hd hu
    rw [hB] at z
    have hl2 : len ≤ zs.length := by
      rw [hz]
      split
      · exact hl
      · exact Nat.le_refl _
    have h1 : (lits (H := H) k (zs.take len)).length + (lits (H := H) k (zs.drop len)).length = zs.length := by
      simp [lits]
      omega
    rw [h1] at z
    exact Nat.le_trans (Nat.mul_le_mul_right _ hl2) z
end
theorem bytes_of {l : List Int} (h : ∀ x ∈ l, (Lit.int .u8 x).wf = true) (i : Nat) : 0 ≤ nth l i ∧ nth l i < 256 := by
  by_cases hi : i < l.length
  · have hm : nth l i ∈ l := List.mem_of_getElem? (get_nth hi)
    have := h _ hm
    simp [Lit.wf, IntKind.min, IntKind.max, IntKind.bits, IntKind.signed] at this
    omega
  · have : nth l i = 0 := by
      unfold nth
      rw [List.getD_eq_getElem?_getD, List.getElem?_eq_none (by omega)]; rfl
    omega
end Go.Proofs.Ytikennabfbkdhaa

/- The evaluator S: slices.Clone, once for all types. -/
namespace Go.Proofs.Ytikennabfbkdhaa
open Go
set_option linter.unusedVariables false
set_option linter.unusedSimpArgs false
variable {P : Program} {T : Tab}
def cl0 (t : Nat) : Code := .region 0 #[{ dst := some 2, op := .assign (.const (.slice none 0 0)), type := t, pos := "slices.go:355", after := #[], guard := none }] false
def cl1 (t b : Nat) : Code := .region 1 #[{ dst := some 3, op := .move (.tmp 0), type := t, pos := "slices.go:357", after := #[], guard := none },
  { dst := some 4, op := .binOp .eql t (.tmp 3) (.const (.slice none 0 0)) t, type := b, pos := "slices.go:357", after := #[{ on := 0, ground := .data }], guard := none }] false
def cl2 (t : Nat) : Code := .region 2 #[{ dst := some 2, op := .assign (.const (.slice none 0 0)), type := t, pos := "slices.go:358", after := #[], guard := none }] false
def cl3 (t : Nat) : Code := .region 3 #[{ dst := some 5, op := .buildSlice t 0 #[], type := t, pos := "slices.go:362", after := #[], guard := none },
  { dst := some 6, op := .move (.tmp 0), type := t, pos := "slices.go:362", after := #[], guard := none },
  { dst := some 7, op := .call { callee := .builtin .append, args := #[.tmp 5, .tmp 6], argTypes := #[t, t] }, type := t, pos := "slices.go:362",
    after := #[{ on := 0, ground := .data }, { on := 1, ground := .data }], guard := none },
  { dst := some 2, op := .assign (.tmp 7), type := t, pos := "slices.go:362",
    after := #[{ on := 2, ground := .data }, { on := 2, ground := .chain }, { on := 0, ground := .phase }, { on := 1, ground := .phase }, { on := 2, ground := .phase }], guard := none }] false
def cloneC (t b : Nat) : Code := (cl0 t).seq (((cl1 t b).seq (.cond (.tmp 4) ((cl2 t).seq .ret) .skip)).seq ((cl3 t).seq .ret))
theorem wp_val {o : Oper} {a : Act} {w w' : World} {v : Value} {next : Act → World → Prop} {Q : Exit → Act → World → Prop} (h : (execOp a.eval o).run P w = .ok (.value v) w') (hn : next (a.put o.dst v) w') : o.wp P a w next Q := by
  unfold Oper.wp
  rw [h]
  exact hn
theorem nil_any {w : World} {B : Nat → Prop} {g : Nat → Gh} {s s' : Nat} {v : Value} (h : RepV w B g (.sl s []) v) : RepV w B g (.sl s' []) v := by
  generalize hx : SV.sl s [] = x at h
  cases h <;> cases hx
  · exact .sl0
  · exact .sl0
theorem clone_ok (hT : TabOk P T) {f t e b : Nat} {fn : Func} {i : TI} (hf : P.funcs[f]? = some fn) (hn : (fn.name == "runtime.NumGoroutine") = false) (hb : fn.body = some (cloneC t b)) (hr : fn.results = #[.tmp 2]) (hnt : fn.ntmps = 8)
    (hu : T.und t = some (.slice e)) (hi : T.ti e = some i) (hmix : P.follows .mixedOrders = true) (hpz : T.pz t = false) : KOK1 P f (cloneS i.size i.bytes) := by
  intro args los los' r h
  refine ⟨⟨fn, _, hf, hn, hb⟩, ?_⟩
  unfold cloneS at h
  split at h
  rotate_left
  · cases h
  rename_i s l
  split at h
  rotate_left
  · cases h
  rename_i hc
  obtain ⟨hc1, hc2, hc3⟩ := hc
  cases h
  intro A L g vals w hL hm ha
  obtain ⟨v, vs', rfl, hv, h2⟩ := ha.uncons
  obtain rfl : vs' = [] := by have := h2.1; cases vs' <;> simp at this ⊢
  have hund := hT.slice t e hu
  have key : ∀ (a : Option Addr) (n c : Nat), v = .slice a n c → l.length = n → Calls P f [v].toArray w fun e w' => ∃ v g', e = .returned v ∧ Mem ⟨w.heap.size, A, L, w⟩ [.arr false i.size l] g' w' ∧ (∀ j, j < ([] : List SO).length → g j ≠ .no → g' j = g j) ∧
        RepV w' (Bk ⟨w.heap.size, A, L, w⟩ [.arr false i.size l] g' w') g' (.osl 0) v ∧ ([] : List SO).length ≤ [SO.arr false i.size l].length := by
    intro a n c hvn hln
    subst hvn
    refine calls_of_wp hf hb ?_
    simp only [cloneC, hnt]
    refine wp_seq (wp_region ?_)
    simp only [cl0, List.size_toArray, List.length_cons, List.length_nil, List.range, List.range.loop, wpOps, List.getElem?_toArray, List.getElem?_cons_zero, Region.wanted, if_true, Oper.wp, execOp, Oper.upon, Sem.run_pure]
    refine .inl ?_
    simp only [Exit.then]
    have e1 : ({ tmps := #[Value.slice a n c] ++ Array.replicate (8 - (0 + 1)) undef, defers := [] } : Act).put (some 2) (.slice none 0 0) = { tmps := #[.slice a n c, undef, .slice none 0 0, undef, undef, undef, undef, undef], defers := [] } := rfl
    have e0 : ({ tmps := #[Value.slice a n c] ++ Array.replicate (8 - (0 + 1)) undef, defers := [] } : Act).eval (Operand.const (Value.slice none 0 0)) = .slice none 0 0 := rfl
    have e2 : ([Value.slice a n c].toArray ++ Array.replicate (8 - [Value.slice a n c].toArray.size) undef) = #[Value.slice a n c] ++ Array.replicate (8 - (0 + 1)) undef := rfl
    rw [e0, e1]
    refine wp_seq (wp_seq (wp_region ?_))
    have hbin : (binOp .eql t (.slice a n c) (.slice none 0 0)).run P w = .ok (.bool a.isNone) w := by
      simp [binOp, run_equal_slice_nil w t e a n c hund]
    have hgd : (eqGuard .eql t (.tmp 3) (.const (.slice none 0 0)) (.slice a n c) (.slice none 0 0)).run P w = .ok () w := by
      simp [eqGuard, hund]
    refine .inl (wp_val (v := .slice a n c) (w' := w) (by simp only [List.getElem?_toArray, List.getElem_toArray, List.getElem_cons_zero, execOp, Sem.run_pure]; rfl) ?_)
    show wpOps P _ _ [1] { tmps := #[.slice a n c, undef, .slice none 0 0, .slice a n c, undef, undef, undef, undef], defers := [] } w
    refine .inl (wp_val (v := .bool a.isNone) (w' := w) ?_ ?_)
    · have ev3 : ({ tmps := #[.slice a n c, undef, .slice none 0 0, .slice a n c, undef, undef, undef, undef], defers := [] } : Act).eval (.tmp 3) = .slice a n c := rfl
      have evc : ({ tmps := #[.slice a n c, undef, .slice none 0 0, .slice a n c, undef, undef, undef, undef], defers := [] } : Act).eval (.const (.slice none 0 0)) = .slice none 0 0 := rfl
      show (execOp _ { dst := some 4, op := .binOp .eql t (.tmp 3) (.const (.slice none 0 0)) t, type := b, pos := "slices.go:357", after := #[{ on := 0, ground := .data }], guard := none }).run P w = _
      simp only [execOp, ev3, evc, Sem.run_bind, hgd, Result.andThen_ok, hbin, Sem.run_pure]
    show Code.wp P (Code.cond (Operand.tmp 4) ((cl2 t).seq Code.ret) Code.skip) _ { tmps := #[.slice a n c, undef, .slice none 0 0, .slice a n c, .bool a.isNone, undef, undef, undef], defers := [] } w
    refine wp_cond (t := a.isNone) rfl ?_
    cases a with
    | none =>
      refine wp_seq (wp_region (.inl (wp_val (v := .slice none 0 0) (w' := w) (by simp only [List.getElem?_toArray, List.getElem_toArray, List.getElem_cons_zero, execOp, Sem.run_pure]; rfl) ?_)))
      show Code.wp P Code.ret _ { tmps := #[.slice none n c, undef, .slice none 0 0, .slice none n c, .bool true, undef, undef, undef], defers := [] } w
      refine wp_ret ⟨rfl, .slice none 0 0, ?_, ?_⟩
      · simp [results, hr]
      · have hl0 : l = [] := by
          cases hv with
          | sl0 => rfl
        subst hl0
        obtain ⟨p1, p2, p3⟩ := push_nil hm i.size
        exact ⟨_, _, rfl, p1, fun j hj => by simp at hj, .osl0 p3, by simp⟩
    | some ad =>
      refine wp_skip ?_
      show Code.wp P ((cl3 t).seq Code.ret) _ { tmps := #[.slice (some ad) n c, undef, .slice none 0 0, .slice (some ad) n c, .bool false, undef, undef, undef], defers := [] } w
      let cx0 : Cx := ⟨T, fun _ => false, fun _ _ _ => none⟩
      have hK : KOK P cx0.K := fun f args los los' r h => by cases h
      have hinv : Inv ⟨w.heap.size, A, L, w⟩ g 0 8 [(0, .sl i.size l)] [] { tmps := #[.slice (some ad) n c, undef, .slice none 0 0, .slice (some ad) n c, .bool false, undef, undef, undef], defers := [] } w := by
        refine ⟨g, hm, fun t' => ?_, Nat.le_refl _, rfl, Nat.le_refl _, fun j hj => by omega⟩
        simp only [look]
        split
        · rename_i h0
          obtain rfl := Nat.eq_of_beq_eq_true h0
          rcases hc1 with rfl | rfl
          · exact nil_any hv
          · exact hv
        · exact .dead
      have hex : exec cx0 0 0 ⟨8, fun _ => ⟨false, []⟩, fun _ => none, fun _ => none⟩ ((cl3 t).seq .ret) [(0, .sl i.size l)] [] (kEnd T [] 0 [.tmp 2]) = some (.osl 0, [.arr false i.size l]) := by
        have hb1 : buildSliceO T [] t 0 [] = some (.osl 0, [.arr false i.size []]) := by simp [buildSliceO, pzS, hpz, buildSliceS, hu, hi, pureL]
        have hb2 : appendS T [.arr false i.size []] t t (.osl 0) (.sl i.size l) = some (.osl 1, [.dead, .arr false i.size l]) := by
          have h2 : i.bytes * l.length ≤ 140737488355328 := hc2
          simp [appendS, hu, hi, elems, h2, hc3]
        have hb3 : retV T 0 [.dead, .arr false i.size l] (some [.osl 1]) = some (.osl 0, [.arr false i.size l]) := by
          simp [retV, fixVs, fixV, fixCell, reach, ids2, ids1, okKeep, nodupB, SO.ids, gcO, SO.ren, SO.own, SO.fine, ren2, ren1, ren0, place]
        have e0 : exec cx0 0 0 ⟨8, fun _ => ⟨false, []⟩, fun _ => none, fun _ => none⟩ ((cl3 t).seq .ret) [(0, .sl i.size l)] [] (kEnd T [] 0 [.tmp 2]) =
          Option.bind (buildSliceO T [] t 0 []) fun r1 => Option.bind (appendS T r1.2 t t r1.1 (.sl i.size l)) fun r2 => retV T 0 r2.2 (some [r2.1]) := rfl
        rw [e0, hb1]
        show (Option.bind (appendS T [.arr false i.size []] t t (.osl 0) (.sl i.size l)) fun r2 => retV T 0 r2.2 (some [r2.1])) = _
        rw [hb2]
        exact hb3
      refine wp_mono (exec_sound (c := cx0) (ops_ok hT hK) (draw_ok (ops_ok hT hK) hmix) gc_ok _ _ _ _ _ _ hinv hex) ?_
      intro e' a' w' hq
      obtain ⟨env, os, ⟨g1, m, hs, ht, hd, hl, h0⟩, hk⟩ := hq
      have fin : retS T [] 0 fn.results.toList env os = some (.osl 0, [.arr false i.size l]) → a'.defers = [] ∧ ∃ v, (results fn a'.tmps).run P w' = .ok v w' ∧
          ∃ v' g', Ending.returned v = .returned v' ∧ Mem ⟨w.heap.size, A, L, w⟩ [.arr false i.size l] g' w' ∧ (∀ j, j < ([] : List SO).length → g j ≠ .no → g' j = g j) ∧ RepV w' (Bk ⟨w.heap.size, A, L, w⟩ [.arr false i.size l] g' w') g' (.osl 0) v' ∧ ([] : List SO).length ≤ [SO.arr false i.size l].length := by
        intro hk
        obtain ⟨v, g', r1, r2, r3, r4, r5⟩ := ret_rep hT m hs hk
        exact ⟨hd, v, r1, v, g', rfl, r2, fun j hj => by simp at hj, r4, by simp⟩
      have hrl : fn.results.toList = [.tmp 2] := by rw [hr]
      cases e' with
      | normal => exact fin (by rw [hrl]; exact hk)
      | ret => exact fin (by rw [hrl]; exact hk)
      | exit id => simp [kEnd] at hk
      | goto l => exact hk.elim
      | panic ch => exact hk.elim
      | outgrown => exact hk.elim
  cases hv with
  | sl0 => exact key _ _ _ rfl rfl
  | sl h1 h2 h3 h4 h5 h6 => exact key _ _ _ rfl rfl
end Go.Proofs.Ytikennabfbkdhaa
