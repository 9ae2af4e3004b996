/- The evaluator S: slices.Clone, once for all types. -/
import Derived.Test.YtjfegdlgepbjoaaSz
import Derived.Laws.Cover3
namespace Go.Proofs.Ytjfegdlgepbjoaa
open Go
set_option linter.unusedVariables false
set_option linter.unusedSimpArgs false
variable {P : Program} {T : Tab}

def cl0 (t : Nat) : Code := .region 0 #[{ dst := some 2, op := .assign (.const (.slice none 0 0)), type := t, pos := "slices.go:355", after := #[], guard := none }] false
def cl1 (t b : Nat) : Code := .region 1 #[{ dst := some 3, op := .move (.tmp 0), type := t, pos := "slices.go:357", after := #[], guard := none },
  { dst := some 4, op := .binOp .eql t (.tmp 3) (.const (.slice none 0 0)) t, type := b, pos := "slices.go:357", after := #[{ on := 0, ground := .data }], guard := none }] false
def cl2 (t : Nat) : Code := .region 2 #[{ dst := some 2, op := .assign (.const (.slice none 0 0)), type := t, pos := "slices.go:358", after := #[], guard := none }] false
def cl3 (t : Nat) : Code := .region 3 #[{ dst := some 5, op := .buildSlice t 0 #[], type := t, pos := "slices.go:362", after := #[], guard := none },
  { dst := some 6, op := .move (.tmp 0), type := t, pos := "slices.go:362", after := #[], guard := none },
  { dst := some 7, op := .call { callee := .builtin .append, args := #[.tmp 5, .tmp 6], argTypes := #[t, t] }, type := t, pos := "slices.go:362",
    after := #[{ on := 0, ground := .data }, { on := 1, ground := .data }], guard := none },
  { dst := some 2, op := .assign (.tmp 7), type := t, pos := "slices.go:362",
    after := #[{ on := 2, ground := .data }, { on := 2, ground := .chain }, { on := 0, ground := .phase }, { on := 1, ground := .phase }, { on := 2, ground := .phase }], guard := none }] false

def cloneC (t b : Nat) : Code := (cl0 t).seq (((cl1 t b).seq (.cond (.tmp 4) ((cl2 t).seq .ret) .skip)).seq ((cl3 t).seq .ret))

theorem wp_val {o : Oper} {a : Act} {w w' : World} {v : Value} {next : Act → World → Prop} {Q : Exit → Act → World → Prop} (h : (execOp a.eval o).run P w = .ok (.value v) w') (hn : next (a.put o.dst v) w') : o.wp P a w next Q := by
  unfold Oper.wp
  rw [h]
  exact hn

theorem nil_any {w : World} {B : Nat → Prop} {g : Nat → Gh} {s s' : Nat} {v : Value} (h : RepV w B g (.sl s []) v) : RepV w B g (.sl s' []) v := by
  generalize hx : SV.sl s [] = x at h
  cases h <;> cases hx
  · exact .sl0
  · exact .sl0

theorem clone_ok (hT : TabOk P T) {f t e b : Nat} {fn : Func} {i : TI} (hf : P.funcs[f]? = some fn) (hn : (fn.name == "runtime.NumGoroutine") = false) (hb : fn.body = some (cloneC t b)) (hr : fn.results = #[.tmp 2]) (hnt : fn.ntmps = 8)
    (hu : T.und t = some (.slice e)) (hi : T.ti e = some i) (hmix : P.follows .mixedOrders = true) : KOK1 P f (cloneS i.size i.bytes) := by
  intro args los los' r h
  refine ⟨⟨fn, _, hf, hn, hb⟩, ?_⟩
  unfold cloneS at h
  split at h
  rotate_left
  · cases h
  rename_i s l
  split at h
  rotate_left
  · cases h
  rename_i hc
  obtain ⟨hc1, hc2, hc3⟩ := hc
  cases h
  intro A L g vals w hL hm ha
  obtain ⟨v, vs', rfl, hv, h2⟩ := ha.uncons
  obtain rfl : vs' = [] := by have := h2.1; cases vs' <;> simp at this ⊢
  have hund := hT.slice t e hu
  -- the two endings
  have key : ∀ (a : Option Addr) (n c : Nat), v = .slice a n c → l.length = n → Calls P f [v].toArray w fun e w' => ∃ v g', e = .returned v ∧ Mem ⟨w.heap.size, A, L, w⟩ [.arr false i.size l] g' w' ∧ (∀ j, j < ([] : List SO).length → g j ≠ .no → g' j = g j) ∧
        RepV w' (Bk ⟨w.heap.size, A, L, w⟩ [.arr false i.size l] g' w') g' (.osl 0) v ∧ ([] : List SO).length ≤ [SO.arr false i.size l].length := by
    intro a n c hvn hln
    subst hvn
    refine calls_of_wp hf hb ?_
    simp only [cloneC, hnt]
    refine wp_seq (wp_region ?_)
    simp only [cl0, List.size_toArray, List.length_cons, List.length_nil, List.range, List.range.loop, wpOps, List.getElem?_toArray, List.getElem?_cons_zero, Region.wanted, if_true, Oper.wp, execOp, Oper.upon, Sem.run_pure]
    refine .inl ?_
    simp only [Exit.then]
    have e1 : ({ tmps := #[Value.slice a n c] ++ Array.replicate (8 - (0 + 1)) undef, defers := [] } : Act).put (some 2) (.slice none 0 0) = { tmps := #[.slice a n c, undef, .slice none 0 0, undef, undef, undef, undef, undef], defers := [] } := rfl
    have e0 : ({ tmps := #[Value.slice a n c] ++ Array.replicate (8 - (0 + 1)) undef, defers := [] } : Act).eval (Operand.const (Value.slice none 0 0)) = .slice none 0 0 := rfl
    have e2 : ([Value.slice a n c].toArray ++ Array.replicate (8 - [Value.slice a n c].toArray.size) undef) = #[Value.slice a n c] ++ Array.replicate (8 - (0 + 1)) undef := rfl
    rw [e0, e1]
    refine wp_seq (wp_seq (wp_region ?_))
    have hbin : (binOp .eql t (.slice a n c) (.slice none 0 0)).run P w = .ok (.bool a.isNone) w := by
      simp [binOp, run_equal_slice_nil w t e a n c hund]
    have hgd : (eqGuard .eql t (.tmp 3) (.const (.slice none 0 0)) (.slice a n c) (.slice none 0 0)).run P w = .ok () w := by
      simp [eqGuard, hund]
    refine .inl (wp_val (v := .slice a n c) (w' := w) (by simp only [List.getElem?_toArray, List.getElem_toArray, List.getElem_cons_zero, execOp, Sem.run_pure]; rfl) ?_)
    show wpOps P _ _ [1] { tmps := #[.slice a n c, undef, .slice none 0 0, .slice a n c, undef, undef, undef, undef], defers := [] } w
    refine .inl (wp_val (v := .bool a.isNone) (w' := w) ?_ ?_)
    · have ev3 : ({ tmps := #[.slice a n c, undef, .slice none 0 0, .slice a n c, undef, undef, undef, undef], defers := [] } : Act).eval (.tmp 3) = .slice a n c := rfl
      have evc : ({ tmps := #[.slice a n c, undef, .slice none 0 0, .slice a n c, undef, undef, undef, undef], defers := [] } : Act).eval (.const (.slice none 0 0)) = .slice none 0 0 := rfl
      show (execOp _ { dst := some 4, op := .binOp .eql t (.tmp 3) (.const (.slice none 0 0)) t, type := b, pos := "slices.go:357", after := #[{ on := 0, ground := .data }], guard := none }).run P w = _
      simp only [execOp, ev3, evc, Sem.run_bind, hgd, Result.andThen_ok, hbin, Sem.run_pure]
    show Code.wp P (Code.cond (Operand.tmp 4) ((cl2 t).seq Code.ret) Code.skip) _ { tmps := #[.slice a n c, undef, .slice none 0 0, .slice a n c, .bool a.isNone, undef, undef, undef], defers := [] } w
    refine wp_cond (t := a.isNone) rfl ?_
    cases a with
    | none =>
      -- nil: nil comes back
      refine wp_seq (wp_region (.inl (wp_val (v := .slice none 0 0) (w' := w) (by simp only [List.getElem?_toArray, List.getElem_toArray, List.getElem_cons_zero, execOp, Sem.run_pure]; rfl) ?_)))
      show Code.wp P Code.ret _ { tmps := #[.slice none n c, undef, .slice none 0 0, .slice none n c, .bool true, undef, undef, undef], defers := [] } w
      refine wp_ret ⟨rfl, .slice none 0 0, ?_, ?_⟩
      · simp [results, hr]
      · have hl0 : l = [] := by
          cases hv with
          | sl0 => rfl
        subst hl0
        obtain ⟨p1, p2, p3⟩ := push_nil hm i.size
        exact ⟨_, _, rfl, p1, fun j hj => by simp at hj, .osl0 p3, by simp⟩
    | some ad =>
      refine wp_skip ?_
      show Code.wp P ((cl3 t).seq Code.ret) _ { tmps := #[.slice (some ad) n c, undef, .slice none 0 0, .slice (some ad) n c, .bool false, undef, undef, undef], defers := [] } w
      -- behind it S goes on by itself
      let cx0 : Cx := ⟨T, fun _ => false, fun _ _ _ => none⟩
      have hK : KOK P cx0.K := fun f args los los' r h => by cases h
      have hinv : Inv ⟨w.heap.size, A, L, w⟩ g 0 8 [(0, .sl i.size l)] [] { tmps := #[.slice (some ad) n c, undef, .slice none 0 0, .slice (some ad) n c, .bool false, undef, undef, undef], defers := [] } w := by
        refine ⟨g, hm, fun t' => ?_, Nat.le_refl _, rfl, Nat.le_refl _, fun j hj => by omega⟩
        simp only [look]
        split
        · rename_i h0
          obtain rfl := Nat.eq_of_beq_eq_true h0
          rcases hc1 with rfl | rfl
          · exact nil_any hv
          · exact hv
        · exact .dead
      have hex : exec cx0 0 0 ⟨8, fun _ => ⟨false, []⟩, fun _ => none, fun _ => none⟩ ((cl3 t).seq .ret) [(0, .sl i.size l)] [] (kEnd T 0 [.tmp 2]) = some (.osl 0, [.arr false i.size l]) := by
        have hb1 : buildSliceS T [] t 0 [] = some (.osl 0, [.arr false i.size []]) := by simp [buildSliceS, hu, hi, pureL]
        have hb2 : appendS T [.arr false i.size []] t t (.osl 0) (.sl i.size l) = some (.osl 1, [.dead, .arr false i.size l]) := by
          have h2 : i.bytes * l.length ≤ 140737488355328 := hc2
          simp [appendS, hu, hi, elems, h2, hc3]
        have hb3 : retV T 0 [.dead, .arr false i.size l] (some [.osl 1]) = some (.osl 0, [.arr false i.size l]) := by
          simp [retV, fixVs, fixV, fixCell, reach, ids2, ids1, okKeep, nodupB, SO.ids, gcO, SO.ren, SO.own, ren2, ren1, ren0, place]
        have e0 : exec cx0 0 0 ⟨8, fun _ => ⟨false, []⟩, fun _ => none, fun _ => none⟩ ((cl3 t).seq .ret) [(0, .sl i.size l)] [] (kEnd T 0 [.tmp 2]) =
          Option.bind (buildSliceS T [] t 0 []) fun r1 => Option.bind (appendS T r1.2 t t r1.1 (.sl i.size l)) fun r2 => retV T 0 r2.2 (some [r2.1]) := rfl
        rw [e0, hb1]
        show (Option.bind (appendS T [.arr false i.size []] t t (.osl 0) (.sl i.size l)) fun r2 => retV T 0 r2.2 (some [r2.1])) = _
        rw [hb2]
        exact hb3
      refine wp_mono (exec_sound (c := cx0) (ops_ok hT hK) (draw_ok (ops_ok hT hK) hmix) gc_ok _ _ _ _ _ _ hinv hex) ?_
      intro e' a' w' hq
      obtain ⟨env, os, ⟨g1, m, hs, ht, hd, hl, h0⟩, hk⟩ := hq
      have fin : retS T 0 fn.results.toList env os = some (.osl 0, [.arr false i.size l]) → a'.defers = [] ∧ ∃ v, (results fn a'.tmps).run P w' = .ok v w' ∧
          ∃ v' g', Ending.returned v = .returned v' ∧ Mem ⟨w.heap.size, A, L, w⟩ [.arr false i.size l] g' w' ∧ (∀ j, j < ([] : List SO).length → g j ≠ .no → g' j = g j) ∧ RepV w' (Bk ⟨w.heap.size, A, L, w⟩ [.arr false i.size l] g' w') g' (.osl 0) v' ∧ ([] : List SO).length ≤ [SO.arr false i.size l].length := by
        intro hk
        obtain ⟨v, g', r1, r2, r3, r4, r5⟩ := ret_rep hT m hs hk
        exact ⟨hd, v, r1, v, g', rfl, r2, fun j hj => by simp at hj, r4, by simp⟩
      have hrl : fn.results.toList = [.tmp 2] := by rw [hr]
      cases e' with
      | normal => exact fin (by rw [hrl]; exact hk)
      | ret => exact fin (by rw [hrl]; exact hk)
      | exit id => simp [kEnd] at hk
      | goto l => exact hk.elim
      | panic ch => exact hk.elim
      | outgrown => exact hk.elim
  cases hv with
  | sl0 => exact key _ _ _ rfl rfl
  | sl h1 h2 h3 h4 h5 h6 => exact key _ _ _ rfl rfl

end Go.Proofs.Ytjfegdlgepbjoaa
