/- The evaluator S and what it says of functions: Sv, Sw, Sx, Sy, St, Sz, Te. -/
import Derived.Test.YtfjbclgbpdlkgaaSu
import Derived.Laws.StructEq
import Derived.KernelRfl
import Derived.Test.YtfjbclgbpdlkgaaSf
/- The evaluator S: regions whose order is drawn. What is kept beside a read; the static check. -/
namespace Go.Proofs.Ytfjbclgbpdlkgaa
open Go
set_option linter.unusedVariables false
set_option linter.unusedSimpArgs false
variable {P : Program} {T : Tab}
def kn (q : Nat) (os os1 : List SO) : Prop := os.length ≤ os1.length ∧ (q < os.length → ∀ l, os[q]? = some (.box l) ↔ os1[q]? = some (.box l))
theorem kn.refl (q : Nat) (os : List SO) : kn q os os := ⟨Nat.le_refl _, fun _ _ => Iff.rfl⟩
theorem kn.trans {q : Nat} {os os1 os2 : List SO} (h : kn q os os1) (h' : kn q os1 os2) : kn q os os2 :=
  ⟨Nat.le_trans h.1 h'.1, fun hq l => (h.2 hq l).trans (h'.2 (Nat.lt_of_lt_of_le hq h.1) l)⟩
theorem kn.app (q : Nat) (os r : List SO) : kn q os (os ++ r) :=
  ⟨by simp, fun hq l => by rw [List.getElem?_append_left hq]⟩
theorem QO {q ty : Nat} {os os' : List SO} {x : Option SV} {y : SV} (h : evN T ty os x = some (y, os')) : kn q os os' := by
  unfold evN at h
  split at h
  · split at h
    · split at h
      · obtain ⟨_, rfl⟩ := Prod.mk.inj (Option.some.inj h); exact kn.app _ _ _
      · simp at h
    · simp at h
  · obtain ⟨_, rfl⟩ := Prod.mk.inj (Option.some.inj h); exact kn.refl _ _
theorem wb {q : Nat} : ∀ (z : List ZK) (os : List SO), kn q os (xF z os).2
  | [], os => kn.refl _ _
  | .sl sz :: zs, os => by
    simp only [xF]
    exact (kn.app _ _ _).trans (wb zs (os ++ [.arr false sz []]))
  | .int _ :: zs, os => wb zs os
  | .bool :: zs, os => wb zs os
  | .str :: zs, os => wb zs os
  | .fn :: zs, os => wb zs os
  | .ptr :: zs, os => wb zs os
theorem K4 {q j sz : Nat} {os : List SO} {l : List SV} {b : Bool} (hj : os[j]? = some (.arr b sz l)) : kn q os (os.set j (.frz sz l)) := by
  refine ⟨by simp, fun hq l' => ?_⟩
  rw [List.getElem?_set]
  by_cases e : j = q
  · subst e
    rw [if_pos rfl, hj]
    split <;> simp
  · rw [if_neg e]
theorem ju {q : Nat} {os os1 : List SO} {x y : SV} (h : km os x = some (y, os1)) : kn q os os1 := by
  unfold km at h
  split at h
  · cases h; exact kn.refl _ _
  · cases h; exact kn.refl _ _
  · split at h
    · rename_i hj; cases h; exact K4 hj
    · cases h; exact kn.refl _ _
    · cases h
  · split at h
    · rename_i hj
      split at h
      · cases h; exact K4 hj
      · cases h
    · split at h
      · cases h; exact kn.refl _ _
      · cases h
    · cases h
  · cases h
theorem xK {q : Nat} : ∀ {l : List SV} {os os1 : List SO} {ys : List SV}, z8 l os = some (ys, os1) → kn q os os1
  | [], _, _, _, h => by simp [z8] at h; rw [h.2]; exact kn.refl _ _
  | x :: xs, os, os1, ys, h => by
    simp only [z8] at h
    split at h
    · rename_i y os2 hy
      split at h
      · rename_i ys' os3 hys
        cases h
        exact (ju hy).trans (xK hys)
      · cases h
    · cases h
theorem qaM {q : Nat} {os os1 : List SO} {x y : SV} (h : YW os x = some (y, os1)) : kn q os os1 := by
  unfold YW at h
  split at h
  · split at h
    · rename_i hys; cases h; exact xK hys
    · cases h
  · exact ju h
theorem Z7 {q : Nat} : ∀ {l : List SV} {os os1 : List SO} {ys : List SV}, QD l os = some (ys, os1) → kn q os os1
  | [], _, _, _, h => by simp [QD] at h; rw [h.2]; exact kn.refl _ _
  | x :: xs, os, os1, ys, h => by
    simp only [QD] at h
    split at h
    · rename_i y os2 hy
      split at h
      · rename_i ys' os3 hys
        cases h
        exact (qaM hy).trans (Z7 hys)
      · cases h
    · cases h
theorem Zf {q : Nat} {fs : List (Nat × Nat)} : ∀ {ps : List (Nat × Option SV)} {os os1 : List SO} {r : List (Nat × SV)}, xb T fs ps os = some (r, os1) → kn q os os1
  | [], _, _, _, h => by simp [xb] at h; rw [h.2]; exact kn.refl _ _
  | (f, x) :: ps, os, os1, r, h => by
    simp only [xb] at h
    split at h
    · split at h
      · rename_i hy
        split at h
        · split at h
          · rename_i hps
            cases h
            exact (QO hy).trans (Zf hps)
          · cases h
        · cases h
      · cases h
    · cases h
theorem Y5 {q : Nat} : ∀ (js : List Nat) {os os1 : List SO}, freeze js os = some os1 → kn q os os1 := by
  intro js
  induction js with
  | nil => intro os os1 h; simp only [freeze, Option.some.injEq] at h; subst h; exact kn.refl _ _
  | cons j js ih =>
    intro os os1 h
    simp only [freeze] at h
    split at h
    · rename_i hj; exact (K4 hj).trans (ih h)
    · exact ih h
    · cases h
def Y6 (c : Cx) (os : List SO) (f : SV) (args : List SV) : List Nat :=
  match f with
  | .fn g caps => jh os 100 (xR c.own g (args ++ caps)) []
  | _ => []
theorem qc0 {nl : Nat} {l keep : List Nat} (h : yz nl l = some keep) : keep = l := by
  unfold yz at h
  split at h
  · exact (Option.some.inj h).symm
  · cases h
theorem Y7 {c : Cx} {q : Nat} {os os1 : List SO} {f : SV} {args : List SV} {y : SV} (h : wJ c os f args = some (y, os1)) (hq : q ∉ Y6 c os f args) : kn q os os1 := by
  unfold wJ at h
  split at h
  rotate_left
  · cases h
  unfold Y6 at hq
  unfold qn at h
  split at h
  · simp at h
  rename_i keep hkeep
  obtain ⟨hn, -, -⟩ := jt hkeep
  simp only at hq
  have hk := qc0 hkeep
  rw [← hk] at hq
  split at h
  · simp at h
  split at h
  rotate_left
  · simp at h
  split at h
  · simp at h
  rename_i r los hcall
  split at h
  · simp at h
  rename_i os0 hfrz
  split at h
  · simp at h
  rename_i os1' hgb
  split at h
  rotate_left
  · simp at h
  cases h
  have h0 : kn q os os0 := by
    split at hfrz
    · exact Y5 _ hfrz
    · cases hfrz; exact kn.refl _ _
  obtain ⟨b1, b2, -⟩ := xT _ keep los os0 os1' hn hgb
  have h1 : kn q os0 os1' := ⟨by rw [b1]; exact Nat.le_refl _, fun _ l => by
    rw [b2 q fun i hi => hq (List.mem_of_getElem? hi)]⟩
  exact (h0.trans h1).trans (kn.app _ _ _)
theorem qgf {c : Cx} {q : Nat} {env : Env} {os os1 : List SO} {o : Oper} {x : SV} (hc : cls c.T o.op = .ext) (h : opS c env os o = some (x, os1)) : kn q os os1 := by
  obtain ⟨dst, op, type, pos, after, guard⟩ := o
  cases op <;> simp only [opS] at h
  case move y => exact QO h
  case assign y => exact QO h
  case alloc t =>
    unfold qD at h
    split at h
    · cases h; exact (wb _ _).trans (kn.app _ _ _)
    · cases h
  case box t y =>
    unfold wt at h
    split at h
    · rename_i hy
      split at h
      · cases h; exact (QO hy).trans (kn.app _ _ _)
      · cases h
    · cases h
  case build t ps =>
    unfold zL at h
    split at h
    · split at h
      · split at h
        · rename_i hp
          simp only at h
          split at h
          · cases h; exact (Zf hp).trans (wb _ _)
          · cases h
        · cases h
      · cases h
    · cases h
  case buildSlice t n ps =>
    unfold qv at h
    split at h
    · split at h
      · split at h
        · split at h
          · rename_i hp
            split at h
            · cases h; exact (Z7 hp).trans (kn.app _ _ _)
            · cases h
          · cases h
        · cases h
      · cases h
    · cases h
  case convert s d y => simp only [cls] at hc; split at hc <;> cases hc
  case call cl =>
    obtain ⟨callee, args, ats⟩ := cl
    cases callee with
    | builtin b => cases b <;> simp [cls] at hc
    | value f => simp [cls] at hc
    | invoke r m => simp [cls] at hc
  all_goals first | (simp [cls] at hc; done) | (cases h; done)
theorem qc1 {c : Cx} {env : Env} {os os1 : List SO} {o : Oper} {x : SV} (hc : cls c.T o.op = .rd ∨ cls c.T o.op = .ld) (h : opS c env os o = some (x, os1)) : os1 = os := by
  obtain ⟨dst, op, type, pos, after, guard⟩ := o
  cases op <;> simp only [opS] at h
  case move y => unfold cls at hc; rcases hc with hc | hc <;> (split at hc <;> first | (cases hc; done) | (rename_i e; cases e; done))
  case assign y => unfold cls at hc; rcases hc with hc | hc <;> (split at hc <;> first | (cases hc; done) | (rename_i e; cases e; done))
  case load t y => exact (kq h).2
  case indexAddr t y z => exact (kq h).2
  case slice t y lo hi mx =>
    cases mx with
    | none => exact (kq h).2
    | some m =>
      cases lo with
      | some l => cases h
      | none =>
        cases hi with
        | none => cases h
        | some z => exact (kq h).2
  case convert s d y => simp only [cls] at hc; split at hc <;> simp at hc
  case call cl =>
    obtain ⟨callee, args, ats⟩ := cl
    cases callee with
    | builtin b =>
      cases b <;> simp [cls] at hc
      simp only at h
      split at h
      · unfold xx at h
        split at h
        · unfold ze at h
          split at h
          · cases h; rfl
          · cases h
        all_goals first | (rename_i e1 _; cases e1; done) | (cases h; done)
      · cases h
    | value f => simp [cls] at hc
    | invoke r m => simp [cls] at hc
  all_goals first | (simp [cls] at hc; done) | (cases h; done)
theorem jv {f : Nat → Oper → Bool} : ∀ {l : List Oper} {k : Nat}, qiL f k l = true → ∀ i o, l[i]? = some o → f (k + i) o = true
  | [], _, _, i, o, h => by simp at h
  | x :: xs, k, h, i, o, hi => by
    simp only [qiL, Bool.and_eq_true] at h
    cases i with
    | zero => simp at hi; subst hi; exact h.1
    | succ i =>
      have := jv h.2 i o (by simpa using hi)
      rw [show k + (i + 1) = k + 1 + i by omega]; exact this
theorem qgg {acc : List Nat} {e : Nat} : ∀ (l : List Nat) (m : Nat), (l.foldl (fun m e => m ||| (1 <<< e ||| acc.getD e 0)) m).testBit e = true →
    m.testBit e = true ∨ ∃ e1, e1 ∈ l ∧ (e1 = e ∨ (acc.getD e1 0).testBit e = true) := by
  intro l
  induction l with
  | nil => intro m h; exact .inl h
  | cons x xs ih =>
    intro m h
    simp only [List.foldl_cons] at h
    rcases ih _ h with h | ⟨e1, h1, h2⟩
    · rw [Nat.testBit_or, Nat.testBit_or] at h
      simp only [Bool.or_eq_true] at h
      rcases h with h | h | h
      · exact .inl h
      · refine .inr ⟨x, by simp, .inl ?_⟩
        rw [Nat.testBit_shiftLeft] at h
        simp at h
        obtain ⟨h1, h2⟩ := h
        have : e - x = 0 := by
          by_cases h0 : e - x = 0
          · exact h0
          · have := Nat.testBit_one_eq_true_iff_self_eq_zero.1 h2
            omega
        omega
      · exact .inr ⟨x, by simp, .inr h⟩
    · exact .inr ⟨e1, by simp [h1], h2⟩
theorem JD {D : Nat → Prop} {ops : List Oper} (hD : ∀ j o, ops[j]? = some o → D j → ∀ e, e ∈ wg o → D e) : ∀ (os : List Oper) (acc : List Nat), ops.drop acc.length = os →
    (∀ j, D j → ∀ e, (acc.getD j 0).testBit e = true → D e) → ∀ j, D j → ∀ e, ((qaz acc os).getD j 0).testBit e = true → D e := by
  intro os
  induction os with
  | nil => intro acc _ h; exact h
  | cons o os ih =>
    intro acc hd h
    simp only [qaz]
    refine ih _ ?_ ?_
    · rw [List.length_append, List.length_singleton, ← List.drop_drop, hd]; rfl
    · intro j hj e he
      rcases Nat.lt_or_ge j acc.length with hlt | hge
      · refine h j hj e ?_
        rw [List.getD_eq_getElem?_getD, List.getElem?_append_left hlt] at he
        rw [List.getD_eq_getElem?_getD]; exact he
      · rw [List.getD_eq_getElem?_getD, List.getElem?_append_right hge] at he
        cases hk : j - acc.length with
        | succ k => rw [hk] at he; simp at he
        | zero =>
          rw [hk] at he
          simp only [List.getElem?_cons_zero, Option.getD_some] at he
          have hjl : j = acc.length := by omega
          subst hjl
          have ho : ops[acc.length]? = some o := by
            have := congrArg List.head? hd
            simpa [List.head?_drop] using this
          rcases qgg _ _ he with h0 | ⟨e1, h1, h2⟩
          · simp at h0
          · have hde := hD _ o ho hj e1 h1
            rcases h2 with rfl | h2
            · exact hde
            · exact h e1 hde e h2
structure Drawn (T : Tab) (ops : List Oper) (ms : List Nat) : Prop where
  low : ∀ (j : Nat) (o : Oper), ops[j]? = some o → ∀ e, e ∈ wg o → e < j
  one : ∀ (i j : Nat) (q o : Oper) (s : Nat), ops[i]? = some q → ops[j]? = some o → q.dst = some s → o.dst = some s → i = j
  data : ∀ (i j : Nat) (q o : Oper) (s : Nat), ops[i]? = some q → ops[j]? = some o → q.dst = some s → s ∈ wD ops o → (i < j ∧ qco ms i j = true) ∨ (j < i ∧ qco ms j i = true ∧ (cls T o.op).notLd = true)
  pair : ∀ (i j : Nat) (q o : Oper), ops[i]? = some q → ops[j]? = some o → yr ms i j = true → Jt (cls T q.op) (cls T o.op) = true
theorem JE {ops : List Oper} {ms : List Nat} (h : qct T ops ms = true) : Drawn T ops ms := by
  unfold qct at h
  have H : ∀ j o, ops[j]? = some o → (wg o).all (fun e => Nat.blt e j) = true ∧ qiL (jS T ops ms j o) 0 ops = true := fun j o ho => by
    have := jv h j o ho
    simp only [Nat.zero_add, Bool.and_eq_true] at this
    exact this
  have H2 : ∀ i j q o, ops[i]? = some q → ops[j]? = some o → jS T ops ms j o i q = true := fun i j q o hi hj => by
    have := jv (H j o hj).2 i q hi
    simpa using this
  refine ⟨fun j o ho e he => ?_, fun i j q o s hi hj hs ht => ?_, fun i j q o s hi hj hs ht => ?_, fun i j q o hi hj hu => ?_⟩
  · have := List.all_eq_true.1 (H j o ho).1 e he
    simpa using this
  · have := H2 i j q o hi hj
    unfold jS at this
    simp only [Bool.and_eq_true] at this
    have h1 := this.1.1
    simp only [hs, ht] at h1
    simpa using h1
  · have := H2 i j q o hi hj
    unfold jS at this
    simp only [Bool.and_eq_true] at this
    have h1 := this.1.2
    simp only [hs] at h1
    have hc : (wD ops o).contains s = true := by simpa using ht
    simp only [hc, Bool.not_true, Bool.false_or, Bool.or_eq_true, Bool.and_eq_true, Nat.blt_eq] at h1
    exact h1.imp id fun h => ⟨h.1.1, h.1.2, h.2⟩
  · have := H2 i j q o hi hj
    unfold jS at this
    simp only [Bool.and_eq_true, hu] at this
    simpa using this.2
theorem K5 {ms : List Nat} {i j : Nat} (h : i < j) (hu : yr ms i j = false) : qco ms i j = true := by
  unfold yr at hu
  simp only [Bool.or_eq_false_iff] at hu
  have := hu.1
  have hb : Nat.blt i j = true := by simpa using h
  rw [hb] at this
  simpa using this
theorem Z8 {ms : List Nat} {i j : Nat} : yr ms i j = yr ms j i := by
  unfold yr; rw [Bool.or_comm]
end Go.Proofs.Ytfjbclgbpdlkgaa

/- The evaluator S: regions whose order is drawn are sound. -/
namespace Go.Proofs.Ytfjbclgbpdlkgaa
open Go
set_option linter.unusedVariables false
set_option linter.unusedSimpArgs false
variable {P : Program} {T : Tab}
def qgh (c : Cx) (ops : List Oper) (ms : List Nat) (j : Nat) (env : Env) (os : List SO) (o : Oper) : Prop :=
  (∀ t p, o.op = .load t p → anyU c.T ms j 0 ops = true → zv (ev env p) = true) ∧
  (∀ f args ts, o.op = .call { callee := .value f, args := args, argTypes := ts } → y4 c.T ms j 0 ops ≠ [] →
    zy c os (ev env f) ((args.toList.zip ts.toList).map (YV c.T env)) (((y4 c.T ms j 0 ops).filter fun p => Nat.blt p.1 j).map fun p => ev env p.2) ((y4 c.T ms j 0 ops).any fun p => Nat.blt j p.1) = true)
theorem WX {b : Bool} {x : Out} {y : SV × List SO} (h : zQ b x = some y) : b = true ∧ x = some y := by
  cases b
  · cases h
  · exact ⟨rfl, h⟩
theorem qc2 {c : Cx} {ops : List Oper} {ms : List Nat} {j : Nat} {env : Env} {os : List SO} {o : Oper} {x : Out} {y : SV × List SO} (h : chkD c ops ms j env os o x = some y) :
    x = some y ∧ qgh c ops ms j env os o := by
  unfold chkD at h
  split at h
  · rename_i t p ho
    split at h
    · rename_i hu
      obtain ⟨h1, h2⟩ := WX h
      exact ⟨h2, And.intro (fun t' p' e _ => by rw [ho] at e; cases e; exact h1) (fun f args ts e => by rw [ho] at e; cases e)⟩
    · rename_i hu
      exact ⟨h, And.intro (fun t' p' e hu' => by rw [hu] at hu'; cases hu') (fun f args ts e => by rw [ho] at e; cases e)⟩
  · rename_i f args ts ho
    split at h
    · rename_i hl
      exact ⟨h, And.intro (fun t p e => by rw [ho] at e; cases e) (fun f args ts e hne => absurd hl hne)⟩
    · rename_i l hl
      obtain ⟨h1, h2⟩ := WX h
      exact ⟨h2, And.intro (fun t p e => by rw [ho] at e; cases e) (fun f args ts e _ => by rw [ho] at e; cases e; exact h1)⟩
  · rename_i h1 h2
    exact ⟨h, And.intro (fun t p e => absurd e (h1 t p)) (fun f args ts e => absurd e (h2 f args ts))⟩
structure Tr (c : Cx) (nt : Nat) (ops : List Oper) (ms : List Nat) (lo : Nat) (E : Nat → Env) (O : Nat → List SO) (X : Nat → SV) : Prop where
  step : ∀ (j : Nat) (o : Oper), lo ≤ j → ops[j]? = some o → op1 c ops (E j) (O j) o = some (X j, O (j + 1)) ∧ E (j + 1) = put (E j) o.dst (X j) ∧ jR nt o.dst = true ∧ qgh c ops ms j (E j) (O j) o
theorem qaN {c : Cx} {ops : List Oper} {ms : List Nat} {j : Nat} {env : Env} {os : List SO} {o : Oper} {x : SV} (h : ZZ env o = some x) : qgh c ops ms j env os o := by
  unfold ZZ at h
  split at h
  · cases h
  · split at h
    · rename_i ho; exact And.intro (fun t p e => by rw [ho] at e; cases e) (fun f args ts e => by rw [ho] at e; cases e)
    · rename_i ho; exact And.intro (fun t p e => by rw [ho] at e; cases e) (fun f args ts e => by rw [ho] at e; cases e)
    · rename_i ho; exact And.intro (fun t p e => by rw [ho] at e; cases e) (fun f args ts e => by rw [ho] at e; cases e)
    · cases h
theorem tr_of {c : Cx} {nt : Nat} {ops : List Oper} {ms : List Nat} {k : Env → List SO → Out} {out : SV × List SO} : ∀ (rest : List Oper) (j : Nat) (env : Env) (os : List SO), ops.drop j = rest →
    runD c nt ops ms j rest env os k = some out → ∃ E O X, E j = env ∧ O j = os ∧ Tr c nt ops ms j E O X ∧ k (E (j + rest.length)) (O (j + rest.length)) = some out := by
  intro rest
  induction rest with
  | nil =>
    intro j env os hd h
    refine ⟨fun _ => env, fun _ => os, fun _ => .dead, rfl, rfl, ⟨fun i o hi ho => ?_⟩, h⟩
    have hlen : ops.length ≤ j := by
      have := congrArg List.length hd
      simp at this; omega
    have := q6 ho
    omega
  | cons o rest ih =>
    intro j env os hd h
    have hoi : ops[j]? = some o := by
      have := congrArg List.head? hd
      simpa [List.head?_drop] using this
    have hd' : ops.drop (j + 1) = rest := by rw [← List.drop_drop, hd]; rfl
    have main : ∀ (x : SV) (os1 : List SO), jR nt o.dst = true → op1 c ops env os o = some (x, os1) → qgh c ops ms j env os o → runD c nt ops ms (j + 1) rest (put env o.dst x) os1 k = some out →
        ∃ E O X, E j = env ∧ O j = os ∧ Tr c nt ops ms j E O X ∧ k (E (j + (o :: rest).length)) (O (j + (o :: rest).length)) = some out := by
      intro x os1 hdst hop hchk hk
      obtain ⟨E, O, X, e1, e2, ⟨tr⟩, hf⟩ := ih (j + 1) _ _ hd' hk
      refine ⟨fun i => if i = j then env else E i, fun i => if i = j then os else O i, fun i => if i = j then x else X i, by simp, by simp, ⟨fun i p hi hp => ?_⟩, ?_⟩
      · by_cases e : i = j
        · subst e
          rw [hoi] at hp; obtain rfl := Option.some.inj hp
          simp only [if_true, if_neg (show ¬ i + 1 = i by omega), e1, e2]
          exact ⟨hop, trivial, hdst, hchk⟩
        · simp only [if_neg e, if_neg (show ¬ i + 1 = j by omega)]
          exact tr i p (by omega) hp
      · have e3 : j + (o :: rest).length = j + 1 + rest.length := by simp; omega
        rw [e3]
        simp only [if_neg (show ¬ j + 1 + rest.length = j by omega)]
        exact hf
    simp only [runD] at h
    split at h
    · cases h
    · rename_i hdst
      split at h
      · rename_i x hx
        obtain ⟨hg, hop⟩ := WS (c := c) (os := os) hx
        exact main x os hdst (by unfold op1; rw [hg]; exact hop) (qaN hx) h
      · obtain ⟨h1, hchk⟩ := qc2 h
        obtain ⟨r, hr, hk⟩ := Option.bind_eq_some_iff.1 h1
        obtain ⟨x, os1⟩ := r
        exact main x os1 hdst hr hchk hk
theorem qhX {c : Cx} (hO : WR P c) {ops : Array Oper} {fr : Fr} {os os1 : List SO} {g : Nat → Gh} {w : World} {env : Env} {a : Act} {o : Oper} {x : SV} {j : Nat} {K : Act → World → Prop} {Q : Exit → Act → World → Prop}
    (m : Mem fr os g w) (hs : ws w (Bk fr os g w) g env a.tmps) (hj : ops[j]? = some o) (h : op1 c ops.toList env os o = some (x, os1))
    (hK : ∀ v w', Res fr os g w os1 x v w' → K (a.put o.dst v) w') : os.length ≤ os1.length ∧ wpOp P ops Q j K a w := by
  unfold wpOp
  simp only [hj]
  unfold op1 at h
  split at h
  · rename_i hg
    have hw : Region.wanted o (yielded ops a.tmps) = true := by simp [Region.wanted, hg]
    rw [if_pos hw]
    obtain ⟨hok, hle⟩ := hO fr os os1 g w env a o x m hs h
    exact ⟨hle, .inl (hok _ _ hK)⟩
  · rename_i j' want hg
    unfold gd at h
    split at h
    · rename_i b hb
      have hy := (xy (ops := ops) hs j' (by rw [hb]; simp)).1 b hb
      split at h
      · rename_i e
        have hw : Region.wanted o (yielded ops a.tmps) = true := by simp [Region.wanted, hg, hy, e]
        rw [if_pos hw]
        obtain ⟨hok, hle⟩ := hO fr os os1 g w env a o x m hs h
        exact ⟨hle, .inl (hok _ _ hK)⟩
      · rename_i e
        obtain ⟨rfl, rfl⟩ := Prod.mk.inj (Option.some.inj h)
        have hw : ¬ Region.wanted o (yielded ops a.tmps) = true := by simp [Region.wanted, hg, hy, e]
        rw [if_neg hw]
        exact ⟨Nat.le_refl _, hK _ _ (Res.same m .undef)⟩
    · simp at h
    · rename_i hnb hnd
      obtain ⟨rfl, rfl⟩ := Prod.mk.inj (Option.some.inj h)
      have hy := (xy (ops := ops) hs j' (fun e => hnd e)).2 (fun b e => hnb b e)
      have hw : ¬ Region.wanted o (yielded ops a.tmps) = true := by simp [Region.wanted, hg, hy]
      rw [if_neg hw]
      exact ⟨Nat.le_refl _, hK _ _ (Res.same m .undef)⟩
theorem JF {c : Cx} {ops : List Oper} {env : Env} {os os1 : List SO} {o : Oper} {x : SV} {M : Prop} (h : op1 c ops env os o = some (x, os1)) (hA : opS c env os o = some (x, os1) → M) (hB : os1 = os → M) : M := by
  unfold op1 at h
  split at h
  · exact hA h
  · unfold gd at h
    split at h
    · split at h
      · exact hA h
      · cases h; exact hB rfl
    · cases h
    · cases h; exact hB rfl
theorem JG {c : Cx} {ops : List Oper} {env : Env} {os os1 os2 : List SO} {o : Oper} {x : SV} (h : op1 c ops env os o = some (x, os1)) (hA : opS c env os o = some (x, os1) → os1 = os ∧ opS c env os2 o = some (x, os2)) :
    os1 = os ∧ op1 c ops env os2 o = some (x, os2) := by
  unfold op1 at h ⊢
  split at h
  · rename_i hg; exact hA h
  · rename_i j want hg
    unfold gd at h ⊢
    split at h
    · split at h
      · rename_i e; obtain ⟨h1, h2⟩ := hA h; exact ⟨h1, by rw [if_pos e]; exact h2⟩
      · rename_i e; cases h; exact ⟨rfl, by rw [if_neg e]⟩
    · cases h
    · cases h; exact ⟨rfl, rfl⟩
theorem Z9 {ms : List Nat} {j : Nat} : ∀ {l : List Oper} {k : Nat} {i : Nat} {o : Oper} {t : Nat} {p : Operand}, l[i]? = some o → o.op = .load t p → yr ms (k + i) j = true → (k + i, p) ∈ y4 T ms j k l
  | [], _, i, _, _, _, h, _, _ => by simp at h
  | x :: xs, k, i, o, t, p, h, ho, hu => by
    cases i with
    | zero =>
      simp at h; subst h
      simp only [y4, ho]
      rw [show k + 0 = k from rfl] at hu ⊢
      rw [if_pos hu]; simp
    | succ i =>
      have := Z9 (l := xs) (k := k + 1) (i := i) (by simpa using h) ho (by rw [show k + 1 + i = k + (i + 1) by omega]; exact hu)
      rw [show k + 1 + i = k + (i + 1) by omega] at this
      simp only [y4]
      split
      · split
        · simp [this]
        · exact this
      · exact this
theorem Ka {ms : List Nat} {j : Nat} : ∀ {l : List Oper} {k : Nat}, anyU T ms j k l = false → ∀ {i : Nat} {o : Oper}, l[i]? = some o → (cls T o.op).isE = true → yr ms (k + i) j = false
  | [], _, _, i, _, h, _ => by simp at h
  | x :: xs, k, h, i, o, hi, hE => by
    simp only [anyU, Bool.or_eq_false_iff] at h
    cases i with
    | zero =>
      simp at hi; subst hi
      have := h.1
      rw [hE] at this; simpa using this
    | succ i =>
      have := Ka h.2 (i := i) (by simpa using hi) hE
      rw [show k + (i + 1) = k + 1 + i by omega]; exact this
end Go.Proofs.Ytfjbclgbpdlkgaa

/- The evaluator S: regions whose order is drawn are sound, whatever is drawn. -/
namespace Go.Proofs.Ytfjbclgbpdlkgaa
open Go
set_option linter.unusedVariables false
set_option linter.unusedSimpArgs false
variable {P : Program} {T : Tab}
theorem K6 (env : Env) (d : Option Nat) (x : SV) (t : Nat) : yN t (put env d x) = if d = some t then x else yN t env := by
  cases d with
  | none => simp [put]
  | some s =>
    simp only [put, yN]
    split
    · rename_i h; rw [Nat.eq_of_beq_eq_true h]; simp
    · rename_i h
      have : ¬ (some s = some t) := fun e => by cases e; rw [Nat.beq_refl] at h; cases h
      rw [if_neg this]
theorem JH (a : Act) (d : Option Nat) (v : Value) (t : Nat) (hd : jR a.tmps.size d = true) : (a.put d v).tmps.getD t undef = if d = some t then v else a.tmps.getD t undef := by
  cases d with
  | none => simp [Act.put]
  | some s =>
    have hlt : s < a.tmps.size := by
      unfold jR at hd
      simpa using hd
    by_cases e : s = t
    · subst e
      simp [Act.put, Array.getD, hlt]
    · have : ¬ (some s = some t) := fun e' => e (by cases e'; rfl)
      rw [if_neg this]
      simp [Act.put, Array.getElem?_setIfInBounds_ne e]
section
variable {c : Cx} {nt nl : Nat} {ol : List Oper} {ms : List Nat} {E : Nat → Env} {O : Nat → List SO} {X : Nat → SV} {fr : Fr} {g0 : Nat → Gh}
theorem qgi (tr : Tr c nt ol ms 0 E O X) {t : Nat} (ht : ∀ (i : Nat) (o : Oper), ol[i]? = some o → o.dst ≠ some t) : ∀ j, j ≤ ol.length → yN t (E j) = yN t (E 0) := by
  intro j
  induction j with
  | zero => intro _; rfl
  | succ j ih =>
    intro hj
    have ho : ol[j]? = some ol[j] := List.getElem?_eq_getElem hj
    rw [(tr.step j _ (Nat.zero_le _) ho).2.1, K6, if_neg (ht j _ ho)]
    exact ih (by omega)
theorem qgj (tr : Tr c nt ol ms 0 E O X) (dr : Drawn T ol ms) {i : Nat} {o : Oper} {t : Nat} (ho : ol[i]? = some o) (hd : o.dst = some t) : ∀ j, i < j → j ≤ ol.length → yN t (E j) = X i := by
  intro j
  induction j with
  | zero => intro h; omega
  | succ j ih =>
    intro h1 h2
    have hp : ol[j]? = some ol[j] := List.getElem?_eq_getElem h2
    rw [(tr.step j _ (Nat.zero_le _) hp).2.1, K6]
    by_cases e : i = j
    · subst e
      rw [ho] at hp; obtain h3 := Option.some.inj hp
      rw [← h3, if_pos hd]
    · rw [if_neg fun e' => e (dr.one i j o _ t ho hp hd e')]
      exact ih (by omega) (by omega)
theorem E_old' (tr : Tr c nt ol ms 0 E O X) {t : Nat} : ∀ j, j ≤ ol.length → (∀ (i : Nat) (o : Oper), i < j → ol[i]? = some o → o.dst ≠ some t) → yN t (E j) = yN t (E 0) := by
  intro j
  induction j with
  | zero => intro _ _; rfl
  | succ j ih =>
    intro hj ht
    have ho : ol[j]? = some ol[j] := List.getElem?_eq_getElem hj
    rw [(tr.step j _ (Nat.zero_le _) ho).2.1, K6, if_neg (ht j _ (by omega) ho)]
    exact ih (by omega) fun i o hi => ht i o (by omega)
structure DS (c : Cx) (nt nl : Nat) (ol : List Oper) (E : Nat → Env) (O : Nat → List SO) (X : Nat → SV) (fr : Fr) (g0 : Nat → Gh) (D : Nat → Prop) (m : Nat) (g : Nat → Gh) (a : Act) (w : World) : Prop where
  mem : Mem fr (O m) g w
  old : ∀ t, (∀ (i : Nat) (o : Oper), ol[i]? = some o → o.dst = some t → ¬ D i) → RepV w (Bk fr (O m) g w) g (yN t (E 0)) (a.tmps.getD t undef)
  new : ∀ (i : Nat) (o : Oper) (t : Nat), ol[i]? = some o → o.dst = some t → D i → RepV w (Bk fr (O m) g w) g (X i) (a.tmps.getD t undef)
  sz : nt ≤ a.tmps.size
  df : a.defers = []
  h0 : ∀ j, j < nl → g0 j ≠ .no → g j = g0 j
  mn : m ≤ ol.length
  nlo : nl ≤ (O m).length
  below : ∀ (i : Nat) (o : Oper), ol[i]? = some o → i < m → (cls c.T o.op).isE = true → D i
  above : ∀ (i : Nat) (o : Oper), ol[i]? = some o → m ≤ i → (cls c.T o.op).isE = true → ¬ D i
theorem exists_not (l : List Nat) : ∃ q, q ∉ l := by
  have : ∃ b, ∀ x ∈ l, x < b := by
    induction l with
    | nil => exact ⟨0, fun x h => by cases h⟩
    | cons y ys ih =>
      obtain ⟨b, hb⟩ := ih
      refine ⟨b + y + 1, fun x h => ?_⟩
      rcases List.mem_cons.1 h with rfl | h
      · omega
      · have := hb x h; omega
  obtain ⟨b, hb⟩ := this
  exact ⟨b, fun h => by have := hb b h; omega⟩
theorem WY {o : Oper} {env : Env} {os os1 : List SO} {x : SV} (hE : (cls c.T o.op).isE = false) (h : op1 c ol env os o = some (x, os1)) : os1 = os := by
  refine JF h (fun h => ?_) id
  cases hc : cls c.T o.op with
  | p => exact (p_any hc h).1
  | rd => exact qc1 (.inl hc) h
  | ld => exact qc1 (.inr hc) h
  | ext => rw [hc] at hE; cases hE
  | eff => rw [hc] at hE; cases hE
  | call => rw [hc] at hE; cases hE
theorem qhY (tr : Tr c nt ol ms 0 E O X) {i : Nat} (hi : i < ol.length) (hE : ∀ o, ol[i]? = some o → (cls c.T o.op).isE = false) : O (i + 1) = O i := by
  have ho : ol[i]? = some ol[i] := List.getElem?_eq_getElem hi
  exact WY (hE _ ho) (tr.step i _ (Nat.zero_le _) ho).1
theorem K7 (tr : Tr c nt ol ms 0 E O X) {m : Nat} : ∀ j, m ≤ j → j ≤ ol.length → (∀ (i : Nat) (o : Oper), m ≤ i → i < j → ol[i]? = some o → (cls c.T o.op).isE = false) → O j = O m := by
  intro j
  induction j with
  | zero => intro h _ _; have : m = 0 := by omega
            rw [this]
  | succ j ih =>
    intro h1 h2 h3
    by_cases e : m = j + 1
    · rw [e]
    · rw [qhY tr (by omega) (fun o ho => h3 j o (by omega) (by omega) ho)]
      exact ih (by omega) (by omega) (fun i o a b => h3 i o a (by omega))
theorem qhZ (tr : Tr c nt ol ms 0 E O X) {q m : Nat} : ∀ j, m ≤ j → (∀ i, m ≤ i → i < j → kn q (O i) (O (i + 1))) → kn q (O m) (O j) := by
  intro j
  induction j with
  | zero => intro h _; have : m = 0 := by omega
            rw [this]; exact kn.refl _ _
  | succ j ih =>
    intro h1 h2
    by_cases e : m = j + 1
    · rw [e]; exact kn.refl _ _
    · exact (ih (by omega) (fun i a b => h2 i a (by omega))).trans (h2 j (by omega) (by omega))
theorem qc3 {o : Op} (h : cls T o = .call) : ∃ f args ts, o = .call { callee := .value f, args := args, argTypes := ts } := by
  unfold cls at h
  split at h <;> first | exact ⟨_, _, _, rfl⟩ | (split at h <;> cases h) | cases h
theorem qiX {o : Op} (h : cls T o = .ld) : ∃ t p, o = .load t p := by
  unfold cls at h
  split at h <;> first | exact ⟨_, _, rfl⟩ | (split at h <;> cases h) | cases h
theorem E_kept (tr : Tr c nt ol ms 0 E O X) (dr : Drawn c.T ol ms) {i j : Nat} {o p : Oper} (hi : ol[i]? = some p) (hj : ol[j]? = some o) (hE : (cls c.T p.op).isE = true) {t : Nat} {y : Operand} (ho : o.op = .load t y)
    (hu : yr ms i j = true) {q off : Nat} (hy : ev (E j) y = .ptr q off) (hyi : j < i → ev (E i) y = .ptr q off) : kn q (O i) (O (i + 1)) := by
  obtain ⟨hop, -, -, -, hck⟩ := tr.step i p (Nat.zero_le _) hi
  have hpair := dr.pair i j p o hi hj hu
  have hld : cls c.T o.op = .ld := by rw [ho]; rfl
  rw [hld] at hpair
  refine JF hop (fun h => ?_) (fun e => by rw [e]; exact kn.refl _ _)
  cases hc : cls c.T p.op with
  | p => rw [hc] at hE; cases hE
  | rd => rw [hc] at hE; cases hE
  | ld => rw [hc] at hE; cases hE
  | eff => rw [hc] at hpair; cases hpair
  | ext => exact qgf hc h
  | call =>
    obtain ⟨f, args, ts, hp⟩ := qc3 hc
    have hmem : (j, y) ∈ y4 c.T ms i 0 ol := by
      have := Z9 (T := c.T) (ms := ms) (j := i) (k := 0) hj ho (by rw [Nat.zero_add, Z8]; exact hu)
      simpa using this
    have hk := hck f args ts hp (fun e => by rw [e] at hmem; cases hmem)
    unfold opS at h
    simp only [hp] at h
    split at h
    rotate_left
    · cases h
    refine Y7 h ?_
    unfold zy at hk
    split at hk
    rotate_left
    · cases hk
    rename_i g caps hf
    simp only [Bool.and_eq_true] at hk
    obtain ⟨hk1, hk2⟩ := hk
    rw [hf]
    unfold Y6
    simp only
    intro hin
    have hne : i ≠ j := fun e => by
      subst e
      rw [hi] at hj; obtain rfl := Option.some.inj hj
      rw [hc] at hld; cases hld
    rcases Nat.lt_or_ge i j with hlt | hge
    · have hany : ((y4 c.T ms i 0 ol).any fun p => Nat.blt i p.1) = true := List.any_eq_true.2 ⟨(j, y), hmem, by simpa using hlt⟩
      rw [hany] at hk1
      simp only [Bool.not_true, Bool.false_or, List.isEmpty_iff] at hk1
      rw [hk1] at hin; cases hin
    · have hlt : j < i := by omega
      have := List.all_eq_true.1 hk2 (ev (E i) y) (List.mem_map.2 ⟨(j, y), List.mem_filter.2 ⟨hmem, by simpa using hlt⟩, rfl⟩)
      rw [hyi hlt] at this
      simp only [boxIn, Bool.not_eq_true'] at this
      have h2 : (jh (O i) 100 (xR c.own g (List.map (YV c.T (E i)) (args.toList.zip ts.toList) ++ caps)) []).contains q = true := by simpa using hin
      rw [this] at h2; cases h2
end
end Go.Proofs.Ytfjbclgbpdlkgaa

/- The evaluator S: regions whose order is drawn: the step, and all steps. -/
namespace Go.Proofs.Ytfjbclgbpdlkgaa
open Go
set_option linter.unusedVariables false
set_option linter.unusedSimpArgs false
variable {P : Program} {T : Tab}
section
variable {c : Cx} {nt nl : Nat} {ol : List Oper} {ms : List Nat} {E : Nat → Env} {O : Nat → List SO} {X : Nat → SV} {fr : Fr} {g0 : Nat → Gh}
theorem qc4 {os os2 : List SO} {t : Nat} {p x : SV} (hb : zv p = true) (h : qf T os t p = some x) (hk : ∀ q off, p = .ptr q off → ∀ l, os[q]? = some (.box l) → os2[q]? = some (.box l)) : qf T os2 t p = some x := by
  have : kP os p = none ∨ kP os2 p = kP os p := by
    cases p with
    | ptr q off =>
      simp only [kP]
      cases hq : os[q]? with
      | none => exact .inl rfl
      | some o =>
        cases o with
        | box l => exact .inr (by rw [hk q off rfl l hq])
        | _ => exact .inl rfl
    | el y off => exact .inr rfl
    | undef => exact .inl rfl
    | _ => cases hb
  unfold qf at h ⊢
  rcases this with e | e
  · rw [e] at h
    split at h <;> cases h
  · rw [e]; exact h
theorem cst_ne (v : Value) (q off : Nat) : cst v ≠ .ptr q off := by
  intro h
  unfold cst at h
  split at h
  · cases h
  · split at h <;> cases h
theorem qc5 {a b : Cls} (ha : a.isE = true) (hb : b.isE = true) : Jt a b = false := by
  cases a <;> cases b <;> first | rfl | (cases ha; done) | (cases hb; done)
theorem qc6 {a : Cls} (ha : a.isE = true) : Jt a .rd = false := by
  cases a <;> first | rfl | (cases ha; done)
theorem qiY (hO : WR P c) (tr : Tr c nt ol ms 0 E O X) (dr : Drawn c.T ol ms) (hms : ms = qaz [] ol) {ops : Array Oper} (hops : ops.toList = ol) {D : Nat → Prop} {m : Nat} {g : Nat → Gh} {a : Act} {w : World}
    (hcl : ∀ j o, ol[j]? = some o → D j → ∀ e, e ∈ wg o → D e) (ds : DS c nt nl ol E O X fr g0 D m g a w) {j : Nat} {o : Oper} (hj : ol[j]? = some o) (hDj : ¬ D j) (hr : ∀ e, e ∈ wg o → D e)
    {K : Act → World → Prop} {Q : Exit → Act → World → Prop} (hK : ∀ a' w' m' g', DS c nt nl ol E O X fr g0 (fun i => D i ∨ i = j) m' g' a' w' → K a' w') : wpOp P ops Q j K a w := by
  have hjl : j < ol.length := q6 hj
  obtain ⟨hop, hE1, hdst, hck⟩ := tr.step j o (Nat.zero_le _) hj
  have hcl' : ∀ j' o', ol[j']? = some o' → (D j' ∨ j' = j) → ∀ e, e ∈ wg o' → (D e ∨ e = j) := by
    intro j' o' ho' hD' e he
    rcases hD' with hD' | rfl
    · exact .inl (hcl j' o' ho' hD' e he)
    · rw [hj] at ho'; obtain rfl := Option.some.inj ho'
      exact .inl (hr e he)
  have hbef' : ∀ i k, (D k ∨ k = j) → qco ms i k = true → (D i ∨ i = j) := by
    intro i k hk hb
    unfold qco at hb
    rw [hms] at hb
    exact JD (D := fun i => D i ∨ i = j) hcl' ol [] rfl (fun j' _ e he => by simp at he) k hk i hb
  have hbefD : ∀ i k, D k → qco ms i k = true → D i := by
    intro i k hk hb
    unfold qco at hb
    rw [hms] at hb
    exact JD (D := D) hcl ol [] rfl (fun j' _ e he => by simp at he) k hk i hb
  have hbef : ∀ i, i ≠ j → qco ms i j = true → D i := fun i hi hb => (hbef' i j (.inr rfl) hb).resolve_right hi
  have hval : ∀ t, t ∈ wD ol o → RepV w (Bk fr (O m) g w) g (yN t (E j)) (a.tmps.getD t undef) := by
    intro t ht
    by_cases hex : ∃ (i : Nat) (q : Oper), ol[i]? = some q ∧ q.dst = some t
    · obtain ⟨i, q, hi, hq⟩ := hex
      rcases dr.data i j q o t hi hj hq ht with ⟨hlt, hb⟩ | ⟨hlt, hb, -⟩
      · rw [qgj tr dr hi hq j hlt (by omega)]
        exact ds.new i q t hi hq (hbef i (by omega) hb)
      · rw [E_old' tr j (by omega) fun k p hk hp e => by
          have := dr.one k i p q t hp hi e hq
          omega]
        refine ds.old t fun k p hp e hD => ?_
        obtain rfl := dr.one k i p q t hp hi e hq
        exact hDj (hbefD j k hD hb)
    · have hno : ∀ (i : Nat) (q : Oper), ol[i]? = some q → q.dst ≠ some t := fun i q hi hq => hex ⟨i, q, hi, hq⟩
      rw [qgi tr hno j (by omega)]
      exact ds.old t fun i q hi hq => absurd hq (hno i q hi)
  let env' := zB (wD ol o) (E j)
  have hs : ws w (Bk fr (O m) g w) g env' a.tmps := by
    intro t
    rcases WW (E j) t (wD ol o) with ⟨h1, h2⟩ | h2
    · show RepV _ _ _ (yN t (zB (wD ol o) (E j))) _
      rw [h2]; exact hval t h1
    · show RepV _ _ _ (yN t (zB (wD ol o) (E j))) _
      rw [h2]; exact .dead
  have hjo : ops[j]? = some o := by rw [← Array.getElem?_toList, hops]; exact hj
  have fin : ∀ (m' : Nat) (os1 : List SO), os1 = O m' → m' ≤ ol.length → op1 c ol (E j) (O m) o = some (X j, os1) →
      (∀ (i : Nat) (p : Oper), ol[i]? = some p → i < m' → (cls c.T p.op).isE = true → (D i ∨ i = j)) → (∀ (i : Nat) (p : Oper), ol[i]? = some p → m' ≤ i → (cls c.T p.op).isE = true → ¬ (D i ∨ i = j)) → wpOp P ops Q j K a w := by
    intro m' os1 hos hm' hop' hbl hab
    subst hos
    have h1 : op1 c ops.toList env' (O m) o = some (X j, O m') := by rw [hops]; show op1 c ol (zB (wD ol o) (E j)) (O m) o = _; rw [qge]; exact hop'
    have hlen : (O m).length ≤ (O m').length := (qhX (P := P) hO (K := fun _ _ => True) (Q := Q) (j := j) ds.mem hs hjo h1 (fun _ _ _ => trivial)).1
    refine (qhX hO ds.mem hs hjo h1 ?_).2
    rintro v w' ⟨g', m1, gr, rp⟩
    have hd' : jR a.tmps.size o.dst = true := JA hdst ds.sz
    refine hK _ _ m' g' { mem := m1, old := fun t ht => ?_, new := fun i p t hi hp hD => ?_, sz := by rw [Jz]; exact ds.sz, df := by rw [Z3]; exact ds.df, h0 := fun k hk hn => ?_, mn := hm', nlo := Nat.le_trans ds.nlo hlen, below := hbl, above := hab }
    · rw [JH _ _ _ _ hd', if_neg fun e => ht j o hj e (.inr rfl)]
      exact (ds.old t fun i p hi hp hD => ht i p hi hp (.inl hD)).grow gr
    · rw [JH _ _ _ _ hd']
      by_cases e : i = j
      · subst e
        rw [hj] at hi; obtain rfl := Option.some.inj hi
        rw [if_pos hp]; exact rp
      · rw [if_neg fun e' => e (dr.one i j p o t hi hj hp e')]
        exact (ds.new i p t hi hp (hD.resolve_right e)).grow gr
    · rw [gr.ext k (by rw [ds.h0 k hk hn]; exact hn), ds.h0 k hk hn]
  by_cases hE : (cls c.T o.op).isE = true
  · -- one that does something: it is its turn
    have hmj : m ≤ j := by
      rcases Nat.lt_or_ge j m with h | h
      · exact absurd (ds.below j o hj h hE) hDj
      · exact h
    have hno : ∀ (i : Nat) (p : Oper), m ≤ i → i < j → ol[i]? = some p → (cls c.T p.op).isE = false := by
      intro i p h1 h2 hi
      cases hp : (cls c.T p.op).isE with
      | false => rfl
      | true =>
        have hu : yr ms i j = false := by
          cases hu : yr ms i j with
          | false => rfl
          | true =>
            have := dr.pair i j p o hi hj hu
            rw [qc5 hp hE] at this; cases this
        exact absurd (hbef i (by omega) (K5 h2 hu)) (ds.above i p hi h1 hp)
    have hOj : O j = O m := K7 tr j hmj (by omega) hno
    refine fin (j + 1) _ rfl (by omega) (by rw [← hOj]; exact hop) ?_ ?_
    · intro i p hi hlt hp
      by_cases e : i = j
      · exact .inr e
      · rcases Nat.lt_or_ge i m with h | h
        · exact .inl (ds.below i p hi h hp)
        · have := hno i p h (by omega) hi
          rw [this] at hp; cases hp
    · intro i p hi hge hp hD
      rcases hD with hD | hD
      · exact ds.above i p hi (by omega) hp hD
      · omega
  · -- one that reads, or only reckons
    have hE : (cls c.T o.op).isE = false := by simpa using hE
    have keep : op1 c ol (E j) (O m) o = some (X j, O m) → wpOp P ops Q j K a w := fun h => by
      refine fin m _ rfl ds.mn h (fun i p hi hlt hp => .inl (ds.below i p hi hlt hp)) (fun i p hi hge hp hD => ?_)
      rcases hD with hD | rfl
      · exact ds.above i p hi hge hp hD
      · rw [hj] at hi; obtain rfl := Option.some.inj hi
        rw [hE] at hp; cases hp
    have hun1 : ∀ (i : Nat) (p : Oper), ol[i]? = some p → (cls c.T p.op).isE = true → m ≤ i → i < j → yr ms i j = true := by
      intro i p hi hp h1 h2
      cases hu : yr ms i j with
      | true => rfl
      | false => exact absurd (hbef i (by omega) (K5 h2 hu)) (ds.above i p hi h1 hp)
    have hun2 : ∀ (i : Nat) (p : Oper), ol[i]? = some p → (cls c.T p.op).isE = true → j < i → i < m → yr ms i j = true := by
      intro i p hi hp h1 h2
      cases hu : yr ms i j with
      | true => rfl
      | false =>
        rw [Z8] at hu
        exact absurd (hbefD j i (ds.below i p hi h2 hp) (K5 h1 hu)) hDj
    have hsame : (∀ (i : Nat) (p : Oper), ol[i]? = some p → (cls c.T p.op).isE = true → yr ms i j = false) → O m = O j := by
      intro hn
      rcases Nat.le_total m j with h | h
      · refine (K7 tr j h (by omega) fun i p h1 h2 hi => ?_).symm
        cases hp : (cls c.T p.op).isE with
        | false => rfl
        | true => have := hun1 i p hi hp h1 h2; rw [hn i p hi hp] at this; cases this
      · refine K7 tr m h ds.mn fun i p h1 h2 hi => ?_
        cases hp : (cls c.T p.op).isE with
        | false => rfl
        | true =>
          have hne : i ≠ j := fun e => by
            subst e
            rw [hj] at hi; obtain rfl := Option.some.inj hi
            rw [hE] at hp; cases hp
          have := hun2 i p hi hp (by omega) h2
          rw [hn i p hi hp] at this; cases this
    have hself : O (j + 1) = O j := WY hE hop
    cases hc : cls c.T o.op with
    | p => exact keep (JG hop fun h => ⟨hself, (p_any hc h).2 _⟩).2
    | rd =>
      refine keep ?_
      rw [hsame fun i p hi hp => ?_, ← hself]
      · rw [hself]; rw [hself] at hop; exact hop
      · cases hu : yr ms i j with
        | false => rfl
        | true =>
          have := dr.pair i j p o hi hj hu
          rw [hc] at this
          rw [qc6 hp] at this; cases this
    | ld =>
      obtain ⟨t, y, ho⟩ := qiX hc
      cases hau : anyU c.T ms j 0 ol with
      | false =>
        refine keep ?_
        rw [hsame fun i p hi hp => by simpa using Ka hau hi hp]
        rw [hself] at hop; exact hop
      | true =>
        have hbx := hck.1 t y ho hau
        refine keep (JG hop fun h => ⟨hself, ?_⟩).2
        unfold opS at h ⊢
        simp only [ho] at h ⊢
        obtain ⟨h1, -⟩ := kq h
        rw [qc4 (os2 := O m) hbx h1 ?_]
        · rfl
        · intro q off hy l hl
          have hyt : ∀ i, j < i → i ≤ ol.length → ev (E i) y = ev (E j) y := by
            intro i hji hil
            cases y with
            | tmp t' =>
              have ht' : t' ∈ wD ol o := by
                unfold wD
                refine List.mem_append.2 (.inl (List.mem_filterMap.2 ⟨.tmp t', ?_, rfl⟩))
                rw [ho]; simp [Op.operands]
              simp only [ev]
              by_cases hex : ∃ (i' : Nat) (q' : Oper), ol[i']? = some q' ∧ q'.dst = some t'
              · obtain ⟨i', q', hi', hq'⟩ := hex
                obtain ⟨hlt, -⟩ := (dr.data i' j q' o t' hi' hj hq' ht').resolve_right fun h => by rw [hc] at h; cases h.2.2
                rw [qgj tr dr hi' hq' i (by omega) hil, qgj tr dr hi' hq' j hlt (by omega)]
              · have hno : ∀ (i : Nat) (q : Oper), ol[i]? = some q → q.dst ≠ some t' := fun i q hi hq => hex ⟨i, q, hi, hq⟩
                rw [qgi tr hno i hil, qgi tr hno j (by omega)]
            | const v => rfl
            | func f => rfl
            | global g => rfl
          have hkp : ∀ i, i < ol.length → ((m ≤ i ∧ i < j) ∨ (j ≤ i ∧ i < m)) → kn q (O i) (O (i + 1)) := by
            intro i hil hcase
            have hi : ol[i]? = some ol[i] := List.getElem?_eq_getElem hil
            cases hp : (cls c.T ol[i].op).isE with
            | false => rw [qhY tr hil fun o' ho' => by rw [hi] at ho'; obtain rfl := Option.some.inj ho'; exact hp]; exact kn.refl _ _
            | true =>
              have hne : i ≠ j := fun e => by
                subst e
                rw [hj] at hi; have h5 := Option.some.inj hi
                rw [← h5, hE] at hp; cases hp
              have hu : yr ms i j = true := by
                rcases hcase with ⟨a1, a2⟩ | ⟨a1, a2⟩
                · exact hun1 i _ hi hp a1 a2
                · exact hun2 i _ hi hp (by omega) a2
              exact E_kept tr dr hi hj hp ho hu hy (fun hji => by rw [hyt i hji (by omega)]; exact hy)
          rcases Nat.le_total m j with h | h
          · have hk := qhZ tr j h (q := q) fun i a1 a2 => hkp i (by omega) (.inl ⟨a1, a2⟩)
            have hq : q < (O m).length := by
              rcases Nat.lt_or_ge q (O m).length with h | h
              · exact h
              · have hg := ds.mem.fresh q h
                have ht : ∃ t', y = .tmp t' := by
                  cases y with
                  | tmp t' => exact ⟨t', rfl⟩
                  | const v => exact absurd hy (cst_ne v q off)
                  | func f => cases hy
                  | global g => cases hy
                obtain ⟨t', rfl⟩ := ht
                have := hval t' (by
                  unfold wD
                  refine List.mem_append.2 (.inl (List.mem_filterMap.2 ⟨.tmp t', ?_, rfl⟩))
                  rw [ho]; simp [Op.operands])
                simp only [ev] at hy
                rw [hy] at this
                generalize a.tmps.getD t' undef = vv at this
                cases this with
                | ptr hp => rw [hg] at hp; cases hp
            exact (hk.2 hq l).2 hl
          · have hk := qhZ tr m h (q := q) fun i a1 a2 => hkp i (by have := ds.mn; omega) (.inr ⟨a1, a2⟩)
            exact (hk.2 (q6 hl) l).1 hl
    | ext => rw [hc] at hE; cases hE
    | eff => rw [hc] at hE; cases hE
    | call => rw [hc] at hE; cases hE
end
theorem Kb {o : Oper} {e : Nat} : e ∈ wg o ↔ ∃ d, d ∈ o.after ∧ Region.binds .any d = true ∧ d.on = e := by
  unfold wg
  simp [List.mem_map, List.mem_filter, and_assoc]
def VC (C : List (Nat × Nat)) (ops : Array Oper) : (Nat → Prop) → List Nat → Prop
  | D, [] => ∀ i, i < ops.size → D i
  | D, i :: rest => ¬ D i ∧ (∃ o, ops[i]? = some o ∧ ∀ e, e ∈ wg o → D e) ∧ (∀ p, p ∈ C → p.2 = i → D p.1) ∧ VC C ops (fun k => D k ∨ k = i) rest
theorem qc7 {C : List (Nat × Nat)} {ops : Array Oper} {i j : Nat} : ∀ (ord : List Nat) (D : Nat → Prop), D i → VC C ops D ord → VC (C ++ [(i, j)]) ops D ord
  | [], D, _, h => h
  | x :: rest, D, hi, ⟨h1, h2, h3, h4⟩ => ⟨h1, h2, fun p hp e => by
      rcases List.mem_append.1 hp with hp | hp
      · exact h3 p hp e
      · obtain rfl := List.mem_singleton.1 hp; exact hi, qc7 rest _ (.inl hi) h4⟩
theorem JI {C : List (Nat × Nat)} {ops : Array Oper} {i j : Nat} (hij : i ≠ j) : ∀ (ord : List Nat) (D : Nat → Prop), VC C ops D ord → VC (C ++ [(i, j)]) ops D ord ∨ VC (C ++ [(j, i)]) ops D ord
  | [], D, h => .inl h
  | x :: rest, D, ⟨h1, h2, h3, h4⟩ => by
    by_cases ei : x = i
    · subst ei
      refine .inl ⟨h1, h2, fun p hp e => ?_, qc7 rest _ (.inr rfl) h4⟩
      rcases List.mem_append.1 hp with hp | hp
      · exact h3 p hp e
      · obtain rfl := List.mem_singleton.1 hp; exact absurd e.symm hij
    · by_cases ej : x = j
      · subst ej
        refine .inr ⟨h1, h2, fun p hp e => ?_, qc7 rest _ (.inr rfl) h4⟩
        rcases List.mem_append.1 hp with hp | hp
        · exact h3 p hp e
        · obtain rfl := List.mem_singleton.1 hp; exact absurd e hij
      · rcases JI hij rest _ h4 with h | h
        · refine .inl ⟨h1, h2, fun p hp e => ?_, h⟩
          rcases List.mem_append.1 hp with hp | hp
          · exact h3 p hp e
          · obtain rfl := List.mem_singleton.1 hp; exact absurd e.symm ej
        · refine .inr ⟨h1, h2, fun p hp e => ?_, h⟩
          rcases List.mem_append.1 hp with hp | hp
          · exact h3 p hp e
          · obtain rfl := List.mem_singleton.1 hp; exact absurd e.symm ei
theorem QP {C : List (Nat × Nat)} {ops : Array Oper} {D D' : Nat → Prop} {ord : List Nat} (h : ∀ i, D i ↔ D' i) (hv : VC C ops D ord) : VC C ops D' ord := by
  obtain rfl : D = D' := funext fun i => propext (h i)
  exact hv
theorem vc_lin {ops : Array Oper} (low : ∀ j o, ops[j]? = some o → ∀ e, e ∈ wg o → e < j) : ∀ (fuel t : Nat) (listed : Array Bool) (L : List Nat), listed.size = ops.size → (∀ i, i < ops.size → listed.getD i false = false → i ∈ L) →
    L.length ≤ fuel → VC [] ops (fun i => listed.getD i false = true) (Region.linearise.go .any ops fuel t listed []) := by
  have hgd : ∀ (listed : Array Bool), listed.size = ops.size → ∀ i, i < ops.size → listed.getD i true = listed.getD i false := by
    intro listed hsz i hi
    simp [Array.getD, show i < listed.size by omega]
  intro fuel
  induction fuel with
  | zero =>
    intro t listed L hsz hL hlen
    simp only [Region.linearise.go, List.reverse_nil]
    intro i hi
    cases hb : listed.getD i false with
    | true => rfl
    | false =>
      have := hL i hi hb
      have h0 : L = [] := List.length_eq_zero_iff.1 (by omega)
      rw [h0] at this; cases this
  | succ fuel ih =>
    intro t listed L hsz hL hlen
    simp only [Region.linearise.go]
    change VC [] ops _ (match (Region.ready .any ops listed)[t % (Region.ready .any ops listed).length]? with
      | some i => Region.linearise.go .any ops fuel (t / (Region.ready .any ops listed).length) (listed.setIfInBounds i true) [i]
      | none => [].reverse)
    cases hi : (Region.ready .any ops listed)[t % (Region.ready .any ops listed).length]? with
    | none =>
      have hnil : Region.ready .any ops listed = [] := by
        cases hr : Region.ready .any ops listed with
        | nil => rfl
        | cons x xs =>
          rw [hr] at hi
          rw [List.getElem?_eq_none_iff] at hi
          have := Nat.mod_lt t (y := (x :: xs).length) (by simp)
          omega
      intro i
      induction i using Nat.strongRecOn with
      | _ i ihi =>
        intro hi
        cases hb : listed.getD i false with
        | true => rfl
        | false =>
          have ho : ops[i]? = some ops[i] := Array.getElem?_eq_getElem hi
          have : i ∈ Region.ready .any ops listed := mem_ready.2 ⟨by rw [hgd listed hsz i hi]; exact hb, ops[i], ho, fun e he hbd => by
            have hlow := low i _ ho e.on (Kb.2 ⟨e, he, hbd, rfl⟩)
            exact ihi e.on hlow (by omega)⟩
          rw [hnil] at this; cases this
    | some i =>
      have him : i ∈ Region.ready .any ops listed := List.mem_of_getElem? hi
      obtain ⟨h1, o, ho, hall⟩ := mem_ready.1 him
      have hlt : i < ops.size := (Array.getElem?_eq_some_iff.1 ho).1
      have hDi : listed.getD i false = false := by rw [← hgd listed hsz i hlt]; exact h1
      have hset : ∀ k, (listed.setIfInBounds i true).getD k false = true ↔ (listed.getD k false = true ∨ k = i) := by
        intro k
        by_cases e : k = i
        · subst e
          simp [Array.getD, show k < listed.size by omega]
        · rw [getD_set_ne false (fun e' => e e'.symm)]; simp [e]
      show VC [] ops _ (Region.linearise.go .any ops fuel (t / (Region.ready .any ops listed).length) (listed.setIfInBounds i true) [i])
      rw [linearise_go_acc]
      refine ⟨by show ¬ (listed.getD i false = true); rw [hDi]; simp, ⟨o, ho, fun e he => ?_⟩, fun p hp => by simp at hp, ?_⟩
      · obtain ⟨d, hd1, hd2, rfl⟩ := Kb.1 he
        exact hall d hd1 hd2
      · refine QP hset (ih _ (listed.setIfInBounds i true) (L.erase i) (by simpa using hsz) ?_ ?_)
        · intro k hk hb
          have hne : k ≠ i := fun e => by
            have := (hset k).2 (.inr e)
            rw [hb] at this; cases this
          rw [getD_set_ne false (fun e' => hne e'.symm)] at hb
          exact (List.mem_erase_of_ne hne).2 (hL k hk hb)
        · have := List.length_erase_of_mem (hL i hlt hDi)
          omega
theorem qc8 {c : Cx} (hO : WR P c) {fr : Fr} {g0 : Nat → Gh} {nl nt : Nat} {k : Kt} {out : SV × List SO} {ops : Array Oper} {env : Env} {os : List SO} {a : Act} {w : World} (hi : Inv fr g0 nl nt env os a w)
    (h : runL c nt ops.toList env os k.n = some out) {ord : List Nat} (hv : VC [] ops (fun _ => False) ord) : wpOps P ops (ZS fr g0 nl nt k out) ord a w := by
  unfold runL at h
  split at h
  rotate_left
  · cases h
  rename_i hd
  have dr := JE hd
  obtain ⟨E, O, X, e1, e2, tr, hf⟩ := tr_of ops.toList 0 env os rfl h
  have key : ∀ (ord : List Nat) (D : Nat → Prop) (a : Act) (w : World) (m : Nat) (g : Nat → Gh), (∀ j o, ops.toList[j]? = some o → D j → ∀ e, e ∈ wg o → D e) →
      DS c nt nl ops.toList E O X fr g0 D m g a w → VC [] ops D ord → wpOps P ops (ZS fr g0 nl nt k out) ord a w := by
    intro ord
    induction ord with
    | nil =>
      intro D a w m g hcl ds hall
      simp only [VC] at hall
      show ZS fr g0 nl nt k out .normal a w
      have hOn : O ops.toList.length = O m := K7 tr _ ds.mn (Nat.le_refl _) fun i p h1 h2 hi => by
        cases hp : (cls c.T p.op).isE with
        | false => rfl
        | true => exact absurd (hall i (by simpa using h2)) (ds.above i p hi h1 hp)
      have hf' : k.n (E ops.toList.length) (O ops.toList.length) = some out := by simpa using hf
      refine ⟨E ops.toList.length, O ops.toList.length, ⟨g, by rw [hOn]; exact ds.mem, fun t => ?_, ds.sz, ds.df, by rw [hOn]; exact ds.nlo, ds.h0⟩, hf'⟩
      rw [hOn]
      by_cases hex : ∃ (i : Nat) (q : Oper), ops.toList[i]? = some q ∧ q.dst = some t
      · obtain ⟨i, q, hi, hq⟩ := hex
        have hlt := q6 hi
        rw [qgj tr dr hi hq _ hlt (Nat.le_refl _)]
        exact ds.new i q t hi hq (hall i (by simpa using hlt))
      · have hno : ∀ (i : Nat) (q : Oper), ops.toList[i]? = some q → q.dst ≠ some t := fun i q hi hq => hex ⟨i, q, hi, hq⟩
        rw [qgi tr hno _ (Nat.le_refl _)]
        exact ds.old t fun i q hi hq => absurd hq (hno i q hi)
    | cons j rest ih =>
      intro D a w m g hcl ds hv
      obtain ⟨hDj, ⟨o, ho, hall⟩, -, hv'⟩ := hv
      have hol : ops.toList[j]? = some o := by rw [Array.getElem?_toList]; exact ho
      rw [wpOps_cons]
      refine qiY hO tr dr rfl rfl hcl ds hol hDj hall fun a' w' m' g' ds' => ?_
      refine ih _ a' w' m' g' ?_ ds' hv'
      intro j' o' ho' hb e he
      rcases hb with hb | rfl
      · exact .inl (hcl j' o' ho' hb e he)
      · rw [hol] at ho'; obtain rfl := Option.some.inj ho'
        exact .inl (hall e he)
  obtain ⟨g, m, hs, ht, hdf, hl, h0⟩ := hi
  exact key ord (fun _ => False) a w 0 g (fun j o _ hD => hD.elim)
    { mem := by rw [e2]; exact m, old := fun t _ => by rw [e1, e2]; exact hs t, new := (fun i o t _ _ hD => hD.elim), sz := ht, df := hdf, h0 := h0, mn := Nat.zero_le _, nlo := by rw [e2]; exact hl,
      below := (fun i o _ h => by omega), above := fun i o _ _ _ hD => hD } hv
theorem xi : ∀ (σ : List Nat) (i : Nat), i ∈ σ → σ[xS i σ]? = some i
  | [], i, h => by cases h
  | x :: xs, i, h => by
    unfold xS
    split
    · rename_i hb; rw [Nat.eq_of_beq_eq_true hb]; rfl
    · rename_i hb
      rcases List.mem_cons.1 h with rfl | h
      · simp at hb
      · rw [List.getElem?_cons_succ]; exact xi xs i h
theorem Zg : ∀ (l : List Nat), ye l = true → l.Nodup
  | [], _ => List.nodup_nil
  | x :: xs, h => by
    simp only [ye, Bool.and_eq_true, Bool.not_eq_true', List.contains_eq_mem] at h
    exact List.nodup_cons.2 ⟨by simpa using h.1, Zg xs h.2⟩
structure PermOK (σ : List Nat) (ops : Array Oper) : Prop where
  len : σ.length = ops.size
  nd : σ.Nodup
  lt : ∀ i, i ∈ σ → i < ops.size
  all : ∀ i, i < ops.size → i ∈ σ
  gd : ∀ (i : Nat) (o : Oper) (g : Nat × Bool), ops[i]? = some o → o.guard = some g → g.1 < ops.size
theorem qiZ {σ : List Nat} {ops : Array Oper} (h : qcu σ ops.toList = true) : PermOK σ ops := by
  unfold qcu at h
  simp only [Bool.and_eq_true, List.all_eq_true] at h
  obtain ⟨⟨⟨⟨h1, h2⟩, h3⟩, h5⟩, h4⟩ := h
  have hl : σ.length = ops.size := by simpa using Nat.eq_of_beq_eq_true h1
  have hn := Zg σ h2
  have hlt : ∀ i, i ∈ σ → i < ops.size := fun i hi => by
    have := h3 i hi
    simpa [Nat.blt_eq] using this
  refine ⟨hl, hn, hlt, fun i hi => ?_, fun i o g ho hg => ?_⟩
  · have := h5 i (List.mem_range.2 (by simpa using hi))
    simpa using this
  · have hm : o ∈ ops.toList := List.mem_of_getElem? (by rw [Array.getElem?_toList]; exact ho)
    have := h4 o hm
    rw [hg] at this
    simpa [Nat.blt_eq] using this
theorem yR {α β : Type} (f : α → Option β) (g : α → β) : ∀ (l : List α), (∀ x, x ∈ l → f x = some (g x)) → l.filterMap f = l.map g
  | [], _ => rfl
  | x :: xs, h => by
    rw [List.filterMap_cons, h x (by simp), List.map_cons, yR f g xs fun y hy => h y (by simp [hy])]
theorem xU {σ : List Nat} {ops : Array Oper} {C : List (Nat × Nat)} (hp : PermOK σ ops) {i : Nat} {o : Oper} (ho : ops[i]? = some o) : (wK C σ ops.toList).toArray[xS i σ]? = some (xJ C σ i o) := by
  have hi : i < ops.size := (Array.getElem?_eq_some_iff.1 ho).1
  have e : wK C σ ops.toList = σ.map fun i => xJ C σ i (ops.getD i default) := by
    unfold wK
    refine yR _ _ σ fun x hx => ?_
    have hx' := hp.lt x hx
    have : ops.toList[x]? = some ops[x] := by rw [Array.getElem?_toList]; exact Array.getElem?_eq_getElem hx'
    simp [this, Array.getD, hx']
  rw [e]
  have := xi σ i (hp.all i hi)
  simp only [List.getElem?_toArray, List.getElem?_map, this, Option.map_some, Option.some.injEq]
  have h2 : ops.getD i default = o := by
    rw [Array.getElem?_eq_getElem hi] at ho
    simp [Array.getD, hi, Option.some.inj ho]
  rw [h2]
theorem WZ {σ : List Nat} {ops : Array Oper} {C : List (Nat × Nat)} (hp : PermOK σ ops) : (wK C σ ops.toList).toArray.size = σ.length := by
  have e : wK C σ ops.toList = σ.map fun i => xJ C σ i (ops.getD i default) := by
    unfold wK
    refine yR _ _ σ fun x hx => ?_
    have hx' := hp.lt x hx
    have : ops.toList[x]? = some ops[x] := by rw [Array.getElem?_toList]; exact Array.getElem?_eq_getElem hx'
    simp [this, Array.getD, hx']
  rw [e]; simp
theorem Y8 {C : List (Nat × Nat)} {σ : List Nat} {i : Nat} {o : Oper} {e : Nat} (h : e ∈ wg (xJ C σ i o)) : ∃ e0, e = xS e0 σ ∧ (e0 ∈ wg o ∨ (e0, i) ∈ C) := by
  unfold wg xJ at h
  simp only [List.mem_map, List.mem_filter] at h
  obtain ⟨d, ⟨hd, -⟩, rfl⟩ := h
  simp only [List.mem_map, List.mem_append, List.mem_filterMap] at hd
  obtain ⟨e0, he, rfl⟩ := hd
  refine ⟨e0, rfl, ?_⟩
  rcases he with he | ⟨p, hp, hpe⟩
  · exact .inl he
  · split at hpe
    · rename_i hb
      have := Nat.eq_of_beq_eq_true hb
      cases hpe
      obtain ⟨p1, p2⟩ := p
      obtain rfl : p2 = i := this
      exact .inr hp
    · cases hpe
theorem qh0 : ∀ {l : List Nat}, l.Nodup → ∀ {i j : Nat} {hi : i < l.length} {hj : j < l.length}, l[i] = l[j] → i = j
  | [], _, i, j, hi, hj, e => by simp at hi
  | x :: xs, hn, i, j, hi, hj, e => by
    obtain ⟨h1, h2⟩ := List.nodup_cons.1 hn
    cases i with
    | zero =>
      cases j with
      | zero => rfl
      | succ j =>
        simp only [List.getElem_cons_zero, List.getElem_cons_succ] at e
        exact absurd (e ▸ List.getElem_mem _) h1
    | succ i =>
      cases j with
      | zero =>
        simp only [List.getElem_cons_zero, List.getElem_cons_succ] at e
        exact absurd (e ▸ List.getElem_mem _) h1
      | succ j =>
        simp only [List.getElem_cons_succ] at e
        rw [qh0 h2 e]
theorem qc9 {σ : List Nat} {ops : Array Oper} {C : List (Nat × Nat)} (hp : PermOK σ ops) : ∀ (ord : List Nat) (D : Nat → Prop), (∀ i, D i → i < ops.size) → VC C ops D ord →
    VC [] (wK C σ ops.toList).toArray (fun p => ∃ i, D i ∧ xS i σ = p) (ord.map fun i => xS i σ)
  | [], D, hD, h => by
    intro p hps
    rw [WZ hp] at hps
    have hm : σ[p] ∈ σ := List.getElem_mem hps
    refine ⟨σ[p], h _ (hp.lt _ hm), ?_⟩
    have h1 := xi σ σ[p] hm
    have hlt := q6 h1
    rw [List.getElem?_eq_getElem hlt] at h1
    exact qh0 hp.nd (Option.some.inj h1)
  | i :: rest, D, hD, ⟨h1, ⟨o, ho, hall⟩, h3, h4⟩ => by
    have hi : i < ops.size := (Array.getElem?_eq_some_iff.1 ho).1
    have inj : ∀ x y, x < ops.size → y < ops.size → xS x σ = xS y σ → x = y := fun x y hx hy e => by
      have a1 := xi σ x (hp.all x hx)
      have a2 := xi σ y (hp.all y hy)
      rw [e, a2] at a1
      exact (Option.some.inj a1).symm
    refine ⟨?_, ⟨_, xU hp ho, fun e he => ?_⟩, fun p hp => by simp at hp, ?_⟩
    · rintro ⟨x, hx, e⟩
      exact h1 (inj x i (hD x hx) hi e ▸ hx)
    · obtain ⟨e0, rfl, he2⟩ := Y8 he
      refine he2.elim (fun he => ⟨e0, hall e0 he, rfl⟩) (fun he => ⟨e0, h3 (e0, i) he rfl, rfl⟩)
    · refine QP (fun p => ?_) (qc9 hp rest _ (fun x hx => hx.elim (hD x) fun e => e ▸ hi) h4)
      constructor
      · rintro ⟨x, hx | rfl, e⟩
        · exact .inl ⟨x, hx, e⟩
        · exact .inr e.symm
      · rintro (⟨x, hx, e⟩ | rfl)
        · exact ⟨x, .inl hx, e⟩
        · exact ⟨i, .inr rfl, rfl⟩
theorem Y9 {σ : List Nat} {ops : Array Oper} {C : List (Nat × Nat)} (hp : PermOK σ ops) {i : Nat} {o : Oper} (ho : ops[i]? = some o) (tmps : Array Value) :
    Region.wanted (xJ C σ i o) (yielded (wK C σ ops.toList).toArray tmps) = Region.wanted o (yielded ops tmps) := by
  unfold Region.wanted
  cases hg : o.guard with
  | none => simp [xJ, hg]
  | some g =>
    have hlt := hp.gd i o g ho hg
    have e : (xJ C σ i o).guard = some (xS g.1 σ, g.2) := by simp [xJ, hg]
    have hy : yielded (wK C σ ops.toList).toArray tmps (xS g.1 σ) = yielded ops tmps g.1 := by
      unfold yielded
      rw [xU hp (Array.getElem?_eq_getElem hlt), Array.getElem?_eq_getElem hlt]
      rfl
    rw [e]
    simp only [hy]
theorem qda {σ : List Nat} {ops : Array Oper} {C : List (Nat × Nat)} (hp : PermOK σ ops) {Q : Exit → Act → World → Prop} : ∀ (ord : List Nat) (D : Nat → Prop) (a : Act) (w : World), VC C ops D ord →
    wpOps P (wK C σ ops.toList).toArray Q (ord.map fun i => xS i σ) a w → wpOps P ops Q ord a w
  | [], D, a, w, _, h => h
  | i :: rest, D, a, w, ⟨_, ⟨o, ho, _⟩, _, h4⟩, h => by
    rw [List.map_cons, wpOps_cons] at h
    rw [wpOps_cons]
    refine wpOp_mono (K := wpOps P (wK C σ ops.toList).toArray Q (rest.map fun i => xS i σ)) (fun a' w' h' => qda hp rest _ a' w' h4 h') ?_
    unfold wpOp at h ⊢
    rw [xU hp ho] at h
    rw [ho]
    simp only [Y9 hp ho] at h ⊢
    exact h
theorem qdb {x y : Out} {r : SV × List SO} (h : wZ x y = some r) : x = some r ∧ y = some r := by
  unfold wZ at h
  split at h
  · rename_i e; exact ⟨h, e ▸ h⟩
  · cases h
theorem Xa {c : Cx} (hO : WR P c) {fr : Fr} {g0 : Nat → Gh} {nl nt : Nat} {k : Kt} {out : SV × List SO} {ops : Array Oper} {env : Env} {os : List SO} {a : Act} {w : World} (hi : Inv fr g0 nl nt env os a w) {ord : List Nat} :
    ∀ (t : DT) (C : List (Nat × Nat)), runT c nt ops.toList env os k.n t C = some out → VC C ops (fun _ => False) ord → wpOps P ops (ZS fr g0 nl nt k out) ord a w
  | .leaf σ, C, h, hv => by
    simp only [runT] at h
    split at h
    · rename_i hp
      have hp := qiZ hp
      refine qda hp ord _ a w hv (qc8 hO hi h (QP (fun p => ?_) (qc9 hp ord _ (fun _ h => h.elim) hv)))
      constructor
      · rintro ⟨_, h, _⟩; exact h
      · exact False.elim
    · cases h
  | .split i j x y, C, h, hv => by
    simp only [runT] at h
    split at h
    · cases h
    · rename_i hb
      obtain ⟨h1, h2⟩ := qdb h
      rcases JI (i := i) (j := j) (fun e => by subst e; simp at hb) ord _ hv with hv | hv
      · exact Xa hO hi x _ h1 hv
      · exact Xa hO hi y _ h2 hv
theorem qdc {c : Cx} (hO : WR P c) (hmix : P.follows .mixedOrders = true) : qhV P c := by
  intro fr g0 nl nt k out d ops env os a w t hi h
  simp only [Region.schedule, hmix, Bool.true_or, if_true]
  have hrep : ∀ i, (Array.replicate ops.size false).getD i false = false := fun i => by
    simp only [Array.getD]; split <;> simp
  have lin : (∀ j o, ops[j]? = some o → ∀ e, e ∈ wg o → e < j) → VC [] ops (fun _ => False) (Region.linearise.go .any ops ops.size t (Array.replicate ops.size false) []) := fun low =>
    QP (fun i => by rw [hrep]; simp) (vc_lin low ops.size t (Array.replicate ops.size false) (List.range ops.size) (by simp) (fun i hi _ => List.mem_range.2 hi) (by simp))
  unfold YX at h
  split at h
  · refine qc8 hO hi h (lin fun j o ho e he => ?_)
    unfold runL at h
    split at h
    · rename_i hd
      exact (JE hd).low j o (by rw [Array.getElem?_toList]; exact ho) e he
    · cases h
  · rename_i tr
    split at h
    · rename_i hl
      refine Xa hO hi tr [] h (lin fun j o ho e he => ?_)
      have := jv hl j o (by rw [Array.getElem?_toList]; exact ho)
      have := List.all_eq_true.1 this e he
      simpa [Nat.blt_eq] using this
    · cases h
end Go.Proofs.Ytfjbclgbpdlkgaa

/- The evaluator S: functions are sound. -/
namespace Go.Proofs.Ytfjbclgbpdlkgaa
open Go
set_option linter.unusedVariables false
set_option linter.unusedSimpArgs false
variable {P : Program} {T : Tab}
theorem Xb (hT : TabOk P T) {fr : Fr} {os : List SO} {g : Nat → Gh} {w : World} (hm : Mem fr os g w) {t : Nat} {p x : SV} {pv : Value}
    (hp : RepV w (Bk fr os g w) g p pv) (h : qf T os t p = some x) : ∃ a v, pv = .pointer (some a) ∧ (loadVar t a).run P w = .ok v w ∧ RepV w (Bk fr os g w) g x v := by
  obtain ⟨v, hr, hv⟩ := Jv hT hm hp h
  unfold qf at h
  split at h
  · split at h
    · rename_i l hl
      obtain ⟨b, o, vs, rfl, -, -⟩ := WJ hm hp hl
      exact ⟨_, v, rfl, by simpa [Instr.loadAt, Instr.sureAddr] using hr, hv⟩
    · cases h
  · cases h
def W0 (tmps : Array Value) : ResultVar → Sem Value := fun
  | .tmp t => pure (tmps.getD t undef)
  | .cell a t => do loadVar t (← asAddr (tmps.getD a undef))
theorem W1 (hT : TabOk P T) {fr : Fr} {os : List SO} {g : Nat → Gh} {w : World} (hm : Mem fr os g w) {env : Env} {tmps : Array Value} (hs : ws w (Bk fr os g w) g env tmps) : ∀ (rs : List ResultVar) {xs : List SV},
    yf T env os rs = some xs → ∃ vs, (rs.mapM (W0 tmps)).run P w = .ok vs w ∧ zU w (Bk fr os g w) g xs vs := by
  intro rs
  induction rs with
  | nil =>
    intro xs h
    simp only [yf, Option.some.injEq] at h
    subst h
    exact ⟨[], by simp, zU.nil⟩
  | cons r rs ih =>
    intro xs h
    simp only [yf, qx] at h
    split at h
    · rename_i x xs' hx hxs
      obtain rfl := Option.some.inj h
      obtain ⟨vs, hr, hl⟩ := ih hxs
      have : ∃ v, (W0 tmps r).run P w = .ok v w ∧ RepV w (Bk fr os g w) g x v := by
        cases r with
        | tmp t =>
          simp only [qcv, Option.some.injEq] at hx
          subst hx
          exact ⟨_, by simp [W0], hs t⟩
        | cell a t =>
          obtain ⟨ad, v, e, h1, h2⟩ := Xb hT hm (hs a) hx
          exact ⟨v, by simp [W0, e, asAddr, h1], h2⟩
      obtain ⟨v, h1, h2⟩ := this
      exact ⟨v :: vs, by simp [List.mapM_cons, h1, hr], zU.cons h2 hl⟩
    · cases h
theorem Zh {fr : Fr} {os : List SO} {g : Nat → Gh} {w : World} (hm : Mem fr os g w) {x y : SV} {v : Value} (hx : RepV w (Bk fr os g w) g x v) (h : QY os x = some y) : RepV w (Bk fr os g w) g y v := by
  unfold QY at h
  split at h
  · cases h; exact hx
  · cases h; exact hx
  · cases h; exact hx
  · cases h; exact hx
  · rename_i j
    split at h
    · cases h; exact hx
    · rename_i sz l hj
      cases h
      rcases hm.objs _ _ hj with ⟨rfl, hg⟩ | ⟨b, cap, vs, hg, h1, h2, h3, h4, h5⟩
      · cases hx with
        | osl0 h0 => exact .sl0
        | osl h0 => rw [hg] at h0; cases h0
      · cases hx with
        | osl0 h0 => rw [hg] at h0; cases h0
        | osl h0 =>
          rw [hg] at h0
          cases h0
          by_cases hl : l = []
          · subst hl; exact .sl0
          · exact .sl h3.1 h3.2 h4 (by simpa using h5) h2 h1
    · cases h
  · cases h
theorem W2 {fr : Fr} {os : List SO} {g : Nat → Gh} {w : World} (hm : Mem fr os g w) : ∀ (xs : List SV) {ys : List SV} {vs : List Value},
    zU w (Bk fr os g w) g xs vs → ji os xs = some ys → zU w (Bk fr os g w) g ys vs := by
  intro xs
  induction xs with
  | nil => intro ys vs hl h; simp only [ji, Option.some.injEq] at h; subst h; exact hl
  | cons x xs ih =>
    intro ys vs hl h
    obtain ⟨v, vs', rfl, hv, hl'⟩ := hl.uncons
    simp only [ji] at h
    split at h
    · rename_i hy hys
      cases h
      exact zU.cons (Zh hm hv hy) (ih hl' hys)
    · cases h
theorem qgk {fr : Fr} {os : List SO} {g : Nat → Gh} {w : World} (hm : Mem fr os g w) {x y : SV} {v : Value} (hx : RepV w (Bk fr os g w) g x v) (h : fixV os x = some y) : RepV w (Bk fr os g w) g y v := by
  unfold fixV at h
  split at h
  · split at h
    · rename_i hys
      cases h
      cases hx with
      | ag h1 h2 h3 =>
        have := W2 hm _ ⟨h1, h2⟩ hys
        exact .ag this.1 this.2 h3
    · cases h
  · exact Zh hm hx h
theorem qdd {fr : Fr} {os : List SO} {g : Nat → Gh} {w : World} (hm : Mem fr os g w) : ∀ (xs : List SV) {ys : List SV} {vs : List Value},
    zU w (Bk fr os g w) g xs vs → qaA os xs = some ys → zU w (Bk fr os g w) g ys vs := by
  intro xs
  induction xs with
  | nil => intro ys vs hl h; simp only [qaA, Option.some.injEq] at h; subst h; exact hl
  | cons x xs ih =>
    intro ys vs hl h
    obtain ⟨v, vs', rfl, hv, hl'⟩ := hl.uncons
    simp only [qaA] at h
    split at h
    · rename_i hy hys
      cases h
      exact zU.cons (qgk hm hv hy) (ih hl' hys)
    · cases h
theorem Qr {fr : Fr} {w : World} {g : Nat → Gh} {ms : List Nat} : ∀ (xs : List SV) {k : Nat} {os os1 : List SO} {ys : List SV} {vs : List Value}, Mem fr os g w → zU w (Bk fr os g w) g xs vs →
    wQ ms k xs os = some (ys, os1) → Mem fr os1 g w ∧ Grow fr os g w os1 g w ∧ zU w (Bk fr os1 g w) g ys vs := by
  intro xs
  induction xs with
  | nil =>
    intro k os os1 ys vs hm hl h
    simp only [wQ] at h
    cases h
    exact ⟨hm, Grow.refl _ _ _ _, hl⟩
  | cons x xs ih =>
    intro k os os1 ys vs hm hl h
    obtain ⟨v, vs', rfl, hv, hl'⟩ := hl.uncons
    simp only [wQ] at h
    split at h
    · rename_i y os2 hy
      split at h
      · rename_i ys' os3 hys
        cases h
        have h1 : Mem fr os2 g w ∧ Grow fr os g w os2 g w ∧ RepV w (Bk fr os2 g w) g y v := by
          split at hy
          · obtain ⟨m1, g1, r1, -⟩ := wF hm hv hy
            exact ⟨m1, g1, r1.mono (fun _ h => h) (fun _ _ => rfl) g (fun _ h => absurd rfl h)⟩
          · cases hy; exact ⟨hm, Grow.refl _ _ _ _, hv⟩
        obtain ⟨m1, g1, r1⟩ := h1
        obtain ⟨m2, g2, r2⟩ := ih m1 (hl'.mono g1.sub g1.same g1.ext) hys
        exact ⟨m2, g1.trans g2, zU.cons (r1.grow g2) r2⟩
      · cases h
    · cases h
theorem qde {fr : Fr} {w : World} {g : Nat → Gh} {ms : List Nat} : ∀ (xs : List SV) {k : Nat} {os os1 : List SO} {ys : List SV} {vs : List Value}, Mem fr os g w → zU w (Bk fr os g w) g xs vs →
    WH ms k xs os = some (ys, os1) → Mem fr os1 g w ∧ Grow fr os g w os1 g w ∧ zU w (Bk fr os1 g w) g ys vs := by
  intro xs
  induction xs with
  | nil =>
    intro k os os1 ys vs hm hl h
    simp only [WH] at h
    cases h
    exact ⟨hm, Grow.refl _ _ _ _, hl⟩
  | cons x xs ih =>
    intro k os os1 ys vs hm hl h
    obtain ⟨v, vs', rfl, hv, hl'⟩ := hl.uncons
    simp only [WH] at h
    split at h
    · rename_i y os2 hy
      split at h
      · rename_i ys' os3 hys
        cases h
        have h1 : Mem fr os2 g w ∧ Grow fr os g w os2 g w ∧ RepV w (Bk fr os2 g w) g y v := by
          split at hy
          · rename_i l
            split at hy
            · rename_i l' os4 hl4
              cases hy
              cases hv with
              | ag h1 h2 h3 =>
                obtain ⟨m1, g1, r1⟩ := Qr l hm ⟨h1, h2⟩ hl4
                exact ⟨m1, g1, .ag r1.1 r1.2 h3⟩
            · cases hy
          · split at hy
            · obtain ⟨m1, g1, r1, -⟩ := wF hm hv hy
              exact ⟨m1, g1, r1.mono (fun _ h => h) (fun _ _ => rfl) g (fun _ h => absurd rfl h)⟩
            · cases hy; exact ⟨hm, Grow.refl _ _ _ _, hv⟩
        obtain ⟨m1, g1, r1⟩ := h1
        obtain ⟨m2, g2, r2⟩ := ih m1 (hl'.mono g1.sub g1.same g1.ext) hys
        exact ⟨m2, g1.trans g2, zU.cons (r1.grow g2) r2⟩
      · cases h
    · cases h
theorem W3 {os os1 : List SO} {x y : SV} (h : km os x = some (y, os1)) {j : Nat} {l : List SV} (hj : os[j]? = some (.box l)) : os1[j]? = some (.box l) := by
  have key : ∀ (k sz : Nat) (b : Bool) (l' : List SV), os[k]? = some (.arr b sz l') → (os.set k (.frz sz l'))[j]? = some (.box l) := fun k sz b l' hk => by
    rw [List.getElem?_set]
    split
    · rename_i e; subst e; rw [hj] at hk; cases hk
    · exact hj
  unfold km at h
  split at h
  · cases h; exact hj
  · cases h; exact hj
  · split at h
    · rename_i hk; cases h; exact key _ _ _ _ hk
    · cases h; exact hj
    · cases h
  · split at h
    · rename_i hk
      split at h
      · cases h; exact key _ _ _ _ hk
      · cases h
    · split at h
      · cases h; exact hj
      · cases h
    · cases h
  · cases h
theorem W4 {ms : List Nat} : ∀ (xs : List SV) {k : Nat} {os os1 : List SO} {ys : List SV}, wQ ms k xs os = some (ys, os1) → ∀ {j : Nat} {l : List SV}, os[j]? = some (.box l) → os1[j]? = some (.box l) := by
  intro xs
  induction xs with
  | nil => intro k os os1 ys h j l hj; simp only [wQ] at h; cases h; exact hj
  | cons x xs ih =>
    intro k os os1 ys h j l hj
    simp only [wQ] at h
    split at h
    · rename_i y os2 hy
      split at h
      · rename_i ys' os3 hys
        cases h
        refine ih hys ?_
        split at hy
        · exact W3 hy hj
        · cases hy; exact hj
      · cases h
    · cases h
theorem qaO {fr : Fr} {os : List SO} {g : Nat → Gh} {w : World} (hm : Mem fr os g w) {j b : Nat} {l l' : List SV} {vs : List Value} (hj : os[j]? = some (.box l)) (e1 : g j = .bx b) (e2 : zU w (Bk fr os g w) g l' vs) (e3 : ∀ v : Value, v ∈ vs → v.oneCell' = true)
    (e4 : zM w b 0 vs) (e5 : qaB w b vs.length) : Mem fr (os.set j (.box l')) g w ∧ Grow fr os g w (os.set j (.box l')) g w := by
  have hb : (g j).block? = some b := by rw [e1]; rfl
  have hg := (Q7 hm (z6.refl _) hj rfl hb (o' := .box l') rfl rfl (fun _ _ => rfl)).grow
  exact ⟨KV hm (z6.refl _) hj rfl hb rfl (fun sz l e => by cases e) rfl (fun _ _ => rfl) ⟨b, vs, e1, e2.mono hg.sub hg.same hg.ext, e3, e4, e5⟩, hg⟩
theorem qaP {fr : Fr} {os os1 : List SO} {g : Nat → Gh} {w : World} {ms : List Nat} (hm : Mem fr os g w) (h : Ju ms os = some os1) : Mem fr os1 g w ∧ Grow fr os g w os1 g w := by
  unfold Ju at h
  split at h
  · rename_i l hj
    split at h
    · rename_i l' os2 hp
      cases h
      obtain ⟨b, vs, e1, e2, e3, e4, e5⟩ := hm.objs _ _ hj
      obtain ⟨m1, g1, r1⟩ := Qr l hm e2 hp
      have hj1 := W4 l hp hj
      obtain ⟨m2, g2⟩ := qaO m1 hj1 e1 r1 e3 e4 e5
      exact ⟨m2, g1.trans g2⟩
    · cases h
  · cases h
theorem qdf (hT : TabOk P T) {fr : Fr} {os os1 : List SO} {g : Nat → Gh} {w : World} (hm : Mem fr os g w) {env : Env} {tmps : Array Value} (hs : ws w (Bk fr os g w) g env tmps) {nl : Nat} {fn : Func} {r : SV}
    {ms : List Nat} (h : retS T ms nl fn.results.toList env os = some (r, os1)) :
    ∃ v g', (results fn tmps).run P w = .ok v w ∧ Mem fr os1 g' w ∧ (∀ j, j < nl → g' j = g j) ∧ RepV w (Bk fr os1 g' w) g' r v ∧ nl ≤ os1.length := by
  have h0 : ∃ xs xs' os', yf T env os fn.results.toList = some xs ∧ ((∃ os2, WH ms 0 xs os = some (xs', os2) ∧ (Ju ms os2 = some os' ∨ os' = os2)) ∨ xs' = xs ∧ os' = os) ∧ zq T nl os' (some xs') = some (r, os1) := by
    unfold retS at h
    split at h
    · cases hx : yf T env os fn.results.toList with
      | none => rw [hx] at h; cases h
      | some xs => rw [hx] at h; exact ⟨xs, xs, os, rfl, .inr ⟨rfl, rfl⟩, h⟩
    · unfold kY at h
      split at h
      · cases h
      rename_i xs hx
      split at h
      · rename_i ys os2 hp
        split at h
        · rename_i os3 hb
          refine ⟨xs, ys, os3, hx, .inl ⟨os2, hp, ?_⟩, h⟩
          split at hb
          · exact .inl hb
          · cases hb; exact .inr rfl
        · cases h
      · cases h
  clear h
  obtain ⟨xs, xs', os', hxs, hpur, h⟩ := h0
  obtain ⟨vs, hr, hl⟩ := W1 hT hm hs _ hxs
  clear hs
  have h1 : Mem fr os' g w ∧ zU w (Bk fr os' g w) g xs' vs := by
    rcases hpur with ⟨os2, hp, hb⟩ | ⟨rfl, rfl⟩
    · obtain ⟨m1, -, r1⟩ := qde xs hm hl hp
      rcases hb with hb | rfl
      · obtain ⟨m2, g2⟩ := qaP m1 hb
        exact ⟨m2, r1.mono g2.sub g2.same g2.ext⟩
      · exact ⟨m1, r1⟩
    · exact ⟨hm, hl⟩
  clear hm hl
  obtain ⟨hm, hl⟩ := h1
  unfold zq at h
  dsimp only at h
  split at h
  · cases h
  rename_i ys hys
  split at h
  · cases h
  rename_i keep hk
  split at h
  rotate_left
  · cases h
  cases h
  obtain ⟨k1, k2, k3⟩ := jt hk
  have hl := qdd hm _ hl hys
  have hl2 : zU w (Bk fr (gcO keep os') (gk g keep) w) (gk g keep) (ys.map (qfR (place keep))) vs := Za (fun x v h => K0 (qcS keep) wi h) hl
  have hres : (results fn tmps).run P w = .ok (if h : vs.toArray.size = 1 then vs.toArray[0] else .tuple vs.toArray) w := by
    have e : results fn tmps = Bind.bind (fn.results.mapM (W0 tmps)) (fun vs => pure (if h : vs.size = 1 then vs[0] else .tuple vs)) := by
      unfold results
      refine congrArg (fun q => Bind.bind q _) ?_
      refine congrArg (fun q => Array.mapM q fn.results) ?_
      funext r
      cases r <;> rfl
    rw [e, Array.mapM_eq_mapM_toList]
    simp [hr]
  refine ⟨_, gk g keep, hres, qhW hm k1, fun j hj => by unfold gk; rw [k3 j hj], ?_, by simpa [gcO] using k2⟩
  split
  · rename_i y
    obtain ⟨v, vs', rfl, hv, hl'⟩ := hl2.uncons
    obtain rfl : vs' = [] := by have := hl'.1; cases vs' <;> simp at this ⊢
    simpa using hv
  · rename_i hne
    have : ¬ vs.toArray.size = 1 := by
      intro h1
      have h2 := hl.1
      match ys, hne with
      | [], _ => simp at h1 h2; omega
      | [y], hne => exact hne y rfl
      | _ :: _ :: _, _ => simp at h1 h2; omega
    rw [dif_neg this]
    exact .tup hl2.1 hl2.2
theorem qgl (t : Nat) : ∀ (args : List SV) (i : Nat), yN t (QZ i args) = if i ≤ t then (args[t - i]?).getD .dead else .dead := by
  intro args
  induction args with
  | nil => intro i; simp [QZ, yN]
  | cons x xs ih =>
    intro i
    simp only [QZ, yN]
    split
    · rename_i h
      have := Nat.eq_of_beq_eq_true h
      subst this
      simp
    · rename_i h
      have hne : t ≠ i := fun e => by subst e; rw [Nat.beq_refl] at h; cases h
      rw [ih (i + 1)]
      by_cases hi : i ≤ t
      · have h1 : i + 1 ≤ t := by omega
        rw [if_pos h1, if_pos hi]
        have : t - i = (t - (i + 1)) + 1 := by omega
        rw [this]; simp
      · rw [if_neg hi, if_neg (by omega)]
theorem qdg {w : World} {B : Nat → Prop} {g : Nat → Gh} {args : List SV} {vals : List Value} (h : zU w B g args vals) (n : Nat) : ws w B g (QZ 0 args) (vals.toArray ++ Array.replicate (n - vals.toArray.size) undef) := by
  intro t
  rw [qgl]
  simp only [Nat.zero_le, if_true, Nat.sub_zero]
  cases hx : args[t]? with
  | none => exact .dead
  | some x =>
    have hlt : t < vals.length := by rw [← h.1]; exact q6 hx
    have : (vals.toArray ++ Array.replicate (n - vals.toArray.size) undef).getD t undef = vals[t] := by
      rw [Array.getD_eq_getD_getElem?, Array.getElem?_append_left (by simpa using hlt)]
      simp [hlt]
    rw [this]
    exact h.2 t x _ hx (List.getElem?_eq_getElem hlt)
structure PrgOK (P : Program) (p : Prg) : Prop where
  tab : TabOk P p.T
  code : ∀ f fn, p.code f = some fn → P.funcs[f]? = some fn ∧ (fn.name == "runtime.NumGoroutine") = false ∧ (p.fi f).nt ≤ fn.ntmps
  prim : ∀ f q, p.prim f = some q → KOK1 P f q
  mix : P.follows .mixedOrders = true
theorem JJ {p : Prg} (hp : PrgOK P p) : ∀ n, KOK P (qd p n) := by
  intro n
  induction n with
  | zero => intro f args los los' r h; simp [qd] at h
  | succ n ih =>
    intro f args los los' r h
    simp only [qd] at h
    split at h
    · rename_i q hq
      exact hp.prim f q hq args los los' r h
    · split at h
      · cases h
      rename_i fn hfn
      split at h
      · cases h
      rename_i b hb
      obtain ⟨h1, h2, h3⟩ := hp.code f fn hfn
      refine ⟨⟨fn, b, h1, h2, hb⟩, fun A L g vals w hL hm ha => ?_⟩
      refine calls_of_wp h1 hb ?_
      let c : Cx := ⟨p.T, p.own, qd p n⟩
      have hinv : Inv ⟨w.heap.size, A, L, w⟩ g los.length (p.fi f).nt (QZ 0 args) los { tmps := vals.toArray ++ Array.replicate (fn.ntmps - vals.toArray.size) undef, defers := [] } w :=
        ⟨g, hm, qdg ha _, by simp; omega, rfl, Nat.le_refl _, fun _ _ _ => rfl⟩
      refine wp_mono (Z4 (c := c) (JC hp.tab ih) (qdc (JC hp.tab ih) hp.mix) gc_ok b _ _ _ _ _ hinv h) ?_
      intro e a w' hq
      obtain ⟨env, os, ⟨g1, m, hs, ht, hd, hl, h0⟩, hk⟩ := hq
      have fin : retS p.T (p.pur f) los.length fn.results.toList env os = some (r, los') → a.defers = [] ∧ ∃ v, (results fn a.tmps).run P w' = .ok v w' ∧
          ∃ v' g', Ending.returned v = .returned v' ∧ Mem ⟨w.heap.size, A, L, w⟩ los' g' w' ∧ (∀ j, j < los.length → g j ≠ .no → g' j = g j) ∧ RepV w' (Bk ⟨w.heap.size, A, L, w⟩ los' g' w') g' r v' ∧ los.length ≤ los'.length := by
        intro hk
        obtain ⟨v, g', r1, r2, r3, r4, r5⟩ := qdf hp.tab m hs hk
        exact ⟨hd, v, r1, v, g', rfl, r2, fun j hj hn => by rw [r3 j hj, h0 j hj hn], r4, r5⟩
      cases e with
      | normal => exact fin hk
      | ret => exact fin hk
      | exit id => simp [qV] at hk
      | goto l => exact hk.elim
      | panic ch => exact hk.elim
      | outgrown => exact hk.elim
end Go.Proofs.Ytfjbclgbpdlkgaa

/- The evaluator S: the table of types is right, where a check by the kernel says so. -/
namespace Go.Proofs.Ytfjbclgbpdlkgaa
open Go
set_option linter.unusedVariables false
set_option linter.unusedSimpArgs false
variable {P : Program} {T : Tab}
def qi0 (v : Value) (z : ZK) : Bool :=
  match v, z with
  | .int k n, .int k' => decide (k = k') && decide (n = 0)
  | .bool false, .bool => true
  | .string ⟨⟨[]⟩⟩, .str => true
  | .slice none 0 0, .sl _ => true
  | .nilFunc, .fn => true
  | .pointer none, .ptr => true
  | _, _ => false
def JK : List Value → List ZK → Bool
  | [], [] => true
  | v :: vs, z :: zs => qi0 v z && JK vs zs
  | _, _ => false
theorem qgm {v : Value} {z : ZK} (h : qi0 v z = true) : v = z.val := by
  unfold qi0 at h
  split at h <;> first | rfl | (cases h; done) | skip
  simp only [Bool.and_eq_true, decide_eq_true_eq] at h
  obtain ⟨rfl, rfl⟩ := h
  rfl
theorem W5 : ∀ {vs : List Value} {zs : List ZK}, JK vs zs = true → vs = zs.map ZK.val
  | [], [], _ => rfl
  | v :: vs, z :: zs, h => by
    simp only [JK, Bool.and_eq_true] at h
    rw [qgm h.1, W5 h.2]; rfl
  | [], _ :: _, h => by cases h
  | _ :: _, [], h => by cases h
def isAggV (z : Value) : Bool :=
  match z with
  | .agg _ => true
  | _ => false
def K8 (agg : Bool) (z : Value) : Bool := if agg = true then isAggV z else z.oneCell'
def qi1 (P : Program) (t : Nat) (i : TI) : Bool :=
  match P.info? t, P.underlying t with
  | some info, some d =>
    match info.zero with
    | some z => Nat.beq info.size i.size && Nat.beq info.bytes i.bytes && JK z.cells.toList i.zero && (KO d == i.agg) && K8 i.agg z && Nat.beq i.zero.length i.size
    | none => false
  | _, _ => false
theorem qgn {t : Nat} {i : TI} (h : qi1 P t i = true) : TiOk P t i := by
  unfold qi1 at h
  split at h
  · rename_i info d h1 h2
    split at h
    · rename_i z hz
      simp only [Bool.and_eq_true, Nat.beq_eq, beq_iff_eq] at h
      obtain ⟨⟨⟨⟨⟨a1, a2⟩, a3⟩, a4⟩, a5⟩, a6⟩ := h
      refine ⟨info, z, d, h1, a1, a2, hz, W5 a3, h2, a4, ⟨fun e => ?_, fun e => ?_⟩, a6⟩
      · rw [e] at a5
        simp only [K8, if_true] at a5
        cases z <;> first | exact ⟨_, rfl⟩ | cases a5
      · rw [e] at a5
        simpa [K8] using a5
    · cases h
  · cases h
def Xc (P : Program) : Nat → List (Option TI) → Bool
  | _, [] => true
  | t, none :: l => Xc P (t + 1) l
  | t, some i :: l => match qi1 P t i with | true => Xc P (t + 1) l | false => false
theorem JL : ∀ {l : List (Option TI)} {k : Nat}, Xc P k l = true → ∀ t i, l[t]? = some (some i) → TiOk P (k + t) i
  | [], _, _, t, i, h => by simp at h
  | x :: l, k, h, t, i, ht => by
    cases t with
    | zero =>
      simp at ht; subst ht
      simp only [Xc] at h
      split at h
      · rename_i hc; exact qgn hc
      · cases h
    | succ t =>
      have hl : Xc P (k + 1) l = true := by
        cases x with
        | none => exact h
        | some j =>
          simp only [Xc] at h
          split at h
          · exact h
          · cases h
      have := JL hl t i (by simpa using ht)
      rw [show k + (t + 1) = k + 1 + t by omega]; exact this
def xj (P : Program) : List Field → List (Nat × Nat) → Bool
  | [], [] => true
  | f :: fs, (o, t) :: l => Nat.beq f.offset o && Nat.beq f.type t && (P.info? f.type).isSome && xj P fs l
  | _, _ => false
theorem yh : ∀ {fs : List Field} {l : List (Nat × Nat)}, xj P fs l = true → fs.map (fun f => (f.offset, f.type)) = l ∧ ∀ f, f ∈ fs → (P.info? f.type).isSome = true
  | [], [], _ => ⟨rfl, fun f h => by cases h⟩
  | f :: fs, (o, t) :: l, h => by
    simp only [xj, Bool.and_eq_true, Nat.beq_eq] at h
    obtain ⟨⟨⟨a1, a2⟩, a3⟩, a4⟩ := h
    obtain ⟨b1, b2⟩ := yh a4
    refine ⟨by simp [a1, a2, b1], fun g hg => ?_⟩
    rcases List.mem_cons.1 hg with rfl | hg
    · exact a3
    · exact b2 g hg
  | [], _ :: _, h => by cases h
  | _ :: _, [], h => by cases h
def jw (P : Program) : Nat → List Field → Bool
  | _, [] => true
  | o, f :: fs => Nat.beq f.offset o && (f.name != "_") && (match P.underlying f.type with | some (.int _) => true | _ => false) && jw P (o + 1) fs
def qh1 (P : Program) (t : Nat) (fields : Array Field) : Bool :=
  !(P.eqGuardType P.depth t) && !(P.stoodInHeld t) && jw P 0 fields.toList
def ukD (P : Program) (t : Nat) (u : UK) (d : TypeDesc) : Bool :=
  match u, d with
  | .str, .string => true
  | .bool, .bool => true
  | .int k, .int k' => decide (k' = k)
  | .slice e, .slice e' => Nat.beq e' e
  | .array n e, .array n' e' => Nat.beq n' n && Nat.beq e' e
  | .struct fs, .struct fields => xj P fields.toList fs
  | .eqs fs, .struct fields => xj P fields.toList fs && qh1 P t fields
  | _, _ => false
def qgo (P : Program) (t : Nat) (u : UK) : Bool :=
  match P.underlying t with
  | some d => ukD P t u d
  | none => false
def Xd (P : Program) : Nat → List (Option UK) → Bool
  | _, [] => true
  | t, none :: l => Xd P (t + 1) l
  | t, some u :: l => match qgo P t u with | true => Xd P (t + 1) l | false => false
theorem JM : ∀ {l : List (Option UK)} {k : Nat}, Xd P k l = true → ∀ t u, l[t]? = some (some u) → qgo P (k + t) u = true
  | [], _, _, t, i, h => by simp at h
  | x :: l, k, h, t, i, ht => by
    cases t with
    | zero =>
      simp at ht; subst ht
      simp only [Xd] at h
      split at h
      · rename_i hc; exact hc
      · cases h
    | succ t =>
      have hl : Xd P (k + 1) l = true := by
        cases x with
        | none => exact h
        | some j =>
          simp only [Xd] at h
          split at h
          · exact h
          · cases h
      have := JM hl t i (by simpa using ht)
      rw [show k + (t + 1) = k + 1 + t by omega]; exact this
theorem K9 (d : Nat) {w : World} : ∀ (fs : List Field) (k : Nat) (xs ys : List Value) (r : Bool), jw P k fs = true → fs.length + k = xs.length → xs.length = ys.length → xe (xs.drop k) (ys.drop k) = some r →
    (Op.eqFields (d + 1) xs.toArray ys.toArray fs).run P w = .ok r w := by
  intro fs
  induction fs with
  | nil =>
    intro k xs ys r h hl hlen he
    rw [List.drop_eq_nil_of_le (by simp at hl; omega), List.drop_eq_nil_of_le (by simp at hl; omega)] at he
    simp only [xe, Option.some.injEq] at he
    subst he
    simp [Op.eqFields]
  | cons f fs ih =>
    intro k xs ys r h hl hlen he
    simp only [jw, Bool.and_eq_true, Nat.beq_eq, bne_iff_ne, ne_eq] at h
    obtain ⟨⟨⟨h1, h2⟩, h3⟩, h4⟩ := h
    simp at hl
    have hx : k < xs.length := by omega
    have hy : k < ys.length := by omega
    rw [List.drop_eq_getElem_cons hx, List.drop_eq_getElem_cons hy] at he
    unfold xe at he
    split at he
    · rename_i e1 e2; cases e1
    · rename_i ki a xs' ki' b ys' e1 e2
      obtain ⟨e1a, e1b⟩ := List.cons.inj e1
      obtain ⟨e2a, e2b⟩ := List.cons.inj e2
      split at he
      · rename_i hk
        split at he
        · rename_i r' hr'
          obtain rfl := Option.some.inj he
          rw [← e1b, ← e2b] at hr'
          have hrec := ih (k + 1) xs ys r' h4 (by omega) hlen hr'
          split at h3
          · rename_i kk hkk
            have p1 : ∀ (cs : List Value) (v : Value), cs[k]? = some v → (part f.type cs.toArray f.offset).run P w = .ok v w := by
              intro cs v hv
              have : (isAgg f.type).run P w = .ok false w := Q0 hkk w
              simp [part, this, h1, hv]
            have q1 := p1 xs _ (List.getElem?_eq_getElem hx)
            have q2 := p1 ys _ (List.getElem?_eq_getElem hy)
            rw [e1a] at q1
            rw [e2a] at q2
            subst hk
            simp only [Op.eqFields, h2, not_false_eq_true, if_true, ne_eq, Sem.run_bind, q1, q2, Result.andThen_ok, run_equalIn_int (w := w) d f.type ki kk a b hkk, Sem.run_ite]
            cases hab : (a == b)
            · simp
            · simp [hrec]
          · cases h3
        · cases he
      · cases he
    · cases he
def Zi : List (Option TI) → List (Option UK) → Bool
  | some i :: l, some (.eqs fs) :: us => Nat.beq fs.length i.size && Zi l us
  | _ :: l, _ :: us => Zi l us
  | _, _ => true
theorem W6 : ∀ {l : List (Option TI)} {us : List (Option UK)}, Zi l us = true → ∀ (t : Nat) fs i, us[t]? = some (some (.eqs fs)) → l[t]? = some (some i) → fs.length = i.size
  | [], _, _, t, fs, i, _, h => by simp at h
  | _ :: _, [], _, t, fs, i, h, _ => by simp at h
  | x :: l, u :: us, h, t, fs, i, hu, hl => by
    cases t with
    | zero =>
      simp at hu hl
      subst hu; subst hl
      simp only [Zi, Bool.and_eq_true, Nat.beq_eq] at h
      exact h.1
    | succ t =>
      have h' : Zi l us = true := by
        unfold Zi at h
        split at h
        · rename_i e1 e2
          obtain ⟨-, rfl⟩ := List.cons.inj e1
          obtain ⟨-, rfl⟩ := List.cons.inj e2
          simp only [Bool.and_eq_true] at h; exact h.2
        · rename_i e1 e2
          obtain ⟨-, rfl⟩ := List.cons.inj e1
          obtain ⟨-, rfl⟩ := List.cons.inj e2
          exact h
        · rename_i h1 h2; exact absurd rfl (h2 _ _ _ _ rfl)
      exact W6 h' t fs i (by simpa using hu) (by simpa using hl)
theorem tab_ok {tiL : List (Option TI)} {ukL : List (Option UK)} (h1 : Xc P 0 tiL = true) (h2 : Xd P 0 ukL = true) (h3 : Zi tiL ukL = true) : TabOk P { ti := fun t => (tiL[t]?).getD none, und := fun t => (ukL[t]?).getD none } := by
  have g1 : ∀ t i, (tiL[t]?).getD none = some i → TiOk P t i := fun t i h => by
    cases hx : tiL[t]? with
    | none => rw [hx] at h; cases h
    | some x => rw [hx] at h; simp at h; subst h; simpa using JL h1 t i hx
  have g2 : ∀ t u, (ukL[t]?).getD none = some u → qgo P t u = true := fun t u h => by
    cases hx : ukL[t]? with
    | none => rw [hx] at h; cases h
    | some x => rw [hx] at h; simp at h; subst h; simpa using JM h2 t u hx
  have U : ∀ t u, (ukL[t]?).getD none = some u → ∃ d, P.underlying t = some d ∧ ukD P t u d = true := fun t u h => by
    have := g2 t u h
    unfold qgo at this
    cases hu : P.underlying t with
    | none => rw [hu] at this; cases this
    | some d => rw [hu] at this; exact ⟨d, rfl, this⟩
  refine ⟨g1, fun t h => ?_, fun t h => ?_, fun t k h => ?_, fun t e h => ?_, fun t n e h => ?_, fun t u fs h hf => ?_, fun t fs i h hi => ?_⟩
  · obtain ⟨d, hd, hc⟩ := U t _ h
    cases d <;> first | exact hd | (cases hc; done)
  · obtain ⟨d, hd, hc⟩ := U t _ h
    cases d <;> first | exact hd | (cases hc; done)
  · obtain ⟨d, hd, hc⟩ := U t _ h
    cases d <;> first | (cases hc; done) | skip
    simp only [ukD, decide_eq_true_eq] at hc
    rw [hd, hc]
  · obtain ⟨d, hd, hc⟩ := U t _ h
    cases d <;> first | (cases hc; done) | skip
    simp only [ukD, Nat.beq_eq] at hc
    rw [hd, hc]
  · obtain ⟨d, hd, hc⟩ := U t _ h
    cases d <;> first | (cases hc; done) | skip
    simp only [ukD, Nat.beq_eq, Bool.and_eq_true] at hc
    rw [hd, hc.1, hc.2]
  · obtain ⟨d, hd, hc⟩ := U t _ h
    cases u <;> first | (cases hf; done) | skip
    · cases hf
      cases d <;> first | (cases hc; done) | skip
      obtain ⟨b1, b2⟩ := yh hc
      exact ⟨_, hd, b1, b2⟩
    · cases hf
      cases d <;> first | (cases hc; done) | skip
      simp only [ukD, Bool.and_eq_true] at hc
      obtain ⟨b1, b2⟩ := yh hc.1
      exact ⟨_, hd, b1, b2⟩
  · obtain ⟨d, hd, hc⟩ := U t _ h
    cases d <;> first | (cases hc; done) | skip
    rename_i fields
    simp only [ukD, qh1, Bool.and_eq_true, Bool.not_eq_true'] at hc
    obtain ⟨b1, b2⟩ := yh hc.1
    refine ⟨hc.2.1.1, fun xs ys r w he hl => ?_⟩
    have hfo : P.fieldsOf t = fields := by unfold Program.fieldsOf; rw [hd]
    have hlen : ∀ (xs ys : List Value) (r : Bool), xe xs ys = some r → xs.length = ys.length := by
      intro xs
      induction xs with
      | nil => intro ys r h; cases ys <;> simp [xe] at h ⊢
      | cons x xs ih =>
        intro ys r h
        unfold xe at h
        split at h
        · rename_i e; cases e
        · rename_i e1
          obtain ⟨-, rfl⟩ := List.cons.inj e1
          split at h
          · split at h
            · rename_i hr; simp [ih _ _ hr]
            · cases h
          · cases h
        · cases h
    have hti := g1 t i hi
    obtain ⟨info, z, d', k1, k2, k3, k4, k5, k6, k7, k8, k9⟩ := hti.ok
    have hfl : fields.toList.length = i.size := by
      have e1 : fs.length = i.size := by
        refine W6 h3 t fs i ?_ ?_
        · cases hx : ukL[t]? with
          | none => simp only [hx] at h; cases h
          | some x => simp only [hx] at h; simp at h; rw [h]
        · cases hx : tiL[t]? with
          | none => simp only [hx] at hi; cases hi
          | some x => simp only [hx] at hi; simp at hi; rw [hi]
      rw [← e1, ← b1, List.length_map]
    have := K9 (P := P) 9998 (w := w) fields.toList 0 xs ys r hc.2.2 (by rw [hl]; simpa using hfl) (hlen xs ys r he) (by simpa using he)
    have e := run_equalIn_agg (P := P) w 9999 t xs.toArray ys.toArray (by rw [hfo]; exact hd) hc.2.1.2
    rw [hfo] at e
    show (Op.equalIn 10000 t _ _).run P w = _
    rw [e]
    exact this
end Go.Proofs.Ytfjbclgbpdlkgaa

/- The evaluator S: what it gives from some amount of fuel on, the words for it. -/
namespace Go.Proofs.Ytfjbclgbpdlkgaa
open Go
set_option linter.unusedVariables false
set_option linter.unusedSimpArgs false
def Ex (A : Nat → Out) (x : SV) (os : List SO) : Prop := ∃ n0, ∀ n, n0 ≤ n → A n = some (x, os)
def Ev (A : Nat → Out) (Q : SV → List SO → Prop) : Prop := ∃ x os, Q x os ∧ Ex A x os
theorem zV {A B : Nat → Out} {Q} (h : ∀ n, A n = B n) (h2 : Ev B Q) : Ev A Q := by
  obtain ⟨x, os, hq, n0, h0⟩ := h2
  exact ⟨x, os, hq, n0, fun n hn => (h n).trans (h0 n hn)⟩
theorem zb {L : Nat → Nat → Out} {B : Nat → Nat → Out} {c : Nat} {Q} (h : ∀ n m, L n (m + 1) = B n m) (h2 : Ev (fun n => B n (n + 1 - (c + 1))) Q) : Ev (fun n => L n (n + 1 - c)) Q := by
  obtain ⟨x, os, hq, n0, h0⟩ := h2
  refine ⟨x, os, hq, n0 + c, fun n hn => ?_⟩
  have : n + 1 - c = (n + 1 - (c + 1)) + 1 := by omega
  show L n (n + 1 - c) = _
  rw [this, h]
  exact h0 n (by omega)
theorem qQ {A B : Nat → Out} {Q} (h : ∀ n, A (n + 1) = B n) (h2 : Ev B Q) : Ev A Q := by
  obtain ⟨x, os, hq, n0, h0⟩ := h2
  refine ⟨x, os, hq, n0 + 1, fun n hn => ?_⟩
  obtain ⟨n, rfl⟩ : ∃ m, n = m + 1 := ⟨n - 1, by omega⟩
  rw [h]
  exact h0 n (by omega)
def jX : List Nat → List SV → Env
  | t :: ts, x :: xs => (t, x) :: jX ts xs
  | _, _ => []
end Go.Proofs.Ytfjbclgbpdlkgaa
