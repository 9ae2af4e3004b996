/- The evaluator S: regions whose order is drawn. What is kept beside a read; the static check. -/
import Derived.Test.YtjfegdlgepbjoaaSu
namespace Go.Proofs.Ytjfegdlgepbjoaa
open Go
set_option linter.unusedVariables false
set_option linter.unusedSimpArgs false
variable {P : Program} {T : Tab}

/-- The variables stay as they are (but q may be excepted). -/
def KeptB (q : Nat) (os os1 : List SO) : Prop := os.length ≤ os1.length ∧ (q < os.length → ∀ l, os[q]? = some (.box l) ↔ os1[q]? = some (.box l))

theorem KeptB.refl (q : Nat) (os : List SO) : KeptB q os os := ⟨Nat.le_refl _, fun _ _ => Iff.rfl⟩

theorem KeptB.trans {q : Nat} {os os1 os2 : List SO} (h : KeptB q os os1) (h' : KeptB q os1 os2) : KeptB q os os2 :=
  ⟨Nat.le_trans h.1 h'.1, fun hq l => (h.2 hq l).trans (h'.2 (Nat.lt_of_lt_of_le hq h.1) l)⟩

theorem KeptB.app (q : Nat) (os r : List SO) : KeptB q os (os ++ r) :=
  ⟨by simp, fun hq l => by rw [List.getElem?_append_left hq]⟩

theorem evN_kept {q ty : Nat} {os os' : List SO} {x : Option SV} {y : SV} (h : evN T ty os x = some (y, os')) : KeptB q os os' := by
  unfold evN at h
  split at h
  · split at h
    · split at h
      · obtain ⟨_, rfl⟩ := Prod.mk.inj (Option.some.inj h); exact KeptB.app _ _ _
      · simp at h
    · simp at h
  · obtain ⟨_, rfl⟩ := Prod.mk.inj (Option.some.inj h); exact KeptB.refl _ _

theorem zeroS_kept {q : Nat} : ∀ (z : List ZK) (os : List SO), KeptB q os (zeroS z os).2
  | [], os => KeptB.refl _ _
  | .sl sz :: zs, os => by
    simp only [zeroS]
    exact (KeptB.app _ _ _).trans (zeroS_kept zs (os ++ [.arr false sz []]))
  | .int _ :: zs, os => zeroS_kept zs os
  | .bool :: zs, os => zeroS_kept zs os
  | .str :: zs, os => zeroS_kept zs os
  | .fn :: zs, os => zeroS_kept zs os
  | .ptr :: zs, os => zeroS_kept zs os

theorem frz_kept {q j sz : Nat} {os : List SO} {l : List SV} {b : Bool} (hj : os[j]? = some (.arr b sz l)) : KeptB q os (os.set j (.frz sz l)) := by
  refine ⟨by simp, fun hq l' => ?_⟩
  rw [List.getElem?_set]
  by_cases e : j = q
  · subst e
    rw [if_pos rfl, hj]
    split <;> simp
  · rw [if_neg e]

theorem pureCell_kept {q : Nat} {os os1 : List SO} {x y : SV} (h : pureCell os x = some (y, os1)) : KeptB q os os1 := by
  unfold pureCell at h
  split at h
  · cases h; exact KeptB.refl _ _
  · cases h; exact KeptB.refl _ _
  · split at h
    · rename_i hj; cases h; exact frz_kept hj
    · cases h; exact KeptB.refl _ _
    · cases h
  · cases h

theorem pureCells_kept {q : Nat} : ∀ {l : List SV} {os os1 : List SO} {ys : List SV}, pureCells l os = some (ys, os1) → KeptB q os os1
  | [], _, _, _, h => by simp [pureCells] at h; rw [h.2]; exact KeptB.refl _ _
  | x :: xs, os, os1, ys, h => by
    simp only [pureCells] at h
    split at h
    · rename_i y os2 hy
      split at h
      · rename_i ys' os3 hys
        cases h
        exact (pureCell_kept hy).trans (pureCells_kept hys)
      · cases h
    · cases h

theorem pureS_kept {q : Nat} {os os1 : List SO} {x y : SV} (h : pureS os x = some (y, os1)) : KeptB q os os1 := by
  unfold pureS at h
  split at h
  · split at h
    · rename_i hys; cases h; exact pureCells_kept hys
    · cases h
  · exact pureCell_kept h

theorem pureL_kept {q : Nat} : ∀ {l : List SV} {os os1 : List SO} {ys : List SV}, pureL l os = some (ys, os1) → KeptB q os os1
  | [], _, _, _, h => by simp [pureL] at h; rw [h.2]; exact KeptB.refl _ _
  | x :: xs, os, os1, ys, h => by
    simp only [pureL] at h
    split at h
    · rename_i y os2 hy
      split at h
      · rename_i ys' os3 hys
        cases h
        exact (pureS_kept hy).trans (pureL_kept hys)
      · cases h
    · cases h

theorem partsN_kept {q : Nat} {fs : List (Nat × Nat)} : ∀ {ps : List (Nat × Option SV)} {os os1 : List SO} {r : List (Nat × SV)}, partsN T fs ps os = some (r, os1) → KeptB q os os1
  | [], _, _, _, h => by simp [partsN] at h; rw [h.2]; exact KeptB.refl _ _
  | (f, x) :: ps, os, os1, r, h => by
    simp only [partsN] at h
    split at h
    · split at h
      · rename_i hy
        split at h
        · split at h
          · rename_i hps
            cases h
            exact (evN_kept hy).trans (partsN_kept hps)
          · cases h
        · cases h
      · cases h
    · cases h

theorem freeze_kept {q : Nat} : ∀ (js : List Nat) {os os1 : List SO}, freeze js os = some os1 → KeptB q os os1 := by
  intro js
  induction js with
  | nil => intro os os1 h; simp only [freeze, Option.some.injEq] at h; subst h; exact KeptB.refl _ _
  | cons j js ih =>
    intro os os1 h
    simp only [freeze] at h
    split at h
    · rename_i hj; exact (frz_kept hj).trans (ih h)
    · exact ih h
    · cases h

/-- What a call lends. -/
def lendsOf (c : Cx) (os : List SO) (f : SV) (args : List SV) : List Nat :=
  match f with
  | .fn g caps => reach os 100 ((args ++ caps).flatMap (lendIds (c.own g))) []
  | _ => []

theorem okKeep_eq {nl : Nat} {l keep : List Nat} (h : okKeep nl l = some keep) : keep = l := by
  unfold okKeep at h
  split at h
  · exact (Option.some.inj h).symm
  · cases h

theorem callee_kept {c : Cx} {q : Nat} {os os1 : List SO} {f : SV} {args : List SV} {y : SV} (h : calleeS c os f args = some (y, os1)) (hq : q ∉ lendsOf c os f args) : KeptB q os os1 := by
  unfold calleeS at h
  split at h
  rotate_left
  · cases h
  unfold lendsOf at hq
  unfold callS at h
  split at h
  · simp at h
  rename_i keep hkeep
  obtain ⟨hn, -, -⟩ := okKeep_of hkeep
  simp only at hq
  have hk := okKeep_eq hkeep
  rw [← hk] at hq
  split at h
  · simp at h
  split at h
  rotate_left
  · simp at h
  split at h
  · simp at h
  rename_i r los hcall
  split at h
  · simp at h
  rename_i os0 hfrz
  split at h
  · simp at h
  rename_i os1' hgb
  split at h
  rotate_left
  · simp at h
  cases h
  have h0 : KeptB q os os0 := by
    split at hfrz
    · exact freeze_kept _ hfrz
    · cases hfrz; exact KeptB.refl _ _
  obtain ⟨b1, b2, -⟩ := giveBack_of _ keep los os0 os1' hn hgb
  have h1 : KeptB q os0 os1' := ⟨by rw [b1]; exact Nat.le_refl _, fun _ l => by
    rw [b2 q fun i hi => hq (List.mem_of_getElem? hi)]⟩
  exact (h0.trans h1).trans (KeptB.app _ _ _)

theorem ext_kept {c : Cx} {q : Nat} {env : Env} {os os1 : List SO} {o : Oper} {x : SV} (hc : cls c.T o.op = .ext) (h : opS c env os o = some (x, os1)) : KeptB q os os1 := by
  obtain ⟨dst, op, type, pos, after, guard⟩ := o
  cases op <;> simp only [opS] at h
  case move y => exact evN_kept h
  case assign y => exact evN_kept h
  case alloc t =>
    unfold allocS at h
    split at h
    · cases h; exact (zeroS_kept _ _).trans (KeptB.app _ _ _)
    · cases h
  case box t y =>
    unfold boxS at h
    split at h
    · rename_i hy
      split at h
      · cases h; exact (evN_kept hy).trans (KeptB.app _ _ _)
      · cases h
    · cases h
  case build t ps =>
    unfold buildS at h
    split at h
    · split at h
      · split at h
        · rename_i hp
          simp only at h
          split at h
          · cases h; exact (partsN_kept hp).trans (zeroS_kept _ _)
          · cases h
        · cases h
      · cases h
    · cases h
  case buildSlice t n ps =>
    unfold buildSliceS at h
    split at h
    · split at h
      · split at h
        · split at h
          · rename_i hp
            split at h
            · cases h; exact (pureL_kept hp).trans (KeptB.app _ _ _)
            · cases h
          · cases h
        · cases h
      · cases h
    · cases h
  case convert s d y => simp only [cls] at hc; split at hc <;> cases hc
  case call cl =>
    obtain ⟨callee, args, ats⟩ := cl
    cases callee with
    | builtin b => cases b <;> simp [cls] at hc
    | value f => simp [cls] at hc
    | invoke r m => simp [cls] at hc
  all_goals first | (simp [cls] at hc; done) | (cases h; done)

/-- A read leaves all as it is. -/
theorem rd_same {c : Cx} {env : Env} {os os1 : List SO} {o : Oper} {x : SV} (hc : cls c.T o.op = .rd ∨ cls c.T o.op = .ld) (h : opS c env os o = some (x, os1)) : os1 = os := by
  obtain ⟨dst, op, type, pos, after, guard⟩ := o
  cases op <;> simp only [opS] at h
  case move y => unfold cls at hc; rcases hc with hc | hc <;> (split at hc <;> first | (cases hc; done) | (rename_i e; cases e; done))
  case assign y => unfold cls at hc; rcases hc with hc | hc <;> (split at hc <;> first | (cases hc; done) | (rename_i e; cases e; done))
  case load t y => exact (ret1_eq h).2
  case indexAddr t y z => exact (ret1_eq h).2
  case slice t y lo hi mx =>
    cases mx with
    | none => exact (ret1_eq h).2
    | some m =>
      cases lo with
      | some l => cases h
      | none =>
        cases hi with
        | none => cases h
        | some z => exact (ret1_eq h).2
  case convert s d y => simp only [cls] at hc; split at hc <;> simp at hc
  case call cl =>
    obtain ⟨callee, args, ats⟩ := cl
    cases callee with
    | builtin b =>
      cases b <;> simp [cls] at hc
      simp only at h
      split at h
      · unfold builtinS at h
        split at h
        · unfold lenO at h
          split at h
          · cases h; rfl
          · cases h
        all_goals first | (rename_i e1 _; cases e1; done) | (cases h; done)
      · cases h
    | value f => simp [cls] at hc
    | invoke r m => simp [cls] at hc
  all_goals first | (simp [cls] at hc; done) | (cases h; done)

/-! ### the static check -/
theorem allI_spec {f : Nat → Oper → Bool} : ∀ {l : List Oper} {k : Nat}, allI f k l = true → ∀ i o, l[i]? = some o → f (k + i) o = true
  | [], _, _, i, o, h => by simp at h
  | x :: xs, k, h, i, o, hi => by
    simp only [allI, Bool.and_eq_true] at h
    cases i with
    | zero => simp at hi; subst hi; exact h.1
    | succ i =>
      have := allI_spec h.2 i o (by simpa using hi)
      rw [show k + (i + 1) = k + 1 + i by omega]; exact this

theorem fold_bit {acc : List Nat} {e : Nat} : ∀ (l : List Nat) (m : Nat), (l.foldl (fun m e => m ||| (1 <<< e ||| acc.getD e 0)) m).testBit e = true →
    m.testBit e = true ∨ ∃ e1, e1 ∈ l ∧ (e1 = e ∨ (acc.getD e1 0).testBit e = true) := by
  intro l
  induction l with
  | nil => intro m h; exact .inl h
  | cons x xs ih =>
    intro m h
    simp only [List.foldl_cons] at h
    rcases ih _ h with h | ⟨e1, h1, h2⟩
    · rw [Nat.testBit_or, Nat.testBit_or] at h
      simp only [Bool.or_eq_true] at h
      rcases h with h | h | h
      · exact .inl h
      · refine .inr ⟨x, by simp, .inl ?_⟩
        rw [Nat.testBit_shiftLeft] at h
        simp at h
        obtain ⟨h1, h2⟩ := h
        have : e - x = 0 := by
          by_cases h0 : e - x = 0
          · exact h0
          · have := Nat.testBit_one_eq_true_iff_self_eq_zero.1 h2
            omega
        omega
      · exact .inr ⟨x, by simp, .inr h⟩
    · exact .inr ⟨e1, by simp [h1], h2⟩

theorem masks_ok {D : Nat → Prop} {ops : List Oper} (hD : ∀ j o, ops[j]? = some o → D j → ∀ e, e ∈ bindOn o → D e) : ∀ (os : List Oper) (acc : List Nat), ops.drop acc.length = os →
    (∀ j, D j → ∀ e, (acc.getD j 0).testBit e = true → D e) → ∀ j, D j → ∀ e, ((masks acc os).getD j 0).testBit e = true → D e := by
  intro os
  induction os with
  | nil => intro acc _ h; exact h
  | cons o os ih =>
    intro acc hd h
    simp only [masks]
    refine ih _ ?_ ?_
    · rw [List.length_append, List.length_singleton, ← List.drop_drop, hd]; rfl
    · intro j hj e he
      rcases Nat.lt_or_ge j acc.length with hlt | hge
      · refine h j hj e ?_
        rw [List.getD_eq_getElem?_getD, List.getElem?_append_left hlt] at he
        rw [List.getD_eq_getElem?_getD]; exact he
      · rw [List.getD_eq_getElem?_getD, List.getElem?_append_right hge] at he
        cases hk : j - acc.length with
        | succ k => rw [hk] at he; simp at he
        | zero =>
          rw [hk] at he
          simp only [List.getElem?_cons_zero, Option.getD_some] at he
          have hjl : j = acc.length := by omega
          subst hjl
          have ho : ops[acc.length]? = some o := by
            have := congrArg List.head? hd
            simpa [List.head?_drop] using this
          rcases fold_bit _ _ he with h0 | ⟨e1, h1, h2⟩
          · simp at h0
          · have hde := hD _ o ho hj e1 h1
            rcases h2 with rfl | h2
            · exact hde
            · exact h e1 hde e h2

/-- What the check says. -/
structure Drawn (T : Tab) (ops : List Oper) (ms : List Nat) : Prop where
  low : ∀ (j : Nat) (o : Oper), ops[j]? = some o → ∀ e, e ∈ bindOn o → e < j
  one : ∀ (i j : Nat) (q o : Oper) (s : Nat), ops[i]? = some q → ops[j]? = some o → q.dst = some s → o.dst = some s → i = j
  data : ∀ (i j : Nat) (q o : Oper) (s : Nat), ops[i]? = some q → ops[j]? = some o → q.dst = some s → s ∈ tmpsOf ops o → (i < j ∧ ordB ms i j = true) ∨ (j < i ∧ ordB ms j i = true ∧ (cls T o.op).notLd = true)
  pair : ∀ (i j : Nat) (q o : Oper), ops[i]? = some q → ops[j]? = some o → unord ms i j = true → okPair (cls T q.op) (cls T o.op) = true

theorem drawn_of {ops : List Oper} {ms : List Nat} (h : drawOk T ops ms = true) : Drawn T ops ms := by
  unfold drawOk at h
  have H : ∀ j o, ops[j]? = some o → (bindOn o).all (fun e => Nat.blt e j) = true ∧ allI (okDraw1 T ops ms j o) 0 ops = true := fun j o ho => by
    have := allI_spec h j o ho
    simp only [Nat.zero_add, Bool.and_eq_true] at this
    exact this
  have H2 : ∀ i j q o, ops[i]? = some q → ops[j]? = some o → okDraw1 T ops ms j o i q = true := fun i j q o hi hj => by
    have := allI_spec (H j o hj).2 i q hi
    simpa using this
  refine ⟨fun j o ho e he => ?_, fun i j q o s hi hj hs ht => ?_, fun i j q o s hi hj hs ht => ?_, fun i j q o hi hj hu => ?_⟩
  · have := List.all_eq_true.1 (H j o ho).1 e he
    simpa using this
  · have := H2 i j q o hi hj
    unfold okDraw1 at this
    simp only [Bool.and_eq_true] at this
    have h1 := this.1.1
    simp only [hs, ht] at h1
    simpa using h1
  · have := H2 i j q o hi hj
    unfold okDraw1 at this
    simp only [Bool.and_eq_true] at this
    have h1 := this.1.2
    simp only [hs] at h1
    have hc : (tmpsOf ops o).contains s = true := by simpa using ht
    simp only [hc, Bool.not_true, Bool.false_or, Bool.or_eq_true, Bool.and_eq_true, Nat.blt_eq] at h1
    exact h1.imp id fun h => ⟨h.1.1, h.1.2, h.2⟩
  · have := H2 i j q o hi hj
    unfold okDraw1 at this
    simp only [Bool.and_eq_true, hu] at this
    simpa using this.2

theorem unord_lt {ms : List Nat} {i j : Nat} (h : i < j) (hu : unord ms i j = false) : ordB ms i j = true := by
  unfold unord at hu
  simp only [Bool.or_eq_false_iff] at hu
  have := hu.1
  have hb : Nat.blt i j = true := by simpa using h
  rw [hb] at this
  simpa using this

theorem unord_comm {ms : List Nat} {i j : Nat} : unord ms i j = unord ms j i := by
  unfold unord; rw [Bool.or_comm]

end Go.Proofs.Ytjfegdlgepbjoaa
