/- The evaluator S: regions whose order is drawn are sound. -/
import Derived.Test.YtjfegdlgepbjoaaSv
namespace Go.Proofs.Ytjfegdlgepbjoaa
open Go
set_option linter.unusedVariables false
set_option linter.unusedSimpArgs false
variable {P : Program} {T : Tab}

/-- What the checks at run time say of operation j. -/
def ChkOK (c : Cx) (ops : List Oper) (ms : List Nat) (j : Nat) (env : Env) (os : List SO) (o : Oper) : Prop :=
  (∀ t p, o.op = .load t p → anyU c.T ms j 0 ops = true → isBox (ev env p) = true) ∧
  (∀ f args ts, o.op = .call { callee := .value f, args := args, argTypes := ts } → loadsU c.T ms j 0 ops ≠ [] →
    keepOk c os (ev env f) ((args.toList.zip ts.toList).map (argO c.T env)) (((loadsU c.T ms j 0 ops).filter fun p => Nat.blt p.1 j).map fun p => ev env p.2) ((loadsU c.T ms j 0 ops).any fun p => Nat.blt j p.1) = true)

theorem dchk_some {b : Bool} {x : Out} {y : SV × List SO} (h : dchk b x = some y) : b = true ∧ x = some y := by
  cases b
  · cases h
  · exact ⟨rfl, h⟩

theorem chkD_some {c : Cx} {ops : List Oper} {ms : List Nat} {j : Nat} {env : Env} {os : List SO} {o : Oper} {x : Out} {y : SV × List SO} (h : chkD c ops ms j env os o x = some y) :
    x = some y ∧ ChkOK c ops ms j env os o := by
  unfold chkD at h
  split at h
  · rename_i t p ho
    split at h
    · rename_i hu
      obtain ⟨h1, h2⟩ := dchk_some h
      exact ⟨h2, And.intro (fun t' p' e _ => by rw [ho] at e; cases e; exact h1) (fun f args ts e => by rw [ho] at e; cases e)⟩
    · rename_i hu
      exact ⟨h, And.intro (fun t' p' e hu' => by rw [hu] at hu'; cases hu') (fun f args ts e => by rw [ho] at e; cases e)⟩
  · rename_i f args ts ho
    split at h
    · rename_i hl
      exact ⟨h, And.intro (fun t p e => by rw [ho] at e; cases e) (fun f args ts e hne => absurd hl hne)⟩
    · rename_i l hl
      obtain ⟨h1, h2⟩ := dchk_some h
      exact ⟨h2, And.intro (fun t p e => by rw [ho] at e; cases e) (fun f args ts e _ => by rw [ho] at e; cases e; exact h1)⟩
  · rename_i h1 h2
    exact ⟨h, And.intro (fun t p e => absurd e (h1 t p)) (fun f args ts e => absurd e (h2 f args ts))⟩

/-- The way through a region in the order of the text. -/
structure Tr (c : Cx) (nt : Nat) (ops : List Oper) (ms : List Nat) (lo : Nat) (E : Nat → Env) (O : Nat → List SO) (X : Nat → SV) : Prop where
  step : ∀ (j : Nat) (o : Oper), lo ≤ j → ops[j]? = some o → op1 c ops (E j) (O j) o = some (X j, O (j + 1)) ∧ E (j + 1) = put (E j) o.dst (X j) ∧ okDst nt o.dst = true ∧ ChkOK c ops ms j (E j) (O j) o

theorem silent_chk {c : Cx} {ops : List Oper} {ms : List Nat} {j : Nat} {env : Env} {os : List SO} {o : Oper} {x : SV} (h : silent env o = some x) : ChkOK c ops ms j env os o := by
  unfold silent at h
  split at h
  · cases h
  · split at h
    · rename_i ho; exact And.intro (fun t p e => by rw [ho] at e; cases e) (fun f args ts e => by rw [ho] at e; cases e)
    · rename_i ho; exact And.intro (fun t p e => by rw [ho] at e; cases e) (fun f args ts e => by rw [ho] at e; cases e)
    · rename_i ho; exact And.intro (fun t p e => by rw [ho] at e; cases e) (fun f args ts e => by rw [ho] at e; cases e)
    · cases h

theorem tr_of {c : Cx} {nt : Nat} {ops : List Oper} {ms : List Nat} {k : Env → List SO → Out} {out : SV × List SO} : ∀ (rest : List Oper) (j : Nat) (env : Env) (os : List SO), ops.drop j = rest →
    runD c nt ops ms j rest env os k = some out → ∃ E O X, E j = env ∧ O j = os ∧ Tr c nt ops ms j E O X ∧ k (E (j + rest.length)) (O (j + rest.length)) = some out := by
  intro rest
  induction rest with
  | nil =>
    intro j env os hd h
    refine ⟨fun _ => env, fun _ => os, fun _ => .dead, rfl, rfl, ⟨fun i o hi ho => ?_⟩, h⟩
    have hlen : ops.length ≤ j := by
      have := congrArg List.length hd
      simp at this; omega
    have := lt_of_getElem? ho
    omega
  | cons o rest ih =>
    intro j env os hd h
    have hoi : ops[j]? = some o := by
      have := congrArg List.head? hd
      simpa [List.head?_drop] using this
    have hd' : ops.drop (j + 1) = rest := by rw [← List.drop_drop, hd]; rfl
    have main : ∀ (x : SV) (os1 : List SO), okDst nt o.dst = true → op1 c ops env os o = some (x, os1) → ChkOK c ops ms j env os o → runD c nt ops ms (j + 1) rest (put env o.dst x) os1 k = some out →
        ∃ E O X, E j = env ∧ O j = os ∧ Tr c nt ops ms j E O X ∧ k (E (j + (o :: rest).length)) (O (j + (o :: rest).length)) = some out := by
      intro x os1 hdst hop hchk hk
      obtain ⟨E, O, X, e1, e2, ⟨tr⟩, hf⟩ := ih (j + 1) _ _ hd' hk
      refine ⟨fun i => if i = j then env else E i, fun i => if i = j then os else O i, fun i => if i = j then x else X i, by simp, by simp, ⟨fun i p hi hp => ?_⟩, ?_⟩
      · by_cases e : i = j
        · subst e
          rw [hoi] at hp; obtain rfl := Option.some.inj hp
          simp only [if_true, if_neg (show ¬ i + 1 = i by omega), e1, e2]
          exact ⟨hop, trivial, hdst, hchk⟩
        · simp only [if_neg e, if_neg (show ¬ i + 1 = j by omega)]
          exact tr i p (by omega) hp
      · have e3 : j + (o :: rest).length = j + 1 + rest.length := by simp; omega
        rw [e3]
        simp only [if_neg (show ¬ j + 1 + rest.length = j by omega)]
        exact hf
    simp only [runD] at h
    split at h
    · cases h
    · rename_i hdst
      split at h
      · rename_i x hx
        obtain ⟨hg, hop⟩ := silent_op (c := c) (os := os) hx
        exact main x os hdst (by unfold op1; rw [hg]; exact hop) (silent_chk hx) h
      · obtain ⟨h1, hchk⟩ := chkD_some h
        obtain ⟨r, hr, hk⟩ := Option.bind_eq_some_iff.1 h1
        obtain ⟨x, os1⟩ := r
        exact main x os1 hdst hr hchk hk

/-- One operation, wherever it may stand. -/
theorem op1_ok {c : Cx} (hO : OpsOK P c) {ops : Array Oper} {fr : Fr} {os os1 : List SO} {g : Nat → Gh} {w : World} {env : Env} {a : Act} {o : Oper} {x : SV} {j : Nat} {K : Act → World → Prop} {Q : Exit → Act → World → Prop}
    (m : Mem fr os g w) (hs : Slots w (Bk fr os g w) g env a.tmps) (hj : ops[j]? = some o) (h : op1 c ops.toList env os o = some (x, os1))
    (hK : ∀ v w', Res fr os g w os1 x v w' → K (a.put o.dst v) w') : os.length ≤ os1.length ∧ wpOp P ops Q j K a w := by
  unfold wpOp
  simp only [hj]
  unfold op1 at h
  split at h
  · rename_i hg
    have hw : Region.wanted o (yielded ops a.tmps) = true := by simp [Region.wanted, hg]
    rw [if_pos hw]
    obtain ⟨hok, hle⟩ := hO fr os os1 g w env a o x m hs h
    exact ⟨hle, .inl (hok _ _ hK)⟩
  · rename_i j' want hg
    unfold gd at h
    split at h
    · rename_i b hb
      have hy := (yielded_of (ops := ops) hs j' (by rw [hb]; simp)).1 b hb
      split at h
      · rename_i e
        have hw : Region.wanted o (yielded ops a.tmps) = true := by simp [Region.wanted, hg, hy, e]
        rw [if_pos hw]
        obtain ⟨hok, hle⟩ := hO fr os os1 g w env a o x m hs h
        exact ⟨hle, .inl (hok _ _ hK)⟩
      · rename_i e
        obtain ⟨rfl, rfl⟩ := Prod.mk.inj (Option.some.inj h)
        have hw : ¬ Region.wanted o (yielded ops a.tmps) = true := by simp [Region.wanted, hg, hy, e]
        rw [if_neg hw]
        exact ⟨Nat.le_refl _, hK _ _ (Res.same m .undef)⟩
    · simp at h
    · rename_i hnb hnd
      obtain ⟨rfl, rfl⟩ := Prod.mk.inj (Option.some.inj h)
      have hy := (yielded_of (ops := ops) hs j' (fun e => hnd e)).2 (fun b e => hnb b e)
      have hw : ¬ Region.wanted o (yielded ops a.tmps) = true := by simp [Region.wanted, hg, hy]
      rw [if_neg hw]
      exact ⟨Nat.le_refl _, hK _ _ (Res.same m .undef)⟩

/-- What holds of op1 where it holds of opS. -/
theorem op1_elim {c : Cx} {ops : List Oper} {env : Env} {os os1 : List SO} {o : Oper} {x : SV} {M : Prop} (h : op1 c ops env os o = some (x, os1)) (hA : opS c env os o = some (x, os1) → M) (hB : os1 = os → M) : M := by
  unfold op1 at h
  split at h
  · exact hA h
  · unfold gd at h
    split at h
    · split at h
      · exact hA h
      · cases h; exact hB rfl
    · cases h
    · cases h; exact hB rfl

/-- An operation that reads nothing, or reads the same, gives the same. -/
theorem op1_same {c : Cx} {ops : List Oper} {env : Env} {os os1 os2 : List SO} {o : Oper} {x : SV} (h : op1 c ops env os o = some (x, os1)) (hA : opS c env os o = some (x, os1) → os1 = os ∧ opS c env os2 o = some (x, os2)) :
    os1 = os ∧ op1 c ops env os2 o = some (x, os2) := by
  unfold op1 at h ⊢
  split at h
  · rename_i hg; exact hA h
  · rename_i j want hg
    unfold gd at h ⊢
    split at h
    · split at h
      · rename_i e; obtain ⟨h1, h2⟩ := hA h; exact ⟨h1, by rw [if_pos e]; exact h2⟩
      · rename_i e; cases h; exact ⟨rfl, by rw [if_neg e]⟩
    · cases h
    · cases h; exact ⟨rfl, rfl⟩

theorem loadsU_mem {ms : List Nat} {j : Nat} : ∀ {l : List Oper} {k : Nat} {i : Nat} {o : Oper} {t : Nat} {p : Operand}, l[i]? = some o → o.op = .load t p → unord ms (k + i) j = true → (k + i, p) ∈ loadsU T ms j k l
  | [], _, i, _, _, _, h, _, _ => by simp at h
  | x :: xs, k, i, o, t, p, h, ho, hu => by
    cases i with
    | zero =>
      simp at h; subst h
      simp only [loadsU, ho]
      rw [show k + 0 = k from rfl] at hu ⊢
      rw [if_pos hu]; simp
    | succ i =>
      have := loadsU_mem (l := xs) (k := k + 1) (i := i) (by simpa using h) ho (by rw [show k + 1 + i = k + (i + 1) by omega]; exact hu)
      rw [show k + 1 + i = k + (i + 1) by omega] at this
      simp only [loadsU]
      split
      · split
        · simp [this]
        · exact this
      · exact this

theorem anyU_false {ms : List Nat} {j : Nat} : ∀ {l : List Oper} {k : Nat}, anyU T ms j k l = false → ∀ {i : Nat} {o : Oper}, l[i]? = some o → (cls T o.op).isE = true → unord ms (k + i) j = false
  | [], _, _, i, _, h, _ => by simp at h
  | x :: xs, k, h, i, o, hi, hE => by
    simp only [anyU, Bool.or_eq_false_iff] at h
    cases i with
    | zero =>
      simp at hi; subst hi
      have := h.1
      rw [hE] at this; simpa using this
    | succ i =>
      have := anyU_false h.2 (i := i) (by simpa using hi) hE
      rw [show k + (i + 1) = k + 1 + i by omega]; exact this

end Go.Proofs.Ytjfegdlgepbjoaa
