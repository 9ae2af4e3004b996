/- The evaluator S and what it says of functions: Sw, Sx. -/
import Derived.Test.YtikennabfbkdhaaSv
/- The evaluator S: regions whose order is drawn are sound. -/
namespace Go.Proofs.Ytikennabfbkdhaa
open Go
set_option linter.unusedVariables false
set_option linter.unusedSimpArgs false
variable {P : Program} {T : Tab}
def ChkOK (c : Cx) (ops : List Oper) (ms : List Nat) (j : Nat) (env : Env) (os : List SO) (o : Oper) : Prop :=
  (∀ t p, o.op = .load t p → anyU c.T ms j 0 ops = true → isBox (ev env p) = true) ∧
  (∀ f args ts, o.op = .call { callee := .value f, args := args, argTypes := ts } → loadsU c.T ms j 0 ops ≠ [] →
    keepOk c os (ev env f) ((args.toList.zip ts.toList).map (argO c.T env)) (((loadsU c.T ms j 0 ops).filter fun p => Nat.blt p.1 j).map fun p => ev env p.2) ((loadsU c.T ms j 0 ops).any fun p => Nat.blt j p.1) = true)
theorem dchk_some {b : Bool} {x : Out} {y : SV × List SO} (h : dchk b x = some y) : b = true ∧ x = some y := by
  cases b
  · cases h
  · exact ⟨rfl, h⟩
theorem chkD_some {c : Cx} {ops : List Oper} {ms : List Nat} {j : Nat} {env : Env} {os : List SO} {o : Oper} {x : Out} {y : SV × List SO} (h : chkD c ops ms j env os o x = some y) :
    x = some y ∧ ChkOK c ops ms j env os o := by
  unfold chkD at h
  split at h
  · rename_i t p ho
    split at h
    · rename_i hu
      obtain ⟨h1, h2⟩ := dchk_some h
      exact ⟨h2, And.intro (fun t' p' e _ => by rw [ho] at e; cases e; exact h1) (fun f args ts e => by rw [ho] at e; cases e)⟩
    · rename_i hu
      exact ⟨h, And.intro (fun t' p' e hu' => by rw [hu] at hu'; cases hu') (fun f args ts e => by rw [ho] at e; cases e)⟩
  · rename_i f args ts ho
    split at h
    · rename_i hl
      exact ⟨h, And.intro (fun t p e => by rw [ho] at e; cases e) (fun f args ts e hne => absurd hl hne)⟩
    · rename_i l hl
      obtain ⟨h1, h2⟩ := dchk_some h
      exact ⟨h2, And.intro (fun t p e => by rw [ho] at e; cases e) (fun f args ts e _ => by rw [ho] at e; cases e; exact h1)⟩
  · rename_i h1 h2
    exact ⟨h, And.intro (fun t p e => absurd e (h1 t p)) (fun f args ts e => absurd e (h2 f args ts))⟩
structure Tr (c : Cx) (nt : Nat) (ops : List Oper) (ms : List Nat) (lo : Nat) (E : Nat → Env) (O : Nat → List SO) (X : Nat → SV) : Prop where
  step : ∀ (j : Nat) (o : Oper), lo ≤ j → ops[j]? = some o → op1 c ops (E j) (O j) o = some (X j, O (j + 1)) ∧ E (j + 1) = put (E j) o.dst (X j) ∧ okDst nt o.dst = true ∧ ChkOK c ops ms j (E j) (O j) o
theorem silent_chk {c : Cx} {ops : List Oper} {ms : List Nat} {j : Nat} {env : Env} {os : List SO} {o : Oper} {x : SV} (h : silent env o = some x) : ChkOK c ops ms j env os o := by
  unfold silent at h
  split at h
  · cases h
  · split at h
    · rename_i ho; exact And.intro (fun t p e => by rw [ho] at e; cases e) (fun f args ts e => by rw [ho] at e; cases e)
    · rename_i ho; exact And.intro (fun t p e => by rw [ho] at e; cases e) (fun f args ts e => by rw [ho] at e; cases e)
    · rename_i ho; exact And.intro (fun t p e => by rw [ho] at e; cases e) (fun f args ts e => by rw [ho] at e; cases e)
    · cases h
theorem tr_of {c : Cx} {nt : Nat} {ops : List Oper} {ms : List Nat} {k : Env → List SO → Out} {out : SV × List SO} : ∀ (rest : List Oper) (j : Nat) (env : Env) (os : List SO), ops.drop j = rest →
    runD c nt ops ms j rest env os k = some out → ∃ E O X, E j = env ∧ O j = os ∧ Tr c nt ops ms j E O X ∧ k (E (j + rest.length)) (O (j + rest.length)) = some out := by
  intro rest
  induction rest with
  | nil =>
    intro j env os hd h
    refine ⟨fun _ => env, fun _ => os, fun _ => .dead, rfl, rfl, ⟨fun i o hi ho => ?_⟩, h⟩
    have hlen : ops.length ≤ j := by
      have := congrArg List.length hd
      simp at this; omega
    have := lt_of_getElem? ho
    omega
  | cons o rest ih =>
    intro j env os hd h
    have hoi : ops[j]? = some o := by
      have := congrArg List.head? hd
      simpa [List.head?_drop] using this
    have hd' : ops.drop (j + 1) = rest := by rw [← List.drop_drop, hd]; rfl
    have main : ∀ (x : SV) (os1 : List SO), okDst nt o.dst = true → op1 c ops env os o = some (x, os1) → ChkOK c ops ms j env os o → runD c nt ops ms (j + 1) rest (put env o.dst x) os1 k = some out →
        ∃ E O X, E j = env ∧ O j = os ∧ Tr c nt ops ms j E O X ∧ k (E (j + (o :: rest).length)) (O (j + (o :: rest).length)) = some out := by
      intro x os1 hdst hop hchk hk
      obtain ⟨E, O, X, e1, e2, ⟨tr⟩, hf⟩ := ih (j + 1) _ _ hd' hk
      refine ⟨fun i => if i = j then env else E i, fun i => if i = j then os else O i, fun i => if i = j then x else X i, by simp, by simp, ⟨fun i p hi hp => ?_⟩, ?_⟩
      · by_cases e : i = j
        · subst e
          rw [hoi] at hp; obtain rfl := Option.some.inj hp
          simp only [if_true, if_neg (show ¬ i + 1 = i by omega), e1, e2]
          exact ⟨hop, trivial, hdst, hchk⟩
        · simp only [if_neg e, if_neg (show ¬ i + 1 = j by omega)]
          exact tr i p (by omega) hp
      · have e3 : j + (o :: rest).length = j + 1 + rest.length := by simp; omega
        rw [e3]
        simp only [if_neg (show ¬ j + 1 + rest.length = j by omega)]
        exact hf
    simp only [runD] at h
    split at h
    · cases h
    · rename_i hdst
      split at h
      · rename_i x hx
        obtain ⟨hg, hop⟩ := silent_op (c := c) (os := os) hx
        exact main x os hdst (by unfold op1; rw [hg]; exact hop) (silent_chk hx) h
      · obtain ⟨h1, hchk⟩ := chkD_some h
        obtain ⟨r, hr, hk⟩ := Option.bind_eq_some_iff.1 h1
        obtain ⟨x, os1⟩ := r
        exact main x os1 hdst hr hchk hk
theorem op1_ok {c : Cx} (hO : OpsOK P c) {ops : Array Oper} {fr : Fr} {os os1 : List SO} {g : Nat → Gh} {w : World} {env : Env} {a : Act} {o : Oper} {x : SV} {j : Nat} {K : Act → World → Prop} {Q : Exit → Act → World → Prop}
    (m : Mem fr os g w) (hs : Slots w (Bk fr os g w) g env a.tmps) (hj : ops[j]? = some o) (h : op1 c ops.toList env os o = some (x, os1))
    (hK : ∀ v w', Res fr os g w os1 x v w' → K (a.put o.dst v) w') : os.length ≤ os1.length ∧ wpOp P ops Q j K a w := by
  unfold wpOp
  simp only [hj]
  unfold op1 at h
  split at h
  · rename_i hg
    have hw : Region.wanted o (yielded ops a.tmps) = true := by simp [Region.wanted, hg]
    rw [if_pos hw]
    obtain ⟨hok, hle⟩ := hO fr os os1 g w env a o x m hs h
    exact ⟨hle, .inl (hok _ _ hK)⟩
  · rename_i j' want hg
    unfold gd at h
    split at h
    · rename_i b hb
      have hy := (yielded_of (ops := ops) hs j' (by rw [hb]; simp)).1 b hb
      split at h
      · rename_i e
        have hw : Region.wanted o (yielded ops a.tmps) = true := by simp [Region.wanted, hg, hy, e]
        rw [if_pos hw]
        obtain ⟨hok, hle⟩ := hO fr os os1 g w env a o x m hs h
        exact ⟨hle, .inl (hok _ _ hK)⟩
      · rename_i e
        obtain ⟨rfl, rfl⟩ := Prod.mk.inj (Option.some.inj h)
        have hw : ¬ Region.wanted o (yielded ops a.tmps) = true := by simp [Region.wanted, hg, hy, e]
        rw [if_neg hw]
        exact ⟨Nat.le_refl _, hK _ _ (Res.same m .undef)⟩
    · simp at h
    · rename_i hnb hnd
      obtain ⟨rfl, rfl⟩ := Prod.mk.inj (Option.some.inj h)
      have hy := (yielded_of (ops := ops) hs j' (fun e => hnd e)).2 (fun b e => hnb b e)
      have hw : ¬ Region.wanted o (yielded ops a.tmps) = true := by simp [Region.wanted, hg, hy]
      rw [if_neg hw]
      exact ⟨Nat.le_refl _, hK _ _ (Res.same m .undef)⟩
theorem op1_elim {c : Cx} {ops : List Oper} {env : Env} {os os1 : List SO} {o : Oper} {x : SV} {M : Prop} (h : op1 c ops env os o = some (x, os1)) (hA : opS c env os o = some (x, os1) → M) (hB : os1 = os → M) : M := by
  unfold op1 at h
  split at h
  · exact hA h
  · unfold gd at h
    split at h
    · split at h
      · exact hA h
      · cases h; exact hB rfl
    · cases h
    · cases h; exact hB rfl
theorem op1_same {c : Cx} {ops : List Oper} {env : Env} {os os1 os2 : List SO} {o : Oper} {x : SV} (h : op1 c ops env os o = some (x, os1)) (hA : opS c env os o = some (x, os1) → os1 = os ∧ opS c env os2 o = some (x, os2)) :
    os1 = os ∧ op1 c ops env os2 o = some (x, os2) := by
  unfold op1 at h ⊢
  split at h
  · rename_i hg; exact hA h
  · rename_i j want hg
    unfold gd at h ⊢
    split at h
    · split at h
      · rename_i e; obtain ⟨h1, h2⟩ := hA h; exact ⟨h1, by rw [if_pos e]; exact h2⟩
      · rename_i e; cases h; exact ⟨rfl, by rw [if_neg e]⟩
    · cases h
    · cases h; exact ⟨rfl, rfl⟩
theorem loadsU_mem {ms : List Nat} {j : Nat} : ∀ {l : List Oper} {k : Nat} {i : Nat} {o : Oper} {t : Nat} {p : Operand}, l[i]? = some o → o.op = .load t p → unord ms (k + i) j = true → (k + i, p) ∈ loadsU T ms j k l
  | [], _, i, _, _, _, h, _, _ => by simp at h
  | x :: xs, k, i, o, t, p, h, ho, hu => by
    cases i with
    | zero =>
      simp at h; subst h
      simp only [loadsU, ho]
      rw [show k + 0 = k from rfl] at hu ⊢
      rw [if_pos hu]; simp
    | succ i =>
      have := loadsU_mem (l := xs) (k := k + 1) (i := i) (by simpa using h) ho (by rw [show k + 1 + i = k + (i + 1) by omega]; exact hu)
      rw [show k + 1 + i = k + (i + 1) by omega] at this
      simp only [loadsU]
      split
      · split
        · simp [this]
        · exact this
      · exact this
theorem anyU_false {ms : List Nat} {j : Nat} : ∀ {l : List Oper} {k : Nat}, anyU T ms j k l = false → ∀ {i : Nat} {o : Oper}, l[i]? = some o → (cls T o.op).isE = true → unord ms (k + i) j = false
  | [], _, _, i, _, h, _ => by simp at h
  | x :: xs, k, h, i, o, hi, hE => by
    simp only [anyU, Bool.or_eq_false_iff] at h
    cases i with
    | zero =>
      simp at hi; subst hi
      have := h.1
      rw [hE] at this; simpa using this
    | succ i =>
      have := anyU_false h.2 (i := i) (by simpa using hi) hE
      rw [show k + (i + 1) = k + 1 + i by omega]; exact this
end Go.Proofs.Ytikennabfbkdhaa

/- The evaluator S: regions whose order is drawn are sound, whatever is drawn. -/
namespace Go.Proofs.Ytikennabfbkdhaa
open Go
set_option linter.unusedVariables false
set_option linter.unusedSimpArgs false
variable {P : Program} {T : Tab}
theorem look_put (env : Env) (d : Option Nat) (x : SV) (t : Nat) : look t (put env d x) = if d = some t then x else look t env := by
  cases d with
  | none => simp [put]
  | some s =>
    simp only [put, look]
    split
    · rename_i h; rw [Nat.eq_of_beq_eq_true h]; simp
    · rename_i h
      have : ¬ (some s = some t) := fun e => by cases e; rw [Nat.beq_refl] at h; cases h
      rw [if_neg this]
theorem getD_put (a : Act) (d : Option Nat) (v : Value) (t : Nat) (hd : okDst a.tmps.size d = true) : (a.put d v).tmps.getD t undef = if d = some t then v else a.tmps.getD t undef := by
  cases d with
  | none => simp [Act.put]
  | some s =>
    have hlt : s < a.tmps.size := by
      unfold okDst at hd
      simpa using hd
    by_cases e : s = t
    · subst e
      simp [Act.put, Array.getD, hlt]
    · have : ¬ (some s = some t) := fun e' => e (by cases e'; rfl)
      rw [if_neg this]
      simp [Act.put, Array.getElem?_setIfInBounds_ne e]
section
variable {c : Cx} {nt nl : Nat} {ol : List Oper} {ms : List Nat} {E : Nat → Env} {O : Nat → List SO} {X : Nat → SV} {fr : Fr} {g0 : Nat → Gh}
theorem E_old (tr : Tr c nt ol ms 0 E O X) {t : Nat} (ht : ∀ (i : Nat) (o : Oper), ol[i]? = some o → o.dst ≠ some t) : ∀ j, j ≤ ol.length → look t (E j) = look t (E 0) := by
  intro j
  induction j with
  | zero => intro _; rfl
  | succ j ih =>
    intro hj
    have ho : ol[j]? = some ol[j] := List.getElem?_eq_getElem hj
    rw [(tr.step j _ (Nat.zero_le _) ho).2.1, look_put, if_neg (ht j _ ho)]
    exact ih (by omega)
theorem E_new (tr : Tr c nt ol ms 0 E O X) (dr : Drawn T ol ms) {i : Nat} {o : Oper} {t : Nat} (ho : ol[i]? = some o) (hd : o.dst = some t) : ∀ j, i < j → j ≤ ol.length → look t (E j) = X i := by
  intro j
  induction j with
  | zero => intro h; omega
  | succ j ih =>
    intro h1 h2
    have hp : ol[j]? = some ol[j] := List.getElem?_eq_getElem h2
    rw [(tr.step j _ (Nat.zero_le _) hp).2.1, look_put]
    by_cases e : i = j
    · subst e
      rw [ho] at hp; obtain h3 := Option.some.inj hp
      rw [← h3, if_pos hd]
    · rw [if_neg fun e' => e (dr.one i j o _ t ho hp hd e')]
      exact ih (by omega) (by omega)
theorem E_old' (tr : Tr c nt ol ms 0 E O X) {t : Nat} : ∀ j, j ≤ ol.length → (∀ (i : Nat) (o : Oper), i < j → ol[i]? = some o → o.dst ≠ some t) → look t (E j) = look t (E 0) := by
  intro j
  induction j with
  | zero => intro _ _; rfl
  | succ j ih =>
    intro hj ht
    have ho : ol[j]? = some ol[j] := List.getElem?_eq_getElem hj
    rw [(tr.step j _ (Nat.zero_le _) ho).2.1, look_put, if_neg (ht j _ (by omega) ho)]
    exact ih (by omega) fun i o hi => ht i o (by omega)
structure DS (c : Cx) (nt nl : Nat) (ol : List Oper) (E : Nat → Env) (O : Nat → List SO) (X : Nat → SV) (fr : Fr) (g0 : Nat → Gh) (D : Nat → Prop) (m : Nat) (g : Nat → Gh) (a : Act) (w : World) : Prop where
  mem : Mem fr (O m) g w
  old : ∀ t, (∀ (i : Nat) (o : Oper), ol[i]? = some o → o.dst = some t → ¬ D i) → RepV w (Bk fr (O m) g w) g (look t (E 0)) (a.tmps.getD t undef)
  new : ∀ (i : Nat) (o : Oper) (t : Nat), ol[i]? = some o → o.dst = some t → D i → RepV w (Bk fr (O m) g w) g (X i) (a.tmps.getD t undef)
  sz : nt ≤ a.tmps.size
  df : a.defers = []
  h0 : ∀ j, j < nl → g0 j ≠ .no → g j = g0 j
  mn : m ≤ ol.length
  nlo : nl ≤ (O m).length
  below : ∀ (i : Nat) (o : Oper), ol[i]? = some o → i < m → (cls c.T o.op).isE = true → D i
  above : ∀ (i : Nat) (o : Oper), ol[i]? = some o → m ≤ i → (cls c.T o.op).isE = true → ¬ D i
theorem exists_not (l : List Nat) : ∃ q, q ∉ l := by
  have : ∃ b, ∀ x ∈ l, x < b := by
    induction l with
    | nil => exact ⟨0, fun x h => by cases h⟩
    | cons y ys ih =>
      obtain ⟨b, hb⟩ := ih
      refine ⟨b + y + 1, fun x h => ?_⟩
      rcases List.mem_cons.1 h with rfl | h
      · omega
      · have := hb x h; omega
  obtain ⟨b, hb⟩ := this
  exact ⟨b, fun h => by have := hb b h; omega⟩
theorem notE_same {o : Oper} {env : Env} {os os1 : List SO} {x : SV} (hE : (cls c.T o.op).isE = false) (h : op1 c ol env os o = some (x, os1)) : os1 = os := by
  refine op1_elim h (fun h => ?_) id
  cases hc : cls c.T o.op with
  | p => exact (p_any hc h).1
  | rd => exact rd_same (.inl hc) h
  | ld => exact rd_same (.inr hc) h
  | ext => rw [hc] at hE; cases hE
  | eff => rw [hc] at hE; cases hE
  | call => rw [hc] at hE; cases hE
theorem O_same (tr : Tr c nt ol ms 0 E O X) {i : Nat} (hi : i < ol.length) (hE : ∀ o, ol[i]? = some o → (cls c.T o.op).isE = false) : O (i + 1) = O i := by
  have ho : ol[i]? = some ol[i] := List.getElem?_eq_getElem hi
  exact notE_same (hE _ ho) (tr.step i _ (Nat.zero_le _) ho).1
theorem O_const (tr : Tr c nt ol ms 0 E O X) {m : Nat} : ∀ j, m ≤ j → j ≤ ol.length → (∀ (i : Nat) (o : Oper), m ≤ i → i < j → ol[i]? = some o → (cls c.T o.op).isE = false) → O j = O m := by
  intro j
  induction j with
  | zero => intro h _ _; have : m = 0 := by omega
            rw [this]
  | succ j ih =>
    intro h1 h2 h3
    by_cases e : m = j + 1
    · rw [e]
    · rw [O_same tr (by omega) (fun o ho => h3 j o (by omega) (by omega) ho)]
      exact ih (by omega) (by omega) (fun i o a b => h3 i o a (by omega))
theorem O_kept (tr : Tr c nt ol ms 0 E O X) {q m : Nat} : ∀ j, m ≤ j → (∀ i, m ≤ i → i < j → KeptB q (O i) (O (i + 1))) → KeptB q (O m) (O j) := by
  intro j
  induction j with
  | zero => intro h _; have : m = 0 := by omega
            rw [this]; exact KeptB.refl _ _
  | succ j ih =>
    intro h1 h2
    by_cases e : m = j + 1
    · rw [e]; exact KeptB.refl _ _
    · exact (ih (by omega) (fun i a b => h2 i a (by omega))).trans (h2 j (by omega) (by omega))
theorem call_form {o : Op} (h : cls T o = .call) : ∃ f args ts, o = .call { callee := .value f, args := args, argTypes := ts } := by
  unfold cls at h
  split at h <;> first | exact ⟨_, _, _, rfl⟩ | (split at h <;> cases h) | cases h
theorem ld_form {o : Op} (h : cls T o = .ld) : ∃ t p, o = .load t p := by
  unfold cls at h
  split at h <;> first | exact ⟨_, _, rfl⟩ | (split at h <;> cases h) | cases h
theorem E_kept (tr : Tr c nt ol ms 0 E O X) (dr : Drawn c.T ol ms) {i j : Nat} {o p : Oper} (hi : ol[i]? = some p) (hj : ol[j]? = some o) (hE : (cls c.T p.op).isE = true) {t : Nat} {y : Operand} (ho : o.op = .load t y)
    (hu : unord ms i j = true) {q off : Nat} (hy : ev (E j) y = .ptr q off) (hyi : j < i → ev (E i) y = .ptr q off) : KeptB q (O i) (O (i + 1)) := by
  obtain ⟨hop, -, -, -, hck⟩ := tr.step i p (Nat.zero_le _) hi
  have hpair := dr.pair i j p o hi hj hu
  have hld : cls c.T o.op = .ld := by rw [ho]; rfl
  rw [hld] at hpair
  refine op1_elim hop (fun h => ?_) (fun e => by rw [e]; exact KeptB.refl _ _)
  cases hc : cls c.T p.op with
  | p => rw [hc] at hE; cases hE
  | rd => rw [hc] at hE; cases hE
  | ld => rw [hc] at hE; cases hE
  | eff => rw [hc] at hpair; cases hpair
  | ext => exact ext_kept hc h
  | call =>
    obtain ⟨f, args, ts, hp⟩ := call_form hc
    have hmem : (j, y) ∈ loadsU c.T ms i 0 ol := by
      have := loadsU_mem (T := c.T) (ms := ms) (j := i) (k := 0) hj ho (by rw [Nat.zero_add, unord_comm]; exact hu)
      simpa using this
    have hk := hck f args ts hp (fun e => by rw [e] at hmem; cases hmem)
    unfold opS at h
    simp only [hp] at h
    split at h
    rotate_left
    · cases h
    refine callee_kept h ?_
    unfold keepOk at hk
    split at hk
    rotate_left
    · cases hk
    rename_i g caps hf
    simp only [Bool.and_eq_true] at hk
    obtain ⟨hk1, hk2⟩ := hk
    rw [hf]
    unfold lendsOf
    simp only
    intro hin
    have hne : i ≠ j := fun e => by
      subst e
      rw [hi] at hj; obtain rfl := Option.some.inj hj
      rw [hc] at hld; cases hld
    rcases Nat.lt_or_ge i j with hlt | hge
    · have hany : ((loadsU c.T ms i 0 ol).any fun p => Nat.blt i p.1) = true := List.any_eq_true.2 ⟨(j, y), hmem, by simpa using hlt⟩
      rw [hany] at hk1
      simp only [Bool.not_true, Bool.false_or, List.isEmpty_iff] at hk1
      rw [hk1] at hin; cases hin
    · have hlt : j < i := by omega
      have := List.all_eq_true.1 hk2 (ev (E i) y) (List.mem_map.2 ⟨(j, y), List.mem_filter.2 ⟨hmem, by simpa using hlt⟩, rfl⟩)
      rw [hyi hlt] at this
      simp only [boxIn, Bool.not_eq_true'] at this
      have h2 : (reach (O i) 100 (lendAll c.own g (List.map (argO c.T (E i)) (args.toList.zip ts.toList) ++ caps)) []).contains q = true := by simpa using hin
      rw [this] at h2; cases h2
end
end Go.Proofs.Ytikennabfbkdhaa
