/- The evaluator S: regions whose order is drawn are sound, whatever is drawn. -/
import Derived.Test.YtjfegdlgepbjoaaSw
namespace Go.Proofs.Ytjfegdlgepbjoaa
open Go
set_option linter.unusedVariables false
set_option linter.unusedSimpArgs false
variable {P : Program} {T : Tab}

theorem look_put (env : Env) (d : Option Nat) (x : SV) (t : Nat) : look t (put env d x) = if d = some t then x else look t env := by
  cases d with
  | none => simp [put]
  | some s =>
    simp only [put, look]
    split
    · rename_i h; rw [Nat.eq_of_beq_eq_true h]; simp
    · rename_i h
      have : ¬ (some s = some t) := fun e => by cases e; rw [Nat.beq_refl] at h; cases h
      rw [if_neg this]

theorem getD_put (a : Act) (d : Option Nat) (v : Value) (t : Nat) (hd : okDst a.tmps.size d = true) : (a.put d v).tmps.getD t undef = if d = some t then v else a.tmps.getD t undef := by
  cases d with
  | none => simp [Act.put]
  | some s =>
    have hlt : s < a.tmps.size := by
      unfold okDst at hd
      simpa using hd
    by_cases e : s = t
    · subst e
      simp [Act.put, Array.getD, hlt]
    · have : ¬ (some s = some t) := fun e' => e (by cases e'; rfl)
      rw [if_neg this]
      simp [Act.put, Array.getElem?_setIfInBounds_ne e]

section
variable {c : Cx} {nt nl : Nat} {ol : List Oper} {ms : List Nat} {E : Nat → Env} {O : Nat → List SO} {X : Nat → SV} {fr : Fr} {g0 : Nat → Gh}

theorem E_old (tr : Tr c nt ol ms 0 E O X) {t : Nat} (ht : ∀ (i : Nat) (o : Oper), ol[i]? = some o → o.dst ≠ some t) : ∀ j, j ≤ ol.length → look t (E j) = look t (E 0) := by
  intro j
  induction j with
  | zero => intro _; rfl
  | succ j ih =>
    intro hj
    have ho : ol[j]? = some ol[j] := List.getElem?_eq_getElem hj
    rw [(tr.step j _ (Nat.zero_le _) ho).2.1, look_put, if_neg (ht j _ ho)]
    exact ih (by omega)

theorem E_new (tr : Tr c nt ol ms 0 E O X) (dr : Drawn T ol ms) {i : Nat} {o : Oper} {t : Nat} (ho : ol[i]? = some o) (hd : o.dst = some t) : ∀ j, i < j → j ≤ ol.length → look t (E j) = X i := by
  intro j
  induction j with
  | zero => intro h; omega
  | succ j ih =>
    intro h1 h2
    have hp : ol[j]? = some ol[j] := List.getElem?_eq_getElem h2
    rw [(tr.step j _ (Nat.zero_le _) hp).2.1, look_put]
    by_cases e : i = j
    · subst e
      rw [ho] at hp; obtain h3 := Option.some.inj hp
      rw [← h3, if_pos hd]
    · rw [if_neg fun e' => e (dr.one i j o _ t ho hp hd e')]
      exact ih (by omega) (by omega)

theorem E_old' (tr : Tr c nt ol ms 0 E O X) {t : Nat} : ∀ j, j ≤ ol.length → (∀ (i : Nat) (o : Oper), i < j → ol[i]? = some o → o.dst ≠ some t) → look t (E j) = look t (E 0) := by
  intro j
  induction j with
  | zero => intro _ _; rfl
  | succ j ih =>
    intro hj ht
    have ho : ol[j]? = some ol[j] := List.getElem?_eq_getElem hj
    rw [(tr.step j _ (Nat.zero_le _) ho).2.1, look_put, if_neg (ht j _ (by omega) ho)]
    exact ih (by omega) fun i o hi => ht i o (by omega)

/-- Behind those operations that have come up. -/
structure DS (c : Cx) (nt nl : Nat) (ol : List Oper) (E : Nat → Env) (O : Nat → List SO) (X : Nat → SV) (fr : Fr) (g0 : Nat → Gh) (D : Nat → Prop) (m : Nat) (g : Nat → Gh) (a : Act) (w : World) : Prop where
  mem : Mem fr (O m) g w
  old : ∀ t, (∀ (i : Nat) (o : Oper), ol[i]? = some o → o.dst = some t → ¬ D i) → RepV w (Bk fr (O m) g w) g (look t (E 0)) (a.tmps.getD t undef)
  new : ∀ (i : Nat) (o : Oper) (t : Nat), ol[i]? = some o → o.dst = some t → D i → RepV w (Bk fr (O m) g w) g (X i) (a.tmps.getD t undef)
  sz : nt ≤ a.tmps.size
  df : a.defers = []
  h0 : ∀ j, j < nl → g0 j ≠ .no → g j = g0 j
  mn : m ≤ ol.length
  nlo : nl ≤ (O m).length
  below : ∀ (i : Nat) (o : Oper), ol[i]? = some o → i < m → (cls c.T o.op).isE = true → D i
  above : ∀ (i : Nat) (o : Oper), ol[i]? = some o → m ≤ i → (cls c.T o.op).isE = true → ¬ D i

theorem exists_not (l : List Nat) : ∃ q, q ∉ l := by
  have : ∃ b, ∀ x ∈ l, x < b := by
    induction l with
    | nil => exact ⟨0, fun x h => by cases h⟩
    | cons y ys ih =>
      obtain ⟨b, hb⟩ := ih
      refine ⟨b + y + 1, fun x h => ?_⟩
      rcases List.mem_cons.1 h with rfl | h
      · omega
      · have := hb x h; omega
  obtain ⟨b, hb⟩ := this
  exact ⟨b, fun h => by have := hb b h; omega⟩

theorem notE_same {o : Oper} {env : Env} {os os1 : List SO} {x : SV} (hE : (cls c.T o.op).isE = false) (h : op1 c ol env os o = some (x, os1)) : os1 = os := by
  refine op1_elim h (fun h => ?_) id
  cases hc : cls c.T o.op with
  | p => exact (p_any hc h).1
  | rd => exact rd_same (.inl hc) h
  | ld => exact rd_same (.inr hc) h
  | ext => rw [hc] at hE; cases hE
  | eff => rw [hc] at hE; cases hE
  | call => rw [hc] at hE; cases hE

theorem O_same (tr : Tr c nt ol ms 0 E O X) {i : Nat} (hi : i < ol.length) (hE : ∀ o, ol[i]? = some o → (cls c.T o.op).isE = false) : O (i + 1) = O i := by
  have ho : ol[i]? = some ol[i] := List.getElem?_eq_getElem hi
  exact notE_same (hE _ ho) (tr.step i _ (Nat.zero_le _) ho).1

theorem O_const (tr : Tr c nt ol ms 0 E O X) {m : Nat} : ∀ j, m ≤ j → j ≤ ol.length → (∀ (i : Nat) (o : Oper), m ≤ i → i < j → ol[i]? = some o → (cls c.T o.op).isE = false) → O j = O m := by
  intro j
  induction j with
  | zero => intro h _ _; have : m = 0 := by omega
            rw [this]
  | succ j ih =>
    intro h1 h2 h3
    by_cases e : m = j + 1
    · rw [e]
    · rw [O_same tr (by omega) (fun o ho => h3 j o (by omega) (by omega) ho)]
      exact ih (by omega) (by omega) (fun i o a b => h3 i o a (by omega))

theorem O_kept (tr : Tr c nt ol ms 0 E O X) {q m : Nat} : ∀ j, m ≤ j → (∀ i, m ≤ i → i < j → KeptB q (O i) (O (i + 1))) → KeptB q (O m) (O j) := by
  intro j
  induction j with
  | zero => intro h _; have : m = 0 := by omega
            rw [this]; exact KeptB.refl _ _
  | succ j ih =>
    intro h1 h2
    by_cases e : m = j + 1
    · rw [e]; exact KeptB.refl _ _
    · exact (ih (by omega) (fun i a b => h2 i a (by omega))).trans (h2 j (by omega) (by omega))

theorem call_form {o : Op} (h : cls T o = .call) : ∃ f args ts, o = .call { callee := .value f, args := args, argTypes := ts } := by
  unfold cls at h
  split at h <;> first | exact ⟨_, _, _, rfl⟩ | (split at h <;> cases h) | cases h

theorem ld_form {o : Op} (h : cls T o = .ld) : ∃ t p, o = .load t p := by
  unfold cls at h
  split at h <;> first | exact ⟨_, _, rfl⟩ | (split at h <;> cases h) | cases h

/-- What comes beside a read of a variable leaves the variable as it is. -/
theorem E_kept (tr : Tr c nt ol ms 0 E O X) (dr : Drawn c.T ol ms) {i j : Nat} {o p : Oper} (hi : ol[i]? = some p) (hj : ol[j]? = some o) (hE : (cls c.T p.op).isE = true) {t : Nat} {y : Operand} (ho : o.op = .load t y)
    (hu : unord ms i j = true) {q off : Nat} (hy : ev (E j) y = .ptr q off) (hyi : j < i → ev (E i) y = .ptr q off) : KeptB q (O i) (O (i + 1)) := by
  obtain ⟨hop, -, -, -, hck⟩ := tr.step i p (Nat.zero_le _) hi
  have hpair := dr.pair i j p o hi hj hu
  have hld : cls c.T o.op = .ld := by rw [ho]; rfl
  rw [hld] at hpair
  refine op1_elim hop (fun h => ?_) (fun e => by rw [e]; exact KeptB.refl _ _)
  cases hc : cls c.T p.op with
  | p => rw [hc] at hE; cases hE
  | rd => rw [hc] at hE; cases hE
  | ld => rw [hc] at hE; cases hE
  | eff => rw [hc] at hpair; cases hpair
  | ext => exact ext_kept hc h
  | call =>
    obtain ⟨f, args, ts, hp⟩ := call_form hc
    have hmem : (j, y) ∈ loadsU c.T ms i 0 ol := by
      have := loadsU_mem (T := c.T) (ms := ms) (j := i) (k := 0) hj ho (by rw [Nat.zero_add, unord_comm]; exact hu)
      simpa using this
    have hk := hck f args ts hp (fun e => by rw [e] at hmem; cases hmem)
    unfold opS at h
    simp only [hp] at h
    split at h
    rotate_left
    · cases h
    refine callee_kept h ?_
    unfold keepOk at hk
    split at hk
    rotate_left
    · cases hk
    rename_i g caps hf
    simp only [Bool.and_eq_true] at hk
    obtain ⟨hk1, hk2⟩ := hk
    rw [hf]
    unfold lendsOf
    simp only
    intro hin
    have hne : i ≠ j := fun e => by
      subst e
      rw [hi] at hj; obtain rfl := Option.some.inj hj
      rw [hc] at hld; cases hld
    rcases Nat.lt_or_ge i j with hlt | hge
    · have hany : ((loadsU c.T ms i 0 ol).any fun p => Nat.blt i p.1) = true := List.any_eq_true.2 ⟨(j, y), hmem, by simpa using hlt⟩
      rw [hany] at hk1
      simp only [Bool.not_true, Bool.false_or, List.isEmpty_iff] at hk1
      rw [hk1] at hin; cases hin
    · have hlt : j < i := by omega
      have := List.all_eq_true.1 hk2 (ev (E i) y) (List.mem_map.2 ⟨(j, y), List.mem_filter.2 ⟨hmem, by simpa using hlt⟩, rfl⟩)
      rw [hyi hlt] at this
      simp only [boxIn, Bool.not_eq_true'] at this
      have h2 : (reach (O i) 100 ((List.map (argO c.T (E i)) (args.toList.zip ts.toList) ++ caps).flatMap (lendIds (c.own g))) []).contains q = true := by simpa using hin
      rw [this] at h2; cases h2

end

end Go.Proofs.Ytjfegdlgepbjoaa
