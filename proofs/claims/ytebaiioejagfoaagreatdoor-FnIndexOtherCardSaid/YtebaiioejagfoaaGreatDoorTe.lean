/- The evaluator S and what it says of functions: Sx, Sy, St, Sz, Te. -/
import Derived.Test.YtebaiioejagfoaaGreatDoorSw
import Derived.Laws.StructEq
import Derived.KernelRfl
import Derived.Test.YtebaiioejagfoaaGreatDoorSd
/- The evaluator S: regions whose order is drawn are sound, whatever is drawn. -/
namespace Go.Proofs.YtebaiioejagfoaaGreatDoor
open Go
set_option linter.unusedVariables false
set_option linter.unusedSimpArgs false
variable {P : Program} {T : Tab}
theorem look_put (env : Env) (d : Option Nat) (x : SV) (t : Nat) : look t (put env d x) = if d = some t then x else look t env := by
  cases d with
  | none => simp [put]
  | some s =>
    simp only [put, look]
    split
    · rename_i h; rw [Nat.eq_of_beq_eq_true h]; simp
    · rename_i h
      have : ¬ (some s = some t) := fun e => by cases e; rw [Nat.beq_refl] at h; cases h
      rw [if_neg this]
theorem getD_put (a : Act) (d : Option Nat) (v : Value) (t : Nat) (hd : okDst a.tmps.size d = true) : (a.put d v).tmps.getD t undef = if d = some t then v else a.tmps.getD t undef := by
  cases d with
  | none => simp [Act.put]
  | some s =>
    have hlt : s < a.tmps.size := by
      unfold okDst at hd
      simpa using hd
    by_cases e : s = t
    · subst e
      simp [Act.put, Array.getD, hlt]
    · have : ¬ (some s = some t) := fun e' => e (by cases e'; rfl)
      rw [if_neg this]
      simp [Act.put, Array.getElem?_setIfInBounds_ne e]
section
variable {c : Cx} {nt nl : Nat} {ol : List Oper} {ms : List Nat} {E : Nat → Env} {O : Nat → List SO} {X : Nat → SV} {fr : Fr} {g0 : Nat → Gh}
theorem E_old (tr : Tr c nt ol ms 0 E O X) {t : Nat} (ht : ∀ (i : Nat) (o : Oper), ol[i]? = some o → o.dst ≠ some t) : ∀ j, j ≤ ol.length → look t (E j) = look t (E 0) := by
  intro j
  induction j with
  | zero => intro _; rfl
  | succ j ih =>
    intro hj
    have ho : ol[j]? = some ol[j] := List.getElem?_eq_getElem hj
    rw [(tr.step j _ (Nat.zero_le _) ho).2.1, look_put, if_neg (ht j _ ho)]
    exact ih (by omega)
theorem E_new (tr : Tr c nt ol ms 0 E O X) (dr : Drawn T ol ms) {i : Nat} {o : Oper} {t : Nat} (ho : ol[i]? = some o) (hd : o.dst = some t) : ∀ j, i < j → j ≤ ol.length → look t (E j) = X i := by
  intro j
  induction j with
  | zero => intro h; omega
  | succ j ih =>
    intro h1 h2
    have hp : ol[j]? = some ol[j] := List.getElem?_eq_getElem h2
    rw [(tr.step j _ (Nat.zero_le _) hp).2.1, look_put]
    by_cases e : i = j
    · subst e
      rw [ho] at hp; obtain h3 := Option.some.inj hp
      rw [← h3, if_pos hd]
    · rw [if_neg fun e' => e (dr.one i j o _ t ho hp hd e')]
      exact ih (by omega) (by omega)
theorem E_old' (tr : Tr c nt ol ms 0 E O X) {t : Nat} : ∀ j, j ≤ ol.length → (∀ (i : Nat) (o : Oper), i < j → ol[i]? = some o → o.dst ≠ some t) → look t (E j) = look t (E 0) := by
  intro j
  induction j with
  | zero => intro _ _; rfl
  | succ j ih =>
    intro hj ht
    have ho : ol[j]? = some ol[j] := List.getElem?_eq_getElem hj
    rw [(tr.step j _ (Nat.zero_le _) ho).2.1, look_put, if_neg (ht j _ (by omega) ho)]
    exact ih (by omega) fun i o hi => ht i o (by omega)
structure DS (c : Cx) (nt nl : Nat) (ol : List Oper) (E : Nat → Env) (O : Nat → List SO) (X : Nat → SV) (fr : Fr) (g0 : Nat → Gh) (D : Nat → Prop) (m : Nat) (g : Nat → Gh) (a : Act) (w : World) : Prop where
  mem : Mem fr (O m) g w
  old : ∀ t, (∀ (i : Nat) (o : Oper), ol[i]? = some o → o.dst = some t → ¬ D i) → RepV w (Bk fr (O m) g w) g (look t (E 0)) (a.tmps.getD t undef)
  new : ∀ (i : Nat) (o : Oper) (t : Nat), ol[i]? = some o → o.dst = some t → D i → RepV w (Bk fr (O m) g w) g (X i) (a.tmps.getD t undef)
  sz : nt ≤ a.tmps.size
  df : a.defers = []
  h0 : ∀ j, j < nl → g0 j ≠ .no → g j = g0 j
  mn : m ≤ ol.length
  nlo : nl ≤ (O m).length
  below : ∀ (i : Nat) (o : Oper), ol[i]? = some o → i < m → (cls c.T o.op).isE = true → D i
  above : ∀ (i : Nat) (o : Oper), ol[i]? = some o → m ≤ i → (cls c.T o.op).isE = true → ¬ D i
theorem exists_not (l : List Nat) : ∃ q, q ∉ l := by
  have : ∃ b, ∀ x ∈ l, x < b := by
    induction l with
    | nil => exact ⟨0, fun x h => by cases h⟩
    | cons y ys ih =>
      obtain ⟨b, hb⟩ := ih
      refine ⟨b + y + 1, fun x h => ?_⟩
      rcases List.mem_cons.1 h with rfl | h
      · omega
      · have := hb x h; omega
  obtain ⟨b, hb⟩ := this
  exact ⟨b, fun h => by have := hb b h; omega⟩
theorem notE_same {o : Oper} {env : Env} {os os1 : List SO} {x : SV} (hE : (cls c.T o.op).isE = false) (h : op1 c ol env os o = some (x, os1)) : os1 = os := by
  refine op1_elim h (fun h => ?_) id
  cases hc : cls c.T o.op with
  | p => exact (p_any hc h).1
  | rd => exact rd_same (.inl hc) h
  | ld => exact rd_same (.inr hc) h
  | ext => rw [hc] at hE; cases hE
  | eff => rw [hc] at hE; cases hE
  | call => rw [hc] at hE; cases hE
theorem O_same (tr : Tr c nt ol ms 0 E O X) {i : Nat} (hi : i < ol.length) (hE : ∀ o, ol[i]? = some o → (cls c.T o.op).isE = false) : O (i + 1) = O i := by
  have ho : ol[i]? = some ol[i] := List.getElem?_eq_getElem hi
  exact notE_same (hE _ ho) (tr.step i _ (Nat.zero_le _) ho).1
theorem O_const (tr : Tr c nt ol ms 0 E O X) {m : Nat} : ∀ j, m ≤ j → j ≤ ol.length → (∀ (i : Nat) (o : Oper), m ≤ i → i < j → ol[i]? = some o → (cls c.T o.op).isE = false) → O j = O m := by
  intro j
  induction j with
  | zero => intro h _ _; have : m = 0 := by omega
            rw [this]
  | succ j ih =>
    intro h1 h2 h3
    by_cases e : m = j + 1
    · rw [e]
    · rw [O_same tr (by omega) (fun o ho => h3 j o (by omega) (by omega) ho)]
      exact ih (by omega) (by omega) (fun i o a b => h3 i o a (by omega))
theorem O_kept (tr : Tr c nt ol ms 0 E O X) {q m : Nat} : ∀ j, m ≤ j → (∀ i, m ≤ i → i < j → KeptB q (O i) (O (i + 1))) → KeptB q (O m) (O j) := by
  intro j
  induction j with
  | zero => intro h _; have : m = 0 := by omega
            rw [this]; exact KeptB.refl _ _
  | succ j ih =>
    intro h1 h2
    by_cases e : m = j + 1
    · rw [e]; exact KeptB.refl _ _
    · exact (ih (by omega) (fun i a b => h2 i a (by omega))).trans (h2 j (by omega) (by omega))
theorem call_form {o : Op} (h : cls T o = .call) : ∃ f args ts, o = .call { callee := .value f, args := args, argTypes := ts } := by
  unfold cls at h
  split at h <;> first | exact ⟨_, _, _, rfl⟩ | (split at h <;> cases h) | cases h
theorem ld_form {o : Op} (h : cls T o = .ld) : ∃ t p, o = .load t p := by
  unfold cls at h
  split at h <;> first | exact ⟨_, _, rfl⟩ | (split at h <;> cases h) | cases h
theorem E_kept (tr : Tr c nt ol ms 0 E O X) (dr : Drawn c.T ol ms) {i j : Nat} {o p : Oper} (hi : ol[i]? = some p) (hj : ol[j]? = some o) (hE : (cls c.T p.op).isE = true) {t : Nat} {y : Operand} (ho : o.op = .load t y)
    (hu : unord ms i j = true) {q off : Nat} (hy : ev (E j) y = .ptr q off) (hyi : j < i → ev (E i) y = .ptr q off) : KeptB q (O i) (O (i + 1)) := by
  obtain ⟨hop, -, -, -, hck⟩ := tr.step i p (Nat.zero_le _) hi
  have hpair := dr.pair i j p o hi hj hu
  have hld : cls c.T o.op = .ld := by rw [ho]; rfl
  rw [hld] at hpair
  refine op1_elim hop (fun h => ?_) (fun e => by rw [e]; exact KeptB.refl _ _)
  cases hc : cls c.T p.op with
  | p => rw [hc] at hE; cases hE
  | rd => rw [hc] at hE; cases hE
  | ld => rw [hc] at hE; cases hE
  | eff => rw [hc] at hpair; cases hpair
  | ext => exact ext_kept hc h
  | call =>
    obtain ⟨f, args, ts, hp⟩ := call_form hc
    have hmem : (j, y) ∈ loadsU c.T ms i 0 ol := by
      have := loadsU_mem (T := c.T) (ms := ms) (j := i) (k := 0) hj ho (by rw [Nat.zero_add, unord_comm]; exact hu)
      simpa using this
    have hk := hck f args ts hp (fun e => by rw [e] at hmem; cases hmem)
    unfold opS at h
    simp only [hp] at h
    split at h
    rotate_left
    · cases h
    refine callee_kept h ?_
    unfold keepOk at hk
    split at hk
    rotate_left
    · cases hk
    rename_i g caps hf
    simp only [Bool.and_eq_true] at hk
    obtain ⟨hk1, hk2⟩ := hk
    rw [hf]
    unfold lendsOf
    simp only
    intro hin
    have hne : i ≠ j := fun e => by
      subst e
      rw [hi] at hj; obtain rfl := Option.some.inj hj
      rw [hc] at hld; cases hld
    rcases Nat.lt_or_ge i j with hlt | hge
    · have hany : ((loadsU c.T ms i 0 ol).any fun p => Nat.blt i p.1) = true := List.any_eq_true.2 ⟨(j, y), hmem, by simpa using hlt⟩
      rw [hany] at hk1
      simp only [Bool.not_true, Bool.false_or, List.isEmpty_iff] at hk1
      rw [hk1] at hin; cases hin
    · have hlt : j < i := by omega
      have := List.all_eq_true.1 hk2 (ev (E i) y) (List.mem_map.2 ⟨(j, y), List.mem_filter.2 ⟨hmem, by simpa using hlt⟩, rfl⟩)
      rw [hyi hlt] at this
      simp only [boxIn, Bool.not_eq_true'] at this
      have h2 : (reach (O i) 100 (lendAll c.own g (List.map (argO c.T (E i)) (args.toList.zip ts.toList) ++ caps)) []).contains q = true := by simpa using hin
      rw [this] at h2; cases h2
end
end Go.Proofs.YtebaiioejagfoaaGreatDoor

/- The evaluator S: regions whose order is drawn: the step, and all steps. -/
namespace Go.Proofs.YtebaiioejagfoaaGreatDoor
open Go
set_option linter.unusedVariables false
set_option linter.unusedSimpArgs false
variable {P : Program} {T : Tab}
section
variable {c : Cx} {nt nl : Nat} {ol : List Oper} {ms : List Nat} {E : Nat → Env} {O : Nat → List SO} {X : Nat → SV} {fr : Fr} {g0 : Nat → Gh}
theorem load_same {os os2 : List SO} {t : Nat} {p x : SV} (hb : isBox p = true) (h : loadS T os t p = some x) (hk : ∀ q off, p = .ptr q off → ∀ l, os[q]? = some (.box l) → os2[q]? = some (.box l)) : loadS T os2 t p = some x := by
  have : placeCells os p = none ∨ placeCells os2 p = placeCells os p := by
    cases p with
    | ptr q off =>
      simp only [placeCells]
      cases hq : os[q]? with
      | none => exact .inl rfl
      | some o =>
        cases o with
        | box l => exact .inr (by rw [hk q off rfl l hq])
        | _ => exact .inl rfl
    | el y off => exact .inr rfl
    | undef => exact .inl rfl
    | _ => cases hb
  unfold loadS at h ⊢
  rcases this with e | e
  · rw [e] at h
    split at h <;> cases h
  · rw [e]; exact h
theorem cst_ne (v : Value) (q off : Nat) : cst v ≠ .ptr q off := by
  intro h
  unfold cst at h
  split at h
  · cases h
  · split at h <;> cases h
theorem okPair_EE {a b : Cls} (ha : a.isE = true) (hb : b.isE = true) : okPair a b = false := by
  cases a <;> cases b <;> first | rfl | (cases ha; done) | (cases hb; done)
theorem okPair_Er {a : Cls} (ha : a.isE = true) : okPair a .rd = false := by
  cases a <;> first | rfl | (cases ha; done)
theorem ds_step (hO : OpsOK P c) (tr : Tr c nt ol ms 0 E O X) (dr : Drawn c.T ol ms) (hms : ms = masks [] ol) {ops : Array Oper} (hops : ops.toList = ol) {D : Nat → Prop} {m : Nat} {g : Nat → Gh} {a : Act} {w : World}
    (hcl : ∀ j o, ol[j]? = some o → D j → ∀ e, e ∈ bindOn o → D e) (ds : DS c nt nl ol E O X fr g0 D m g a w) {j : Nat} {o : Oper} (hj : ol[j]? = some o) (hDj : ¬ D j) (hr : ∀ e, e ∈ bindOn o → D e)
    {K : Act → World → Prop} {Q : Exit → Act → World → Prop} (hK : ∀ a' w' m' g', DS c nt nl ol E O X fr g0 (fun i => D i ∨ i = j) m' g' a' w' → K a' w') : wpOp P ops Q j K a w := by
  have hjl : j < ol.length := lt_of_getElem? hj
  obtain ⟨hop, hE1, hdst, hck⟩ := tr.step j o (Nat.zero_le _) hj
  have hcl' : ∀ j' o', ol[j']? = some o' → (D j' ∨ j' = j) → ∀ e, e ∈ bindOn o' → (D e ∨ e = j) := by
    intro j' o' ho' hD' e he
    rcases hD' with hD' | rfl
    · exact .inl (hcl j' o' ho' hD' e he)
    · rw [hj] at ho'; obtain rfl := Option.some.inj ho'
      exact .inl (hr e he)
  have hbef' : ∀ i k, (D k ∨ k = j) → ordB ms i k = true → (D i ∨ i = j) := by
    intro i k hk hb
    unfold ordB at hb
    rw [hms] at hb
    exact masks_ok (D := fun i => D i ∨ i = j) hcl' ol [] rfl (fun j' _ e he => by simp at he) k hk i hb
  have hbefD : ∀ i k, D k → ordB ms i k = true → D i := by
    intro i k hk hb
    unfold ordB at hb
    rw [hms] at hb
    exact masks_ok (D := D) hcl ol [] rfl (fun j' _ e he => by simp at he) k hk i hb
  have hbef : ∀ i, i ≠ j → ordB ms i j = true → D i := fun i hi hb => (hbef' i j (.inr rfl) hb).resolve_right hi
  have hval : ∀ t, t ∈ tmpsOf ol o → RepV w (Bk fr (O m) g w) g (look t (E j)) (a.tmps.getD t undef) := by
    intro t ht
    by_cases hex : ∃ (i : Nat) (q : Oper), ol[i]? = some q ∧ q.dst = some t
    · obtain ⟨i, q, hi, hq⟩ := hex
      rcases dr.data i j q o t hi hj hq ht with ⟨hlt, hb⟩ | ⟨hlt, hb, -⟩
      · rw [E_new tr dr hi hq j hlt (by omega)]
        exact ds.new i q t hi hq (hbef i (by omega) hb)
      · rw [E_old' tr j (by omega) fun k p hk hp e => by
          have := dr.one k i p q t hp hi e hq
          omega]
        refine ds.old t fun k p hp e hD => ?_
        obtain rfl := dr.one k i p q t hp hi e hq
        exact hDj (hbefD j k hD hb)
    · have hno : ∀ (i : Nat) (q : Oper), ol[i]? = some q → q.dst ≠ some t := fun i q hi hq => hex ⟨i, q, hi, hq⟩
      rw [E_old tr hno j (by omega)]
      exact ds.old t fun i q hi hq => absurd hq (hno i q hi)
  let env' := killS (tmpsOf ol o) (E j)
  have hs : Slots w (Bk fr (O m) g w) g env' a.tmps := by
    intro t
    rcases look_kill_or (E j) t (tmpsOf ol o) with ⟨h1, h2⟩ | h2
    · show RepV _ _ _ (look t (killS (tmpsOf ol o) (E j))) _
      rw [h2]; exact hval t h1
    · show RepV _ _ _ (look t (killS (tmpsOf ol o) (E j))) _
      rw [h2]; exact .dead
  have hjo : ops[j]? = some o := by rw [← Array.getElem?_toList, hops]; exact hj
  have fin : ∀ (m' : Nat) (os1 : List SO), os1 = O m' → m' ≤ ol.length → op1 c ol (E j) (O m) o = some (X j, os1) →
      (∀ (i : Nat) (p : Oper), ol[i]? = some p → i < m' → (cls c.T p.op).isE = true → (D i ∨ i = j)) → (∀ (i : Nat) (p : Oper), ol[i]? = some p → m' ≤ i → (cls c.T p.op).isE = true → ¬ (D i ∨ i = j)) → wpOp P ops Q j K a w := by
    intro m' os1 hos hm' hop' hbl hab
    subst hos
    have h1 : op1 c ops.toList env' (O m) o = some (X j, O m') := by rw [hops]; show op1 c ol (killS (tmpsOf ol o) (E j)) (O m) o = _; rw [op1_kill]; exact hop'
    have hlen : (O m).length ≤ (O m').length := (op1_ok (P := P) hO (K := fun _ _ => True) (Q := Q) (j := j) ds.mem hs hjo h1 (fun _ _ _ => trivial)).1
    refine (op1_ok hO ds.mem hs hjo h1 ?_).2
    rintro v w' ⟨g', m1, gr, rp⟩
    have hd' : okDst a.tmps.size o.dst = true := okDst_le hdst ds.sz
    refine hK _ _ m' g' { mem := m1, old := fun t ht => ?_, new := fun i p t hi hp hD => ?_, sz := by rw [put_size]; exact ds.sz, df := by rw [put_defers]; exact ds.df, h0 := fun k hk hn => ?_, mn := hm', nlo := Nat.le_trans ds.nlo hlen, below := hbl, above := hab }
    · rw [getD_put _ _ _ _ hd', if_neg fun e => ht j o hj e (.inr rfl)]
      exact (ds.old t fun i p hi hp hD => ht i p hi hp (.inl hD)).grow gr
    · rw [getD_put _ _ _ _ hd']
      by_cases e : i = j
      · subst e
        rw [hj] at hi; obtain rfl := Option.some.inj hi
        rw [if_pos hp]; exact rp
      · rw [if_neg fun e' => e (dr.one i j p o t hi hj hp e')]
        exact (ds.new i p t hi hp (hD.resolve_right e)).grow gr
    · rw [gr.ext k (by rw [ds.h0 k hk hn]; exact hn), ds.h0 k hk hn]
  by_cases hE : (cls c.T o.op).isE = true
  · -- one that does something: it is its turn
    have hmj : m ≤ j := by
      rcases Nat.lt_or_ge j m with h | h
      · exact absurd (ds.below j o hj h hE) hDj
      · exact h
    have hno : ∀ (i : Nat) (p : Oper), m ≤ i → i < j → ol[i]? = some p → (cls c.T p.op).isE = false := by
      intro i p h1 h2 hi
      cases hp : (cls c.T p.op).isE with
      | false => rfl
      | true =>
        have hu : unord ms i j = false := by
          cases hu : unord ms i j with
          | false => rfl
          | true =>
            have := dr.pair i j p o hi hj hu
            rw [okPair_EE hp hE] at this; cases this
        exact absurd (hbef i (by omega) (unord_lt h2 hu)) (ds.above i p hi h1 hp)
    have hOj : O j = O m := O_const tr j hmj (by omega) hno
    refine fin (j + 1) _ rfl (by omega) (by rw [← hOj]; exact hop) ?_ ?_
    · intro i p hi hlt hp
      by_cases e : i = j
      · exact .inr e
      · rcases Nat.lt_or_ge i m with h | h
        · exact .inl (ds.below i p hi h hp)
        · have := hno i p h (by omega) hi
          rw [this] at hp; cases hp
    · intro i p hi hge hp hD
      rcases hD with hD | hD
      · exact ds.above i p hi (by omega) hp hD
      · omega
  · -- one that reads, or only reckons
    have hE : (cls c.T o.op).isE = false := by simpa using hE
    have keep : op1 c ol (E j) (O m) o = some (X j, O m) → wpOp P ops Q j K a w := fun h => by
      refine fin m _ rfl ds.mn h (fun i p hi hlt hp => .inl (ds.below i p hi hlt hp)) (fun i p hi hge hp hD => ?_)
      rcases hD with hD | rfl
      · exact ds.above i p hi hge hp hD
      · rw [hj] at hi; obtain rfl := Option.some.inj hi
        rw [hE] at hp; cases hp
    have hun1 : ∀ (i : Nat) (p : Oper), ol[i]? = some p → (cls c.T p.op).isE = true → m ≤ i → i < j → unord ms i j = true := by
      intro i p hi hp h1 h2
      cases hu : unord ms i j with
      | true => rfl
      | false => exact absurd (hbef i (by omega) (unord_lt h2 hu)) (ds.above i p hi h1 hp)
    have hun2 : ∀ (i : Nat) (p : Oper), ol[i]? = some p → (cls c.T p.op).isE = true → j < i → i < m → unord ms i j = true := by
      intro i p hi hp h1 h2
      cases hu : unord ms i j with
      | true => rfl
      | false =>
        rw [unord_comm] at hu
        exact absurd (hbefD j i (ds.below i p hi h2 hp) (unord_lt h1 hu)) hDj
    have hsame : (∀ (i : Nat) (p : Oper), ol[i]? = some p → (cls c.T p.op).isE = true → unord ms i j = false) → O m = O j := by
      intro hn
      rcases Nat.le_total m j with h | h
      · refine (O_const tr j h (by omega) fun i p h1 h2 hi => ?_).symm
        cases hp : (cls c.T p.op).isE with
        | false => rfl
        | true => have := hun1 i p hi hp h1 h2; rw [hn i p hi hp] at this; cases this
      · refine O_const tr m h ds.mn fun i p h1 h2 hi => ?_
        cases hp : (cls c.T p.op).isE with
        | false => rfl
        | true =>
          have hne : i ≠ j := fun e => by
            subst e
            rw [hj] at hi; obtain rfl := Option.some.inj hi
            rw [hE] at hp; cases hp
          have := hun2 i p hi hp (by omega) h2
          rw [hn i p hi hp] at this; cases this
    have hself : O (j + 1) = O j := notE_same hE hop
    cases hc : cls c.T o.op with
    | p => exact keep (op1_same hop fun h => ⟨hself, (p_any hc h).2 _⟩).2
    | rd =>
      refine keep ?_
      rw [hsame fun i p hi hp => ?_, ← hself]
      · rw [hself]; rw [hself] at hop; exact hop
      · cases hu : unord ms i j with
        | false => rfl
        | true =>
          have := dr.pair i j p o hi hj hu
          rw [hc] at this
          rw [okPair_Er hp] at this; cases this
    | ld =>
      obtain ⟨t, y, ho⟩ := ld_form hc
      cases hau : anyU c.T ms j 0 ol with
      | false =>
        refine keep ?_
        rw [hsame fun i p hi hp => by simpa using anyU_false hau hi hp]
        rw [hself] at hop; exact hop
      | true =>
        have hbx := hck.1 t y ho hau
        refine keep (op1_same hop fun h => ⟨hself, ?_⟩).2
        unfold opS at h ⊢
        simp only [ho] at h ⊢
        obtain ⟨h1, -⟩ := ret1_eq h
        rw [load_same (os2 := O m) hbx h1 ?_]
        · rfl
        · intro q off hy l hl
          have hyt : ∀ i, j < i → i ≤ ol.length → ev (E i) y = ev (E j) y := by
            intro i hji hil
            cases y with
            | tmp t' =>
              have ht' : t' ∈ tmpsOf ol o := by
                unfold tmpsOf
                refine List.mem_append.2 (.inl (List.mem_filterMap.2 ⟨.tmp t', ?_, rfl⟩))
                rw [ho]; simp [Op.operands]
              simp only [ev]
              by_cases hex : ∃ (i' : Nat) (q' : Oper), ol[i']? = some q' ∧ q'.dst = some t'
              · obtain ⟨i', q', hi', hq'⟩ := hex
                obtain ⟨hlt, -⟩ := (dr.data i' j q' o t' hi' hj hq' ht').resolve_right fun h => by rw [hc] at h; cases h.2.2
                rw [E_new tr dr hi' hq' i (by omega) hil, E_new tr dr hi' hq' j hlt (by omega)]
              · have hno : ∀ (i : Nat) (q : Oper), ol[i]? = some q → q.dst ≠ some t' := fun i q hi hq => hex ⟨i, q, hi, hq⟩
                rw [E_old tr hno i hil, E_old tr hno j (by omega)]
            | const v => rfl
            | func f => rfl
            | global g => rfl
          have hkp : ∀ i, i < ol.length → ((m ≤ i ∧ i < j) ∨ (j ≤ i ∧ i < m)) → KeptB q (O i) (O (i + 1)) := by
            intro i hil hcase
            have hi : ol[i]? = some ol[i] := List.getElem?_eq_getElem hil
            cases hp : (cls c.T ol[i].op).isE with
            | false => rw [O_same tr hil fun o' ho' => by rw [hi] at ho'; obtain rfl := Option.some.inj ho'; exact hp]; exact KeptB.refl _ _
            | true =>
              have hne : i ≠ j := fun e => by
                subst e
                rw [hj] at hi; have h5 := Option.some.inj hi
                rw [← h5, hE] at hp; cases hp
              have hu : unord ms i j = true := by
                rcases hcase with ⟨a1, a2⟩ | ⟨a1, a2⟩
                · exact hun1 i _ hi hp a1 a2
                · exact hun2 i _ hi hp (by omega) a2
              exact E_kept tr dr hi hj hp ho hu hy (fun hji => by rw [hyt i hji (by omega)]; exact hy)
          rcases Nat.le_total m j with h | h
          · have hk := O_kept tr j h (q := q) fun i a1 a2 => hkp i (by omega) (.inl ⟨a1, a2⟩)
            have hq : q < (O m).length := by
              rcases Nat.lt_or_ge q (O m).length with h | h
              · exact h
              · have hg := ds.mem.fresh q h
                have ht : ∃ t', y = .tmp t' := by
                  cases y with
                  | tmp t' => exact ⟨t', rfl⟩
                  | const v => exact absurd hy (cst_ne v q off)
                  | func f => cases hy
                  | global g => cases hy
                obtain ⟨t', rfl⟩ := ht
                have := hval t' (by
                  unfold tmpsOf
                  refine List.mem_append.2 (.inl (List.mem_filterMap.2 ⟨.tmp t', ?_, rfl⟩))
                  rw [ho]; simp [Op.operands])
                simp only [ev] at hy
                rw [hy] at this
                generalize a.tmps.getD t' undef = vv at this
                cases this with
                | ptr hp => rw [hg] at hp; cases hp
            exact (hk.2 hq l).2 hl
          · have hk := O_kept tr m h (q := q) fun i a1 a2 => hkp i (by have := ds.mn; omega) (.inr ⟨a1, a2⟩)
            exact (hk.2 (lt_of_getElem? hl) l).1 hl
    | ext => rw [hc] at hE; cases hE
    | eff => rw [hc] at hE; cases hE
    | call => rw [hc] at hE; cases hE
end
theorem mem_bindOn {o : Oper} {e : Nat} : e ∈ bindOn o ↔ ∃ d, d ∈ o.after ∧ Region.binds .any d = true ∧ d.on = e := by
  unfold bindOn
  simp [List.mem_map, List.mem_filter, and_assoc]
def VC (C : List (Nat × Nat)) (ops : Array Oper) : (Nat → Prop) → List Nat → Prop
  | D, [] => ∀ i, i < ops.size → D i
  | D, i :: rest => ¬ D i ∧ (∃ o, ops[i]? = some o ∧ ∀ e, e ∈ bindOn o → D e) ∧ (∀ p, p ∈ C → p.2 = i → D p.1) ∧ VC C ops (fun k => D k ∨ k = i) rest
theorem vc_add {C : List (Nat × Nat)} {ops : Array Oper} {i j : Nat} : ∀ (ord : List Nat) (D : Nat → Prop), D i → VC C ops D ord → VC (C ++ [(i, j)]) ops D ord
  | [], D, _, h => h
  | x :: rest, D, hi, ⟨h1, h2, h3, h4⟩ => ⟨h1, h2, fun p hp e => by
      rcases List.mem_append.1 hp with hp | hp
      · exact h3 p hp e
      · obtain rfl := List.mem_singleton.1 hp; exact hi, vc_add rest _ (.inl hi) h4⟩
theorem vc_split {C : List (Nat × Nat)} {ops : Array Oper} {i j : Nat} (hij : i ≠ j) : ∀ (ord : List Nat) (D : Nat → Prop), VC C ops D ord → VC (C ++ [(i, j)]) ops D ord ∨ VC (C ++ [(j, i)]) ops D ord
  | [], D, h => .inl h
  | x :: rest, D, ⟨h1, h2, h3, h4⟩ => by
    by_cases ei : x = i
    · subst ei
      refine .inl ⟨h1, h2, fun p hp e => ?_, vc_add rest _ (.inr rfl) h4⟩
      rcases List.mem_append.1 hp with hp | hp
      · exact h3 p hp e
      · obtain rfl := List.mem_singleton.1 hp; exact absurd e.symm hij
    · by_cases ej : x = j
      · subst ej
        refine .inr ⟨h1, h2, fun p hp e => ?_, vc_add rest _ (.inr rfl) h4⟩
        rcases List.mem_append.1 hp with hp | hp
        · exact h3 p hp e
        · obtain rfl := List.mem_singleton.1 hp; exact absurd e hij
      · rcases vc_split hij rest _ h4 with h | h
        · refine .inl ⟨h1, h2, fun p hp e => ?_, h⟩
          rcases List.mem_append.1 hp with hp | hp
          · exact h3 p hp e
          · obtain rfl := List.mem_singleton.1 hp; exact absurd e.symm ej
        · refine .inr ⟨h1, h2, fun p hp e => ?_, h⟩
          rcases List.mem_append.1 hp with hp | hp
          · exact h3 p hp e
          · obtain rfl := List.mem_singleton.1 hp; exact absurd e.symm ei
theorem vc_congr {C : List (Nat × Nat)} {ops : Array Oper} {D D' : Nat → Prop} {ord : List Nat} (h : ∀ i, D i ↔ D' i) (hv : VC C ops D ord) : VC C ops D' ord := by
  obtain rfl : D = D' := funext fun i => propext (h i)
  exact hv
theorem vc_lin {ops : Array Oper} (low : ∀ j o, ops[j]? = some o → ∀ e, e ∈ bindOn o → e < j) : ∀ (fuel t : Nat) (listed : Array Bool) (L : List Nat), listed.size = ops.size → (∀ i, i < ops.size → listed.getD i false = false → i ∈ L) →
    L.length ≤ fuel → VC [] ops (fun i => listed.getD i false = true) (Region.linearise.go .any ops fuel t listed []) := by
  have hgd : ∀ (listed : Array Bool), listed.size = ops.size → ∀ i, i < ops.size → listed.getD i true = listed.getD i false := by
    intro listed hsz i hi
    simp [Array.getD, show i < listed.size by omega]
  intro fuel
  induction fuel with
  | zero =>
    intro t listed L hsz hL hlen
    simp only [Region.linearise.go, List.reverse_nil]
    intro i hi
    cases hb : listed.getD i false with
    | true => rfl
    | false =>
      have := hL i hi hb
      have h0 : L = [] := List.length_eq_zero_iff.1 (by omega)
      rw [h0] at this; cases this
  | succ fuel ih =>
    intro t listed L hsz hL hlen
    simp only [Region.linearise.go]
    change VC [] ops _ (match (Region.ready .any ops listed)[t % (Region.ready .any ops listed).length]? with
      | some i => Region.linearise.go .any ops fuel (t / (Region.ready .any ops listed).length) (listed.setIfInBounds i true) [i]
      | none => [].reverse)
    cases hi : (Region.ready .any ops listed)[t % (Region.ready .any ops listed).length]? with
    | none =>
      have hnil : Region.ready .any ops listed = [] := by
        cases hr : Region.ready .any ops listed with
        | nil => rfl
        | cons x xs =>
          rw [hr] at hi
          rw [List.getElem?_eq_none_iff] at hi
          have := Nat.mod_lt t (y := (x :: xs).length) (by simp)
          omega
      intro i
      induction i using Nat.strongRecOn with
      | _ i ihi =>
        intro hi
        cases hb : listed.getD i false with
        | true => rfl
        | false =>
          have ho : ops[i]? = some ops[i] := Array.getElem?_eq_getElem hi
          have : i ∈ Region.ready .any ops listed := mem_ready.2 ⟨by rw [hgd listed hsz i hi]; exact hb, ops[i], ho, fun e he hbd => by
            have hlow := low i _ ho e.on (mem_bindOn.2 ⟨e, he, hbd, rfl⟩)
            exact ihi e.on hlow (by omega)⟩
          rw [hnil] at this; cases this
    | some i =>
      have him : i ∈ Region.ready .any ops listed := List.mem_of_getElem? hi
      obtain ⟨h1, o, ho, hall⟩ := mem_ready.1 him
      have hlt : i < ops.size := (Array.getElem?_eq_some_iff.1 ho).1
      have hDi : listed.getD i false = false := by rw [← hgd listed hsz i hlt]; exact h1
      have hset : ∀ k, (listed.setIfInBounds i true).getD k false = true ↔ (listed.getD k false = true ∨ k = i) := by
        intro k
        by_cases e : k = i
        · subst e
          simp [Array.getD, show k < listed.size by omega]
        · rw [getD_set_ne false (fun e' => e e'.symm)]; simp [e]
      show VC [] ops _ (Region.linearise.go .any ops fuel (t / (Region.ready .any ops listed).length) (listed.setIfInBounds i true) [i])
      rw [linearise_go_acc]
      refine ⟨by show ¬ (listed.getD i false = true); rw [hDi]; simp, ⟨o, ho, fun e he => ?_⟩, fun p hp => by simp at hp, ?_⟩
      · obtain ⟨d, hd1, hd2, rfl⟩ := mem_bindOn.1 he
        exact hall d hd1 hd2
      · refine vc_congr hset (ih _ (listed.setIfInBounds i true) (L.erase i) (by simpa using hsz) ?_ ?_)
        · intro k hk hb
          have hne : k ≠ i := fun e => by
            have := (hset k).2 (.inr e)
            rw [hb] at this; cases this
          rw [getD_set_ne false (fun e' => hne e'.symm)] at hb
          exact (List.mem_erase_of_ne hne).2 (hL k hk hb)
        · have := List.length_erase_of_mem (hL i hlt hDi)
          omega
theorem core_ok {c : Cx} (hO : OpsOK P c) {fr : Fr} {g0 : Nat → Gh} {nl nt : Nat} {k : Kt} {out : SV × List SO} {ops : Array Oper} {env : Env} {os : List SO} {a : Act} {w : World} (hi : Inv fr g0 nl nt env os a w)
    (h : runL c nt ops.toList env os k.n = some out) {ord : List Nat} (hv : VC [] ops (fun _ => False) ord) : wpOps P ops (PostK fr g0 nl nt k out) ord a w := by
  unfold runL at h
  split at h
  rotate_left
  · cases h
  rename_i hd
  have dr := drawn_of hd
  obtain ⟨E, O, X, e1, e2, tr, hf⟩ := tr_of ops.toList 0 env os rfl h
  have key : ∀ (ord : List Nat) (D : Nat → Prop) (a : Act) (w : World) (m : Nat) (g : Nat → Gh), (∀ j o, ops.toList[j]? = some o → D j → ∀ e, e ∈ bindOn o → D e) →
      DS c nt nl ops.toList E O X fr g0 D m g a w → VC [] ops D ord → wpOps P ops (PostK fr g0 nl nt k out) ord a w := by
    intro ord
    induction ord with
    | nil =>
      intro D a w m g hcl ds hall
      simp only [VC] at hall
      show PostK fr g0 nl nt k out .normal a w
      have hOn : O ops.toList.length = O m := O_const tr _ ds.mn (Nat.le_refl _) fun i p h1 h2 hi => by
        cases hp : (cls c.T p.op).isE with
        | false => rfl
        | true => exact absurd (hall i (by simpa using h2)) (ds.above i p hi h1 hp)
      have hf' : k.n (E ops.toList.length) (O ops.toList.length) = some out := by simpa using hf
      refine ⟨E ops.toList.length, O ops.toList.length, ⟨g, by rw [hOn]; exact ds.mem, fun t => ?_, ds.sz, ds.df, by rw [hOn]; exact ds.nlo, ds.h0⟩, hf'⟩
      rw [hOn]
      by_cases hex : ∃ (i : Nat) (q : Oper), ops.toList[i]? = some q ∧ q.dst = some t
      · obtain ⟨i, q, hi, hq⟩ := hex
        have hlt := lt_of_getElem? hi
        rw [E_new tr dr hi hq _ hlt (Nat.le_refl _)]
        exact ds.new i q t hi hq (hall i (by simpa using hlt))
      · have hno : ∀ (i : Nat) (q : Oper), ops.toList[i]? = some q → q.dst ≠ some t := fun i q hi hq => hex ⟨i, q, hi, hq⟩
        rw [E_old tr hno _ (Nat.le_refl _)]
        exact ds.old t fun i q hi hq => absurd hq (hno i q hi)
    | cons j rest ih =>
      intro D a w m g hcl ds hv
      obtain ⟨hDj, ⟨o, ho, hall⟩, -, hv'⟩ := hv
      have hol : ops.toList[j]? = some o := by rw [Array.getElem?_toList]; exact ho
      rw [wpOps_cons]
      refine ds_step hO tr dr rfl rfl hcl ds hol hDj hall fun a' w' m' g' ds' => ?_
      refine ih _ a' w' m' g' ?_ ds' hv'
      intro j' o' ho' hb e he
      rcases hb with hb | rfl
      · exact .inl (hcl j' o' ho' hb e he)
      · rw [hol] at ho'; obtain rfl := Option.some.inj ho'
        exact .inl (hall e he)
  obtain ⟨g, m, hs, ht, hdf, hl, h0⟩ := hi
  exact key ord (fun _ => False) a w 0 g (fun j o _ hD => hD.elim)
    { mem := by rw [e2]; exact m, old := fun t _ => by rw [e1, e2]; exact hs t, new := (fun i o t _ _ hD => hD.elim), sz := ht, df := hdf, h0 := h0, mn := Nat.zero_le _, nlo := by rw [e2]; exact hl,
      below := (fun i o _ h => by omega), above := fun i o _ _ _ hD => hD } hv
theorem posOf_get : ∀ (σ : List Nat) (i : Nat), i ∈ σ → σ[posOf i σ]? = some i
  | [], i, h => by cases h
  | x :: xs, i, h => by
    unfold posOf
    split
    · rename_i hb; rw [Nat.eq_of_beq_eq_true hb]; rfl
    · rename_i hb
      rcases List.mem_cons.1 h with rfl | h
      · simp at hb
      · rw [List.getElem?_cons_succ]; exact posOf_get xs i h
theorem nodupB_spec : ∀ (l : List Nat), nodupB l = true → l.Nodup
  | [], _ => List.nodup_nil
  | x :: xs, h => by
    simp only [nodupB, Bool.and_eq_true, Bool.not_eq_true', List.contains_eq_mem] at h
    exact List.nodup_cons.2 ⟨by simpa using h.1, nodupB_spec xs h.2⟩
structure PermOK (σ : List Nat) (ops : Array Oper) : Prop where
  len : σ.length = ops.size
  nd : σ.Nodup
  lt : ∀ i, i ∈ σ → i < ops.size
  all : ∀ i, i < ops.size → i ∈ σ
  gd : ∀ (i : Nat) (o : Oper) (g : Nat × Bool), ops[i]? = some o → o.guard = some g → g.1 < ops.size
theorem perm_of {σ : List Nat} {ops : Array Oper} (h : permOk σ ops.toList = true) : PermOK σ ops := by
  unfold permOk at h
  simp only [Bool.and_eq_true, List.all_eq_true] at h
  obtain ⟨⟨⟨⟨h1, h2⟩, h3⟩, h5⟩, h4⟩ := h
  have hl : σ.length = ops.size := by simpa using Nat.eq_of_beq_eq_true h1
  have hn := nodupB_spec σ h2
  have hlt : ∀ i, i ∈ σ → i < ops.size := fun i hi => by
    have := h3 i hi
    simpa [Nat.blt_eq] using this
  refine ⟨hl, hn, hlt, fun i hi => ?_, fun i o g ho hg => ?_⟩
  · have := h5 i (List.mem_range.2 (by simpa using hi))
    simpa using this
  · have hm : o ∈ ops.toList := List.mem_of_getElem? (by rw [Array.getElem?_toList]; exact ho)
    have := h4 o hm
    rw [hg] at this
    simpa [Nat.blt_eq] using this
theorem filterMap_get {α β : Type} (f : α → Option β) (g : α → β) : ∀ (l : List α), (∀ x, x ∈ l → f x = some (g x)) → l.filterMap f = l.map g
  | [], _ => rfl
  | x :: xs, h => by
    rw [List.filterMap_cons, h x (by simp), List.map_cons, filterMap_get f g xs fun y hy => h y (by simp [hy])]
theorem permOps_get {σ : List Nat} {ops : Array Oper} {C : List (Nat × Nat)} (hp : PermOK σ ops) {i : Nat} {o : Oper} (ho : ops[i]? = some o) : (permOps C σ ops.toList).toArray[posOf i σ]? = some (permOp C σ i o) := by
  have hi : i < ops.size := (Array.getElem?_eq_some_iff.1 ho).1
  have e : permOps C σ ops.toList = σ.map fun i => permOp C σ i (ops.getD i default) := by
    unfold permOps
    refine filterMap_get _ _ σ fun x hx => ?_
    have hx' := hp.lt x hx
    have : ops.toList[x]? = some ops[x] := by rw [Array.getElem?_toList]; exact Array.getElem?_eq_getElem hx'
    simp [this, Array.getD, hx']
  rw [e]
  have := posOf_get σ i (hp.all i hi)
  simp only [List.getElem?_toArray, List.getElem?_map, this, Option.map_some, Option.some.injEq]
  have h2 : ops.getD i default = o := by
    rw [Array.getElem?_eq_getElem hi] at ho
    simp [Array.getD, hi, Option.some.inj ho]
  rw [h2]
theorem permOps_size {σ : List Nat} {ops : Array Oper} {C : List (Nat × Nat)} (hp : PermOK σ ops) : (permOps C σ ops.toList).toArray.size = σ.length := by
  have e : permOps C σ ops.toList = σ.map fun i => permOp C σ i (ops.getD i default) := by
    unfold permOps
    refine filterMap_get _ _ σ fun x hx => ?_
    have hx' := hp.lt x hx
    have : ops.toList[x]? = some ops[x] := by rw [Array.getElem?_toList]; exact Array.getElem?_eq_getElem hx'
    simp [this, Array.getD, hx']
  rw [e]; simp
theorem bindOn_perm {C : List (Nat × Nat)} {σ : List Nat} {i : Nat} {o : Oper} {e : Nat} (h : e ∈ bindOn (permOp C σ i o)) : ∃ e0, e = posOf e0 σ ∧ (e0 ∈ bindOn o ∨ (e0, i) ∈ C) := by
  unfold bindOn permOp at h
  simp only [List.mem_map, List.mem_filter] at h
  obtain ⟨d, ⟨hd, -⟩, rfl⟩ := h
  simp only [List.mem_map, List.mem_append, List.mem_filterMap] at hd
  obtain ⟨e0, he, rfl⟩ := hd
  refine ⟨e0, rfl, ?_⟩
  rcases he with he | ⟨p, hp, hpe⟩
  · exact .inl he
  · split at hpe
    · rename_i hb
      have := Nat.eq_of_beq_eq_true hb
      cases hpe
      obtain ⟨p1, p2⟩ := p
      obtain rfl : p2 = i := this
      exact .inr hp
    · cases hpe
theorem nd_inj : ∀ {l : List Nat}, l.Nodup → ∀ {i j : Nat} {hi : i < l.length} {hj : j < l.length}, l[i] = l[j] → i = j
  | [], _, i, j, hi, hj, e => by simp at hi
  | x :: xs, hn, i, j, hi, hj, e => by
    obtain ⟨h1, h2⟩ := List.nodup_cons.1 hn
    cases i with
    | zero =>
      cases j with
      | zero => rfl
      | succ j =>
        simp only [List.getElem_cons_zero, List.getElem_cons_succ] at e
        exact absurd (e ▸ List.getElem_mem _) h1
    | succ i =>
      cases j with
      | zero =>
        simp only [List.getElem_cons_zero, List.getElem_cons_succ] at e
        exact absurd (e ▸ List.getElem_mem _) h1
      | succ j =>
        simp only [List.getElem_cons_succ] at e
        rw [nd_inj h2 e]
theorem vc_perm {σ : List Nat} {ops : Array Oper} {C : List (Nat × Nat)} (hp : PermOK σ ops) : ∀ (ord : List Nat) (D : Nat → Prop), (∀ i, D i → i < ops.size) → VC C ops D ord →
    VC [] (permOps C σ ops.toList).toArray (fun p => ∃ i, D i ∧ posOf i σ = p) (ord.map fun i => posOf i σ)
  | [], D, hD, h => by
    intro p hps
    rw [permOps_size hp] at hps
    have hm : σ[p] ∈ σ := List.getElem_mem hps
    refine ⟨σ[p], h _ (hp.lt _ hm), ?_⟩
    have h1 := posOf_get σ σ[p] hm
    have hlt := lt_of_getElem? h1
    rw [List.getElem?_eq_getElem hlt] at h1
    exact nd_inj hp.nd (Option.some.inj h1)
  | i :: rest, D, hD, ⟨h1, ⟨o, ho, hall⟩, h3, h4⟩ => by
    have hi : i < ops.size := (Array.getElem?_eq_some_iff.1 ho).1
    have inj : ∀ x y, x < ops.size → y < ops.size → posOf x σ = posOf y σ → x = y := fun x y hx hy e => by
      have a1 := posOf_get σ x (hp.all x hx)
      have a2 := posOf_get σ y (hp.all y hy)
      rw [e, a2] at a1
      exact (Option.some.inj a1).symm
    refine ⟨?_, ⟨_, permOps_get hp ho, fun e he => ?_⟩, fun p hp => by simp at hp, ?_⟩
    · rintro ⟨x, hx, e⟩
      exact h1 (inj x i (hD x hx) hi e ▸ hx)
    · obtain ⟨e0, rfl, he2⟩ := bindOn_perm he
      refine he2.elim (fun he => ⟨e0, hall e0 he, rfl⟩) (fun he => ⟨e0, h3 (e0, i) he rfl, rfl⟩)
    · refine vc_congr (fun p => ?_) (vc_perm hp rest _ (fun x hx => hx.elim (hD x) fun e => e ▸ hi) h4)
      constructor
      · rintro ⟨x, hx | rfl, e⟩
        · exact .inl ⟨x, hx, e⟩
        · exact .inr e.symm
      · rintro (⟨x, hx, e⟩ | rfl)
        · exact ⟨x, .inl hx, e⟩
        · exact ⟨i, .inr rfl, rfl⟩
theorem wanted_perm {σ : List Nat} {ops : Array Oper} {C : List (Nat × Nat)} (hp : PermOK σ ops) {i : Nat} {o : Oper} (ho : ops[i]? = some o) (tmps : Array Value) :
    Region.wanted (permOp C σ i o) (yielded (permOps C σ ops.toList).toArray tmps) = Region.wanted o (yielded ops tmps) := by
  unfold Region.wanted
  cases hg : o.guard with
  | none => simp [permOp, hg]
  | some g =>
    have hlt := hp.gd i o g ho hg
    have e : (permOp C σ i o).guard = some (posOf g.1 σ, g.2) := by simp [permOp, hg]
    have hy : yielded (permOps C σ ops.toList).toArray tmps (posOf g.1 σ) = yielded ops tmps g.1 := by
      unfold yielded
      rw [permOps_get hp (Array.getElem?_eq_getElem hlt), Array.getElem?_eq_getElem hlt]
      rfl
    rw [e]
    simp only [hy]
theorem wp_perm {σ : List Nat} {ops : Array Oper} {C : List (Nat × Nat)} (hp : PermOK σ ops) {Q : Exit → Act → World → Prop} : ∀ (ord : List Nat) (D : Nat → Prop) (a : Act) (w : World), VC C ops D ord →
    wpOps P (permOps C σ ops.toList).toArray Q (ord.map fun i => posOf i σ) a w → wpOps P ops Q ord a w
  | [], D, a, w, _, h => h
  | i :: rest, D, a, w, ⟨_, ⟨o, ho, _⟩, _, h4⟩, h => by
    rw [List.map_cons, wpOps_cons] at h
    rw [wpOps_cons]
    refine wpOp_mono (K := wpOps P (permOps C σ ops.toList).toArray Q (rest.map fun i => posOf i σ)) (fun a' w' h' => wp_perm hp rest _ a' w' h4 h') ?_
    unfold wpOp at h ⊢
    rw [permOps_get hp ho] at h
    rw [ho]
    simp only [wanted_perm hp ho] at h ⊢
    exact h
theorem both_some {x y : Out} {r : SV × List SO} (h : both x y = some r) : x = some r ∧ y = some r := by
  unfold both at h
  split at h
  · rename_i e; exact ⟨h, e ▸ h⟩
  · cases h
theorem tree_ok {c : Cx} (hO : OpsOK P c) {fr : Fr} {g0 : Nat → Gh} {nl nt : Nat} {k : Kt} {out : SV × List SO} {ops : Array Oper} {env : Env} {os : List SO} {a : Act} {w : World} (hi : Inv fr g0 nl nt env os a w) {ord : List Nat} :
    ∀ (t : DT) (C : List (Nat × Nat)), runT c nt ops.toList env os k.n t C = some out → VC C ops (fun _ => False) ord → wpOps P ops (PostK fr g0 nl nt k out) ord a w
  | .leaf σ, C, h, hv => by
    simp only [runT] at h
    split at h
    · rename_i hp
      have hp := perm_of hp
      refine wp_perm hp ord _ a w hv (core_ok hO hi h (vc_congr (fun p => ?_) (vc_perm hp ord _ (fun _ h => h.elim) hv)))
      constructor
      · rintro ⟨_, h, _⟩; exact h
      · exact False.elim
    · cases h
  | .split i j x y, C, h, hv => by
    simp only [runT] at h
    split at h
    · cases h
    · rename_i hb
      obtain ⟨h1, h2⟩ := both_some h
      rcases vc_split (i := i) (j := j) (fun e => by subst e; simp at hb) ord _ hv with hv | hv
      · exact tree_ok hO hi x _ h1 hv
      · exact tree_ok hO hi y _ h2 hv
theorem draw_ok {c : Cx} (hO : OpsOK P c) (hmix : P.follows .mixedOrders = true) : DrawOK P c := by
  intro fr g0 nl nt k out d ops env os a w t hi h
  simp only [Region.schedule, hmix, Bool.true_or, if_true]
  have hrep : ∀ i, (Array.replicate ops.size false).getD i false = false := fun i => by
    simp only [Array.getD]; split <;> simp
  have lin : (∀ j o, ops[j]? = some o → ∀ e, e ∈ bindOn o → e < j) → VC [] ops (fun _ => False) (Region.linearise.go .any ops ops.size t (Array.replicate ops.size false) []) := fun low =>
    vc_congr (fun i => by rw [hrep]; simp) (vc_lin low ops.size t (Array.replicate ops.size false) (List.range ops.size) (by simp) (fun i hi _ => List.mem_range.2 hi) (by simp))
  unfold runDraw at h
  split at h
  · refine core_ok hO hi h (lin fun j o ho e he => ?_)
    unfold runL at h
    split at h
    · rename_i hd
      exact (drawn_of hd).low j o (by rw [Array.getElem?_toList]; exact ho) e he
    · cases h
  · rename_i tr
    split at h
    · rename_i hl
      refine tree_ok hO hi tr [] h (lin fun j o ho e he => ?_)
      have := allI_spec hl j o (by rw [Array.getElem?_toList]; exact ho)
      have := List.all_eq_true.1 this e he
      simpa [Nat.blt_eq] using this
    · cases h
end Go.Proofs.YtebaiioejagfoaaGreatDoor

/- The evaluator S: functions are sound. -/
namespace Go.Proofs.YtebaiioejagfoaaGreatDoor
open Go
set_option linter.unusedVariables false
set_option linter.unusedSimpArgs false
variable {P : Program} {T : Tab}
theorem loadVar_rep (hT : TabOk P T) {fr : Fr} {os : List SO} {g : Nat → Gh} {w : World} (hm : Mem fr os g w) {t : Nat} {p x : SV} {pv : Value}
    (hp : RepV w (Bk fr os g w) g p pv) (h : loadS T os t p = some x) : ∃ a v, pv = .pointer (some a) ∧ (loadVar t a).run P w = .ok v w ∧ RepV w (Bk fr os g w) g x v := by
  obtain ⟨v, hr, hv⟩ := load_rep hT hm hp h
  unfold loadS at h
  split at h
  · split at h
    · rename_i l hl
      obtain ⟨b, o, vs, rfl, -, -⟩ := place_rep hm hp hl
      exact ⟨_, v, rfl, by simpa [Instr.loadAt, Instr.sureAddr] using hr, hv⟩
    · cases h
  · cases h
def resRun (tmps : Array Value) : ResultVar → Sem Value := fun
  | .tmp t => pure (tmps.getD t undef)
  | .cell a t => do loadVar t (← asAddr (tmps.getD a undef))
theorem resCells_rep (hT : TabOk P T) {fr : Fr} {os : List SO} {g : Nat → Gh} {w : World} (hm : Mem fr os g w) {env : Env} {tmps : Array Value} (hs : Slots w (Bk fr os g w) g env tmps) : ∀ (rs : List ResultVar) {xs : List SV},
    resCells T env os rs = some xs → ∃ vs, (rs.mapM (resRun tmps)).run P w = .ok vs w ∧ RepL w (Bk fr os g w) g xs vs := by
  intro rs
  induction rs with
  | nil =>
    intro xs h
    simp only [resCells, Option.some.injEq] at h
    subst h
    exact ⟨[], by simp, RepL.nil⟩
  | cons r rs ih =>
    intro xs h
    simp only [resCells, resC1] at h
    split at h
    · rename_i x xs' hx hxs
      obtain rfl := Option.some.inj h
      obtain ⟨vs, hr, hl⟩ := ih hxs
      have : ∃ v, (resRun tmps r).run P w = .ok v w ∧ RepV w (Bk fr os g w) g x v := by
        cases r with
        | tmp t =>
          simp only [resCell, Option.some.injEq] at hx
          subst hx
          exact ⟨_, by simp [resRun], hs t⟩
        | cell a t =>
          obtain ⟨ad, v, e, h1, h2⟩ := loadVar_rep hT hm (hs a) hx
          exact ⟨v, by simp [resRun, e, asAddr, h1], h2⟩
      obtain ⟨v, h1, h2⟩ := this
      exact ⟨v :: vs, by simp [List.mapM_cons, h1, hr], RepL.cons h2 hl⟩
    · cases h
theorem fixCell_rep {fr : Fr} {os : List SO} {g : Nat → Gh} {w : World} (hm : Mem fr os g w) {x y : SV} {v : Value} (hx : RepV w (Bk fr os g w) g x v) (h : fixCell os x = some y) : RepV w (Bk fr os g w) g y v := by
  unfold fixCell at h
  split at h
  · cases h; exact hx
  · cases h; exact hx
  · cases h; exact hx
  · cases h; exact hx
  · rename_i j
    split at h
    · cases h; exact hx
    · rename_i sz l hj
      cases h
      rcases hm.objs _ _ hj with ⟨rfl, hg⟩ | ⟨b, cap, vs, hg, h1, h2, h3, h4, h5⟩
      · cases hx with
        | osl0 h0 => exact .sl0
        | osln hq9 => exfalso; first | (rw [hn] at hq9; cases hq9) | (rw [e1] at hq9; cases hq9) | (rw [hg] at hq9; cases hq9) | (rw [h1] at hq9; cases hq9) | (simp_all; done)
        | osl h0 => rw [hg] at h0; cases h0
      · cases hx with
        | osl0 h0 => rw [hg] at h0; cases h0
        | osln hq9 => exfalso; first | (rw [hn] at hq9; cases hq9) | (rw [e1] at hq9; cases hq9) | (rw [hg] at hq9; cases hq9) | (rw [h1] at hq9; cases hq9) | (simp_all; done)
        | osl h0 =>
          rw [hg] at h0
          cases h0
          by_cases hl : l = []
          · subst hl; exact .sl0
          · exact .sl h3.1 h3.2 h4 (by simpa using h5) h2 h1
    · cases h; exact hx
    · cases h
  · cases h
theorem fixCells_rep {fr : Fr} {os : List SO} {g : Nat → Gh} {w : World} (hm : Mem fr os g w) : ∀ (xs : List SV) {ys : List SV} {vs : List Value},
    RepL w (Bk fr os g w) g xs vs → fixCells os xs = some ys → RepL w (Bk fr os g w) g ys vs := by
  intro xs
  induction xs with
  | nil => intro ys vs hl h; simp only [fixCells, Option.some.injEq] at h; subst h; exact hl
  | cons x xs ih =>
    intro ys vs hl h
    obtain ⟨v, vs', rfl, hv, hl'⟩ := hl.uncons
    simp only [fixCells] at h
    split at h
    · rename_i hy hys
      cases h
      exact RepL.cons (fixCell_rep hm hv hy) (ih hl' hys)
    · cases h
theorem fixV_rep {fr : Fr} {os : List SO} {g : Nat → Gh} {w : World} (hm : Mem fr os g w) {x y : SV} {v : Value} (hx : RepV w (Bk fr os g w) g x v) (h : fixV os x = some y) : RepV w (Bk fr os g w) g y v := by
  unfold fixV at h
  split at h
  · split at h
    · rename_i hys
      cases h
      cases hx with
      | ag h1 h2 h3 =>
        have := fixCells_rep hm _ ⟨h1, h2⟩ hys
        exact .ag this.1 this.2 h3
    · cases h
  · exact fixCell_rep hm hx h
theorem fixVs_rep {fr : Fr} {os : List SO} {g : Nat → Gh} {w : World} (hm : Mem fr os g w) : ∀ (xs : List SV) {ys : List SV} {vs : List Value},
    RepL w (Bk fr os g w) g xs vs → fixVs os xs = some ys → RepL w (Bk fr os g w) g ys vs := by
  intro xs
  induction xs with
  | nil => intro ys vs hl h; simp only [fixVs, Option.some.injEq] at h; subst h; exact hl
  | cons x xs ih =>
    intro ys vs hl h
    obtain ⟨v, vs', rfl, hv, hl'⟩ := hl.uncons
    simp only [fixVs] at h
    split at h
    · rename_i hy hys
      cases h
      exact RepL.cons (fixV_rep hm hv hy) (ih hl' hys)
    · cases h
theorem purCells_rep {fr : Fr} {w : World} {g : Nat → Gh} {ms : List Nat} : ∀ (xs : List SV) {k : Nat} {os os1 : List SO} {ys : List SV} {vs : List Value}, Mem fr os g w → RepL w (Bk fr os g w) g xs vs →
    purCells ms k xs os = some (ys, os1) → Mem fr os1 g w ∧ Grow fr os g w os1 g w ∧ RepL w (Bk fr os1 g w) g ys vs := by
  intro xs
  induction xs with
  | nil =>
    intro k os os1 ys vs hm hl h
    simp only [purCells] at h
    cases h
    exact ⟨hm, Grow.refl _ _ _ _, hl⟩
  | cons x xs ih =>
    intro k os os1 ys vs hm hl h
    obtain ⟨v, vs', rfl, hv, hl'⟩ := hl.uncons
    simp only [purCells] at h
    split at h
    · rename_i y os2 hy
      split at h
      · rename_i ys' os3 hys
        cases h
        have h1 : Mem fr os2 g w ∧ Grow fr os g w os2 g w ∧ RepV w (Bk fr os2 g w) g y v := by
          split at hy
          · obtain ⟨m1, g1, r1, -⟩ := pureCell_rep hm hv hy
            exact ⟨m1, g1, r1.mono (fun _ h => h) (fun _ _ => rfl) g (fun _ h => absurd rfl h)⟩
          · cases hy; exact ⟨hm, Grow.refl _ _ _ _, hv⟩
        obtain ⟨m1, g1, r1⟩ := h1
        obtain ⟨m2, g2, r2⟩ := ih m1 (hl'.mono g1.sub g1.same g1.ext) hys
        exact ⟨m2, g1.trans g2, RepL.cons (r1.grow g2) r2⟩
      · cases h
    · cases h
theorem purVs_rep {fr : Fr} {w : World} {g : Nat → Gh} {ms : List Nat} : ∀ (xs : List SV) {k : Nat} {os os1 : List SO} {ys : List SV} {vs : List Value}, Mem fr os g w → RepL w (Bk fr os g w) g xs vs →
    purVs ms k xs os = some (ys, os1) → Mem fr os1 g w ∧ Grow fr os g w os1 g w ∧ RepL w (Bk fr os1 g w) g ys vs := by
  intro xs
  induction xs with
  | nil =>
    intro k os os1 ys vs hm hl h
    simp only [purVs] at h
    cases h
    exact ⟨hm, Grow.refl _ _ _ _, hl⟩
  | cons x xs ih =>
    intro k os os1 ys vs hm hl h
    obtain ⟨v, vs', rfl, hv, hl'⟩ := hl.uncons
    simp only [purVs] at h
    split at h
    · rename_i y os2 hy
      split at h
      · rename_i ys' os3 hys
        cases h
        have h1 : Mem fr os2 g w ∧ Grow fr os g w os2 g w ∧ RepV w (Bk fr os2 g w) g y v := by
          split at hy
          · rename_i l
            split at hy
            · rename_i l' os4 hl4
              cases hy
              cases hv with
              | ag h1 h2 h3 =>
                obtain ⟨m1, g1, r1⟩ := purCells_rep l hm ⟨h1, h2⟩ hl4
                exact ⟨m1, g1, .ag r1.1 r1.2 h3⟩
            · cases hy
          · split at hy
            · obtain ⟨m1, g1, r1, -⟩ := pureCell_rep hm hv hy
              exact ⟨m1, g1, r1.mono (fun _ h => h) (fun _ _ => rfl) g (fun _ h => absurd rfl h)⟩
            · cases hy; exact ⟨hm, Grow.refl _ _ _ _, hv⟩
        obtain ⟨m1, g1, r1⟩ := h1
        obtain ⟨m2, g2, r2⟩ := ih m1 (hl'.mono g1.sub g1.same g1.ext) hys
        exact ⟨m2, g1.trans g2, RepL.cons (r1.grow g2) r2⟩
      · cases h
    · cases h
theorem pureCell_box {os os1 : List SO} {x y : SV} (h : pureCell os x = some (y, os1)) {j : Nat} {l : List SV} (hj : os[j]? = some (.box l)) : os1[j]? = some (.box l) := by
  have key : ∀ (k sz : Nat) (b : Bool) (l' : List SV), os[k]? = some (.arr b sz l') → (os.set k (.frz sz l'))[j]? = some (.box l) := fun k sz b l' hk => by
    rw [List.getElem?_set]
    split
    · rename_i e; subst e; rw [hj] at hk; cases hk
    · exact hj
  unfold pureCell at h
  split at h
  · cases h; exact hj
  · cases h; exact hj
  · split at h
    · rename_i hk; cases h; exact key _ _ _ _ hk
    · cases h; exact hj
    · cases h
  · split at h
    · rename_i hk
      split at h
      · cases h; exact key _ _ _ _ hk
      · cases h
    · split at h
      · cases h; exact hj
      · cases h
    · cases h
  · cases h
theorem purCells_box {ms : List Nat} : ∀ (xs : List SV) {k : Nat} {os os1 : List SO} {ys : List SV}, purCells ms k xs os = some (ys, os1) → ∀ {j : Nat} {l : List SV}, os[j]? = some (.box l) → os1[j]? = some (.box l) := by
  intro xs
  induction xs with
  | nil => intro k os os1 ys h j l hj; simp only [purCells] at h; cases h; exact hj
  | cons x xs ih =>
    intro k os os1 ys h j l hj
    simp only [purCells] at h
    split at h
    · rename_i y os2 hy
      split at h
      · rename_i ys' os3 hys
        cases h
        refine ih hys ?_
        split at hy
        · exact pureCell_box hy hj
        · cases hy; exact hj
      · cases h
    · cases h
theorem boxpur_rep {fr : Fr} {os : List SO} {g : Nat → Gh} {w : World} (hm : Mem fr os g w) {j b : Nat} {l l' : List SV} {vs : List Value} (hj : os[j]? = some (.box l)) (e1 : g j = .bx b) (e2 : RepL w (Bk fr os g w) g l' vs) (e3 : ∀ v : Value, v ∈ vs → v.oneCell' = true)
    (e4 : CellsAt w b 0 vs) (e5 : Room w b vs.length) : Mem fr (os.set j (.box l')) g w ∧ Grow fr os g w (os.set j (.box l')) g w := by
  have hb : (g j).has b := by rw [e1]; rfl
  have hg := (set_chg hm (SameOut.refl _) hj rfl hb (o' := .box l') rfl rfl (fun _ _ => rfl)).grow
  exact ⟨set_mem hm (SameOut.refl _) hj rfl hb rfl (fun sz l e => by cases e) rfl (fun _ _ => rfl) ⟨b, vs, e1, e2.mono hg.sub hg.same hg.ext, e3, e4, e5⟩, hg⟩
theorem purBox_rep {fr : Fr} {os os1 : List SO} {g : Nat → Gh} {w : World} {ms : List Nat} (hm : Mem fr os g w) (h : purBox ms os = some os1) : Mem fr os1 g w ∧ Grow fr os g w os1 g w := by
  unfold purBox at h
  split at h
  · rename_i l hj
    split at h
    · rename_i l' os2 hp
      cases h
      obtain ⟨b, vs, e1, e2, e3, e4, e5⟩ := hm.objs _ _ hj
      obtain ⟨m1, g1, r1⟩ := purCells_rep l hm e2 hp
      have hj1 := purCells_box l hp hj
      obtain ⟨m2, g2⟩ := boxpur_rep m1 hj1 e1 r1 e3 e4 e5
      exact ⟨m2, g1.trans g2⟩
    · cases h
  · cases h
theorem ret_rep (hT : TabOk P T) {fr : Fr} {os os1 : List SO} {g : Nat → Gh} {w : World} (hm : Mem fr os g w) {env : Env} {tmps : Array Value} (hs : Slots w (Bk fr os g w) g env tmps) {nl : Nat} {fn : Func} {r : SV}
    {ms : List Nat} (h : retS T ms nl fn.results.toList env os = some (r, os1)) :
    ∃ v g', (results fn tmps).run P w = .ok v w ∧ Mem fr os1 g' w ∧ (∀ j, j < nl → g' j = g j) ∧ RepV w (Bk fr os1 g' w) g' r v ∧ nl ≤ os1.length := by
  have h0 : ∃ xs xs' os', resCells T env os fn.results.toList = some xs ∧ ((∃ os2, purVs ms 0 xs os = some (xs', os2) ∧ (purBox ms os2 = some os' ∨ os' = os2)) ∨ xs' = xs ∧ os' = os) ∧ retV T nl os' (some xs') = some (r, os1) := by
    unfold retS at h
    split at h
    · cases hx : resCells T env os fn.results.toList with
      | none => rw [hx] at h; cases h
      | some xs => rw [hx] at h; exact ⟨xs, xs, os, rfl, .inr ⟨rfl, rfl⟩, h⟩
    · unfold retP at h
      split at h
      · cases h
      rename_i xs hx
      split at h
      · rename_i ys os2 hp
        split at h
        · rename_i os3 hb
          refine ⟨xs, ys, os3, hx, .inl ⟨os2, hp, ?_⟩, h⟩
          split at hb
          · exact .inl hb
          · cases hb; exact .inr rfl
        · cases h
      · cases h
  clear h
  obtain ⟨xs, xs', os', hxs, hpur, h⟩ := h0
  obtain ⟨vs, hr, hl⟩ := resCells_rep hT hm hs _ hxs
  clear hs
  have h1 : Mem fr os' g w ∧ RepL w (Bk fr os' g w) g xs' vs := by
    rcases hpur with ⟨os2, hp, hb⟩ | ⟨rfl, rfl⟩
    · obtain ⟨m1, -, r1⟩ := purVs_rep xs hm hl hp
      rcases hb with hb | rfl
      · obtain ⟨m2, g2⟩ := purBox_rep m1 hb
        exact ⟨m2, r1.mono g2.sub g2.same g2.ext⟩
      · exact ⟨m1, r1⟩
    · exact ⟨hm, hl⟩
  clear hm hl
  obtain ⟨hm, hl⟩ := h1
  unfold retV at h
  dsimp only at h
  split at h
  · cases h
  rename_i ys hys
  split at h
  · cases h
  rename_i keep hk
  split at h
  rotate_left
  · cases h
  cases h
  obtain ⟨k1, k2, k3⟩ := okKeep_of hk
  have hl := fixVs_rep hm _ hl hys
  have hl2 : RepL w (Bk fr (gcO keep os') (gk g keep) w) (gk g keep) (ys.map (ren2 (place keep))) vs := map_ren (fun x v h => ren2_rep (gc_sub keep) gk_place h) hl
  have hres : (results fn tmps).run P w = .ok (if h : vs.toArray.size = 1 then vs.toArray[0] else .tuple vs.toArray) w := by
    have e : results fn tmps = Bind.bind (fn.results.mapM (resRun tmps)) (fun vs => pure (if h : vs.size = 1 then vs[0] else .tuple vs)) := by
      unfold results
      refine congrArg (fun q => Bind.bind q _) ?_
      refine congrArg (fun q => Array.mapM q fn.results) ?_
      funext r
      cases r <;> rfl
    rw [e, Array.mapM_eq_mapM_toList]
    simp [hr]
  refine ⟨_, gk g keep, hres, gc_mem hm k1, fun j hj => by unfold gk; rw [k3 j hj], ?_, by simpa [gcO] using k2⟩
  split
  · rename_i y
    obtain ⟨v, vs', rfl, hv, hl'⟩ := hl2.uncons
    obtain rfl : vs' = [] := by have := hl'.1; cases vs' <;> simp at this ⊢
    simpa using hv
  · rename_i hne
    have : ¬ vs.toArray.size = 1 := by
      intro h1
      have h2 := hl.1
      match ys, hne with
      | [], _ => simp at h1 h2; omega
      | [y], hne => exact hne y rfl
      | _ :: _ :: _, _ => simp at h1 h2; omega
    rw [dif_neg this]
    exact .tup hl2.1 hl2.2
theorem look_num (t : Nat) : ∀ (args : List SV) (i : Nat), look t (numEnv i args) = if i ≤ t then (args[t - i]?).getD .dead else .dead := by
  intro args
  induction args with
  | nil => intro i; simp [numEnv, look]
  | cons x xs ih =>
    intro i
    simp only [numEnv, look]
    split
    · rename_i h
      have := Nat.eq_of_beq_eq_true h
      subst this
      simp
    · rename_i h
      have hne : t ≠ i := fun e => by subst e; rw [Nat.beq_refl] at h; cases h
      rw [ih (i + 1)]
      by_cases hi : i ≤ t
      · have h1 : i + 1 ≤ t := by omega
        rw [if_pos h1, if_pos hi]
        have : t - i = (t - (i + 1)) + 1 := by omega
        rw [this]; simp
      · rw [if_neg hi, if_neg (by omega)]
theorem slots_num {w : World} {B : Nat → Prop} {g : Nat → Gh} {args : List SV} {vals : List Value} (h : RepL w B g args vals) (n : Nat) : Slots w B g (numEnv 0 args) (vals.toArray ++ Array.replicate (n - vals.toArray.size) undef) := by
  intro t
  rw [look_num]
  simp only [Nat.zero_le, if_true, Nat.sub_zero]
  cases hx : args[t]? with
  | none => exact .dead
  | some x =>
    have hlt : t < vals.length := by rw [← h.1]; exact lt_of_getElem? hx
    have : (vals.toArray ++ Array.replicate (n - vals.toArray.size) undef).getD t undef = vals[t] := by
      rw [Array.getD_eq_getD_getElem?, Array.getElem?_append_left (by simpa using hlt)]
      simp [hlt]
    rw [this]
    exact h.2 t x _ hx (List.getElem?_eq_getElem hlt)
structure PrgOK (P : Program) (p : Prg) : Prop where
  tab : TabOk P p.T
  code : ∀ f fn, p.code f = some fn → P.funcs[f]? = some fn ∧ (fn.name == "runtime.NumGoroutine") = false ∧ (p.fi f).nt ≤ fn.ntmps
  prim : ∀ f q, p.prim f = some q → KOK1 P f q
  mix : P.follows .mixedOrders = true
theorem callF_ok {p : Prg} (hp : PrgOK P p) : ∀ n, KOK P (callF p n) := by
  intro n
  induction n with
  | zero => intro f args los los' r h; simp [callF] at h
  | succ n ih =>
    intro f args los los' r h
    simp only [callF] at h
    split at h
    · rename_i q hq
      exact hp.prim f q hq args los los' r h
    · split at h
      · cases h
      rename_i fn hfn
      split at h
      · cases h
      rename_i b hb
      obtain ⟨h1, h2, h3⟩ := hp.code f fn hfn
      refine ⟨⟨fn, b, h1, h2, hb⟩, fun A L g vals w hL hm ha => ?_⟩
      refine calls_of_wp h1 hb ?_
      let c : Cx := ⟨p.T, p.own, callF p n⟩
      have hinv : Inv ⟨w.heap.size, A, L, w⟩ g los.length (p.fi f).nt (numEnv 0 args) los { tmps := vals.toArray ++ Array.replicate (fn.ntmps - vals.toArray.size) undef, defers := [] } w :=
        ⟨g, hm, slots_num ha _, by simp; omega, rfl, Nat.le_refl _, fun _ _ _ => rfl⟩
      refine wp_mono (exec_sound (c := c) (ops_ok hp.tab ih) (draw_ok (ops_ok hp.tab ih) hp.mix) gc_ok b _ _ _ _ _ hinv h) ?_
      intro e a w' hq
      obtain ⟨env, os, ⟨g1, m, hs, ht, hd, hl, h0⟩, hk⟩ := hq
      have fin : retS p.T (p.pur f) los.length fn.results.toList env os = some (r, los') → a.defers = [] ∧ ∃ v, (results fn a.tmps).run P w' = .ok v w' ∧
          ∃ v' g', Ending.returned v = .returned v' ∧ Mem ⟨w.heap.size, A, L, w⟩ los' g' w' ∧ (∀ j, j < los.length → g j ≠ .no → g' j = g j) ∧ RepV w' (Bk ⟨w.heap.size, A, L, w⟩ los' g' w') g' r v' ∧ los.length ≤ los'.length := by
        intro hk
        obtain ⟨v, g', r1, r2, r3, r4, r5⟩ := ret_rep hp.tab m hs hk
        exact ⟨hd, v, r1, v, g', rfl, r2, fun j hj hn => by rw [r3 j hj, h0 j hj hn], r4, r5⟩
      cases e with
      | normal => exact fin hk
      | ret => exact fin hk
      | exit id => simp [kEnd] at hk
      | goto l => exact hk.elim
      | panic ch => exact hk.elim
      | outgrown => exact hk.elim
end Go.Proofs.YtebaiioejagfoaaGreatDoor

/- The evaluator S: the table of types is right, where a check by the kernel says so. -/
namespace Go.Proofs.YtebaiioejagfoaaGreatDoor
open Go
set_option linter.unusedVariables false
set_option linter.unusedSimpArgs false
variable {P : Program} {T : Tab}
def zkChk (v : Value) (z : ZK) : Bool :=
  match v, z with
  | .int k n, .int k' => decide (k = k') && decide (n = 0)
  | .bool false, .bool => true
  | .string ⟨⟨[]⟩⟩, .str => true
  | .slice none 0 0, .sl _ => true
  | .nilFunc, .fn => true
  | .pointer none, .ptr => true
  | _, _ => false
def zksChk : List Value → List ZK → Bool
  | [], [] => true
  | v :: vs, z :: zs => zkChk v z && zksChk vs zs
  | _, _ => false
theorem zkChk_ok {v : Value} {z : ZK} (h : zkChk v z = true) : v = z.val := by
  unfold zkChk at h
  split at h <;> first | rfl | (cases h; done) | skip
  simp only [Bool.and_eq_true, decide_eq_true_eq] at h
  obtain ⟨rfl, rfl⟩ := h
  rfl
theorem zksChk_ok : ∀ {vs : List Value} {zs : List ZK}, zksChk vs zs = true → vs = zs.map ZK.val
  | [], [], _ => rfl
  | v :: vs, z :: zs, h => by
    simp only [zksChk, Bool.and_eq_true] at h
    rw [zkChk_ok h.1, zksChk_ok h.2]; rfl
  | [], _ :: _, h => by cases h
  | _ :: _, [], h => by cases h
def isAggV (z : Value) : Bool :=
  match z with
  | .agg _ => true
  | _ => false
def aggShape (agg : Bool) (z : Value) : Bool := if agg = true then isAggV z else z.oneCell'
def tiChk (P : Program) (t : Nat) (i : TI) : Bool :=
  match P.info? t, P.underlying t with
  | some info, some d =>
    match info.zero with
    | some z => Nat.beq info.size i.size && Nat.beq info.bytes i.bytes && zksChk z.cells.toList i.zero && (aggDesc d == i.agg) && aggShape i.agg z && Nat.beq i.zero.length i.size
    | none => false
  | _, _ => false
theorem tiChk_ok {t : Nat} {i : TI} (h : tiChk P t i = true) : TiOk P t i := by
  unfold tiChk at h
  split at h
  · rename_i info d h1 h2
    split at h
    · rename_i z hz
      simp only [Bool.and_eq_true, Nat.beq_eq, beq_iff_eq] at h
      obtain ⟨⟨⟨⟨⟨a1, a2⟩, a3⟩, a4⟩, a5⟩, a6⟩ := h
      refine ⟨info, z, d, h1, a1, a2, hz, zksChk_ok a3, h2, a4, ⟨fun e => ?_, fun e => ?_⟩, a6⟩
      · rw [e] at a5
        simp only [aggShape, if_true] at a5
        cases z <;> first | exact ⟨_, rfl⟩ | cases a5
      · rw [e] at a5
        simpa [aggShape] using a5
    · cases h
  · cases h
def tiAll (P : Program) : Nat → List (Option TI) → Bool
  | _, [] => true
  | t, none :: l => tiAll P (t + 1) l
  | t, some i :: l => match tiChk P t i with | true => tiAll P (t + 1) l | false => false
theorem tiAll_ok : ∀ {l : List (Option TI)} {k : Nat}, tiAll P k l = true → ∀ t i, l[t]? = some (some i) → TiOk P (k + t) i
  | [], _, _, t, i, h => by simp at h
  | x :: l, k, h, t, i, ht => by
    cases t with
    | zero =>
      simp at ht; subst ht
      simp only [tiAll] at h
      split at h
      · rename_i hc; exact tiChk_ok hc
      · cases h
    | succ t =>
      have hl : tiAll P (k + 1) l = true := by
        cases x with
        | none => exact h
        | some j =>
          simp only [tiAll] at h
          split at h
          · exact h
          · cases h
      have := tiAll_ok hl t i (by simpa using ht)
      rw [show k + (t + 1) = k + 1 + t by omega]; exact this
def fieldsChk (P : Program) : List Field → List (Nat × Nat) → Bool
  | [], [] => true
  | f :: fs, (o, t) :: l => Nat.beq f.offset o && Nat.beq f.type t && (P.info? f.type).isSome && fieldsChk P fs l
  | _, _ => false
theorem fieldsChk_ok : ∀ {fs : List Field} {l : List (Nat × Nat)}, fieldsChk P fs l = true → fs.map (fun f => (f.offset, f.type)) = l ∧ ∀ f, f ∈ fs → (P.info? f.type).isSome = true
  | [], [], _ => ⟨rfl, fun f h => by cases h⟩
  | f :: fs, (o, t) :: l, h => by
    simp only [fieldsChk, Bool.and_eq_true, Nat.beq_eq] at h
    obtain ⟨⟨⟨a1, a2⟩, a3⟩, a4⟩ := h
    obtain ⟨b1, b2⟩ := fieldsChk_ok a4
    refine ⟨by simp [a1, a2, b1], fun g hg => ?_⟩
    rcases List.mem_cons.1 hg with rfl | hg
    · exact a3
    · exact b2 g hg
  | [], _ :: _, h => by cases h
  | _ :: _, [], h => by cases h
def intFields (P : Program) : Nat → List Field → Bool
  | _, [] => true
  | o, f :: fs => Nat.beq f.offset o && (f.name != "_") && (match P.underlying f.type with | some (.int _) => true | _ => false) && intFields P (o + 1) fs
def eqsChk (P : Program) (t : Nat) (fields : Array Field) : Bool :=
  !(P.eqGuardType P.depth t) && !(P.stoodInHeld t) && intFields P 0 fields.toList
def ukD (P : Program) (t : Nat) (u : UK) (d : TypeDesc) : Bool :=
  match u, d with
  | .str, .string => true
  | .bool, .bool => true
  | .int k, .int k' => decide (k' = k)
  | .slice e, .slice e' => Nat.beq e' e
  | .array n e, .array n' e' => Nat.beq n' n && Nat.beq e' e
  | .struct fs, .struct fields => fieldsChk P fields.toList fs
  | .eqs fs, .struct fields => fieldsChk P fields.toList fs && eqsChk P t fields
  | _, _ => false
def ukChk (P : Program) (t : Nat) (u : UK) : Bool :=
  match P.underlying t with
  | some d => ukD P t u d
  | none => false
def ukAll (P : Program) : Nat → List (Option UK) → Bool
  | _, [] => true
  | t, none :: l => ukAll P (t + 1) l
  | t, some u :: l => match ukChk P t u with | true => ukAll P (t + 1) l | false => false
theorem ukAll_ok : ∀ {l : List (Option UK)} {k : Nat}, ukAll P k l = true → ∀ t u, l[t]? = some (some u) → ukChk P (k + t) u = true
  | [], _, _, t, i, h => by simp at h
  | x :: l, k, h, t, i, ht => by
    cases t with
    | zero =>
      simp at ht; subst ht
      simp only [ukAll] at h
      split at h
      · rename_i hc; exact hc
      · cases h
    | succ t =>
      have hl : ukAll P (k + 1) l = true := by
        cases x with
        | none => exact h
        | some j =>
          simp only [ukAll] at h
          split at h
          · exact h
          · cases h
      have := ukAll_ok hl t i (by simpa using ht)
      rw [show k + (t + 1) = k + 1 + t by omega]; exact this
theorem eqFields_ints (d : Nat) {w : World} : ∀ (fs : List Field) (k : Nat) (xs ys : List Value) (r : Bool), intFields P k fs = true → fs.length + k = xs.length → xs.length = ys.length → intsEq (xs.drop k) (ys.drop k) = some r →
    (Op.eqFields (d + 1) xs.toArray ys.toArray fs).run P w = .ok r w := by
  intro fs
  induction fs with
  | nil =>
    intro k xs ys r h hl hlen he
    rw [List.drop_eq_nil_of_le (by simp at hl; omega), List.drop_eq_nil_of_le (by simp at hl; omega)] at he
    simp only [intsEq, Option.some.injEq] at he
    subst he
    simp [Op.eqFields]
  | cons f fs ih =>
    intro k xs ys r h hl hlen he
    simp only [intFields, Bool.and_eq_true, Nat.beq_eq, bne_iff_ne, ne_eq] at h
    obtain ⟨⟨⟨h1, h2⟩, h3⟩, h4⟩ := h
    simp at hl
    have hx : k < xs.length := by omega
    have hy : k < ys.length := by omega
    rw [List.drop_eq_getElem_cons hx, List.drop_eq_getElem_cons hy] at he
    unfold intsEq at he
    split at he
    · rename_i e1 e2; cases e1
    · rename_i ki a xs' ki' b ys' e1 e2
      obtain ⟨e1a, e1b⟩ := List.cons.inj e1
      obtain ⟨e2a, e2b⟩ := List.cons.inj e2
      split at he
      · rename_i hk
        split at he
        · rename_i r' hr'
          obtain rfl := Option.some.inj he
          rw [← e1b, ← e2b] at hr'
          have hrec := ih (k + 1) xs ys r' h4 (by omega) hlen hr'
          split at h3
          · rename_i kk hkk
            have p1 : ∀ (cs : List Value) (v : Value), cs[k]? = some v → (part f.type cs.toArray f.offset).run P w = .ok v w := by
              intro cs v hv
              have : (isAgg f.type).run P w = .ok false w := run_agg hkk w
              simp [part, this, h1, hv]
            have q1 := p1 xs _ (List.getElem?_eq_getElem hx)
            have q2 := p1 ys _ (List.getElem?_eq_getElem hy)
            rw [e1a] at q1
            rw [e2a] at q2
            subst hk
            simp only [Op.eqFields, h2, not_false_eq_true, if_true, ne_eq, Sem.run_bind, q1, q2, Result.andThen_ok, run_equalIn_int (w := w) d f.type ki kk a b hkk, Sem.run_ite]
            cases hab : (a == b)
            · simp
            · simp [hrec]
          · cases h3
        · cases he
      · cases he
    · cases he
def eqsAll : List (Option TI) → List (Option UK) → Bool
  | some i :: l, some (.eqs fs) :: us => Nat.beq fs.length i.size && eqsAll l us
  | _ :: l, _ :: us => eqsAll l us
  | _, _ => true
theorem eqsAll_ok : ∀ {l : List (Option TI)} {us : List (Option UK)}, eqsAll l us = true → ∀ (t : Nat) fs i, us[t]? = some (some (.eqs fs)) → l[t]? = some (some i) → fs.length = i.size
  | [], _, _, t, fs, i, _, h => by simp at h
  | _ :: _, [], _, t, fs, i, h, _ => by simp at h
  | x :: l, u :: us, h, t, fs, i, hu, hl => by
    cases t with
    | zero =>
      simp at hu hl
      subst hu; subst hl
      simp only [eqsAll, Bool.and_eq_true, Nat.beq_eq] at h
      exact h.1
    | succ t =>
      have h' : eqsAll l us = true := by
        unfold eqsAll at h
        split at h
        · rename_i e1 e2
          obtain ⟨-, rfl⟩ := List.cons.inj e1
          obtain ⟨-, rfl⟩ := List.cons.inj e2
          simp only [Bool.and_eq_true] at h; exact h.2
        · rename_i e1 e2
          obtain ⟨-, rfl⟩ := List.cons.inj e1
          obtain ⟨-, rfl⟩ := List.cons.inj e2
          exact h
        · rename_i h1 h2; exact absurd rfl (h2 _ _ _ _ rfl)
      exact eqsAll_ok h' t fs i (by simpa using hu) (by simpa using hl)
theorem tab_ok {tiL : List (Option TI)} {ukL : List (Option UK)} (h1 : tiAll P 0 tiL = true) (h2 : ukAll P 0 ukL = true) (h3 : eqsAll tiL ukL = true) : TabOk P { ti := fun t => (tiL[t]?).getD none, und := fun t => (ukL[t]?).getD none } := by
  have g1 : ∀ t i, (tiL[t]?).getD none = some i → TiOk P t i := fun t i h => by
    cases hx : tiL[t]? with
    | none => rw [hx] at h; cases h
    | some x => rw [hx] at h; simp at h; subst h; simpa using tiAll_ok h1 t i hx
  have g2 : ∀ t u, (ukL[t]?).getD none = some u → ukChk P t u = true := fun t u h => by
    cases hx : ukL[t]? with
    | none => rw [hx] at h; cases h
    | some x => rw [hx] at h; simp at h; subst h; simpa using ukAll_ok h2 t u hx
  have U : ∀ t u, (ukL[t]?).getD none = some u → ∃ d, P.underlying t = some d ∧ ukD P t u d = true := fun t u h => by
    have := g2 t u h
    unfold ukChk at this
    cases hu : P.underlying t with
    | none => rw [hu] at this; cases this
    | some d => rw [hu] at this; exact ⟨d, rfl, this⟩
  refine ⟨g1, fun t h => ?_, fun t h => ?_, fun t k h => ?_, fun t e h => ?_, fun t n e h => ?_, fun t u fs h hf => ?_, fun t fs i h hi => ?_⟩
  · obtain ⟨d, hd, hc⟩ := U t _ h
    cases d <;> first | exact hd | (cases hc; done)
  · obtain ⟨d, hd, hc⟩ := U t _ h
    cases d <;> first | exact hd | (cases hc; done)
  · obtain ⟨d, hd, hc⟩ := U t _ h
    cases d <;> first | (cases hc; done) | skip
    simp only [ukD, decide_eq_true_eq] at hc
    rw [hd, hc]
  · obtain ⟨d, hd, hc⟩ := U t _ h
    cases d <;> first | (cases hc; done) | skip
    simp only [ukD, Nat.beq_eq] at hc
    rw [hd, hc]
  · obtain ⟨d, hd, hc⟩ := U t _ h
    cases d <;> first | (cases hc; done) | skip
    simp only [ukD, Nat.beq_eq, Bool.and_eq_true] at hc
    rw [hd, hc.1, hc.2]
  · obtain ⟨d, hd, hc⟩ := U t _ h
    cases u <;> first | (cases hf; done) | skip
    · cases hf
      cases d <;> first | (cases hc; done) | skip
      obtain ⟨b1, b2⟩ := fieldsChk_ok hc
      exact ⟨_, hd, b1, b2⟩
    · cases hf
      cases d <;> first | (cases hc; done) | skip
      simp only [ukD, Bool.and_eq_true] at hc
      obtain ⟨b1, b2⟩ := fieldsChk_ok hc.1
      exact ⟨_, hd, b1, b2⟩
  · obtain ⟨d, hd, hc⟩ := U t _ h
    cases d <;> first | (cases hc; done) | skip
    rename_i fields
    simp only [ukD, eqsChk, Bool.and_eq_true, Bool.not_eq_true'] at hc
    obtain ⟨b1, b2⟩ := fieldsChk_ok hc.1
    refine ⟨hc.2.1.1, fun xs ys r w he hl => ?_⟩
    have hfo : P.fieldsOf t = fields := by unfold Program.fieldsOf; rw [hd]
    have hlen : ∀ (xs ys : List Value) (r : Bool), intsEq xs ys = some r → xs.length = ys.length := by
      intro xs
      induction xs with
      | nil => intro ys r h; cases ys <;> simp [intsEq] at h ⊢
      | cons x xs ih =>
        intro ys r h
        unfold intsEq at h
        split at h
        · rename_i e; cases e
        · rename_i e1
          obtain ⟨-, rfl⟩ := List.cons.inj e1
          split at h
          · split at h
            · rename_i hr; simp [ih _ _ hr]
            · cases h
          · cases h
        · cases h
    have hti := g1 t i hi
    obtain ⟨info, z, d', k1, k2, k3, k4, k5, k6, k7, k8, k9⟩ := hti.ok
    have hfl : fields.toList.length = i.size := by
      have e1 : fs.length = i.size := by
        refine eqsAll_ok h3 t fs i ?_ ?_
        · cases hx : ukL[t]? with
          | none => simp only [hx] at h; cases h
          | some x => simp only [hx] at h; simp at h; rw [h]
        · cases hx : tiL[t]? with
          | none => simp only [hx] at hi; cases hi
          | some x => simp only [hx] at hi; simp at hi; rw [hi]
      rw [← e1, ← b1, List.length_map]
    have := eqFields_ints (P := P) 9998 (w := w) fields.toList 0 xs ys r hc.2.2 (by rw [hl]; simpa using hfl) (hlen xs ys r he) (by simpa using he)
    have e := run_equalIn_agg (P := P) w 9999 t xs.toArray ys.toArray (by rw [hfo]; exact hd) hc.2.1.2
    rw [hfo] at e
    show (Op.equalIn 10000 t _ _).run P w = _
    rw [e]
    exact this
end Go.Proofs.YtebaiioejagfoaaGreatDoor

/- The evaluator S: what it gives from some amount of fuel on, the words for it. -/
namespace Go.Proofs.YtebaiioejagfoaaGreatDoor
open Go
set_option linter.unusedVariables false
set_option linter.unusedSimpArgs false
def Ex (A : Nat → Out) (x : SV) (os : List SO) : Prop := ∃ n0, ∀ n, n0 ≤ n → A n = some (x, os)
def Ev (A : Nat → Out) (Q : SV → List SO → Prop) : Prop := ∃ x os, Q x os ∧ Ex A x os
theorem ev_eq {A B : Nat → Out} {Q} (h : ∀ n, A n = B n) (h2 : Ev B Q) : Ev A Q := by
  obtain ⟨x, os, hq, n0, h0⟩ := h2
  exact ⟨x, os, hq, n0, fun n hn => (h n).trans (h0 n hn)⟩
theorem ev_loop {L : Nat → Nat → Out} {B : Nat → Nat → Out} {c : Nat} {Q} (h : ∀ n m, L n (m + 1) = B n m) (h2 : Ev (fun n => B n (n + 1 - (c + 1))) Q) : Ev (fun n => L n (n + 1 - c)) Q := by
  obtain ⟨x, os, hq, n0, h0⟩ := h2
  refine ⟨x, os, hq, n0 + c, fun n hn => ?_⟩
  have : n + 1 - c = (n + 1 - (c + 1)) + 1 := by omega
  show L n (n + 1 - c) = _
  rw [this, h]
  exact h0 n (by omega)
theorem ev_fun {A B : Nat → Out} {Q} (h : ∀ n, A (n + 1) = B n) (h2 : Ev B Q) : Ev A Q := by
  obtain ⟨x, os, hq, n0, h0⟩ := h2
  refine ⟨x, os, hq, n0 + 1, fun n hn => ?_⟩
  obtain ⟨n, rfl⟩ : ∃ m, n = m + 1 := ⟨n - 1, by omega⟩
  rw [h]
  exact h0 n (by omega)
def zipE : List Nat → List SV → Env
  | t :: ts, x :: xs => (t, x) :: zipE ts xs
  | _, _ => []
end Go.Proofs.YtebaiioejagfoaaGreatDoor
