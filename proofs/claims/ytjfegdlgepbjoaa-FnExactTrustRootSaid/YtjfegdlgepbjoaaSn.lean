/- The evaluator S: code is sound, where its operations are. -/
import Derived.Test.YtjfegdlgepbjoaaSm
namespace Go.Proofs.Ytjfegdlgepbjoaa
open Go
set_option linter.unusedVariables false
set_option linter.unusedSimpArgs false
variable {P : Program} {T : Tab}

/-- What holds between two pieces of code: fr, g0 are fixed. -/
def Inv (fr : Fr) (g0 : Nat → Gh) (nl nt : Nat) (env : Env) (os : List SO) (a : Act) (w : World) : Prop :=
  ∃ g, Mem fr os g w ∧ Slots w (Bk fr os g w) g env a.tmps ∧ nt ≤ a.tmps.size ∧ a.defers = [] ∧ nl ≤ os.length ∧ ∀ j, j < nl → g0 j ≠ .no → g j = g0 j

def PostK (fr : Fr) (g0 : Nat → Gh) (nl nt : Nat) (k : Kt) (out : SV × List SO) (e : Exit) (a : Act) (w : World) : Prop :=
  ∃ env os, Inv fr g0 nl nt env os a w ∧
    match e with
    | .normal => k.n env os = some out
    | .exit id => k.x id env os = some out
    | .ret => k.r env os = some out
    | _ => False

theorem look_kill (env : Env) (t : Nat) : ∀ (al : List Nat), look t (killS al env) = look t env ∨ look t (killS al env) = .dead := by
  intro al
  induction al with
  | nil => exact .inr rfl
  | cons x xs ih =>
    simp only [killS, look]
    split
    · rename_i h
      rw [Nat.eq_of_beq_eq_true h]
      exact .inl rfl
    · exact ih

theorem slots_kill {w : World} {B : Nat → Prop} {g : Nat → Gh} {env : Env} {tmps : Array Value} (h : Slots w B g env tmps) (al : List Nat) : Slots w B g (killS al env) tmps := by
  intro t
  rcases look_kill env t al with e | e
  · rw [e]; exact h t
  · rw [e]; exact .dead

theorem inv_kill {fr : Fr} {g0 : Nat → Gh} {nl nt : Nat} {env : Env} {os : List SO} {a : Act} {w : World} (h : Inv fr g0 nl nt env os a w) (al : Option (List Nat)) : Inv fr g0 nl nt (killO al env) os a w := by
  obtain ⟨g, h1, h2, h3⟩ := h
  cases al with
  | none => exact ⟨g, h1, h2, h3⟩
  | some l => exact ⟨g, h1, slots_kill h2 l, h3⟩

theorem slots_put {w : World} {B : Nat → Prop} {g : Nat → Gh} {env : Env} {a : Act} {d : Option Nat} {x : SV} {v : Value} (h : Slots w B g env a.tmps) (hx : RepV w B g x v) (hd : okDst a.tmps.size d = true) :
    Slots w B g (put env d x) (a.put d v).tmps := by
  cases d with
  | none => exact h
  | some t =>
    intro s
    have hlt : t < a.tmps.size := by
      unfold okDst at hd
      simp only [Nat.blt_eq] at hd
      exact hd
    simp only [put, look, Act.put]
    split
    · rename_i e
      obtain rfl := Nat.eq_of_beq_eq_true e
      have : (a.tmps.setIfInBounds s v).getD s undef = v := by simp [Array.getD, hlt]
      rw [this]; exact hx
    · rename_i e
      have hne : t ≠ s := fun e' => by subst e'; rw [Nat.beq_refl] at e; cases e
      have : (a.tmps.setIfInBounds t v).getD s undef = a.tmps.getD s undef := by
        simp [Array.getElem?_setIfInBounds_ne hne]
      rw [this]; exact h s

theorem put_size (a : Act) (d : Option Nat) (v : Value) : (a.put d v).tmps.size = a.tmps.size := by
  cases d <;> simp [Act.put]

theorem put_defers (a : Act) (d : Option Nat) (v : Value) : (a.put d v).defers = a.defers := by
  cases d <;> rfl

theorem okDst_le {n m : Nat} {d : Option Nat} (h : okDst n d = true) (hn : n ≤ m) : okDst m d = true := by
  cases d with
  | none => rfl
  | some t =>
    simp only [okDst, Nat.blt_eq] at h ⊢
    omega

theorem inv_put {fr : Fr} {g0 g : Nat → Gh} {nl nt : Nat} {env : Env} {os os' : List SO} {a : Act} {w w' : World} {d : Option Nat} {x : SV} {v : Value} (hm : Mem fr os g w) (hs : Slots w (Bk fr os g w) g env a.tmps) (ht : nt ≤ a.tmps.size) (hdf : a.defers = [])
    (hl : nl ≤ os.length) (h0 : ∀ j, j < nl → g0 j ≠ .no → g j = g0 j) (hd : okDst nt d = true) (hr : Res fr os g w os' x v w') (hos : os.length ≤ os'.length) :
    Inv fr g0 nl nt (put env d x) os' (a.put d v) w' := by
  obtain ⟨g', m, gr, r⟩ := hr
  refine ⟨g', m, slots_put (hs.grow gr) r (okDst_le hd ht), by rw [put_size]; exact ht, by rw [put_defers]; exact hdf, by omega, fun j hj hn => ?_⟩
  rw [gr.ext j (by rw [h0 j hj hn]; exact hn), h0 j hj hn]

/-! ### a region in the order of the text -/
theorem rep_bool {w : World} {B : Nat → Prop} {g : Nat → Gh} {x : SV} {b : Bool} (h : RepV w B g x (.bool b)) (hd : x ≠ .dead) : x = .v (.bool b) := by
  cases h with
  | v h => rfl
  | dead => exact absurd rfl hd

theorem yielded_of {w : World} {B : Nat → Prop} {g : Nat → Gh} {env : Env} {a : Act} {ops : Array Oper} (hs : Slots w B g env a.tmps) (j : Nat) (hd : guardV ops.toList env j ≠ .dead) :
    (∀ b, guardV ops.toList env j = .v (.bool b) → yielded ops a.tmps j = some b) ∧ ((∀ b, guardV ops.toList env j ≠ .v (.bool b)) → yielded ops a.tmps j = none) := by
  unfold guardV at hd ⊢
  unfold yielded
  rw [Array.getElem?_toList] at hd ⊢
  cases ho : ops[j]? with
  | none => simp
  | some o =>
    simp only [ho] at hd ⊢
    cases hdst : o.dst with
    | none => simp [hdst]
    | some t =>
      simp only [hdst] at hd
      have hr := hs t
      simp only [hdst, Option.bind_some]
      refine ⟨fun b hb => ?_, fun hb => ?_⟩
      · rw [hb] at hr
        have hv := v_rep hr
        cases ht : a.tmps[t]? with
        | none => simp [Array.getD_eq_getD_getElem?, ht, undef] at hv
        | some v => simp [Array.getD_eq_getD_getElem?, ht] at hv; simp [ht, hv]
      · cases ht : a.tmps[t]? with
        | none => simp
        | some v =>
          cases v with
          | bool b =>
            have : a.tmps.getD t undef = .bool b := by simp [Array.getD_eq_getD_getElem?, ht]
            rw [this] at hr
            exact absurd (rep_bool hr hd) (hb b)
          | _ => rfl

/-- How many objects there are never falls within a frame's piece of code. -/
theorem evN_len {ty : Nat} {os os' : List SO} {x : Option SV} {y : SV} (h : evN T ty os x = some (y, os')) : os.length ≤ os'.length := by
  unfold evN at h
  split at h
  · split at h
    · split at h
      · obtain ⟨_, rfl⟩ := Prod.mk.inj (Option.some.inj h); simp
      · simp at h
    · simp at h
  · obtain ⟨_, rfl⟩ := Prod.mk.inj (Option.some.inj h); exact Nat.le_refl _

/-- All that is asked of operations: they are sound, and take no object away. -/
def OpsOK (P : Program) (c : Cx) : Prop :=
  ∀ (fr : Fr) (os os1 : List SO) (g : Nat → Gh) (w : World) (env : Env) (a : Act) (o : Oper) (y : SV), Mem fr os g w → Slots w (Bk fr os g w) g env a.tmps → opS c env os o = some (y, os1) →
    OpOK P fr os g w os1 y o a ∧ os.length ≤ os1.length

theorem silent_op {c : Cx} {env : Env} {os : List SO} {o : Oper} {x : SV} (h : silent env o = some x) : o.guard = none ∧ opS c env os o = some (x, os) := by
  unfold silent at h
  split at h
  · simp at h
  · rename_i hg
    refine ⟨hg, ?_⟩
    split at h
    · rename_i y ho; simp only [opS, ho, h]; rfl
    · rename_i y ho; simp only [opS, ho, h]; rfl
    · rename_i f fs caps ho
      simp only [opS, ho]
      split at h
      · rename_i hf; obtain rfl := Option.some.inj h; first | rfl | (simp only [hf]) | (rw [hf])
      · simp at h
    · simp at h

theorem ops_sound {c : Cx} (hO : OpsOK P c) {fr : Fr} {g0 : Nat → Gh} {nl nt : Nat} {k : Kt} {out : SV × List SO} {ops : Array Oper} : ∀ (rest : List Oper) (i : Nat) (env : Env) (os : List SO) (a : Act) (w : World),
    ops.toList.drop i = rest → Inv fr g0 nl nt env os a w → runOps c nt ops.toList rest env os k.n = some out →
    wpOps P ops (PostK fr g0 nl nt k out) (List.range' i rest.length) a w := by
  intro rest
  induction rest with
  | nil =>
    intro i env os a w hd hi h
    exact ⟨env, os, hi, h⟩
  | cons o rest ih =>
    intro i env os a w hd hi h
    have hoi : ops[i]? = some o := by
      have := congrArg List.head? hd
      simpa [List.head?_drop] using this
    have hd' : ops.toList.drop (i + 1) = rest := by
      rw [← List.drop_drop, hd]; rfl
    rw [List.length_cons, List.range'_succ]
    simp only [wpOps, hoi]
    simp only [runOps] at h
    split at h
    · simp at h
    · rename_i hdst
      obtain ⟨g, m, hs, ht, hdf, hl, h0⟩ := hi
      have step : ∀ (x : SV) (os1 : List SO), opS c env os o = some (x, os1) → runOps c nt ops.toList rest (put env o.dst x) os1 k.n = some out →
          o.wp P a w (wpOps P ops (PostK fr g0 nl nt k out) (List.range' (i + 1) rest.length)) (PostK fr g0 nl nt k out) := by
        intro x os1 hx hk
        obtain ⟨hok, hle⟩ := hO fr os os1 g w env a o x m hs hx
        refine hok _ _ fun v w' hres => ?_
        exact ih (i + 1) _ _ _ _ hd' (inv_put m hs ht hdf hl h0 hdst hres hle) hk
      split at h
      · rename_i x hx
        obtain ⟨hg, hop⟩ := silent_op (c := c) (os := os) hx
        have hw : Region.wanted o (yielded ops a.tmps) = true := by simp [Region.wanted, hg]
        rw [if_pos hw]
        exact .inl (step x os hop h)
      · rename_i hx
        obtain ⟨r, hr, hk⟩ := Option.bind_eq_some_iff.1 h
        obtain ⟨x, os1⟩ := r
        unfold op1 at hr
        split at hr
        · rename_i hg
          have hw : Region.wanted o (yielded ops a.tmps) = true := by simp [Region.wanted, hg]
          rw [if_pos hw]
          exact .inl (step x os1 hr hk)
        · rename_i j want hg
          unfold gd at hr
          split at hr
          · rename_i b hb
            have hy := (yielded_of (ops := ops) hs j (by rw [hb]; simp)).1 b hb
            split at hr
            · rename_i e
              have hw : Region.wanted o (yielded ops a.tmps) = true := by simp [Region.wanted, hg, hy, e]
              rw [if_pos hw]
              exact .inl (step x os1 hr hk)
            · rename_i e
              obtain ⟨rfl, rfl⟩ := Prod.mk.inj (Option.some.inj hr)
              have hw : ¬ Region.wanted o (yielded ops a.tmps) = true := by simp [Region.wanted, hg, hy, e]
              rw [if_neg hw]
              exact ih (i + 1) _ _ _ _ hd' (inv_put m hs ht hdf hl h0 hdst (Res.same m .undef) (Nat.le_refl _)) hk
          · simp at hr
          · rename_i hnb hnd
            obtain ⟨rfl, rfl⟩ := Prod.mk.inj (Option.some.inj hr)
            have hy := (yielded_of (ops := ops) hs j (fun e => hnd e)).2 (fun b e => hnb b e)
            have hw : ¬ Region.wanted o (yielded ops a.tmps) = true := by simp [Region.wanted, hg, hy]
            rw [if_neg hw]
            exact ih (i + 1) _ _ _ _ hd' (inv_put m hs ht hdf hl h0 hdst (Res.same m .undef) (Nat.le_refl _)) hk

/-- What is asked of a region whose order is drawn. -/
def DrawOK (P : Program) (c : Cx) : Prop :=
  ∀ (fr : Fr) (g0 : Nat → Gh) (nl nt : Nat) (k : Kt) (out : SV × List SO) (d : Option DT) (ops : Array Oper) (env : Env) (os : List SO) (a : Act) (w : World) (t : Nat),
    Inv fr g0 nl nt env os a w → runDraw c nt d ops.toList env os k.n = some out →
    wpOps P ops (PostK fr g0 nl nt k out) (Region.schedule (P.follows .mixedOrders) ops t) a w

theorem inv_drawn {fr : Fr} {g0 : Nat → Gh} {nl nt : Nat} {env : Env} {os : List SO} {a : Act} {w : World} (h : Inv fr g0 nl nt env os a w) : Inv fr g0 nl nt env os a { w with drawn := w.drawn + 1 } := by
  obtain ⟨g, m, hs, rest⟩ := h
  have hB : ∀ b, Bk fr os g w b → Bk fr os g { w with drawn := w.drawn + 1 } b := fun b hb => hb
  have hS : ∀ b, Bk fr os g w b → ({ w with drawn := w.drawn + 1 } : World).heap[b]? = w.heap[b]? := fun _ _ => rfl
  refine ⟨g, ?_, fun t => (hs t).mono hB hS g (fun _ _ => rfl), rest⟩
  exact { objs := fun j o hj => (m.objs j o hj).mono hB hS (fun _ _ => rfl) (fun _ _ _ => rfl), fresh := m.fresh, inj := m.inj, own := m.own, mine := m.mine, frame := m.frame, size := m.size, out := m.out }

/-- What is asked of a loop's head where the objects get their names anew. -/
def GcOK (P : Program) : Prop :=
  ∀ (fr : Fr) (g0 : Nat → Gh) (nl nt : Nat) (env : Env) (os : List SO) (a : Act) (w : World), Inv fr g0 nl nt env os a w →
    ∀ keep, gcK nl env os = some keep → Inv fr g0 nl nt (renE (place keep) env) (gcO keep os) a w

theorem wp_loop_fuel {c : Code} {Q : Exit → Act → World → Prop} (I : Nat → Act → World → Prop) (h0 : ∀ a w, ¬ I 0 a w) (round : ∀ n a w, I (n + 1) a w → c.wp P (Exit.then (I n) Q) a w) {n : Nat} {a : Act} {w : World}
    (h : I n a w) : (Code.loop c).wp P Q a w := by
  intro b k cs
  have key : ∀ n a w, I n a w → ∃ e a' w', Q e a' w' ∧ Arrives P (lone (b.at a (.code c :: .inLoop c :: k)) cs w) b k cs e a' w' := by
    intro n
    induction n with
    | zero => intro a w h; exact absurd h (h0 a w)
    | succ n ih =>
      intro a w h
      obtain ⟨e, a₁, w₁, hq, harr⟩ := round n a w h b (.inLoop c :: k) cs
      cases e with
      | normal =>
        obtain ⟨e₂, a₂, w₂, hq₂, harr₂⟩ := ih a₁ w₁ hq
        exact ⟨e₂, a₂, w₂, hq₂, .of_steps (Steps.trans harr (.one step_inLoop)) harr₂⟩
      | exit id => exact ⟨_, a₁, w₁, hq, .pass (x := .inLoop c) rfl (fun _ _ => .inl (by simp)) harr⟩
      | goto l => exact ⟨_, a₁, w₁, hq, .pass (x := .inLoop c) rfl (fun _ _ => .inl (by simp)) harr⟩
      | ret => exact ⟨_, a₁, w₁, hq, .pass (x := .inLoop c) rfl (fun _ _ => .inl (by simp)) harr⟩
      | panic ch => exact ⟨_, a₁, w₁, hq, .pass (x := .inLoop c) rfl (fun _ _ => .inl (by simp)) harr⟩
      | outgrown => exact ⟨_, a₁, w₁, hq, .pass (x := .inLoop c) rfl (fun _ _ => .inl (by simp)) harr⟩
  obtain ⟨e, a', w', hq, harr⟩ := key n a w h
  exact ⟨e, a', w', hq, .of_steps (.one step_loop) harr⟩

theorem exec_sound {c : Cx} (hO : OpsOK P c) (hD : DrawOK P c) (hG : GcOK P) {fr : Fr} {g0 : Nat → Gh} {N nl : Nat} {fi : FnI} {out : SV × List SO} : ∀ (cd : Code) (env : Env) (os : List SO) (k : Kt) (a : Act) (w : World),
    Inv fr g0 nl fi.nt env os a w → exec c N nl fi cd env os k = some out → cd.wp P (PostK fr g0 nl fi.nt k out) a w := by
  intro cd
  induction cd with
  | skip => intro env os k a w hi h; exact wp_skip ⟨env, os, hi, h⟩
  | region id ops draw =>
    intro env os k a w hi h
    cases draw with
    | false =>
      simp only [exec] at h
      refine wp_region ?_
      have := ops_sound hO (k := k) ops.toList 0 env os a w rfl hi h
      rw [List.range_eq_range', ← Array.length_toList]
      exact this
    | true =>
      simp only [exec] at h
      refine wp_region_draw fun t => ?_
      exact hD fr g0 nl fi.nt k out (fi.dt _) ops env os a _ t (inv_drawn hi) h
  | seq x y ihx ihy =>
    intro env os k a w hi h
    simp only [exec] at h
    refine wp_seq (wp_mono (ihx env os _ a w hi h) fun e a' w' hq => ?_)
    obtain ⟨env', os', hi', hk⟩ := hq
    cases e with
    | normal => exact ihy _ _ _ _ _ (inv_kill hi' _) hk
    | exit id => exact ⟨env', os', hi', hk⟩
    | ret => exact ⟨env', os', hi', hk⟩
    | goto l => exact hk.elim
    | panic ch => exact hk.elim
    | outgrown => exact hk.elim
  | cond b x y ihx ihy =>
    intro env os k a w hi h
    simp only [exec] at h
    unfold condS at h
    split at h
    · rename_i t ht
      obtain ⟨g, m, hs, rest⟩ := hi
      have he : a.eval b = .bool t := by have := ev_rep hs b; rw [ht] at this; exact v_rep this
      refine wp_cond he ?_
      cases t with
      | true => exact ihx env os k a w ⟨g, m, hs, rest⟩ h
      | false => exact ihy env os k a w ⟨g, m, hs, rest⟩ h
    · simp at h
  | block id b ih =>
    intro env os k a w hi h
    simp only [exec] at h
    refine wp_block (wp_mono (ih env os _ a w hi h) fun e a' w' hq => ?_)
    obtain ⟨env', os', hi', hk⟩ := hq
    cases e with
    | normal => exact ⟨env', os', hi', hk⟩
    | exit id' =>
      simp only [kBlock] at hk
      simp only [Exit.inBlock]
      split
      · rename_i e
        rw [if_pos e] at hk
        exact ⟨env', os', hi', hk⟩
      · rename_i e
        rw [if_neg e] at hk
        exact ⟨env', os', hi', hk⟩
    | ret => exact ⟨env', os', hi', hk⟩
    | goto l => exact hk.elim
    | panic ch => exact hk.elim
    | outgrown => exact hk.elim
  | loop b ih =>
    intro env os k a w hi h
    simp only [exec] at h
    let F : Env → List SO → (Env → List SO → Out) → Out := fun env os nx => exec c N nl fi b env os (kLoop nx k)
    refine wp_loop_fuel (fun n a w => ∃ env os, Inv fr g0 nl fi.nt env os a w ∧ loopS nl (fi.lp (firstRegion b)) F n env os = some out) ?_ ?_ (n := N) ⟨_, _, inv_kill hi (some (fi.lp (firstRegion b)).alive), h⟩
    · rintro a w ⟨env, os, _, h⟩
      simp [loopS] at h
    · rintro n a w ⟨env, os, hi, h⟩
      have fin : ∀ env os, Inv fr g0 nl fi.nt env os a w → F env os (fun env os => loopS nl (fi.lp (firstRegion b)) F n (killS (fi.lp (firstRegion b)).alive env) os) = some out →
          b.wp P (Exit.then (fun a w => ∃ env os, Inv fr g0 nl fi.nt env os a w ∧ loopS nl (fi.lp (firstRegion b)) F n env os = some out) (PostK fr g0 nl fi.nt k out)) a w := by
        intro env os hi h
        refine wp_mono (ih env os _ a w hi h) fun e a' w' hq => ?_
        obtain ⟨env', os', hi', hk⟩ := hq
        cases e with
        | normal => exact ⟨_, _, inv_kill hi' (some (fi.lp (firstRegion b)).alive), hk⟩
        | exit id => exact ⟨env', os', hi', hk⟩
        | ret => exact ⟨env', os', hi', hk⟩
        | goto l => exact hk.elim
        | panic ch => exact hk.elim
        | outgrown => exact hk.elim
      simp only [loopS] at h
      split at h
      · obtain ⟨keep, hkp, h⟩ := Option.bind_eq_some_iff.1 h
        exact fin _ _ (hG fr g0 nl fi.nt env os a w hi keep hkp) h
      · exact fin _ _ hi h
  | exit i => intro env os k a w hi h; exact wp_exit ⟨env, os, hi, h⟩
  | ret => intro env os k a w hi h; exact wp_ret ⟨env, os, hi, h⟩
  | label l => intro env os k a w hi h; simp [exec] at h
  | goto l => intro env os k a w hi h; simp [exec] at h
  | refuse s => intro env os k a w hi h; simp [exec] at h
  | scope b _ => intro env os k a w hi h; simp [exec] at h
  | rangeFunc f ps x y _ _ => intro env os k a w hi h; simp [exec] at h

end Go.Proofs.Ytjfegdlgepbjoaa
