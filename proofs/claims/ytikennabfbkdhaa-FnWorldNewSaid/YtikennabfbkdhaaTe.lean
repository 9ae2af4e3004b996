/- The evaluator S and what it says of functions: St, Sz, Te. -/
import Derived.Test.YtikennabfbkdhaaSy
import Derived.Laws.StructEq
import Derived.KernelRfl
import Derived.Test.YtikennabfbkdhaaSa
/- The evaluator S: functions are sound. -/
namespace Go.Proofs.Ytikennabfbkdhaa
open Go
set_option linter.unusedVariables false
set_option linter.unusedSimpArgs false
variable {P : Program} {T : Tab}
theorem loadVar_rep (hT : TabOk P T) {fr : Fr} {os : List SO} {g : Nat → Gh} {w : World} (hm : Mem fr os g w) {t : Nat} {p x : SV} {pv : Value}
    (hp : RepV w (Bk fr os g w) g p pv) (h : loadS T os t p = some x) : ∃ a v, pv = .pointer (some a) ∧ (loadVar t a).run P w = .ok v w ∧ RepV w (Bk fr os g w) g x v := by
  obtain ⟨v, hr, hv⟩ := load_rep hT hm hp h
  unfold loadS at h
  split at h
  · split at h
    · rename_i l hl
      obtain ⟨b, o, vs, rfl, -, -⟩ := place_rep hm hp hl
      exact ⟨_, v, rfl, by simpa [Instr.loadAt, Instr.sureAddr] using hr, hv⟩
    · cases h
  · cases h
def resRun (tmps : Array Value) : ResultVar → Sem Value := fun
  | .tmp t => pure (tmps.getD t undef)
  | .cell a t => do loadVar t (← asAddr (tmps.getD a undef))
theorem resCells_rep (hT : TabOk P T) {fr : Fr} {os : List SO} {g : Nat → Gh} {w : World} (hm : Mem fr os g w) {env : Env} {tmps : Array Value} (hs : Slots w (Bk fr os g w) g env tmps) : ∀ (rs : List ResultVar) {xs : List SV},
    resCells T env os rs = some xs → ∃ vs, (rs.mapM (resRun tmps)).run P w = .ok vs w ∧ RepL w (Bk fr os g w) g xs vs := by
  intro rs
  induction rs with
  | nil =>
    intro xs h
    simp only [resCells, Option.some.injEq] at h
    subst h
    exact ⟨[], by simp, RepL.nil⟩
  | cons r rs ih =>
    intro xs h
    simp only [resCells, resC1] at h
    split at h
    · rename_i x xs' hx hxs
      obtain rfl := Option.some.inj h
      obtain ⟨vs, hr, hl⟩ := ih hxs
      have : ∃ v, (resRun tmps r).run P w = .ok v w ∧ RepV w (Bk fr os g w) g x v := by
        cases r with
        | tmp t =>
          simp only [resCell, Option.some.injEq] at hx
          subst hx
          exact ⟨_, by simp [resRun], hs t⟩
        | cell a t =>
          obtain ⟨ad, v, e, h1, h2⟩ := loadVar_rep hT hm (hs a) hx
          exact ⟨v, by simp [resRun, e, asAddr, h1], h2⟩
      obtain ⟨v, h1, h2⟩ := this
      exact ⟨v :: vs, by simp [List.mapM_cons, h1, hr], RepL.cons h2 hl⟩
    · cases h
theorem fixCell_rep {fr : Fr} {os : List SO} {g : Nat → Gh} {w : World} (hm : Mem fr os g w) {x y : SV} {v : Value} (hx : RepV w (Bk fr os g w) g x v) (h : fixCell os x = some y) : RepV w (Bk fr os g w) g y v := by
  unfold fixCell at h
  split at h
  · cases h; exact hx
  · cases h; exact hx
  · cases h; exact hx
  · cases h; exact hx
  · rename_i j
    split at h
    · cases h; exact hx
    · rename_i sz l hj
      cases h
      rcases hm.objs _ _ hj with ⟨rfl, hg⟩ | ⟨b, cap, vs, hg, h1, h2, h3, h4, h5⟩
      · cases hx with
        | osl0 h0 => exact .sl0
        | osln hq9 => exfalso; first | (rw [hn] at hq9; cases hq9) | (rw [e1] at hq9; cases hq9) | (rw [hg] at hq9; cases hq9) | (rw [h1] at hq9; cases hq9) | (simp_all; done)
        | osl h0 => rw [hg] at h0; cases h0
      · cases hx with
        | osl0 h0 => rw [hg] at h0; cases h0
        | osln hq9 => exfalso; first | (rw [hn] at hq9; cases hq9) | (rw [e1] at hq9; cases hq9) | (rw [hg] at hq9; cases hq9) | (rw [h1] at hq9; cases hq9) | (simp_all; done)
        | osl h0 =>
          rw [hg] at h0
          cases h0
          by_cases hl : l = []
          · subst hl; exact .sl0
          · exact .sl h3.1 h3.2 h4 (by simpa using h5) h2 h1
    · cases h; exact hx
    · cases h
  · cases h
theorem fixCells_rep {fr : Fr} {os : List SO} {g : Nat → Gh} {w : World} (hm : Mem fr os g w) : ∀ (xs : List SV) {ys : List SV} {vs : List Value},
    RepL w (Bk fr os g w) g xs vs → fixCells os xs = some ys → RepL w (Bk fr os g w) g ys vs := by
  intro xs
  induction xs with
  | nil => intro ys vs hl h; simp only [fixCells, Option.some.injEq] at h; subst h; exact hl
  | cons x xs ih =>
    intro ys vs hl h
    obtain ⟨v, vs', rfl, hv, hl'⟩ := hl.uncons
    simp only [fixCells] at h
    split at h
    · rename_i hy hys
      cases h
      exact RepL.cons (fixCell_rep hm hv hy) (ih hl' hys)
    · cases h
theorem fixV_rep {fr : Fr} {os : List SO} {g : Nat → Gh} {w : World} (hm : Mem fr os g w) {x y : SV} {v : Value} (hx : RepV w (Bk fr os g w) g x v) (h : fixV os x = some y) : RepV w (Bk fr os g w) g y v := by
  unfold fixV at h
  split at h
  · split at h
    · rename_i hys
      cases h
      cases hx with
      | ag h1 h2 h3 =>
        have := fixCells_rep hm _ ⟨h1, h2⟩ hys
        exact .ag this.1 this.2 h3
    · cases h
  · exact fixCell_rep hm hx h
theorem fixVs_rep {fr : Fr} {os : List SO} {g : Nat → Gh} {w : World} (hm : Mem fr os g w) : ∀ (xs : List SV) {ys : List SV} {vs : List Value},
    RepL w (Bk fr os g w) g xs vs → fixVs os xs = some ys → RepL w (Bk fr os g w) g ys vs := by
  intro xs
  induction xs with
  | nil => intro ys vs hl h; simp only [fixVs, Option.some.injEq] at h; subst h; exact hl
  | cons x xs ih =>
    intro ys vs hl h
    obtain ⟨v, vs', rfl, hv, hl'⟩ := hl.uncons
    simp only [fixVs] at h
    split at h
    · rename_i hy hys
      cases h
      exact RepL.cons (fixV_rep hm hv hy) (ih hl' hys)
    · cases h
theorem purCells_rep {fr : Fr} {w : World} {g : Nat → Gh} {ms : List Nat} : ∀ (xs : List SV) {k : Nat} {os os1 : List SO} {ys : List SV} {vs : List Value}, Mem fr os g w → RepL w (Bk fr os g w) g xs vs →
    purCells ms k xs os = some (ys, os1) → Mem fr os1 g w ∧ Grow fr os g w os1 g w ∧ RepL w (Bk fr os1 g w) g ys vs := by
  intro xs
  induction xs with
  | nil =>
    intro k os os1 ys vs hm hl h
    simp only [purCells] at h
    cases h
    exact ⟨hm, Grow.refl _ _ _ _, hl⟩
  | cons x xs ih =>
    intro k os os1 ys vs hm hl h
    obtain ⟨v, vs', rfl, hv, hl'⟩ := hl.uncons
    simp only [purCells] at h
    split at h
    · rename_i y os2 hy
      split at h
      · rename_i ys' os3 hys
        cases h
        have h1 : Mem fr os2 g w ∧ Grow fr os g w os2 g w ∧ RepV w (Bk fr os2 g w) g y v := by
          split at hy
          · obtain ⟨m1, g1, r1, -⟩ := pureCell_rep hm hv hy
            exact ⟨m1, g1, r1.mono (fun _ h => h) (fun _ _ => rfl) g (fun _ h => absurd rfl h)⟩
          · cases hy; exact ⟨hm, Grow.refl _ _ _ _, hv⟩
        obtain ⟨m1, g1, r1⟩ := h1
        obtain ⟨m2, g2, r2⟩ := ih m1 (hl'.mono g1.sub g1.same g1.ext) hys
        exact ⟨m2, g1.trans g2, RepL.cons (r1.grow g2) r2⟩
      · cases h
    · cases h
theorem purVs_rep {fr : Fr} {w : World} {g : Nat → Gh} {ms : List Nat} : ∀ (xs : List SV) {k : Nat} {os os1 : List SO} {ys : List SV} {vs : List Value}, Mem fr os g w → RepL w (Bk fr os g w) g xs vs →
    purVs ms k xs os = some (ys, os1) → Mem fr os1 g w ∧ Grow fr os g w os1 g w ∧ RepL w (Bk fr os1 g w) g ys vs := by
  intro xs
  induction xs with
  | nil =>
    intro k os os1 ys vs hm hl h
    simp only [purVs] at h
    cases h
    exact ⟨hm, Grow.refl _ _ _ _, hl⟩
  | cons x xs ih =>
    intro k os os1 ys vs hm hl h
    obtain ⟨v, vs', rfl, hv, hl'⟩ := hl.uncons
    simp only [purVs] at h
    split at h
    · rename_i y os2 hy
      split at h
      · rename_i ys' os3 hys
        cases h
        have h1 : Mem fr os2 g w ∧ Grow fr os g w os2 g w ∧ RepV w (Bk fr os2 g w) g y v := by
          split at hy
          · rename_i l
            split at hy
            · rename_i l' os4 hl4
              cases hy
              cases hv with
              | ag h1 h2 h3 =>
                obtain ⟨m1, g1, r1⟩ := purCells_rep l hm ⟨h1, h2⟩ hl4
                exact ⟨m1, g1, .ag r1.1 r1.2 h3⟩
            · cases hy
          · split at hy
            · obtain ⟨m1, g1, r1, -⟩ := pureCell_rep hm hv hy
              exact ⟨m1, g1, r1.mono (fun _ h => h) (fun _ _ => rfl) g (fun _ h => absurd rfl h)⟩
            · cases hy; exact ⟨hm, Grow.refl _ _ _ _, hv⟩
        obtain ⟨m1, g1, r1⟩ := h1
        obtain ⟨m2, g2, r2⟩ := ih m1 (hl'.mono g1.sub g1.same g1.ext) hys
        exact ⟨m2, g1.trans g2, RepL.cons (r1.grow g2) r2⟩
      · cases h
    · cases h
theorem pureCell_box {os os1 : List SO} {x y : SV} (h : pureCell os x = some (y, os1)) {j : Nat} {l : List SV} (hj : os[j]? = some (.box l)) : os1[j]? = some (.box l) := by
  have key : ∀ (k sz : Nat) (b : Bool) (l' : List SV), os[k]? = some (.arr b sz l') → (os.set k (.frz sz l'))[j]? = some (.box l) := fun k sz b l' hk => by
    rw [List.getElem?_set]
    split
    · rename_i e; subst e; rw [hj] at hk; cases hk
    · exact hj
  unfold pureCell at h
  split at h
  · cases h; exact hj
  · cases h; exact hj
  · split at h
    · rename_i hk; cases h; exact key _ _ _ _ hk
    · cases h; exact hj
    · cases h
  · split at h
    · rename_i hk
      split at h
      · cases h; exact key _ _ _ _ hk
      · cases h
    · split at h
      · cases h; exact hj
      · cases h
    · cases h
  · cases h
theorem purCells_box {ms : List Nat} : ∀ (xs : List SV) {k : Nat} {os os1 : List SO} {ys : List SV}, purCells ms k xs os = some (ys, os1) → ∀ {j : Nat} {l : List SV}, os[j]? = some (.box l) → os1[j]? = some (.box l) := by
  intro xs
  induction xs with
  | nil => intro k os os1 ys h j l hj; simp only [purCells] at h; cases h; exact hj
  | cons x xs ih =>
    intro k os os1 ys h j l hj
    simp only [purCells] at h
    split at h
    · rename_i y os2 hy
      split at h
      · rename_i ys' os3 hys
        cases h
        refine ih hys ?_
        split at hy
        · exact pureCell_box hy hj
        · cases hy; exact hj
      · cases h
    · cases h
theorem boxpur_rep {fr : Fr} {os : List SO} {g : Nat → Gh} {w : World} (hm : Mem fr os g w) {j b : Nat} {l l' : List SV} {vs : List Value} (hj : os[j]? = some (.box l)) (e1 : g j = .bx b) (e2 : RepL w (Bk fr os g w) g l' vs) (e3 : ∀ v : Value, v ∈ vs → v.oneCell' = true)
    (e4 : CellsAt w b 0 vs) (e5 : Room w b vs.length) : Mem fr (os.set j (.box l')) g w ∧ Grow fr os g w (os.set j (.box l')) g w := by
  have hb : (g j).has b := by rw [e1]; rfl
  have hg := (set_chg hm (SameOut.refl _) hj rfl hb (o' := .box l') rfl rfl (fun _ _ => rfl)).grow
  exact ⟨set_mem hm (SameOut.refl _) hj rfl hb rfl (fun sz l e => by cases e) rfl (fun _ _ => rfl) ⟨b, vs, e1, e2.mono hg.sub hg.same hg.ext, e3, e4, e5⟩, hg⟩
theorem purBox_rep {fr : Fr} {os os1 : List SO} {g : Nat → Gh} {w : World} {ms : List Nat} (hm : Mem fr os g w) (h : purBox ms os = some os1) : Mem fr os1 g w ∧ Grow fr os g w os1 g w := by
  unfold purBox at h
  split at h
  · rename_i l hj
    split at h
    · rename_i l' os2 hp
      cases h
      obtain ⟨b, vs, e1, e2, e3, e4, e5⟩ := hm.objs _ _ hj
      obtain ⟨m1, g1, r1⟩ := purCells_rep l hm e2 hp
      have hj1 := purCells_box l hp hj
      obtain ⟨m2, g2⟩ := boxpur_rep m1 hj1 e1 r1 e3 e4 e5
      exact ⟨m2, g1.trans g2⟩
    · cases h
  · cases h
theorem ret_rep (hT : TabOk P T) {fr : Fr} {os os1 : List SO} {g : Nat → Gh} {w : World} (hm : Mem fr os g w) {env : Env} {tmps : Array Value} (hs : Slots w (Bk fr os g w) g env tmps) {nl : Nat} {fn : Func} {r : SV}
    {ms : List Nat} (h : retS T ms nl fn.results.toList env os = some (r, os1)) :
    ∃ v g', (results fn tmps).run P w = .ok v w ∧ Mem fr os1 g' w ∧ (∀ j, j < nl → g' j = g j) ∧ RepV w (Bk fr os1 g' w) g' r v ∧ nl ≤ os1.length := by
  have h0 : ∃ xs xs' os', resCells T env os fn.results.toList = some xs ∧ ((∃ os2, purVs ms 0 xs os = some (xs', os2) ∧ (purBox ms os2 = some os' ∨ os' = os2)) ∨ xs' = xs ∧ os' = os) ∧ retV T nl os' (some xs') = some (r, os1) := by
    unfold retS at h
    split at h
    · cases hx : resCells T env os fn.results.toList with
      | none => rw [hx] at h; cases h
      | some xs => rw [hx] at h; exact ⟨xs, xs, os, rfl, .inr ⟨rfl, rfl⟩, h⟩
    · unfold retP at h
      split at h
      · cases h
      rename_i xs hx
      split at h
      · rename_i ys os2 hp
        split at h
        · rename_i os3 hb
          refine ⟨xs, ys, os3, hx, .inl ⟨os2, hp, ?_⟩, h⟩
          split at hb
          · exact .inl hb
          · cases hb; exact .inr rfl
        · cases h
      · cases h
  clear h
  obtain ⟨xs, xs', os', hxs, hpur, h⟩ := h0
  obtain ⟨vs, hr, hl⟩ := resCells_rep hT hm hs _ hxs
  clear hs
  have h1 : Mem fr os' g w ∧ RepL w (Bk fr os' g w) g xs' vs := by
    rcases hpur with ⟨os2, hp, hb⟩ | ⟨rfl, rfl⟩
    · obtain ⟨m1, -, r1⟩ := purVs_rep xs hm hl hp
      rcases hb with hb | rfl
      · obtain ⟨m2, g2⟩ := purBox_rep m1 hb
        exact ⟨m2, r1.mono g2.sub g2.same g2.ext⟩
      · exact ⟨m1, r1⟩
    · exact ⟨hm, hl⟩
  clear hm hl
  obtain ⟨hm, hl⟩ := h1
  unfold retV at h
  dsimp only at h
  split at h
  · cases h
  rename_i ys hys
  split at h
  · cases h
  rename_i keep hk
  split at h
  rotate_left
  · cases h
  cases h
  obtain ⟨k1, k2, k3⟩ := okKeep_of hk
  have hl := fixVs_rep hm _ hl hys
  have hl2 : RepL w (Bk fr (gcO keep os') (gk g keep) w) (gk g keep) (ys.map (ren2 (place keep))) vs := map_ren (fun x v h => ren2_rep (gc_sub keep) gk_place h) hl
  have hres : (results fn tmps).run P w = .ok (if h : vs.toArray.size = 1 then vs.toArray[0] else .tuple vs.toArray) w := by
    have e : results fn tmps = Bind.bind (fn.results.mapM (resRun tmps)) (fun vs => pure (if h : vs.size = 1 then vs[0] else .tuple vs)) := by
      unfold results
      refine congrArg (fun q => Bind.bind q _) ?_
      refine congrArg (fun q => Array.mapM q fn.results) ?_
      funext r
      cases r <;> rfl
    rw [e, Array.mapM_eq_mapM_toList]
    simp [hr]
  refine ⟨_, gk g keep, hres, gc_mem hm k1, fun j hj => by unfold gk; rw [k3 j hj], ?_, by simpa [gcO] using k2⟩
  split
  · rename_i y
    obtain ⟨v, vs', rfl, hv, hl'⟩ := hl2.uncons
    obtain rfl : vs' = [] := by have := hl'.1; cases vs' <;> simp at this ⊢
    simpa using hv
  · rename_i hne
    have : ¬ vs.toArray.size = 1 := by
      intro h1
      have h2 := hl.1
      match ys, hne with
      | [], _ => simp at h1 h2; omega
      | [y], hne => exact hne y rfl
      | _ :: _ :: _, _ => simp at h1 h2; omega
    rw [dif_neg this]
    exact .tup hl2.1 hl2.2
theorem look_num (t : Nat) : ∀ (args : List SV) (i : Nat), look t (numEnv i args) = if i ≤ t then (args[t - i]?).getD .dead else .dead := by
  intro args
  induction args with
  | nil => intro i; simp [numEnv, look]
  | cons x xs ih =>
    intro i
    simp only [numEnv, look]
    split
    · rename_i h
      have := Nat.eq_of_beq_eq_true h
      subst this
      simp
    · rename_i h
      have hne : t ≠ i := fun e => by subst e; rw [Nat.beq_refl] at h; cases h
      rw [ih (i + 1)]
      by_cases hi : i ≤ t
      · have h1 : i + 1 ≤ t := by omega
        rw [if_pos h1, if_pos hi]
        have : t - i = (t - (i + 1)) + 1 := by omega
        rw [this]; simp
      · rw [if_neg hi, if_neg (by omega)]
theorem slots_num {w : World} {B : Nat → Prop} {g : Nat → Gh} {args : List SV} {vals : List Value} (h : RepL w B g args vals) (n : Nat) : Slots w B g (numEnv 0 args) (vals.toArray ++ Array.replicate (n - vals.toArray.size) undef) := by
  intro t
  rw [look_num]
  simp only [Nat.zero_le, if_true, Nat.sub_zero]
  cases hx : args[t]? with
  | none => exact .dead
  | some x =>
    have hlt : t < vals.length := by rw [← h.1]; exact lt_of_getElem? hx
    have : (vals.toArray ++ Array.replicate (n - vals.toArray.size) undef).getD t undef = vals[t] := by
      rw [Array.getD_eq_getD_getElem?, Array.getElem?_append_left (by simpa using hlt)]
      simp [hlt]
    rw [this]
    exact h.2 t x _ hx (List.getElem?_eq_getElem hlt)
structure PrgOK (P : Program) (p : Prg) : Prop where
  tab : TabOk P p.T
  code : ∀ f fn, p.code f = some fn → P.funcs[f]? = some fn ∧ (fn.name == "runtime.NumGoroutine") = false ∧ (p.fi f).nt ≤ fn.ntmps
  prim : ∀ f q, p.prim f = some q → KOK1 P f q
  mix : P.follows .mixedOrders = true
theorem callF_ok {p : Prg} (hp : PrgOK P p) : ∀ n, KOK P (callF p n) := by
  intro n
  induction n with
  | zero => intro f args los los' r h; simp [callF] at h
  | succ n ih =>
    intro f args los los' r h
    simp only [callF] at h
    split at h
    · rename_i q hq
      exact hp.prim f q hq args los los' r h
    · split at h
      · cases h
      rename_i fn hfn
      split at h
      · cases h
      rename_i b hb
      obtain ⟨h1, h2, h3⟩ := hp.code f fn hfn
      refine ⟨⟨fn, b, h1, h2, hb⟩, fun A L g vals w hL hm ha => ?_⟩
      refine calls_of_wp h1 hb ?_
      let c : Cx := ⟨p.T, p.own, callF p n⟩
      have hinv : Inv ⟨w.heap.size, A, L, w⟩ g los.length (p.fi f).nt (numEnv 0 args) los { tmps := vals.toArray ++ Array.replicate (fn.ntmps - vals.toArray.size) undef, defers := [] } w :=
        ⟨g, hm, slots_num ha _, by simp; omega, rfl, Nat.le_refl _, fun _ _ _ => rfl⟩
      refine wp_mono (exec_sound (c := c) (ops_ok hp.tab ih) (draw_ok (ops_ok hp.tab ih) hp.mix) gc_ok b _ _ _ _ _ hinv h) ?_
      intro e a w' hq
      obtain ⟨env, os, ⟨g1, m, hs, ht, hd, hl, h0⟩, hk⟩ := hq
      have fin : retS p.T (p.pur f) los.length fn.results.toList env os = some (r, los') → a.defers = [] ∧ ∃ v, (results fn a.tmps).run P w' = .ok v w' ∧
          ∃ v' g', Ending.returned v = .returned v' ∧ Mem ⟨w.heap.size, A, L, w⟩ los' g' w' ∧ (∀ j, j < los.length → g j ≠ .no → g' j = g j) ∧ RepV w' (Bk ⟨w.heap.size, A, L, w⟩ los' g' w') g' r v' ∧ los.length ≤ los'.length := by
        intro hk
        obtain ⟨v, g', r1, r2, r3, r4, r5⟩ := ret_rep hp.tab m hs hk
        exact ⟨hd, v, r1, v, g', rfl, r2, fun j hj hn => by rw [r3 j hj, h0 j hj hn], r4, r5⟩
      cases e with
      | normal => exact fin hk
      | ret => exact fin hk
      | exit id => simp [kEnd] at hk
      | goto l => exact hk.elim
      | panic ch => exact hk.elim
      | outgrown => exact hk.elim
end Go.Proofs.Ytikennabfbkdhaa

/- The evaluator S: the table of types is right, where a check by the kernel says so. -/
namespace Go.Proofs.Ytikennabfbkdhaa
open Go
set_option linter.unusedVariables false
set_option linter.unusedSimpArgs false
variable {P : Program} {T : Tab}
def zkChk (v : Value) (z : ZK) : Bool :=
  match v, z with
  | .int k n, .int k' => decide (k = k') && decide (n = 0)
  | .bool false, .bool => true
  | .string ⟨⟨[]⟩⟩, .str => true
  | .slice none 0 0, .sl _ => true
  | .nilFunc, .fn => true
  | .pointer none, .ptr => true
  | _, _ => false
def zksChk : List Value → List ZK → Bool
  | [], [] => true
  | v :: vs, z :: zs => zkChk v z && zksChk vs zs
  | _, _ => false
theorem zkChk_ok {v : Value} {z : ZK} (h : zkChk v z = true) : v = z.val := by
  unfold zkChk at h
  split at h <;> first | rfl | (cases h; done) | skip
  simp only [Bool.and_eq_true, decide_eq_true_eq] at h
  obtain ⟨rfl, rfl⟩ := h
  rfl
theorem zksChk_ok : ∀ {vs : List Value} {zs : List ZK}, zksChk vs zs = true → vs = zs.map ZK.val
  | [], [], _ => rfl
  | v :: vs, z :: zs, h => by
    simp only [zksChk, Bool.and_eq_true] at h
    rw [zkChk_ok h.1, zksChk_ok h.2]; rfl
  | [], _ :: _, h => by cases h
  | _ :: _, [], h => by cases h
def isAggV (z : Value) : Bool :=
  match z with
  | .agg _ => true
  | _ => false
def aggShape (agg : Bool) (z : Value) : Bool := if agg = true then isAggV z else z.oneCell'
def tiChk (P : Program) (t : Nat) (i : TI) : Bool :=
  match P.info? t, P.underlying t with
  | some info, some d =>
    match info.zero with
    | some z => Nat.beq info.size i.size && Nat.beq info.bytes i.bytes && zksChk z.cells.toList i.zero && (aggDesc d == i.agg) && aggShape i.agg z && Nat.beq i.zero.length i.size
    | none => false
  | _, _ => false
theorem tiChk_ok {t : Nat} {i : TI} (h : tiChk P t i = true) : TiOk P t i := by
  unfold tiChk at h
  split at h
  · rename_i info d h1 h2
    split at h
    · rename_i z hz
      simp only [Bool.and_eq_true, Nat.beq_eq, beq_iff_eq] at h
      obtain ⟨⟨⟨⟨⟨a1, a2⟩, a3⟩, a4⟩, a5⟩, a6⟩ := h
      refine ⟨info, z, d, h1, a1, a2, hz, zksChk_ok a3, h2, a4, ⟨fun e => ?_, fun e => ?_⟩, a6⟩
      · rw [e] at a5
        simp only [aggShape, if_true] at a5
        cases z <;> first | exact ⟨_, rfl⟩ | cases a5
      · rw [e] at a5
        simpa [aggShape] using a5
    · cases h
  · cases h
def tiAll (P : Program) : Nat → List (Option TI) → Bool
  | _, [] => true
  | t, none :: l => tiAll P (t + 1) l
  | t, some i :: l => match tiChk P t i with | true => tiAll P (t + 1) l | false => false
theorem tiAll_ok : ∀ {l : List (Option TI)} {k : Nat}, tiAll P k l = true → ∀ t i, l[t]? = some (some i) → TiOk P (k + t) i
  | [], _, _, t, i, h => by simp at h
  | x :: l, k, h, t, i, ht => by
    cases t with
    | zero =>
      simp at ht; subst ht
      simp only [tiAll] at h
      split at h
      · rename_i hc; exact tiChk_ok hc
      · cases h
    | succ t =>
      have hl : tiAll P (k + 1) l = true := by
        cases x with
        | none => exact h
        | some j =>
          simp only [tiAll] at h
          split at h
          · exact h
          · cases h
      have := tiAll_ok hl t i (by simpa using ht)
      rw [show k + (t + 1) = k + 1 + t by omega]; exact this
def fieldsChk (P : Program) : List Field → List (Nat × Nat) → Bool
  | [], [] => true
  | f :: fs, (o, t) :: l => Nat.beq f.offset o && Nat.beq f.type t && (P.info? f.type).isSome && fieldsChk P fs l
  | _, _ => false
theorem fieldsChk_ok : ∀ {fs : List Field} {l : List (Nat × Nat)}, fieldsChk P fs l = true → fs.map (fun f => (f.offset, f.type)) = l ∧ ∀ f, f ∈ fs → (P.info? f.type).isSome = true
  | [], [], _ => ⟨rfl, fun f h => by cases h⟩
  | f :: fs, (o, t) :: l, h => by
    simp only [fieldsChk, Bool.and_eq_true, Nat.beq_eq] at h
    obtain ⟨⟨⟨a1, a2⟩, a3⟩, a4⟩ := h
    obtain ⟨b1, b2⟩ := fieldsChk_ok a4
    refine ⟨by simp [a1, a2, b1], fun g hg => ?_⟩
    rcases List.mem_cons.1 hg with rfl | hg
    · exact a3
    · exact b2 g hg
  | [], _ :: _, h => by cases h
  | _ :: _, [], h => by cases h
def intFields (P : Program) : Nat → List Field → Bool
  | _, [] => true
  | o, f :: fs => Nat.beq f.offset o && (f.name != "_") && (match P.underlying f.type with | some (.int _) => true | _ => false) && intFields P (o + 1) fs
def eqsChk (P : Program) (t : Nat) (fields : Array Field) : Bool :=
  !(P.eqGuardType P.depth t) && !(P.stoodInHeld t) && intFields P 0 fields.toList
def ukD (P : Program) (t : Nat) (u : UK) (d : TypeDesc) : Bool :=
  match u, d with
  | .str, .string => true
  | .bool, .bool => true
  | .int k, .int k' => decide (k' = k)
  | .slice e, .slice e' => Nat.beq e' e
  | .array n e, .array n' e' => Nat.beq n' n && Nat.beq e' e
  | .struct fs, .struct fields => fieldsChk P fields.toList fs
  | .eqs fs, .struct fields => fieldsChk P fields.toList fs && eqsChk P t fields
  | _, _ => false
def ukChk (P : Program) (t : Nat) (u : UK) : Bool :=
  match P.underlying t with
  | some d => ukD P t u d
  | none => false
def ukAll (P : Program) : Nat → List (Option UK) → Bool
  | _, [] => true
  | t, none :: l => ukAll P (t + 1) l
  | t, some u :: l => match ukChk P t u with | true => ukAll P (t + 1) l | false => false
theorem ukAll_ok : ∀ {l : List (Option UK)} {k : Nat}, ukAll P k l = true → ∀ t u, l[t]? = some (some u) → ukChk P (k + t) u = true
  | [], _, _, t, i, h => by simp at h
  | x :: l, k, h, t, i, ht => by
    cases t with
    | zero =>
      simp at ht; subst ht
      simp only [ukAll] at h
      split at h
      · rename_i hc; exact hc
      · cases h
    | succ t =>
      have hl : ukAll P (k + 1) l = true := by
        cases x with
        | none => exact h
        | some j =>
          simp only [ukAll] at h
          split at h
          · exact h
          · cases h
      have := ukAll_ok hl t i (by simpa using ht)
      rw [show k + (t + 1) = k + 1 + t by omega]; exact this
theorem eqFields_ints (d : Nat) {w : World} : ∀ (fs : List Field) (k : Nat) (xs ys : List Value) (r : Bool), intFields P k fs = true → fs.length + k = xs.length → xs.length = ys.length → intsEq (xs.drop k) (ys.drop k) = some r →
    (Op.eqFields (d + 1) xs.toArray ys.toArray fs).run P w = .ok r w := by
  intro fs
  induction fs with
  | nil =>
    intro k xs ys r h hl hlen he
    rw [List.drop_eq_nil_of_le (by simp at hl; omega), List.drop_eq_nil_of_le (by simp at hl; omega)] at he
    simp only [intsEq, Option.some.injEq] at he
    subst he
    simp [Op.eqFields]
  | cons f fs ih =>
    intro k xs ys r h hl hlen he
    simp only [intFields, Bool.and_eq_true, Nat.beq_eq, bne_iff_ne, ne_eq] at h
    obtain ⟨⟨⟨h1, h2⟩, h3⟩, h4⟩ := h
    simp at hl
    have hx : k < xs.length := by omega
    have hy : k < ys.length := by omega
    rw [List.drop_eq_getElem_cons hx, List.drop_eq_getElem_cons hy] at he
    unfold intsEq at he
    split at he
    · rename_i e1 e2; cases e1
    · rename_i ki a xs' ki' b ys' e1 e2
      obtain ⟨e1a, e1b⟩ := List.cons.inj e1
      obtain ⟨e2a, e2b⟩ := List.cons.inj e2
      split at he
      · rename_i hk
        split at he
        · rename_i r' hr'
          obtain rfl := Option.some.inj he
          rw [← e1b, ← e2b] at hr'
          have hrec := ih (k + 1) xs ys r' h4 (by omega) hlen hr'
          split at h3
          · rename_i kk hkk
            have p1 : ∀ (cs : List Value) (v : Value), cs[k]? = some v → (part f.type cs.toArray f.offset).run P w = .ok v w := by
              intro cs v hv
              have : (isAgg f.type).run P w = .ok false w := run_agg hkk w
              simp [part, this, h1, hv]
            have q1 := p1 xs _ (List.getElem?_eq_getElem hx)
            have q2 := p1 ys _ (List.getElem?_eq_getElem hy)
            rw [e1a] at q1
            rw [e2a] at q2
            subst hk
            simp only [Op.eqFields, h2, not_false_eq_true, if_true, ne_eq, Sem.run_bind, q1, q2, Result.andThen_ok, run_equalIn_int (w := w) d f.type ki kk a b hkk, Sem.run_ite]
            cases hab : (a == b)
            · simp
            · simp [hrec]
          · cases h3
        · cases he
      · cases he
    · cases he
def eqsAll : List (Option TI) → List (Option UK) → Bool
  | some i :: l, some (.eqs fs) :: us => Nat.beq fs.length i.size && eqsAll l us
  | _ :: l, _ :: us => eqsAll l us
  | _, _ => true
theorem eqsAll_ok : ∀ {l : List (Option TI)} {us : List (Option UK)}, eqsAll l us = true → ∀ (t : Nat) fs i, us[t]? = some (some (.eqs fs)) → l[t]? = some (some i) → fs.length = i.size
  | [], _, _, t, fs, i, _, h => by simp at h
  | _ :: _, [], _, t, fs, i, h, _ => by simp at h
  | x :: l, u :: us, h, t, fs, i, hu, hl => by
    cases t with
    | zero =>
      simp at hu hl
      subst hu; subst hl
      simp only [eqsAll, Bool.and_eq_true, Nat.beq_eq] at h
      exact h.1
    | succ t =>
      have h' : eqsAll l us = true := by
        unfold eqsAll at h
        split at h
        · rename_i e1 e2
          obtain ⟨-, rfl⟩ := List.cons.inj e1
          obtain ⟨-, rfl⟩ := List.cons.inj e2
          simp only [Bool.and_eq_true] at h; exact h.2
        · rename_i e1 e2
          obtain ⟨-, rfl⟩ := List.cons.inj e1
          obtain ⟨-, rfl⟩ := List.cons.inj e2
          exact h
        · rename_i h1 h2; exact absurd rfl (h2 _ _ _ _ rfl)
      exact eqsAll_ok h' t fs i (by simpa using hu) (by simpa using hl)
theorem tab_ok {tiL : List (Option TI)} {ukL : List (Option UK)} {pz : Nat → Bool} (h1 : tiAll P 0 tiL = true) (h2 : ukAll P 0 ukL = true) (h3 : eqsAll tiL ukL = true) : TabOk P { ti := fun t => (tiL[t]?).getD none, und := fun t => (ukL[t]?).getD none, pz := pz } := by
  have g1 : ∀ t i, (tiL[t]?).getD none = some i → TiOk P t i := fun t i h => by
    cases hx : tiL[t]? with
    | none => rw [hx] at h; cases h
    | some x => rw [hx] at h; simp at h; subst h; simpa using tiAll_ok h1 t i hx
  have g2 : ∀ t u, (ukL[t]?).getD none = some u → ukChk P t u = true := fun t u h => by
    cases hx : ukL[t]? with
    | none => rw [hx] at h; cases h
    | some x => rw [hx] at h; simp at h; subst h; simpa using ukAll_ok h2 t u hx
  have U : ∀ t u, (ukL[t]?).getD none = some u → ∃ d, P.underlying t = some d ∧ ukD P t u d = true := fun t u h => by
    have := g2 t u h
    unfold ukChk at this
    cases hu : P.underlying t with
    | none => rw [hu] at this; cases this
    | some d => rw [hu] at this; exact ⟨d, rfl, this⟩
  refine ⟨g1, fun t h => ?_, fun t h => ?_, fun t k h => ?_, fun t e h => ?_, fun t n e h => ?_, fun t u fs h hf => ?_, fun t fs i h hi => ?_⟩
  · obtain ⟨d, hd, hc⟩ := U t _ h
    cases d <;> first | exact hd | (cases hc; done)
  · obtain ⟨d, hd, hc⟩ := U t _ h
    cases d <;> first | exact hd | (cases hc; done)
  · obtain ⟨d, hd, hc⟩ := U t _ h
    cases d <;> first | (cases hc; done) | skip
    simp only [ukD, decide_eq_true_eq] at hc
    rw [hd, hc]
  · obtain ⟨d, hd, hc⟩ := U t _ h
    cases d <;> first | (cases hc; done) | skip
    simp only [ukD, Nat.beq_eq] at hc
    rw [hd, hc]
  · obtain ⟨d, hd, hc⟩ := U t _ h
    cases d <;> first | (cases hc; done) | skip
    simp only [ukD, Nat.beq_eq, Bool.and_eq_true] at hc
    rw [hd, hc.1, hc.2]
  · obtain ⟨d, hd, hc⟩ := U t _ h
    cases u <;> first | (cases hf; done) | skip
    · cases hf
      cases d <;> first | (cases hc; done) | skip
      obtain ⟨b1, b2⟩ := fieldsChk_ok hc
      exact ⟨_, hd, b1, b2⟩
    · cases hf
      cases d <;> first | (cases hc; done) | skip
      simp only [ukD, Bool.and_eq_true] at hc
      obtain ⟨b1, b2⟩ := fieldsChk_ok hc.1
      exact ⟨_, hd, b1, b2⟩
  · obtain ⟨d, hd, hc⟩ := U t _ h
    cases d <;> first | (cases hc; done) | skip
    rename_i fields
    simp only [ukD, eqsChk, Bool.and_eq_true, Bool.not_eq_true'] at hc
    obtain ⟨b1, b2⟩ := fieldsChk_ok hc.1
    refine ⟨hc.2.1.1, fun xs ys r w he hl => ?_⟩
    have hfo : P.fieldsOf t = fields := by unfold Program.fieldsOf; rw [hd]
    have hlen : ∀ (xs ys : List Value) (r : Bool), intsEq xs ys = some r → xs.length = ys.length := by
      intro xs
      induction xs with
      | nil => intro ys r h; cases ys <;> simp [intsEq] at h ⊢
      | cons x xs ih =>
        intro ys r h
        unfold intsEq at h
        split at h
        · rename_i e; cases e
        · rename_i e1
          obtain ⟨-, rfl⟩ := List.cons.inj e1
          split at h
          · split at h
            · rename_i hr; simp [ih _ _ hr]
            · cases h
          · cases h
        · cases h
    have hti := g1 t i hi
    obtain ⟨info, z, d', k1, k2, k3, k4, k5, k6, k7, k8, k9⟩ := hti.ok
    have hfl : fields.toList.length = i.size := by
      have e1 : fs.length = i.size := by
        refine eqsAll_ok h3 t fs i ?_ ?_
        · cases hx : ukL[t]? with
          | none => simp only [hx] at h; cases h
          | some x => simp only [hx] at h; simp at h; rw [h]
        · cases hx : tiL[t]? with
          | none => simp only [hx] at hi; cases hi
          | some x => simp only [hx] at hi; simp at hi; rw [hi]
      rw [← e1, ← b1, List.length_map]
    have := eqFields_ints (P := P) 9998 (w := w) fields.toList 0 xs ys r hc.2.2 (by rw [hl]; simpa using hfl) (hlen xs ys r he) (by simpa using he)
    have e := run_equalIn_agg (P := P) w 9999 t xs.toArray ys.toArray (by rw [hfo]; exact hd) hc.2.1.2
    rw [hfo] at e
    show (Op.equalIn 10000 t _ _).run P w = _
    rw [e]
    exact this
end Go.Proofs.Ytikennabfbkdhaa

/- The evaluator S: what it gives from some amount of fuel on, the words for it. -/
namespace Go.Proofs.Ytikennabfbkdhaa
open Go
set_option linter.unusedVariables false
set_option linter.unusedSimpArgs false
def Ex (A : Nat → Out) (x : SV) (os : List SO) : Prop := ∃ n0, ∀ n, n0 ≤ n → A n = some (x, os)
def Ev (A : Nat → Out) (Q : SV → List SO → Prop) : Prop := ∃ x os, Q x os ∧ Ex A x os
theorem ev_eq {A B : Nat → Out} {Q} (h : ∀ n, A n = B n) (h2 : Ev B Q) : Ev A Q := by
  obtain ⟨x, os, hq, n0, h0⟩ := h2
  exact ⟨x, os, hq, n0, fun n hn => (h n).trans (h0 n hn)⟩
theorem ev_loop {L : Nat → Nat → Out} {B : Nat → Nat → Out} {c : Nat} {Q} (h : ∀ n m, L n (m + 1) = B n m) (h2 : Ev (fun n => B n (n + 1 - (c + 1))) Q) : Ev (fun n => L n (n + 1 - c)) Q := by
  obtain ⟨x, os, hq, n0, h0⟩ := h2
  refine ⟨x, os, hq, n0 + c, fun n hn => ?_⟩
  have : n + 1 - c = (n + 1 - (c + 1)) + 1 := by omega
  show L n (n + 1 - c) = _
  rw [this, h]
  exact h0 n (by omega)
theorem ev_fun {A B : Nat → Out} {Q} (h : ∀ n, A (n + 1) = B n) (h2 : Ev B Q) : Ev A Q := by
  obtain ⟨x, os, hq, n0, h0⟩ := h2
  refine ⟨x, os, hq, n0 + 1, fun n hn => ?_⟩
  obtain ⟨n, rfl⟩ : ∃ m, n = m + 1 := ⟨n - 1, by omega⟩
  rw [h]
  exact h0 n (by omega)
def zipE : List Nat → List SV → Env
  | t :: ts, x :: xs => (t, x) :: zipE ts xs
  | _, _ => []
end Go.Proofs.Ytikennabfbkdhaa
