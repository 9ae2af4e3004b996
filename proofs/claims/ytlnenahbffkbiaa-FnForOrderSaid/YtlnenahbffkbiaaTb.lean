/- The evaluator S and what it says of functions: St, Sz, Te, Td, Tb. -/
import Derived.Test.YtlnenahbffkbiaaSy
import Derived.Laws.StructEq
import Derived.KernelRfl
import Derived.Test.YtlnenahbffkbiaaSe
import Derived.Below
import Derived.WalkKit
import Derived.SizedLaws
import Derived.ChangeSlices
/- The evaluator S: functions are sound. -/
namespace Go.Proofs.Ytlnenahbffkbiaa
open Go
set_option linter.unusedVariables false
set_option linter.unusedSimpArgs false
variable {P : Program} {T : Tab}
theorem loadVar_rep (hT : TabOk P T) {fr : Fr} {os : List SO} {g : Nat → Gh} {w : World} (hm : Mem fr os g w) {t : Nat} {p x : SV} {pv : Value}
    (hp : RepV w (Bk fr os g w) g p pv) (h : loadS T os t p = some x) : ∃ a v, pv = .pointer (some a) ∧ (loadVar t a).run P w = .ok v w ∧ RepV w (Bk fr os g w) g x v := by
  obtain ⟨v, hr, hv⟩ := load_rep hT hm hp h
  unfold loadS at h
  split at h
  · split at h
    · rename_i l hl
      obtain ⟨b, o, vs, rfl, -, -⟩ := place_rep hm hp hl
      exact ⟨_, v, rfl, by simpa [Instr.loadAt, Instr.sureAddr] using hr, hv⟩
    · cases h
  · cases h
def resRun (tmps : Array Value) : ResultVar → Sem Value := fun
  | .tmp t => pure (tmps.getD t undef)
  | .cell a t => do loadVar t (← asAddr (tmps.getD a undef))
theorem resCells_rep (hT : TabOk P T) {fr : Fr} {os : List SO} {g : Nat → Gh} {w : World} (hm : Mem fr os g w) {env : Env} {tmps : Array Value} (hs : Slots w (Bk fr os g w) g env tmps) : ∀ (rs : List ResultVar) {xs : List SV},
    resCells T env os rs = some xs → ∃ vs, (rs.mapM (resRun tmps)).run P w = .ok vs w ∧ RepL w (Bk fr os g w) g xs vs := by
  intro rs
  induction rs with
  | nil =>
    intro xs h
    simp only [resCells, Option.some.injEq] at h
    subst h
    exact ⟨[], by simp, RepL.nil⟩
  | cons r rs ih =>
    intro xs h
    simp only [resCells, resC1] at h
    split at h
    · rename_i x xs' hx hxs
      obtain rfl := Option.some.inj h
      obtain ⟨vs, hr, hl⟩ := ih hxs
      have : ∃ v, (resRun tmps r).run P w = .ok v w ∧ RepV w (Bk fr os g w) g x v := by
        cases r with
        | tmp t =>
          simp only [resCell, Option.some.injEq] at hx
          subst hx
          exact ⟨_, by simp [resRun], hs t⟩
        | cell a t =>
          obtain ⟨ad, v, e, h1, h2⟩ := loadVar_rep hT hm (hs a) hx
          exact ⟨v, by simp [resRun, e, asAddr, h1], h2⟩
      obtain ⟨v, h1, h2⟩ := this
      exact ⟨v :: vs, by simp [List.mapM_cons, h1, hr], RepL.cons h2 hl⟩
    · cases h
theorem fixCell_rep {fr : Fr} {os : List SO} {g : Nat → Gh} {w : World} (hm : Mem fr os g w) {x y : SV} {v : Value} (hx : RepV w (Bk fr os g w) g x v) (h : fixCell os x = some y) : RepV w (Bk fr os g w) g y v := by
  unfold fixCell at h
  split at h
  · cases h; exact hx
  · cases h; exact hx
  · cases h; exact hx
  · cases h; exact hx
  · rename_i j
    split at h
    · cases h; exact hx
    · rename_i sz l hj
      cases h
      rcases hm.objs _ _ hj with ⟨rfl, hg⟩ | ⟨b, cap, vs, hg, h1, h2, h3, h4, h5⟩
      · cases hx with
        | osl0 h0 => exact .sl0
        | osl h0 => rw [hg] at h0; cases h0
      · cases hx with
        | osl0 h0 => rw [hg] at h0; cases h0
        | osl h0 =>
          rw [hg] at h0
          cases h0
          by_cases hl : l = []
          · subst hl; exact .sl0
          · exact .sl h3.1 h3.2 h4 (by simpa using h5) h2 h1
    · cases h
  · cases h
theorem fixCells_rep {fr : Fr} {os : List SO} {g : Nat → Gh} {w : World} (hm : Mem fr os g w) : ∀ (xs : List SV) {ys : List SV} {vs : List Value},
    RepL w (Bk fr os g w) g xs vs → fixCells os xs = some ys → RepL w (Bk fr os g w) g ys vs := by
  intro xs
  induction xs with
  | nil => intro ys vs hl h; simp only [fixCells, Option.some.injEq] at h; subst h; exact hl
  | cons x xs ih =>
    intro ys vs hl h
    obtain ⟨v, vs', rfl, hv, hl'⟩ := hl.uncons
    simp only [fixCells] at h
    split at h
    · rename_i hy hys
      cases h
      exact RepL.cons (fixCell_rep hm hv hy) (ih hl' hys)
    · cases h
theorem fixV_rep {fr : Fr} {os : List SO} {g : Nat → Gh} {w : World} (hm : Mem fr os g w) {x y : SV} {v : Value} (hx : RepV w (Bk fr os g w) g x v) (h : fixV os x = some y) : RepV w (Bk fr os g w) g y v := by
  unfold fixV at h
  split at h
  · split at h
    · rename_i hys
      cases h
      cases hx with
      | ag h1 h2 h3 =>
        have := fixCells_rep hm _ ⟨h1, h2⟩ hys
        exact .ag this.1 this.2 h3
    · cases h
  · exact fixCell_rep hm hx h
theorem fixVs_rep {fr : Fr} {os : List SO} {g : Nat → Gh} {w : World} (hm : Mem fr os g w) : ∀ (xs : List SV) {ys : List SV} {vs : List Value},
    RepL w (Bk fr os g w) g xs vs → fixVs os xs = some ys → RepL w (Bk fr os g w) g ys vs := by
  intro xs
  induction xs with
  | nil => intro ys vs hl h; simp only [fixVs, Option.some.injEq] at h; subst h; exact hl
  | cons x xs ih =>
    intro ys vs hl h
    obtain ⟨v, vs', rfl, hv, hl'⟩ := hl.uncons
    simp only [fixVs] at h
    split at h
    · rename_i hy hys
      cases h
      exact RepL.cons (fixV_rep hm hv hy) (ih hl' hys)
    · cases h
theorem purCells_rep {fr : Fr} {w : World} {g : Nat → Gh} {ms : List Nat} : ∀ (xs : List SV) {k : Nat} {os os1 : List SO} {ys : List SV} {vs : List Value}, Mem fr os g w → RepL w (Bk fr os g w) g xs vs →
    purCells ms k xs os = some (ys, os1) → Mem fr os1 g w ∧ Grow fr os g w os1 g w ∧ RepL w (Bk fr os1 g w) g ys vs := by
  intro xs
  induction xs with
  | nil =>
    intro k os os1 ys vs hm hl h
    simp only [purCells] at h
    cases h
    exact ⟨hm, Grow.refl _ _ _ _, hl⟩
  | cons x xs ih =>
    intro k os os1 ys vs hm hl h
    obtain ⟨v, vs', rfl, hv, hl'⟩ := hl.uncons
    simp only [purCells] at h
    split at h
    · rename_i y os2 hy
      split at h
      · rename_i ys' os3 hys
        cases h
        have h1 : Mem fr os2 g w ∧ Grow fr os g w os2 g w ∧ RepV w (Bk fr os2 g w) g y v := by
          split at hy
          · obtain ⟨m1, g1, r1, -⟩ := pureCell_rep hm hv hy
            exact ⟨m1, g1, r1.mono (fun _ h => h) (fun _ _ => rfl) g (fun _ h => absurd rfl h)⟩
          · cases hy; exact ⟨hm, Grow.refl _ _ _ _, hv⟩
        obtain ⟨m1, g1, r1⟩ := h1
        obtain ⟨m2, g2, r2⟩ := ih m1 (hl'.mono g1.sub g1.same g1.ext) hys
        exact ⟨m2, g1.trans g2, RepL.cons (r1.grow g2) r2⟩
      · cases h
    · cases h
theorem purVs_rep {fr : Fr} {w : World} {g : Nat → Gh} {ms : List Nat} : ∀ (xs : List SV) {k : Nat} {os os1 : List SO} {ys : List SV} {vs : List Value}, Mem fr os g w → RepL w (Bk fr os g w) g xs vs →
    purVs ms k xs os = some (ys, os1) → Mem fr os1 g w ∧ Grow fr os g w os1 g w ∧ RepL w (Bk fr os1 g w) g ys vs := by
  intro xs
  induction xs with
  | nil =>
    intro k os os1 ys vs hm hl h
    simp only [purVs] at h
    cases h
    exact ⟨hm, Grow.refl _ _ _ _, hl⟩
  | cons x xs ih =>
    intro k os os1 ys vs hm hl h
    obtain ⟨v, vs', rfl, hv, hl'⟩ := hl.uncons
    simp only [purVs] at h
    split at h
    · rename_i y os2 hy
      split at h
      · rename_i ys' os3 hys
        cases h
        have h1 : Mem fr os2 g w ∧ Grow fr os g w os2 g w ∧ RepV w (Bk fr os2 g w) g y v := by
          split at hy
          · rename_i l
            split at hy
            · rename_i l' os4 hl4
              cases hy
              cases hv with
              | ag h1 h2 h3 =>
                obtain ⟨m1, g1, r1⟩ := purCells_rep l hm ⟨h1, h2⟩ hl4
                exact ⟨m1, g1, .ag r1.1 r1.2 h3⟩
            · cases hy
          · split at hy
            · obtain ⟨m1, g1, r1, -⟩ := pureCell_rep hm hv hy
              exact ⟨m1, g1, r1.mono (fun _ h => h) (fun _ _ => rfl) g (fun _ h => absurd rfl h)⟩
            · cases hy; exact ⟨hm, Grow.refl _ _ _ _, hv⟩
        obtain ⟨m1, g1, r1⟩ := h1
        obtain ⟨m2, g2, r2⟩ := ih m1 (hl'.mono g1.sub g1.same g1.ext) hys
        exact ⟨m2, g1.trans g2, RepL.cons (r1.grow g2) r2⟩
      · cases h
    · cases h
theorem pureCell_box {os os1 : List SO} {x y : SV} (h : pureCell os x = some (y, os1)) {j : Nat} {l : List SV} (hj : os[j]? = some (.box l)) : os1[j]? = some (.box l) := by
  have key : ∀ (k sz : Nat) (b : Bool) (l' : List SV), os[k]? = some (.arr b sz l') → (os.set k (.frz sz l'))[j]? = some (.box l) := fun k sz b l' hk => by
    rw [List.getElem?_set]
    split
    · rename_i e; subst e; rw [hj] at hk; cases hk
    · exact hj
  unfold pureCell at h
  split at h
  · cases h; exact hj
  · cases h; exact hj
  · split at h
    · rename_i hk; cases h; exact key _ _ _ _ hk
    · cases h; exact hj
    · cases h
  · split at h
    · rename_i hk
      split at h
      · cases h; exact key _ _ _ _ hk
      · cases h
    · split at h
      · cases h; exact hj
      · cases h
    · cases h
  · cases h
theorem purCells_box {ms : List Nat} : ∀ (xs : List SV) {k : Nat} {os os1 : List SO} {ys : List SV}, purCells ms k xs os = some (ys, os1) → ∀ {j : Nat} {l : List SV}, os[j]? = some (.box l) → os1[j]? = some (.box l) := by
  intro xs
  induction xs with
  | nil => intro k os os1 ys h j l hj; simp only [purCells] at h; cases h; exact hj
  | cons x xs ih =>
    intro k os os1 ys h j l hj
    simp only [purCells] at h
    split at h
    · rename_i y os2 hy
      split at h
      · rename_i ys' os3 hys
        cases h
        refine ih hys ?_
        split at hy
        · exact pureCell_box hy hj
        · cases hy; exact hj
      · cases h
    · cases h
theorem boxpur_rep {fr : Fr} {os : List SO} {g : Nat → Gh} {w : World} (hm : Mem fr os g w) {j b : Nat} {l l' : List SV} {vs : List Value} (hj : os[j]? = some (.box l)) (e1 : g j = .bx b) (e2 : RepL w (Bk fr os g w) g l' vs) (e3 : ∀ v : Value, v ∈ vs → v.oneCell' = true)
    (e4 : CellsAt w b 0 vs) (e5 : Room w b vs.length) : Mem fr (os.set j (.box l')) g w ∧ Grow fr os g w (os.set j (.box l')) g w := by
  have hb : (g j).block? = some b := by rw [e1]; rfl
  have hg := (set_chg hm (SameOut.refl _) hj rfl hb (o' := .box l') rfl rfl (fun _ _ => rfl)).grow
  exact ⟨set_mem hm (SameOut.refl _) hj rfl hb rfl (fun sz l e => by cases e) rfl (fun _ _ => rfl) ⟨b, vs, e1, e2.mono hg.sub hg.same hg.ext, e3, e4, e5⟩, hg⟩
theorem purBox_rep {fr : Fr} {os os1 : List SO} {g : Nat → Gh} {w : World} {ms : List Nat} (hm : Mem fr os g w) (h : purBox ms os = some os1) : Mem fr os1 g w ∧ Grow fr os g w os1 g w := by
  unfold purBox at h
  split at h
  · rename_i l hj
    split at h
    · rename_i l' os2 hp
      cases h
      obtain ⟨b, vs, e1, e2, e3, e4, e5⟩ := hm.objs _ _ hj
      obtain ⟨m1, g1, r1⟩ := purCells_rep l hm e2 hp
      have hj1 := purCells_box l hp hj
      obtain ⟨m2, g2⟩ := boxpur_rep m1 hj1 e1 r1 e3 e4 e5
      exact ⟨m2, g1.trans g2⟩
    · cases h
  · cases h
theorem ret_rep (hT : TabOk P T) {fr : Fr} {os os1 : List SO} {g : Nat → Gh} {w : World} (hm : Mem fr os g w) {env : Env} {tmps : Array Value} (hs : Slots w (Bk fr os g w) g env tmps) {nl : Nat} {fn : Func} {r : SV}
    {ms : List Nat} (h : retS T ms nl fn.results.toList env os = some (r, os1)) :
    ∃ v g', (results fn tmps).run P w = .ok v w ∧ Mem fr os1 g' w ∧ (∀ j, j < nl → g' j = g j) ∧ RepV w (Bk fr os1 g' w) g' r v ∧ nl ≤ os1.length := by
  have h0 : ∃ xs xs' os', resCells T env os fn.results.toList = some xs ∧ ((∃ os2, purVs ms 0 xs os = some (xs', os2) ∧ (purBox ms os2 = some os' ∨ os' = os2)) ∨ xs' = xs ∧ os' = os) ∧ retV T nl os' (some xs') = some (r, os1) := by
    unfold retS at h
    split at h
    · cases hx : resCells T env os fn.results.toList with
      | none => rw [hx] at h; cases h
      | some xs => rw [hx] at h; exact ⟨xs, xs, os, rfl, .inr ⟨rfl, rfl⟩, h⟩
    · unfold retP at h
      split at h
      · cases h
      rename_i xs hx
      split at h
      · rename_i ys os2 hp
        split at h
        · rename_i os3 hb
          refine ⟨xs, ys, os3, hx, .inl ⟨os2, hp, ?_⟩, h⟩
          split at hb
          · exact .inl hb
          · cases hb; exact .inr rfl
        · cases h
      · cases h
  clear h
  obtain ⟨xs, xs', os', hxs, hpur, h⟩ := h0
  obtain ⟨vs, hr, hl⟩ := resCells_rep hT hm hs _ hxs
  clear hs
  have h1 : Mem fr os' g w ∧ RepL w (Bk fr os' g w) g xs' vs := by
    rcases hpur with ⟨os2, hp, hb⟩ | ⟨rfl, rfl⟩
    · obtain ⟨m1, -, r1⟩ := purVs_rep xs hm hl hp
      rcases hb with hb | rfl
      · obtain ⟨m2, g2⟩ := purBox_rep m1 hb
        exact ⟨m2, r1.mono g2.sub g2.same g2.ext⟩
      · exact ⟨m1, r1⟩
    · exact ⟨hm, hl⟩
  clear hm hl
  obtain ⟨hm, hl⟩ := h1
  unfold retV at h
  dsimp only at h
  split at h
  · cases h
  rename_i ys hys
  split at h
  · cases h
  rename_i keep hk
  split at h
  rotate_left
  · cases h
  cases h
  obtain ⟨k1, k2, k3⟩ := okKeep_of hk
  have hl := fixVs_rep hm _ hl hys
  have hl2 : RepL w (Bk fr (gcO keep os') (gk g keep) w) (gk g keep) (ys.map (ren2 (place keep))) vs := map_ren (fun x v h => ren2_rep (gc_sub keep) gk_place h) hl
  have hres : (results fn tmps).run P w = .ok (if h : vs.toArray.size = 1 then vs.toArray[0] else .tuple vs.toArray) w := by
    have e : results fn tmps = Bind.bind (fn.results.mapM (resRun tmps)) (fun vs => pure (if h : vs.size = 1 then vs[0] else .tuple vs)) := by
      unfold results
      refine congrArg (fun q => Bind.bind q _) ?_
      refine congrArg (fun q => Array.mapM q fn.results) ?_
      funext r
      cases r <;> rfl
    rw [e, Array.mapM_eq_mapM_toList]
    simp [hr]
  refine ⟨_, gk g keep, hres, gc_mem hm k1, fun j hj => by unfold gk; rw [k3 j hj], ?_, by simpa [gcO] using k2⟩
  split
  · rename_i y
    obtain ⟨v, vs', rfl, hv, hl'⟩ := hl2.uncons
    obtain rfl : vs' = [] := by have := hl'.1; cases vs' <;> simp at this ⊢
    simpa using hv
  · rename_i hne
    have : ¬ vs.toArray.size = 1 := by
      intro h1
      have h2 := hl.1
      match ys, hne with
      | [], _ => simp at h1 h2; omega
      | [y], hne => exact hne y rfl
      | _ :: _ :: _, _ => simp at h1 h2; omega
    rw [dif_neg this]
    exact .tup hl2.1 hl2.2
theorem look_num (t : Nat) : ∀ (args : List SV) (i : Nat), look t (numEnv i args) = if i ≤ t then (args[t - i]?).getD .dead else .dead := by
  intro args
  induction args with
  | nil => intro i; simp [numEnv, look]
  | cons x xs ih =>
    intro i
    simp only [numEnv, look]
    split
    · rename_i h
      have := Nat.eq_of_beq_eq_true h
      subst this
      simp
    · rename_i h
      have hne : t ≠ i := fun e => by subst e; rw [Nat.beq_refl] at h; cases h
      rw [ih (i + 1)]
      by_cases hi : i ≤ t
      · have h1 : i + 1 ≤ t := by omega
        rw [if_pos h1, if_pos hi]
        have : t - i = (t - (i + 1)) + 1 := by omega
        rw [this]; simp
      · rw [if_neg hi, if_neg (by omega)]
theorem slots_num {w : World} {B : Nat → Prop} {g : Nat → Gh} {args : List SV} {vals : List Value} (h : RepL w B g args vals) (n : Nat) : Slots w B g (numEnv 0 args) (vals.toArray ++ Array.replicate (n - vals.toArray.size) undef) := by
  intro t
  rw [look_num]
  simp only [Nat.zero_le, if_true, Nat.sub_zero]
  cases hx : args[t]? with
  | none => exact .dead
  | some x =>
    have hlt : t < vals.length := by rw [← h.1]; exact lt_of_getElem? hx
    have : (vals.toArray ++ Array.replicate (n - vals.toArray.size) undef).getD t undef = vals[t] := by
      rw [Array.getD_eq_getD_getElem?, Array.getElem?_append_left (by simpa using hlt)]
      simp [hlt]
    rw [this]
    exact h.2 t x _ hx (List.getElem?_eq_getElem hlt)
structure PrgOK (P : Program) (p : Prg) : Prop where
  tab : TabOk P p.T
  code : ∀ f fn, p.code f = some fn → P.funcs[f]? = some fn ∧ (fn.name == "runtime.NumGoroutine") = false ∧ (p.fi f).nt ≤ fn.ntmps
  prim : ∀ f q, p.prim f = some q → KOK1 P f q
  mix : P.follows .mixedOrders = true
theorem callF_ok {p : Prg} (hp : PrgOK P p) : ∀ n, KOK P (callF p n) := by
  intro n
  induction n with
  | zero => intro f args los los' r h; simp [callF] at h
  | succ n ih =>
    intro f args los los' r h
    simp only [callF] at h
    split at h
    · rename_i q hq
      exact hp.prim f q hq args los los' r h
    · split at h
      · cases h
      rename_i fn hfn
      split at h
      · cases h
      rename_i b hb
      obtain ⟨h1, h2, h3⟩ := hp.code f fn hfn
      refine ⟨⟨fn, b, h1, h2, hb⟩, fun A L g vals w hL hm ha => ?_⟩
      refine calls_of_wp h1 hb ?_
      let c : Cx := ⟨p.T, p.own, callF p n⟩
      have hinv : Inv ⟨w.heap.size, A, L, w⟩ g los.length (p.fi f).nt (numEnv 0 args) los { tmps := vals.toArray ++ Array.replicate (fn.ntmps - vals.toArray.size) undef, defers := [] } w :=
        ⟨g, hm, slots_num ha _, by simp; omega, rfl, Nat.le_refl _, fun _ _ _ => rfl⟩
      refine wp_mono (exec_sound (c := c) (ops_ok hp.tab ih) (draw_ok (ops_ok hp.tab ih) hp.mix) gc_ok b _ _ _ _ _ hinv h) ?_
      intro e a w' hq
      obtain ⟨env, os, ⟨g1, m, hs, ht, hd, hl, h0⟩, hk⟩ := hq
      have fin : retS p.T (p.pur f) los.length fn.results.toList env os = some (r, los') → a.defers = [] ∧ ∃ v, (results fn a.tmps).run P w' = .ok v w' ∧
          ∃ v' g', Ending.returned v = .returned v' ∧ Mem ⟨w.heap.size, A, L, w⟩ los' g' w' ∧ (∀ j, j < los.length → g j ≠ .no → g' j = g j) ∧ RepV w' (Bk ⟨w.heap.size, A, L, w⟩ los' g' w') g' r v' ∧ los.length ≤ los'.length := by
        intro hk
        obtain ⟨v, g', r1, r2, r3, r4, r5⟩ := ret_rep hp.tab m hs hk
        exact ⟨hd, v, r1, v, g', rfl, r2, fun j hj hn => by rw [r3 j hj, h0 j hj hn], r4, r5⟩
      cases e with
      | normal => exact fin hk
      | ret => exact fin hk
      | exit id => simp [kEnd] at hk
      | goto l => exact hk.elim
      | panic ch => exact hk.elim
      | outgrown => exact hk.elim
end Go.Proofs.Ytlnenahbffkbiaa

/- The evaluator S: the table of types is right, where a check by the kernel says so. -/
namespace Go.Proofs.Ytlnenahbffkbiaa
open Go
set_option linter.unusedVariables false
set_option linter.unusedSimpArgs false
variable {P : Program} {T : Tab}
def zkChk (v : Value) (z : ZK) : Bool :=
  match v, z with
  | .int k n, .int k' => decide (k = k') && decide (n = 0)
  | .bool false, .bool => true
  | .string ⟨⟨[]⟩⟩, .str => true
  | .slice none 0 0, .sl _ => true
  | .nilFunc, .fn => true
  | .pointer none, .ptr => true
  | _, _ => false
def zksChk : List Value → List ZK → Bool
  | [], [] => true
  | v :: vs, z :: zs => zkChk v z && zksChk vs zs
  | _, _ => false
theorem zkChk_ok {v : Value} {z : ZK} (h : zkChk v z = true) : v = z.val := by
  unfold zkChk at h
  split at h <;> first | rfl | (cases h; done) | skip
  simp only [Bool.and_eq_true, decide_eq_true_eq] at h
  obtain ⟨rfl, rfl⟩ := h
  rfl
theorem zksChk_ok : ∀ {vs : List Value} {zs : List ZK}, zksChk vs zs = true → vs = zs.map ZK.val
  | [], [], _ => rfl
  | v :: vs, z :: zs, h => by
    simp only [zksChk, Bool.and_eq_true] at h
    rw [zkChk_ok h.1, zksChk_ok h.2]; rfl
  | [], _ :: _, h => by cases h
  | _ :: _, [], h => by cases h
def isAggV (z : Value) : Bool :=
  match z with
  | .agg _ => true
  | _ => false
def aggShape (agg : Bool) (z : Value) : Bool := if agg = true then isAggV z else z.oneCell'
def tiChk (P : Program) (t : Nat) (i : TI) : Bool :=
  match P.info? t, P.underlying t with
  | some info, some d =>
    match info.zero with
    | some z => Nat.beq info.size i.size && Nat.beq info.bytes i.bytes && zksChk z.cells.toList i.zero && (aggDesc d == i.agg) && aggShape i.agg z && Nat.beq i.zero.length i.size
    | none => false
  | _, _ => false
theorem tiChk_ok {t : Nat} {i : TI} (h : tiChk P t i = true) : TiOk P t i := by
  unfold tiChk at h
  split at h
  · rename_i info d h1 h2
    split at h
    · rename_i z hz
      simp only [Bool.and_eq_true, Nat.beq_eq, beq_iff_eq] at h
      obtain ⟨⟨⟨⟨⟨a1, a2⟩, a3⟩, a4⟩, a5⟩, a6⟩ := h
      refine ⟨info, z, d, h1, a1, a2, hz, zksChk_ok a3, h2, a4, ⟨fun e => ?_, fun e => ?_⟩, a6⟩
      · rw [e] at a5
        simp only [aggShape, if_true] at a5
        cases z <;> first | exact ⟨_, rfl⟩ | cases a5
      · rw [e] at a5
        simpa [aggShape] using a5
    · cases h
  · cases h
def tiAll (P : Program) : Nat → List (Option TI) → Bool
  | _, [] => true
  | t, none :: l => tiAll P (t + 1) l
  | t, some i :: l => match tiChk P t i with | true => tiAll P (t + 1) l | false => false
theorem tiAll_ok : ∀ {l : List (Option TI)} {k : Nat}, tiAll P k l = true → ∀ t i, l[t]? = some (some i) → TiOk P (k + t) i
  | [], _, _, t, i, h => by simp at h
  | x :: l, k, h, t, i, ht => by
    cases t with
    | zero =>
      simp at ht; subst ht
      simp only [tiAll] at h
      split at h
      · rename_i hc; exact tiChk_ok hc
      · cases h
    | succ t =>
      have hl : tiAll P (k + 1) l = true := by
        cases x with
        | none => exact h
        | some j =>
          simp only [tiAll] at h
          split at h
          · exact h
          · cases h
      have := tiAll_ok hl t i (by simpa using ht)
      rw [show k + (t + 1) = k + 1 + t by omega]; exact this
def fieldsChk (P : Program) : List Field → List (Nat × Nat) → Bool
  | [], [] => true
  | f :: fs, (o, t) :: l => Nat.beq f.offset o && Nat.beq f.type t && (P.info? f.type).isSome && fieldsChk P fs l
  | _, _ => false
theorem fieldsChk_ok : ∀ {fs : List Field} {l : List (Nat × Nat)}, fieldsChk P fs l = true → fs.map (fun f => (f.offset, f.type)) = l ∧ ∀ f, f ∈ fs → (P.info? f.type).isSome = true
  | [], [], _ => ⟨rfl, fun f h => by cases h⟩
  | f :: fs, (o, t) :: l, h => by
    simp only [fieldsChk, Bool.and_eq_true, Nat.beq_eq] at h
    obtain ⟨⟨⟨a1, a2⟩, a3⟩, a4⟩ := h
    obtain ⟨b1, b2⟩ := fieldsChk_ok a4
    refine ⟨by simp [a1, a2, b1], fun g hg => ?_⟩
    rcases List.mem_cons.1 hg with rfl | hg
    · exact a3
    · exact b2 g hg
  | [], _ :: _, h => by cases h
  | _ :: _, [], h => by cases h
def intFields (P : Program) : Nat → List Field → Bool
  | _, [] => true
  | o, f :: fs => Nat.beq f.offset o && (f.name != "_") && (match P.underlying f.type with | some (.int _) => true | _ => false) && intFields P (o + 1) fs
def eqsChk (P : Program) (t : Nat) (fields : Array Field) : Bool :=
  !(P.eqGuardType P.depth t) && !(P.stoodInHeld t) && intFields P 0 fields.toList
def ukD (P : Program) (t : Nat) (u : UK) (d : TypeDesc) : Bool :=
  match u, d with
  | .str, .string => true
  | .bool, .bool => true
  | .int k, .int k' => decide (k' = k)
  | .slice e, .slice e' => Nat.beq e' e
  | .array n e, .array n' e' => Nat.beq n' n && Nat.beq e' e
  | .struct fs, .struct fields => fieldsChk P fields.toList fs
  | .eqs fs, .struct fields => fieldsChk P fields.toList fs && eqsChk P t fields
  | _, _ => false
def ukChk (P : Program) (t : Nat) (u : UK) : Bool :=
  match P.underlying t with
  | some d => ukD P t u d
  | none => false
def ukAll (P : Program) : Nat → List (Option UK) → Bool
  | _, [] => true
  | t, none :: l => ukAll P (t + 1) l
  | t, some u :: l => match ukChk P t u with | true => ukAll P (t + 1) l | false => false
theorem ukAll_ok : ∀ {l : List (Option UK)} {k : Nat}, ukAll P k l = true → ∀ t u, l[t]? = some (some u) → ukChk P (k + t) u = true
  | [], _, _, t, i, h => by simp at h
  | x :: l, k, h, t, i, ht => by
    cases t with
    | zero =>
      simp at ht; subst ht
      simp only [ukAll] at h
      split at h
      · rename_i hc; exact hc
      · cases h
    | succ t =>
      have hl : ukAll P (k + 1) l = true := by
        cases x with
        | none => exact h
        | some j =>
          simp only [ukAll] at h
          split at h
          · exact h
          · cases h
      have := ukAll_ok hl t i (by simpa using ht)
      rw [show k + (t + 1) = k + 1 + t by omega]; exact this
theorem eqFields_ints (d : Nat) {w : World} : ∀ (fs : List Field) (k : Nat) (xs ys : List Value) (r : Bool), intFields P k fs = true → fs.length + k = xs.length → xs.length = ys.length → intsEq (xs.drop k) (ys.drop k) = some r →
    (Op.eqFields (d + 1) xs.toArray ys.toArray fs).run P w = .ok r w := by
  intro fs
  induction fs with
  | nil =>
    intro k xs ys r h hl hlen he
    rw [List.drop_eq_nil_of_le (by simp at hl; omega), List.drop_eq_nil_of_le (by simp at hl; omega)] at he
    simp only [intsEq, Option.some.injEq] at he
    subst he
    simp [Op.eqFields]
  | cons f fs ih =>
    intro k xs ys r h hl hlen he
    simp only [intFields, Bool.and_eq_true, Nat.beq_eq, bne_iff_ne, ne_eq] at h
    obtain ⟨⟨⟨h1, h2⟩, h3⟩, h4⟩ := h
    simp at hl
    have hx : k < xs.length := by omega
    have hy : k < ys.length := by omega
    rw [List.drop_eq_getElem_cons hx, List.drop_eq_getElem_cons hy] at he
    unfold intsEq at he
    split at he
    · rename_i e1 e2; cases e1
    · rename_i ki a xs' ki' b ys' e1 e2
      obtain ⟨e1a, e1b⟩ := List.cons.inj e1
      obtain ⟨e2a, e2b⟩ := List.cons.inj e2
      split at he
      · rename_i hk
        split at he
        · rename_i r' hr'
          obtain rfl := Option.some.inj he
          rw [← e1b, ← e2b] at hr'
          have hrec := ih (k + 1) xs ys r' h4 (by omega) hlen hr'
          split at h3
          · rename_i kk hkk
            have p1 : ∀ (cs : List Value) (v : Value), cs[k]? = some v → (part f.type cs.toArray f.offset).run P w = .ok v w := by
              intro cs v hv
              have : (isAgg f.type).run P w = .ok false w := run_agg hkk w
              simp [part, this, h1, hv]
            have q1 := p1 xs _ (List.getElem?_eq_getElem hx)
            have q2 := p1 ys _ (List.getElem?_eq_getElem hy)
            rw [e1a] at q1
            rw [e2a] at q2
            subst hk
            simp only [Op.eqFields, h2, not_false_eq_true, if_true, ne_eq, Sem.run_bind, q1, q2, Result.andThen_ok, run_equalIn_int (w := w) d f.type ki kk a b hkk, Sem.run_ite]
            cases hab : (a == b)
            · simp
            · simp [hrec]
          · cases h3
        · cases he
      · cases he
    · cases he
def eqsAll : List (Option TI) → List (Option UK) → Bool
  | some i :: l, some (.eqs fs) :: us => Nat.beq fs.length i.size && eqsAll l us
  | _ :: l, _ :: us => eqsAll l us
  | _, _ => true
theorem eqsAll_ok : ∀ {l : List (Option TI)} {us : List (Option UK)}, eqsAll l us = true → ∀ (t : Nat) fs i, us[t]? = some (some (.eqs fs)) → l[t]? = some (some i) → fs.length = i.size
  | [], _, _, t, fs, i, _, h => by simp at h
  | _ :: _, [], _, t, fs, i, h, _ => by simp at h
  | x :: l, u :: us, h, t, fs, i, hu, hl => by
    cases t with
    | zero =>
      simp at hu hl
      subst hu; subst hl
      simp only [eqsAll, Bool.and_eq_true, Nat.beq_eq] at h
      exact h.1
    | succ t =>
      have h' : eqsAll l us = true := by
        unfold eqsAll at h
        split at h
        · rename_i e1 e2
          obtain ⟨-, rfl⟩ := List.cons.inj e1
          obtain ⟨-, rfl⟩ := List.cons.inj e2
          simp only [Bool.and_eq_true] at h; exact h.2
        · rename_i e1 e2
          obtain ⟨-, rfl⟩ := List.cons.inj e1
          obtain ⟨-, rfl⟩ := List.cons.inj e2
          exact h
        · rename_i h1 h2; exact absurd rfl (h2 _ _ _ _ rfl)
      exact eqsAll_ok h' t fs i (by simpa using hu) (by simpa using hl)
theorem tab_ok {tiL : List (Option TI)} {ukL : List (Option UK)} (h1 : tiAll P 0 tiL = true) (h2 : ukAll P 0 ukL = true) (h3 : eqsAll tiL ukL = true) : TabOk P { ti := fun t => (tiL[t]?).getD none, und := fun t => (ukL[t]?).getD none } := by
  have g1 : ∀ t i, (tiL[t]?).getD none = some i → TiOk P t i := fun t i h => by
    cases hx : tiL[t]? with
    | none => rw [hx] at h; cases h
    | some x => rw [hx] at h; simp at h; subst h; simpa using tiAll_ok h1 t i hx
  have g2 : ∀ t u, (ukL[t]?).getD none = some u → ukChk P t u = true := fun t u h => by
    cases hx : ukL[t]? with
    | none => rw [hx] at h; cases h
    | some x => rw [hx] at h; simp at h; subst h; simpa using ukAll_ok h2 t u hx
  have U : ∀ t u, (ukL[t]?).getD none = some u → ∃ d, P.underlying t = some d ∧ ukD P t u d = true := fun t u h => by
    have := g2 t u h
    unfold ukChk at this
    cases hu : P.underlying t with
    | none => rw [hu] at this; cases this
    | some d => rw [hu] at this; exact ⟨d, rfl, this⟩
  refine ⟨g1, fun t h => ?_, fun t h => ?_, fun t k h => ?_, fun t e h => ?_, fun t n e h => ?_, fun t u fs h hf => ?_, fun t fs i h hi => ?_⟩
  · obtain ⟨d, hd, hc⟩ := U t _ h
    cases d <;> first | exact hd | (cases hc; done)
  · obtain ⟨d, hd, hc⟩ := U t _ h
    cases d <;> first | exact hd | (cases hc; done)
  · obtain ⟨d, hd, hc⟩ := U t _ h
    cases d <;> first | (cases hc; done) | skip
    simp only [ukD, decide_eq_true_eq] at hc
    rw [hd, hc]
  · obtain ⟨d, hd, hc⟩ := U t _ h
    cases d <;> first | (cases hc; done) | skip
    simp only [ukD, Nat.beq_eq] at hc
    rw [hd, hc]
  · obtain ⟨d, hd, hc⟩ := U t _ h
    cases d <;> first | (cases hc; done) | skip
    simp only [ukD, Nat.beq_eq, Bool.and_eq_true] at hc
    rw [hd, hc.1, hc.2]
  · obtain ⟨d, hd, hc⟩ := U t _ h
    cases u <;> first | (cases hf; done) | skip
    · cases hf
      cases d <;> first | (cases hc; done) | skip
      obtain ⟨b1, b2⟩ := fieldsChk_ok hc
      exact ⟨_, hd, b1, b2⟩
    · cases hf
      cases d <;> first | (cases hc; done) | skip
      simp only [ukD, Bool.and_eq_true] at hc
      obtain ⟨b1, b2⟩ := fieldsChk_ok hc.1
      exact ⟨_, hd, b1, b2⟩
  · obtain ⟨d, hd, hc⟩ := U t _ h
    cases d <;> first | (cases hc; done) | skip
    rename_i fields
    simp only [ukD, eqsChk, Bool.and_eq_true, Bool.not_eq_true'] at hc
    obtain ⟨b1, b2⟩ := fieldsChk_ok hc.1
    refine ⟨hc.2.1.1, fun xs ys r w he hl => ?_⟩
    have hfo : P.fieldsOf t = fields := by unfold Program.fieldsOf; rw [hd]
    have hlen : ∀ (xs ys : List Value) (r : Bool), intsEq xs ys = some r → xs.length = ys.length := by
      intro xs
      induction xs with
      | nil => intro ys r h; cases ys <;> simp [intsEq] at h ⊢
      | cons x xs ih =>
        intro ys r h
        unfold intsEq at h
        split at h
        · rename_i e; cases e
        · rename_i e1
          obtain ⟨-, rfl⟩ := List.cons.inj e1
          split at h
          · split at h
            · rename_i hr; simp [ih _ _ hr]
            · cases h
          · cases h
        · cases h
    have hti := g1 t i hi
    obtain ⟨info, z, d', k1, k2, k3, k4, k5, k6, k7, k8, k9⟩ := hti.ok
    have hfl : fields.toList.length = i.size := by
      have e1 : fs.length = i.size := by
        refine eqsAll_ok h3 t fs i ?_ ?_
        · cases hx : ukL[t]? with
          | none => simp only [hx] at h; cases h
          | some x => simp only [hx] at h; simp at h; rw [h]
        · cases hx : tiL[t]? with
          | none => simp only [hx] at hi; cases hi
          | some x => simp only [hx] at hi; simp at hi; rw [hi]
      rw [← e1, ← b1, List.length_map]
    have := eqFields_ints (P := P) 9998 (w := w) fields.toList 0 xs ys r hc.2.2 (by rw [hl]; simpa using hfl) (hlen xs ys r he) (by simpa using he)
    have e := run_equalIn_agg (P := P) w 9999 t xs.toArray ys.toArray (by rw [hfo]; exact hd) hc.2.1.2
    rw [hfo] at e
    show (Op.equalIn 10000 t _ _).run P w = _
    rw [e]
    exact this
end Go.Proofs.Ytlnenahbffkbiaa

/- The evaluator S: what it gives from some amount of fuel on, the words for it. -/
namespace Go.Proofs.Ytlnenahbffkbiaa
open Go
set_option linter.unusedVariables false
set_option linter.unusedSimpArgs false
def Ex (A : Nat → Out) (x : SV) (os : List SO) : Prop := ∃ n0, ∀ n, n0 ≤ n → A n = some (x, os)
def Ev (A : Nat → Out) (Q : SV → List SO → Prop) : Prop := ∃ x os, Q x os ∧ Ex A x os
theorem ev_eq {A B : Nat → Out} {Q} (h : ∀ n, A n = B n) (h2 : Ev B Q) : Ev A Q := by
  obtain ⟨x, os, hq, n0, h0⟩ := h2
  exact ⟨x, os, hq, n0, fun n hn => (h n).trans (h0 n hn)⟩
theorem ev_loop {L : Nat → Nat → Out} {B : Nat → Nat → Out} {c : Nat} {Q} (h : ∀ n m, L n (m + 1) = B n m) (h2 : Ev (fun n => B n (n + 1 - (c + 1))) Q) : Ev (fun n => L n (n + 1 - c)) Q := by
  obtain ⟨x, os, hq, n0, h0⟩ := h2
  refine ⟨x, os, hq, n0 + c, fun n hn => ?_⟩
  have : n + 1 - c = (n + 1 - (c + 1)) + 1 := by omega
  show L n (n + 1 - c) = _
  rw [this, h]
  exact h0 n (by omega)
theorem ev_fun {A B : Nat → Out} {Q} (h : ∀ n, A (n + 1) = B n) (h2 : Ev B Q) : Ev A Q := by
  obtain ⟨x, os, hq, n0, h0⟩ := h2
  refine ⟨x, os, hq, n0 + 1, fun n hn => ?_⟩
  obtain ⟨n, rfl⟩ : ∃ m, n = m + 1 := ⟨n - 1, by omega⟩
  rw [h]
  exact h0 n (by omega)
def zipE : List Nat → List SV → Env
  | t :: ts, x :: xs => (t, x) :: zipE ts xs
  | _, _ => []
end Go.Proofs.Ytlnenahbffkbiaa

/- The evaluator S: what it gives from some amount of fuel on, and its steps, brought to normal form. -/
namespace Go.Proofs.Ytlnenahbffkbiaa
open Go
set_option linter.unusedVariables false
set_option linter.unusedSimpArgs false
def Is (x : SV) (os : List SO) : SV → List SO → Prop := fun y ps => y = x ∧ ps = os
theorem ev_is {A : Nat → Out} {x os} : Ev A (Is x os) ↔ Ex A x os := by
  constructor
  · rintro ⟨_, _, ⟨rfl, rfl⟩, h⟩; exact h
  · intro h; exact ⟨_, _, ⟨rfl, rfl⟩, h⟩
theorem Ev.mono {A : Nat → Out} {Q R : SV → List SO → Prop} (h : Ev A Q) (hi : ∀ x os, Q x os → R x os) : Ev A R := by
  obtain ⟨x, os, hq, he⟩ := h
  exact ⟨x, os, hi _ _ hq, he⟩
theorem ev_done {x os} {Q : SV → List SO → Prop} (h : Q x os) : Ev (fun _ => some (x, os)) Q := ⟨x, os, h, 0, fun _ _ => rfl⟩
def fN (n : Nat) (k : Nat → Out) : Out :=
  match Nat.beq n 0 with | true => k 0 | false => match Nat.beq n 1 with | true => k 1 | false => match Nat.beq n 2 with | true => k 2 | false => match Nat.beq n 3 with | true => k 3 | false => match Nat.beq n 4 with | true => k 4 | false => match Nat.beq n 5 with | true => k 5 | false => match Nat.beq n 6 with | true => k 6 | false => match Nat.beq n 7 with | true => k 7 | false => match Nat.beq n 8 with | true => k 8 | false => match Nat.beq n 9 with | true => k 9 | false => match Nat.beq n 10 with | true => k 10 | false => match Nat.beq n 11 with | true => k 11 | false => match Nat.beq n 12 with | true => k 12 | false => match Nat.beq n 13 with | true => k 13 | false => match Nat.beq n 14 with | true => k 14 | false => match Nat.beq n 15 with | true => k 15 | false => match Nat.beq n 16 with | true => k 16 | false => match Nat.beq n 17 with | true => k 17 | false => match Nat.beq n 18 with | true => k 18 | false => match Nat.beq n 19 with | true => k 19 | false => match Nat.beq n 20 with | true => k 20 | false => match Nat.beq n 21 with | true => k 21 | false => match Nat.beq n 22 with | true => k 22 | false => match Nat.beq n 23 with | true => k 23 | false => match Nat.beq n 24 with | true => k 24 | false => match Nat.beq n 25 with | true => k 25 | false => match Nat.beq n 26 with | true => k 26 | false => match Nat.beq n 27 with | true => k 27 | false => match Nat.beq n 28 with | true => k 28 | false => match Nat.beq n 29 with | true => k 29 | false => match Nat.beq n 30 with | true => k 30 | false => match Nat.beq n 31 with | true => k 31 | false => match Nat.beq n 32 with | true => k 32 | false => match Nat.beq n 33 with | true => k 33 | false => match Nat.beq n 34 with | true => k 34 | false => match Nat.beq n 35 with | true => k 35 | false => match Nat.beq n 36 with | true => k 36 | false => match Nat.beq n 37 with | true => k 37 | false => match Nat.beq n 38 with | true => k 38 | false => match Nat.beq n 39 with | true => k 39 | false => k n
theorem fN_eq (n k) : fN n k = k n := by
  unfold fN
  repeat' (split <;> first | (rename_i h; rw [Nat.eq_of_beq_eq_true h]) | skip)
  all_goals rfl
def fVal (x : Value) (k : Value → Out) : Out :=
  match x with
  | .int a n => match a with | .i64 => k (.int .i64 n) | .u8 => k (.int .u8 n) | a => k (.int a n)
  | .bool b => k (.bool b)
  | .string s => k (.string s)
  | x => k x
theorem fVal_eq (x k) : fVal x k = k x := by
  unfold fVal
  split
  · split <;> rfl
  · rfl
  · rfl
  · rfl
def fB (x : SV) (k : SV → Out) : Out :=
  match x with
  | .v (.bool b) => match b with | true => k (.v (.bool true)) | false => k (.v (.bool false))
  | x => k x
theorem fB_eq (x k) : fB x k = k x := by
  unfold fB
  split
  · split <;> rfl
  · rfl
def f0 (x : SV) (k : SV → Out) : Out :=
  match x with
  | .v x => fVal x fun x => k (.v x)
  | .undef => k .undef
  | .dead => k .dead
  | .sl sz l => fN sz fun sz => k (.sl sz l)
  | .osl j => fN j fun j => k (.osl j)
  | .vw j lo hi => fN j fun j => k (.vw j lo hi)
  | .ptr j o => fN j fun j => fN o fun o => k (.ptr j o)
  | .ap j i o => fN j fun j => fN o fun o => k (.ap j i o)
  | x => k x
theorem f0_eq (x k) : f0 x k = k x := by cases x <;> simp [f0, fN_eq, fVal_eq]
def fL0 : List SV → (List SV → Out) → Out
  | [], k => k []
  | x :: xs, k => f0 x fun x => fL0 xs fun xs => k (x :: xs)
theorem fL0_eq : ∀ (l k), fL0 l k = k l
  | [], _ => rfl
  | x :: xs, k => by simp [fL0, f0_eq, fL0_eq]
def f1 (x : SV) (k : SV → Out) : Out :=
  match x with
  | .fn f caps => fN f fun f => fL0 caps fun caps => k (.fn f caps)
  | x => f0 x k
theorem f1_eq (x k) : f1 x k = k x := by cases x <;> simp [f1, f0_eq, fN_eq, fL0_eq]
def fL1 : List SV → (List SV → Out) → Out
  | [], k => k []
  | x :: xs, k => f1 x fun x => fL1 xs fun xs => k (x :: xs)
theorem fL1_eq : ∀ (l k), fL1 l k = k l
  | [], _ => rfl
  | x :: xs, k => by simp [fL1, f1_eq, fL1_eq]
def f2 (x : SV) (k : SV → Out) : Out :=
  match x with
  | .ag l => fL1 l fun l => k (.ag l)
  | x => f1 x k
theorem f2_eq (x k) : f2 x k = k x := by cases x <;> simp [f2, f1_eq, fL1_eq]
def fL2 : List SV → (List SV → Out) → Out
  | [], k => k []
  | x :: xs, k => f2 x fun x => fL2 xs fun xs => k (x :: xs)
theorem fL2_eq : ∀ (l k), fL2 l k = k l
  | [], _ => rfl
  | x :: xs, k => by simp [fL2, f2_eq, fL2_eq]
def f3 (x : SV) (k : SV → Out) : Out :=
  match x with
  | .tup l => fL2 l fun l => k (.tup l)
  | .el x o => f2 x fun x => fN o fun o => k (.el x o)
  | x => f2 x k
theorem f3_eq (x k) : f3 x k = k x := by cases x <;> simp [f3, f2_eq, fL2_eq, fN_eq]
def fO (x : SO) (k : SO → Out) : Out :=
  match x with
  | .dead => k .dead
  | .box l => fL1 l fun l => k (.box l)
  | .arr b sz l => match b with | true => fN sz fun sz => k (.arr true sz l) | false => fN sz fun sz => k (.arr false sz l)
  | .frz sz l => fN sz fun sz => k (.frz sz l)
theorem fO_eq (x k) : fO x k = k x := by
  cases x with
  | arr b sz l => cases b <;> simp [fO, fN_eq]
  | _ => simp [fO, fL1_eq, fN_eq]
def fOs : List SO → (List SO → Out) → Out
  | [], k => k []
  | x :: xs, k => fO x fun x => fOs xs fun xs => k (x :: xs)
theorem fOs_eq : ∀ (l k), fOs l k = k l
  | [], _ => rfl
  | x :: xs, k => by simp [fOs, fO_eq, fOs_eq]
def nf (A : Out) : Out :=
  match A with
  | none => none
  | some (x, os) => f3 x fun x => fOs os fun os => some (x, os)
theorem nf_eq (A) : nf A = A := by
  unfold nf
  split
  · rfl
  · rw [f3_eq, fOs_eq]
def nfB (A : Out) : Out :=
  match A with
  | none => none
  | some (x, os) => fB x fun x => f3 x fun x => fOs os fun os => some (x, os)
theorem nfB_eq (A) : nfB A = A := by
  unfold nfB
  split
  · rfl
  · rw [fB_eq, f3_eq, fOs_eq]
def fNs : List Nat → (List Nat → Out) → Out
  | [], k => k []
  | x :: xs, k => fN x fun x => fNs xs fun xs => k (x :: xs)
theorem ev_bd {A : Out} {F : Nat → SV → List SO → Out} {Q x os} (h : nfB A = some (x, os)) (h2 : Ev (fun n => F n x os) Q) : Ev (fun n => bd A (F n)) Q := by
  rw [nfB_eq] at h
  subst h
  exact h2
theorem ev_bd0 {A : Out} {F : Nat → SV → List SO → Out} {Q x os} (h : nf A = some (x, os)) (h2 : Ev (fun n => F n x os) Q) : Ev (fun n => bd A (F n)) Q := by
  rw [nf_eq] at h
  subst h
  exact h2
theorem ev_bdB {A : Out} {F : Nat → SV → List SO → Out} {Q os} {b : Bool} (h : nf A = some (.v (.bool b), os)) (h1 : b = true → Ev (fun n => F n (.v (.bool true)) os) Q) (h2 : b = false → Ev (fun n => F n (.v (.bool false)) os) Q) : Ev (fun n => bd A (F n)) Q := by
  rw [nf_eq] at h
  subst h
  cases b
  · exact h2 rfl
  · exact h1 rfl
theorem ev_ret {A : Out} {Q : SV → List SO → Prop} {x os} (h : nf A = some (x, os)) (h2 : Q x os) : Ev (fun _ => A) Q := by
  rw [nf_eq] at h
  subst h
  exact ev_done h2
theorem ev_bdx {A : Out} {F : Nat → SV → List SO → Out} {Q x os} (h : A = some (x, os)) (h2 : Ev (fun n => F n x os) Q) : Ev (fun n => bd A (F n)) Q := by
  subst h
  exact h2
theorem ev_bdE {A : Nat → Out} {F : Nat → SV → List SO → Out} {Q Q1} (h : Ev A Q1) (h2 : ∀ x os, Q1 x os → Ev (fun n => F n x os) Q) : Ev (fun n => bd (A n) (F n)) Q := by
  obtain ⟨x, os, hq, n1, h1⟩ := h
  obtain ⟨y, ps, hq2, n2, h2⟩ := h2 x os hq
  refine ⟨y, ps, hq2, n1 + n2, fun n hn => ?_⟩
  show bd (A n) (F n) = _
  rw [h1 n (by omega)]
  exact h2 n (by omega)
theorem ev_bdX {A : Nat → Out} {F : Nat → SV → List SO → Out} {Q x os} (h : Ex A x os) (h2 : Ev (fun n => F n x os) Q) : Ev (fun n => bd (A n) (F n)) Q :=
  ev_bdE (ev_is.2 h) fun _ _ h => by obtain ⟨rfl, rfl⟩ := h; exact h2
theorem ev_dchk {b : Nat → Bool} {X : Nat → Out} {Q} (h : ∀ n, b n = true) (h2 : Ev X Q) : Ev (fun n => dchk (b n) (X n)) Q :=
  ev_eq (fun n => by show dchk (b n) (X n) = X n; rw [h n]; rfl) h2
theorem ev_pickB {c : Bool} {a b : SV} {os : List SO} {F : Nat → SV → List SO → Out} {Q} (h : c = true → Ev (fun n => F n a os) Q) (h2 : c = false → Ev (fun n => F n b os) Q) : Ev (fun n => bd (ret1 (pickS (.v (.bool c)) a b) os) (F n)) Q := by
  cases c
  · exact h2 rfl
  · exact h rfl
theorem ev_cond {c : Bool} {X Y : Nat → Out} {Q} (h : c = true → Ev X Q) (h2 : c = false → Ev Y Q) : Ev (fun n => condS (.v (.bool c)) (X n) (Y n)) Q := by
  cases c
  · exact h2 rfl
  · exact h rfl
theorem ev_ct {X Y : Nat → Out} {Q} (h2 : Ev X Q) : Ev (fun n => condS (.v (.bool true)) (X n) (Y n)) Q := h2
theorem ev_cf {X Y : Nat → Out} {Q} (h2 : Ev Y Q) : Ev (fun n => condS (.v (.bool false)) (X n) (Y n)) Q := h2
theorem ev_gtt {A : Nat → Out} {F : Nat → SV → List SO → Out} {os Q} (h2 : Ev (fun n => bd (A n) (F n)) Q) : Ev (fun n => bd (gd (.v (.bool true)) true (A n) os) (F n)) Q := h2
theorem ev_gff {A : Nat → Out} {F : Nat → SV → List SO → Out} {os Q} (h2 : Ev (fun n => bd (A n) (F n)) Q) : Ev (fun n => bd (gd (.v (.bool false)) false (A n) os) (F n)) Q := h2
theorem ev_gtf {A : Nat → Out} {F : Nat → SV → List SO → Out} {os Q} (h2 : Ev (fun n => F n .undef os) Q) : Ev (fun n => bd (gd (.v (.bool true)) false (A n) os) (F n)) Q := h2
theorem ev_gft {A : Nat → Out} {F : Nat → SV → List SO → Out} {os Q} (h2 : Ev (fun n => F n .undef os) Q) : Ev (fun n => bd (gd (.v (.bool false)) true (A n) os) (F n)) Q := h2
theorem ev_gu {b : Bool} {A : Nat → Out} {F : Nat → SV → List SO → Out} {os Q} (h2 : Ev (fun n => F n .undef os) Q) : Ev (fun n => bd (gd .undef b (A n) os) (F n)) Q := h2
theorem ev_gB {c want : Bool} {A : Nat → Out} {F : Nat → SV → List SO → Out} {os Q} (h : c = want → Ev (fun n => bd (A n) (F n)) Q) (h2 : c = !want → Ev (fun n => F n .undef os) Q) : Ev (fun n => bd (gd (.v (.bool c)) want (A n) os) (F n)) Q := by
  cases c <;> cases want <;> first | exact h rfl | exact h2 rfl
theorem up_ind {n : Nat} {G : Nat → Prop} (h : ∀ i, i ≤ n → (i < n → G (i + 1)) → G i) : ∀ i, i ≤ n → G i := by
  intro i hi
  obtain ⟨k, hk⟩ : ∃ k, k = n - i := ⟨_, rfl⟩
  induction k generalizing i with
  | zero => exact h i hi fun hlt => by omega
  | succ k ih => exact h i hi fun hlt => ih (i + 1) (by omega) (by omega)
theorem ev_gcB {nl : Nat} {xs : List SV} {os : List SO} {F : Nat → List SV → List SO → Out} {Q xs' os'} (h : nf (gcB nl xs os fun xs os => some (.tup xs, os)) = some (.tup xs', os')) (h2 : Ev (fun n => F n xs' os') Q) : Ev (fun n => gcB nl xs os (F n)) Q := by
  rw [nf_eq] at h
  unfold gcB at h ⊢
  cases hk : okKeep nl (reach os 200 (List.range nl ++ xs.flatMap ids3) []) with
  | none => rw [hk] at h; cases h
  | some keep =>
    rw [hk] at h
    simp only [Option.bind_some, Option.some.injEq, Prod.mk.injEq, SV.tup.injEq] at h ⊢
    obtain ⟨rfl, rfl⟩ := h
    exact h2
theorem ev_both {X Y : Nat → Out} {x os} {Q : SV → List SO → Prop} (hx : Ex X x os) (hy : Ex Y x os) (hq : Q x os) : Ev (fun n => both (X n) (Y n)) Q := by
  obtain ⟨n1, h1⟩ := hx
  obtain ⟨n2, h2⟩ := hy
  refine ⟨x, os, hq, n1 + n2, fun n hn => ?_⟩
  show both (X n) (Y n) = _
  rw [h1 n (by omega), h2 n (by omega)]
  unfold both
  rw [if_pos rfl]
abbrev iI (n : Int) : SV := .v (.int .i64 n)
abbrev bB (b : Bool) : SV := .v (.bool b)
theorem ev_bothQ {X Y : Nat → Out} {x os} {Q : SV → List SO → Prop} (hq : Q x os) (hx : Ev X (Is x os)) (hy : Ev Y (Is x os)) : Ev (fun n => both (X n) (Y n)) Q := ev_both (ev_is.1 hx) (ev_is.1 hy) hq
theorem ev_bothI {X Y : Nat → Out} {x os} (hx : Ev X (Is x os)) (hy : Ev Y (Is x os)) : Ev (fun n => both (X n) (Y n)) (Is x os) := ev_bothQ ⟨rfl, rfl⟩ hx hy
def preC (own : Nat → Bool) (f : Nat) (os : List SO) (args : List SV) (k : List Nat → List SV → List SO → Out) : Out :=
  match okKeep 0 (reach os 100 (lendAll own f args) []) with
  | none => none
  | some keep =>
  match argVs os keep args with
  | none => none
  | some as => if (gcO keep os).all SO.there = true then fNs keep fun keep => fL2 as fun as => fOs ((gcO keep os).map SO.lend) fun los => k keep as los else none
def preR (own : Nat → Bool) (f : Nat) (os : List SO) (args : List SV) : Option (List Nat × List SV × List SO) :=
  match okKeep 0 (reach os 100 (lendAll own f args) []) with
  | none => none
  | some keep =>
  match argVs os keep args with
  | none => none
  | some as => if (gcO keep os).all SO.there = true then some (keep, as, (gcO keep os).map SO.lend) else none
def pN (n : Nat) {α : Type} (k : Nat → α) : α :=
  match Nat.beq n 0 with | true => k 0 | false => match Nat.beq n 1 with | true => k 1 | false => match Nat.beq n 2 with | true => k 2 | false => match Nat.beq n 3 with | true => k 3 | false => match Nat.beq n 4 with | true => k 4 | false => match Nat.beq n 5 with | true => k 5 | false => match Nat.beq n 6 with | true => k 6 | false => match Nat.beq n 7 with | true => k 7 | false => match Nat.beq n 8 with | true => k 8 | false => match Nat.beq n 9 with | true => k 9 | false => match Nat.beq n 10 with | true => k 10 | false => match Nat.beq n 11 with | true => k 11 | false => match Nat.beq n 12 with | true => k 12 | false => match Nat.beq n 13 with | true => k 13 | false => match Nat.beq n 14 with | true => k 14 | false => match Nat.beq n 15 with | true => k 15 | false => match Nat.beq n 16 with | true => k 16 | false => match Nat.beq n 17 with | true => k 17 | false => match Nat.beq n 18 with | true => k 18 | false => match Nat.beq n 19 with | true => k 19 | false => match Nat.beq n 20 with | true => k 20 | false => match Nat.beq n 21 with | true => k 21 | false => match Nat.beq n 22 with | true => k 22 | false => match Nat.beq n 23 with | true => k 23 | false => match Nat.beq n 24 with | true => k 24 | false => match Nat.beq n 25 with | true => k 25 | false => match Nat.beq n 26 with | true => k 26 | false => match Nat.beq n 27 with | true => k 27 | false => match Nat.beq n 28 with | true => k 28 | false => match Nat.beq n 29 with | true => k 29 | false => match Nat.beq n 30 with | true => k 30 | false => match Nat.beq n 31 with | true => k 31 | false => match Nat.beq n 32 with | true => k 32 | false => match Nat.beq n 33 with | true => k 33 | false => match Nat.beq n 34 with | true => k 34 | false => match Nat.beq n 35 with | true => k 35 | false => match Nat.beq n 36 with | true => k 36 | false => match Nat.beq n 37 with | true => k 37 | false => match Nat.beq n 38 with | true => k 38 | false => match Nat.beq n 39 with | true => k 39 | false => k n
theorem pN_eq (n) {α : Type} (k : Nat → α) : pN n k = k n := by
  unfold pN
  repeat' (split <;> first | (rename_i h; rw [Nat.eq_of_beq_eq_true h]) | skip)
  all_goals rfl
def pNs {α : Type} : List Nat → (List Nat → α) → α
  | [], k => k []
  | x :: xs, k => pN x fun x => pNs xs fun xs => k (x :: xs)
theorem pNs_eq {α : Type} : ∀ (l) (k : List Nat → α), pNs l k = k l
  | [], _ => rfl
  | x :: xs, k => by simp [pNs, pN_eq, pNs_eq]
def keepC (own : Nat → Bool) (f : Nat) (os : List SO) (args : List SV) : Option (List Nat) :=
  match okKeep 0 (reach os 100 (lendAll own f args) []) with
  | none => none
  | some keep => pNs keep fun keep => some keep
def asC (keep : List Nat) (os : List SO) (args : List SV) : Out :=
  match argVs os keep args with
  | none => none
  | some as => if (gcO keep os).all SO.there = true then some (.tup as, (gcO keep os).map SO.lend) else none
def flagC (nest : Bool) (r : SV) (los : List SO) : Bool := nest || (hasSl3 r || los.any SO.hasSl)
def postC (b : Bool) (os : List SO) (args : List SV) (keep : List Nat) (r : SV) (los : List SO) : Out :=
  match (match b with | true => freeze (args.flatMap (snapIds keep)) os | false => some os) with
  | none => none
  | some os0 =>
    match giveBack (backName keep os.length) keep los os0 with
    | none => none
    | some os1 =>
      if (los.drop keep.length).all SO.fine = true then
        some (ren3 (backName keep os.length) r, os1 ++ (los.drop keep.length).map (fun o => (o.ren (backName keep os.length)).back (anyLent os keep)))
      else none
theorem callS_is {c : Cx} {os : List SO} {f : Nat} {args as : List SV} {keep : List Nat} {los los' : List SO} {r : SV} {b : Bool}
    (h1 : keepC c.own f os args = some keep) (h2 : nf (asC keep os args) = some (.tup as, los)) (h3 : c.K f as los = some (r, los')) (h4 : flagC (c.own (f + 1000000)) r los' = b) :
    callS c os f args = postC b os args keep r los' := by
  rw [nf_eq] at h2
  unfold keepC at h1
  unfold callS
  split at h1
  · cases h1
  · rename_i keep' hk
    rw [pNs_eq] at h1
    cases h1
    rw [hk]
    unfold asC at h2
    dsimp only
    split at h2
    · cases h2
    · rename_i as' ha
      rw [ha]
      dsimp only
      split at h2
      · rename_i hg
        cases h2
        rw [if_pos hg, h3]
        dsimp only
        unfold postC
        unfold flagC at h4
        subst h4
        cases (c.own (f + 1000000) || (hasSl3 r || los'.any SO.hasSl)) <;> rfl
      · cases h2
theorem ex_call {own : Nat → Bool} {T : Tab} {K : Nat → Nat → List SV → List SO → Out} {os : List SO} {f : Nat} {args as : List SV} {keep : List Nat} {los los' os' : List SO} {r x : SV} {b : Bool}
    (h1 : keepC own f os args = some keep) (h2 : nf (asC keep os args) = some (.tup as, los)) (h3 : Ex (fun n => K n f as los) r los') (h4 : flagC (own (f + 1000000)) r los' = b)
    (h5 : nf (postC b os args keep r los') = some (x, os')) : Ex (fun n => callS ⟨T, own, K n⟩ os f args) x os' := by
  obtain ⟨n0, h0⟩ := h3
  rw [nf_eq] at h5
  refine ⟨n0, fun n hn => ?_⟩
  show callS _ _ _ _ = _
  rw [callS_is (c := ⟨T, own, K n⟩) h1 h2 (h0 n hn) h4, h5]
section
variable {own : Nat → Bool} {T : Tab} {K : Nat → Nat → List SV → List SO → Out} {os : List SO} {f : Nat} {args as : List SV} {keep : List Nat} {los los' os' : List SO} {r x : SV} {F : Nat → SV → List SO → Out} {Q : SV → List SO → Prop}
theorem postC_any {b : Bool} (h : freeze (args.flatMap (snapIds keep)) os = some os) : postC b os args keep r los' = postC false os args keep r los' := by
  cases b
  · rfl
  · unfold postC; rw [h]
theorem ev_call (h3 : Ex (fun n => K n f as los) r los') (h1 : keepC own f os args = some keep) (h2 : nf (asC keep os args) = some (.tup as, los)) (h4 : freeze (args.flatMap (snapIds keep)) os = some os ∨ flagC (own (f + 1000000)) r los' = false)
    (h5 : nf (postC false os args keep r los') = some (x, os')) (h6 : Ev (fun n => F n x os') Q) : Ev (fun n => bd (callS ⟨T, own, K n⟩ os f args) (F n)) Q := by
  rcases h4 with h4 | h4
  · exact ev_bdX (ex_call h1 h2 h3 rfl (by rw [postC_any h4]; exact h5)) h6
  · exact ev_bdX (ex_call h1 h2 h3 h4 h5) h6
theorem ev_callF (h3 : Ex (fun n => K n f as los) r los') (h1 : keepC own f os args = some keep) (h2 : nf (asC keep os args) = some (.tup as, los)) (h4 : flagC (own (f + 1000000)) r los' = true)
    (h5 : nf (postC true os args keep r los') = some (x, os')) (h6 : Ev (fun n => F n x os') Q) : Ev (fun n => bd (callS ⟨T, own, K n⟩ os f args) (F n)) Q :=
  ev_bdX (ex_call h1 h2 h3 h4 h5) h6
theorem ev_callN {R : Int → Prop} (h3 : ∃ z, R z ∧ Ex (fun n => K n f as los) (iI z) los') (h1 : keepC own f os args = some keep) (h2 : nf (asC keep os args) = some (.tup as, los)) (h4 : freeze (args.flatMap (snapIds keep)) os = some os ∨ ∀ z, flagC (own (f + 1000000)) (iI z) los' = false)
    (h5 : ∀ z, nf (postC false os args keep (iI z) los') = some (iI z, os')) (h6 : ∀ z, R z → Ev (fun n => F n (iI z) os') Q) : Ev (fun n => bd (callS ⟨T, own, K n⟩ os f args) (F n)) Q := by
  obtain ⟨z, hz, he⟩ := h3
  exact ev_call he h1 h2 (h4.imp id fun h => h z) (h5 z) (h6 z hz)
theorem ev_callB {c : Bool} (h3 : Ex (fun n => K n f as los) (.v (.bool c)) los') (h1 : keepC own f os args = some keep) (h2 : nf (asC keep os args) = some (.tup as, los)) (h4 : freeze (args.flatMap (snapIds keep)) os = some os ∨ (own (f + 1000000) || los'.any SO.hasSl) = false)
    (h5 : nf (postC false os args keep (.v (.bool true)) los') = some (.v (.bool true), os')) (h5' : nf (postC false os args keep (.v (.bool false)) los') = some (.v (.bool false), os'))
    (h6 : c = true → Ev (fun n => F n (.v (.bool true)) os') Q) (h7 : c = false → Ev (fun n => F n (.v (.bool false)) os') Q) : Ev (fun n => bd (callS ⟨T, own, K n⟩ os f args) (F n)) Q := by
  have h8 : ∀ b, freeze (args.flatMap (snapIds keep)) os = some os ∨ flagC (own (f + 1000000)) (.v (.bool b)) los' = false := fun b => h4.imp id fun h => by
    rw [Bool.or_eq_false_iff] at h
    unfold flagC; rw [h.1, h.2]; rfl
  cases c
  · exact ev_call h3 h1 h2 (h8 _) h5' (h7 rfl)
  · exact ev_call h3 h1 h2 (h8 _) h5 (h6 rfl)
theorem ev_callD {c : Prop} [Decidable c] (h3 : Ex (fun n => K n f as los) (.v (.bool (decide c))) los') (h1 : keepC own f os args = some keep) (h2 : nf (asC keep os args) = some (.tup as, los)) (h4 : freeze (args.flatMap (snapIds keep)) os = some os ∨ (own (f + 1000000) || los'.any SO.hasSl) = false)
    (h5 : nf (postC false os args keep (.v (.bool true)) los') = some (.v (.bool true), os')) (h5' : nf (postC false os args keep (.v (.bool false)) los') = some (.v (.bool false), os'))
    (h6 : c → Ev (fun n => F n (.v (.bool true)) os') Q) (h7 : ¬ c → Ev (fun n => F n (.v (.bool false)) os') Q) : Ev (fun n => bd (callS ⟨T, own, K n⟩ os f args) (F n)) Q :=
  ev_callB h3 h1 h2 h4 h5 h5' (fun e => h6 (of_decide_eq_true e)) (fun e => h7 (of_decide_eq_false e))
end
theorem ev_callE {own : Nat → Bool} {T : Tab} {K : Nat → Nat → List SV → List SO → Out} {os : List SO} {f : Nat} {args as : List SV} {keep : List Nat} {los : List SO} {F : Nat → SV → List SO → Out} {Q Q1}
    (h3 : Ev (fun n => K n f as los) Q1) (h1 : keepC own f os args = some keep) (h2 : nf (asC keep os args) = some (.tup as, los)) (h6 : ∀ r los', Q1 r los' → Ev (fun n => bd (postC (flagC (own (f + 1000000)) r los') os args keep r los') (F n)) Q) : Ev (fun n => bd (callS ⟨T, own, K n⟩ os f args) (F n)) Q := by
  obtain ⟨r, los', hq, n1, h1'⟩ := h3
  obtain ⟨y, ps, hq2, n2, h2'⟩ := h6 r los' hq
  refine ⟨y, ps, hq2, n1 + n2, fun n hn => ?_⟩
  show bd (callS _ _ _ _) _ = _
  rw [callS_is (c := ⟨T, own, K n⟩) h1 h2 (h1' n (by omega)) rfl]
  exact h2' n (by omega)
def slSize (T : Tab) (t : Nat) : Option Nat :=
  match T.und t with
  | some (.slice e) => match T.ti e with | some q => some q.size | none => none
  | _ => none
theorem slSize_spec {T : Tab} {t sz : Nat} (h : slSize T t = some sz) : ∃ e q, T.und t = some (.slice e) ∧ T.ti e = some q ∧ q.size = sz := by
  unfold slSize at h
  split at h
  · rename_i e he
    split at h
    · rename_i q hq
      exact ⟨e, q, he, hq, Option.some.inj h⟩
    · cases h
  · cases h
def isInt (T : Tab) (t : Nat) (k : IntKind) : Bool :=
  match T.und t with
  | some (.int k') => decide (k' = k)
  | _ => false
theorem isInt_spec {T : Tab} {t : Nat} {k : IntKind} (h : isInt T t k = true) : T.und t = some (.int k) := by
  unfold isInt at h
  split at h
  · rename_i k' he; rw [he, of_decide_eq_true h]
  · cases h
theorem ev_post {nb : Bool} {os os' : List SO} {args : List SV} {keep : List Nat} {los' : List SO} {r x : SV} {F : Nat → SV → List SO → Out} {Q : SV → List SO → Prop} (h4 : freeze (args.flatMap (snapIds keep)) os = some os ∨ flagC nb r los' = false)
    (h5 : nf (postC false os args keep r los') = some (x, os')) (h6 : Ev (fun n => F n x os') Q) : Ev (fun n => bd (postC (flagC nb r los') os args keep r los') (F n)) Q := by
  rw [nf_eq] at h5
  rcases h4 with h4 | h4
  · rw [postC_any h4, h5]; exact h6
  · rw [h4, h5]; exact h6
theorem ev_postF {nb : Bool} {os os' : List SO} {args : List SV} {keep : List Nat} {los' : List SO} {r x : SV} {F : Nat → SV → List SO → Out} {Q : SV → List SO → Prop} (h4 : flagC nb r los' = true)
    (h5 : nf (postC true os args keep r los') = some (x, os')) (h6 : Ev (fun n => F n x os') Q) : Ev (fun n => bd (postC (flagC nb r los') os args keep r los') (F n)) Q := by
  rw [nf_eq] at h5
  rw [h4, h5]; exact h6
def ints (l : List Int) : List SV := l.map iI
theorem wrap64 {x : Int} (h1 : -9223372036854775808 ≤ x) (h2 : x ≤ 9223372036854775807) : IntKind.i64.wrap x = x := by
  have : IntKind.i64.wrap x = (x + 9223372036854775808) % 18446744073709551616 - 9223372036854775808 := by
    simp only [IntKind.wrap, IntKind.bits, IntKind.signed]
    have := Int.emod_nonneg x (b := 18446744073709551616) (by decide)
    have := Int.emod_lt_of_pos x (b := 18446744073709551616) (by decide)
    simp
    omega
  rw [this]; omega
theorem ev_add {T : Tab} {t : Nat} {a b : Int} {os : List SO} {F : Nat → SV → List SO → Out} {Q} (h : -9223372036854775808 ≤ a + b ∧ a + b ≤ 9223372036854775807) (h2 : Ev (fun n => F n (iI (a + b)) os) Q) :
    Ev (fun n => bd (ret1 (binS T .add t (.v (.int .i64 a)) (.v (.int .i64 b))) os) (F n)) Q := by
  refine ev_bdx (x := iI (a + b)) (os := os) ?_ h2
  simp [binS, intBin, ret1, wrap64 h.1 h.2]
theorem ev_sub {T : Tab} {t : Nat} {a b : Int} {os : List SO} {F : Nat → SV → List SO → Out} {Q} (h : -9223372036854775808 ≤ a - b ∧ a - b ≤ 9223372036854775807) (h2 : Ev (fun n => F n (iI (a - b)) os) Q) :
    Ev (fun n => bd (ret1 (binS T .sub t (.v (.int .i64 a)) (.v (.int .i64 b))) os) (F n)) Q := by
  refine ev_bdx (x := iI (a - b)) (os := os) ?_ h2
  simp [binS, intBin, ret1, wrap64 h.1 h.2]
theorem ev_lss {T : Tab} {t : Nat} {a b : Int} {k : IntKind} {os : List SO} {F : Nat → SV → List SO → Out} {Q} (h : a < b → Ev (fun n => F n (.v (.bool true)) os) Q) (h2 : ¬ (a < b) → Ev (fun n => F n (.v (.bool false)) os) Q) :
    Ev (fun n => bd (ret1 (binS T .lss t (.v (.int k a)) (.v (.int k b))) os) (F n)) Q := by
  by_cases e : a < b
  · refine ev_bdx (x := .v (.bool true)) (os := os) ?_ (h e)
    simp [binS, intBin, ret1]; omega
  · refine ev_bdx (x := .v (.bool false)) (os := os) ?_ (h2 e)
    simp [binS, intBin, ret1]; omega
theorem ev_leq {T : Tab} {t : Nat} {a b : Int} {k : IntKind} {os : List SO} {F : Nat → SV → List SO → Out} {Q} (h : a ≤ b → Ev (fun n => F n (.v (.bool true)) os) Q) (h2 : ¬ (a ≤ b) → Ev (fun n => F n (.v (.bool false)) os) Q) :
    Ev (fun n => bd (ret1 (binS T .leq t (.v (.int k a)) (.v (.int k b))) os) (F n)) Q := by
  by_cases e : a ≤ b
  · refine ev_bdx (x := .v (.bool true)) (os := os) ?_ (h e)
    simp [binS, intBin, ret1]; omega
  · refine ev_bdx (x := .v (.bool false)) (os := os) ?_ (h2 e)
    simp [binS, intBin, ret1]; omega
theorem ev_gtr {T : Tab} {t : Nat} {a b : Int} {k : IntKind} {os : List SO} {F : Nat → SV → List SO → Out} {Q} (h : b < a → Ev (fun n => F n (.v (.bool true)) os) Q) (h2 : ¬ (b < a) → Ev (fun n => F n (.v (.bool false)) os) Q) :
    Ev (fun n => bd (ret1 (binS T .gtr t (.v (.int k a)) (.v (.int k b))) os) (F n)) Q := by
  by_cases e : b < a
  · refine ev_bdx (x := .v (.bool true)) (os := os) ?_ (h e)
    simp [binS, intBin, ret1]; omega
  · refine ev_bdx (x := .v (.bool false)) (os := os) ?_ (h2 e)
    simp [binS, intBin, ret1]; omega
theorem ev_geq {T : Tab} {t : Nat} {a b : Int} {k : IntKind} {os : List SO} {F : Nat → SV → List SO → Out} {Q} (h : b ≤ a → Ev (fun n => F n (.v (.bool true)) os) Q) (h2 : ¬ (b ≤ a) → Ev (fun n => F n (.v (.bool false)) os) Q) :
    Ev (fun n => bd (ret1 (binS T .geq t (.v (.int k a)) (.v (.int k b))) os) (F n)) Q := by
  by_cases e : b ≤ a
  · refine ev_bdx (x := .v (.bool true)) (os := os) ?_ (h e)
    simp [binS, intBin, ret1]; omega
  · refine ev_bdx (x := .v (.bool false)) (os := os) ?_ (h2 e)
    simp [binS, intBin, ret1]; omega
theorem ev_eql {T : Tab} {t : Nat} {a b : Int} {k : IntKind} {os : List SO} {F : Nat → SV → List SO → Out} {Q} (h : a = b → Ev (fun n => F n (.v (.bool true)) os) Q) (h2 : ¬ (a = b) → Ev (fun n => F n (.v (.bool false)) os) Q) :
    Ev (fun n => bd (ret1 (binS T .eql t (.v (.int k a)) (.v (.int k b))) os) (F n)) Q := by
  by_cases e : a = b
  · refine ev_bdx (x := .v (.bool true)) (os := os) ?_ (h e)
    simp [binS, intBin, ret1]; omega
  · refine ev_bdx (x := .v (.bool false)) (os := os) ?_ (h2 e)
    simp [binS, intBin, ret1]; omega
theorem ev_neq {T : Tab} {t : Nat} {a b : Int} {k : IntKind} {os : List SO} {F : Nat → SV → List SO → Out} {Q} (h : a ≠ b → Ev (fun n => F n (.v (.bool true)) os) Q) (h2 : ¬ (a ≠ b) → Ev (fun n => F n (.v (.bool false)) os) Q) :
    Ev (fun n => bd (ret1 (binS T .neq t (.v (.int k a)) (.v (.int k b))) os) (F n)) Q := by
  by_cases e : a ≠ b
  · refine ev_bdx (x := .v (.bool true)) (os := os) ?_ (h e)
    simp [binS, intBin, ret1]; omega
  · refine ev_bdx (x := .v (.bool false)) (os := os) ?_ (h2 e)
    simp [binS, intBin, ret1]; omega
theorem ev_mul {T : Tab} {t : Nat} {a b : Int} {os : List SO} {F : Nat → SV → List SO → Out} {Q} (h : -9223372036854775808 ≤ a * b ∧ a * b ≤ 9223372036854775807) (h2 : Ev (fun n => F n (iI (a * b)) os) Q) :
    Ev (fun n => bd (ret1 (binS T .mul t (.v (.int .i64 a)) (.v (.int .i64 b))) os) (F n)) Q := by
  refine ev_bdx (x := iI (a * b)) (os := os) ?_ h2
  simp [binS, intBin, ret1, wrap64 h.1 h.2]
theorem ev_rem {T : Tab} {t : Nat} {a b : Int} {os : List SO} {F : Nat → SV → List SO → Out} {Q} (hb : 0 < b) (h : ∀ x, x = a.tmod b → (0 ≤ a → 0 ≤ x) → x < b → Ev (fun n => F n (iI x) os) Q) :
    Ev (fun n => bd (ret1 (binS T .rem t (.v (.int .i64 a)) (.v (.int .i64 b))) os) (F n)) Q := by
  refine ev_bdx (x := iI (a.tmod b)) (os := os) ?_ (h _ rfl (fun ha => Int.tmod_nonneg _ ha) (Int.tmod_lt_of_pos _ hb))
  simp [binS, intBin, ret1, show ¬ b = 0 by omega]
theorem ev_quo {T : Tab} {t : Nat} {a b : Int} {os : List SO} {F : Nat → SV → List SO → Out} {Q} (hb : 0 < b) (ha : 0 ≤ a ∧ a ≤ 9223372036854775807) (h : ∀ x, x = a / b → 0 ≤ x → x ≤ a → Ev (fun n => F n (iI x) os) Q) :
    Ev (fun n => bd (ret1 (binS T .quo t (.v (.int .i64 a)) (.v (.int .i64 b))) os) (F n)) Q := by
  have h0 : 0 ≤ a / b := Int.ediv_nonneg ha.1 (by omega)
  have h1 : a / b ≤ a := Int.ediv_le_self _ ha.1
  refine ev_bdx (x := iI (a / b)) (os := os) ?_ (h _ rfl h0 h1)
  simp [binS, intBin, ret1, show ¬ b = 0 by omega, Int.tdiv_eq_ediv_of_nonneg ha.1, wrap64 (x := a / b) (by omega) (by omega)]
theorem ev_xor {T : Tab} {t : Nat} {a b : Int} {os : List SO} {F : Nat → SV → List SO → Out} {Q} (ha : 0 ≤ a ∧ a < 4611686018427387904) (hb : 0 ≤ b ∧ b < 4611686018427387904) (h : ∀ x, 0 ≤ x → x < 4611686018427387904 → Ev (fun n => F n (iI x) os) Q) :
    Ev (fun n => bd (ret1 (binS T .xor t (.v (.int .i64 a)) (.v (.int .i64 b))) os) (F n)) Q := by
  have h1 : ((BitVec.ofInt 64 a ^^^ BitVec.ofInt 64 b).toNat) < 2 ^ 62 := by
    rw [BitVec.toNat_xor]
    refine Nat.xor_lt_two_pow ?_ ?_ <;> (rw [BitVec.toNat_ofInt]; omega)
  refine ev_bdx (x := iI (((BitVec.ofInt 64 a ^^^ BitVec.ofInt 64 b).toNat : Nat) : Int)) (os := os) ?_ (h _ (by omega) (by omega))
  have h2 : IntKind.i64.wrap (((BitVec.ofInt 64 a ^^^ BitVec.ofInt 64 b).toNat : Nat) : Int) = (((BitVec.ofInt 64 a ^^^ BitVec.ofInt 64 b).toNat : Nat) : Int) := by
    generalize (BitVec.ofInt 64 a ^^^ BitVec.ofInt 64 b).toNat = z at h1 ⊢
    exact wrap64 (by omega) (by omega)
  show some (SV.v (.int .i64 (IntKind.i64.wrap (((BitVec.ofInt 64 a ^^^ BitVec.ofInt 64 b).toNat : Nat) : Int))), os) = _
  rw [h2]
theorem ev_conv8 {T : Tab} {s d : Nat} {y : Int} {os : List SO} {F : Nat → SV → List SO → Out} {Q} (hs : isInt T s .u8 = true) (hd : isInt T d .i64 = true) (h : 0 ≤ y ∧ y < 256) (h2 : 0 ≤ y → y < 256 → Ev (fun n => F n (iI y) os) Q) :
    Ev (fun n => bd (convS T os s d (.v (.int .u8 y))) (F n)) Q := by
  refine ev_bdx (x := iI y) (os := os) ?_ (h2 h.1 h.2)
  simp [convS, isInt_spec hs, isInt_spec hd, wrap64 (x := y) (by omega) (by omega)]
theorem ev_conv64 {T : Tab} {s d : Nat} {y : Int} {os : List SO} {F : Nat → SV → List SO → Out} {Q} (hs : isInt T s .i64 = true) (hd : isInt T d .i64 = true) (h : -9223372036854775808 ≤ y ∧ y ≤ 9223372036854775807) (h2 : Ev (fun n => F n (iI y) os) Q) :
    Ev (fun n => bd (convS T os s d (.v (.int .i64 y))) (F n)) Q := by
  refine ev_bdx (x := iI y) (os := os) ?_ h2
  simp [convS, isInt_spec hs, isInt_spec hd, wrap64 (x := y) (by omega) (by omega)]
abbrev bI (x : Int) : SV := .v (.int .u8 x)
abbrev rd (b : List Int) (p : Int) : SO := .box [.sl 1 (b.map bI), iI p]
def nth {α : Type} [Inhabited α] (l : List α) (i : Nat) : α := l.getD i default
theorem get_nth {α : Type} [Inhabited α] {l : List α} {i : Nat} (h : i < l.length) : l[i]? = some (nth l i) := by
  simp [nth, List.getElem?_eq_getElem h]
theorem tn_sub1 (i : Nat) : ((i : Int) - 1).toNat = i - 1 := by omega
theorem tn_add1 (i : Nat) : ((i : Int) + 1).toNat = i + 1 := by omega
theorem ev_len {T : Tab} {t : Nat} {sz : Nat} {l : List SV} {os : List SO} {F : Nat → SV → List SO → Out} {Q} (hu : (slSize T t).isSome = true) (h2 : Ev (fun n => F n (iI (l.length : Int)) os) Q) :
    Ev (fun n => bd (lenO T t os (.sl sz l)) (F n)) Q := by
  obtain ⟨s, hs⟩ := Option.isSome_iff_exists.1 hu
  obtain ⟨e, q, hu, -⟩ := slSize_spec hs
  refine ev_bdx (x := iI (l.length : Int)) (os := os) ?_ h2
  simp [lenO, lenS, hu, elems]
theorem ev_lenm {α : Type} {T : Tab} {t : Nat} {sz : Nat} {f : α → SV} {l : List α} {os : List SO} {F : Nat → SV → List SO → Out} {Q} (hu : (slSize T t).isSome = true) (h2 : Ev (fun n => F n (iI (l.length : Int)) os) Q) :
    Ev (fun n => bd (lenO T t os (.sl sz (l.map f))) (F n)) Q := by
  refine ev_len hu ?_
  rw [List.length_map]; exact h2
theorem ev_leno {T : Tab} {t : Nat} {sz j : Nat} {b : Bool} {l : List SV} {os : List SO} {F : Nat → SV → List SO → Out} {Q} (hj : os[j]? = some (.arr b sz l)) (hu : (slSize T t).isSome = true) (h2 : Ev (fun n => F n (iI (l.length : Int)) os) Q) :
    Ev (fun n => bd (lenO T t os (.osl j)) (F n)) Q := by
  obtain ⟨s, hs⟩ := Option.isSome_iff_exists.1 hu
  obtain ⟨e, q, hu, -⟩ := slSize_spec hs
  refine ev_bdx (x := iI (l.length : Int)) (os := os) ?_ h2
  simp [lenO, lenS, hu, elems, hj]
theorem ev_lenom {α : Type} {T : Tab} {t : Nat} {sz j : Nat} {b : Bool} {f : α → SV} {l : List α} {os : List SO} {F : Nat → SV → List SO → Out} {Q} (hj : os[j]? = some (.arr b sz (l.map f))) (hu : (slSize T t).isSome = true) (h2 : Ev (fun n => F n (iI (l.length : Int)) os) Q) :
    Ev (fun n => bd (lenO T t os (.osl j)) (F n)) Q := by
  refine ev_leno hj hu ?_
  rw [List.length_map]; exact h2
theorem eI {T : Tab} {os : List SO} {t : Nat} {x y : SV} {F : Nat → SV → List SO → Out} {Q} (h : Ev (fun n => bd (ret1 (indexAddrS T os t x y) os) (F n)) Q) : Ev (fun n => bd (ret1 (indexAddrS T os t x y) os) (F n)) Q := h
theorem ev_idxo {T : Tab} {os : List SO} {t j sz : Nat} {b : Bool} {l : List SV} {i : Int} {F : Nat → SV → List SO → Out} {Q} (hj : os[j]? = some (.arr b sz l)) (hu : slSize T t = some sz) (h0 : 0 ≤ i ∧ i < (l.length : Int)) (h2 : Ev (fun n => F n (.ap j i.toNat 0) os) Q) :
    Ev (fun n => bd (ret1 (indexAddrS T os t (.osl j) (.v (.int .i64 i))) os) (F n)) Q := by
  obtain ⟨e, q, hu, hq, hs⟩ := slSize_spec hu
  refine ev_bdx (x := .ap j i.toNat 0) (os := os) ?_ h2
  simp [indexAddrS, hu, hq, hj, h0.1, h0.2, hs, ret1]
section
variable {T : Tab} {os : List SO} {F : Nat → SV → List SO → Out} {Q : SV → List SO → Prop}
theorem eG {v : SV} {w : Bool} {A : Nat → Out} (h : Ev (fun n => bd (gd v w (A n) os) (F n)) Q) : Ev (fun n => bd (gd v w (A n) os) (F n)) Q := h
theorem eB {op : BinOp} {t : Nat} {x y : SV} (h : Ev (fun n => bd (ret1 (binS T op t x y) os) (F n)) Q) : Ev (fun n => bd (ret1 (binS T op t x y) os) (F n)) Q := h
theorem eL {t : Nat} {x : SV} (h : Ev (fun n => bd (lenO T t os x) (F n)) Q) : Ev (fun n => bd (lenO T t os x) (F n)) Q := h
theorem eO {t : Nat} {x : SV} (h : Ev (fun n => bd (ret1 (loadS T os t x) os) (F n)) Q) : Ev (fun n => bd (ret1 (loadS T os t x) os) (F n)) Q := h
theorem eV {s t : Nat} {x : SV} (h : Ev (fun n => bd (convS T os s t x) (F n)) Q) : Ev (fun n => bd (convS T os s t x) (F n)) Q := h
theorem eC {c : Nat → Cx} {f : Nat} {as : List SV} (h : Ev (fun n => bd (callS (c n) os f as) (F n)) Q) : Ev (fun n => bd (callS (c n) os f as) (F n)) Q := h
theorem eK {v : SV} {X Y : Nat → Out} (h : Ev (fun n => condS v (X n) (Y n)) Q) : Ev (fun n => condS v (X n) (Y n)) Q := h
theorem eD {A : Nat → Out} (h : Ev (fun n => bd (A n) (F n)) Q) : Ev (fun n => bd (A n) (F n)) Q := h
theorem eH {nl : Nat} {xs : List SV} {F : Nat → List SV → List SO → Out} (h : Ev (fun n => gcB nl xs os (F n)) Q) : Ev (fun n => gcB nl xs os (F n)) Q := h
theorem ev_ldz {t j sz : Nat} {b : Bool} {l : List SV} {i : Nat} (hj : os[j]? = some (.arr b sz l)) (hu : isInt T t .i64 = true) (ht : (T.ti t).map (fun q => (q.size, q.agg)) = some (1, false)) (hl : ∀ x ∈ l, ∃ z, x = iI z) (hi : i < l.length)
    (h2 : ∀ z, Ev (fun n => F n (iI z) os) Q) : Ev (fun n => bd (ret1 (loadS T os t (.ap j i 0)) os) (F n)) Q := by
  obtain ⟨z, hz⟩ := hl _ (List.getElem_mem hi)
  refine ev_bdx (x := iI z) (os := os) ?_ (h2 z)
  obtain ⟨q, hq, he⟩ := Option.map_eq_some_iff.1 ht
  obtain ⟨e1, e2⟩ := Prod.mk.inj he
  simp [loadS, hq, placeCells, hj, List.getElem?_eq_getElem hi, hz, dcells, e1, e2, pack, ret1]
end
theorem eA {T : Tab} {os : List SO} {t t' : Nat} {s x : SV} {F : Nat → SV → List SO → Out} {Q} (h : Ev (fun n => bd (appendS T os t t' s x) (F n)) Q) : Ev (fun n => bd (appendS T os t t' s x) (F n)) Q := h
def slBytes (T : Tab) (t : Nat) : Option (Nat × Nat) :=
  match T.und t with
  | some (.slice e) => match T.ti e with | some q => some (q.size, q.bytes) | none => none
  | _ => none
theorem slBytes_spec {T : Tab} {t : Nat} {p : Nat × Nat} (h : slBytes T t = some p) : ∃ e q, T.und t = some (.slice e) ∧ T.ti e = some q ∧ q.size = p.1 ∧ q.bytes = p.2 := by
  unfold slBytes at h
  split at h
  · rename_i e he
    split at h
    · rename_i q hq
      cases h
      exact ⟨e, q, he, hq, rfl, rfl⟩
    · cases h
  · cases h
theorem ev_app {T : Tab} {os os' : List SO} {t j sz by_ : Nat} {b : Bool} {l r : List SV} {x y : SV} {F : Nat → SV → List SO → Out} {Q} (ht : slBytes T t = some (sz, by_)) (hj : os[j]? = some (.arr b sz l)) (hx : elems os x = some (sz, r)) (hb : Nat.blt 0 by_ = true)
    (hn : nf (some (.osl os.length, os.set j .dead ++ [.arr b sz (l ++ r)])) = some (y, os')) (hle : by_ * (l.length + r.length) ≤ 140737488355328) (h2 : Ev (fun n => F n y os') Q) :
    Ev (fun n => bd (appendS T os t t (.osl j) x) (F n)) Q := by
  obtain ⟨e, q, hu, hq, h3, h4⟩ := slBytes_spec ht
  dsimp only at h3 h4
  refine ev_bdx (x := .osl os.length) (os := os.set j .dead ++ [.arr b sz (l ++ r)]) ?_ ?_
  · simp only [Nat.blt_eq] at hb
    have : q.bytes * (l.length + r.length) ≤ 2 ^ 47 := by rw [h4]; exact hle
    simp only [appendS, hu, hq, hj, hx, h3]
    rw [if_pos ⟨trivial, trivial, this, by rw [h4]; exact hb⟩]
  · rw [nf_eq] at hn
    obtain ⟨rfl, rfl⟩ := Prod.mk.inj (Option.some.inj hn)
    exact h2
theorem ev_lenoc {T : Tab} {t : Nat} {sz j k : Nat} {b : Bool} {l : List SV} {os : List SO} {F : Nat → SV → List SO → Out} {Q} (hj : os[j]? = some (.arr b sz l)) (hu : (slSize T t).isSome = true) (hk : pN l.length some = some k) (h2 : Ev (fun n => F n (iI (k : Int)) os) Q) :
    Ev (fun n => bd (lenO T t os (.osl j)) (F n)) Q := by
  rw [pN_eq] at hk
  refine ev_leno hj hu ?_
  rw [Option.some.inj hk]; exact h2
theorem ev_lenc {T : Tab} {t : Nat} {sz k : Nat} {l : List SV} {os : List SO} {F : Nat → SV → List SO → Out} {Q} (hu : (slSize T t).isSome = true) (hk : pN l.length some = some k) (h2 : Ev (fun n => F n (iI (k : Int)) os) Q) :
    Ev (fun n => bd (lenO T t os (.sl sz l)) (F n)) Q := by
  rw [pN_eq] at hk
  refine ev_len hu ?_
  rw [Option.some.inj hk]; exact h2
theorem eq_of_nth {α : Type} [Inhabited α] {a b : List α} (hl : a.length = b.length) (h : ∀ i, i < a.length → nth a i = nth b i) : a = b := by
  refine List.ext_getElem hl fun i h1 h2 => ?_
  have := h i h1
  simpa [nth, List.getD_eq_getElem?_getD, List.getElem?_eq_getElem h1, List.getElem?_eq_getElem h2] using this
def isEqs (T : Tab) (t n : Nat) : Bool :=
  match T.und t, T.ti t with
  | some (.eqs _), some i => Nat.beq i.size n
  | _, _ => false
theorem isEqs_spec {T : Tab} {t n : Nat} (h : isEqs T t n = true) : ∃ fs q, T.und t = some (.eqs fs) ∧ T.ti t = some q ∧ q.size = n := by
  unfold isEqs at h
  split at h
  · rename_i fs i hu hi
    exact ⟨fs, i, hu, hi, Nat.eq_of_beq_eq_true h⟩
  · cases h
theorem ev_eql2 {T : Tab} {t : Nat} {a0 a1 b0 b1 : Int} {os : List SO} {F : Nat → SV → List SO → Out} {Q} (ht : isEqs T t 2 = true) (h : a0 = b0 ∧ a1 = b1 → Ev (fun n => F n (.v (.bool true)) os) Q) (h2 : ¬ (a0 = b0 ∧ a1 = b1) → Ev (fun n => F n (.v (.bool false)) os) Q) :
    Ev (fun n => bd (ret1 (binS T .eql t (.ag [iI a0, iI a1]) (.ag [iI b0, iI b1])) os) (F n)) Q := by
  obtain ⟨fs, q, hu, hq, hs⟩ := isEqs_spec ht
  by_cases e : a0 = b0 ∧ a1 = b1
  · refine ev_bdx (x := .v (.bool true)) (os := os) ?_ (h e)
    simp [binS, hu, hq, hs, sameInts, ret1, e]
  · refine ev_bdx (x := .v (.bool false)) (os := os) ?_ (h2 e)
    simp [binS, hu, hq, hs, sameInts, ret1, e]
    try omega
theorem ev_neq2 {T : Tab} {t : Nat} {a0 a1 b0 b1 : Int} {os : List SO} {F : Nat → SV → List SO → Out} {Q} (ht : isEqs T t 2 = true) (h : a0 = b0 ∧ a1 = b1 → Ev (fun n => F n (.v (.bool false)) os) Q) (h2 : ¬ (a0 = b0 ∧ a1 = b1) → Ev (fun n => F n (.v (.bool true)) os) Q) :
    Ev (fun n => bd (ret1 (binS T .neq t (.ag [iI a0, iI a1]) (.ag [iI b0, iI b1])) os) (F n)) Q := by
  obtain ⟨fs, q, hu, hq, hs⟩ := isEqs_spec ht
  by_cases e : a0 = b0 ∧ a1 = b1
  · refine ev_bdx (x := .v (.bool false)) (os := os) ?_ (h e)
    simp [binS, hu, hq, hs, sameInts, ret1, e]
  · refine ev_bdx (x := .v (.bool true)) (os := os) ?_ (h2 e)
    simp [binS, hu, hq, hs, sameInts, ret1, e]
    try omega
theorem ev_eql3 {T : Tab} {t : Nat} {a0 a1 a2 b0 b1 b2 : Int} {os : List SO} {F : Nat → SV → List SO → Out} {Q} (ht : isEqs T t 3 = true) (h : a0 = b0 ∧ a1 = b1 ∧ a2 = b2 → Ev (fun n => F n (.v (.bool true)) os) Q) (h2 : ¬ (a0 = b0 ∧ a1 = b1 ∧ a2 = b2) → Ev (fun n => F n (.v (.bool false)) os) Q) :
    Ev (fun n => bd (ret1 (binS T .eql t (.ag [iI a0, iI a1, iI a2]) (.ag [iI b0, iI b1, iI b2])) os) (F n)) Q := by
  obtain ⟨fs, q, hu, hq, hs⟩ := isEqs_spec ht
  by_cases e : a0 = b0 ∧ a1 = b1 ∧ a2 = b2
  · refine ev_bdx (x := .v (.bool true)) (os := os) ?_ (h e)
    simp [binS, hu, hq, hs, sameInts, ret1, e]
  · refine ev_bdx (x := .v (.bool false)) (os := os) ?_ (h2 e)
    simp [binS, hu, hq, hs, sameInts, ret1, e]
    try omega
theorem ev_neq3 {T : Tab} {t : Nat} {a0 a1 a2 b0 b1 b2 : Int} {os : List SO} {F : Nat → SV → List SO → Out} {Q} (ht : isEqs T t 3 = true) (h : a0 = b0 ∧ a1 = b1 ∧ a2 = b2 → Ev (fun n => F n (.v (.bool false)) os) Q) (h2 : ¬ (a0 = b0 ∧ a1 = b1 ∧ a2 = b2) → Ev (fun n => F n (.v (.bool true)) os) Q) :
    Ev (fun n => bd (ret1 (binS T .neq t (.ag [iI a0, iI a1, iI a2]) (.ag [iI b0, iI b1, iI b2])) os) (F n)) Q := by
  obtain ⟨fs, q, hu, hq, hs⟩ := isEqs_spec ht
  by_cases e : a0 = b0 ∧ a1 = b1 ∧ a2 = b2
  · refine ev_bdx (x := .v (.bool false)) (os := os) ?_ (h e)
    simp [binS, hu, hq, hs, sameInts, ret1, e]
  · refine ev_bdx (x := .v (.bool true)) (os := os) ?_ (h2 e)
    simp [binS, hu, hq, hs, sameInts, ret1, e]
    try omega
theorem take_nth {α : Type} [Inhabited α] {l : List α} {k : Nat} (h : k < l.length) : l.take (k + 1) = l.take k ++ [nth l k] := by
  rw [List.take_add_one, get_nth h]; rfl
theorem nth_mem {α : Type} [Inhabited α] {l : List α} {k : Nat} (h : k < l.length) : nth l k ∈ l := List.mem_of_getElem? (get_nth h)
theorem mem_nth {α : Type} [Inhabited α] {l : List α} {v : α} (h : v ∈ l) : ∃ k, k < l.length ∧ nth l k = v := by
  obtain ⟨k, hk, e⟩ := List.mem_iff_getElem.1 h
  exact ⟨k, hk, by have := get_nth hk; rw [List.getElem?_eq_getElem hk] at this; rw [← e]; exact (Option.some.inj this).symm⟩
abbrev sS (l : List UInt8) : SV := .v (.string ⟨l.toArray⟩)
theorem ev_slen {T : Tab} {t : Nat} {l : List UInt8} {os : List SO} {F : Nat → SV → List SO → Out} {Q} (hu : T.und t = some .str) (h2 : Ev (fun n => F n (iI (l.length : Int)) os) Q) : Ev (fun n => bd (lenO T t os (.v (.string ⟨l.toArray⟩))) (F n)) Q := by
  refine ev_bdx (x := iI (l.length : Int)) (os := os) ?_ h2
  simp [lenO, lenS, hu, ByteArray.size]
theorem eS {T : Tab} {os : List SO} {t : Nat} {x : SV} {lo hi : Option SV} {F : Nat → SV → List SO → Out} {Q} (h : Ev (fun n => bd (ret1 (sliceS T os t x lo hi) os) (F n)) Q) : Ev (fun n => bd (ret1 (sliceS T os t x lo hi) os) (F n)) Q := h
theorem ev_slh {α : Type} {T : Tab} {os : List SO} {t sz : Nat} {f : α → SV} {l : List α} {h : Int} {F : Nat → SV → List SO → Out} {Q} (hu : slSize T t = some sz) (h0 : 0 ≤ h ∧ h ≤ (l.length : Int)) (h2 : Ev (fun n => F n (.sl sz ((l.take h.toNat).map f)) os) Q) :
    Ev (fun n => bd (ret1 (sliceS T os t (.sl sz (l.map f)) none (some (.v (.int .i64 h)))) os) (F n)) Q := by
  obtain ⟨e, q, hu, hq, hs⟩ := slSize_spec hu
  refine ev_bdx (x := .sl sz ((l.take h.toNat).map f)) (os := os) ?_ h2
  simp [sliceS, hu, hq, boundS, h0.1, h0.2, hs, ret1, List.map_take]
theorem ev_sll {α : Type} {T : Tab} {os : List SO} {t sz : Nat} {f : α → SV} {l : List α} {h : Int} {F : Nat → SV → List SO → Out} {Q} (hu : slSize T t = some sz) (h0 : 0 ≤ h ∧ h ≤ (l.length : Int)) (h2 : Ev (fun n => F n (.sl sz ((l.drop h.toNat).map f)) os) Q) :
    Ev (fun n => bd (ret1 (sliceS T os t (.sl sz (l.map f)) (some (.v (.int .i64 h))) none) os) (F n)) Q := by
  obtain ⟨e, q, hu, hq, hs⟩ := slSize_spec hu
  refine ev_bdx (x := .sl sz ((l.drop h.toNat).map f)) (os := os) ?_ h2
  have h1 : h ≤ ((l.map f).length : Int) := by rw [List.length_map]; exact h0.2
  have e1 : (l.map f).take l.length = l.map f := by rw [← List.length_map (f := f), List.take_length]
  simp [sliceS, hu, hq, boundS, h0.1, h0.2, hs, ret1, List.map_drop, e1]
theorem ev_slvh {T : Tab} {os : List SO} {t sz j : Nat} {b : Bool} {l : List SV} {h : Int} {F : Nat → SV → List SO → Out} {Q} (hj : os[j]? = some (.arr b sz l)) (hu : slSize T t = some sz) (h0 : 0 ≤ h ∧ h ≤ (l.length : Int)) (h2 : Ev (fun n => F n (.vw j 0 h.toNat) os) Q) :
    Ev (fun n => bd (ret1 (sliceS T os t (.osl j) none (some (.v (.int .i64 h)))) os) (F n)) Q := by
  obtain ⟨e, q, hu, hq, hs⟩ := slSize_spec hu
  refine ev_bdx (x := .vw j 0 h.toNat) (os := os) ?_ h2
  simp [sliceS, hu, hq, hj, boundS, h0.1, h0.2, hs, ret1]
theorem ev_slvl {T : Tab} {os : List SO} {t sz j : Nat} {b : Bool} {l : List SV} {h : Int} {F : Nat → SV → List SO → Out} {Q} (hj : os[j]? = some (.arr b sz l)) (hu : slSize T t = some sz) (h0 : 0 ≤ h ∧ h ≤ (l.length : Int)) (h2 : Ev (fun n => F n (.vw j h.toNat l.length) os) Q) :
    Ev (fun n => bd (ret1 (sliceS T os t (.osl j) (some (.v (.int .i64 h))) none) os) (F n)) Q := by
  obtain ⟨e, q, hu, hq, hs⟩ := slSize_spec hu
  refine ev_bdx (x := .vw j h.toNat l.length) (os := os) ?_ h2
  simp [sliceS, hu, hq, hj, boundS, h0.1, h0.2, hs, ret1]
theorem all_true {n i : Nat} {P : Nat → Prop} [∀ j, Decidable (P j)] (h : ∀ j, j < i → P j) (hi : n ≤ i) : decide (∀ j, j < n → P j) = true :=
  decide_eq_true fun j hj => h j (by omega)
theorem all_false {n i : Nat} {P : Nat → Prop} [∀ j, Decidable (P j)] (hi : i < n) (h : ¬ P i) : decide (∀ j, j < n → P j) = false :=
  decide_eq_false fun hh => h (hh i hi)
theorem all_step {i : Nat} {P : Nat → Prop} (h : ∀ j, j < i → P j) (hp : P i) : ∀ j, j < i + 1 → P j := fun j hj => by
  by_cases e : j = i
  · subst e; exact hp
  · exact h j (by omega)
theorem ev_idx {α : Type} [Inhabited α] {T : Tab} {t : Nat} {enc : α → SV} {l : List α} {sz : Nat} {i : Int} {os : List SO} {F : Nat → SV → List SO → Out} {Q}
    (hu : slSize T t = some sz) (h0 : 0 ≤ i ∧ i < (l.length : Int)) (h2 : Ev (fun n => F n (.el (enc (nth l i.toNat)) 0) os) Q) :
    Ev (fun n => bd (ret1 (indexAddrS T os t (.sl sz (l.map enc)) (.v (.int .i64 i))) os) (F n)) Q := by
  obtain ⟨e, q, hu, hq, hs⟩ := slSize_spec hu
  refine ev_bdx (x := .el (enc (nth l i.toNat)) 0) (os := os) ?_ h2
  have hg : (l.map enc)[i.toNat]? = some (enc (nth l i.toNat)) := by
    rw [List.getElem?_map, get_nth (by omega)]; rfl
  simp [indexAddrS, hu, hq, hs, h0.1, elS, hg, ret1]
end Go.Proofs.Ytlnenahbffkbiaa

/- The evaluator S: from S's answer to what is asked of a law that takes bytes. -/
namespace Go.Proofs.Ytlnenahbffkbiaa
open Go Go.RowKit
set_option linter.unusedVariables false
set_option linter.unusedSimpArgs false
variable {P : Program}
def IsRow (k : IntKind) (w : World) (a : Option Addr) (len cap : Nat) (zs : List Int) : Prop :=
  (a = none ∧ len = 0 ∧ cap = 0 ∧ zs = []) ∨
  ∃ x, a = some x ∧ len ≤ cap ∧ cap ≤ maxLen ∧ zs.length = cap ∧ (∀ i, i < zs.length → w.cell? (x.add i) = some (.int k (zs.getD i 0))) ∧ ∀ n ∈ zs, (Lit.int k n).wf = true
theorem mem_none (w : World) (A L : Nat → Prop) : Mem ⟨w.heap.size, A, L, w⟩ [] G0 w where
  objs j o h := by simp at h
  fresh _ _ := rfl
  inj i j oi oj b h := by simp at h
  own b h := by obtain ⟨j, o, h, _⟩ := h; simp at h
  mine j sz l b h := by simp at h
  frame _ _ _ := rfl
  size := Nat.le_refl _
  out := SameOut.refl _
theorem flat_ints : ∀ (l : List Int), flatV (l.map fun x => Value.int .u8 x) = l.map fun x => Value.int .u8 x
  | [] => rfl
  | x :: l => by
    have := flat_ints l
    simp only [flatV, List.map_cons, List.flatMap_cons] at this ⊢
    rw [this]; rfl
theorem row_rep {w : World} {B : Nat → Prop} {g : Nat → Gh} {a : Option Addr} {len cap : Nat} {zs : List Int} (h : IsRow .u8 w a len cap zs) (hB : ∀ b, b < w.heap.size → B b) :
    RepV w B g (.sl 1 ((zs.take len).map bI)) (.slice a len cap) := by
  rcases h with ⟨rfl, rfl, rfl, rfl⟩ | ⟨x, rfl, h1, h2, h3, h4, h5⟩
  · exact .sl0
  · cases len with
    | zero => exact .sl0
    | succ len =>
      have h0 := h4 0 (by omega)
      have hsp : x.spot = none ∧ x.block < w.heap.size := by
        simp only [Addr.add, if_true, World.cell?] at h0
        split at h0
        · rename_i c t fz hc
          refine ⟨?_, ?_⟩
          · cases hs : x.spot with
            | none => rfl
            | some s => rw [hs] at h0; simp at h0
          · exact (Array.getElem?_eq_some_iff.1 hc).1
        · cases h0
      obtain ⟨b, o, sp⟩ := x
      obtain ⟨rfl, hb⟩ := hsp
      have hlen : ((zs.take (len + 1)).map bI).length = len + 1 := by simp; omega
      have key : RepV w B g (.sl 1 ((zs.take (len + 1)).map bI)) (.slice (some ⟨b, o, none⟩) ((zs.take (len + 1)).map bI).length cap) := by
        refine .sl (vs := (zs.take (len + 1)).map fun x => Value.int .u8 x) (by simp) (fun i x v hx hv => ?_) (fun v hv => ?_) ?_ (hB b hb) (by rw [hlen]; exact h1)
        · rw [List.getElem?_map] at hx hv
          obtain ⟨y, hy, rfl⟩ := Option.map_eq_some_iff.1 hx
          rw [hy] at hv
          obtain rfl := Option.some.inj hv
          exact .v rfl
        · obtain ⟨y, _, rfl⟩ := List.mem_map.1 hv
          exact ⟨rfl, fun c hc => by simp [Value.cells] at hc; subst hc; rfl⟩
        · rw [flat_ints]
          intro k v hk
          rw [List.getElem?_map] at hk
          obtain ⟨y, hy, rfl⟩ := Option.map_eq_some_iff.1 hk
          rw [List.getElem?_take] at hy
          split at hy
          · have hkl := lt_of_getElem? hy
            have := h4 k hkl
            rw [List.getD_eq_getElem?_getD, hy] at this
            rw [show (some y).getD 0 = y from rfl] at this
            rw [← this]
            congr 1
            simp only [Addr.add]
            split
            · rename_i e; subst e; rfl
            · rfl
          · cases hy
      rw [hlen] at key
      exact key
theorem law_bytes {p : Prg} (hp : PrgOK P p) {k n : Nat} {a : Option Addr} {len cap : Nat} {zs : List Int} {los : List SO} {w : World} (hrow : IsRow .u8 w a len cap zs)
    (h : callF p n k [.sl 1 ((zs.take len).map bI)] [] = some (.v (.bool true), los)) :
    Calls P k #[.slice a len cap] w fun e w' => e = .returned (.bool true) ∧ Below w.heap.size w w' := by
  obtain ⟨-, hc⟩ := callF_ok hp n k _ [] los _ h
  have hB : ∀ b, b < w.heap.size → Bk ⟨w.heap.size, fun _ => True, fun _ => False, w⟩ [] G0 w b := fun b hb => ⟨hb, fun _ => trivial, fun ⟨j, o, hj, _⟩ => by simp at hj⟩
  refine (hc (fun _ => True) (fun _ => False) G0 [.slice a len cap] w (fun b hb => by obtain ⟨j, o, hj, _⟩ := hb; simp at hj) (mem_none w _ _) (RepL.cons (row_rep hrow hB) RepL.nil)).mono ?_
  rintro e w' ⟨v, g', rfl, m, -, hv, -⟩
  obtain rfl := v_rep hv
  exact ⟨rfl, m.out.1, m.out.2.1, m.out.2.2, m.size, fun b hb => m.frame b hb (fun h => h)⟩
theorem law_bytes2 {p : Prg} (hp : PrgOK P p) {k n : Nat} {a : Option Addr} {len cap : Nat} {zs : List Int} {a' : Option Addr} {len' cap' : Nat} {zs' : List Int} {los : List SO} {w : World} (hrow : IsRow .u8 w a len cap zs) (hrow' : IsRow .u8 w a' len' cap' zs')
    (h : callF p n k [.sl 1 ((zs.take len).map bI), .sl 1 ((zs'.take len').map bI)] [] = some (.v (.bool true), los)) :
    Calls P k #[.slice a len cap, .slice a' len' cap'] w fun e w' => e = .returned (.bool true) ∧ Below w.heap.size w w' := by
  obtain ⟨-, hc⟩ := callF_ok hp n k _ [] los _ h
  have hB : ∀ b, b < w.heap.size → Bk ⟨w.heap.size, fun _ => True, fun _ => False, w⟩ [] G0 w b := fun b hb => ⟨hb, fun _ => trivial, fun ⟨j, o, hj, _⟩ => by simp at hj⟩
  refine (hc (fun _ => True) (fun _ => False) G0 [.slice a len cap, .slice a' len' cap'] w (fun b hb => by obtain ⟨j, o, hj, _⟩ := hb; simp at hj) (mem_none w _ _) (RepL.cons (row_rep hrow hB) (RepL.cons (row_rep hrow' hB) RepL.nil))).mono ?_
  rintro e w' ⟨v, g', rfl, m, -, hv, -⟩
  obtain rfl := v_rep hv
  exact ⟨rfl, m.out.1, m.out.2.1, m.out.2.2, m.size, fun b hb => m.frame b hb (fun h => h)⟩
section
open Go.ChangeShapes Go.WideShapes
theorem sized_ints {H : Type} {enc : TypeId × Value → H} {P : Program} {W : World} {base : Nat} {spare : Nat → Bool} {held : Bool} {t e : TypeId} {k : IntKind} {a : Option Addr} {len cap : Nat} {d : DataW H} {ps : List MemPlace} {ts : List TypeId} {ds : List (DataW H)} {j : Nat}
    (hsz : (DataW.weightsEach P ts ds).all (· ≤ reachBytes) = true) (ht : ts[j]? = some t) (hd : ds[j]? = some d) (hu : P.underlying t = some (.slice e)) (he : P.underlying e = some (.int k)) (hc : P.cellsOf e = 1) {B : Nat} (hB : P.bytesOf e = B)
    (h : DataW.Trod enc P W base spare held t (.slice a len cap) d ps) : len * B ≤ 140737488351232 := by
  obtain ⟨fuel, hf⟩ := h
  rcases open_ints hu he hc hf with ⟨hcs, _⟩ | ⟨x, l, c, zs, hcs, _, hl, _, hz, hx, _, _⟩
  · simp [Value.cells] at hcs
    obtain ⟨rfl, rfl, rfl⟩ := hcs
    simp
  · simp [Value.cells] at hcs
    obtain ⟨rfl, rfl, rfl⟩ := hcs
    obtain ⟨hx, _⟩ := Prod.mk.inj hx
    subst hx
    have z := sized_slice hsz ht hd hu
    rw [hB] at z
    have hl2 : len ≤ zs.length := by
      rw [hz]
      split
      · exact hl
      · exact Nat.le_refl _
    have h1 : (lits (H := H) k (zs.take len)).length + (lits (H := H) k (zs.drop len)).length = zs.length := by
      simp [lits]
      omega
    rw [h1] at z
    exact Nat.le_trans (Nat.mul_le_mul_right _ hl2) z
end
theorem bytes_of {l : List Int} (h : ∀ x ∈ l, (Lit.int .u8 x).wf = true) (i : Nat) : 0 ≤ nth l i ∧ nth l i < 256 := by
  by_cases hi : i < l.length
  · have hm : nth l i ∈ l := List.mem_of_getElem? (get_nth hi)
    have := h _ hm
    simp [Lit.wf, IntKind.min, IntKind.max, IntKind.bits, IntKind.signed] at this
    omega
  · have : nth l i = 0 := by
      unfold nth
      rw [List.getD_eq_getElem?_getD, List.getElem?_eq_none (by omega)]; rfl
    omega
end Go.Proofs.Ytlnenahbffkbiaa
