/- The evaluator S: functions are sound. -/
import Derived.Test.YtjfegdlgepbjoaaSy
namespace Go.Proofs.Ytjfegdlgepbjoaa
open Go
set_option linter.unusedVariables false
set_option linter.unusedSimpArgs false
variable {P : Program} {T : Tab}

theorem loadVar_rep (hT : TabOk P T) {fr : Fr} {os : List SO} {g : Nat → Gh} {w : World} (hm : Mem fr os g w) {t : Nat} {p x : SV} {pv : Value}
    (hp : RepV w (Bk fr os g w) g p pv) (h : loadS T os t p = some x) : ∃ a v, pv = .pointer (some a) ∧ (loadVar t a).run P w = .ok v w ∧ RepV w (Bk fr os g w) g x v := by
  obtain ⟨v, hr, hv⟩ := load_rep hT hm hp h
  unfold loadS at h
  split at h
  · split at h
    · rename_i l hl
      obtain ⟨b, o, vs, rfl, -, -⟩ := place_rep hm hp hl
      exact ⟨_, v, rfl, by simpa [Instr.loadAt, Instr.sureAddr] using hr, hv⟩
    · cases h
  · cases h

def resRun (tmps : Array Value) : ResultVar → Sem Value := fun
  | .tmp t => pure (tmps.getD t undef)
  | .cell a t => do loadVar t (← asAddr (tmps.getD a undef))

theorem resCells_rep (hT : TabOk P T) {fr : Fr} {os : List SO} {g : Nat → Gh} {w : World} (hm : Mem fr os g w) {env : Env} {tmps : Array Value} (hs : Slots w (Bk fr os g w) g env tmps) : ∀ (rs : List ResultVar) {xs : List SV},
    resCells T env os rs = some xs → ∃ vs, (rs.mapM (resRun tmps)).run P w = .ok vs w ∧ RepL w (Bk fr os g w) g xs vs := by
  intro rs
  induction rs with
  | nil =>
    intro xs h
    simp only [resCells, Option.some.injEq] at h
    subst h
    exact ⟨[], by simp, RepL.nil⟩
  | cons r rs ih =>
    intro xs h
    simp only [resCells, resC1] at h
    split at h
    · rename_i x xs' hx hxs
      obtain rfl := Option.some.inj h
      obtain ⟨vs, hr, hl⟩ := ih hxs
      have : ∃ v, (resRun tmps r).run P w = .ok v w ∧ RepV w (Bk fr os g w) g x v := by
        cases r with
        | tmp t =>
          simp only [resCell, Option.some.injEq] at hx
          subst hx
          exact ⟨_, by simp [resRun], hs t⟩
        | cell a t =>
          obtain ⟨ad, v, e, h1, h2⟩ := loadVar_rep hT hm (hs a) hx
          exact ⟨v, by simp [resRun, e, asAddr, h1], h2⟩
      obtain ⟨v, h1, h2⟩ := this
      exact ⟨v :: vs, by simp [List.mapM_cons, h1, hr], RepL.cons h2 hl⟩
    · cases h

theorem fixCell_rep {fr : Fr} {os : List SO} {g : Nat → Gh} {w : World} (hm : Mem fr os g w) {x y : SV} {v : Value} (hx : RepV w (Bk fr os g w) g x v) (h : fixCell os x = some y) : RepV w (Bk fr os g w) g y v := by
  unfold fixCell at h
  split at h
  · cases h; exact hx
  · cases h; exact hx
  · cases h; exact hx
  · cases h; exact hx
  · rename_i j
    split at h
    · cases h; exact hx
    · rename_i sz l hj
      cases h
      rcases hm.objs _ _ hj with ⟨rfl, hg⟩ | ⟨b, cap, vs, hg, h1, h2, h3, h4, h5⟩
      · cases hx with
        | osl0 h0 => exact .sl0
        | osl h0 => rw [hg] at h0; cases h0
      · cases hx with
        | osl0 h0 => rw [hg] at h0; cases h0
        | osl h0 =>
          rw [hg] at h0
          cases h0
          by_cases hl : l = []
          · subst hl; exact .sl0
          · exact .sl h3.1 h3.2 h4 (by simpa using h5) h2 h1
    · cases h
  · cases h

theorem fixCells_rep {fr : Fr} {os : List SO} {g : Nat → Gh} {w : World} (hm : Mem fr os g w) : ∀ (xs : List SV) {ys : List SV} {vs : List Value},
    RepL w (Bk fr os g w) g xs vs → fixCells os xs = some ys → RepL w (Bk fr os g w) g ys vs := by
  intro xs
  induction xs with
  | nil => intro ys vs hl h; simp only [fixCells, Option.some.injEq] at h; subst h; exact hl
  | cons x xs ih =>
    intro ys vs hl h
    obtain ⟨v, vs', rfl, hv, hl'⟩ := hl.uncons
    simp only [fixCells] at h
    split at h
    · rename_i hy hys
      cases h
      exact RepL.cons (fixCell_rep hm hv hy) (ih hl' hys)
    · cases h

theorem fixV_rep {fr : Fr} {os : List SO} {g : Nat → Gh} {w : World} (hm : Mem fr os g w) {x y : SV} {v : Value} (hx : RepV w (Bk fr os g w) g x v) (h : fixV os x = some y) : RepV w (Bk fr os g w) g y v := by
  unfold fixV at h
  split at h
  · split at h
    · rename_i hys
      cases h
      cases hx with
      | ag h1 h2 h3 =>
        have := fixCells_rep hm _ ⟨h1, h2⟩ hys
        exact .ag this.1 this.2 h3
    · cases h
  · exact fixCell_rep hm hx h

theorem fixVs_rep {fr : Fr} {os : List SO} {g : Nat → Gh} {w : World} (hm : Mem fr os g w) : ∀ (xs : List SV) {ys : List SV} {vs : List Value},
    RepL w (Bk fr os g w) g xs vs → fixVs os xs = some ys → RepL w (Bk fr os g w) g ys vs := by
  intro xs
  induction xs with
  | nil => intro ys vs hl h; simp only [fixVs, Option.some.injEq] at h; subst h; exact hl
  | cons x xs ih =>
    intro ys vs hl h
    obtain ⟨v, vs', rfl, hv, hl'⟩ := hl.uncons
    simp only [fixVs] at h
    split at h
    · rename_i hy hys
      cases h
      exact RepL.cons (fixV_rep hm hv hy) (ih hl' hys)
    · cases h

/-- What a function's code leaves. -/
theorem ret_rep (hT : TabOk P T) {fr : Fr} {os os1 : List SO} {g : Nat → Gh} {w : World} (hm : Mem fr os g w) {env : Env} {tmps : Array Value} (hs : Slots w (Bk fr os g w) g env tmps) {nl : Nat} {fn : Func} {r : SV}
    (h : retS T nl fn.results.toList env os = some (r, os1)) :
    ∃ v g', (results fn tmps).run P w = .ok v w ∧ Mem fr os1 g' w ∧ (∀ j, j < nl → g' j = g j) ∧ RepV w (Bk fr os1 g' w) g' r v ∧ nl ≤ os1.length := by
  unfold retS retV at h
  split at h
  · cases h
  rename_i xs hxs
  split at h
  · cases h
  rename_i ys hys
  split at h
  · cases h
  rename_i keep hk
  split at h
  rotate_left
  · cases h
  cases h
  obtain ⟨k1, k2, k3⟩ := okKeep_of hk
  obtain ⟨vs, hr, hl⟩ := resCells_rep hT hm hs _ hxs
  have hl := fixVs_rep hm _ hl hys
  have hl2 : RepL w (Bk fr (gcO keep os) (gk g keep) w) (gk g keep) (ys.map (ren2 (place keep))) vs := map_ren (fun x v h => ren2_rep (gc_sub keep) gk_place h) hl
  have hres : (results fn tmps).run P w = .ok (if h : vs.toArray.size = 1 then vs.toArray[0] else .tuple vs.toArray) w := by
    have e : results fn tmps = Bind.bind (fn.results.mapM (resRun tmps)) (fun vs => pure (if h : vs.size = 1 then vs[0] else .tuple vs)) := by
      unfold results
      refine congrArg (fun q => Bind.bind q _) ?_
      refine congrArg (fun q => Array.mapM q fn.results) ?_
      funext r
      cases r <;> rfl
    rw [e, Array.mapM_eq_mapM_toList]
    simp [hr]
  refine ⟨_, gk g keep, hres, gc_mem hm k1, fun j hj => by unfold gk; rw [k3 j hj], ?_, by simpa [gcO] using k2⟩
  split
  · rename_i y
    obtain ⟨v, vs', rfl, hv, hl'⟩ := hl2.uncons
    obtain rfl : vs' = [] := by have := hl'.1; cases vs' <;> simp at this ⊢
    simpa using hv
  · rename_i hne
    have : ¬ vs.toArray.size = 1 := by
      intro h1
      have h2 := hl.1
      match ys, hne with
      | [], _ => simp at h1 h2; omega
      | [y], hne => exact hne y rfl
      | _ :: _ :: _, _ => simp at h1 h2; omega
    rw [dif_neg this]
    exact .tup hl2.1 hl2.2

theorem look_num (t : Nat) : ∀ (args : List SV) (i : Nat), look t (numEnv i args) = if i ≤ t then (args[t - i]?).getD .dead else .dead := by
  intro args
  induction args with
  | nil => intro i; simp [numEnv, look]
  | cons x xs ih =>
    intro i
    simp only [numEnv, look]
    split
    · rename_i h
      have := Nat.eq_of_beq_eq_true h
      subst this
      simp
    · rename_i h
      have hne : t ≠ i := fun e => by subst e; rw [Nat.beq_refl] at h; cases h
      rw [ih (i + 1)]
      by_cases hi : i ≤ t
      · have h1 : i + 1 ≤ t := by omega
        rw [if_pos h1, if_pos hi]
        have : t - i = (t - (i + 1)) + 1 := by omega
        rw [this]; simp
      · rw [if_neg hi, if_neg (by omega)]

theorem slots_num {w : World} {B : Nat → Prop} {g : Nat → Gh} {args : List SV} {vals : List Value} (h : RepL w B g args vals) (n : Nat) : Slots w B g (numEnv 0 args) (vals.toArray ++ Array.replicate (n - vals.toArray.size) undef) := by
  intro t
  rw [look_num]
  simp only [Nat.zero_le, if_true, Nat.sub_zero]
  cases hx : args[t]? with
  | none => exact .dead
  | some x =>
    have hlt : t < vals.length := by rw [← h.1]; exact lt_of_getElem? hx
    have : (vals.toArray ++ Array.replicate (n - vals.toArray.size) undef).getD t undef = vals[t] := by
      rw [Array.getD_eq_getD_getElem?, Array.getElem?_append_left (by simpa using hlt)]
      simp [hlt]
    rw [this]
    exact h.2 t x _ hx (List.getElem?_eq_getElem hlt)

/-- What is asked of a program's table. -/
structure PrgOK (P : Program) (p : Prg) : Prop where
  tab : TabOk P p.T
  code : ∀ f fn, p.code f = some fn → P.funcs[f]? = some fn ∧ (fn.name == "runtime.NumGoroutine") = false ∧ (p.fi f).nt ≤ fn.ntmps
  prim : ∀ f q, p.prim f = some q → KOK1 P f q
  mix : P.follows .mixedOrders = true

theorem callF_ok {p : Prg} (hp : PrgOK P p) : ∀ n, KOK P (callF p n) := by
  intro n
  induction n with
  | zero => intro f args los los' r h; simp [callF] at h
  | succ n ih =>
    intro f args los los' r h
    simp only [callF] at h
    split at h
    · rename_i q hq
      exact hp.prim f q hq args los los' r h
    · split at h
      · cases h
      rename_i fn hfn
      split at h
      · cases h
      rename_i b hb
      obtain ⟨h1, h2, h3⟩ := hp.code f fn hfn
      refine ⟨⟨fn, b, h1, h2, hb⟩, fun A L g vals w hL hm ha => ?_⟩
      refine calls_of_wp h1 hb ?_
      let c : Cx := ⟨p.T, p.own, callF p n⟩
      have hinv : Inv ⟨w.heap.size, A, L, w⟩ g los.length (p.fi f).nt (numEnv 0 args) los { tmps := vals.toArray ++ Array.replicate (fn.ntmps - vals.toArray.size) undef, defers := [] } w :=
        ⟨g, hm, slots_num ha _, by simp; omega, rfl, Nat.le_refl _, fun _ _ _ => rfl⟩
      refine wp_mono (exec_sound (c := c) (ops_ok hp.tab ih) (draw_ok (ops_ok hp.tab ih) hp.mix) gc_ok b _ _ _ _ _ hinv h) ?_
      intro e a w' hq
      obtain ⟨env, os, ⟨g1, m, hs, ht, hd, hl, h0⟩, hk⟩ := hq
      have fin : retS p.T los.length fn.results.toList env os = some (r, los') → a.defers = [] ∧ ∃ v, (results fn a.tmps).run P w' = .ok v w' ∧
          ∃ v' g', Ending.returned v = .returned v' ∧ Mem ⟨w.heap.size, A, L, w⟩ los' g' w' ∧ (∀ j, j < los.length → g j ≠ .no → g' j = g j) ∧ RepV w' (Bk ⟨w.heap.size, A, L, w⟩ los' g' w') g' r v' ∧ los.length ≤ los'.length := by
        intro hk
        obtain ⟨v, g', r1, r2, r3, r4, r5⟩ := ret_rep hp.tab m hs hk
        exact ⟨hd, v, r1, v, g', rfl, r2, fun j hj hn => by rw [r3 j hj, h0 j hj hn], r4, r5⟩
      cases e with
      | normal => exact fin hk
      | ret => exact fin hk
      | exit id => simp [kEnd] at hk
      | goto l => exact hk.elim
      | panic ch => exact hk.elim
      | outgrown => exact hk.elim

end Go.Proofs.Ytjfegdlgepbjoaa
