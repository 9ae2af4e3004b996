/- The evaluator S and what it says of functions: So, Sp. -/
import Derived.Test.YtikennabfbkdhaaSn
/- The evaluator S: other names for the objects. -/
namespace Go.Proofs.Ytikennabfbkdhaa
open Go
set_option linter.unusedVariables false
set_option linter.unusedSimpArgs false
variable {P : Program} {T : Tab}
theorem ren0_rep {w : World} {B B' : Nat → Prop} {g g' : Nat → Gh} {ρ : Nat → Option Nat} (hB : ∀ b, B b → B' b) (hρ : ∀ j i, ρ j = some i → g' i = g j) {x : SV} {v : Value} (h : RepV w B g x v) : RepV w B' g' (ren0 ρ x) v := by
  cases h with
  | v h => exact .v h
  | undef => exact .undef
  | dead => exact .dead
  | sl0 => exact .sl0
  | sl h1 h2 h3 h4 h5 h6 => exact .sl h1 (fun i x v a b => (h2 i x v a b).mono hB (fun _ _ => rfl) G0 (fun _ h => absurd rfl h)) h3 h4 (hB _ h5) h6
  | ag h1 h2 h3 => exact .dead
  | tup h1 h2 => exact .dead
  | osl0 h => rename_i j; simp only [ren0]; split
              · rename_i i hi; exact .osl0 (by rw [hρ j i hi]; exact h)
              · exact .dead
  | osl h => rename_i j _ _ _ _; simp only [ren0]; split
             · rename_i i hi; exact .osl (by rw [hρ j i hi]; exact h)
             · exact .dead
  | osln h => rename_i j _ _ _ _ _; simp only [ren0]; split
              · rename_i i hi; exact .osln (by rw [hρ j i hi]; exact h)
              · exact .dead
  | vw0 => simp only [ren0]; split
           · exact .vw0
           · exact .dead
  | vw h a b c => rename_i j _ _ _ _ _ _ _; simp only [ren0]; split
                  · rename_i i hi; exact .vw (by rw [hρ j i hi]; exact h) a b c
                  · exact .dead
  | ptr h => rename_i j _ _; simp only [ren0]; split
             · rename_i i hi; exact .ptr (by rw [hρ j i hi]; exact h)
             · exact .dead
  | ap h => rename_i j _ _ _ _ _ _; simp only [ren0]; split
            · rename_i i hi; exact .ap (by rw [hρ j i hi]; exact h)
            · exact .dead
  | el h1 h2 h3 => exact .el (h1.mono hB (fun _ _ => rfl) G0 (fun _ h => absurd rfl h)) h2 (hB _ h3)
  | fn h1 h2 => exact .dead
theorem map_ren {w : World} {B B' : Nat → Prop} {g g' : Nat → Gh} {f : SV → SV} (hf : ∀ x v, RepV w B g x v → RepV w B' g' (f x) v) {l : List SV} {vs : List Value} (h : RepL w B g l vs) : RepL w B' g' (l.map f) vs :=
  ⟨by simp [h.1], fun i x v h1 h2 => by
    rw [List.getElem?_map] at h1
    obtain ⟨y, hy, rfl⟩ := Option.map_eq_some_iff.1 h1
    exact hf y v (h.2 i y v hy h2)⟩
theorem ren1_rep {w : World} {B B' : Nat → Prop} {g g' : Nat → Gh} {ρ : Nat → Option Nat} (hB : ∀ b, B b → B' b) (hρ : ∀ j i, ρ j = some i → g' i = g j) {x : SV} {v : Value} (h : RepV w B g x v) : RepV w B' g' (ren1 ρ x) v := by
  by_cases hx : ∃ f caps, x = .fn f caps
  · obtain ⟨f, caps, rfl⟩ := hx
    cases h with
    | fn h1 h2 =>
      have := map_ren (f := ren0 ρ) (fun x v => ren0_rep hB hρ) ⟨h1, h2⟩
      exact .fn this.1 this.2
  · have e : ren1 ρ x = ren0 ρ x := by
      cases x <;> first | rfl | exact absurd ⟨_, _, rfl⟩ hx
    rw [e]; exact ren0_rep hB hρ h
theorem ren2_rep {w : World} {B B' : Nat → Prop} {g g' : Nat → Gh} {ρ : Nat → Option Nat} (hB : ∀ b, B b → B' b) (hρ : ∀ j i, ρ j = some i → g' i = g j) {x : SV} {v : Value} (h : RepV w B g x v) : RepV w B' g' (ren2 ρ x) v := by
  by_cases hx : ∃ l, x = .ag l
  · obtain ⟨l, rfl⟩ := hx
    cases h with
    | ag h1 h2 h3 =>
      have := map_ren (f := ren1 ρ) (fun x v => ren1_rep hB hρ) ⟨h1, h2⟩
      exact .ag this.1 this.2 h3
  · have e : ren2 ρ x = ren1 ρ x := by
      cases x <;> first | rfl | exact absurd ⟨_, rfl⟩ hx
    rw [e]; exact ren1_rep hB hρ h
theorem ren3_rep {w : World} {B B' : Nat → Prop} {g g' : Nat → Gh} {ρ : Nat → Option Nat} (hB : ∀ b, B b → B' b) (hρ : ∀ j i, ρ j = some i → g' i = g j) {x : SV} {v : Value} (h : RepV w B g x v) : RepV w B' g' (ren3 ρ x) v := by
  by_cases hx : ∃ l, x = .tup l
  · obtain ⟨l, rfl⟩ := hx
    cases h with
    | tup h1 h2 =>
      have := map_ren (f := ren2 ρ) (fun x v => ren2_rep hB hρ) ⟨h1, h2⟩
      exact .tup this.1 this.2
  · have e : ren3 ρ x = ren2 ρ x := by
      cases x <;> first | rfl | exact absurd ⟨_, rfl⟩ hx
    rw [e]; exact ren2_rep hB hρ h
theorem place_get : ∀ {keep : List Nat} {j i : Nat}, place keep j = some i → keep[i]? = some j
  | [], _, _, h => by simp [place] at h
  | k :: ks, j, i, h => by
    simp only [place] at h
    split at h
    · rename_i e; subst e; obtain rfl := Option.some.inj h; rfl
    · split at h
      · rename_i i' hi'; obtain rfl := Option.some.inj h; simpa using place_get hi'
      · simp at h
theorem nodup_get : ∀ {keep : List Nat}, nodupB keep = true → ∀ {i k j : Nat}, keep[i]? = some j → keep[k]? = some j → i = k
  | [], _, i, _, _, h, _ => by simp at h
  | x :: xs, hn, i, k, j, hi, hk => by
    simp only [nodupB, Bool.and_eq_true, Bool.not_eq_true'] at hn
    cases i with
    | zero =>
      cases k with
      | zero => rfl
      | succ k =>
        simp at hi hk
        subst hi
        have := List.mem_of_getElem? hk
        have h2 : xs.contains x = true := by simpa using this
        rw [h2] at hn; simp at hn
    | succ i =>
      cases k with
      | zero =>
        simp at hi hk
        subst hk
        have := List.mem_of_getElem? hi
        have h2 : xs.contains x = true := by simpa using this
        rw [h2] at hn; simp at hn
      | succ k =>
        have := nodup_get hn.2 (i := i) (k := k) (j := j) (by simpa using hi) (by simpa using hk)
        omega
theorem okKeep_of {nl : Nat} {l keep : List Nat} (h : okKeep nl l = some keep) : nodupB keep = true ∧ nl ≤ keep.length ∧ ∀ j, j < nl → keep[j]? = some j := by
  unfold okKeep at h
  split at h
  · rename_i hc
    obtain rfl := Option.some.inj h
    simp only [Bool.and_eq_true, beq_iff_eq] at hc
    have hl := congrArg List.length hc.1
    simp at hl
    refine ⟨hc.2, by omega, fun j hj => ?_⟩
    have := congrArg (fun l => l[j]?) hc.1
    simp only [List.getElem?_take, if_pos hj, List.getElem?_range hj] at this
    exact this
  · simp at h
def gk (g : Nat → Gh) (keep : List Nat) (i : Nat) : Gh := match keep[i]? with | some j => g j | none => .no
theorem gk_place {g : Nat → Gh} {keep : List Nat} : ∀ j i, place keep j = some i → gk g keep i = g j := fun j i h => by
  unfold gk; rw [place_get h]
theorem getD_some {os : List SO} {j : Nat} {o : SO} (h : os.getD j .dead = o) (ho : o ≠ .dead) : os[j]? = some o := by
  rw [List.getD_eq_getElem?_getD] at h
  cases hj : os[j]? with
  | none => rw [hj] at h; exact absurd h.symm ho
  | some x => rw [hj] at h; simp at h; rw [h]
theorem ren_live {ρ : Nat → Option Nat} (o : SO) : (o.ren ρ).isLive = o.isLive := by cases o <;> rfl
theorem gcO_get {keep : List Nat} {os : List SO} {i : Nat} {o : SO} (h : (gcO keep os)[i]? = some o) : ∃ j, keep[i]? = some j ∧ o = (os.getD j .dead).ren (place keep) := by
  unfold gcO at h
  rw [List.getElem?_map] at h
  obtain ⟨j, hj, rfl⟩ := Option.map_eq_some_iff.1 h
  exact ⟨j, hj, rfl⟩
theorem gc_live {os : List SO} {g : Nat → Gh} {keep : List Nat} {i : Nat} {o : SO} {b : Nat} (h : (gcO keep os)[i]? = some o) (hl : o.isLive = true) (hb : (gk g keep i).has b) :
    ∃ j o', keep[i]? = some j ∧ os[j]? = some o' ∧ o = o'.ren (place keep) ∧ o'.isLive = true ∧ (g j).has b := by
  obtain ⟨j, hj, rfl⟩ := gcO_get h
  rw [ren_live] at hl
  have hd : os.getD j .dead ≠ .dead := fun e => by rw [e] at hl; cases hl
  refine ⟨j, _, hj, getD_some rfl hd, rfl, hl, ?_⟩
  unfold gk at hb
  rw [hj] at hb
  exact hb
theorem ObjOK.ren {w : World} {B B' : Nat → Prop} {g g' : Nat → Gh} {ρ : Nat → Option Nat} (hB : ∀ b, B b → B' b) (hρ : ∀ j i, ρ j = some i → g' i = g j) {j i : Nat} {o : SO} (h : ObjOK w B g j o) (hi : g' i = g j) : ObjOK w B' g' i (o.ren ρ) := by
  cases o with
  | dead => trivial
  | frz sz l =>
    rcases h with ⟨a, b⟩ | ⟨b, cap, vs, h1, h2, h3, h4, h5, h6⟩
    · exact .inl ⟨a, by rw [hi]; exact b⟩
    · exact .inr ⟨b, cap, vs, by rw [hi]; exact h1, h2, hB _ h3, h4.mono hB (fun _ _ => rfl) (fun _ h => absurd rfl h), h5, h6⟩
  | arr lt sz l =>
    rcases h with ⟨a, b⟩ | ⟨b, cap, vs, h1, h2, h3, h4, h5, h6⟩
    · exact .inl ⟨a, by rw [hi]; exact b⟩
    · exact .inr ⟨b, cap, vs, by rw [hi]; exact h1, h2, h3.mono hB (fun _ _ => rfl) (fun _ h => absurd rfl h), h4, h5, h6⟩
  | nst lt sz l =>
    rcases h with ⟨a, b⟩ | ⟨b, cap, vs, ins, h1, h2⟩
    · exact .inl ⟨a, by rw [hi]; exact b⟩
    · exact .inr ⟨b, cap, vs, ins, by rw [hi]; exact h1, h2⟩
  | box l =>
    obtain ⟨b, vs, h1, h2, h3, h4, h5⟩ := h
    exact ⟨b, vs, by rw [hi]; exact h1, map_ren (fun x v => ren1_rep hB hρ) h2, h3, h4, h5⟩
theorem gc_sub {fr : Fr} {os : List SO} {g : Nat → Gh} {w : World} (keep : List Nat) : ∀ b, Bk fr os g w b → Bk fr (gcO keep os) (gk g keep) w b := fun b hb =>
  ⟨hb.1, hb.2.1, fun ⟨i, o, hi, hl, hbl⟩ => by
    obtain ⟨j, o', hj, ho, _, hl', hb'⟩ := gc_live hi hl hbl
    exact hb.2.2 ⟨j, o', ho, hl', hb'⟩⟩
theorem gc_mem {fr : Fr} {os : List SO} {g : Nat → Gh} {w : World} (hm : Mem fr os g w) {keep : List Nat} (hn : nodupB keep = true) : Mem fr (gcO keep os) (gk g keep) w where
  objs i o hi := by
    obtain ⟨j, hj, rfl⟩ := gcO_get hi
    by_cases hd : os.getD j .dead = .dead
    · rw [hd]; trivial
    · exact (hm.objs j _ (getD_some rfl hd)).ren (gc_sub keep) gk_place (by unfold gk; rw [hj])
  fresh i hi := by
    unfold gk
    rw [List.getElem?_eq_none (by simpa [gcO] using hi)]
  inj i k oi ok b hi hk li lk bi bk := by
    obtain ⟨j, o', hj, ho, _, hl, hb⟩ := gc_live hi li bi
    obtain ⟨j', o'', hj', ho', _, hl', hb'⟩ := gc_live hk lk bk
    have := hm.inj j j' o' o'' b ho ho' hl hl' hb hb'
    subst this
    exact nodup_get hn hj hj'
  own b := by
    rintro ⟨i, o, hi, hl, hb⟩
    obtain ⟨j, o', hj, ho, _, hl', hb'⟩ := gc_live hi hl hb
    exact hm.own b ⟨j, o', ho, hl', hb'⟩
  mine i sz l b hi hb := by
    obtain ⟨j, o', hj, ho, e, hl', hb'⟩ := gc_live hi rfl hb
    cases o' with
    | arr lt sz' l' => cases e; exact hm.mine j _ _ b ho hb'
    | _ => cases e
  frame := hm.frame
  size := hm.size
  out := hm.out
theorem look_ren (ρ : Nat → Option Nat) (t : Nat) : ∀ (env : Env), look t (renE ρ env) = ren3 ρ (look t env) := by
  intro env
  induction env with
  | nil => rfl
  | cons p ps ih =>
    simp only [renE, look]
    split
    · rfl
    · exact ih
theorem gc_ok : GcOK P := by
  intro fr g0 nl nt env os a w hi keep hk
  obtain ⟨g, m, hs, ht, hd, hl, h0⟩ := hi
  obtain ⟨k1, k2, k3⟩ := okKeep_of hk
  refine ⟨gk g keep, gc_mem m k1, fun t => ?_, ht, hd, by simpa [gcO] using k2, fun j hj hn => ?_⟩
  · rw [look_ren]
    exact ren3_rep (gc_sub keep) gk_place (hs t)
  · unfold gk; rw [k3 j hj]; exact h0 j hj hn
end Go.Proofs.Ytikennabfbkdhaa

/- The evaluator S: what is lent to a callee, and what comes back. -/
namespace Go.Proofs.Ytikennabfbkdhaa
open Go
set_option linter.unusedVariables false
set_option linter.unusedSimpArgs false
variable {P : Program} {T : Tab}
def lent (keep : List Nat) (os : List SO) : List SO := (gcO keep os).map SO.lend
theorem lend_live (o : SO) : o.lend.isLive = o.isLive := by cases o <;> rfl
theorem lent_get {keep : List Nat} {os : List SO} {i : Nat} {o : SO} (h : (lent keep os)[i]? = some o) : ∃ j, keep[i]? = some j ∧ o = ((os.getD j .dead).ren (place keep)).lend := by
  unfold lent at h
  rw [List.getElem?_map] at h
  obtain ⟨o', ho, rfl⟩ := Option.map_eq_some_iff.1 h
  obtain ⟨j, hj, rfl⟩ := gcO_get ho
  exact ⟨j, hj, rfl⟩
theorem lent_live {os : List SO} {g : Nat → Gh} {keep : List Nat} {i : Nat} {o : SO} {b : Nat} (h : (lent keep os)[i]? = some o) (hl : o.isLive = true) (hb : (gk g keep i).has b) :
    ∃ j o', keep[i]? = some j ∧ os[j]? = some o' ∧ o'.isLive = true ∧ (g j).has b := by
  obtain ⟨j, hj, rfl⟩ := lent_get h
  rw [lend_live, ren_live] at hl
  have hd : os.getD j .dead ≠ .dead := fun e => by rw [e] at hl; cases hl
  refine ⟨j, _, hj, getD_some rfl hd, hl, ?_⟩
  unfold gk at hb
  rw [hj] at hb
  exact hb
def frC (w : World) (A : Nat → Prop) (keep : List Nat) (os : List SO) (g : Nat → Gh) : Fr :=
  { N := w.heap.size, A := A, L := fun b => live (lent keep os) (gk g keep) b, w0 := w }
theorem lent_sub {fr : Fr} {os : List SO} {g : Nat → Gh} {w : World} {keep : List Nat} {A : Nat → Prop} (hA : ∀ b, Bk fr os g w b → A b) :
    ∀ b, Bk fr os g w b → Bk (frC w A keep os g) (lent keep os) (gk g keep) w b := fun b hb =>
  ⟨hb.1, fun _ => hA b hb, fun ⟨i, o, hi, hl, hbl⟩ => by
    obtain ⟨j, o', hj, ho, hl', hb'⟩ := lent_live hi hl hbl
    exact hb.2.2 ⟨j, o', ho, hl', hb'⟩⟩
theorem ObjOK.lend {w : World} {B : Nat → Prop} {g : Nat → Gh} {j : Nat} {o : SO} (h : ObjOK w B g j o) : ObjOK w B g j o.lend := by
  cases o <;> exact h
theorem lent_mem {fr : Fr} {os : List SO} {g : Nat → Gh} {w : World} (hm : Mem fr os g w) {keep : List Nat} (hn : nodupB keep = true) {A : Nat → Prop} (hA : ∀ b, Bk fr os g w b → A b) :
    Mem (frC w A keep os g) (lent keep os) (gk g keep) w where
  objs i o hi := by
    obtain ⟨j, hj, rfl⟩ := lent_get hi
    by_cases hd : os.getD j .dead = .dead
    · rw [hd]; trivial
    · exact ((hm.objs j _ (getD_some rfl hd)).ren (lent_sub hA) gk_place (by unfold gk; rw [hj])).lend
  fresh i hi := by
    unfold gk
    rw [List.getElem?_eq_none (by simpa [lent, gcO] using hi)]
  inj i k oi ok b hi hk li lk bi bk := by
    obtain ⟨j, o', hj, ho, hl, hb⟩ := lent_live hi li bi
    obtain ⟨j', o'', hj', ho', hl', hb'⟩ := lent_live hk lk bk
    have := hm.inj j j' o' o'' b ho ho' hl hl' hb hb'
    subst this
    exact nodup_get hn hj hj'
  own b hb := by
    refine ⟨?_, fun _ => hb⟩
    obtain ⟨i, o, hi, hl, hbl⟩ := hb
    obtain ⟨j, o', hj, ho, hl', hb'⟩ := lent_live hi hl hbl
    exact (hm.own b ⟨j, o', ho, hl', hb'⟩).1
  mine i sz l b hi hb := by
    obtain ⟨j, hj, e⟩ := lent_get hi
    cases h : (os.getD j .dead).ren (place keep) <;> rw [h] at e <;> cases e
  frame b _ _ := rfl
  size := Nat.le_refl _
  out := SameOut.refl _
theorem place_none : ∀ {keep : List Nat} {j : Nat}, place keep j = none → ∀ i : Nat, keep[i]? ≠ some j
  | [], _, _, i, h => by simp at h
  | k :: ks, j, hp, i, h => by
    simp only [place] at hp
    split at hp
    · simp at hp
    · rename_i hne
      split at hp
      · simp at hp
      · rename_i hq
        cases i with
        | zero => simp at h; exact hne h
        | succ i => exact place_none hq i (by simpa using h)
theorem snap_rep {fr : Fr} {os : List SO} {g : Nat → Gh} {w : World} (hm : Mem fr os g w) {keep : List Nat} {A : Nat → Prop} (hA : ∀ b, Bk fr os g w b → A b) {x : SV} {v : Value} {j sz : Nat} {l : List SV}
    (hx : RepV w (Bk fr os g w) g x v) (he : elems os x = some (sz, l)) (hj : x = .osl j ∨ ∃ lo hi, x = .vw j lo hi) (hk : ∀ i : Nat, keep[i]? ≠ some j) (hs : ∀ lt sz l b, os[j]? = some (.arr lt sz l) → (g j).has b → A b) :
    RepV w (Bk (frC w A keep os g) (lent keep os) (gk g keep) w) (gk g keep) (.sl sz l) v := by
  have hBk : ∀ lt sz l b, os[j]? = some (.arr lt sz l) → (g j).has b → Bk (frC w A keep os g) (lent keep os) (gk g keep) w b := by
    intro lt sz l b h1 h2
    refine ⟨(hm.own b ⟨j, _, h1, rfl, h2⟩).1, fun _ => hs lt sz l b h1 h2, ?_⟩
    rintro ⟨i, o, hi, hl, hb⟩
    obtain ⟨j', o', hj', ho', hl', hb'⟩ := lent_live hi hl hb
    have := hm.inj j' j o' _ b ho' h1 hl' rfl hb' h2
    subst this
    exact hk i hj'
  obtain ⟨a, c, rfl, hlc, hr⟩ := elems_rep hm hx he
  rcases hr with rfl | ⟨b, o, vs, rfl, h1, h2, h3⟩
  · exact .sl0
  · by_cases hl0 : l = []
    · subst hl0; exact .sl0
    have hb : Bk (frC w A keep os g) (lent keep os) (gk g keep) w b := by
      have hcase : ∀ sz' n cap, g j = .blk b sz' n cap → Bk (frC w A keep os g) (lent keep os) (gk g keep) w b := by
        intro sz' n cap hg
        unfold elems at he
        have hget : ∃ q, os[j]? = some q ∧ ((∃ lt l', q = .arr lt sz l') ∨ ∃ l', q = .frz sz l') := by
          rcases hj with rfl | ⟨lo, hi, rfl⟩
          · simp only at he
            split at he
            · rename_i lt sz' l' hq; obtain ⟨rfl, rfl⟩ := Prod.mk.inj (Option.some.inj he); exact ⟨_, hq, .inl ⟨_, _, rfl⟩⟩
            · rename_i sz' l' hq; obtain ⟨rfl, rfl⟩ := Prod.mk.inj (Option.some.inj he); exact ⟨_, hq, .inr ⟨_, rfl⟩⟩
            · simp at he
          · simp only at he
            split at he
            · rename_i lt sz' l' hq
              split at he
              · obtain ⟨rfl, rfl⟩ := Prod.mk.inj (Option.some.inj he); exact ⟨_, hq, .inl ⟨_, _, rfl⟩⟩
              · simp at he
            · rename_i sz' l' hq
              split at he
              · obtain ⟨rfl, rfl⟩ := Prod.mk.inj (Option.some.inj he); exact ⟨_, hq, .inr ⟨_, rfl⟩⟩
              · simp at he
            · simp at he
        obtain ⟨q, hq, hq'⟩ := hget
        rcases hq' with ⟨lt, l', rfl⟩ | ⟨l', rfl⟩
        · exact hBk lt sz l' b hq (by rw [hg]; rfl)
        · rcases hm.objs _ _ hq with ⟨_, hn⟩ | ⟨b', cap', vs', e1, e2, e3, _⟩
          · rw [hg] at hn; cases hn
          · rw [hg] at e1; cases e1; exact lent_sub hA b e3
      rcases hj with rfl | ⟨lo, hi, rfl⟩
      · cases hx with
        | osln hg =>
          exfalso
          unfold elems at he
          simp only at he
          split at he
          · rename_i lt sz' l' hq
            rcases hm.objs _ _ hq with ⟨_, h9⟩ | ⟨_, _, _, h9, _⟩ <;> rw [hg] at h9 <;> cases h9
          · rename_i sz' l' hq
            rcases hm.objs _ _ hq with ⟨_, h9⟩ | ⟨_, _, _, h9, _⟩ <;> rw [hg] at h9 <;> cases h9
          · simp at he
        | osl hg => exact hcase _ _ _ hg
      · generalize hv : (Value.slice (some ⟨b, o, none⟩) l.length c) = vv at hx
        cases hx with
        | vw0 =>
          injection hv with h1 h2 h3
          have hz : l.length = 0 := h2
          exact absurd (List.length_eq_zero_iff.1 hz) hl0
        | vw hg _ _ _ =>
          injection hv with h1 h2 h3
          injection h1 with h1
          injection h1 with h1 _ _
          subst h1
          exact hcase _ _ _ hg
    have := h1.mono (lent_sub (keep := keep) hA) (fun _ _ => rfl) (g' := G0) (fun _ h => absurd rfl h)
    exact .sl this.1 this.2 h2 h3 hb hlc
theorem argCell_rep {fr : Fr} {os : List SO} {g : Nat → Gh} {w : World} (hm : Mem fr os g w) {keep : List Nat} {A : Nat → Prop} (hA : ∀ b, Bk fr os g w b → A b) {x y : SV} {v : Value}
    (hx : RepV w (Bk fr os g w) g x v) (h : argCell os keep x = some y) (hs : ∀ j, (x = .osl j ∨ ∃ lo hi, x = .vw j lo hi) → (∀ i : Nat, keep[i]? ≠ some j) → ∀ o b, os[j]? = some o → o.isLive = true → (g j).has b → A b) :
    RepV w (Bk (frC w A keep os g) (lent keep os) (gk g keep) w) (gk g keep) y v := by
  have hsub := lent_sub (keep := keep) hA
  unfold argCell at h
  split at h
  · obtain rfl := Option.some.inj h; cases hx with | v hv => exact .v hv
  · obtain rfl := Option.some.inj h; exact ren0_rep (x := .sl _ _) hsub gk_place hx
  · obtain rfl := Option.some.inj h; exact ren0_rep (x := .el _ _) hsub gk_place hx
  · rename_i j o
    split at h
    · rename_i i hi
      obtain rfl := Option.some.inj h
      cases hx with | ptr hp => exact .ptr (by rw [gk_place j i hi]; exact hp)
    · simp at h
  · rename_i j i o
    split at h
    · rename_i k hk
      obtain rfl := Option.some.inj h
      cases hx with | ap hp => exact .ap (by rw [gk_place j k hk]; exact hp)
    · simp at h
  · rename_i f caps
    obtain rfl := Option.some.inj h
    exact ren1_rep (x := .fn f caps) hsub gk_place hx
  · rename_i j
    split at h
    · rename_i i hi
      obtain rfl := Option.some.inj h
      cases hx with
      | osl0 hp => exact .osl0 (by rw [gk_place j i hi]; exact hp)
      | osl hp => exact .osl (by rw [gk_place j i hi]; exact hp)
      | osln hp => exact .osln (by rw [gk_place j i hi]; exact hp)
    · rename_i hi
      split at h
      · rename_i p hp
        obtain rfl := Option.some.inj h
        exact snap_rep hm hA hx hp (.inl rfl) (place_none hi) (fun lt sz l b h1 h2 => hs j (.inl rfl) (place_none hi) _ b h1 rfl h2)
      · unfold nstA at h
        split at h
        · rename_i lt sz l hq
          obtain rfl := Option.some.inj h
          have hBk : ∀ c, (g j).has c → Bk (frC w A keep os g) (lent keep os) (gk g keep) w c := fun c hc => by
            refine ⟨(hm.own c ⟨j, _, hq, rfl, hc⟩).1, fun _ => hs j (.inl rfl) (place_none hi) _ c hq rfl hc, ?_⟩
            rintro ⟨i, o, hi2, hl, hb⟩
            obtain ⟨j', o', hj', ho', hl', hb'⟩ := lent_live hi2 hl hb
            have := hm.inj j' j o' _ c ho' hq hl' rfl hb' hc
            subst this
            exact place_none hi i hj'
          rcases hm.objs _ _ hq with ⟨rfl, hn⟩ | ⟨b, cap, vs, ins, e1, e2, e3, e4, e5, e6, e7⟩
          · cases hx with
            | osl0 => exact .sl0
            | osl hg => rw [hn] at hg; cases hg
            | osln hg => rw [hn] at hg; cases hg
          · cases hx with
            | osl0 hg => rw [e1] at hg; cases hg
            | osl hg => rw [e1] at hg; cases hg
            | osln hg =>
              rw [e1] at hg; cases hg
              have := e3.mono (B' := Bk (frC w A keep os g) (lent keep os) (gk g keep) w) (fun c hc => hBk c (by rw [e1]; exact .inr hc)) (fun _ _ => rfl) (g' := G0) (fun _ h => absurd rfl h)
              exact .sl this.1 this.2 e4 e5 (hBk b (by rw [e1]; exact .inl rfl)) e2
        · simp at h
  · rename_i j lo hh
    split at h
    · simp at h
    · rename_i hi
      split at h
      · rename_i p hp
        obtain rfl := Option.some.inj h
        exact snap_rep hm hA hx hp (.inr ⟨lo, hh, rfl⟩) (place_none hi) (fun lt sz l b h1 h2 => hs j (.inr ⟨lo, hh, rfl⟩) (place_none hi) _ b h1 rfl h2)
      · simp at h
  · simp at h
theorem argCells_rep {fr : Fr} {os : List SO} {g : Nat → Gh} {w : World} (hm : Mem fr os g w) {keep : List Nat} {A : Nat → Prop} (hA : ∀ b, Bk fr os g w b → A b) : ∀ (xs : List SV) {ys : List SV} {vs : List Value},
    RepL w (Bk fr os g w) g xs vs → argCells os keep xs = some ys →
    (∀ x, x ∈ xs → ∀ j, (x = .osl j ∨ ∃ lo hi, x = .vw j lo hi) → (∀ i : Nat, keep[i]? ≠ some j) → ∀ o b, os[j]? = some o → o.isLive = true → (g j).has b → A b) →
    RepL w (Bk (frC w A keep os g) (lent keep os) (gk g keep) w) (gk g keep) ys vs := by
  intro xs
  induction xs with
  | nil =>
    intro ys vs hl h hs
    simp only [argCells, Option.some.injEq] at h
    subst h
    have := hl.1
    cases vs with
    | nil => exact RepL.nil
    | cons => simp at this
  | cons x xs ih =>
    intro ys vs hl h hs
    obtain ⟨v, vs', rfl, hv, hl'⟩ := hl.uncons
    simp only [argCells] at h
    split at h
    · rename_i y ys' hy hys
      obtain rfl := Option.some.inj h
      exact RepL.cons (argCell_rep hm hA hv hy (hs x (by simp))) (ih hl' hys fun z hz => hs z (by simp [hz]))
    · simp at h
theorem argV_rep {fr : Fr} {os : List SO} {g : Nat → Gh} {w : World} (hm : Mem fr os g w) {keep : List Nat} {A : Nat → Prop} (hA : ∀ b, Bk fr os g w b → A b) {x y : SV} {v : Value}
    (hx : RepV w (Bk fr os g w) g x v) (h : argV os keep x = some y) (hs : ∀ z, z ∈ x.cells → ∀ j, (z = .osl j ∨ ∃ lo hi, z = .vw j lo hi) → (∀ i : Nat, keep[i]? ≠ some j) → ∀ o b, os[j]? = some o → o.isLive = true → (g j).has b → A b) :
    RepV w (Bk (frC w A keep os g) (lent keep os) (gk g keep) w) (gk g keep) y v := by
  unfold argV at h
  split at h
  · rename_i l
    split at h
    · rename_i ys hys
      obtain rfl := Option.some.inj h
      cases hx with
      | ag h1 h2 h3 =>
        have := argCells_rep hm hA l ⟨h1, h2⟩ hys hs
        exact .ag this.1 this.2 h3
    · simp at h
  · rename_i hna
    have e : x.cells = [x] := by cases x <;> first | rfl | exact absurd rfl (hna _)
    exact argCell_rep hm hA hx h (hs x (by rw [e]; simp))
theorem argVs_rep {fr : Fr} {os : List SO} {g : Nat → Gh} {w : World} (hm : Mem fr os g w) {keep : List Nat} {A : Nat → Prop} (hA : ∀ b, Bk fr os g w b → A b) : ∀ (xs : List SV) {ys : List SV} {vs : List Value},
    RepL w (Bk fr os g w) g xs vs → argVs os keep xs = some ys →
    (∀ x, x ∈ xs → ∀ z, z ∈ x.cells → ∀ j, (z = .osl j ∨ ∃ lo hi, z = .vw j lo hi) → (∀ i : Nat, keep[i]? ≠ some j) → ∀ o b, os[j]? = some o → o.isLive = true → (g j).has b → A b) →
    RepL w (Bk (frC w A keep os g) (lent keep os) (gk g keep) w) (gk g keep) ys vs := by
  intro xs
  induction xs with
  | nil =>
    intro ys vs hl h hs
    simp only [argVs, Option.some.injEq] at h
    subst h
    have := hl.1
    cases vs with
    | nil => exact RepL.nil
    | cons => simp at this
  | cons x xs ih =>
    intro ys vs hl h hs
    obtain ⟨v, vs', rfl, hv, hl'⟩ := hl.uncons
    simp only [argVs] at h
    split at h
    · rename_i y ys' hy hys
      obtain rfl := Option.some.inj h
      exact RepL.cons (argV_rep hm hA hv hy (hs x (by simp))) (ih hl' hys fun z hz => hs z (by simp [hz]))
    · simp at h
end Go.Proofs.Ytikennabfbkdhaa
