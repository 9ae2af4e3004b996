/- The evaluator S: other names for the objects. -/
import Derived.Test.YtjfegdlgepbjoaaSn
namespace Go.Proofs.Ytjfegdlgepbjoaa
open Go
set_option linter.unusedVariables false
set_option linter.unusedSimpArgs false
variable {P : Program} {T : Tab}

theorem ren0_rep {w : World} {B B' : Nat → Prop} {g g' : Nat → Gh} {ρ : Nat → Option Nat} (hB : ∀ b, B b → B' b) (hρ : ∀ j i, ρ j = some i → g' i = g j) {x : SV} {v : Value} (h : RepV w B g x v) : RepV w B' g' (ren0 ρ x) v := by
  cases h with
  | v h => exact .v h
  | undef => exact .undef
  | dead => exact .dead
  | sl0 => exact .sl0
  | sl h1 h2 h3 h4 h5 h6 => exact .sl h1 (fun i x v a b => (h2 i x v a b).mono hB (fun _ _ => rfl) G0 (fun _ h => absurd rfl h)) h3 h4 (hB _ h5) h6
  | ag h1 h2 h3 => exact .dead
  | tup h1 h2 => exact .dead
  | osl0 h => rename_i j; simp only [ren0]; split
              · rename_i i hi; exact .osl0 (by rw [hρ j i hi]; exact h)
              · exact .dead
  | osl h => rename_i j _ _ _ _; simp only [ren0]; split
             · rename_i i hi; exact .osl (by rw [hρ j i hi]; exact h)
             · exact .dead
  | vw0 => simp only [ren0]; split
           · exact .vw0
           · exact .dead
  | vw h a b c => rename_i j _ _ _ _ _ _ _; simp only [ren0]; split
                  · rename_i i hi; exact .vw (by rw [hρ j i hi]; exact h) a b c
                  · exact .dead
  | ptr h => rename_i j _ _; simp only [ren0]; split
             · rename_i i hi; exact .ptr (by rw [hρ j i hi]; exact h)
             · exact .dead
  | ap h => rename_i j _ _ _ _ _ _; simp only [ren0]; split
            · rename_i i hi; exact .ap (by rw [hρ j i hi]; exact h)
            · exact .dead
  | el h1 h2 h3 => exact .el (h1.mono hB (fun _ _ => rfl) G0 (fun _ h => absurd rfl h)) h2 (hB _ h3)
  | fn h1 h2 => exact .dead

theorem map_ren {w : World} {B B' : Nat → Prop} {g g' : Nat → Gh} {f : SV → SV} (hf : ∀ x v, RepV w B g x v → RepV w B' g' (f x) v) {l : List SV} {vs : List Value} (h : RepL w B g l vs) : RepL w B' g' (l.map f) vs :=
  ⟨by simp [h.1], fun i x v h1 h2 => by
    rw [List.getElem?_map] at h1
    obtain ⟨y, hy, rfl⟩ := Option.map_eq_some_iff.1 h1
    exact hf y v (h.2 i y v hy h2)⟩

theorem ren1_rep {w : World} {B B' : Nat → Prop} {g g' : Nat → Gh} {ρ : Nat → Option Nat} (hB : ∀ b, B b → B' b) (hρ : ∀ j i, ρ j = some i → g' i = g j) {x : SV} {v : Value} (h : RepV w B g x v) : RepV w B' g' (ren1 ρ x) v := by
  by_cases hx : ∃ f caps, x = .fn f caps
  · obtain ⟨f, caps, rfl⟩ := hx
    cases h with
    | fn h1 h2 =>
      have := map_ren (f := ren0 ρ) (fun x v => ren0_rep hB hρ) ⟨h1, h2⟩
      exact .fn this.1 this.2
  · have e : ren1 ρ x = ren0 ρ x := by
      cases x <;> first | rfl | exact absurd ⟨_, _, rfl⟩ hx
    rw [e]; exact ren0_rep hB hρ h

theorem ren2_rep {w : World} {B B' : Nat → Prop} {g g' : Nat → Gh} {ρ : Nat → Option Nat} (hB : ∀ b, B b → B' b) (hρ : ∀ j i, ρ j = some i → g' i = g j) {x : SV} {v : Value} (h : RepV w B g x v) : RepV w B' g' (ren2 ρ x) v := by
  by_cases hx : ∃ l, x = .ag l
  · obtain ⟨l, rfl⟩ := hx
    cases h with
    | ag h1 h2 h3 =>
      have := map_ren (f := ren1 ρ) (fun x v => ren1_rep hB hρ) ⟨h1, h2⟩
      exact .ag this.1 this.2 h3
  · have e : ren2 ρ x = ren1 ρ x := by
      cases x <;> first | rfl | exact absurd ⟨_, rfl⟩ hx
    rw [e]; exact ren1_rep hB hρ h

theorem ren3_rep {w : World} {B B' : Nat → Prop} {g g' : Nat → Gh} {ρ : Nat → Option Nat} (hB : ∀ b, B b → B' b) (hρ : ∀ j i, ρ j = some i → g' i = g j) {x : SV} {v : Value} (h : RepV w B g x v) : RepV w B' g' (ren3 ρ x) v := by
  by_cases hx : ∃ l, x = .tup l
  · obtain ⟨l, rfl⟩ := hx
    cases h with
    | tup h1 h2 =>
      have := map_ren (f := ren2 ρ) (fun x v => ren2_rep hB hρ) ⟨h1, h2⟩
      exact .tup this.1 this.2
  · have e : ren3 ρ x = ren2 ρ x := by
      cases x <;> first | rfl | exact absurd ⟨_, rfl⟩ hx
    rw [e]; exact ren2_rep hB hρ h

theorem place_get : ∀ {keep : List Nat} {j i : Nat}, place keep j = some i → keep[i]? = some j
  | [], _, _, h => by simp [place] at h
  | k :: ks, j, i, h => by
    simp only [place] at h
    split at h
    · rename_i e; subst e; obtain rfl := Option.some.inj h; rfl
    · split at h
      · rename_i i' hi'; obtain rfl := Option.some.inj h; simpa using place_get hi'
      · simp at h

theorem nodup_get : ∀ {keep : List Nat}, nodupB keep = true → ∀ {i k j : Nat}, keep[i]? = some j → keep[k]? = some j → i = k
  | [], _, i, _, _, h, _ => by simp at h
  | x :: xs, hn, i, k, j, hi, hk => by
    simp only [nodupB, Bool.and_eq_true, Bool.not_eq_true'] at hn
    cases i with
    | zero =>
      cases k with
      | zero => rfl
      | succ k =>
        simp at hi hk
        subst hi
        have := List.mem_of_getElem? hk
        have h2 : xs.contains x = true := by simpa using this
        rw [h2] at hn; simp at hn
    | succ i =>
      cases k with
      | zero =>
        simp at hi hk
        subst hk
        have := List.mem_of_getElem? hi
        have h2 : xs.contains x = true := by simpa using this
        rw [h2] at hn; simp at hn
      | succ k =>
        have := nodup_get hn.2 (i := i) (k := k) (j := j) (by simpa using hi) (by simpa using hk)
        omega

theorem okKeep_of {nl : Nat} {l keep : List Nat} (h : okKeep nl l = some keep) : nodupB keep = true ∧ nl ≤ keep.length ∧ ∀ j, j < nl → keep[j]? = some j := by
  unfold okKeep at h
  split at h
  · rename_i hc
    obtain rfl := Option.some.inj h
    simp only [Bool.and_eq_true, beq_iff_eq] at hc
    have hl := congrArg List.length hc.1
    simp at hl
    refine ⟨hc.2, by omega, fun j hj => ?_⟩
    have := congrArg (fun l => l[j]?) hc.1
    simp only [List.getElem?_take, if_pos hj, List.getElem?_range hj] at this
    exact this
  · simp at h

/-- The names' new meaning. -/
def gk (g : Nat → Gh) (keep : List Nat) (i : Nat) : Gh := match keep[i]? with | some j => g j | none => .no

theorem gk_place {g : Nat → Gh} {keep : List Nat} : ∀ j i, place keep j = some i → gk g keep i = g j := fun j i h => by
  unfold gk; rw [place_get h]

theorem getD_some {os : List SO} {j : Nat} {o : SO} (h : os.getD j .dead = o) (ho : o ≠ .dead) : os[j]? = some o := by
  rw [List.getD_eq_getElem?_getD] at h
  cases hj : os[j]? with
  | none => rw [hj] at h; exact absurd h.symm ho
  | some x => rw [hj] at h; simp at h; rw [h]

theorem ren_live {ρ : Nat → Option Nat} (o : SO) : (o.ren ρ).isLive = o.isLive := by cases o <;> rfl

theorem gcO_get {keep : List Nat} {os : List SO} {i : Nat} {o : SO} (h : (gcO keep os)[i]? = some o) : ∃ j, keep[i]? = some j ∧ o = (os.getD j .dead).ren (place keep) := by
  unfold gcO at h
  rw [List.getElem?_map] at h
  obtain ⟨j, hj, rfl⟩ := Option.map_eq_some_iff.1 h
  exact ⟨j, hj, rfl⟩

theorem gc_live {os : List SO} {g : Nat → Gh} {keep : List Nat} {i : Nat} {o : SO} {b : Nat} (h : (gcO keep os)[i]? = some o) (hl : o.isLive = true) (hb : (gk g keep i).block? = some b) :
    ∃ j o', keep[i]? = some j ∧ os[j]? = some o' ∧ o = o'.ren (place keep) ∧ o'.isLive = true ∧ (g j).block? = some b := by
  obtain ⟨j, hj, rfl⟩ := gcO_get h
  rw [ren_live] at hl
  have hd : os.getD j .dead ≠ .dead := fun e => by rw [e] at hl; cases hl
  refine ⟨j, _, hj, getD_some rfl hd, rfl, hl, ?_⟩
  unfold gk at hb
  rw [hj] at hb
  exact hb

theorem ObjOK.ren {w : World} {B B' : Nat → Prop} {g g' : Nat → Gh} {ρ : Nat → Option Nat} (hB : ∀ b, B b → B' b) (hρ : ∀ j i, ρ j = some i → g' i = g j) {j i : Nat} {o : SO} (h : ObjOK w B g j o) (hi : g' i = g j) : ObjOK w B' g' i (o.ren ρ) := by
  cases o with
  | dead => trivial
  | frz sz l =>
    rcases h with ⟨a, b⟩ | ⟨b, cap, vs, h1, h2, h3, h4, h5, h6⟩
    · exact .inl ⟨a, by rw [hi]; exact b⟩
    · exact .inr ⟨b, cap, vs, by rw [hi]; exact h1, h2, hB _ h3, h4.mono hB (fun _ _ => rfl) (fun _ h => absurd rfl h), h5, h6⟩
  | arr lt sz l =>
    rcases h with ⟨a, b⟩ | ⟨b, cap, vs, h1, h2, h3, h4, h5, h6⟩
    · exact .inl ⟨a, by rw [hi]; exact b⟩
    · exact .inr ⟨b, cap, vs, by rw [hi]; exact h1, h2, h3.mono hB (fun _ _ => rfl) (fun _ h => absurd rfl h), h4, h5, h6⟩
  | box l =>
    obtain ⟨b, vs, h1, h2, h3, h4, h5⟩ := h
    exact ⟨b, vs, by rw [hi]; exact h1, map_ren (fun x v => ren1_rep hB hρ) h2, h3, h4, h5⟩

theorem gc_sub {fr : Fr} {os : List SO} {g : Nat → Gh} {w : World} (keep : List Nat) : ∀ b, Bk fr os g w b → Bk fr (gcO keep os) (gk g keep) w b := fun b hb =>
  ⟨hb.1, hb.2.1, fun ⟨i, o, hi, hl, hbl⟩ => by
    obtain ⟨j, o', hj, ho, _, hl', hb'⟩ := gc_live hi hl hbl
    exact hb.2.2 ⟨j, o', ho, hl', hb'⟩⟩

theorem gc_mem {fr : Fr} {os : List SO} {g : Nat → Gh} {w : World} (hm : Mem fr os g w) {keep : List Nat} (hn : nodupB keep = true) : Mem fr (gcO keep os) (gk g keep) w where
  objs i o hi := by
    obtain ⟨j, hj, rfl⟩ := gcO_get hi
    by_cases hd : os.getD j .dead = .dead
    · rw [hd]; trivial
    · exact (hm.objs j _ (getD_some rfl hd)).ren (gc_sub keep) gk_place (by unfold gk; rw [hj])
  fresh i hi := by
    unfold gk
    rw [List.getElem?_eq_none (by simpa [gcO] using hi)]
  inj i k oi ok b hi hk li lk bi bk := by
    obtain ⟨j, o', hj, ho, _, hl, hb⟩ := gc_live hi li bi
    obtain ⟨j', o'', hj', ho', _, hl', hb'⟩ := gc_live hk lk bk
    have := hm.inj j j' o' o'' b ho ho' hl hl' hb hb'
    subst this
    exact nodup_get hn hj hj'
  own b := by
    rintro ⟨i, o, hi, hl, hb⟩
    obtain ⟨j, o', hj, ho, _, hl', hb'⟩ := gc_live hi hl hb
    exact hm.own b ⟨j, o', ho, hl', hb'⟩
  mine i sz l b hi hb := by
    obtain ⟨j, o', hj, ho, e, hl', hb'⟩ := gc_live hi rfl hb
    cases o' with
    | arr lt sz' l' => cases e; exact hm.mine j _ _ b ho hb'
    | _ => cases e
  frame := hm.frame
  size := hm.size
  out := hm.out

theorem look_ren (ρ : Nat → Option Nat) (t : Nat) : ∀ (env : Env), look t (renE ρ env) = ren3 ρ (look t env) := by
  intro env
  induction env with
  | nil => rfl
  | cons p ps ih =>
    simp only [renE, look]
    split
    · rfl
    · exact ih

theorem gc_ok : GcOK P := by
  intro fr g0 nl nt env os a w hi keep hk
  obtain ⟨g, m, hs, ht, hd, hl, h0⟩ := hi
  obtain ⟨k1, k2, k3⟩ := okKeep_of hk
  refine ⟨gk g keep, gc_mem m k1, fun t => ?_, ht, hd, by simpa [gcO] using k2, fun j hj hn => ?_⟩
  · rw [look_ren]
    exact ren3_rep (gc_sub keep) gk_place (hs t)
  · unfold gk; rw [k3 j hj]; exact h0 j hj hn

end Go.Proofs.Ytjfegdlgepbjoaa
