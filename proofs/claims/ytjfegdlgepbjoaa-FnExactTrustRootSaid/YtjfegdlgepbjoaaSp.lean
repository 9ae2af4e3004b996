/- The evaluator S: what is lent to a callee, and what comes back. -/
import Derived.Test.YtjfegdlgepbjoaaSo
namespace Go.Proofs.Ytjfegdlgepbjoaa
open Go
set_option linter.unusedVariables false
set_option linter.unusedSimpArgs false
variable {P : Program} {T : Tab}

def lent (keep : List Nat) (os : List SO) : List SO := (gcO keep os).map SO.lend

theorem lend_live (o : SO) : o.lend.isLive = o.isLive := by cases o <;> rfl

theorem lent_get {keep : List Nat} {os : List SO} {i : Nat} {o : SO} (h : (lent keep os)[i]? = some o) : ∃ j, keep[i]? = some j ∧ o = ((os.getD j .dead).ren (place keep)).lend := by
  unfold lent at h
  rw [List.getElem?_map] at h
  obtain ⟨o', ho, rfl⟩ := Option.map_eq_some_iff.1 h
  obtain ⟨j, hj, rfl⟩ := gcO_get ho
  exact ⟨j, hj, rfl⟩

theorem lent_live {os : List SO} {g : Nat → Gh} {keep : List Nat} {i : Nat} {o : SO} {b : Nat} (h : (lent keep os)[i]? = some o) (hl : o.isLive = true) (hb : (gk g keep i).block? = some b) :
    ∃ j o', keep[i]? = some j ∧ os[j]? = some o' ∧ o'.isLive = true ∧ (g j).block? = some b := by
  obtain ⟨j, hj, rfl⟩ := lent_get h
  rw [lend_live, ren_live] at hl
  have hd : os.getD j .dead ≠ .dead := fun e => by rw [e] at hl; cases hl
  refine ⟨j, _, hj, getD_some rfl hd, hl, ?_⟩
  unfold gk at hb
  rw [hj] at hb
  exact hb

/-- The frame of a callee. -/
def frC (w : World) (A : Nat → Prop) (keep : List Nat) (os : List SO) (g : Nat → Gh) : Fr :=
  { N := w.heap.size, A := A, L := fun b => live (lent keep os) (gk g keep) b, w0 := w }

theorem lent_sub {fr : Fr} {os : List SO} {g : Nat → Gh} {w : World} {keep : List Nat} {A : Nat → Prop} (hA : ∀ b, Bk fr os g w b → A b) :
    ∀ b, Bk fr os g w b → Bk (frC w A keep os g) (lent keep os) (gk g keep) w b := fun b hb =>
  ⟨hb.1, fun _ => hA b hb, fun ⟨i, o, hi, hl, hbl⟩ => by
    obtain ⟨j, o', hj, ho, hl', hb'⟩ := lent_live hi hl hbl
    exact hb.2.2 ⟨j, o', ho, hl', hb'⟩⟩

theorem ObjOK.lend {w : World} {B : Nat → Prop} {g : Nat → Gh} {j : Nat} {o : SO} (h : ObjOK w B g j o) : ObjOK w B g j o.lend := by
  cases o <;> exact h

theorem lent_mem {fr : Fr} {os : List SO} {g : Nat → Gh} {w : World} (hm : Mem fr os g w) {keep : List Nat} (hn : nodupB keep = true) {A : Nat → Prop} (hA : ∀ b, Bk fr os g w b → A b) :
    Mem (frC w A keep os g) (lent keep os) (gk g keep) w where
  objs i o hi := by
    obtain ⟨j, hj, rfl⟩ := lent_get hi
    by_cases hd : os.getD j .dead = .dead
    · rw [hd]; trivial
    · exact ((hm.objs j _ (getD_some rfl hd)).ren (lent_sub hA) gk_place (by unfold gk; rw [hj])).lend
  fresh i hi := by
    unfold gk
    rw [List.getElem?_eq_none (by simpa [lent, gcO] using hi)]
  inj i k oi ok b hi hk li lk bi bk := by
    obtain ⟨j, o', hj, ho, hl, hb⟩ := lent_live hi li bi
    obtain ⟨j', o'', hj', ho', hl', hb'⟩ := lent_live hk lk bk
    have := hm.inj j j' o' o'' b ho ho' hl hl' hb hb'
    subst this
    exact nodup_get hn hj hj'
  own b hb := by
    refine ⟨?_, fun _ => hb⟩
    obtain ⟨i, o, hi, hl, hbl⟩ := hb
    obtain ⟨j, o', hj, ho, hl', hb'⟩ := lent_live hi hl hbl
    exact (hm.own b ⟨j, o', ho, hl', hb'⟩).1
  mine i sz l b hi hb := by
    obtain ⟨j, hj, e⟩ := lent_get hi
    cases h : (os.getD j .dead).ren (place keep) <;> rw [h] at e <;> cases e
  frame b _ _ := rfl
  size := Nat.le_refl _
  out := SameOut.refl _

theorem place_none : ∀ {keep : List Nat} {j : Nat}, place keep j = none → ∀ i : Nat, keep[i]? ≠ some j
  | [], _, _, i, h => by simp at h
  | k :: ks, j, hp, i, h => by
    simp only [place] at hp
    split at hp
    · simp at hp
    · rename_i hne
      split at hp
      · simp at hp
      · rename_i hq
        cases i with
        | zero => simp at h; exact hne h
        | succ i => exact place_none hq i (by simpa using h)

/-- An array that is handed over as a list. -/
theorem snap_rep {fr : Fr} {os : List SO} {g : Nat → Gh} {w : World} (hm : Mem fr os g w) {keep : List Nat} {A : Nat → Prop} (hA : ∀ b, Bk fr os g w b → A b) {x : SV} {v : Value} {j sz : Nat} {l : List SV}
    (hx : RepV w (Bk fr os g w) g x v) (he : elems os x = some (sz, l)) (hj : x = .osl j ∨ ∃ lo hi, x = .vw j lo hi) (hk : ∀ i : Nat, keep[i]? ≠ some j) (hs : ∀ lt sz l b, os[j]? = some (.arr lt sz l) → (g j).block? = some b → A b) :
    RepV w (Bk (frC w A keep os g) (lent keep os) (gk g keep) w) (gk g keep) (.sl sz l) v := by
  have hBk : ∀ lt sz l b, os[j]? = some (.arr lt sz l) → (g j).block? = some b → Bk (frC w A keep os g) (lent keep os) (gk g keep) w b := by
    intro lt sz l b h1 h2
    refine ⟨(hm.own b ⟨j, _, h1, rfl, h2⟩).1, fun _ => hs lt sz l b h1 h2, ?_⟩
    rintro ⟨i, o, hi, hl, hb⟩
    obtain ⟨j', o', hj', ho', hl', hb'⟩ := lent_live hi hl hb
    have := hm.inj j' j o' _ b ho' h1 hl' rfl hb' h2
    subst this
    exact hk i hj'
  obtain ⟨a, c, rfl, hlc, hr⟩ := elems_rep hm hx he
  rcases hr with rfl | ⟨b, o, vs, rfl, h1, h2, h3⟩
  · exact .sl0
  · by_cases hl0 : l = []
    · subst hl0; exact .sl0
    have hb : Bk (frC w A keep os g) (lent keep os) (gk g keep) w b := by
      have hcase : ∀ sz' n cap, g j = .blk b sz' n cap → Bk (frC w A keep os g) (lent keep os) (gk g keep) w b := by
        intro sz' n cap hg
        unfold elems at he
        have hget : ∃ q, os[j]? = some q ∧ ((∃ lt l', q = .arr lt sz l') ∨ ∃ l', q = .frz sz l') := by
          rcases hj with rfl | ⟨lo, hi, rfl⟩
          · simp only at he
            split at he
            · rename_i lt sz' l' hq; obtain ⟨rfl, rfl⟩ := Prod.mk.inj (Option.some.inj he); exact ⟨_, hq, .inl ⟨_, _, rfl⟩⟩
            · rename_i sz' l' hq; obtain ⟨rfl, rfl⟩ := Prod.mk.inj (Option.some.inj he); exact ⟨_, hq, .inr ⟨_, rfl⟩⟩
            · simp at he
          · simp only at he
            split at he
            · rename_i lt sz' l' hq
              split at he
              · obtain ⟨rfl, rfl⟩ := Prod.mk.inj (Option.some.inj he); exact ⟨_, hq, .inl ⟨_, _, rfl⟩⟩
              · simp at he
            · rename_i sz' l' hq
              split at he
              · obtain ⟨rfl, rfl⟩ := Prod.mk.inj (Option.some.inj he); exact ⟨_, hq, .inr ⟨_, rfl⟩⟩
              · simp at he
            · simp at he
        obtain ⟨q, hq, hq'⟩ := hget
        rcases hq' with ⟨lt, l', rfl⟩ | ⟨l', rfl⟩
        · exact hBk lt sz l' b hq (by rw [hg]; rfl)
        · rcases hm.objs _ _ hq with ⟨_, hn⟩ | ⟨b', cap', vs', e1, e2, e3, _⟩
          · rw [hg] at hn; cases hn
          · rw [hg] at e1; cases e1; exact lent_sub hA b e3
      rcases hj with rfl | ⟨lo, hi, rfl⟩
      · cases hx with
        | osl hg => exact hcase _ _ _ hg
      · generalize hv : (Value.slice (some ⟨b, o, none⟩) l.length c) = vv at hx
        cases hx with
        | vw0 =>
          injection hv with h1 h2 h3
          have hz : l.length = 0 := h2
          exact absurd (List.length_eq_zero_iff.1 hz) hl0
        | vw hg _ _ _ =>
          injection hv with h1 h2 h3
          injection h1 with h1
          injection h1 with h1 _ _
          subst h1
          exact hcase _ _ _ hg
    have := h1.mono (lent_sub (keep := keep) hA) (fun _ _ => rfl) (g' := G0) (fun _ h => absurd rfl h)
    exact .sl this.1 this.2 h2 h3 hb hlc

/-- An argument as the callee reads it. -/
theorem argCell_rep {fr : Fr} {os : List SO} {g : Nat → Gh} {w : World} (hm : Mem fr os g w) {keep : List Nat} {A : Nat → Prop} (hA : ∀ b, Bk fr os g w b → A b) {x y : SV} {v : Value}
    (hx : RepV w (Bk fr os g w) g x v) (h : argCell os keep x = some y) (hs : ∀ j, (x = .osl j ∨ ∃ lo hi, x = .vw j lo hi) → (∀ i : Nat, keep[i]? ≠ some j) → ∀ lt sz l b, os[j]? = some (.arr lt sz l) → (g j).block? = some b → A b) :
    RepV w (Bk (frC w A keep os g) (lent keep os) (gk g keep) w) (gk g keep) y v := by
  have hsub := lent_sub (keep := keep) hA
  unfold argCell at h
  split at h
  · obtain rfl := Option.some.inj h; cases hx with | v hv => exact .v hv
  · obtain rfl := Option.some.inj h; exact ren0_rep (x := .sl _ _) hsub gk_place hx
  · obtain rfl := Option.some.inj h; exact ren0_rep (x := .el _ _) hsub gk_place hx
  · rename_i j o
    split at h
    · rename_i i hi
      obtain rfl := Option.some.inj h
      cases hx with | ptr hp => exact .ptr (by rw [gk_place j i hi]; exact hp)
    · simp at h
  · rename_i j i o
    split at h
    · rename_i k hk
      obtain rfl := Option.some.inj h
      cases hx with | ap hp => exact .ap (by rw [gk_place j k hk]; exact hp)
    · simp at h
  · rename_i f caps
    obtain rfl := Option.some.inj h
    exact ren1_rep (x := .fn f caps) hsub gk_place hx
  · rename_i j
    split at h
    · rename_i i hi
      obtain rfl := Option.some.inj h
      cases hx with
      | osl0 hp => exact .osl0 (by rw [gk_place j i hi]; exact hp)
      | osl hp => exact .osl (by rw [gk_place j i hi]; exact hp)
    · rename_i hi
      split at h
      · rename_i p hp
        obtain rfl := Option.some.inj h
        exact snap_rep hm hA hx hp (.inl rfl) (place_none hi) (hs j (.inl rfl) (place_none hi))
      · simp at h
  · rename_i j lo hh
    split at h
    · simp at h
    · rename_i hi
      split at h
      · rename_i p hp
        obtain rfl := Option.some.inj h
        exact snap_rep hm hA hx hp (.inr ⟨lo, hh, rfl⟩) (place_none hi) (hs j (.inr ⟨lo, hh, rfl⟩) (place_none hi))
      · simp at h
  · simp at h

theorem argCells_rep {fr : Fr} {os : List SO} {g : Nat → Gh} {w : World} (hm : Mem fr os g w) {keep : List Nat} {A : Nat → Prop} (hA : ∀ b, Bk fr os g w b → A b) : ∀ (xs : List SV) {ys : List SV} {vs : List Value},
    RepL w (Bk fr os g w) g xs vs → argCells os keep xs = some ys →
    (∀ x, x ∈ xs → ∀ j, (x = .osl j ∨ ∃ lo hi, x = .vw j lo hi) → (∀ i : Nat, keep[i]? ≠ some j) → ∀ lt sz l b, os[j]? = some (.arr lt sz l) → (g j).block? = some b → A b) →
    RepL w (Bk (frC w A keep os g) (lent keep os) (gk g keep) w) (gk g keep) ys vs := by
  intro xs
  induction xs with
  | nil =>
    intro ys vs hl h hs
    simp only [argCells, Option.some.injEq] at h
    subst h
    have := hl.1
    cases vs with
    | nil => exact RepL.nil
    | cons => simp at this
  | cons x xs ih =>
    intro ys vs hl h hs
    obtain ⟨v, vs', rfl, hv, hl'⟩ := hl.uncons
    simp only [argCells] at h
    split at h
    · rename_i y ys' hy hys
      obtain rfl := Option.some.inj h
      exact RepL.cons (argCell_rep hm hA hv hy (hs x (by simp))) (ih hl' hys fun z hz => hs z (by simp [hz]))
    · simp at h

theorem argV_rep {fr : Fr} {os : List SO} {g : Nat → Gh} {w : World} (hm : Mem fr os g w) {keep : List Nat} {A : Nat → Prop} (hA : ∀ b, Bk fr os g w b → A b) {x y : SV} {v : Value}
    (hx : RepV w (Bk fr os g w) g x v) (h : argV os keep x = some y) (hs : ∀ z, z ∈ x.cells → ∀ j, (z = .osl j ∨ ∃ lo hi, z = .vw j lo hi) → (∀ i : Nat, keep[i]? ≠ some j) → ∀ lt sz l b, os[j]? = some (.arr lt sz l) → (g j).block? = some b → A b) :
    RepV w (Bk (frC w A keep os g) (lent keep os) (gk g keep) w) (gk g keep) y v := by
  unfold argV at h
  split at h
  · rename_i l
    split at h
    · rename_i ys hys
      obtain rfl := Option.some.inj h
      cases hx with
      | ag h1 h2 h3 =>
        have := argCells_rep hm hA l ⟨h1, h2⟩ hys hs
        exact .ag this.1 this.2 h3
    · simp at h
  · rename_i hna
    have e : x.cells = [x] := by cases x <;> first | rfl | exact absurd rfl (hna _)
    exact argCell_rep hm hA hx h (hs x (by rw [e]; simp))

theorem argVs_rep {fr : Fr} {os : List SO} {g : Nat → Gh} {w : World} (hm : Mem fr os g w) {keep : List Nat} {A : Nat → Prop} (hA : ∀ b, Bk fr os g w b → A b) : ∀ (xs : List SV) {ys : List SV} {vs : List Value},
    RepL w (Bk fr os g w) g xs vs → argVs os keep xs = some ys →
    (∀ x, x ∈ xs → ∀ z, z ∈ x.cells → ∀ j, (z = .osl j ∨ ∃ lo hi, z = .vw j lo hi) → (∀ i : Nat, keep[i]? ≠ some j) → ∀ lt sz l b, os[j]? = some (.arr lt sz l) → (g j).block? = some b → A b) →
    RepL w (Bk (frC w A keep os g) (lent keep os) (gk g keep) w) (gk g keep) ys vs := by
  intro xs
  induction xs with
  | nil =>
    intro ys vs hl h hs
    simp only [argVs, Option.some.injEq] at h
    subst h
    have := hl.1
    cases vs with
    | nil => exact RepL.nil
    | cons => simp at this
  | cons x xs ih =>
    intro ys vs hl h hs
    obtain ⟨v, vs', rfl, hv, hl'⟩ := hl.uncons
    simp only [argVs] at h
    split at h
    · rename_i y ys' hy hys
      obtain rfl := Option.some.inj h
      exact RepL.cons (argV_rep hm hA hv hy (hs x (by simp))) (ih hl' hys fun z hz => hs z (by simp [hz]))
    · simp at h

end Go.Proofs.Ytjfegdlgepbjoaa
